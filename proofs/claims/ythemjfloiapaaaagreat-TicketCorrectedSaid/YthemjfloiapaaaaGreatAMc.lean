/- A region whose order is drawn: whatever the order, it ends as the canonical one. Calls in the caller's heap, loops unrolled, loops over functions. A call of yield: a round of the loop. The small machine, run. The way in: what an argument reads as is data of the machine. States that stand for as much, in general: names may change, nil slices may stand for empty lists, blocks that nobody reads are forgotten. The small machine's code as a function: tests, needs and calls stay open, all else is reckoned. Patterns: what stands in slots and blocks, with places for data; read out of a state, and laid again. Code that is the same, as a test. What is read by a pattern stands for what was there. Loops and functions, as functions of their data. -/
import Derived.Test.YthemjfloiapaaaaGreatAMb
import Derived.OrdersIn
import Derived.ProofKit
import Derived.OpenShut
import Derived.Maps.RangeRun
set_option linter.unusedSectionVars false
set_option linter.unusedVariables false
set_option linter.unusedSimpArgs false
section
namespace Go.AM
section
variable {P:Program} {N:Nat} {Y:Ctx} {ι ι':ai} {μ μ':Mu} {H:aF} {w w':World} {out:Option Nat} {base:Nat} {ops:Array Oper}
def lT (acc:Array Nat) (o:Oper):Array Nat:=acc.push (o.after.foldl (fun s e=>if Region.binds .any e then s ||| 2 ^ e.on ||| acc.getD e.on 0 else s) 0)
theorem zI:Region.before ops=ops.toList.foldl lT #[]:=by
 unfold Region.before
 rw [←Array.foldl_toList];rfl
theorem wL {acc:Array Nat} {j:Nat}:∀{l:List Edge} {s:Nat},(l.foldl (fun s e=>if Region.binds .any e then s ||| 2 ^ e.on ||| acc.getD e.on 0 else s) s).testBit j=true →
  s.testBit j=true∨∃e∈l,Region.binds .any e=true∧(j=e.on∨(acc.getD e.on 0).testBit j=true)
 |[],s,h=>.inl h
 |e::r,s,h=>by
  simp only [List.foldl_cons] at h
  rcases wL h with h1|⟨e',he',h2⟩
  ·split at h1
   ·rename_i hb
    simp only [Nat.testBit_or,Bool.or_eq_true,Nat.testBit_two_pow,decide_eq_true_eq] at h1
    rcases h1 with (h1|h1)|h1
    ·exact .inl h1
    ·exact .inr ⟨e,List.mem_cons_self ..,hb,.inl h1.symm⟩
    ·exact .inr ⟨e,List.mem_cons_self ..,hb,.inr h1⟩
   ·exact .inl h1
  ·exact .inr ⟨e',List.mem_cons_of_mem _ he',h2⟩
theorem wM : ∀ (l : List Oper) (acc : Array Nat), (l.foldl lT acc).size = acc.size + l.length
 |[],acc=>by simp
 |o::r,acc=>by simp only [List.foldl_cons,wM r,lT,Array.size_push,List.length_cons];omega
theorem wN {j:Nat}:∀(l:List Oper) (acc:Array Nat) (pre:List Oper),acc.size=pre.length →
  (∀i,(acc.getD i 0).testBit j=true→∃o,pre[i]?=some o∧∃e∈o.after,Region.binds .any e=true∧(j=e.on∨(acc.getD e.on 0).testBit j=true)) →
  ∀i,((l.foldl lT acc).getD i 0).testBit j=true→∃o,(pre++l)[i]?=some o∧∃e∈o.after,Region.binds .any e=true∧(j=e.on∨((l.foldl lT acc).getD e.on 0).testBit j=true)
 |[],acc,pre,hs,h,i,hi=>by simpa using h i hi
 |o::r,acc,pre,hs,h,i,hi=>by
  have:=wN r (lT acc o) (pre++[o]) (by simp [lT,hs]) (fun i hi=>?_) i hi
  ·simpa using this
  ·have keep:∀k,(acc.getD k 0).testBit j=true→((lT acc o).getD k 0).testBit j=true:=fun k hk=>by
    have hlt:k<acc.size:=by
     rcases Nat.lt_or_ge k acc.size with h|h
     ·exact h
     ·simp [Array.getD,Nat.not_lt.2 h] at hk
    simpa [lT,Array.getD,hlt,Array.getElem_push,Nat.lt_succ_of_lt hlt] using (by simpa [Array.getD,hlt] using hk:acc[k].testBit j=true)
   by_cases hlt:i<acc.size
   ·have hi':(acc.getD i 0).testBit j=true:=by
     simpa [lT,Array.getD,hlt,Array.getElem_push,Nat.lt_succ_of_lt hlt] using hi
    obtain ⟨o',ho',e,he,hb,hj⟩:=h i hi'
    exact ⟨o',by rw [List.getElem?_append_left (List.getElem?_eq_some_iff.1 ho').1];exact ho',e,he,hb,hj.imp id (keep _)⟩
   ·by_cases heq : i = acc.size
    ·subst heq
     have hi':(o.after.foldl (fun s e=>if Region.binds .any e then s ||| 2 ^ e.on ||| acc.getD e.on 0 else s) 0).testBit j=true:=by
      simpa [lT,Array.getD,Array.getElem_push] using hi
     rw [←Array.foldl_toList] at hi'
     rcases wL hi' with h1|⟨e,he,hb,hj⟩
     ·simp at h1
     ·exact ⟨o,by rw [hs];simp,e,by simpa using he,hb,hj.imp id (keep _)⟩
    ·have : ¬ i < (lT acc o).size := by simp [lT]; omega
     simp [Array.getD,this] at hi
theorem nY {i j:Nat} (h:((Region.before ops).getD i 0).testBit j=true) :
  ∃o,ops[i]?=some o∧∃e∈o.after,Region.binds .any e=true∧(j=e.on∨((Region.before ops).getD e.on 0).testBit j=true):=by
 rw [zI] at h ⊢
 obtain ⟨o,ho,h⟩:=wN (j:=j) ops.toList #[] [] rfl (fun i hi=>by simp at hi) i h
 exact ⟨o,by simpa using ho,h⟩
theorem nZ:(Region.before ops).size=ops.size:=by rw [zI,wM];simp
theorem jP {i j:Nat}:j∈(bJ ops).getD i []↔j<ops.size∧((Region.before ops).getD i 0).testBit j=true:=by
 unfold bJ
 simp only [List.getD,List.getElem?_map]
 by_cases hi:i<ops.size
 ·have h:(Region.before ops).toList[i]?=some ((Region.before ops).getD i 0):=by
   have:i<(Region.before ops).size:=by rw [nZ];exact hi
   simp [Array.getD,this]
  simp [h,List.mem_filter,List.mem_range]
 ·have h1 : (Region.before ops).toList[i]? = none := List.getElem?_eq_none (by simp [nZ]; omega)
  have h2:(Region.before ops).getD i 0=0:=by simp [Array.getD,nZ,hi]
  simp [h1,h2]
theorem gm : ∀ {os : List Oper} {is : List eL}, dX P N ops os = some is → is.length = os.length ∧ ∀ (k : Nat) o it, os[k]? = some o → is[k]? = some it → pL P N ops o = some it
 |[],is,h=>by cases h;exact ⟨rfl,fun k o it h=>by simp at h⟩
 |o::os,is,h=>by
  unfold dX at h
  split at h<;>try (cases h;done)
  rename_i it its hit LP
  cases h
  obtain ⟨h1,h2⟩:=gm LP
  refine ⟨by simp [h1],fun k o' it' ho hi=>?_⟩
  cases k with
  |zero=>simp at ho hi;subst ho;subst hi;exact hit
  |succ k=>exact h2 k o' it' (by simpa using ho) (by simpa using hi)
theorem Inv.sW (h:Inv P Y ι μ H w) {n:Nat} (hn:H.next≤n):Inv P Y ι μ ⟨n,H.bl⟩ w :=
 ⟨h.below,h.i0,h.iB,h.rd,h.m0,fun id hid=>h.nx id (Nat.le_trans hn hid),h.live,h.inj,fun id B hB=>Nat.lt_of_lt_of_le (h.lt id B hB) hn,h.gl⟩
theorem Inv.eqB (h:Inv P Y ι μ H w) {bl:ah} (he:Ug bl H.bl):Inv P Y ι μ ⟨H.next,bl⟩ w :=
 ⟨h.below,h.i0,h.iB,h.rd,h.m0,h.nx,fun id B hB=>h.live id B (by rw [←he id];exact hB),fun id id' B B' L L' hb hb'=>h.inj id id' B B' L L' (by rw [←he id];exact hb) (by rw [←he id'];exact hb'),
  fun id B hB=>h.lt id B (by rw [←he id];exact hB),h.gl⟩
theorem dK.LW {B:Nat→Prop} {id:Nat} {b:kP} (h:dK P B ι μ id w b) (hw:w'.heap=w.heap):dK P B ι μ id w' b:=by
 cases b with
 |cells cs fz=>obtain ⟨L,vs,hM,h⟩:=h;exact ⟨L,vs,⟨hM.mu,hM.old,by rw [hw];exact hM.row,hM.fits,hM.one,hM.CC,hM.pM⟩,h⟩
 |arr t xs fz =>
  rcases h with h|⟨L,vs,hM,h⟩
  ·exact .inl h
  ·exact .inr ⟨L,vs,⟨hM.mu,hM.old,by rw [hw];exact hM.row,hM.fits,hM.one,hM.CC,hM.pM⟩,h⟩
 |loop st j d env ps as bd N=>unfold dK at h ⊢;rw [hw];exact h
 |ig=>unfold dK at h ⊢;rw [hw];exact h
 |map kt kg vt vg es=>unfold dK at h ⊢;rw [hw];exact h
 |mz t xs i p v =>
  obtain ⟨L,us,vs,c,hM,h⟩:=h
  exact ⟨L,us,vs,c,⟨hM.mu,hM.old,by rw [hw];exact hM.row,hM.fits,hM.one,hM.CC,hM.pM⟩,h⟩
theorem Inv.drawn (h:Inv P Y ι μ H w):Inv P Y ι μ H { w with drawn:=w.drawn+1 } :=
 ⟨⟨h.below.os,h.below.tape,h.below.output,h.below.size,h.below.block,Nat.le_succ_of_le h.below.dr,h.below.maps⟩,h.i0,h.iB,h.rd,h.m0,h.nx,fun id B hB=>(h.live id B hB).LW rfl,h.inj,h.lt,h.gl⟩
theorem Inv.called (hI:Inv P Y ι μ H w) (hi:ι.le ι') (hib:∀b o,b<w.heap.size→ι' b o=ι b o) (hrd:dm ι' w') (jF:Dw w w'):Inv P Y ι' μ H w':=by
 have hsz:=hI.below.size
 refine ⟨hI.below.then jF,ai.le_trans hI.i0 hi,fun b o hb hx=>by rw [hib b o (by omega)];exact hI.iB b o hb hx,hrd,hI.m0,hI.nx,fun id B hB=>?_,hI.inj,hI.lt,hI.gl⟩
 have kW:=hI.live id B hB
 refine kW.mono hi (Mu.le_refl _) (fun h=>h) (fun L hL=>jF.b.block _ (kW.loc hL).2) (fun L hL ho o=>?_)
 rw [hib _ _ (kW.loc hL).2];exact ho o
theorem dm.kept (h:dm ι w) (jF:Dw w w'):dm ι w':=fun b o x hx=>by
 have h1:=h b o x hx
 have hlt:b<w.heap.size:=by
  rcases Nat.lt_or_ge b w.heap.size with h'|h'
  ·exact h'
  ·simp [World.cell?,Array.getElem?_eq_none h'] at h1
 unfold World.cell? at h1 ⊢
 simp only at h1 ⊢
 rw [jF.b.block b hlt];exact h1
theorem zJ {v:V} {x:Value} (h:GV v=true) (hr:Rel ι μ v x):Rel ι' μ' v x:=by
 cases hr<;>simp only [GV] at h<;>try (cases h;done)
 case tf=>exact .tf _
 case bool=>exact .bool _
 case int=>exact .int _ _
 case str=>exact .str _
theorem Ju {v:V} {x:Value} (h:Lt v=true) (hr:Rel ι μ v x):Rel ι' μ' v x:=by
 cases hr<;>simp only [Lt] at h<;>try (cases h;done)
 case tf=>exact .tf _
 case bool=>exact .bool _
 case int=>exact .int _ _
 case str=>exact .str _
 case agg cs xs h1 h2 h3=>exact .agg cs xs h1 (fun i v x hv hx=>zJ (List.all_eq_true.1 h _ (List.mem_of_getElem? hv)) (h2 i v x hv hx)) h3
theorem C8 {v:V} {x:Value} (h:CA v=true) (hr:Rel ι μ v x):Rel ι' μ' v x:=by
 cases hr<;>simp only [CA] at h<;>try (cases h;done)
 case tf=>exact .tf _
 case bool=>exact .bool _
 case int=>exact .int _ _
 case str=>exact .str _
 case agg cs xs h1 h2 h3=>exact .agg cs xs h1 (fun i v x hv hx=>zJ (List.all_eq_true.1 h _ (List.mem_of_getElem? hv)) (h2 i v x hv hx)) h3
 case cI cs xs h1 h2=>exact .cI cs xs h1 fun i v x hv hx=>Ju (List.all_eq_true.1 h _ (List.mem_of_getElem? hv)) (h2 i v x hv hx)
theorem A9 {g : V → Option V} : ∀ {vs : List V}, (∀ v ∈ vs, g v = some v) → dg g vs = some vs
 |[],_=>rfl
 |v::r,h=>by simp only [dg,h v (List.mem_cons_self ..),A9 (vs:=r) (fun v hv=>h v (List.mem_cons_of_mem _ hv))]
theorem wO {ar : Ar} {bl : ah} : ∀ {n : Nat} {v : V}, dJ n v = true → fin ar bl n v = some v
 |0,v,h=>by cases h
 |n+1,v,h=>by
  have all:∀{cs:List V},cs.all (dJ n)=true→dg (fin ar bl n) cs=some cs:=fun h=>A9 fun v hv=>wO (List.all_eq_true.1 h v hv)
  cases v<;>simp only [dJ] at h<;>try (cases h;done)
  case ff cs=>simp only [fin,h,if_true]
  case fn f a b=>simp only [Bool.and_eq_true] at h;simp only [fin,all h.1,all h.2]
  case agg cs=>simp only [fin,all h]
  case cI cs=>simp only [fin,all h]
  case cq t v=>simp only [fin,wO h]
  all_goals rfl
theorem uZ {v0 v:V} {x:Value} (h:vOk v0 v) (hr:Rel ι μ v0 x):Rel ι μ v x:=by
 rcases h with rfl|⟨c,rfl,rfl⟩
 ·exact hr
 ·cases hr;exact .tf _
theorem sX {S:List (Nat×V)} {a:Act} (he:eo ι μ S a.tmps) {o:Oper} {g:Option (Nat×Bool)} (hg:Zx ops o.guard=some g) {c:Bool} (h:GW g S=some c):Region.wanted o (yielded ops a.tmps)=c:=by
 cases LO:o.guard with
 |none=>rw [LO] at hg;cases hg;cases h;simp [Region.wanted,LO]
 |some jb =>
  obtain ⟨j,b⟩:=jb
  rw [LO] at hg
  simp only [Zx] at hg
  split at hg<;>try (cases hg;done)
  rename_i oj hoj
  split at hg<;>try (cases hg;done)
  rename_i d hdj
  cases hg
  simp only [GW] at h
  split at h<;>try (cases h;done)
  rotate_left
  ·rename_i vs hc
   cases h
   simp only [Region.wanted,LO,tT he hoj hdj hc]
   rfl
  rename_i c' hc
  simp only [Region.wanted,LO,wk he hoj hdj (.inl hc)]
  revert h
  cases c'<;>cases b<;>intro h<;>cases h<;>rfl
theorem Hv {b n : Nat} {t : TR} {env : List (Nat × V)} {bl : ah} {ms : List Nat} {a : Act} (hn : t.k < n) {o : Oper} (ho : ops[t.k]? = some o) (hit : pL P N ops o = some t.it)
  (LX:En (fI P N out base) b t env bl) (hR:eF P N Y ι μ ⟨env,⟨b+n,bl⟩,ms⟩ a w) (hfree:μ (b+t.k)=none) {Q:Exit→Act→World→Prop} {K:Act→World→Prop}
  (hK:∀ι' μ' a' w',eF P N Y ι' μ' ⟨t.LU env,⟨b+n,t.Js bl⟩,ms⟩ a' w'→(∀id,id≠b+t.k→μ' id=μ id)→K a' w'):wpOpIn Y.F 0 P ops Q t.k K a w:=by
 obtain ⟨k,it,ac,rd⟩:=t
 simp only at hn ho hit hfree hK
 unfold pL at hit
 split at hit<;>try (cases hit;done)
 rename_i hd
 split at hit<;>try (cases hit;done)
 rename_i g hg
 have hgrd:it.VN=g∧it.dst=o.dst:=by
  split at hit<;>(split at hit<;>try (cases hit;done))<;>(cases hit;exact ⟨rfl,rfl⟩)
 unfold wpOpIn
 simp only [ho]
 unfold En at LX
 cases ac with
 |skip =>
  simp only at LX
  rw [hgrd.1] at LX
  rw [if_neg (by rw [sX hR.env hg LX.1];simp)]
  refine ⟨fun _ _=>trivial,hK ι μ _ _ ?_ fun _ _=>rfl⟩
  have:=hR.put hd (ai.le_refl _) (Mu.le_refl _) hR.inv Rel.und
  simpa [TR.LU,TR.Js,hgrd.2,Ac.val,Ac.PO,bw] using this
 |op v u =>
  split at hit
  ·split at hit <;> try (cases hit; done)
   cases hit;exact LX.elim
  ·split at hit <;> try (cases hit; done)
   cases hit;exact LX.elim
  ·rename_i op _ _
   split at hit<;>try (cases hit;done)
   rename_i i hi
   cases hit
   obtain ⟨Hg,ob,v0,ag,cV,hv,_⟩:=LX
   have hw:=sX hR.env hg Hg
   rw [if_pos hw]
   have hop:Lz P Y ι μ ⟨b+n,bl⟩ w (b+k) (execOp a.eval o) v0 u i.lays:=by
    rcases ag with ag|ag
    ·exact zD hR.inv hfree hR.env hi ag cV
    ·exact zF hR.inv hfree hR.env hi ag cV
   obtain ⟨ι',μ',x,w',hx,hi',hm,hne,hinv,Fk⟩:=hop
   refine ⟨fun _ _=>trivial,?_⟩
   rw [Oper.semAt_eq _ _ _ (lS hi)]
   have Hw:fD i.lays (b+n) (b+k)=b+n:=by unfold fD;cases i.lays<;>simp<;>omega
   have lH:eF P N Y ι' μ' ⟨AM.put o.dst v env,⟨b+n,bw u bl⟩,ms⟩ (a.put o.dst x) w':=by
    refine hR.put hd hi' hm ?_ (uZ hv Fk)
    have:=hinv;simp only [Hw] at this;exact this
   rcases hx with h|⟨h,rfl⟩<;>rw [h]<;>exact hK _ _ _ _ lH hne
 |call v u =>
  obtain ⟨c,args,tys,fo,as,hop,hf,ha,rfl⟩:∃(c:Callee) (args:Array Operand) (tys:Array TypeId) (fo:O) (as:List O),o.op = .call { callee:=c,args:=args,argTypes:=tys }∧mD P c=some fo∧vJ args.toList=some as∧it = .call o.dst g fo as (iP P fo tys):=by
   split at hit
   ·rename_i f args tys hop
    split at hit<;>try (cases hit;done)
    rename_i fo as hf ha
    cases hit
    exact ⟨.value f,args,tys,fo,as,hop,hf,ha,rfl⟩
   ·rename_i r name args tys hop
    split at hit<;>try (cases hit;done)
    rename_i fo as hf ha
    cases hit
    exact ⟨.invoke r name,args,tys,fo,as,hop,hf,ha,rfl⟩
   ·split at hit <;> try (cases hit; done)
    cases hit;exact LX.elim
  obtain ⟨Hg,fid,fs,cs,vs',v0,oT,hmo,hp,hs,hv,_⟩:=LX
  have hw:=sX hR.env hg Hg
  rw [if_pos hw]
  refine ⟨fun _ _=>trivial,?_⟩
  rw [Oper.semAt_eq _ _ _ (by rw [hop];simp)]
  have ra:=jV hR.env ha
  obtain ⟨cD,gO⟩:=hp
  obtain ⟨xs,ys,r1,r2,hrun⟩:=C2 hop hf hR.env oT cD
  rw [hrun]
  have rl:aG ι μ (fs++cO (iP P fo tys) (as.map (·.ev env))++cs) (xs++args.map a.eval++ys).toList:=by
   have:=(r1.append (lN (ts:=iP P fo tys) ra)).append r2
   simpa using this
  refine ⟨fun h=>by simp [Ctx.F,Fence.wide] at h,?_⟩
  rcases Bool.eq_false_or_eq_true (CA v0||(fs++cO (iP P fo tys) (as.map (·.ev env))++cs).all (dJ 8)) with hb|hb
  rotate_left
  ·rw [hb] at hs
   obtain ⟨ι2,i1,i2,i3⟩:=uY hR.inv (A8 hs)
   have hmo':dg (fin ew bl 8) (fs++cO (iP P fo tys) (as.map (·.ev env))++cs)=some vs':=(mP (fun v=>by unfold fI;exact wK.symm) _).trans hmo
   refine CallsIn.mono (F:=Y.F) (gO ι2 w _ i2.dy (fun b o x hx=>i2.rd b o x hx) (Qw i1 hmo' i3 rl)) ?_
   rintro e w' ⟨v',ι',rfl,hi,hib,hrd,jF,Fk⟩
   have hinv':Inv P Y ι' μ ⟨b+n,bw u bl⟩ w':=i2.called hi hib hrd jF
   exact hK _ _ _ _ (hR.put hd (ai.le_trans i1 hi) (Mu.le_refl _) hinv' (uZ hv (Fk.mono (ai.le_refl _) (fun _ _ h=>by cases h)))) fun _ _=>rfl
  rw [hb] at hs
  cases hs
  replace hs:=hb
  rw [Bool.or_eq_true] at hs
  rcases hs with hs|hs
  ·refine CallsIn.mono (F := Y.F) (gO (ι.all Y.own w) w _ (hR.inv.dy.mono (ai.A4 hR.inv.rd)) (fun b o x hx => ?_) (iZ (fun v r x h hr => uW (fun _ _ _ => rfl) hR.inv h hr) hmo rl)) ?_
   ·exact ai.Fo hR.inv.rd hx
   ·rintro e w' ⟨v', ι', rfl, _, _, _, jF, Fk⟩
    have hinv':Inv P Y ι μ ⟨b+n,bl⟩ w':=hR.inv.called (ai.le_refl _) (fun _ _ _=>rfl) (dm.kept (fun b o x hx=>hR.inv.rd b o x hx) jF) jF
    exact hK _ _ _ _ (hR.put hd (ai.le_refl _) (Mu.le_refl _) hinv' (uZ hv (C8 hs Fk))) fun _ _=>rfl
  ·have hid:dg (fin (fI P N out base) bl 8) (fs++cO (iP P fo tys) (as.map (·.ev env))++cs)=some (fs++cO (iP P fo tys) (as.map (·.ev env))++cs) :=
    A9 fun v hv=>wO (List.all_eq_true.1 hs v hv)
   rw [hid] at hmo;cases hmo
   have rl':aG ι (fun _=>none) (fs++cO (iP P fo tys) (as.map (·.ev env))++cs) (xs++args.map a.eval++ys).toList :=
    ⟨rl.1,fun i v x hv hx=>dD (List.all_eq_true.1 hs _ (List.mem_of_getElem? hv)) (rl.2 i v x hv hx)⟩
   refine CallsIn.mono (F:=Y.F) (gO ι w _ hR.inv.dy (fun b o x hx=>hR.inv.rd b o x hx) rl') ?_
   rintro e w' ⟨v',ι',rfl,hi,hib,hrd,jF,Fk⟩
   have hinv':Inv P Y ι' μ ⟨b+n,bl⟩ w':=hR.inv.called hi hib hrd jF
   exact hK _ _ _ _ (hR.put hd hi (Mu.le_refl _) hinv' (uZ hv (Fk.mono (ai.le_refl _) (fun _ _ h=>by cases h)))) fun _ _=>rfl
structure Good (ops:Array Oper) (m:Nat) (is:List eL) (R:List TR) (listed:Array Bool):Prop where
 sz:listed.size=ops.size
 mem:∀t∈R,t.k<m∧is[t.k]?=some t.it∧listed.getD t.k true=false
 cov:∀i,i<m→listed.getD i true=false→∃t∈R,t.k=i
 ZK:R.Pairwise (fun a b=>a.k<b.k)
 dr:R.Pairwise (DrP (bJ ops))
 ZL:∀i,listed.getD i false=true→∀j∈(bJ ops).getD i [],listed.getD j false=true
 le:m≤ops.size
 tl:∀i,m≤i→i<ops.size→listed.getD i true=false
theorem Ba {l:Array Bool} {i:Nat} (h:l.getD i true=false):l.getD i false=false∧i<l.size:=by
 rcases Nat.lt_or_ge i l.size with h'|h'
 ·simp [h'] at h ⊢;exact h
 ·simp [Array.getElem?_eq_none h'] at h
theorem mQ {l:Array Bool} {i:Nat} (h:i<l.size) (d d':Bool):l.getD i d=l.getD i d':=by simp [h]
theorem Bb {cS:List (List Nat)} {is:List eL} (h:qM cS is=true) {i j:Nat} (hij:i<j) {a b:eL} (ha:is[i]?=some a) (hb:is[j]?=some b):i∈cS.getD j []∨mE a b=true:=by
 unfold qM at h
 have hj:j<is.length:=(List.getElem?_eq_some_iff.1 hb).1
 have:=List.all_eq_true.1 (List.all_eq_true.1 h j (List.mem_range.2 hj)) i (List.mem_range.2 hij)
 simp only [ha,hb,Bool.or_eq_true] at this
 rcases this with h|h
 ·exact .inl (by simpa using h)
 ·exact .inr h
theorem n9 {m:Nat} {is:List eL} {R:List TR} {listed:Array Bool} (hG:Good ops m is R listed) {i:Nat} (hi:i∈Region.ready .any ops listed):∀j∈(bJ ops).getD i [],listed.getD j false=true:=by
 intro j hj
 obtain ⟨_,o,ho,hall⟩:=mem_ready.1 hi
 obtain ⟨hjs,ht⟩:=jP.1 hj
 obtain ⟨o',ho',e,he,hb,h⟩:=nY ht
 rw [ho] at ho';cases ho'
 have hl:=hall e he hb
 rcases h with rfl|h
 ·exact hl
 ·exact hG.ZL _ hl j (jP.2 ⟨hjs,h⟩)
theorem LY {m:Nat} {is:List eL} {R:List TR} {listed:Array Bool} (hG:Good ops m is R listed) (ee:gM ops=true) {k:Nat} (h1:k<ops.size) (h3:listed.getD k true=false) (oa:∀i,i<k→listed.getD i true=true):k∈Region.ready .any ops listed:=by
 refine mem_ready.2 ⟨h3,ops[k],by simp [h1],fun e he hb=>?_⟩
 have hlt:e.on<k:=by
  unfold gM at ee
  have hmem:(ops[k],k)∈ops.toList.zipIdx:=by
   rw [List.mem_zipIdx_iff_getElem?];simp [h1]
  have:=List.all_eq_true.1 ee _ hmem
  simp only at this
  have:=Array.all_eq_true_iff_forall_mem.1 this e he
  simpa [hb] using this
 have hlt':e.on<listed.size:=by rw [hG.sz];omega
 rw [mQ hlt' false true];exact oa _ hlt
theorem Fw {m:Nat} {is:List eL} {t:TR} {R:List TR} {listed:Array Bool} (hG:Good ops m is (t::R) listed) (ee:gM ops=true):t.k∈Region.ready .any ops listed:=by
 obtain ⟨h1,_,h3⟩:=hG.mem t (List.mem_cons_self ..)
 refine LY hG ee (by have:=hG.le;omega) h3 fun i hi=>?_
 rcases Bool.eq_false_or_eq_true (listed.getD i true) with h|h
 ·exact h
 ·obtain ⟨t', ht', hk⟩ := hG.cov i (by omega) h
  rcases List.mem_cons.1 ht' with rfl|ht'
  ·omega
  ·have := (List.pairwise_cons.1 hG.ZK).1 t' ht'
   omega
theorem Good.step {m:Nat} {is:List eL} {L1 L2:List TR} {t:TR} {listed:Array Bool} (hG:Good ops m is (L1++t::L2) listed) (hr:t.k∈Region.ready .any ops listed):Good ops m is (L1++L2) (listed.setIfInBounds t.k true):=by
 have hsub:(L1++L2).Sublist (L1++t::L2):=(List.Sublist.refl L1).append (List.sublist_cons_self t L2)
 have hne:∀x∈L1++L2,x.k≠t.k:=fun x hx=>by
  have:=List.pairwise_append.1 hG.ZK
  rcases List.mem_append.1 hx with h|h
  ·exact Nat.ne_of_lt (this.2.2 x h t (List.mem_cons_self ..))
  ·exact Nat.ne_of_gt ((List.pairwise_cons.1 this.2.1).1 x h)
 refine ⟨by simp [hG.sz],fun x hx=>?_,fun i hi Qx=>?_,hG.ZK.sublist hsub,hG.dr.sublist hsub,fun i hi j hj=>?_,hG.le,fun i hi hi2=>?_⟩
 ·obtain ⟨h1, h2, h3⟩ := hG.mem x (hsub.subset hx)
  exact ⟨h1,h2,by rw [getD_set_ne true (Ne.symm (hne x hx))];exact h3⟩
 ·have hki:t.k≠i:=fun e=>by
   subst e
   have:t.k<listed.size:=by rw [hG.sz];exact Nat.lt_of_lt_of_le hi hG.le
   simp [this] at Qx
  rw [getD_set_ne true hki] at Qx
  obtain ⟨x,hx,hk⟩:=hG.cov i hi Qx
  refine ⟨x,?_,hk⟩
  rcases List.mem_append.1 hx with h|h
  ·exact List.mem_append_left _ h
  ·rcases List.mem_cons.1 h with rfl | h
   ·exact absurd hk hki
   ·exact List.mem_append_right _ h
 ·refine getD_set_true ?_
  by_cases hki:t.k=i
  ·subst hki;exact n9 hG hr j hj
  ·rw [getD_set_ne false hki] at hi
   exact hG.ZL i hi j hj
 ·have hk := (hG.mem t (List.mem_append_right _ (List.mem_cons_self ..))).1
  rw [getD_set_ne true (by omega)]
  exact hG.tl i hi hi2
theorem C9 {os:List Oper} {is:List eL} {k:Nat} (h:dX P N ops os=some is):dX P N ops (os.drop k)=some (is.drop k):=by
 induction k generalizing os is with
 |zero=>simpa using h
 |succ k ih =>
  cases os with
  |nil=>cases h;rfl
  |cons o os =>
   unfold dX at h
   split at h<;>try (cases h;done)
   rename_i it its hit LP
   cases h
   simpa using ih LP
theorem Da {m:Nat} (ee:gM ops=true) (zK:∀i,m≤i→i<ops.size→∀j,j<i→j∈(bJ ops).getD i []) {Q:Exit→Act→World→Prop}:∀(n k:Nat) {listed:Array Bool} {a:Act} {w:World},
  m≤k→k+n=ops.size→listed.size=ops.size→(∀i,i<k→listed.getD i true=true)→(∀i,k≤i→i<ops.size→listed.getD i true=false) →
  (∀i,listed.getD i false=true→∀j∈(bJ ops).getD i [],listed.getD j false=true)→wpOpsIn Y.F 0 P ops Q (List.range' k n) a w→wpAnyIn Y.F 0 P .any ops Q n listed a w
 |0,k,listed,a,w,hm,hk,hsz,oa,Hx,sY,h=>by
  refine ⟨?_,h⟩
  cases hr:Region.ready .any ops listed with
  |nil=>rfl
  |cons i r =>
   have hi:i∈Region.ready .any ops listed:=by rw [hr];exact List.mem_cons_self ..
   obtain ⟨h0,o,ho,_⟩:=mem_ready.1 hi
   have:=(Array.getElem?_eq_some_iff.1 ho).1
   rw [oa i (by omega)] at h0;cases h0
 |n+1,k,listed,a,w,hm,hk,hsz,oa,Hx,sY,h=>by
  have hks:k<ops.size:=by omega
  have hrk:k∈Region.ready .any ops listed:=by
   refine mem_ready.2 ⟨Hx k (Nat.le_refl _) hks,ops[k],by simp [hks],fun e he hb=>?_⟩
   have hlt:e.on<k:=by
    unfold gM at ee
    have hmem:(ops[k],k)∈ops.toList.zipIdx:=by
     rw [List.mem_zipIdx_iff_getElem?];simp [hks]
    have:=List.all_eq_true.1 ee _ hmem
    simp only at this
    have:=Array.all_eq_true_iff_forall_mem.1 this e he
    simpa [hb] using this
   have hlt':e.on<listed.size:=by rw [hsz];omega
   rw [mQ hlt' false true];exact oa _ hlt
  have hrp:∀i,i∈Region.ready .any ops listed→∀j∈(bJ ops).getD i [],listed.getD j false=true:=by
   intro i hi j hj
   obtain ⟨_,o,ho,hall⟩:=mem_ready.1 hi
   obtain ⟨hjs,ht⟩:=jP.1 hj
   obtain ⟨o',ho',e,he,hb,h⟩:=nY ht
   rw [ho] at ho';cases ho'
   have hl:=hall e he hb
   rcases h with rfl|h
   ·exact hl
   ·exact sY _ hl j (jP.2 ⟨hjs,h⟩)
  refine ⟨fun h0=>(by rw [h0] at hrk;cases hrk),fun i hi=>?_⟩
  obtain ⟨h0,o,ho,_⟩:=mem_ready.1 hi
  have mM:=(Array.getElem?_eq_some_iff.1 ho).1
  have hik:i=k:=by
   rcases Nat.lt_trichotomy i k with h1|h1|h1
   ·rw [oa i h1] at h0;cases h0
   ·exact h1
   ·have := hrp i hi k (zK i (by omega) mM k h1)
    rw [(Ba (Hx k (Nat.le_refl _) hks)).1] at this;cases this
  subst hik
  rw [List.range'_succ,wpOpsIn_cons] at h
  refine wpOpIn_mono (fun a' w' h'=>Da ee zK n (i+1) (by omega) (by omega) (by simpa using hsz) (fun j hj=>?_) (fun j hj hj2=>?_) (fun x hx j hj=>?_) h') h
  ·by_cases e : i = j
   ·subst e;simp [hsz,hks]
   ·rw [getD_set_ne true e];exact oa j (by omega)
  ·rw [getD_set_ne true (by omega)];exact Hx j (by omega) hj2
  ·refine getD_set_true ?_
   by_cases e:i=x
   ·subst e;exact hrp i hi j hj
   ·rw [getD_set_ne false e] at hx
    exact sY x hx j hj
theorem LZ {is : List eL} {m : Nat} (zK : ∀ i, m ≤ i → i < ops.size → ∀ j, j < i → j ∈ (bJ ops).getD i []) (mM : dX P N ops ops.toList = some is) (qj : qM (bJ ops) is = true) (ee : gM ops = true) {b : Nat} {ms : List Nat} {F : List (Nat × V) → ah → Prop} (hF : A6 F)
  {Q:Exit→Act→World→Prop} (hend:∀ι μ env bl a w,eF P N Y ι μ ⟨env,⟨b+m,bl⟩,ms⟩ a w→F env bl→wpOpsIn Y.F 0 P ops Q (List.range' m (ops.size - m)) a w) :
  ∀(fuel:Nat) {R:List TR} {listed:Array Bool} {a:Act} {w:World} {ι:ai} {μ:Mu} {env:List (Nat×V)} {bl:ah},fuel=R.length+(ops.size - m)→Good ops m is R listed→uA (fI P N out base) b R env bl F →
   eF P N Y ι μ ⟨env,⟨b+m,bl⟩,ms⟩ a w→(∀t∈R,μ (b+t.k)=none)→wpAnyIn Y.F 0 P .any ops Q fuel listed a w
 |fuel,R,listed,a,w,ι,μ,env,bl,hl,hG,hrun,hR,hfr=>by
  rcases Decidable.em (R=[]) with sZ|sZ
  ·subst sZ
   have hle:=hG.le
   have hf:fuel=ops.size - m:=by simpa using hl
   rw [hf]
   refine Da ee zK (ops.size - m) m (Nat.le_refl _) (by omega) hG.sz (fun i hi=>?_) hG.tl hG.ZL (hend _ _ _ _ _ _ hR hrun)
   rcases Bool.eq_false_or_eq_true (listed.getD i true) with h|h
   ·exact h
   ·obtain ⟨t,ht,_⟩:=hG.cov i hi h;simp at ht
  obtain ⟨fuel,rfl⟩:∃f,fuel=f+1:=⟨fuel - 1,by have:=List.length_pos_iff.2 sZ;omega⟩
  ·refine ⟨fun h0 => ?_, fun i hi => ?_⟩
   ·cases R with
    |nil=>exact absurd rfl sZ
    |cons t R=>have:=Fw hG ee;rw [h0] at this;simp at this
   ·obtain ⟨h0, o, ho, _⟩ := mem_ready.1 hi
    have him:i<m:=by
     rcases Nat.lt_or_ge i m with h|h
     ·exact h
     ·exfalso
      have vS:=(Array.getElem?_eq_some_iff.1 ho).1
      cases R with
      |nil=>exact sZ rfl
      |cons t R =>
       have Jv:=hG.mem t (List.mem_cons_self ..)
       have:=n9 hG hi _ (zK i h vS t.k (by omega))
       rw [(Ba Jv.2.2).1] at this;cases this
    obtain ⟨t,ht,hk⟩:=hG.cov i him h0
    subst hk
    obtain ⟨L1,L2,rfl⟩:=List.append_of_mem ht
    have hAp:∀x∈L1,Uh x t:=fun x hx=>by
     have hp:=(List.pairwise_append.1 hG.ZK).2.2 x hx t (List.mem_cons_self ..)
     have hd:=(List.pairwise_append.1 hG.dr).2.2 x hx t (List.mem_cons_self ..)
     have V1:=hG.mem x (List.mem_append_left _ hx)
     have Jv:=hG.mem t ht
     have hnot:x.k∉(bJ ops).getD t.k []:=fun h=>by
      have:=n9 hG hi _ h
      rw [(Ba V1.2.2).1] at this;cases this
     rcases Bb qj hp V1.2.1 Jv.2.1 with h|h
     ·exact absurd h hnot
     ·rcases hd with h' | h'
      ·exact absurd h' hnot
      ·exact ⟨h,h'.1,h'.2⟩
    obtain ⟨LX,aan⟩:=pull hF hAp hrun
    have Jv:=hG.mem t ht
    have hit:=(gm mM).2 t.k o t.it (by simpa using ho) Jv.2.1
    refine Hv Jv.1 ho hit LX hR (hfr t ht) fun ι' μ' a' w' gJ hne=>?_
    have hG':=hG.step hi
    refine LZ zK mM qj ee hF hend fuel (R:=L1++L2) (by simp at hl ⊢;omega) hG' aan gJ fun x hx=>?_
    have hx':x∈L1++t::L2:=((List.Sublist.refl L1).append (List.sublist_cons_self t L2)).subset hx
    have h1:=(hG'.mem x hx).2.2
    have hnk:x.k≠t.k:=fun e=>by
     rw [e] at h1
     have:t.k<listed.size:=by rw [hG.sz];have:=hG.le;omega
     simp [this] at h1
    rw [hne _ (by omega)];exact hfr x hx'
theorem zL {ar : Ar} {b : Nat} {F G : List (Nat × V) → ah → Prop} (h : ∀ e bl, F e bl → G e bl) : ∀ {ts : List TR} {env : List (Nat × V)} {bl : ah}, uA ar b ts env bl F → uA ar b ts env bl G
 |[],_,_,hr=>h _ _ hr
 |_::_,_,_,hr=>⟨hr.1,zL h hr.2⟩
theorem Db {ar : Ar} {b : Nat} {p : Prop} {F : List (Nat × V) → ah → Prop} : ∀ {ts : List TR} {env : List (Nat × V)} {bl : ah}, uA ar b ts env bl (fun e bl => p ∧ F e bl) → p ∧ uA ar b ts env bl F
 |[],_,_,hr=>hr
 |_::_,_,_,hr=>let ⟨h1,h2⟩:=Db hr.2;⟨h1,hr.1,h2⟩
theorem iD (hm:P.follows .mixedOrders=true):mL P N out base:=by
 intro id ops Cp Qq mM qj ee hl S K hK Y ι μ a w ho hb hR
 refine wpIn_region_any hm ?_
 obtain ⟨ts,h1,h2,h3⟩:=nX hK
 simp only [List.nil_append] at h3
 obtain ⟨Z2,hrun⟩:=Db h3
 have hlen:Cp.length+Qq.length=ops.size:=by simpa using (gm mM).1
 have htl:ts.length=Cp.length:=by rw [←h1];simp
 have hk:∀(j:Nat) t,ts[j]?=some t→t.k=j∧(Cp++Qq)[j]?=some t.it∧j<Cp.length:=fun j t ht=>by
  have hj:=(List.getElem?_eq_some_iff.1 ht).1
  refine ⟨?_,?_,by omega⟩
  ·have : (ts.map (·.k))[j]? = some t.k := by simp [ht]
   rw [h2,List.getElem?_range' (by omega)] at this
   simpa using this.symm
  ·rw [List.getElem?_append_left (by omega),←h1];simp [ht]
 let F:List (Nat×V)→ah→Prop:=fun env bl=>∃jG Hy,Fv jG env∧Ug Hy bl∧fu (fI P N out base) Qq ⟨jG,⟨S.H.next+Cp.length,Hy⟩,S.ms⟩ K
 have hF:A6 F:=fun env env' bl bH he qE ⟨e0,b0,q1,q2,q3⟩=>⟨e0,b0,q1.trans he,fun i=>(q2 i).trans (qE i),q3⟩
 have lH:∀{ι' μ' env bl jG Hy a' w'},eF P N Y ι' μ' ⟨env,⟨S.H.next+Cp.length,bl⟩,S.ms⟩ a' w'→Fv jG env→Ug Hy bl→eF P N Y ι' μ' ⟨jG,⟨S.H.next+Cp.length,Hy⟩,S.ms⟩ a' w':=fun gJ q1 q2 =>
  ⟨fun t=>by rw [q1 t];exact gJ.env t,gJ.sz,gJ.inv.eqB q2,gJ.ms⟩
 have hfl:ops.size=ts.length+(ops.size - Cp.length):=by omega
 have htr2:dX P N ops (ops.toList.drop Cp.length)=some Qq:=by
  have:=C9 (k:=Cp.length) mM
  rwa [List.drop_left' rfl] at this
 refine LZ (out:=out) (base:=base) (b:=S.H.next) (ms:=S.ms) (F:=F) (fun i hi hi2=>hl i hi (by omega)) mM qj ee hF (fun ι' μ' env bl a' w' gJ hf=>?_) ops.size (R:=ts) (ι:=ι) (μ:=μ) (env:=S.env) (bl:=S.H.bl) hfl ?_ ?_ ?_ ?_
 ·obtain ⟨e0, b0, q1, q2, q3⟩ := hf
  have h:=wv (Y:=Y) (os:=ops.toList.drop Cp.length) (Q:=Post P N Y fun e S=>match e with | .normal=>K S|_=>False) (K:=K) (out:=out) (base:=base) (fun ι μ S a w hR hK=>Post.of (e':=.normal) hR rfl hK) (k:=Cp.length) htr2 (fun j=>by
   rw [List.getElem?_drop];simp) (lH gJ q1 q2) q3
  rwa [List.length_drop,Array.length_toList] at h
 ·refine ⟨by simp, fun t ht => ?_, fun i hi Qx => ?_, ?_, qi Z2, fun i hi => ?_, by omega, fun i hi hi2 => by simp [hi2]⟩
  ·obtain ⟨j, hj⟩ := List.getElem?_of_mem ht
   obtain ⟨e1,e2,e3⟩:=hk j t hj
   subst e1
   exact ⟨e3,e2,by simp [show t.k<ops.size by omega]⟩
  ·have : i < ts.length := by omega
   refine ⟨ts[i],List.getElem_mem this,(hk i _ (by simp)).1⟩
  ·have h4 : (ts.map (·.k)).Pairwise (· < ·) := by rw [h2]; exact List.pairwise_lt_range'
   exact List.pairwise_map.1 h4
  ·exfalso
   rcases Nat.lt_or_ge i ops.size with h|h<;>simp [h] at hi
 ·refine zL (fun e bl h => ?_) hrun
  exact ⟨e,bl,fun _=>rfl,fun _=>rfl,h⟩
 ·exact ⟨hR.env,hR.sz,(hR.inv.sW (by omega)).drawn,hR.ms⟩
 ·intro t ht
  exact hR.inv.nx _ (by omega)
end
end Go.AM
end
section
namespace Go.AM
section
variable {P:Program} {N:Nat} {Y:Ctx} {ι ι':ai} {μ μ':Mu} {H:aF} {w w':World} {out:Option Nat} {base:Nat}
theorem Qy {func:Func} {fn:Fn} (htr:cN P func=some fn):Lr P func.results.toList=some fn.res:=by
 unfold cN at htr
 split at htr<;>try (cases htr;done)
 split at htr<;>try (cases htr;done)
 rename_i PN
 split at htr<;>try (cases htr;done)
 cases htr;exact PN
theorem Inv.down (h:Inv P Y ι μ H w) (ro:Option Nat):Inv P ⟨Y.w0,ι,μ,ro,Y.x,[]⟩ ι μ H w :=
 ⟨h.below,ai.le_refl _,fun _ _ _ _=>rfl,h.rd,Mu.le_refl _,h.nx,h.live,h.inj,h.lt,h.dy⟩
theorem Inv.up {ro:Option Nat} {H':aF} (h0:Inv P Y ι μ H w) (h:Inv P ⟨Y.w0,ι,μ,ro,Y.x,[]⟩ ι' μ' H' w'):Inv P Y ι' μ' H' w'∧ι.le ι'∧μ.le μ' :=
 ⟨⟨h.below,ai.le_trans h0.i0 h.i0,fun b o hb hx=>(h.iB b o hb hx).trans (h0.iB b o hb hx),h.rd,Mu.le_trans h0.m0 h.m0,h.nx,h.live,h.inj,h.lt,h0.gl⟩,h.i0,h.m0⟩
theorem j6 {f : Nat} {func : Func} {fn : Fn} (hf : P.funcs[f]? = some func) (htr : cN P func = some fn) (cD : Enters P f) (gP : mL P fn.N none H.next) {vs : List V} {Q : V → aF → Prop} (hlen : vs.length ≤ fn.np)
  (h:qP (fI P fn.N none H.next) fn.body ⟨args 0 vs,H,[]⟩ (A3 fn.res fn.tys Q)):gN P f vs H Q:=by
 refine ⟨cD,fun Y ι μ w as hI hr=>?_⟩
 refine Hr (Y:=⟨Y.w0,ι,μ,none,Y.x,[]⟩) hf htr gP hlen h rfl rfl (fun id hid=>hI.nx id hid) (hI.down none) hr fun Y1 ι' μ' S' a' w' e' hY hR hq=>?_
 have key:A3.qf fn.res fn.tys Q S'→LeavesInM Fence.wide 0 P func a'.tmps (LM P Y ι μ Q) a'.defers .returning w':=by
  intro hs
  unfold A3.qf at hs
  split at hs<;>try (exact hs.elim)
  rename_i bl qE
  split at hs<;>try (exact hs.elim)
  rename_i vs' hvs
  refine sS (Qy htr) (n:=S'.H.next) (bl:=S'.H.bl) hY rfl hR.inv hR.env hR.ms qE hvs fun x w2 nM hx=>?_
  obtain ⟨h1,h2,h3⟩:=hI.up nM
  exact ⟨x,ι',μ',_,_,rfl,h2,h3,h1,hx (hTs fn.tys),hs⟩
 cases e' with
 |exit id=>exact hq.elim
 |normal=>exact ⟨.inl rfl,key hq⟩
 |ret=>exact ⟨.inr rfl,key hq⟩
def unr (ar : Ar) (c : C) : Nat → St → (Ex → St → Prop) → Prop
 |0,_,_=>False
 |n+1,S,K=>qP ar c S fun e S'=>match e with
  | .normal=>unr ar c n S' K
  | .exit id=>K (.exit id) S'
  | .ret=>K .ret S'
theorem Inv.Jw {bl:ah} {n id:Nat} {L:Loc} {B:kP} (h:Inv P Y ι μ ⟨n,bl⟩ w) (hb:au id bl=some B) (hL:μ id=some L) {o o':Obj} (ho:w.heap[L.b]?=some o) (hnc:∀c e f,o ≠ .cells c e f) (hnm:∀ms c,o ≠ .map ms c) :
  Inv P Y ι μ ⟨n,bt id bl⟩ (w.putObj L.b o'):=by
 have hold:Y.own L.b:=((h.live id _ hb).loc hL).1
 have bR:∀k,k≠L.b→(w.putObj L.b o').heap[k]?=w.heap[k]?:=fun k hk=>World.putObj_heap_other hk
 have hsub:=h.del id
 refine ⟨⟨h.below.os, h.below.tape, h.below.output, by rw [World.putObj_size]; exact h.below.size, fun k hk hx => ?_, h.below.dr, fun k hk => (h.below.maps k hk).trans (by
   by_cases e:k=L.b
   ·subst e;exact .no (fun ms c e=>by rw [ho] at e;cases e;exact hnm _ _ rfl)
   ·exact .eq (bR k e))⟩,h.i0,h.iB,fun b o2 x hx=>?_,h.m0,h.nx,fun i B2 hB=>?_,hsub.inj,hsub.lt,h.gl⟩
 ·rw [bR k (Ctx.lE hold hk hx)];exact h.below.block k hk hx
 ·have := h.rd b o2 x hx
  have hne:b≠L.b:=fun e=>by
   subst e
   cases o<;>simp [World.cell?,ho] at this
   exact hnc _ _ _ rfl
  unfold World.cell? at this ⊢
  simp only at this ⊢
  rw [bR b hne];exact this
 ·simp only at hB
  rw [aY] at hB
  split at hB
  ·cases hB
  ·rename_i e
   refine (h.live i B2 hB).mono (ai.le_refl _) (Mu.le_refl _) (fun h=>h) (fun L' hL'=>bR _ (fun e'=>e (h.inj i id B2 _ L' L hB hb hL' hL e'))) (fun _ _ h=>h)
def Hz (j:Option Ex) (S:St) (K:Ex→St→Prop):Prop:=match j with
 |none=>K .normal S
 |some e=>match e with
  | .normal=>False
  | .exit i=>K (.exit i) S
  | .ret=>K .ret S
def jQ (id:Nat) (sh:List Nat) (S:St) (K:Ex→St→Prop) (H:aF):Prop:=match au id H.bl with
 |some (.loop st j _ _ _ _ _ _)=>match st with
  | .busy=>False
  |_=>match eG sh (bt id H.bl) with
   |some bl=>Hz j ⟨S.env,⟨H.next,bl⟩,S.ms⟩ K
   |none=>False
 |_=>False
def Wa (ar:Ar) (N:Nat) (out:Option Nat) (f:O) (ps:List Nat) (as bd:C) (S:St) (K:Ex→St→Prop):Prop :=
 ps.all (Nat.blt · N)=true ∧
 match f.ev S.env with
 | .fn fid first cap=>match out with
  | none => S.ms = [] ∧ ar.call fid (first ++ [.yl (S.H.next + 1)] ++ cap) ⟨S.H.next + 2, (S.H.next + 1, .loop .ready none S.H.next S.env ps as bd N) :: (S.H.next, .ig) :: S.H.bl⟩
    fun _ H=>jQ (S.H.next+1) [S.H.next] S K H
  |some Ui=>match au Ui S.H.bl with
   | some (.loop _ _ d _ _ _ _ _) => ar.call fid (first ++ [.yl S.H.next] ++ cap) ⟨S.H.next + 1, (S.H.next, .loop .ready none d S.env ps as bd N) :: S.H.bl⟩
     fun _ H=>jQ S.H.next [] S K H
   |_=>False
 |_=>False
theorem uc {f:O} {ps:List Nat} {as bd:C} {S:St} {K:Ex→St→Prop} (h:Wa (fI P N out base) N out f ps as bd S K):(fI P N out base).bC f ps as bd S K:=by
 intro fo Cn ao bo hfo hps hao hbo Y ι μ a w ho hb hR
 obtain ⟨hpN,h⟩:=h
 have rf:=aB hR.env hfo
 have hnc:∀(r:Loop) c e f,Obj.loop r ≠ .cells c e f:=fun r c e f=>by intro h;cases h
 split at h
 ·rename_i fid fs cs oT
  rw [oT] at rf
  generalize hg:a.eval fo=fv at rf
  cases rf with
  |fn _ _ _ xs ys h1 h2 h3 h4 =>
   have r1:aG ι μ fs xs.toList:=⟨by simpa using h1,fun i v x hv hx=>h2 i v x hv (by simpa using hx)⟩
   have r2:aG ι μ cs ys.toList:=⟨by simpa using h3,fun i v x hv hx=>h4 i v x hv (by simpa using hx)⟩
   -- behind the call
   have fin:∀{aC:Nat} {L:Loc} {sh ms':List Nat} {ds':List Deferred} {μ1:Mu},μ.le μ1→μ1 aC=some L→jk Y.hid μ1 ms' ds'→((sh=[]∧ms'=S.ms)∨∃i,sh=[i]∧ms'=[i]∧S.ms=[]∧Y.ro=none) →
     ∀e w',LM P Y ι μ1 (fun _ H=>jQ aC sh S K H) e w' →
     rangePost Y.F 0 P L.b (Post P N Y K) { a with defers:=ds' } e w':=fun {aC L sh ms' ds' μ1} fK hL hmk hsh e w' he=>by
    obtain ⟨v,ι',μ',r,H',rfl,hi,hm,hinv,hv,hq⟩:=he
    unfold jQ at hq
    split at hq<;>try (exact hq.elim)
    rename_i st j d env' ps' as' Qz N' qE
    obtain ⟨L',r',Ld,q1,q2,q3,q4,q5,q6,q7,q8,q9,q10,q11,q12,q13⟩:=hinv.live _ _ qE
    rw [hm _ _ hL] at q1;cases q1
    have hst:r'.state ≠ .busy:=by rw [q4];cases st<;>simp [stR] at hq ⊢
    have hinv':=hinv.Jw (o':=.loop { r' with state:=.exhausted }) qE (hm _ _ hL) q3 (hnc r') (fun _ _ e=>by cases e)
    have Uj:eF P N Y ι' μ' ⟨S.env,⟨H'.next,bt aC H'.bl⟩,ms'⟩ { a with defers:=ds' } (w'.putObj L.b (.loop { r' with state:=.exhausted })) :=
     ⟨hR.env.mono hi (Mu.le_trans fK hm),hR.sz,hinv',hmk.mono hm⟩
    have hq1:∃bl,eG sh (bt aC H'.bl)=some bl∧Hz j ⟨S.env,⟨H'.next,bl⟩,S.ms⟩ K:=by
     cases hsh2:eG sh (bt aC H'.bl) with
     |none=>rw [hsh2] at hq;cases st<;>exact hq.elim
     |some bl=>rw [hsh2] at hq;exact ⟨bl,rfl,by cases st<;>first|exact hq.elim|exact hq⟩
    obtain ⟨bl,L5,Wb⟩:=hq1
    obtain ⟨Y1,Ma,lH⟩:∃Y1,Ext P Y Y1∧eF P N Y1 ι' μ' ⟨S.env,⟨H'.next,bl⟩,S.ms⟩ { a with defers:=ds' } (w'.putObj L.b (.loop { r' with state:=.exhausted })):=by
     rcases hsh with ⟨rfl,rfl⟩|⟨i,rfl,rfl,hS,hro⟩
     ·cases L5;exact ⟨Y,.refl Y,Uj⟩
     ·simp only [eG] at L5
      split at L5<;>try (cases L5;done)
      rename_i hb
      cases L5
      rw [hS]
      exact Uj.uy rfl hb hro
    have hend:=run_endLoop (P:=P) q3 hst
    generalize w'.putObj L.b (.loop { r' with state:=.exhausted })=w4 at lH hend
    refine ⟨r'.pending,w4,hend,?_⟩
    unfold Hz at Wb
    cases j with
    |none=>simp only [CD] at q5;rw [q5];exact .of1 (e':=.normal) Ma lH rfl Wb
    |some e =>
     cases e with
     |normal=>exact Wb.elim
     |exit i=>simp only [CD] at q5;rw [q5];exact wpIn_exit (.of1 (e':=.exit i) Ma lH rfl Wb)
     |ret=>simp only [CD] at q5;rw [q5];exact wpIn_ret (.of1 (e':=.ret) Ma lH rfl Wb)
   have hpN':∀p∈ps,p<N:=fun p hp=>by have:=List.all_eq_true.1 hpN p hp;simpa using this
   cases out with
   |none =>
    simp only at h
    have hro:Y.ro=none:=ho
    obtain ⟨hms0,cD,gO⟩:=h
    let Ld:Loc:=⟨w.heap.size,0,0,0⟩
    let L:Loc:=⟨w.heap.size+1,0,0,0⟩
    have hn0:=hR.inv.nx S.H.next (Nat.le_refl _)
    have yM:=Mu.fC (L:=Ld) hn0
    have EM:=hR.inv.lay hn0 (L:=Ld) (o:=.deferred (some [])) (b:=.ig) rfl ⟨Ld,by simp [Mu.set],.inl hR.inv.below.size,by show (w.heap.push _)[w.heap.size]?=_;simp⟩
    have Jx:(w.alloc (.deferred (some []))).heap.size=w.heap.size+1:=World.size_alloc _ _
    have Uf:(μ.set S.H.next Ld) (S.H.next+1)=none:=by simp only [Mu.set];rw [if_neg (by omega)];exact hR.inv.nx _ (by omega)
    have hle1:=Mu.fC (L:=L) Uf
    have Fy : ∀ fn : Nat, Inv P Y ι ((μ.set S.H.next Ld).set (S.H.next + 1) L) ⟨S.H.next + 2, (S.H.next + 1, .loop .ready none S.H.next S.env ps as bd N) :: (S.H.next, .ig) :: S.H.bl⟩
      ((w.alloc (.deferred (some []))).alloc (.loop { state:=.ready,pending:=none,fn:=fn,tmps:=a.tmps,params:=Cn,assign:=ao,body:=bo,defers:=w.heap.size })):=fun fn=>by
     have nM := EM.lay Uf (L := L) (o := .loop { state := .ready, pending := none, fn := fn, tmps := a.tmps, params := Cn, assign := ao, body := bo, defers := w.heap.size })
      (b:=.loop .ready none S.H.next S.env ps as bd N) (by simp [L,Jx]) ⟨L,{ state:=.ready,pending:=none,fn:=fn,tmps:=a.tmps,params:=Cn,assign:=ao,body:=bo,defers:=w.heap.size },Ld,by simp [Mu.set],.inl (by have:=hR.inv.below.size;simp only [L];omega),by
       have:=World.alloc_heap_new (w.alloc (.deferred (some []))) (.loop { state:=.ready,pending:=none,fn:=fn,tmps:=a.tmps,params:=Cn,assign:=ao,body:=bo,defers:=w.heap.size })
       rw [Jx] at this;exact this,rfl,rfl,hR.env.mono (ai.le_refl _) (Mu.le_trans yM hle1),hps,hR.sz,hpN',hao,hbo,by simp [Mu.set],rfl⟩
     refine nM.congr (fun id=>?_) (by simp only;omega)
     rw [aD,bn]
     by_cases e:S.H.next+1=id
     ·subst e;simp
     ·rw [if_neg e, if_neg (fun e' => e e'.symm), aD, bn]
      by_cases e2:S.H.next=id
      ·subst e2;simp
      ·rw [if_neg e2,if_neg (fun e'=>e2 e'.symm)]
    have yN:=Mu.le_trans yM hle1
    have hLd:((μ.set S.H.next Ld).set (S.H.next+1) L) S.H.next=some Ld:=by simp [Mu.set]
    have hL:((μ.set S.H.next Ld).set (S.H.next+1) L) (S.H.next+1)=some L:=by simp [Mu.set]
    refine wpIn_rangeFunc fun fn _=>?_
    have Dc:=Fy fn
    obtain ⟨W,hW⟩:∃W,W=(w.alloc (.deferred (some []))).alloc (.loop { state:=.ready,pending:=none,fn:=fn,tmps:=a.tmps,params:=Cn,assign:=ao,body:=bo,defers:=w.heap.size }):=⟨_,rfl⟩
    rw [←hW] at Dc
    refine ⟨w.heap.size+1,[{ target:=.collected w.heap.size,args:=#[] }],W,{ target:=.fn (.func fid) ys,args:=xs++#[.func (.yield (w.heap.size+1)) #[] #[]] },W,fid,
     (xs++#[.func (.yield (w.heap.size+1)) #[] #[]])++ys,W,?_,?_,fun _ _=>trivial,?_,fun h=>by simp [Ctx.F,Fence.wide] at h,?_⟩
    ·show (Instr.enterLoop fn a.tmps Cn ao bo Y.ro).run P w = _
     rw [hro,hW];exact run_enterLoop_outer _ _ _ _ _
    ·have e1 : ∀ v, a.eval (.const v) = v := fun _ => rfl
     simp [resolve,hg,Deferred.ofValue,e1]
    ·have := cD ((xs ++ #[Value.func (Fn.yield (w.heap.size + 1)) #[] #[]]) ++ ys) W
     simpa [invoke] using this
    ·have rl:aG ι ((μ.set S.H.next Ld).set (S.H.next+1) L) (fs++[.yl (S.H.next+1)]++cs) ((xs++#[Value.func (Fn.yield (w.heap.size+1)) #[] #[]])++ys).toList:=by
      have q1:=r1.mono (ai.le_refl _) yN
      have q2:=r2.mono (ai.le_refl _) yN
      have:=(q1.append (.cons (.yl _ L hL) .nil)).append q2
      simpa using this
     refine CallsIn.mono (F:=Y.F) (gO Y ι _ _ _ Dc rl) fun e w' he=>?_
     exact fin (L:=L) (aC:=S.H.next+1) (sh:=[S.H.next]) (ms':=[S.H.next]) (ds':={ target:=.collected w.heap.size,args:=#[] }::a.defers) yN hL ⟨Ld,_,a.defers,rfl,hLd,rfl,by have:=hR.ms;rw [hms0] at this;exact this⟩ (.inr ⟨_,rfl,rfl,hms0,hro⟩) e w' he
   |some Ui =>
    simp only at h
    obtain ⟨L0,hm0,hro⟩:=ho
    split at h<;>try (exact h.elim)
    rename_i st0 j0 d0 jG ps0 as0 bd0 N0 hb0
    obtain ⟨cD,gO⟩:=h
    obtain ⟨L0',r0,Ld,q1,q2,q3,q4,q5,q6,q7,q8,q9,q10,q11,q12,q13⟩:=hR.inv.live _ _ hb0
    rw [hR.inv.m0 _ _ hm0] at q1;cases q1
    let L:Loc:=⟨w.heap.size,0,0,0⟩
    have hn0:=hR.inv.nx S.H.next (Nat.le_refl _)
    have yN:=Mu.fC (L:=L) hn0
    have Fy : ∀ fn : Nat, Inv P Y ι (μ.set S.H.next L) ⟨S.H.next + 1, (S.H.next, .loop .ready none d0 S.env ps as bd N) :: S.H.bl⟩
      (w.alloc (.loop { state:=.ready,pending:=none,fn:=fn,tmps:=a.tmps,params:=Cn,assign:=ao,body:=bo,defers:=r0.defers })):=fun fn=>by
     have nM := hR.inv.lay hn0 (L := L) (o := .loop { state := .ready, pending := none, fn := fn, tmps := a.tmps, params := Cn, assign := ao, body := bo, defers := r0.defers })
      (b:=.loop .ready none d0 S.env ps as bd N) rfl ⟨L,{ state:=.ready,pending:=none,fn:=fn,tmps:=a.tmps,params:=Cn,assign:=ao,body:=bo,defers:=r0.defers },Ld,by simp [Mu.set],.inl hR.inv.below.size,by
       show (w.heap.push _)[w.heap.size]?=_
       simp,rfl,rfl,hR.env.mono (ai.le_refl _) yN,hps,hR.sz,hpN',hao,hbo,yN _ _ q12,q13⟩
     refine nM.congr (fun id=>?_) (by simp only;omega)
     rw [aD,bn]
     by_cases e:S.H.next=id
     ·subst e;simp
     ·rw [if_neg e,if_neg (fun e'=>e e'.symm)]
    have hL:(μ.set S.H.next L) S.H.next=some L:=by simp [Mu.set]
    refine wpIn_rangeFunc fun fn _=>?_
    have Dc:=Fy fn
    obtain ⟨W,hW⟩:∃W,W=w.alloc (.loop { state:=.ready,pending:=none,fn:=fn,tmps:=a.tmps,params:=Cn,assign:=ao,body:=bo,defers:=r0.defers }):=⟨_,rfl⟩
    rw [←hW] at Dc
    refine ⟨w.heap.size,[],W,{ target:=.fn (.func fid) ys,args:=xs++#[.func (.yield w.heap.size) #[] #[]] },W,fid,
     (xs++#[.func (.yield w.heap.size) #[] #[]])++ys,W,?_,?_,fun _ _=>trivial,?_,fun h=>by simp [Ctx.F,Fence.wide] at h,?_⟩
    ·show (Instr.enterLoop fn a.tmps Cn ao bo Y.ro).run P w = _
     rw [hro,hW];exact run_enterLoop_inner q3 _ _ _ _ _
    ·have e1 : ∀ v, a.eval (.const v) = v := fun _ => rfl
     simp [resolve,hg,Deferred.ofValue,e1]
    ·have := cD ((xs ++ #[Value.func (Fn.yield w.heap.size) #[] #[]]) ++ ys) W
     simpa [invoke] using this
    ·have rl:aG ι (μ.set S.H.next L) (fs++[.yl S.H.next]++cs) ((xs++#[Value.func (Fn.yield w.heap.size) #[] #[]])++ys).toList:=by
      have q1:=r1.mono (ai.le_refl _) yN
      have q2:=r2.mono (ai.le_refl _) yN
      have:=(q1.append (.cons (.yl _ L hL) .nil)).append q2
      simpa using this
     refine CallsIn.mono (F:=Y.F) (gO Y ι _ _ _ Dc rl) fun e w' he=>?_
     exact fin (L:=L) (aC:=S.H.next) (sh:=[]) yN hL (hR.ms.mono yN) (.inl ⟨rfl,rfl⟩) e w' he
 ·exact h.elim
end
end Go.AM
end
section
namespace Go.AM
def ud : List Nat → List V → List (Nat × V) → List (Nat × V)
  |p::ps,v::vs,env=>ud ps vs (AK p v env)
  |_,_,env=>env
def qY (id:Nat) (Q:V→aF→Prop) (e:Ex) (S:St):Prop:=match au id S.H.bl with
  |some (.loop .busy _ d env ps as bd N)=>match e with
    | .normal=>Q (.tf true) ⟨S.H.next,(id,.loop .ready none d env ps as bd N)::bt id S.H.bl⟩
    | .exit i=>Q (.tf false) ⟨S.H.next,(id,.loop .done (some (.exit i)) d env ps as bd N)::bt id S.H.bl⟩
    | .ret=>Q (.tf false) ⟨S.H.next,(id,.loop .done (some .ret) d env ps as bd N)::bt id S.H.bl⟩
  |_=>False
def Fz (ar:Nat→Ar) (id:Nat) (vs:List V) (H:aF) (Q:V→aF→Prop):Prop:=match au id H.bl with
  |some (.loop .ready none d env ps as bd N)=>vs.length=ps.length∧qP (ar N) as ⟨ud ps vs env,H,[]⟩ fun e S=>match e with
    | .normal=>match au id S.H.bl with
      |some (.loop .ready none d' env' ps' as' Qz N')=>qP (ar N) bd ⟨S.env,⟨S.H.next,(id,.loop .busy none d' env' ps' as' Qz N')::bt id S.H.bl⟩,S.ms⟩ (qY id Q)
      |_=>False
    |_=>False
  |_=>False
section
variable {P:Program} {N:Nat} {Y:Ctx} {ι ι':ai} {μ μ':Mu} {H:aF} {w w':World} {out:Option Nat} {base:Nat}
theorem zN:∀{ps:List Nat} {vs:List V} {args:List Value} {env:List (Nat×V)} {tmps:Array Value},aG ι μ vs args→(∀p∈ps,p<N)→tmps.size=N→eo ι μ env tmps →
    eo ι μ (ud ps vs env) ((ps.zip args).foldl (fun t (p,v)=>t.setIfInBounds p v) tmps)∧((ps.zip args).foldl (fun (t:Array Value) (p,v)=>t.setIfInBounds p v) tmps).size=N
  |[],vs,args,env,tmps,hr,hp,hs,he=>by simp only [ud,List.zip_nil_left,List.foldl_nil];exact ⟨he,hs⟩
  |p::ps,[],args,env,tmps,hr,hp,hs,he=>by rw [hr.of_nil];simp only [ud,List.zip_nil_right,List.foldl_nil];exact ⟨he,hs⟩
  |p::ps,v::vs,args,env,tmps,hr,hp,hs,he=>by
    obtain ⟨x,r,rfl,h1,h2⟩:=hr.bx
    simp only [ud,List.zip_cons_cons,List.foldl_cons]
    refine zN h2 (fun q hq=>hp q (List.mem_cons_of_mem _ hq)) (by simp [hs]) fun t=>?_
    have hd':p<N:=hp p (List.mem_cons_self ..)
    rw [lQ]
    by_cases h:p=t
    · subst h
      rw [if_pos rfl]
      have:(tmps.setIfInBounds p x).getD p undef=x:=by simp [Array.getD,hs,hd']
      rw [this];exact h1
    · rw [if_neg h]
      have:(tmps.setIfInBounds p x).getD t undef=tmps.getD t undef:=by
        simp only [Array.getD_eq_getD_getElem?]
        rw [Array.getElem?_setIfInBounds_ne h]
      rw [this];exact he t
theorem Jy {id:Nat} {vs:List V} {Q:V→aF→Prop} (gP:∀N,mL P N (some id) H.next) (h:Fz (fun N=>fI P N (some id) H.next) id vs H Q):around P id vs H Q:=by
  intro Y ι μ w args L hI hr hL
  unfold Fz at h
  split at h<;>try (exact h.elim)
  rename_i d env ps as bd N hb
  obtain ⟨hlen,h⟩:=h
  obtain ⟨L',r,Ld,q1,q2,q3,q4,q5,q6,q7,q8,q9,q10,q11,q12,q13⟩:=hI.live _ _ hb
  rw [hL] at q1;cases q1
  have hnc:∀(r:Loop) c e f,Obj.loop r ≠ .cells c e f:=fun r c e f=>by intro h;cases h
  have hsize : args.size = r.params.size := by have h1 := hr.1; have h2 : r.params.toList.length = ps.length := by rw [q7]
                                               simp at h1 h2;omega
  refine ⟨r.fn,_,r.assign,r.body,w,run_yield q3 hsize,roundIn_of_wpIn trivial ?_⟩
  let Y':Ctx:=⟨Y.w0,ι,μ,some L.b,Y.x,[]⟩
  obtain ⟨he1,he2⟩:=zN (env:=env) hr q9 q8 q6
  have hzip:(r.params.zip args).foldl (fun tmps (x:Tmp×Value)=>tmps.setIfInBounds x.1 x.2) r.tmps=(ps.zip args.toList).foldl (fun (t:Array Value) (p,v)=>t.setIfInBounds p v) r.tmps:=by
    rw [←Array.foldl_toList,Array.toList_zip,q7]
  have hR:eF P N Y' ι μ ⟨ud ps vs env,H,[]⟩ { tmps:=(r.params.zip args).foldl (fun tmps (x:Tmp×Value)=>tmps.setIfInBounds x.1 x.2) r.tmps,defers:=[] } w :=
    ⟨by rw [hzip];exact he1,by rw [hzip];exact he2,hI.down _,rfl⟩
  have hbase:Y'.base H.next:=fun id hid=>hI.nx id hid
  have hout:jZ Y' (some id):=⟨L,hL,rfl⟩
  refine wpIn_mono (gz (gP N) r.assign q10 h Y' ι μ _ w hout hbase hR) fun e a1 w1 hp=>?_
  obtain ⟨Y1,Ma,ι1,μ1,S1,e1,qF,hx1,hq1⟩:=hp
  have:=Ma.same (by simp [Y'])
  subst this
  cases e1 with
  |exit i=>exact hq1.elim
  |ret=>exact hq1.elim
  |normal =>
    cases hx1
    simp only at hq1
    split at hq1<;>try (exact hq1.elim)
    rename_i d1 env1 ps1 as1 bd1 N1 iq
    obtain ⟨L1,r1,Ld1,p1,p2,p3,p4,p5,p6,p7,p8,p9,p10,p11,p12,p13⟩:=qF.inv.live _ _ iq
    have VY:μ1 id=some L:=qF.inv.m0 _ _ hL
    rw [VY] at p1;cases p1
    refine ⟨_,run_beginRound p3 p4,?_⟩
    have hlt1:L.b<w1.heap.size:=(Array.getElem?_eq_some_iff.1 p3).1
    have nM := qF.inv.Hi (o' := .loop { r1 with state := .busy }) (B' := .loop .busy none d1 env1 ps1 as1 bd1 N1) iq VY p3 (hnc _) (fun _ _ e => by cases e)
      ⟨L,{ r1 with state:=.busy },Ld1,VY,p2,World.putObj_heap_same hlt1,rfl,p5,p6,p7,p8,p9,p10,p11,p12,p13⟩
    have nq:eF P N Y' ι1 μ1 ⟨S1.env,⟨S1.H.next,(id,.loop .busy none d1 env1 ps1 as1 bd1 N1)::bt id S1.H.bl⟩,S1.ms⟩ a1 (w1.putObj L.b (.loop { r1 with state:=.busy })):=⟨qF.env,qF.sz,nM,qF.ms⟩
    refine wpIn_mono (gz (gP N) r.body q11 hq1 Y' ι1 μ1 _ _ hout hbase nq) fun e a3 w3 hp=>?_
    obtain ⟨Y3,hY3,ι3,μ3,S3,e3,K0,HA,QA⟩:=hp
    have:=hY3.same (by simp [Y'])
    subst this
    unfold qY at QA
    split at QA<;>try (exact QA.elim)
    rename_i j3 d3 env3 ps3 as3 bd3 N3 Cl
    obtain ⟨L3,r3,Ld3,s1,s2,s3,s4,s5,s6,s7,s8,s9,s10,s11,s12,s13⟩:=K0.inv.live _ _ Cl
    have hL3:μ3 id=some L:=K0.inv.m0 _ _ hL
    rw [hL3] at s1;cases s1
    have hlt3:L.b<w3.heap.size:=(Array.getElem?_eq_some_iff.1 s3).1
    have fin:∀(jump:Option Code) (st:qb) (j:Option Ex) (v:V),stR st=(if jump.isNone then .ready else .done)→CD j jump→v = .tf jump.isNone→Q v ⟨S3.H.next,(id,.loop st j d3 env3 ps3 as3 bd3 N3)::bt id S3.H.bl⟩ →
        ∃v w',(Instr.endRound L.b jump).run P w3 = .ok v w'∧LM P Y ι μ Q (.returned v) w':=fun jump st j v h1 h2 h3 h4=>by
      have hI4 := K0.inv.Hi (o' := .loop { r3 with state := if jump.isNone then .ready else .done, pending := jump }) (B' := .loop st j d3 env3 ps3 as3 bd3 N3) Cl hL3 s3 (hnc _) (fun _ _ e => by cases e)
        ⟨L,{ r3 with state:=if jump.isNone then .ready else .done,pending:=jump },Ld3,hL3,s2,World.putObj_heap_same hlt3,h1.symm,h2,s6,s7,s8,s9,s10,s11,s12,s13⟩
      obtain ⟨u1,u2,u3⟩:=hI.up hI4
      subst h3
      exact ⟨_,_,run_endRound jump s3,_,ι3,μ3,_,_,rfl,u2,u3,u1,.tf _,h4⟩
    cases e3 with
    |normal=>cases HA;exact fin none .ready none _ rfl rfl rfl QA
    |exit i=>cases HA;exact fin (some (.exit i)) .done (some (.exit i)) _ rfl rfl rfl QA
    |ret=>cases HA;exact fin (some .ret) .done (some .ret) _ rfl rfl rfl QA
end
end Go.AM
end
section
namespace Go.AM
section
variable {c1 : Nat → List V → aF → (V → aF → Prop) → Prop} {c2 : Nat → List V → V → Prop} {c3 : C → St → (Ex → St → Prop) → Prop}
 {c4:Nat→List V→aF→(V→aF→Prop)→Prop} {c5:O→List Nat→C→C→St→(Ex→St→Prop)→Prop} {c6:C→St→(Ex→St→Prop)→Prop} {bl:ah}
theorem jH : ∀ {t : Ty} {bl : ah} {vs : List V}, bq (bh c1 c2 c3 c4 c5 c6) bl t vs = bq ew bl t vs
 | .unit,bl,vs=>by simp only [bq]
 | .prod a b,bl,vs=>by simp only [bq,jH (t:=a),jH (t:=b)]
 | .bool,_,[]=>rfl
 | .str,_,[]=>rfl
 | .int _,_,[]=>rfl
 | .list _,_,[]=>rfl
 | .cq _ _ _,_,[]=>rfl
 | .bool,_,c::cs=>by cases c<;>rfl
 | .str,_,c::cs=>by cases c<;>rfl
 | .int k,_,c::cs=>by cases c<;>rfl
 | .list t,_,c::cs=>by cases c<;>rfl
 | .cq d g t,_,c::cs=>by cases c<;>first|rfl|(simp only [bq,jH (t:=t)])
theorem qZ {t : Ty} {bl : ah} : ∀ {n : Nat} {vs : List V}, lK (bh c1 c2 c3 c4 c5 c6) bl t n vs = lK ew bl t n vs
 |0,[]=>rfl
 |0,_::_=>rfl
 |n+1,vs=>by simp only [lK,jH,qZ (n:=n)]
theorem Bc {t : Ty} {xs : List t.den} : ∀ {n i : Nat}, Cu (bh c1 c2 c3 c4 c5 c6) t xs n i = Cu ew t xs n i
 |0,_=>rfl
 |n+1,i=>by simp only [Cu,Bc (n:=n)];rfl
theorem Dd {t:Ty} {g:Bool} {v:V}:keyOf (bh c1 c2 c3 c4 c5 c6) t g v=keyOf ew t g v:=by simp only [keyOf,jH]
theorem Bd {t : Ty} : ∀ {vs : List V}, qG (bh c1 c2 c3 c4 c5 c6) bl t vs = qG ew bl t vs
 |[]=>rfl
 |v::r=>by simp only [qG,jH,Bd (vs:=r)]
theorem mR : ∀ {t : Ty} {x : t.den} {p : List Bool} {vs : List V}, cL (bh c1 c2 c3 c4 c5 c6) bl t x p vs = cL ew bl t x p vs
 |t,x,[],vs=>by cases t<;>simp only [cL,jH]
 | .prod a b,x,false::p,vs=>by simp only [cL,mR (t:=a)]
 | .prod a b,x,true::p,vs=>by simp only [cL,mR (t:=b)]
 | .unit,_,_::_,_=>by simp [cL]
 | .bool,_,_::_,_=>by simp [cL]
 | .str,_,_::_,_=>by simp [cL]
 | .int _,_,_::_,_=>by simp [cL]
 | .list _,_,_::_,_=>by simp [cL]
 | .cq _ _ _,_,_::_,_=>by simp [cL]
theorem rj {t:Ty} {v:V}:elems (bh c1 c2 c3 c4 c5 c6) bl t v=elems ew bl t v:=by cases v<;>rfl
theorem wP:∀{ks:List Kd} {xs ys:List V},aH (bh c1 c2 c3 c4 c5 c6) ks xs ys=aH ew ks xs ys:=by
 intro ks
 induction ks with
 |nil=>intro xs ys;cases xs<;>cases ys<;>rfl
 |cons k ks ih =>
  intro xs ys
  cases xs with
  |nil=>cases k<;>rfl
  |cons x xs =>
   cases ys with
   |nil=>cases k<;>cases x<;>rfl
   |cons y ys=>cases k<;>cases x<;>cases y<;>first|rfl|(simp only [aH,ih];rfl)
theorem wQ {mx:Bool} {k:IntKind}:∀{ys:List V} {a:Int},iO (bh c1 c2 c3 c4 c5 c6) mx k a ys=iO ew mx k a ys:=by
 intro ys
 induction ys with
 |nil=>intro a;rfl
 |cons y ys ih=>intro a;cases y<;>first|rfl|(simp only [iO,ih];rfl)
theorem Mb {e:gw} {vs:List V} {aC:Nat}:iV (bh c1 c2 c3 c4 c5 c6) e vs bl aC=iV ew e vs bl aC:=by
 cases e<;>first|rfl|(simp only [iV,rj,Dd,qZ];done)|(simp only [iV,rj,Dd,qZ];rfl)
theorem wR {f g : Nat → Option V} (h : ∀ n, f n = g n) : ∀ ns, AH f ns = AH g ns
 |[]=>rfl
 |n::r=>by simp only [AH,h n,wR h r]
theorem QB {vs:List V} {j:Int}:Lh (bh c1 c2 c3 c4 c5 c6) vs j=Lh ew vs j:=rfl
theorem Be {cs : List V} : ∀ {l : List (Nat × Nat × Int)} {o : Nat}, Cv (bh c1 c2 c3 c4 c5 c6) cs l o = Cv ew cs l o
 |[],o=>rfl
 |(eE,len,j)::r,o=>by simp only [Cv,wR (fun n=>Be (l:=r) (o:=o+n * eE)),QB]
theorem Mc {i:I} {env:List (Nat×V)} {aC:Nat}:bZ (bh c1 c2 c3 c4 c5 c6) i env bl aC=bZ ew i env bl aC:=by
 cases i<;>first|rfl|(simp only [bZ,Bd,mR,rj,wP,wQ,Mb,qZ,Bc,Be];done)|(simp only [bZ,Bd,mR,rj,wP,wQ,Mb,qZ,Bc,Be];rfl)
theorem Md {i:I} {env:List (Nat×V)} {aC:Nat}:yH (bh c1 c2 c3 c4 c5 c6) i env bl aC=yH ew i env bl aC:=by
 cases i<;>first|rfl|(simp only [yH,mR,jH];done)|(simp only [yH,mR,jH];rfl)
theorem Wc {id:Nat}:Zv (bh c1 c2 c3 c4 c5 c6) id bl=Zv ew id bl:=by
 unfold Zv
 split
 ·simp only [mR];rfl
 ·rfl
end
theorem Me {c1 : Nat → List V → aF → (V → aF → Prop) → Prop} {c2 : Nat → List V → V → Prop} {c3 : C → St → (Ex → St → Prop) → Prop}
  {c4:Nat→List V→aF→(V→aF→Prop)→Prop} {c5:O→List Nat→C→C→St→(Ex→St→Prop)→Prop} {c6:C→St→(Ex→St→Prop)→Prop}:∀{ids:List Nat} {bl:ah},KY (bh c1 c2 c3 c4 c5 c6) ids bl=KY ew ids bl
 |[],_=>rfl
 |id::r,bl=>by simp only [KY,Wc,Me (ids:=r)]
def aay (ar:Ar) (x:O) (env:List (Nat×V)) (bl:ah) (aC:Nat):Out:=some ([],x.ev env,[])
def QC (ar:Ar) (c:O) (a:O) (b:O) (env:List (Nat×V)) (bl:ah) (aC:Nat):Out :=
  match c.ev env with
  | .tf true=>some ([],a.ev env,[])
  | .tf false=>some ([],b.ev env,[])
  | .bool c=>match Ji (a.ev env),Ji (b.ev env) with
   |some x,some y=>some ([],.bool (ar.E1 c x y),[])
   |_,_=>none
  |_=>none
def Mf (ar:Ar) (z:List V) (env:List (Nat×V)) (bl:ah) (aC:Nat):Out:=some ([],.ptr aC 0,[(aC,some (.cells z false))])
def Wd (ar:Ar) (x:O) (env:List (Nat×V)) (bl:ah) (aC:Nat):Out:=match (x.ev env).cells? with
  |some cs=>some ([],.ptr aC 0,[(aC,some (.cells cs false))])
  |none=>none
def Mh (ar:Ar) (z:List V) (parts:List (Nat×Nat×O)) (env:List (Nat×V)) (bl:ah) (aC:Nat):Out:=match tK parts env z with
  |some cs=>some ([],.agg cs,[])
  |none=>none
def Jz (ar:Ar) (t:Ty) (xs:List O) (env:List (Nat×V)) (bl:ah) (aC:Nat):Out:=match qG ar bl t (xs.map (·.ev env)) with
  |some (ys,u)=>some ([],.sl aC t 0 xs.length,u++[(aC,some (.arr t ys false))])
  |none=>none
def QD (ar:Ar) (agg:Bool) (k:Nat) (x:O) (env:List (Nat×V)) (bl:ah) (aC:Nat):Out :=
  match x.ev env with
  | .ptr id off=>match au id bl with
   |some (.cells cs _)=>match cut off k cs with
    |some vs=>match cn agg vs with
     |some v=>some ([],v,[])
     |none=>none
    |none=>none
   |_=>none
  | .ff cs=>match cut 0 k cs with
   |some vs=>match cn agg vs with
    |some v=>some ([],v,[])
    |none=>none
   |none=>none
  | .ep id t i p=>match au id bl with
   |some (.arr t' xs _)=>if t=t' then
     match pF t' (ar.get t'.zero xs i) p with
     |some ⟨t2,y⟩=>match cw t2 y with
      |vs=>if vs.length=k then (match cn agg vs with
       |some v=>some ([ar.KV i (ar.len xs)],v,[])
       |none=>none) else none
     |none=>none
    else none
   |some (.mz t' xs i' p' v)=>if t=t'∧p=p'∧k=1 then (match agg with
    |false=>some ([ar.eq (Int.ofNat i) (Int.ofNat i')],v,[])
    |true=>none) else none
   |_=>none
  | .ip t y=>match cw t y with
   |vs=>if vs.length=k then (match cn agg vs with
    |some v=>some ([],v,[])
    |none=>none) else none
  | .pa id t m=>match au id bl with
   |some (.arr t' xs _)=>if t=t' then (match Cu ar t' xs m 0 with
    |vs=>if vs.length=k then (match cn agg vs with
     |some v=>some ([],v,[])
     |none=>none) else none) else none
   |_=>none
  | .sp id o l=>match au id bl with
   |some (.cells cs _)=>match k with
    |1=>match Cv ar cs l o with
     |some v=>match cn agg [v] with
      |some v=>some ([],v,[])
      |none=>none
     |none=>none
    |_=>none
   |_=>none
  |_=>none
def Mi (ar:Ar) (k:Nat) (a:O) (x:O) (env:List (Nat×V)) (bl:ah) (aC:Nat):Out :=
  match (x.ev env).cells? with
  |none=>none
  |some vs=>if vs.length=k then
   (match a.ev env with
   | .ptr id off=>match au id bl with
    |some (.cells cs false)=>match qH off vs cs with
     |some cs'=>some ([],.any,[(id,some (.cells cs' false))])
     |none=>none
    |_=>none
   | .ep id t i p=>match au id bl with
    |some (.arr t' xs false)=>if t=t' then
      match cL ar bl t' (ar.get t'.zero xs i) p vs with
      |some (y,u)=>match tN id u with
       |true=>some ([ar.KV i (ar.len xs)],.any,u++[(id,some (.arr t' (ar.set xs i y) false))])
       |false=>none
      |none=>none
     else none
    |_=>none
   | .pa id t m=>match au id bl with
    |some (.arr t' xs false)=>if t=t' then
      match lK ar bl t' m vs with
      |some (ys,u)=>match tN id u with
       |true=>some ([],.any,u++[(id,some (.arr t' ys false))])
       |false=>none
      |none=>none
     else none
    |_=>none
   |_=>none) else none
def We (ar:Ar) (op:yE) (x:O) (y:O) (env:List (Nat×V)) (bl:ah) (aC:Nat):Out :=
  match x.ev env,y.ev env with
  | .int k a,.int k' b=>match op with
   | .shl=>zi ar .shl k a b
   | .shr=>zi ar .shr k a b
   |_=>if k=k' then E3 ar op k a b else none
  | .str a,.str b=>E4 ar op a b
  |_,_=>none
def Wg (ar:Ar) (neg:Bool) (x:O) (y:O) (env:List (Nat×V)) (bl:ah) (aC:Nat):Out:=match Ji (x.ev env),Ji (y.ev env) with
  |some a,some b=>some ([],.bool (match neg with|true=>ar.sB (ar.beq a b)|false=>ar.beq a b),[])
  |_,_=>none
def Wh (ar:Ar) (neg:Bool) (ks:List Kd) (x:O) (y:O) (env:List (Nat×V)) (bl:ah) (aC:Nat):Out :=
  match x.ev env,y.ev env with
  | .agg xs,.agg ys=>match aH ar ks xs ys with
   |some c=>some ([],.bool (match neg with|true=>ar.sB c|false=>c),[])
   |none=>none
  |_,_=>none
def Wi (ar:Ar) (x:O) (env:List (Nat×V)) (bl:ah) (aC:Nat):Out:=match x.ev env with
  | .int k a=>match k.signed with
   |true=>match ar.sub 0 a with|z=>some ([ar.gH k z],.int k z,[])
   |false=>some ([],.int k (ar.wr k (ar.sub 0 a)),[])
  |_=>none
def Wj (ar:Ar) (x:O) (env:List (Nat×V)) (bl:ah) (aC:Nat):Out:=match x.ev env with
  | .tf b=>some ([],.tf (!b),[])
  | .bool b=>some ([],.bool (ar.sB b),[])
  |_=>none
def QE (ar:Ar) (k:IntKind) (x:O) (env:List (Nat×V)) (bl:ah) (aC:Nat):Out:=match x.ev env with
  | .int _ n=>some ([ar.gH k n],.int k n,[])
  |_=>none
def Wk (ar:Ar) (off:Nat) (path:List Bool) (x:O) (env:List (Nat×V)) (bl:ah) (aC:Nat):Out:=match x.ev env with
  | .ptr id o=>some ([],.ptr id (o+off),[])
  | .ff cs=>if off≤cs.length then some ([],.ff (cs.drop off),[]) else none
  | .ep id t i p=>match t.qD p with
   |some t1=>if t1.bA path=off then (match t1.qD path with
    |some _=>some ([],.ep id t i (p++path),[])
    |none=>none) else none
   |none=>none
  | .ip t y=>if t.bA path=off then (match pF t y path with
   |some ⟨t2,z⟩=>some ([],.ip t2 z,[])
   |none=>none) else none
  | .pa id t m=>if (off / t.sz) * t.sz=off∧off / t.sz<m then some ([],.ep id t (off / t.sz) [],[]) else none
  | .kQ t xs=>if (off / t.sz) * t.sz=off then some ([ar.KV (off / t.sz) (ar.len xs)],.ip t (ar.get t.zero xs (off / t.sz)),[]) else none
  | .sp id o l=>some ([],.sp id (o+off) l,[])
  |_=>none
def Mj (ar:Ar) (agg:Bool) (off:Nat) (k:Nat) (x:O) (env:List (Nat×V)) (bl:ah) (aC:Nat):Out:=match x.ev env with
  | .agg cs=>match cut off k cs with
   |some vs=>match cn agg vs with
    |some v=>some ([],v,[])
    |none=>none
   |none=>none
  |_=>none
def Wl (ar:Ar) (eE:Nat) (x:O) (i:O) (env:List (Nat×V)) (bl:ah) (aC:Nat):Out :=
  match i.ev env with
  | .int _ n=>match x.ev env with
   | .sl id t lo m=>if t.sz=eE then some ([ar.fh n (Int.ofNat m)],.ep id t (ar.E2 lo (ar.sC n)) [],[]) else none
   | .eH t xs=>if t.sz=eE then some ([ar.fh n (Int.ofNat (ar.len xs))],.ip t (ar.get t.zero xs (ar.sC n)),[]) else none
   |_=>none
  |_=>none
def QF (ar:Ar) (len:Nat) (eE:Nat) (x:O) (i:O) (env:List (Nat×V)) (bl:ah) (aC:Nat):Out :=
  match x.ev env with
  | .pa id t m=>match i.ev env with
   | .int _ j=>if t.sz=eE∧m=len then some ([ar.fh j (Int.ofNat len)],.ep id t (ar.sC j) [],[]) else none
   |_=>none
  | .kQ t xs=>match i.ev env with
   | .int _ j=>if t.sz=eE then some ([ar.fh j (Int.ofNat len),ar.fh j (Int.ofNat (ar.len xs))],.ip t (ar.get t.zero xs (ar.sC j)),[]) else none
   |_=>none
  | .ptr id o=>match i.ev env with
   | .int _ j=>some ([ar.fh j (Int.ofNat len)],.sp id o [(eE,len,j)],[])
   |_=>none
  | .sp id o l=>match i.ev env with
   | .int _ j=>some ([ar.fh j (Int.ofNat len)],.sp id o ((eE,len,j)::l),[])
   |_=>none
  | .ff cs=>match i.ev env with
   | .int _ (.ofNat n)=>if n<len then (if n * eE≤cs.length then some ([],.ff (cs.drop (n * eE)),[]) else none) else none
   |_=>none
  |_=>none
def Wm (ar:Ar) (k:Nat) (x:O) (env:List (Nat×V)) (bl:ah) (aC:Nat):Out:=match x.ev env with
  | .cI vs=>match vs[k]? with
   |some v=>some ([],v,[])
   |none=>none
  |_=>none
def Wn (ar:Ar) (x:O) (env:List (Nat×V)) (bl:ah) (aC:Nat):Out:=match x.ev env with
  | .sl _ _ _ n=>some ([],.int .i64 (Int.ofNat n),[])
  | .eH _ xs=>some ([],.int .i64 (Int.ofNat (ar.len xs)),[])
  | .bY=>some ([],.int .i64 0,[])
  |_=>none
def QG (ar:Ar) (x:O) (env:List (Nat×V)) (bl:ah) (aC:Nat):Out:=match x.ev env with
  | .str s=>some ([],.int .i64 (ar.Jh s),[])
  |_=>none
def QH (ar:Ar) (n:Nat) (env:List (Nat×V)) (bl:ah) (aC:Nat):Out:=some ([],.int .i64 (Int.ofNat n),[])
def JA (ar:Ar) (eE:Nat) (x:O) (y:O) (env:List (Nat×V)) (bl:ah) (aC:Nat):Out :=
  match x.ev env with
  | .bY=>match E5 (y.ev env) with
   |some t=>if t.sz=eE then
     (match elems ar bl t (y.ev env) with
     |some ys=>match ar.len ys with
      |m=>some ([ar.KV m cg],.sl aC t 0 m,[(aC,some (.arr t ys false))])
     |none=>none) else none
   |none=>none
  | .sl id t lo n=>if t.sz=eE then
   (match au id bl with
   |some (.arr t' xs false)=>if t'=t then
    (match jR t' t xs with
    |some xs'=>match elems ar bl t (y.ev env) with
     |some ys=>match ar.E2 n (ar.len ys) with
      |m=>some ([ar.KV m cg],.sl aC t 0 m,[(id,none),(aC,some (.arr t (ar.app (ar.sub' xs' lo n) ys) false))])
     |none=>none
    |none=>none) else none
   |_=>none) else none
  |_=>none
def FA (ar:Ar) (t:Ty) (n:O) (env:List (Nat×V)) (bl:ah) (aC:Nat):Out:=match n.ev env with
  | .int _ z=>match ar.sC z with
   |m=>some ([ar.fh z (Int.ofNat cg)],.sl aC t 0 m,[(aC,some (.arr t (ar.rep m t.zero) false))])
  |_=>none
def QI (ar:Ar) (f:Nat) (a:List O) (b:List O) (env:List (Nat×V)) (bl:ah) (aC:Nat):Out:=some ([],.fn f (a.map (·.ev env)) (b.map (·.ev env)),[])
def Mk (ar:Ar) (eE:Nat) (x:O) (lo:Option O) (hi:Option O) (mx:Option O) (env:List (Nat×V)) (bl:ah) (aC:Nat):Out :=
  match mx with
  |some m=>match hi with
   |some h=>match qc (m.ev env),qc (h.ev env),cz env 0 lo with
    |some a,some b,some c=>match x.ev env with
     | .sl _ _ _ _=>some ([ar.eq a 0,ar.eq b 0,ar.eq c 0],.bY,[])
     | .eH _ _=>some ([ar.eq a 0,ar.eq b 0,ar.eq c 0],.bY,[])
     | .bY=>some ([ar.eq a 0,ar.eq b 0,ar.eq c 0],.bY,[])
     |_=>none
    |_,_,_=>none
   |none=>none
  |none =>
   match x.ev env with
   | .sl id t l n=>if t.sz=eE then
    (match cz env 0 lo,cz env (Int.ofNat n) hi with
    |some a,some b=>some ([ar.le 0 a,ar.le a b,ar.le b (Int.ofNat n)],.sl id t (ar.E2 l (ar.sC a)) (ar.Lg (ar.sC b) (ar.sC a)),[])
    |_,_=>none) else none
   | .eH t xs=>if t.sz=eE then
    (match cz env 0 lo,cz env (Int.ofNat (ar.len xs)) hi with
    |some a,some b=>some ([ar.le 0 a,ar.le a b,ar.le b (Int.ofNat (ar.len xs))],.eH t (ar.sub' xs (ar.sC a) (ar.Lg (ar.sC b) (ar.sC a))),[])
    |_,_=>none) else none
   | .bY=>(match cz env 0 lo,cz env 0 hi with
    |some a,some b=>some ([ar.eq a 0,ar.eq b 0],.bY,[])
    |_,_=>none)
   |_=>none
def JB (ar:Ar) (mx:Bool) (x:O) (ys:List O) (env:List (Nat×V)) (bl:ah) (aC:Nat):Out:=match x.ev env with
  | .int k a=>match iO ar mx k a (ys.map (·.ev env)) with
   |some z=>some ([],.int k z,[])
   |none=>none
  |_=>none
def Uk (ar:Ar) (i:I) (env:List (Nat×V)) (bl:ah) (aC:Nat):Out:=match i with
 | .mv x=>aay ar x env bl aC
 | .pick c a b=>QC ar c a b env bl aC
 | .alloc z=>Mf ar z env bl aC
 | .box x=>Wd ar x env bl aC
 | .build z parts=>Mh ar z parts env bl aC
 | .dU t xs=>Jz ar t xs env bl aC
 | .load agg k x=>QD ar agg k x env bl aC
 | .store k a x=>Mi ar k a x env bl aC
 | .bin op x y=>We ar op x y env bl aC
 | .P3 neg x y=>Wg ar neg x y env bl aC
 | .eqs neg ks x y=>Wh ar neg ks x y env bl aC
 | .neg x=>Wi ar x env bl aC
 | .not x=>Wj ar x env bl aC
 | .conv k x=>QE ar k x env bl aC
 | .mB off path x=>Wk ar off path x env bl aC
 | .field agg off k x=>Mj ar agg off k x env bl aC
 | .idx eE x i=>Wl ar eE x i env bl aC
 | .yF len eE x i=>QF ar len eE x i env bl aC
 | .ext k x=>Wm ar k x env bl aC
 | .len x=>Wn ar x env bl aC
 | .lens x=>QG ar x env bl aC
 | .yG n=>QH ar n env bl aC
 | .append eE x y=>JA ar eE x y env bl aC
 | .iN t n=>FA ar t n env bl aC
 | .AE f a b=>QI ar f a b env bl aC
 | .slice eE x lo hi mx=>Mk ar eE x lo hi mx env bl aC
 | .lC mx x ys=>JB ar mx x ys env bl aC
 | .ex e xs=>iV ar e (xs.map (·.ev env)) bl aC
theorem Ml {ar:Ar} {i:I} {env:List (Nat×V)} {bl:ah} {aC:Nat}:Uk ar i env bl aC=bZ ar i env bl aC:=by cases i<;>rfl
structure Rn where
 call:Nat→List V→aF→Option (V×aF)
 round:Nat→List V→aF→Option (V×aF)
 gL:Nat→List V→Option V
 loop:Nat→Option Nat→C→St→Option (Ex×St)
section
variable {P:Program} {N:Nat} {Y:Ctx} {ι ι':ai} {μ μ':Mu} {H:aF} {w w':World} {out:Option Nat} {base:Nat}
structure RnOk (P:Program) (rn:Rn):Prop where
 call:∀{f vs H v H'},rn.call f vs H=some (v,H')→gN P f vs H fun v2 H2=>v2=v∧H2=H'
 round:∀{id vs H v H'},rn.round id vs H=some (v,H')→around P id vs H fun v2 H2=>v2=v∧H2=H'
 gL:∀{f vs v},rn.gL f vs=some v→gL P f vs v
 loop:∀{N out base c S e S' K},rn.loop N out c S=some (e,S')→K e S'→∃n,unr (fI P N out base) c n S K
 mixed:P.follows .mixedOrders=true
theorem Bf {ar : Ar} {d : Option Nat} {i : I} {S : St} {K : St → Prop} {ob : List Bool} {v : V} {u : eA} (ag : bZ ar i S.env S.H.bl S.H.next = some (ob, v, u)) (cV : uw ob)
  (hk:K ⟨put d v S.env,⟨KZ i.lays S.H.next,bw u S.H.bl⟩,S.ms⟩):wpOp ar d i S K:=by
 refine .inl ?_
 unfold qI
 rw [ag]
 cases ob with
 |nil=>exact hk
 |cons b r=>exact ⟨cV,hk⟩
theorem Wo {ar : Ar} {d : Option Nat} {i : I} {S : St} {K : St → Prop} {ob : List Bool} {v : V} {u : eA} (ag : yH ar i S.env S.H.bl S.H.next = some (ob, v, u)) (cV : uw ob)
  (hk:K ⟨put d v S.env,⟨KZ i.lays S.H.next,bw u S.H.bl⟩,S.ms⟩):wpOp ar d i S K:=by
 refine .inr (.inl ?_)
 unfold qI
 rw [ag]
 cases ob with
 |nil=>exact hk
 |cons b r=>exact ⟨cV,hk⟩
theorem Wp {ar : Ar} {d : Option Nat} {i : I} {S : St} {K : St → Prop} {ob : List Bool} {v : V} {u u' : eA} {ids : List Nat} (hu : KY ar ids S.H.bl = some u') (ag : bZ ar i S.env (bw u' S.H.bl) S.H.next = some (ob, v, u)) (cV : uw ob)
  (hk:K ⟨put d v S.env,⟨KZ i.lays S.H.next,bw u (bw u' S.H.bl)⟩,S.ms⟩):wpOp ar d i S K:=by
 refine .inr (.inr ⟨ids,u',hu,?_⟩)
 unfold qI
 rw [ag]
 cases ob with
 |nil=>exact hk
 |cons b r=>exact ⟨cV,hk⟩
end
end Go.AM
end
section
namespace Go.AM
open Go.RowKit
def j7 (P : Program) (g : TypeId → Ty → Bool) : Nat → List Field → Ty → Bool
 |_,[],.unit=>true
 |off,[f],ty=>Nat.beq f.offset off&&Nat.beq (P.cellsOf f.type) ty.sz&&g f.type ty
 |off,f::f2::r,.prod a b=>Nat.beq f.offset off&&Nat.beq (P.cellsOf f.type) a.sz&&g f.type a&&j7 P g (off+a.sz) (f2::r) b
 |_,_,_=>false
def zO (P:Program) (g:TypeId→Ty→Bool) (fs:List Field) (ty:Ty):Bool:=match fs with
 |[f]=>match ty with
  | .prod a .unit=>j7 P g 0 [f] a
  |_=>false
 |fs=>j7 P g 0 fs ty
def zP (P : Program) (g : TypeId → Ty → Bool) : Nat → TypeId → Ty → Bool
 |0,_,.unit=>true
 |1,e,ty=>Nat.beq (P.cellsOf e) ty.sz&&g e ty
 |n+2,e,.prod a b=>Nat.beq (P.cellsOf e) a.sz&&g e a&&zP P g (n+1) e b
 |_,_,_=>false
def fL (P : Program) : Nat → TypeId → Ty → Bool
 |0,_,_=>false
 |n+1,t,ty=>match P.underlying t with
  |some .bool=>match ty with | .bool=>true|_=>false
  |some (.int k)=>match ty with | .int k'=>decide (k=k')|_=>false
  |some .string=>match ty with | .str=>true|_=>false
  |some (.slice e)=>match ty with | .list te=>Nat.beq (P.cellsOf e) te.sz&&Nat.blt 0 te.sz&&fL P n e te|_=>false
  |some (.struct fs)=>Nat.beq (P.cellsOf t) ty.sz&&zO P (fL P n) fs.toList ty
  |some (.array m e)=>Nat.beq (P.cellsOf t) ty.sz&&zP P (fL P n) m e ty
  |_=>false
def Wf : (t : Ty) → t.den → Prop
 | .unit,_=>True
 | .bool,_=>True
 | .str,s=>s.size≤maxLen
 | .int k,n=>k.min≤n∧n≤k.max
 | .list t,xs=>xs.length≤maxLen∧∀x∈xs,Wf t x
 | .prod a b,x=>Wf a x.1∧Wf b x.2
 | .cq _ _ a,x=>Wf a x
def jy (w:World):ai:=fun b o=>w.cell? ⟨b,o,none⟩
section
variable {H:Type} {enc:TypeId×Value→H} {P:Program} {w:World} {sp:Nat→Bool} {held:Bool}
theorem Bg {b o:Nat} {a:Addr} {n:Nat} {cs:List Value} (ha:a=⟨b,o,none⟩∨0<n) (hb:a.block=b) (ho:a.off=o) (h:w.cells? 0 a n=some cs):cs.length=n∧Reads (jy w) b o cs∧(0<n→a.spot=none):=by
 unfold World.cells? at h
 rw [if_pos (Nat.zero_le _)] at h
 have key:∀(m:Nat) (xs:List Nat) (cs:List Value),xs.mapM (fun i=>w.cell? (a.add i))=some cs→cs.length=xs.length∧∀(j i:Nat),xs[j]?=some i→w.cell? (a.add i)=cs[j]?:=by
  intro m xs
  induction xs with
  |nil=>intro cs h;simp at h;subst h;exact ⟨rfl,fun j i hj=>by simp at hj⟩
  |cons x xs ih =>
   intro cs h
   rw [List.mapM_cons] at h
   cases hx:w.cell? (a.add x) with
   |none=>simp [hx] at h
   |some v =>
    cases hr:xs.mapM (fun i=>w.cell? (a.add i)) with
    |none=>simp [hx,hr] at h
    |some vs =>
     simp [hx,hr] at h
     subst h
     obtain ⟨h1,h2⟩:=ih vs hr
     refine ⟨by simp [h1],fun j i hj=>?_⟩
     cases j with
     |zero=>simp at hj;subst hj;simpa using hx
     |succ j=>simpa using h2 j i (by simpa using hj)
 obtain ⟨h1,h2⟩:=key 0 _ _ h
 have hlen:cs.length=n:=by simpa using h1
 have Mm:0<n→a.spot=none:=fun hn=>by
  have:=h2 0 0 (by simp [hn])
  simp only [Addr.add,if_true] at this
  have hc:∃v,w.cell? a=some v:=⟨cs[0]'(by omega),by rw [this];simp⟩
  obtain ⟨v,hv⟩:=hc
  unfold World.cell? at hv
  cases hs:a.spot with
  |none=>rfl
  |some s=>rw [hs] at hv;split at hv<;>simp at hv
 refine ⟨hlen,fun j v hv=>?_,Mm⟩
 have hj:j<cs.length:=(List.getElem?_eq_some_iff.1 hv).1
 have:=h2 j j (by rw [List.getElem?_range (by omega)])
 rw [hv] at this
 unfold jy
 have e:a.add j=⟨b,o+j,none⟩:=by
  have hs:=Mm (by omega)
  unfold Addr.add
  subst hb;subst ho
  split
  ·rename_i h0;subst h0;cases a;simp_all
  ·rfl
 rw [e] at this
 exact this
theorem HB {α : Type} {D : α → List Value → Prop} : ∀ (n : Nat) (f : Nat → α) (g : Nat → List Value), (∀ i, i < n → D (f i) (g i)) → bu D ((List.range n).map f) ((List.range n).flatMap g)
 |0,_,_,_=>rfl
 |n+1,f,g,h=>by
  rw [List.range_succ,List.map_append,List.flatMap_append]
  exact (HB n f g fun i hi=>h i (by omega)).append ⟨g n,[],by simp,h n (by omega),rfl⟩
theorem QJ {k:IntKind} {n:Int} (h:(Lit.int k n).wf=true):k.min≤n∧n≤k.max:=by
 simpa [Lit.wf] using h
theorem qk {n : Nat} (ih : ∀ {t : TypeId} {ty : Ty}, fL P n t ty = true → ∀ {fuel : Nat} {cs : List Value} {x : DataW H × List MemPlace}, DataW.trod enc P w 0 sp held fuel t cs = some x → ∃ y : ty.den, af (jy w) ty y cs ∧ Wf ty y)
  {fuel:Nat} {cs:List Value}:∀{fs:List Field} {off:Nat} {ty:Ty},j7 P (fL P n) off fs ty=true→cs.length=off+ty.sz →
   (∀f∈fs,∃x,DataW.trod enc P w 0 sp held fuel f.type ((cs.drop f.offset).take (P.cellsOf f.type))=some x)→∃y:ty.den,af (jy w) ty y (cs.drop off)∧Wf ty y
 |[],off,ty,h,hl,_=>by
  cases ty<;>simp [j7] at h
  exact ⟨(),by simp [af];simp [Ty.sz] at hl;omega,trivial⟩
 |[f],off,ty,h,hl,hf=>by
  have h':(Nat.beq f.offset off&&Nat.beq (P.cellsOf f.type) ty.sz&&fL P n f.type ty)=true:=by
   cases ty<;>simpa [j7] using h
  simp only [Bool.and_eq_true] at h'
  obtain ⟨⟨h1,h2⟩,h3⟩:=h'
  have e1:=Nat.eq_of_beq_eq_true h1
  have e2:=Nat.eq_of_beq_eq_true h2
  obtain ⟨x,hx⟩:=hf f (List.mem_singleton_self _)
  rw [e1,e2,List.take_of_length_le (by simp;omega)] at hx
  exact ih h3 hx
 |f::f2::r,off,ty,h,hl,hf=>by
  cases ty<;>simp only [j7,Bool.false_eq_true] at h
  rename_i a b
  simp only [Bool.and_eq_true] at h
  obtain ⟨⟨⟨h1,h2⟩,h3⟩,h4⟩:=h
  have e1:=Nat.eq_of_beq_eq_true h1
  have e2:=Nat.eq_of_beq_eq_true h2
  obtain ⟨x,hx⟩:=hf f (List.mem_cons_self ..)
  rw [e1,e2] at hx
  obtain ⟨y,hy,wy⟩:=ih h3 hx
  simp only [Ty.sz] at hl
  obtain ⟨z,hz,wz⟩:=qk ih h4 (by omega) (fun g hg=>hf g (List.mem_cons_of_mem _ hg))
  refine ⟨(y,z),⟨_,_,?_,hy,hz⟩,wy,wz⟩
  rw [←List.drop_drop,List.take_append_drop]
theorem HC {n : Nat} (ih : ∀ {t : TypeId} {ty : Ty}, fL P n t ty = true → ∀ {fuel : Nat} {cs : List Value} {x : DataW H × List MemPlace}, DataW.trod enc P w 0 sp held fuel t cs = some x → ∃ y : ty.den, af (jy w) ty y cs ∧ Wf ty y)
  {fuel:Nat} {cs:List Value} {e:TypeId}:∀{m i:Nat} {ty:Ty},zP P (fL P n) m e ty=true→cs.length=i * P.cellsOf e+ty.sz →
   (∀j,i≤j→j<i+m→∃x,DataW.trod enc P w 0 sp held fuel e ((cs.drop (j * P.cellsOf e)).take (P.cellsOf e))=some x)→∃y:ty.den,af (jy w) ty y (cs.drop (i * P.cellsOf e))∧Wf ty y
 |0,i,ty,h,hl,_=>by
  cases ty<;>simp [zP] at h
  exact ⟨(),by simp [af];simp [Ty.sz] at hl;omega,trivial⟩
 |1,i,ty,h,hl,hf=>by
  have h':(Nat.beq (P.cellsOf e) ty.sz&&fL P n e ty)=true:=by
   cases ty<;>simpa [zP] using h
  simp only [Bool.and_eq_true] at h'
  have e2:=Nat.eq_of_beq_eq_true h'.1
  obtain ⟨x,hx⟩:=hf i (Nat.le_refl _) (by omega)
  rw [List.take_of_length_le (by rw [List.length_drop];omega)] at hx
  exact ih h'.2 hx
 |m+2,i,ty,h,hl,hf=>by
  cases ty<;>simp only [zP,Bool.false_eq_true] at h
  rename_i a b
  simp only [Bool.and_eq_true] at h
  obtain ⟨⟨h1,h3⟩,h4⟩:=h
  have e2:=Nat.eq_of_beq_eq_true h1
  obtain ⟨x,hx⟩:=hf i (Nat.le_refl _) (by omega)
  obtain ⟨y,hy,wy⟩:=ih h3 hx
  simp only [Ty.sz] at hl
  obtain ⟨z,hz,wz⟩:=HC ih h4 (i:=i+1) (by rw [Nat.add_mul];omega) (fun j h1 h2=>hf j (by omega) (by omega))
  refine ⟨(y,z),⟨_,_,?_,hy,hz⟩,wy,wz⟩
  rw [show (i+1) * P.cellsOf e=i * P.cellsOf e+P.cellsOf e by rw [Nat.add_mul];omega,←List.drop_drop,List.take_append_drop]
theorem Mn {n:Nat}:∀{t:TypeId} {ty:Ty},fL P n t ty=true→∀{fuel:Nat} {cs:List Value} {x:DataW H×List MemPlace},DataW.trod enc P w 0 sp held fuel t cs=some x→∃y:ty.den,af (jy w) ty y cs∧Wf ty y:=by
 induction n with
 |zero=>intro t ty h;cases h
 |succ n ih =>
  intro t ty h fuel cs x hx
  have hx0:=hx
  unfold fL at h
  split at h
  ·rename_i hu
   cases ty<;>simp at h
   cases fuel with
   |zero=>simp [DataW.trod] at hx
   |succ fuel =>
    rcases cs with _|⟨c,_|⟨c2,r⟩⟩
    ·simp [DataW.trod,hu] at hx
    ·cases c <;> simp [DataW.trod, hu] at hx
     exact ⟨_,rfl,trivial⟩
    ·simp [DataW.trod,hu] at hx
  ·rename_i k hu
   cases ty<;>simp at h
   subst h
   cases fuel with
   |zero=>simp [DataW.trod] at hx
   |succ fuel =>
    rcases cs with _|⟨c,_|⟨c2,r⟩⟩
    ·simp [DataW.trod,hu] at hx
    ·cases c <;> simp [DataW.trod, hu] at hx
     obtain ⟨⟨rfl,h2⟩,_⟩:=hx
     exact ⟨_,rfl,QJ h2⟩
    ·simp [DataW.trod,hu] at hx
  ·rename_i hu
   cases ty<;>simp at h
   cases fuel with
   |zero=>simp [DataW.trod] at hx
   |succ fuel =>
    rcases cs with _|⟨c,_|⟨c2,r⟩⟩
    ·simp [DataW.trod,hu] at hx
    ·cases c <;> simp [DataW.trod, hu] at hx
     exact ⟨_,rfl,hx.1⟩
    ·simp [DataW.trod,hu] at hx
  ·rename_i e hu
   cases ty<;>simp only [Bool.false_eq_true] at h
   rename_i te
   simp only [Bool.and_eq_true] at h
   obtain ⟨⟨h1,h2⟩,h3⟩:=h
   have e1:=Nat.eq_of_beq_eq_true h1
   have hpos:0<te.sz:=by simpa using h2
   rcases DataW.trod_slice hu hx with ⟨rfl,rfl⟩|⟨a,len,cap,elems,rest,m,_,rfl,rfl,_,hlc,hm,hel,hE,_,_⟩
   ·exact ⟨[],⟨none,0,by simp,by simp,.inl rfl⟩,by simp,by simp⟩
   ·have each:∀i,i<len→∃(y:te.den) (us:List Value),af (jy w) te y us∧Wf te y∧us.length=te.sz∧Reads (jy w) a.block (a.off+i * te.sz) us∧(i=0→a.spot=none):=fun i hi=>by
     have:=hE i hi
     have hlt:i<elems.length:=by omega
     rw [List.getElem?_eq_getElem hlt,e1] at this
     cases hc:w.cells? 0 (a.add (i * te.sz)) te.sz with
     |none=>rw [hc] at this;simp at this
     |some us =>
      rw [hc,Option.bind_some] at this
      obtain ⟨y,hy,wy⟩:=ih h3 this
      have hb:(a.add (i * te.sz)).block=a.block:=by unfold Addr.add;split<;>rfl
      have ho:(a.add (i * te.sz)).off=a.off+i * te.sz:=by unfold Addr.add;split<;>simp_all
      obtain ⟨q1,q2,q3⟩:=Bg (.inr hpos) hb ho hc
      refine ⟨y,us,hy,wy,q1,q2,fun h0=>?_⟩
      subst h0
      have:=q3 hpos
      simpa [Addr.add] using this
    by_cases hl0:len=0
    ·subst hl0
     exact ⟨[],⟨some a,cap,rfl,by simp,.inl rfl⟩,by simp,by simp⟩
    ·obtain ⟨f,hf⟩:∃f:Nat→te.den×List Value,∀i,i<len→af (jy w) te (f i).1 (f i).2∧Wf te (f i).1∧(f i).2.length=te.sz∧Reads (jy w) a.block (a.off+i * te.sz) (f i).2∧(i=0→a.spot=none) :=
      ⟨fun i=>if h:i<len then ((each i h).choose,(each i h).choose_spec.choose) else (te.zero,[]),fun i hi=>by simp only [hi,dif_pos];exact (each i hi).choose_spec.choose_spec⟩
     have Mm:=(hf 0 (by omega)).2.2.2.2 rfl
     have hrd:∀n,n≤len→((List.range n).flatMap fun i=>(f i).2).length=n * te.sz∧Reads (jy w) a.block a.off ((List.range n).flatMap fun i=>(f i).2):=fun n=>by
      induction n with
      |zero=>intro _;exact ⟨by simp,fun j v hv=>by simp at hv⟩
      |succ n ih2 =>
       intro hn
       obtain ⟨l1,l2⟩:=ih2 (by omega)
       obtain ⟨_,_,l3,l4,_⟩:=hf n (by omega)
       rw [List.range_succ,List.flatMap_append]
       simp only [List.flatMap_cons,List.flatMap_nil,List.append_nil]
       refine ⟨by rw [List.length_append,l1,l3,Nat.add_mul];simp,fun j v hv=>?_⟩
       rw [List.getElem?_append] at hv
       split at hv
       ·exact l2 j v hv
       ·rename_i hj
        have:=l4 _ _ hv
        rw [l1] at this hj
        rw [show a.off+n * te.sz+(j - n * te.sz)=a.off+j by omega] at this
        exact this
     refine ⟨(List.range len).map fun i=>(f i).1,⟨some a,cap,by simp,by simpa using hlc,.inr ⟨a.block,a.off,(List.range len).flatMap fun i=>(f i).2,by cases a;simp_all,(hrd len (Nat.le_refl _)).2,HB _ _ _ fun i hi=>(hf i hi).1⟩⟩,by simp;omega,fun x hx=>?_⟩
     obtain ⟨i,hi,rfl⟩:=List.mem_map.1 hx
     exact (hf i (List.mem_range.1 hi)).2.1
  ·rename_i fs hu
   simp only [Bool.and_eq_true] at h
   obtain ⟨h1,h2⟩:=h
   obtain ⟨xs,m,_,_,hl,ZD,hf⟩:=DataW.trod_struct hu hx
   have ZH:∀f∈fs.toList,∃y,DataW.trod enc P w 0 sp held m f.type ((cs.drop f.offset).take (P.cellsOf f.type))=some y:=fun f ZH=>by
    obtain ⟨i,hi⟩:=List.getElem?_of_mem ZH
    have hi':fs[i]?=some f:=by simpa using hi
    have hlt:i<xs.length:=by rw [ZD];exact (Array.getElem?_eq_some_iff.1 hi').1
    exact ⟨xs[i],by rw [hf i f hi'];simp⟩
   have hlen:cs.length=ty.sz:=by rw [hl,Nat.eq_of_beq_eq_true h1]
   unfold zO at h2
   split at h2
   ·rename_i f hfs
    split at h2<;>try (cases h2;done)
    rename_i a
    have:=qk ih (fuel:=m) (cs:=cs) h2 (by simpa [Ty.sz] using hlen) (fun f' hf'=>by rw [←hfs] at hf';exact ZH f' hf')
    obtain ⟨y,hy,wy⟩:=this
    exact ⟨(y,()),⟨cs,[],by simp,by simpa using hy,rfl⟩,wy,trivial⟩
   ·have := qk ih (fuel := m) (cs := cs) h2 (by simpa using hlen) ZH
    simpa using this
  ·rename_i m e hu
   simp only [Bool.and_eq_true] at h
   obtain ⟨h1,h2⟩:=h
   obtain ⟨xs,k,_,_,hl,ZD,hf⟩:=DataW.trod_array hu hx
   have:=HC ih (fuel:=k) (cs:=cs) (i:=0) h2 (by rw [hl,Nat.eq_of_beq_eq_true h1];simp) (fun j _ hj=>⟨xs[j]'(by omega),by rw [hf j (by omega)];simp⟩)
   simpa using this
  ·cases h
end
end Go.AM
end
section
namespace Go.AM
inductive EV (π : List Nat) : V → V → Prop
 |any (v):EV π .any v
 |tf (b):EV π (.tf b) (.tf b)
 |bool (b):EV π (.bool b) (.bool b)
 |tfb (b):EV π (.bool b) (.tf b)
 |int (k n):EV π (.int k n) (.int k n)
 |str (s):EV π (.str s) (.str s)
 |ez:EV π .ez .ez
 |cF:EV π .cF .cF
 |eW:EV π .eW .eW
 |eH (t xs):EV π (.eH t xs) (.eH t xs)
 |Wq (t):EV π (.eH t []) .bY
 |bY:EV π .bY .bY
 |sl (id i t lo n) (h:π[id]?=some i):EV π (.sl id t lo n) (.sl i t lo n)
 |Wr (id t lo):EV π (.sl id t lo 0) .bY
 |ptr (id i o) (h:π[id]?=some i):EV π (.ptr id o) (.ptr i o)
 |ep (id i t j p) (h:π[id]?=some i):EV π (.ep id t j p) (.ep i t j p)
 |yl (id i) (h:π[id]?=some i):EV π (.yl id) (.yl i)
 |ip (t x):EV π (.ip t x) (.ip t x)
 |ff (cs ds) (h:cs.length=ds.length) (h2:∀(i:Nat) v u,cs[i]?=some v→ds[i]?=some u→EV π v u):EV π (.ff cs) (.ff ds)
 | fn (f as as' cs cs') (h : as.length = as'.length) (h2 : ∀ (i : Nat) v u, as[i]? = some v → as'[i]? = some u → EV π v u)
   (h3:cs.length=cs'.length) (h4:∀(i:Nat) v u,cs[i]?=some v→cs'[i]?=some u→EV π v u):EV π (.fn f as cs) (.fn f as' cs')
 |agg (cs ds) (h:cs.length=ds.length) (h2:∀(i:Nat) v u,cs[i]?=some v→ds[i]?=some u→EV π v u):EV π (.agg cs) (.agg ds)
 |cI (cs ds) (h:cs.length=ds.length) (h2:∀(i:Nat) v u,cs[i]?=some v→ds[i]?=some u→EV π v u):EV π (.cI cs) (.cI ds)
 |cq (t v u) (h:EV π v u):EV π (.cq t v) (.cq t u)
 |cb (c):EV π (.cb c) (.cb c)
 |mp (id i) (h:π[id]?=some i):EV π (.mp id) (.mp i)
 |cB:EV π .cB .cB
 |pa (id i t n) (h:π[id]?=some i):EV π (.pa id t n) (.pa i t n)
 |kQ (t xs):EV π (.kQ t xs) (.kQ t xs)
def Cq (π:List Nat) (cs ds:List V):Prop:=cs.length=ds.length∧∀(i:Nat) v u,cs[i]?=some v→ds[i]?=some u→EV π v u
theorem Cq.nil {π:List Nat}:Cq π [] []:=⟨rfl,fun i v u h=>by simp at h⟩
theorem Cq.cons {π:List Nat} {v u:V} {cs ds:List V} (h:EV π v u) (hl:Cq π cs ds):Cq π (v::cs) (u::ds) :=
 ⟨by simp [hl.1],fun i w y hw hy=>by
  cases i with
  |zero=>simp at hw hy;subst hw;subst hy;exact h
  |succ i=>exact hl.2 i w y (by simpa using hw) (by simpa using hy)⟩
def EE (π:List Nat) (env' env:List (Nat×V)):Prop:=∀p∈env',EV π p.2 (get p.1 env)
def ZM (π:List Nat) (nx:Nat) (bl:ah) (id:Nat) (B:kP):Prop:=∃i,π[id]?=some i∧match B with
 | .cells cs fz=>∃ds,au i bl=some (.cells ds fz)∧Cq π cs ds
 | .arr t xs fz=>au i bl=some (.arr t xs fz)∨(xs=[]∧nx≤i)
 | .loop st j d env ps as bd N=>∃d0 jG,au i bl=some (.loop st j d0 jG ps as bd N)∧π[d]?=some d0∧EE π env jG
 | .ig=>au i bl=some .ig
 | .map kt kg vt vg es=>au i bl=some (.map kt kg vt vg es)
 | .mz t xs k p v=>∃u,au i bl=some (.mz t xs k p u)∧EV π v u
structure jl (base:Nat) (π:List Nat) (S S':St):Prop where
 pre:π.take base=List.range base
 nx:S'.H.next=π.length
 ms:S'.ms.map (fun i=>π[i]?)=S.ms.map some
 env:EE π S'.env S.env
 bl:∀p∈S'.H.bl,ZM π S.H.next S.H.bl p.1 p.2
 inj:∀p∈S'.H.bl,∀q∈S'.H.bl,π[p.1]?=π[q.1]?→p.1=q.1
section
variable {P:Program} {N:Nat} {Y:Ctx} {ι ι':ai} {μ μ':Mu} {H:aF} {w w':World} {out:Option Nat} {base:Nat} {π:List Nat}
theorem aG.eR {cs ds:List V} {xs:List Value} (h:cs.length=ds.length) (ih:∀(i:Nat) v u,cs[i]?=some v→ds[i]?=some u→∀{x:Value},Rel ι μ u x→Rel ι (μ.eR π) v x) (hr:aG ι μ ds xs):aG ι (μ.eR π) cs xs :=
 ⟨h.trans hr.1,fun i v x hv hx=>by
  have hi:i<ds.length:=by have:=(List.getElem?_eq_some_iff.1 hv).1;omega
  exact ih i v ds[i] hv (by simp [hi]) (hr.2 i ds[i] x (by simp [hi]) hx)⟩
theorem EV.rel {v' v:V} (h:EV π v' v):∀{x:Value},Rel ι μ v x→Rel ι (μ.eR π) v' x:=by
 induction h with
 |any v=>intro x _;exact .any _
 |tf b=>intro x hr;cases hr;exact .tf _
 |bool b=>intro x hr;cases hr;exact .bool _
 |tfb b=>intro x hr;cases hr;exact .bool _
 |int k n=>intro x hr;cases hr;exact .int _ _
 |str s=>intro x hr;cases hr;exact .str _
 |ez=>intro x hr;cases hr;exact .ez
 |cF=>intro x hr;cases hr;exact .cF
 |eW=>intro x hr;cases hr;exact .eW
 |eH t xs=>intro x hr;cases hr with|eH _ _ _ hd=>exact .eH t xs _ hd
 |Wq t=>intro x hr;cases hr;exact .eH _ _ _ ⟨_,0,rfl,Nat.le_refl _,.inl rfl⟩
 |bY=>intro x hr;cases hr;exact .bY _
 |sl id i t lo n hi =>
  intro x hr
  cases hr with
  |sl _ _ _ _ cap L hL h1 h2 h3=>exact .sl id t lo n cap L (by simp [Mu.eR,hi,hL]) h1 h2 h3
  |cC=>exact .cC _ _ _ _
 |Wr id t lo=>intro x hr;cases hr;exact .cC _ _ _ _
 |ptr id i o hi=>intro x hr;cases hr with|ptr _ _ L hL=>exact .ptr id o L (by simp [Mu.eR,hi,hL])
 |ep id i t j p hi=>intro x hr;cases hr with|ep _ _ _ _ L hL=>exact .ep id t j p L (by simp [Mu.eR,hi,hL])
 |yl id i hi=>intro x hr;cases hr with|yl _ L hL=>exact .yl id L (by simp [Mu.eR,hi,hL])
 |ip t y=>intro x hr;cases hr with|ip _ _ b o us h1 h2=>exact .ip t y b o us h1 h2
 |ff cs ds h h2 ih =>
  intro x hr
  cases hr with
  |ff _ b o gf h1 h3 h4 =>
   have hR:aG ι μ ds ((List.range ds.length).map gf):=⟨by simp,fun i v x hv hx=>by
    have hi:=(List.getElem?_eq_some_iff.1 hv).1
    simp [hi] at hx;subst hx;exact h3 i v hv⟩
   have gJ:=aG.eR h ih hR
   exact .ff cs b o gf (fun i hi => h1 i (by omega)) (fun i v hv => gJ.2 i v (gf i) hv (by
    have hi:=(List.getElem?_eq_some_iff.1 hv).1
    simp [show i<ds.length by omega])) h4
 |fn f as as' cs cs' h h2 h3 h4 ih1 ih2 =>
  intro x hr
  cases hr with
  |fn _ _ _ xs ys q1 q2 q3 q4 =>
   have r1:=aG.eR h ih1 (xs:=xs.toList) ⟨by simpa using q1,fun i v x hv hx=>q2 i v x hv (by simpa using hx)⟩
   have r2:=aG.eR h3 ih2 (xs:=ys.toList) ⟨by simpa using q3,fun i v x hv hx=>q4 i v x hv (by simpa using hx)⟩
   exact .fn f as cs xs ys (by simpa using r1.1) (fun i v x hv hx=>r1.2 i v x hv (by simpa using hx)) (by simpa using r2.1) (fun i v x hv hx=>r2.2 i v x hv (by simpa using hx))
 |agg cs ds h h2 ih =>
  intro x hr
  cases hr with
  |agg _ xs q1 q2 q3 =>
   have r1:=aG.eR h ih (xs:=xs.toList) ⟨by simpa using q1,fun i v x hv hx=>q2 i v x hv (by simpa using hx)⟩
   exact .agg cs xs (by simpa using r1.1) (fun i v x hv hx=>r1.2 i v x hv (by simpa using hx)) q3
 |cI cs ds h h2 ih =>
  intro x hr
  cases hr with
  |cI _ xs q1 q2 =>
   have r1:=aG.eR h ih (xs:=xs.toList) ⟨by simpa using q1,fun i v x hv hx=>q2 i v x hv (by simpa using hx)⟩
   exact .cI cs xs (by simpa using r1.1) (fun i v x hv hx=>r1.2 i v x hv (by simpa using hx))
 |cq t v u h ih=>intro x hr;cases hr with|cq _ _ x hx=>exact .cq t v x (ih hx)
 |cb c=>intro x hr;cases hr with|cb _ b hc=>exact .cb c b hc
 |mp id i hi=>intro x hr;cases hr with|mp _ L hL=>exact .mp id L (by simp [Mu.eR,hi,hL])
 |cB=>intro x hr;cases hr;exact .cB
 |pa id i t n hi=>intro x hr;cases hr with|pa _ _ _ L hL hm=>exact .pa id t n L (by simp [Mu.eR,hi,hL]) hm
 |kQ t xs=>intro x hr;cases hr with|kQ _ _ b o us h1 h2=>exact .kQ t xs b o us h1 h2
theorem EE.rel {tmps : Array Value} {env : List (Nat × V)} (he : eo ι μ env tmps) : ∀ {env' : List (Nat × V)}, EE π env' env → eo ι (μ.eR π) env' tmps
 |[],_=>fun t=>.any _
 |(t,v)::r,h=>fun i=>by
  rw [bV];split
  ·rename_i e;subst e;exact (h _ (List.mem_cons_self ..)).rel (he _)
  ·exact EE.rel he (fun p hp=>h p (List.mem_cons_of_mem _ hp)) i
theorem dn : ∀ {bl : ah} {id : Nat} {b : kP}, au id bl = some b → (id, b) ∈ bl
 |[],id,b,h=>by simp [au] at h
 |(s,c)::r,id,b,h=>by
  rw [bn] at h
  split at h
  ·rename_i e;subst e;cases h;exact List.mem_cons_self ..
  ·exact List.mem_cons_of_mem _ (dn h)
theorem jl.rep {S S':St} (h:jl base π S S') (hbase:Y.base base) {a:Act} (hR:eF P N Y ι μ S a w):eF P N Y ι (μ.eR π) S' a w:=by
 have hI:=hR.inv
 have hle:Y.m0.le (μ.eR π):=fun id L hL=>by
  have hlt:id<base:=by
   rcases Nat.lt_or_ge id base with h|h
   ·exact h
   ·rw [hbase id h] at hL;cases hL
  have:π[id]?=some id:=by
   have e1:(π.take base)[id]?=(List.range base)[id]?:=by rw [h.pre]
   rw [List.getElem?_take,if_pos hlt,List.getElem?_range hlt] at e1
   exact e1
  simp [Mu.eR,this,hI.m0 id L hL]
 refine ⟨h.env.rel hR.env,hR.sz,⟨hI.below,hI.i0,hI.iB,hI.rd,hle,fun id hid=>?_,fun id B hB=>?_,?_,fun id B hB=>?_,hI.gl⟩,?_⟩
 ·have : π[id]? = none := List.getElem?_eq_none (by rw [← h.nx]; exact hid)
  simp [Mu.eR,this]
 ·obtain ⟨i, e1, hb⟩ := h.bl _ (dn hB)
  have fH:(μ.eR π) id=μ i:=by simp only [Mu.eR];rw [e1];rfl
  cases B with
  |cells cs fz =>
   obtain ⟨ds,e2,ag⟩:=hb
   obtain ⟨L,vs,hM,Hs⟩:=hI.live i _ e2
   exact ⟨L,vs,⟨by rw [fH];exact hM.mu,hM.old,hM.row,hM.fits,hM.one,hM.CC,hM.pM⟩,aG.eR ag.1 (fun i v u hv hu=>fun {x} hr=>(ag.2 i v u hv hu).rel hr) Hs⟩
  |arr t xs fz =>
   rcases hb with e2|⟨rfl,hge⟩
   ·rcases hI.live i _ e2 with ⟨e, hn⟩ | ⟨L, vs, hM, hc, hl⟩
    ·exact .inl ⟨e,by rw [fH];exact hn⟩
    ·exact .inr ⟨L,vs,⟨by rw [fH];exact hM.mu,hM.old,hM.row,hM.fits,hM.one,hM.CC,hM.pM⟩,hc,hl⟩
   ·exact .inl ⟨rfl,by rw [fH];exact hI.nx i hge⟩
  |loop st j d env ps as bd N =>
   obtain ⟨d0,jG,e2,e3,hee⟩:=hb
   obtain ⟨L,r,Ld,q1,q2,q3,q4,q5,q6,q7,q8,q9,q10,q11,q12,q13⟩:=hI.live i _ e2
   exact ⟨L,r,Ld,by rw [fH];exact q1,q2,q3,q4,q5,hee.rel q6,q7,q8,q9,q10,q11,by simp only [Mu.eR];rw [e3];exact q12,q13⟩
  |ig =>
   obtain ⟨L,q1,q2,q3⟩:=hI.live i _ hb
   exact ⟨L,by rw [fH];exact q1,q2,q3⟩
  |map kt kg vt vg es =>
   obtain ⟨L,ms,clock,dA,q1,q2,q3⟩:=hI.live i _ hb
   exact ⟨L,ms,clock,dA,by rw [fH];exact q1,q2,q3⟩
  |mz t xs k p v =>
   obtain ⟨u,e2,ag⟩:=hb
   obtain ⟨L,us,vs,c,hM,hc,hl,q1,q2,q3,q4⟩:=hI.live i _ e2
   exact ⟨L,us,vs,c,⟨by rw [fH];exact hM.mu,hM.old,hM.row,hM.fits,hM.one,hM.CC,hM.pM⟩,hc,hl,q1,q2,q3,ag.rel q4⟩
 ·intro id id' B B' L L' hb hb' hm hm' e
  obtain ⟨i,e1,hbk⟩:=h.bl _ (dn hb)
  obtain ⟨i',EO,hbk'⟩:=h.bl _ (dn hb')
  simp only at e1 EO
  have fH:(μ.eR π) id=μ i:=by simp only [Mu.eR];rw [e1];rfl
  have V9:(μ.eR π) id'=μ i':=by simp only [Mu.eR];rw [EO];rfl
  rw [fH] at hm;rw [V9] at hm'
  have live:∀{i:Nat} {B:kP} {id:Nat} {L:Loc},ZM π S.H.next S.H.bl id B→π[id]?=some i→μ i=some L→∃C,au i S.H.bl=some C:=by
   intro i B id L hbk e hm
   obtain ⟨i2,e2,eB⟩:=hbk
   rw [e] at e2;cases e2
   cases B with
   |cells cs fz=>obtain ⟨ds,e2,_⟩:=eB;exact ⟨_,e2⟩
   |arr t xs fz =>
    rcases eB with e2|⟨_,hge⟩
    ·exact ⟨_,e2⟩
    ·rw [hI.nx i hge] at hm;cases hm
   |loop st j d env ps as bd N=>obtain ⟨d0,jG,e2,_⟩:=eB;exact ⟨_,e2⟩
   |ig=>exact ⟨_,eB⟩
   |map kt kg vt vg es=>exact ⟨_,eB⟩
   |mz t xs k p v=>obtain ⟨u,e2,_⟩:=eB;exact ⟨_,e2⟩
  obtain ⟨C,hC⟩:=live (h.bl _ (dn hb)) e1 hm
  obtain ⟨C',Qd⟩:=live (h.bl _ (dn hb')) EO hm'
  have:=hI.inj i i' C C' L L' hC Qd hm hm' e
  subst this
  exact h.inj _ (dn hb) _ (dn hb') (e1.trans EO.symm)
 ·obtain ⟨i, e1, _⟩ := h.bl _ (dn hB)
  have:=(List.getElem?_eq_some_iff.1 e1).1
  rw [h.nx];exact this
 ·have key:∀{ms ms':List Nat} {ds:List Deferred},ms'.map (fun i=>π[i]?)=ms.map some→jk Y.hid μ ms ds→jk Y.hid (μ.eR π) ms' ds:=by
   intro ms
   induction ms with
   |nil=>intro ms' ds e hm;cases ms'<;>simp at e;exact hm
   |cons i ms ih =>
    intro ms' ds e hm
    cases ms' with
    |nil=>simp at e
    |cons i' ms' =>
     simp only [List.map_cons,List.cons.injEq] at e
     obtain ⟨L,d,ds',q1,q2,q3,q4⟩:=hm
     exact ⟨L,d,ds',q1,by simp [Mu.eR,e.1,q2],q3,ih e.2 q4⟩
  exact key h.ms hR.ms
def jA {α β : Type} (step : α → Option (α ⊕ β)) : Nat → α → Option β
 |0,_=>none
 |n+1,x=>match step x with
  |none=>none
  |some (.inl y)=>jA step n y
  |some (.inr b)=>some b
noncomputable def iter {α β:Type} (step:α→Option (α ⊕ β)) (x:α):Option β:=by
 classical exact if h:∃n b,jA step n x=some b then some h.choose_spec.choose else none
theorem zQ {α β : Type} {step : α → Option (α ⊕ β)} : ∀ {n m : Nat} {x : α} {b c : β}, jA step n x = some b → jA step m x = some c → b = c
 |0,_,_,_,_,h,_=>by cases h
 |_+1,0,_,_,_,_,h=>by cases h
 |n+1,m+1,x,b,c,h,h'=>by
  simp only [jA] at h h'
  split at h
  ·cases h
  ·rename_i y e;rw [e] at h';exact zQ h h'
  ·rename_i b' e;rw [e] at h';cases h;cases h';rfl
theorem Bh {α β:Type} {step:α→Option (α ⊕ β)} {n:Nat} {x:α} {b:β} (h:jA step n x=some b):iter step x=some b:=by
 unfold iter
 have h':∃n b,jA step n x=some b:=⟨n,b,h⟩
 rw [dif_pos h']
 exact congrArg some (zQ h'.choose_spec.choose_spec h)
theorem th {α β:Type} {step:α→Option (α ⊕ β)} {x:α} {b:β} (h:iter step x=some b):∃n,jA step n x=some b:=by
 unfold iter at h
 split at h
 ·rename_i h';cases h;exact ⟨_,h'.choose_spec.choose_spec⟩
 ·cases h
theorem lU {α β:Type} {step:α→Option (α ⊕ β)} {x y:α} {b:β} (h:step x=some (.inl y)) (h':iter step y=some b):iter step x=some b:=by
 obtain ⟨n,hn⟩:=th h'
 exact Bh (n:=n+1) (by simp [jA,h,hn])
theorem gQ {α β:Type} {step:α→Option (α ⊕ β)} {x:α} {b:β} (h:step x=some (.inr b)):iter step x=some b :=
 Bh (n:=1) (by simp [jA,h])
theorem JC (gP : mL P N out base) {α β : Type} {I : α → St} {X : β → Ex × St} {step : α → Option (α ⊕ β)} {c : C}
  (hstep:∀x r,step x=some r→qP (fI P N out base) c (I x) fun e S'=>match r with
   | .inl y=>e = .normal∧∃π,jl base π S' (I y)
   | .inr b=>e ≠ .normal∧e=(X b).1∧∃π,jl base π S' (X b).2)
  {x:α} {b:β} (hx:iter step x=some b) {S:St} {π:List Nat} (hS:jl base π S (I x)) {K:Ex→St→Prop} (hK:K (X b).1 (X b).2):(fI P N out base).loop c S K:=by
 obtain ⟨n,hn⟩:=th hx
 intro body hbody Y ι μ a w ho hb hR
 refine wpIn_loop_ghost (fun (n:Nat) a w=>∃Y1,Ext P Y Y1∧∃x ι μ,eF P N Y1 ι μ (I x) a w∧jA step n x=some b) id (x:=n) ⟨Y,.refl Y,x,ι,_,hS.rep hb hR,hn⟩ ?_
 rintro n a w ⟨Y0,PR,x,ι,μ,hR,hx⟩
 cases n with
 |zero=>cases hx
 |succ n =>
  simp only [jA] at hx
  split at hx
  ·cases hx
  ·rename_i y e
   refine wpIn_mono (Fl (gz gP body hbody (hstep x _ e)) PR ho hb hR) fun e a' w' hp=>?_
   obtain ⟨Y1,hY,ι',μ',S',e',h1,h2,rfl,π',h3⟩:=hp
   cases h2
   exact ⟨n,⟨Y1,hY,y,ι',_,h3.rep (hY.tS hb) h1,hx⟩,Nat.lt_succ_self n⟩
  ·rename_i b' e
   cases hx
   refine wpIn_mono (Fl (gz gP body hbody (hstep x _ e)) PR ho hb hR) fun e a' w' hp=>?_
   obtain ⟨Y1,hY,ι',μ',S',e',h1,h2,hne,h3,π',h4⟩:=hp
   have hp:Post P N Y K e a' w':=⟨Y1,hY,ι',_,_,_,h4.rep (hY.tS hb) h1,by rw [←h3];exact h2,hK⟩
   cases e' with
   |normal=>exact absurd rfl hne
   |exit id=>cases h2;exact hp
   |ret=>cases h2;exact hp
end
abbrev Env:=List (Nat×V)
section
variable {P:Program} {N:Nat} {Y:Ctx} {ι ι':ai} {μ μ':Mu} {H H':aF} {w w':World} {out:Option Nat} {base:Nat}
theorem Inv.junk (h:Inv P Y ι μ H w) (o:Obj):Inv P Y ι μ H (w.alloc o):=by
 have heap:∀k,k<w.heap.size→(w.alloc o).heap[k]?=w.heap[k]?:=fun k hk=>by
  show (w.heap.push o)[k]?=_
  rw [Array.getElem?_push];split
  ·omega
  ·rfl
 refine ⟨⟨h.below.os,h.below.tape,h.below.output,by have:=h.below.size;simp;omega,fun k hk hx=>?_,h.below.dr,fun k hk=>(h.below.maps k hk).trans (.eq (heap k (Nat.lt_of_lt_of_le hk h.below.size)))⟩,h.i0,h.iB,fun b o x hx=>?_,h.m0,h.nx,fun id B hB=>?_,h.inj,h.lt,h.gl⟩
 ·have := h.below.size
  rw [heap k (by omega)];exact h.below.block k hk hx
 ·have := h.rd b o x hx
  rw [World.cell?_alloc_lt _ _ _ (World.block_lt_of_cell? _ _ this)];exact this
 ·exact (h.live id B hB).mono (ai.le_refl _) (Mu.le_refl _) (fun h=>h) (fun L' hL'=>heap _ ((h.live id B hB).loc hL').2) (fun _ _ h=>h)
theorem dK.Ul {B:Nat→Prop} {id:Nat} {b:kP} (h:dK P B ι μ id w b) {L:Loc} (hL:μ id=some L) {r:Nat} {m:Option Nat} {s c:Nat} {seen:Array Nat} (hr:w.heap[r]?=some (.mapIter m s seen c)):L.b≠r:=by
 intro e
 subst e
 cases b with
 |cells cs fz =>
  obtain ⟨L',vs,hM,_⟩:=h
  have:=hM.mu;rw [hL] at this;cases this
  obtain ⟨c,e,h1,_⟩:=hM.row
  rw [hr] at h1;cases h1
 |arr t xs fz =>
  rcases h with ⟨_,h⟩|⟨L',vs,hM,_⟩
  ·rw [h] at hL;cases hL
  ·have := hM.mu; rw [hL] at this; cases this
   obtain ⟨c,e,h1,_⟩:=hM.row
   rw [hr] at h1;cases h1
 |loop st j d env ps as bd N =>
  obtain ⟨L',r,Ld,h1,h2,h3,_⟩:=h
  rw [hL] at h1;cases h1
  rw [hr] at h3;cases h3
 |ig =>
  obtain ⟨L',h1,h2,h3⟩:=h
  rw [hL] at h1;cases h1
  rw [hr] at h3;cases h3
 |map kt kg vt vg es =>
  obtain ⟨L',ms,clock,dA,h1,h2,h3,_⟩:=h
  rw [hL] at h1;cases h1
  rw [hr] at h3;cases h3
 |mz t xs i p v =>
  obtain ⟨L',us,vs,c,hM,_⟩:=h
  have:=hM.mu;rw [hL] at this;cases this
  obtain ⟨c,e,h1,_⟩:=hM.row
  rw [hr] at h1;cases h1
theorem Inv.side (h:Inv P Y ι μ H w) {r:Nat} {m:Option Nat} {s c:Nat} {seen:Array Nat} (hr:w.heap[r]?=some (.mapIter m s seen c)) (hown:Y.own r) (o:Obj):Inv P Y ι μ H (w.putObj r o):=by
 have bR:∀k,k≠r→(w.putObj r o).heap[k]?=w.heap[k]?:=fun k hk=>World.putObj_heap_other hk
 refine ⟨⟨h.below.os,h.below.tape,h.below.output,by rw [World.putObj_size];exact h.below.size,fun k hk hx=>?_,h.below.dr,fun k hk=>(h.below.maps k hk).trans ?_⟩,h.i0,h.iB,fun b o2 x hx=>?_,h.m0,h.nx,fun i B hB=>?_,h.inj,h.lt,h.gl⟩
 ·rw [bR k (Ctx.lE hown hk hx)];exact h.below.block k hk hx
 ·by_cases e : k = r
  ·subst e;rw [hr];exact .no fun _ _ e=>by cases e
  ·exact .eq (bR k e)
 ·have := h.rd b o2 x hx
  have hne:b≠r:=fun e=>by subst e;simp [World.cell?,hr] at this
  unfold World.cell? at this ⊢
  simp only at this ⊢
  rw [bR b hne];exact this
 ·exact (h.live i B hB).mono (ai.le_refl _) (Mu.le_refl _) (fun h=>h) (fun L' hL'=>bR _ ((h.live i B hB).Ul hL' hr)) (fun _ _ h=>h)
def Ctx.side (Y:Ctx) (w:World) (ι:ai) (μ:Mu) (r:Nat):Ctx:=⟨w,ι,μ,Y.ro,fun b=>Y.own b∧b≠r,Y.hid⟩
theorem Inv.into (h:Inv P Y ι μ H w) {r:Nat} {m:Option Nat} {s c:Nat} {seen:Array Nat} (hr:w.heap[r]?=some (.mapIter m s seen c)):Inv P (Y.side w ι μ r) ι μ H w :=
 ⟨GY.refl _ _,ai.le_refl _,fun _ _ _ _=>rfl,h.rd,Mu.le_refl _,h.nx,fun id B hB=>(h.live id B hB).owns fun L hL ho=>.inr ⟨ho,(h.live id B hB).Ul hL hr⟩,h.inj,h.lt,h.dy⟩
theorem Inv.aaA (h:Inv P Y ι μ H w) {r:Nat} (h2:Inv P (Y.side w ι μ r) ι' μ' H' w'):Inv P Y ι' μ' H' w':=by
 have hs:=h.below.size
 have hx2:∀k,k<Y.w0.heap.size→¬Y.x k→¬(Y.side w ι μ r).x k:=fun k hk hx hX=>by
  rcases hX.1 with h|h
  ·omega
  ·exact hx h
 have b2:=h2.below
 refine ⟨⟨b2.os.trans h.below.os,b2.tape.trans h.below.tape,b2.output.trans h.below.output,Nat.le_trans hs b2.size,fun k hk hx=>?_,Nat.le_trans h.below.dr b2.dr,fun k hk=>(h.below.maps k hk).trans (b2.maps k (Nat.lt_of_lt_of_le hk hs))⟩,
  ai.le_trans h.i0 h2.i0,fun b o hb hx=>?_,h2.rd,Mu.le_trans h.m0 h2.m0,h2.nx,fun id B hB=>(h2.live id B hB).owns fun L _ ho=>?_,h2.inj,h2.lt,h.gl⟩
 ·exact (b2.block k (Nat.lt_of_lt_of_le hk hs) (hx2 k hk hx)).trans (h.below.block k hk hx)
 ·exact (h2.iB b o (Nat.lt_of_lt_of_le hb hs) (hx2 b hb hx)).trans (h.iB b o hb hx)
 ·rcases ho with ho | ho
  ·exact .inl (Nat.le_trans hs ho)
  ·exact ho.1
end
def yO {E α β : Type} (step : E → α → Option (α ⊕ β)) : List E → α → Option (α ⊕ β)
 |[],x=>some (.inl x)
 |e::r,x=>match step e x with
  |none=>none
  |some (.inl y)=>yO step r y
  |some (.inr b)=>some (.inr b)
def zR {E α : Type} (step : E → α → Option α) : List E → α → Option α
 |[],x=>some x
 |e::r,x=>match step e x with
  |none=>none
  |some y=>zR step r y
noncomputable def iE {E B:Type} (f:List E→Option B) (es:List E):Option B:=by
 classical exact if h:∃b,∀l:List E,l.Perm es→f l=some b then some h.choose else none
theorem oc {E B:Type} {f:List E→Option B} {es:List E} {b:B} (h:iE f es=some b):∀l:List E,l.Perm es→f l=some b:=by
 unfold iE at h
 split at h
 ·rename_i h';cases h;exact h'.choose_spec
 ·cases h
theorem gA {E B:Type} {f:List E→Option B} {es:List E} {b:B} (h:∀l:List E,l.Perm es→f l=some b):iE f es=some b:=by
 have h':∃b,∀l:List E,l.Perm es→f l=some b:=⟨b,h⟩
 unfold iE
 rw [dif_pos h']
 have h1:=h'.choose_spec es (.refl _)
 rw [h es (.refl _)] at h1
 exact h1.symm▸rfl
noncomputable def jB {α:Type} (a b:α):Bool:=@decide (a=b) (Classical.propDecidable _)
theorem De {α:Type} {a b:α} (h:jB a b=true):a=b:=by simpa [jB] using h
@[simp] theorem dF {α:Type} (a:α):jB a a=true:=by simp [jB]
def ef : List Nat → Env → Env
 |[],env=>env
 |t::r,env=>(t,.any)::ef r env
def QK (e:Option Nat) (kt:Ty) (kg:Bool) (vt:Ty) (vg:Bool) (x:kt.den×vt.den) (env:Env):Env:=match e with
 |none=>env
 |some s=>(s,.cI [cw.iU kg (cw kt x.1),cw.iU vg (cw vt x.2)])::env
section
variable {P:Program} {N:Nat} {Y:Ctx} {ι ι':ai} {μ μ':Mu} {H H':aF} {w w':World} {out:Option Nat} {base:Nat}
theorem ql : ∀ {cl : List Nat} {env : Env} {t : Nat}, get t (ef cl env) = .any ∨ get t (ef cl env) = get t env
 |[],env,t=>.inr rfl
 |s::r,env,t=>by
  rw [ef,bV]
  split
  ·exact .inl rfl
  ·exact ql
theorem eo.forget {env:Env} {tmps:Array Value} (h:eo ι μ env tmps) (cl:List Nat):eo ι μ (ef cl env) tmps:=fun t=>by
 rcases ql (cl:=cl) (env:=env) (t:=t) with e|e<;>rw [e]
 ·exact .any _
 ·exact h t
theorem eo.over {env:Env} {a:Act} (h:eo ι μ env a.tmps) {d:Nat} (hd:get d env = .any) (v:Value):eo ι μ env (a.put (some d) v).tmps:=fun t=>by
 by_cases e:d=t
 ·subst e;rw [hd];exact .any _
 ·have:(a.tmps.setIfInBounds d v).getD t undef=a.tmps.getD t undef:=by
   simp only [Array.getD_eq_getD_getElem?]
   rw [Array.getElem?_setIfInBounds_ne e]
  simp only [Act.put]
  rw [this];exact h t
theorem eF.over {S:St} {a:Act} (h:eF P N Y ι μ S a w) {d:Nat} (hd:get d S.env = .any) (v:Value):eF P N Y ι μ S (a.put (some d) v) w :=
 ⟨h.env.over hd v,by simp [Act.put,h.sz],h.inv,h.ms⟩
theorem Bi {a:Act} {d:Nat} {v:Value} (hd:d<a.tmps.size):(a.put (some d) v).tmps.getD d undef=v:=by simp [Act.put,Array.getD,hd]
theorem Mo {a:Act} {d t:Nat} {v:Value} (h:d≠t):(a.put (some d) v).tmps.getD t undef=a.tmps.getD t undef:=by
 simp only [Act.put,Array.getD_eq_getD_getElem?]
 rw [Array.getElem?_setIfInBounds_ne h]
theorem Inv.name (h:Inv P Y ι μ H w) (L:Loc):Inv P Y ι (μ.set H.next L) ⟨H.next+1,H.bl⟩ w:=by
 have hn:=h.nx H.next (Nat.le_refl _)
 have hle:=Mu.fC (L:=L) hn
 have hne:∀id B,au id H.bl=some B→id≠H.next:=fun id B hB=>Nat.ne_of_lt (h.lt id B hB)
 refine ⟨h.below,h.i0,h.iB,h.rd,Mu.le_trans h.m0 hle,fun id hid=>?_,fun id B hB=>?_,fun id id' B B' L1 L2 h1 h2 fK hm2 e=>?_,fun id B hB=>Nat.lt_succ_of_lt (h.lt id B hB),h.gl⟩
 ·simp only at hid
  unfold Mu.set;rw [if_neg (by omega)];exact h.nx id (by omega)
 ·exact (h.live id B hB).mono (ai.le_refl _) hle (fun hm=>by unfold Mu.set;rw [if_neg (hne id B hB)];exact hm) (fun _ _=>rfl) (fun _ _ h=>h)
 ·unfold Mu.set at fK hm2
  rw [if_neg (hne id B h1)] at fK
  rw [if_neg (hne id' B' h2)] at hm2
  exact h.inj id id' B B' L1 L2 h1 h2 fK hm2 e
theorem gB {o:Oper} (h:o.guard=none) (f:Nat→Option Bool):Region.wanted o f=true:=by
 unfold Region.wanted;rw [h]
theorem FB {a b:Code} {hd:Ub} (h:vM P N a b=some hd):∃(ia:Nat) (yP:Array Oper) (o:Oper) (rr:List Oper) (t:TypeId) (x:Operand) (b3 i2:Nat) (tj:Array Oper) (o1 o2:Oper) (n ok:Nat) (y:Code),
  a = .region ia yP false∧yP.toList=rr++[o]∧o.op = .range t x∧o.dst=some hd.it∧o.guard=none∧hd.it<N∧jT P t=some (hd.kt,hd.kg,hd.vt,hd.vg)∧dz x=some hd.m∧dX P N yP rr=some hd.pre ∧
  b = .block hd.pJ (.loop (.seq (.region i2 tj false) (.seq (.cond (.tmp ok) .skip (.exit hd.pJ)) (.block b3 y))))∧tj.toList=[o1,o2]∧o1.op = .next (.tmp hd.it) false∧o1.dst=some n∧o1.guard=none ∧
  o2.op = .extract (.tmp n) 0∧o2.dst=some ok∧o2.guard=none∧n<N∧ok<N∧n≠hd.it∧ok≠hd.it∧hd.cl=[n,ok]∧hd.e=sF N hd.it y:=by
 unfold vM at h
 split at h<;>try (cases h;done)
 rename_i b1 x2 t b2 b3 y
 split at h<;>try (cases h;done)
 rename_i is m it kt vt vg h1
 split at h<;>try (cases h;done)
 rename_i n ok h2
 split at h<;>try (cases h;done)
 rename_i hc
 obtain ⟨e1,e2⟩:=hc
 subst e1;subst e2
 cases h
 unfold Lp at h1
 split at h1<;>try (cases h1;done)
 rename_i ia yP
 split at h1<;>try (cases h1;done)
 rename_i o rr hrev
 split at h1<;>try (cases h1;done)
 rename_i t x hop
 split at h1<;>try (cases h1;done)
 rename_i it' QL
 split at h1<;>try (cases h1;done)
 rename_i hg
 split at h1<;>try (cases h1;done)
 rename_i KW KX P7 m' is' CQ hx mM
 cases h1
 unfold Lq at h2
 split at h2<;>try (cases h2;done)
 rename_i i2 tj
 split at h2<;>try (cases h2;done)
 rename_i o1 o2 hl
 split at h2<;>try (cases h2;done)
 rename_i i FC
 split at h2<;>try (cases h2;done)
 rename_i n' Mp
 split at h2<;>try (cases h2;done)
 rename_i n2 JD
 split at h2<;>try (cases h2;done)
 rename_i ok' hd2
 split at h2<;>try (cases h2;done)
 rename_i Ud
 obtain ⟨g1,g2,e1,e2,l1,l2,l3,l4⟩:=Ud
 subst e1;subst e2
 cases h2
 have EN:yP.toList=rr.reverse++[o]:=by
  have:=congrArg List.reverse hrev
  simpa using this
 exact ⟨ia,yP,o,rr.reverse,t,x,b3,i2,tj,o1,o2,_,_,y,rfl,EN,hop,QL,hg.1,hg.2,CQ,hx,mM,rfl,hl,FC,Mp,g1,JD,hd2,g2,l1,l2,l3,l4,rfl,rfl⟩
end
section
variable {P:Program} {N:Nat} {Y:Ctx} {ι ι':ai} {μ μ':Mu} {H H':aF} {w w':World} {out:Option Nat} {base:Nat}
theorem QM {b1 i2 b3 ok:Nat} {tj:Array Oper} {y:Code} {cb:C} (h:fk P N (.block b1 (.loop (.seq (.region i2 tj false) (.seq (.cond (.tmp ok) .skip (.exit b1)) (.block b3 y)))))=some cb) :
  ∃cx cc cy,fk P N y=some cy∧cb = .block b1 (.loop (.seq cx (.seq cc (.block b3 cy)))):=by
 have h1:∀z,vM P N (.cond (.tmp ok) .skip (.exit b1)) z=none:=fun z=>by
  unfold vM
  split
  ·split
   ·rename_i h1;cases h1
   ·rfl
  ·rfl
 have h2:∀z u v,vM P N z (.seq u v)=none:=fun z u v=>rfl
 simp only [fk] at h
 cases hx:dX P N tj tj.toList with
 |none=>simp [hx] at h
 |some is =>
  simp only [hx] at h
  cases hy:fk P N y with
  |none=>simp [hy] at h
  |some cy =>
   simp only [hy,dz,Option.map_some,h1,h2] at h
   cases h
   exact ⟨_,_,cy,rfl,rfl⟩
theorem wS {id:Nat} {K:Ex→St→Prop} {e:Exit} {a:Act} {w:World} (hp:Post P N Y (fun e S=>match e with
  | .normal=>K .normal S
  | .exit id'=>match Nat.beq id' id with
   |true=>K .normal S
   |false=>K (.exit id') S
  | .ret=>K .ret S) e a w):Exit.inBlock id (Post P N Y K) e a w:=by
 obtain ⟨Y1,hY,ι',μ',S',e',h1,h2,h3⟩:=hp
 cases e' with
 |normal=>cases h2;exact ⟨Y1,hY,ι',μ',S',.normal,h1,rfl,h3⟩
 |exit id' =>
  cases h2
  simp only [Exit.inBlock]
  simp only at h3
  split at h3
  ·rename_i A2
   rw [if_pos (Nat.eq_of_beq_eq_true A2)]
   exact ⟨Y1,hY,ι',μ',S',.normal,h1,rfl,h3⟩
  ·rename_i A2
   rw [if_neg (fun e=>by subst e;rw [Nat.beq_refl] at A2;cases A2)]
   exact ⟨Y1,hY,ι',μ',S',.exit id',h1,rfl,h3⟩
 |ret=>cases h2;exact ⟨Y1,hY,ι',μ',S',.ret,h1,rfl,h3⟩
theorem Mq (gP : mL P N out base) {it b1 b3 : Nat} {y : Code} {cx cc cy bd : C} (JE : fk P N y = some cy) (hbd : GS (sF N it y) (.block b1 (.loop (.seq cx (.seq cc (.block b3 cy))))) = some bd) {S0 : St} {a : Act}
  (ho:jZ Y out) (hb:Y.base base) (hR:eF P N Y ι μ S0 a w) {r:Nat} (hit:a.tmps.getD it undef = .pointer (some ⟨r,0,none⟩)) {kv vv:Value} (cD:(Instr.entry (.pointer (some ⟨r,0,none⟩))).run P w = .ok (.tuple #[kv,vv]) w)
  {kt vt:Ty} {kg vg:Bool} {x:kt.den×vt.den} (hk:Rel ι μ (cw.iU kg (cw kt x.1)) kv) (hv:Rel ι μ (cw.iU vg (cw vt x.2)) vv) {Q:Ex→St→Prop}
  (h:qP (fI P N out base) bd ⟨QK (sF N it y) kt kg vt vg x S0.env,S0.H,S0.ms⟩ Q):(Code.block b3 y).wpIn Y.F 0 P (Post P N Y Q) a w:=by
 cases he:sF N it y with
 |none =>
  rw [he] at hbd h
  cases hbd
  exact gz gP (.block b3 y) (c:=.block b3 cy) (by simp [fk,JE]) h Y ι μ a w ho hb hR
 |some s =>
  rw [he] at hbd h
  unfold sF at he
  split at he<;>try (cases he;done)
  rename_i ri ops rest
  split at he<;>try (cases he;done)
  rename_i o os hl
  split at he<;>try (cases he;done)
  rename_i i hop
  split at he<;>try (cases he;done)
  rename_i s' QL
  split at he<;>try (cases he;done)
  rename_i hc
  obtain ⟨hg,hi,hs,hne⟩:=hc
  cases he
  subst hi
  -- the code
  simp only [fk] at JE
  cases mM:dX P N ops ops.toList with
  |none=>simp [mM] at JE
  |some is0 =>
   simp only [mM] at JE
   cases Z5:fk P N rest with
   |none=>simp [Z5] at JE
   |some cr =>
    simp only [Z5] at JE
    split at JE
    rotate_left
    ·rename_i hd2 _
     split at JE<;>try (cases JE;done)
     cases JE
     simp [GS] at hbd
    cases JE
    rw [hl] at mM
    unfold dX at mM
    split at mM<;>try (cases mM;done)
    rename_i i0 is hi0 mM
    cases mM
    simp only [GS] at hbd
    cases hbd
    simp only [qP] at h
    refine wpIn_block (wpIn_mono ?_ fun e a w hp=>wS hp)
    refine wpIn_seq (wpIn_region ?_)
    have hsz:ops.size=os.length+1:=by rw [←Array.length_toList,hl];rfl
    rw [List.range_eq_range',hsz,List.range'_succ]
    have ho0:ops[0]?=some o:=by rw [←Array.getElem?_toList,hl];rfl
    have ag:a.eval (.tmp i) = .pointer (some ⟨r,0,none⟩):=hit
    have hN:qL N o.dst=true:=by rw [QL];simpa [qL] using hs
    refine tU (x := .tuple #[kv, vv]) (w' := w) (fun _ => trivial) rfl ho0 (gB hg _) (by rw [hop]; intro c; simp) (.inl (by
     unfold execOp;rw [hop];simp only [ag,Sem.run_bind,cD];rfl)) ?_
    have nq:eF P N Y ι μ ⟨QK (some s) kt kg vt vg x S0.env,S0.H,S0.ms⟩ (a.put o.dst (.tuple #[kv,vv])) w:=by
     have := hR.put hN (ai.le_refl _) (Mu.le_refl _) hR.inv (v := .cI [cw.iU kg (cw kt x.1), cw.iU vg (cw vt x.2)]) (x := .tuple #[kv, vv])
      (.cI _ _ rfl (fun i v x qg hx=>by
       match i with
       |0=>simp at qg hx;subst qg;subst hx;exact hk
       |1=>simp at qg hx;subst qg;subst hx;exact hv
       |i+2=>simp at qg))
     rw [QL] at this ⊢
     exact this
    exact wv (Y:=Y) (out:=out) (base:=base) (k:=1) (Q:=Exit.then (rest.wpIn Y.F 0 P _) _) (fun ι μ S a w hR hK=>gz gP rest Z5 hK Y ι μ a w ho hb hR) mM (fun j=>by rw [←Array.getElem?_toList,hl,Nat.add_comm];simp) nq h
end
section
variable {P:Program} {N:Nat} {Y:Ctx} {ι ι':ai} {μ μ':Mu} {H H':aF} {w w':World} {out:Option Nat} {base:Nat}
theorem eM.at {kt vt : Ty} {kg vg : Bool} : ∀ {es : List (kt.den × vt.den)} {ms : List MapEntry}, eM ι kt kg vt vg es ms → ∀ {i : Nat} {m : MapEntry}, ms[i]? = some m → ∃ e, es[i]? = some e ∧ fJ ι kg kt e.1 m.key ∧ fJ ι vg vt e.2 m.val
 |[],_,h,i,m,hm=>by simp [eM] at h;subst h;simp at hm
 |e::es,_,⟨m0,r,rfl,h1,h2,h3⟩,i,m,hm=>by
  cases i with
  |zero=>simp at hm;subst hm;exact ⟨e,rfl,h1,h2⟩
  |succ i=>simpa using h3.at (i:=i) (by simpa using hm)
theorem Df {E α β:Type} {step:E→α→Option (α ⊕ β)} {e:E} {r:List E} {x:α} {res:α ⊕ β} (h:yO step (e::r) x=some res) :
  (∃y,step e x=some (.inl y))∨∃b,step e x=some (.inr b)∧res = .inr b:=by
 simp only [yO] at h
 split at h
 ·cases h
 ·rename_i y e;exact .inl ⟨y,e⟩
 ·rename_i b e;cases h;exact .inr ⟨b,e,rfl⟩
theorem get_mem : ∀ {env : Env} {t : Nat} {v : V}, get t env = v → v ≠ .any → (t, v) ∈ env
 |[],t,v,h,hv=>absurd h.symm hv
 |(s,u)::r,t,v,h,hv=>by
  rw [bV] at h
  split at h
  ·rename_i e;subst e;subst h;exact List.mem_cons_self ..
  ·exact List.mem_cons_of_mem _ (get_mem h hv)
theorem HD {π : List Nat} {cl : List Nat} {env : Env} {Hh : aF} {mss : List Nat} {S' : St} (h : jl base π ⟨ef cl env, Hh, mss⟩ S') {mn id bm : Nat} (hid : get mn env = .mp id) {kt vt : Ty} {kg vg : Bool} {es : List (kt.den × vt.den)}
  (Cm:js Hh.bl kt kg vt vg id=some es) {L:Loc} (hL:μ id=some L) (VX:L.b=bm) (yA:Nat) (h2:get mn S'.env = .mp yA) :
  (∃L,(μ.eR π) yA=some L∧L.b=bm)∧∀es',js S'.H.bl kt kg vt vg yA=some es'→es'=es:=by
 have ag:=h.env _ (get_mem h2 (by simp))
 try simp only at ag
 have hπ:π[yA]?=some id:=by
  rcases ql (cl:=cl) (env:=env) (t:=mn) with e|e<;>rw [e] at ag
  ·cases ag
  ·rw [hid] at ag;cases ag with|mp _ _ hi=>exact hi
 refine ⟨⟨L,by simp [Mu.eR,hπ,hL],VX⟩,fun es' he'=>?_⟩
 obtain ⟨i,e1,hb⟩:=h.bl _ (dn (dZ he'))
 try simp only at e1 hb
 rw [hπ] at e1;cases e1
 have JF:=dZ Cm
 try simp only at JF
 rw [JF] at hb
 simp only [Option.some.injEq,kP.map.injEq,heq_eq_eq,true_and] at hb
 exact hb.symm
theorem jZ.up {w:World} {ι:ai} {r:Nat} (h:jZ Y out) (hm:Y.m0.le μ):jZ (Y.side w ι μ r) out:=by
 cases out with
 |none=>exact h
 |some o=>obtain ⟨Lo,h1,h2⟩:=h;exact ⟨Lo,hm _ _ h1,h2⟩
theorem Ext.lift {Ya Yb : Ctx} {r : Nat} (hinv : ∀ {ι : ai} {μ : Mu} {H : aF} {w : World}, Inv P Ya ι μ H w → Inv P Yb ι μ H w) (hown : ∀ b, Ya.own b → Yb.own b) (hro : Yb.ro = Ya.ro) (hm0 : Yb.m0.le Ya.m0) (A5 : Yb.hid = Ya.hid)
  (hr:r<Ya.w0.heap.size∧¬Ya.own r) (hrb:Yb.own r) {Y1:Ctx} (h:Ext P Ya Y1) :
  ∃Y2,Ext P Yb Y2∧(∀{ι:ai} {μ:Mu} {H:aF} {w:World},Inv P Y1 ι μ H w→Inv P Y2 ι μ H w)∧(∀b,Y1.own b→Y2.own b)∧Y2.ro=Y1.ro∧Y2.m0.le Y1.m0∧Y2.hid=Y1.hid∧(r<Y1.w0.heap.size∧¬Y1.own r)∧Y2.own r:=by
 induction h with
 |refl=>exact ⟨Yb,.refl Yb,hinv,hown,hro,hm0,A5,hr,hrb⟩
 |step h ro hI hr' own ih =>
  rename_i Y1 ι1 μ1 H1 w1 r'
  obtain ⟨Y2,e1,e2,e3,e4,e5,e6,e7,e8⟩:=ih
  have hlt:=(Array.getElem?_eq_some_iff.1 hr').1
  have hne:r≠r':=fun e=>by subst e;exact e7.2 own
  have hs:=hI.below.size
  refine ⟨Y2.uy w1 ι1 r',.step e1 (e4.trans ro) (e2 hI) hr' (e3 _ own),fun {ι μ H w} h=>?_,fun b hb=>?_,e4,e5,?_,⟨?_,fun hX=>?_⟩,.inr ⟨e8,hne⟩⟩
  ·have hx : ∀ b, (Y1.uy w1 ι1 r').x b → (Y2.uy w1 ι1 r').x b := fun b hb => ⟨e3 _ hb.1, hb.2⟩
   exact ⟨⟨h.below.os,h.below.tape,h.below.output,h.below.size,fun k hk hx'=>h.below.block k hk (fun hh=>hx' (hx _ hh)),h.below.dr,h.below.maps⟩,h.i0,fun b o hb hx'=>h.iB b o hb (fun hh=>hx' (hx _ hh)),h.rd,Mu.le_trans e5 h.m0,h.nx,
    fun id B hB=>(h.live id B hB).owns fun L _ ho=>ho.imp (fun h=>h) (hx _),h.inj,h.lt,h.gl⟩
  ·exact hb.imp (fun h=>h) fun h=>⟨e3 _ h.1,h.2⟩
  ·show r' :: Y2.hid = r' :: Y1.hid
   rw [e6]
  ·exact Nat.lt_of_lt_of_le e7.1 hs
  ·rcases hX with hX | hX
   ·have : w1.heap.size ≤ r := hX
    omega
   ·exact e7.2 hX.1
theorem KD.inj {t:Ty} {β:Type} {es:List (t.den×β)} (h:KD t es) {a b:t.den×β} (ha:a∈es) (hb:b∈es) (hab:dI t a.1 b.1=true):a=b:=by
 have haa:dI t a.1 a.1=true:=by
  have:=bF hab
  rw [←this] at hab;exact hab
 have h1:=mI (d:=a.2) h ha haa
 have h2:=mI (d:=a.2) h hb hab
 exact Prod.ext (bF hab) (h1.symm.trans h2)
theorem tn {ι ι' : ai} : ∀ {t : Ty} {ks : List Kd} {x y : t.den} {vs : List Value}, bB t = some ks → af ι t x vs → af ι' t y vs → dI t x y = true
 | .unit,ks,x,y,vs,h,hx,hy=>rfl
 | .bool,ks,x,y,vs,h,hx,hy=>by simp only [af] at hx hy;subst hx;simpa [dI] using hy
 | .str,ks,x,y,vs,h,hx,hy=>by
  simp only [af] at hx hy;subst hx
  simp only [List.cons.injEq,Value.string.injEq,and_true] at hy
  subst hy;simp [dI]
 | .int k,ks,x,y,vs,h,hx,hy=>by simp only [af] at hx hy;subst hx;simpa [dI] using hy
 | .list _,ks,x,y,vs,h,hx,hy=>by cases h
 | .cq _ _ _,ks,x,y,vs,h,hx,hy=>by cases h
 | .prod a b,ks,x,y,vs,h,hx,hy=>by
  simp only [bB] at h
  split at h<;>try (cases h;done)
  rename_i k1 k2 h1 h2
  obtain ⟨us,ws,e1,d1,d2⟩:=hx
  obtain ⟨us',ws',e2,d1',d2'⟩:=hy
  rw [e1] at e2
  obtain ⟨rfl,rfl⟩:=List.append_inj e2 (by rw [d1.length,d1'.length])
  simp only [dI,tn h1 d1 d1',tn h2 d2 d2',Bool.and_self]
theorem Mr {k:TypeId} {kt:Ty} {kg:Bool} (h:vL P k=some (kt,kg)):∃ks,bB kt=some ks:=by
 unfold vL at h
 split at h<;>try (cases h;done)
 ·cases h;exact ⟨_,rfl⟩
 ·cases h;exact ⟨_,rfl⟩
 ·split at h <;> try (cases h; done)
  split at h<;>try (cases h;done)
  rename_i hc
  cases h
  exact ⟨_,hc.1⟩
theorem JG {g:Bool} {xs ys:List Value} {v:Value} (h1:ij g xs=some v) (h2:ij g ys=some v):xs=ys:=by
 cases g with
 |true =>
  simp only [ij,Option.some.injEq] at h1 h2
  subst h1
  simp only [Value.agg.injEq] at h2
  have:=congrArg Array.toList h2
  simpa using this.symm
 |false =>
  match xs,ys,h1,h2 with
  |[x],[y],h1,h2 =>
   simp only [ij,Option.some.injEq] at h1 h2
   rw [h1,h2]
  |[],_,h1,_=>simp [ij] at h1
  |_::_::_,_,h1,_=>simp [ij] at h1
  |[_],[],_,h2=>simp [ij] at h2
  |[_],_::_::_,_,h2=>simp [ij] at h2
theorem QN {k:TypeId} {kt:Ty} {kg:Bool} (h:vL P k=some (kt,kg)) {x y:kt.den} {z:Value} (hx:fJ ι kg kt x z) (hy:fJ ι' kg kt y z):dI kt x y=true:=by
 obtain ⟨ks,hks⟩:=Mr h
 obtain ⟨xs,h1,h2⟩:=hx
 obtain ⟨ys,h3,h4⟩:=hy
 have:=JG h2 h4
 subst this
 exact tn hks h1 h3
structure MI {α:Type} (P:Program) (N:Nat) (Y:Ctx) (I:α→St) (mn it:Nat) (kt:Ty) (kg:Bool) (vt:Ty) (vg:Bool) (es dA:List (kt.den×vt.den)) (kz:List Value) (bm r since:Nat) (bs todo:List Nat) (x:α) (a:Act) (w:World) (ι:ai) (μ:Mu) (seen:Array Nat) (c0:Nat) (ms:Array MapEntry) (clock:Nat):Prop where
 rep:eF P N Y ι μ (I x) a w
 it:a.tmps.getD it undef = .pointer (some ⟨r,0,none⟩)
 own:Y.own r
 hr:w.heap[r]?=some (.mapIter (some bm) since seen c0)
 sc:since≤c0
 ck:since≤clock
 hm:w.heap[bm]?=some (.map ms clock)
 Um:ms.toList.map (·.born)=bs
 hkz:ms.toList.map (·.key)=kz
 hke:∀(i:Nat) e z,dA[i]?=some e→kz[i]?=some z→fJ ι kg kt e.1 z
 old:∀b∈bs,b<since
 nd:bs.Nodup
 len:dA.length=bs.length
 td:todo.Nodup
 left:∀i,i∈todo↔∃b,bs[i]?=some b∧b∉seen.toList
 here:∀id,get mn (I x).env = .mp id→(∃L,μ id=some L∧L.b=bm)∧∀es',js (I x).H.bl kt kg vt vg id=some es'→es'=es
def Dg (pJ : Nat) : Ex → Ex
 | .exit i=>match Nat.beq i pJ with
  |true=>.normal
  |false=>.exit i
 |e=>e
theorem Ms {α:Type} (es:List α) (d:α):(List.range es.length).map (fun i=>es.getD i d)=es:=by
 apply List.ext_getElem
 ·simp
 ·intro i h1 h2;simp at h1;simp [List.getD,h1]
theorem Dh (gP : ∀ base, mL P N out base) {α β : Type} {I : α → St} {X : β → Ex × St} {pre : List eL} {mn it : Nat} {cl : List Nat} {e : Option Nat} {kt vt : Ty} {kg vg : Bool} {pJ : Nat} {bd : C}
  {step:kt.den×vt.den→α→Option (α ⊕ β)} {aC:Nat} (hI:∀x s,s∈it::cl→get s (I x).env = .any) (Hw:∀x,(I x).H.next=aC)
  (hstep:∀kX x r,step kX x=some r→∃id es',get mn (I x).env = .mp id∧js (I x).H.bl kt kg vt vg id=some es' ∧
   qP (fI P N out (aC+1)) bd ⟨QK e kt kg vt vg kX ((it,.ptr aC 0)::(I x).env),⟨aC+1,(I x).H.bl⟩,(I x).ms⟩ fun ex S'=>match r with
    | .inl y=>ex = .normal∧get it S'.env = .ptr aC 0∧get mn S'.env = .mp id∧js S'.H.bl kt kg vt vg id=some es'∧∃π,jl base π ⟨ef (it::cl) S'.env,S'.H,S'.ms⟩ (I y)
    | .inr b=>ex ≠ .normal∧ex=(X b).1∧∃π,jl base π S' (X b).2)
  {S:St} {K:Ex→St→Prop}
  (hpre:fu (fI P N out base) pre S fun S1=>∃id es x π,get mn S1.env = .mp id∧js S1.H.bl kt kg vt vg id=some es∧jl base π ⟨ef (it::cl) S1.env,S1.H,S1.ms⟩ (I x) ∧
   ∀l:List (kt.den×vt.den),l.Perm es→∃res,yO step l x=some res∧(match res with | .inl y=>K .normal (I y) | .inr b=>K (Dg pJ (X b).1) (X b).2)) :
  (fI P N out base).gG (.gG pre (.t mn) it cl e kt kg vt vg pJ bd) S K:=by
 intro ca cb htr hsome
 have htr0:=htr
 simp only [fk] at htr
 split at htr<;>try (cases htr;done)
 rename_i xa xb htra htrb
 split at htr
 ·rename_i hn;rw [hn] at hsome;cases hsome
 rename_i hd hmh
 split at htr<;>try (cases htr;done)
 rename_i Qz hbd
 obtain ⟨hpre',hm',qm,hcl',he',wT,Ws,yQ,Wt,zS⟩:=hd
 simp only [Option.some.injEq,C.gG.injEq] at htr
 obtain ⟨rfl,rfl,rfl,rfl,rfl,rfl,rfl,rfl,rfl,rfl,rfl⟩:=htr
 obtain ⟨ia,yP,oA,rr,t,xo,b3,i2,tj,o1,o2,n,ok,y,rfl,hlA,Wu,hdA,hgA,hitN,CQ,K1,mM,rfl,EN,FC,Mp,hg1,JD,hd2,hg2,hnN,hokN,hnit,Un,yC,he⟩:=FB hmh
 simp only at Wu hdA hgA hitN CQ K1 mM FC hnit Un yC he hbd
 subst yC
 obtain ⟨cx,cc,cy,JE,rfl⟩:=QM htrb
 subst he
 intro Y ι μ a w hout hbase hR
 refine wpIn_seq (wpIn_region ?_)
 have hszA:yP.size=rr.length+1:=by rw [←Array.length_toList,hlA];simp
 have Wv:List.range yP.size=List.range' 0 rr.length++[rr.length]:=by
  rw [hszA,List.range_succ,List.range_eq_range']
 rw [Wv]
 refine sR (Y:=Y) (out:=out) (base:=base) (k:=0) (K:=fun S1=>∃id es x π,get mn S1.env = .mp id∧js S1.H.bl wT Ws yQ Wt id=some es∧jl base π ⟨ef (qm::[n,ok]) S1.env,S1.H,S1.ms⟩ (I x) ∧
   ∀l:List (wT.den×yQ.den),l.Perm es→∃res,yO step l x=some res∧(match res with | .inl y=>K .normal (I y) | .inr b=>K (Dg zS (X b).1) (X b).2)) ?_ mM (fun j hj=>?_) hR hpre
 rotate_left
 ·rw [←Array.getElem?_toList,hlA,Nat.zero_add,List.getElem?_append_left (by assumption)]
 clear hR hpre
 intro ι μ S1 a w hR hK1
 obtain ⟨id,es,x,π,hmid,qn,cD,hres⟩:=hK1
 -- the iterator is made
 have hv:=hR.env mn
 rw [hmid] at hv
 generalize hav:a.tmps.getD mn undef=mv at hv
 cases hv with
 |mp _ L hL =>
 have hb:=dZ qn
 obtain ⟨L',ms,clock,dA,q1,q2,q3,q4,q5,q6,hp0,hd0⟩:=hR.inv.live _ _ hb
 rw [hL] at q1;cases q1
 obtain ⟨kT,eT,huT,hkT,_⟩:=jY CQ
 have dB:a.eval xo = .map (some L.b):=by
  have:xo = .tmp mn:=by
   cases xo<;>simp only [dz] at K1
   ·cases K1;rfl
   ·split at K1<;>cases K1
   ·cases K1
   ·cases K1
  rw [this];exact hav
 have hoA:yP[rr.length]?=some oA:=by rw [←Array.getElem?_toList,hlA];simp
 refine tU (x := .pointer (some ⟨w.heap.size, 0, none⟩)) (w' := w.alloc (.mapIter (some L.b) clock #[] clock)) (fun _ => trivial) rfl hoA (gB hgA _) (by rw [Wu]; intro c; simp) (.inl (by
  unfold execOp;rw [Wu];simp only [dB,Sem.run_bind,run_range_map w t kT eT L.b ms clock huT q3];rfl)) ?_
 simp only [wpOpsIn]
 rw [hdA]
 have qF:eF P N Y ι μ ⟨ef (qm::[n,ok]) S1.env,S1.H,S1.ms⟩ (a.put (some qm) (.pointer (some ⟨w.heap.size,0,none⟩))) (w.alloc (.mapIter (some L.b) clock #[] clock)):=by
  have h1:eF P N Y ι μ ⟨ef (qm::[n,ok]) S1.env,S1.H,S1.ms⟩ a w:=⟨hR.env.forget _,hR.sz,hR.inv,hR.ms⟩
  have h2:=h1.over (d:=qm) (by simp [ef,get]) (.pointer (some ⟨w.heap.size,0,none⟩))
  exact ⟨h2.env,h2.sz,h2.inv.junk _,h2.ms⟩
 have nq:=cD.rep hbase qF
 have hlt:L.b<w.heap.size:=(Array.getElem?_eq_some_iff.1 q3).1
 have QO:MI P N Y I mn qm wT Ws yQ Wt es dA (ms.toList.map (·.key)) L.b w.heap.size clock (ms.toList.map (·.born)) (List.range dA.length) x (a.put (some qm) (.pointer (some ⟨w.heap.size,0,none⟩))) (w.alloc (.mapIter (some L.b) clock #[] clock)) ι (μ.eR π) #[] clock ms clock:=by
  refine ⟨nq,Bi (by rw [hR.sz];exact hitN),.inl hR.inv.below.size,heap_alloc_new _ _,Nat.le_refl _,Nat.le_refl _,(heap_alloc_old _ _ hlt).trans q3,rfl,rfl,fun i e z he hz=>?_,fun b hb=>?_,q6,?_,List.nodup_range,fun i=>?_,fun yA h2=>?_⟩
  ·rw [List.getElem?_map] at hz
   cases hm:ms.toList[i]? with
   |none=>rw [hm] at hz;cases hz
   |some m =>
    rw [hm] at hz;cases hz
    obtain ⟨e',he',hk,_⟩:=q4.at hm
    rw [he] at he';cases he'
    exact hk
  ·obtain ⟨m, hm, rfl⟩ := List.mem_map.1 hb
   exact q5 m hm
  ·rw [List.length_map,eM.length q4]
  ·have hlen := eM.length q4
   simp only [List.mem_range,List.not_mem_nil,not_false_eq_true,and_true]
   constructor
   ·intro hi
    exact ⟨_,List.getElem?_eq_getElem (show i<(ms.toList.map (·.born)).length by simp at hlen ⊢;omega)⟩
   ·rintro ⟨b, hb⟩
    have:=(List.getElem?_eq_some_iff.1 hb).1
    simp at this hlen;omega
  ·exact HD cD hmid qn hL rfl yA h2
 have hat0:∀J:List Nat,J.Perm (List.range dA.length)→∃res,yO step (J.map fun i=>dA.getD i (wT.zero,yQ.zero)) x=some res∧(match res with | .inl y=>K .normal (I y) | .inr b=>K (Dg zS (X b).1) (X b).2):=fun J hJ =>
  hres _ (((hJ.map _).trans (by rw [Ms])).trans hp0)
 have hdE:KD wT es:=hd0.perm hp0
 clear hres qF nq qn hmid cD q3 q5 q6 dB hoA hav hb hR hL hlt
 generalize (a.put (some qm) (.pointer (some ⟨w.heap.size,0,none⟩)))=a1 at QO ⊢
 generalize hw1:w.alloc (.mapIter (some L.b) clock #[] clock)=w1 at QO ⊢
 generalize w.heap.size=r at QO
 generalize Um:ms.toList.map (·.born)=bs at QO
 generalize hkz:ms.toList.map (·.key)=kz at QO
 generalize L.b=bm at QO
 have hlen:dA.length=bs.length:=QO.len
 clear hw1 Um hkz
 show Code.wpIn _ _ _ (.block zS _) _ _ _
 refine wpIn_block (wpIn_mono ?_ fun e a w hp=>wS hp)
 refine wpIn_loop_ghost (fun (g:List Nat×α) a w=>(∃Y1,Ext P Y Y1∧∃ι μ seen c0 ms clock',MI P N Y1 I mn qm wT Ws yQ Wt es dA kz bm r clock bs g.1 g.2 a w ι μ seen c0 ms clock') ∧
  ∀J:List Nat,J.Perm g.1→∃res,yO step (J.map fun i=>dA.getD i (wT.zero,yQ.zero)) g.2=some res∧(match res with | .inl y=>K .normal (I y) | .inr b=>K (Dg zS (X b).1) (X b).2)) (fun g=>g.1.length) (x:=(List.range dA.length,x)) ⟨⟨Y,.refl Y,_,_,_,_,_,_,QO⟩,hat0⟩ ?_
 clear QO hat0
 rintro ⟨todo,x⟩ a w ⟨⟨Y0,PR,ι,μ,seen,c0,ms,clock',M⟩,Hg⟩
 simp only at M Hg
 refine wpIn_seq (wpIn_region ?_)
 have hsz2:tj.size=2:=by rw [←Array.length_toList,EN];rfl
 rw [show List.range tj.size=[0,1] by rw [hsz2];rfl]
 have hO0:tj[0]?=some o1:=by rw [←Array.getElem?_toList,EN];rfl
 have hO1:tj[1]?=some o2:=by rw [←Array.getElem?_toList,EN];rfl
 have Ww:=M.rep.sz
 have Uo:a.eval (.tmp qm) = .pointer (some ⟨r,0,none⟩):=M.it
 have hold:∀m∈ms.toList,m.born<clock:=fun m hm=>M.old _ (by rw [←M.Um];exact List.mem_map.2 ⟨m,hm,rfl⟩)
 have eu:∀v,get n (I x).env = .any∧get ok (I x).env = .any∧(a.put (some n) v).eval (.tmp n)=v:=fun v=>⟨hI x n (by simp),hI x ok (by simp),Bi (by rw [Ww];exact hnN)⟩
 rcases run_next_at (P:=P) w o1.type r bm clock c0 seen ms clock' M.hr M.hm hold M.sc with ⟨h0,hrun⟩|⟨en,hel,w1,hw1,hrun⟩
 ·refine tU (x := .tuple #[.bool false]) (w' := w) (fun _ => trivial) rfl hO0 (gB hg1 _) (by rw [FC]; intro c; simp) (.inl (by
   unfold execOp;rw [FC];simp only [Uo,Sem.run_bind,hrun];rfl)) ?_
  rw [Mp]
  refine tU (x := .bool false) (w' := w) (fun _ => trivial) rfl hO1 (gB hg2 _) (by rw [JD]; intro c; simp) (.inl (by
   unfold execOp;rw [JD];simp only [(eu _).2.2];simp [Instr.extract])) ?_
  rw [hd2]
  simp only [wpOpsIn]
  show Code.wpIn _ _ _ (.seq _ _) _ _ _
  refine wpIn_seq (wpIn_cond_false (Bi (by simpa [Act.put,Ww] using hokN)) (wpIn_exit ?_))
  have aaF:todo=[]:=by
   cases htd:todo with
   |nil=>rfl
   |cons i _ =>
    exfalso
    obtain ⟨b,iq,eB⟩:=(M.left i).1 (by rw [htd];exact List.mem_cons_self ..)
    rw [←M.Um,List.getElem?_map] at iq
    cases Mt:ms.toList[i]? with
    |none=>rw [Mt] at iq;cases iq
    |some m =>
     rw [Mt] at iq;cases iq
     have:m∈leftOf ms seen:=by
      simp only [leftOf,Array.mem_filter]
      exact ⟨by simpa using List.mem_of_getElem? Mt,by simpa using eB⟩
     have hp:=Array.size_pos_of_mem this
     omega
  subst aaF
  obtain ⟨res,hr,hK⟩:=Hg [] (.refl _)
  simp only [List.map_nil,yO,Option.some.injEq] at hr
  subst hr
  refine ⟨Y0,PR,ι,μ,I x,.exit zS,?_,rfl,?_⟩
  ·have h1 := (M.rep.over (eu .nilFunc).1 (.tuple #[.bool false])).over (eu .nilFunc).2.1 (.bool false)
   exact h1
  ·simp only [Nat.beq_refl];exact hK
 ·-- an entry
  have Wx:w1.heap=w.heap:=by rcases hw1 with rfl|rfl<;>rfl
  have qF:eF P N Y0 ι μ (I x) a w1:=by
   rcases hw1 with rfl|rfl
   ·exact M.rep
   ·exact ⟨M.rep.env,M.rep.sz,M.rep.inv.drew,M.rep.ms⟩
  have CH:w1.heap[r]?=some (.mapIter (some bm) clock seen c0):=by rw [Wx];exact M.hr
  have fK:w1.heap[bm]?=some (.map ms clock'):=by rw [Wx];exact M.hm
  have hne:bm≠r:=fun e=>by subst e;rw [CH] at fK;cases fK
  have hrlt:r<w1.heap.size:=(Array.getElem?_eq_some_iff.1 CH).1
  change (Instr.next _ _ _).run P w = .ok _ (w1.putObj r (.mapIter (some bm) clock (seen.push en.born) clock')) at hrun
  generalize hw2:w1.putObj r (.mapIter (some bm) clock (seen.push en.born) clock')=w2 at hrun
  have CI:w2.heap[r]?=some (.mapIter (some bm) clock (seen.push en.born) clock'):=by rw [←hw2];exact World.putObj_heap_same hrlt
  have hm2:w2.heap[bm]?=some (.map ms clock'):=by rw [←hw2,World.putObj_heap_other hne];exact fK
  have ue:Inv P Y0 ι μ (I x).H w2:=by rw [←hw2];exact qF.inv.side CH M.own _
  have aaI:Y0.w0.heap.size≤w2.heap.size:=ue.below.size
  clear hw2 fK CH qF hw1 Wx hrlt
  refine tU (x := .tuple #[.bool true, en.key, en.val]) (w' := w2) (fun _ => trivial) rfl hO0 (gB hg1 _) (by rw [FC]; intro c; simp) (.inl (by
   unfold execOp;rw [FC];simp only [Uo,Sem.run_bind,hrun];rfl)) ?_
  rw [Mp]
  refine tU (x := .bool true) (w' := w2) (fun _ => trivial) rfl hO1 (gB hg2 _) (by rw [JD]; intro c; simp) (.inl (by
   unfold execOp;rw [JD];simp only [(eu _).2.2];simp [Instr.extract])) ?_
  rw [hd2]
  simp only [wpOpsIn]
  show Code.wpIn _ _ _ (.seq _ _) _ _ _
  refine wpIn_seq (wpIn_cond_true (Bi (by simpa [Act.put,Ww] using hokN)) (wpIn_skip ?_))
  have hRa:eF P N Y0 ι μ (I x) ((a.put (some n) (.tuple #[.bool true,en.key,en.val])).put (some ok) (.bool true)) w2:=by
   have h1:=(M.rep.over (eu .nilFunc).1 (.tuple #[.bool true,en.key,en.val])).over (eu .nilFunc).2.1 (.bool true)
   exact ⟨h1.env,h1.sz,ue,h1.ms⟩
  have Wy:((a.put (some n) (.tuple #[.bool true,en.key,en.val])).put (some ok) (.bool true)).tmps.getD qm undef = .pointer (some ⟨r,0,none⟩):=by
   rw [Mo Un,Mo hnit];exact M.it
  show Code.wpIn _ _ _ (.block b3 y) _ _ _
  generalize ((a.put (some n) (.tuple #[.bool true,en.key,en.val])).put (some ok) (.bool true))=a2 at hRa Wy
  -- which one
  have Wz:en∈ms.toList∧en.born∉seen.toList:=by
   have:en∈leftOf ms seen:=by simpa using hel
   simp only [leftOf,Array.mem_filter] at this
   exact ⟨by simpa using this.1,by simpa using this.2⟩
  obtain ⟨i,hi⟩:=List.getElem?_of_mem Wz.1
  have hbi:bs[i]?=some en.born:=by rw [←M.Um,List.getElem?_map,hi];rfl
  have FD:i∈todo:=(M.left i).2 ⟨_,hbi,Wz.2⟩
  have HE:∀J:List Nat,J.Perm (todo.erase i)→∃res,yO step (dA.getD i (wT.zero,yQ.zero)::J.map fun i=>dA.getD i (wT.zero,yQ.zero)) x=some res∧(match res with | .inl y=>K .normal (I y) | .inr b=>K (Dg zS (X b).1) (X b).2):=fun J hJ =>
   Hg (i::J) ((hJ.cons i).trans (List.perm_cons_erase FD).symm)
  have hs1:∃q,step (dA.getD i (wT.zero,yQ.zero)) x=some q:=by
   obtain ⟨res,hr,_⟩:=HE _ (.refl _)
   rcases Df hr with ⟨y,hy⟩|⟨b,hb,_⟩
   ·exact ⟨_,hy⟩
   ·exact ⟨_,hb⟩
  obtain ⟨q,hq⟩:=hs1
  obtain ⟨id,es',hmid,qn,hwp⟩:=hstep _ _ _ hq
  obtain ⟨⟨L,hL,VX⟩,Cm⟩:=M.here id hmid
  have:=Cm es' qn
  subst this
  obtain ⟨L',ms2,ck2,EP,z1,z2,z3,z4,z5,z6,z7,z8⟩:=ue.live id _ (dZ qn)
  rw [hL] at z1;cases z1
  rw [VX,hm2] at z3;cases z3
  obtain ⟨e0,he0,hk,hv⟩:=z4.at hi
  have ZA:dA.getD i (wT.zero,yQ.zero)=e0:=by
   have hil:i<dA.length:=by
    have:=(List.getElem?_eq_some_iff.1 hbi).1
    rw [M.len];exact this
   have h1:dA[i]?=some dA[i]:=List.getElem?_eq_getElem hil
   have h2:=M.hke i _ en.key h1 (by rw [←M.hkz,List.getElem?_map,hi];rfl)
   have h3:=hdE.inj (hp0.mem_iff.1 (List.getElem_mem hil)) (z7.mem_iff.1 (List.mem_of_getElem? he0)) (QN hkT h2 hk)
   rw [List.getD_eq_getElem?_getD,h1]
   exact h3
  rw [ZA] at hq hwp HE
  have hx0:=Hw x
  let L0:Loc:=⟨r,0,0,0⟩
  have Mv:Inv P Y0 ι (μ.set aC L0) ⟨aC+1,(I x).H.bl⟩ w2:=by rw [←hx0];exact ue.name L0
  have hnone:μ aC=none:=by rw [←hx0];exact ue.nx _ (Nat.le_refl _)
  have hle:=Mu.fC (L:=L0) hnone
  have hRs:eF P N (Y0.side w2 ι (μ.set aC L0) r) ι (μ.set aC L0) ⟨(qm,.ptr aC 0)::(I x).env,⟨aC+1,(I x).H.bl⟩,(I x).ms⟩ a2 w2:=by
   refine ⟨fun t=>?_,hRa.sz,Mv.into CI,hRa.ms.mono hle⟩
   rw [bV]
   split
   ·rename_i e; subst e
    rw [Wy]
    have:=Rel.ptr (ι:=ι) (μ:=μ.set aC L0) aC 0 L0 (by simp [Mu.set])
    exact this
   ·exact (hRa.env t).mono (ai.le_refl _) hle
  have cD:=run_entry_at (P:=P) w2 r bm clock seen ms clock' en CI hm2 Wz.1 (by rw [M.Um];exact M.nd)
  have Mw:jZ (Y0.side w2 ι (μ.set aC L0) r) out:=(PR.V5 hout).up (Mu.le_trans M.rep.inv.m0 hle)
  have iF:(Y0.side w2 ι (μ.set aC L0) r).base (aC+1):=fun id hid=>Mv.nx id hid
  have hF:(Y0.side w2 ι (μ.set aC L0) r).F=Y.F:=PR.F
  rw [←hF]
  refine wpIn_mono (Mq (Y:=Y0.side w2 ι (μ.set aC L0) r) (gP (aC+1)) JE hbd Mw iF hRs Wy cD (hk.rel) (hv.rel) hwp) fun e3 a3 w3 hp=>?_
  obtain ⟨Y1,Ma,ι3,μ3,S3,ex,K0,HA,QA⟩:=hp
  have pP:Inv P (Y0.side w2 ι (μ.set aC L0) r) ι3 μ3 S3.H w3:=Ma.inv K0.inv
  have QS:(μ.set aC L0).le μ3:=pP.m0
  have aaK:=(Array.getElem?_eq_some_iff.1 CI).1
  obtain ⟨Y2,hY2,Mx,-,-,-,A5,-,My⟩:=Ma.lift (Yb:=Y0) (r:=r) (fun h=>Mv.aaA h) (fun b hb=>by
   rcases hb with hb|hb
   ·exact .inl (Nat.le_trans aaI hb)
   ·exact hb.1) rfl (Mu.le_trans M.rep.inv.m0 hle) rfl ⟨aaK,fun h=>by
    rcases h with h|h
    ·have : w2.heap.size ≤ r := h
     omega
    ·exact h.2 rfl⟩ M.own
  have hYt:=PR.trans hY2
  have HF:Inv P Y2 ι3 μ3 S3.H w3:=Mx K0.inv
  have hms3:jk Y2.hid μ3 S3.ms a3.defers:=by rw [A5];exact K0.ms
  cases q with
  |inr b =>
   obtain ⟨hne3,hex,π3,HG⟩:=QA
   obtain ⟨res,hr,hK⟩:=HE _ (.refl _)
   have hres:res = .inr b:=by
    rcases Df hr with ⟨y,hy⟩|⟨b',hb,h⟩
    ·rw [hq] at hy;cases hy
    ·rw [hq] at hb;cases hb;exact h
   subst hres
   have hRb:=HG.rep (hYt.tS hbase) (⟨K0.env,K0.sz,HF,hms3⟩:eF P N Y2 ι3 μ3 S3 a3 w3)
   subst hex
   simp only at hK
   generalize hxb:(X b).1=xb at hK HA hne3
   cases xb with
   |normal=>exact absurd rfl hne3
   |exit i' =>
    cases HA
    refine ⟨Y2,hYt,ι3,_,_,.exit i',hRb,rfl,?_⟩
    simp only [Dg] at hK
    split at hK
    ·rename_i hb;simp only [hb];exact hK
    ·rename_i hb;simp only [hb];exact hK
   |ret=>cases HA;exact ⟨Y2,hYt,ι3,_,_,.ret,hRb,rfl,hK⟩
  |inl y =>
   obtain ⟨rfl,hit3,hmn3,Bk,π3,HG⟩:=QA
   cases HA
   have hRf:eF P N Y2 ι3 μ3 ⟨ef (qm::[n,ok]) S3.env,S3.H,S3.ms⟩ a3 w3:=⟨K0.env.forget _,K0.sz,HF,hms3⟩
   have hRy:=HG.rep (hYt.tS hbase) hRf
   have hbm3 : w3.heap[bm]? = some (.map ms clock') ∨ ∃ Uq ck3, w3.heap[bm]? = some (.map Uq ck3) := .inr (by
    obtain ⟨L3,Uq,ck3,es3,y1,y2,y3,_⟩:=HF.live id _ (dZ Bk)
    rw [QS _ _ (hle _ _ hL)] at y1;cases y1
    exact ⟨Uq,ck3,by rw [←VX];exact y3⟩)
   obtain ⟨L3,Uq,ck3,es3,y1,y2,y3,y4,y5,y6,y7,_⟩:=HF.live id _ (dZ Bk)
   rw [QS _ _ (hle _ _ hL)] at y1;cases y1
   rw [VX] at y3
   have aaP:bm<w2.heap.size:=(Array.getElem?_eq_some_iff.1 hm2).1
   have hgrow:=pP.below.maps bm aaP ms clock' hm2
   obtain ⟨ms4,ck4,g1,g2,g3⟩:=hgrow
   rw [y3] at g1;cases g1
   have hbk:(Uq.toList.map fun m=>(m.born,m.key))=ms.toList.map fun m=>(m.born,m.key):=by
    refine (g2.eq_of_length ?_).symm
    have h1:=ue.live id _ (dZ qn)
    have h2:ms.toList.length=bs.length:=by rw [←M.Um,List.length_map]
    rw [List.length_map,List.length_map,eM.length y4,y7.length_eq,←hp0.length_eq,hlen,h2]
   have wj:Uq.toList.map (·.born)=bs:=by
    have:=congrArg (List.map Prod.fst) hbk
    rw [←M.Um];simpa [List.map_map,Function.comp_def] using this
   have hkeys:Uq.toList.map (·.key)=kz:=by
    have:=congrArg (List.map Prod.snd) hbk
    rw [←M.hkz];simpa [List.map_map,Function.comp_def] using this
   refine ⟨⟨todo.erase i,y⟩,⟨⟨Y2,hYt,ι3,_,seen.push en.born,clock',Uq,ck3,hRy,?_,My,?_,M.ck,Nat.le_trans M.ck g3,y3,wj,hkeys,fun i e z he hz=>(M.hke i e z he hz).mono (fun b o x hx=>pP.i0 b o x hx),M.old,M.nd,M.len,M.td.erase i,fun j=>?_,?_⟩,fun J hJ=>?_⟩,?_⟩
   ·have := K0.env qm
    rw [hit3] at this
    generalize a3.tmps.getD qm undef=tv at this ⊢
    cases this with
    |ptr _ _ L4 h4 =>
     rw [QS aC L0 (by simp [Mu.set])] at h4
     cases h4
     rfl
   ·have := pP.below.block r (Array.getElem?_eq_some_iff.1 CI).1 (fun h => h.2 rfl)
    rw [this];exact CI
   ·rw [List.Nodup.mem_erase_iff M.td, M.left j]
    simp only [Array.toList_push,List.mem_append,List.mem_singleton]
    constructor
    ·rintro ⟨hj, b, hb, hs⟩
     refine ⟨b,hb,fun h=>?_⟩
     rcases h with h|h
     ·exact hs h
     ·subst h
      exact hj ((List.getElem?_inj (List.getElem?_eq_some_iff.1 hb).1 M.nd).1 (hb.trans hbi.symm))
    ·rintro ⟨b, hb, hs⟩
     refine ⟨fun e=>?_,b,hb,fun h=>hs (.inl h)⟩
     subst e
     rw [hbi] at hb;cases hb
     exact hs (.inr rfl)
   ·exact fun yA h2=>HD HG hmn3 Bk (QS _ _ (hle _ _ hL)) VX yA h2
   ·obtain ⟨res, h, hK⟩ := HE J hJ
    simp only [yO,hq] at h
    exact ⟨res,h,hK⟩
   ·rw [List.length_erase_of_mem FD]
    have:=List.length_pos_of_mem FD
    show todo.length - 1<todo.length
    omega
end
end Go.AM
end
section
namespace Go.AM
structure Kz (R:Type) where
 br:Bool→R→R→R
 am:R→R→R
 nd:Bool→R→R
 no:R
 bd:{A:Type}→Option A→(A→R)→R
 sm:{A B:Type}→A ⊕ B→(A→R)→(B→R)→R
 an:{E:Type}→List E→(List E→R)→R
noncomputable def need {X:Type} (c:Bool) (x:Option X):Option X:=@ite _ (c=true) (Classical.propDecidable _) x none
noncomputable def u5 {X:Type} (c:Bool) (x y:Option X):Option X:=@ite _ (c=true) (Classical.propDecidable _) x y
noncomputable def Di {X:Type} (x y:Option X):Option X:=@ite _ (x=y) (Classical.propDecidable _) x none
noncomputable def iu {A X:Type} (o:Option A) (f:A→Option X):Option X:=@dite _ (∃a,o=some a) (Classical.propDecidable _) (fun h=>f h.choose) (fun _=>none)
@[reducible] noncomputable def jf (X:Type):Kz (Option X) where
 br c a b:=u5 c a b
 am a b:=Di a b
 nd c a:=need c a
 no:=none
 bd o f:=iu o f
 sm s f g:=match s with
  | .inl a=>f a
  | .inr b=>g b
 an es f:=iE f es
theorem JH {X:Type} {x y:Option X} {r:X} (h:Di x y=some r):x=some r∧y=some r:=by
 unfold Di at h
 split at h
 ·rename_i e;exact ⟨h,e▸h⟩
 ·cases h
@[simp] theorem zT {X:Type} {x:Option X}:Di x x=x:=by unfold Di;rw [if_pos rfl]
theorem gn {X:Type} {c:Bool} {x:Option X} (h:c=true):need c x=x:=by unfold need;rw [if_pos h]
@[simp] theorem ak {X:Type} {x:Option X}:need true x=x:=gn rfl
@[simp] theorem WA {X:Type} {x:Option X}:need false x=none:=by unfold need;rw [if_neg (by simp)]
@[simp] theorem bM {X:Type} {x y:Option X}:u5 true x y=x:=by unfold u5;rw [if_pos rfl]
@[simp] theorem b8 {X:Type} {x y:Option X}:u5 false x y=y:=by unfold u5;rw [if_neg (by simp)]
@[simp] theorem aN {A X:Type} {a:A} {f:A→Option X}:iu (some a) f=f a:=by
 have h:∃b,some a=some b:=⟨a,rfl⟩
 unfold iu;rw [dif_pos h]
 have:=h.choose_spec
 rw [←Option.some.inj this]
@[simp] theorem aeV {A X:Type} {f:A→Option X}:iu none f=none:=by
 unfold iu;rw [dif_neg];rintro ⟨a,h⟩;cases h
theorem de {X:Type} {c:Bool} {x:Option X} {r:X} (h:need c x=some r):c=true∧x=some r:=by
 cases c<;>simp at h ⊢;exact h
theorem qo {A X:Type} {o:Option A} {f:A→Option X} {r:X} (h:iu o f=some r):∃a,o=some a∧f a=some r:=by
 cases o<;>simp at h ⊢;exact h
theorem oV {X A:Type} {o:Option A} {f:A→Option X} {r:X} (h:(jf X).bd o f=some r):∃a,o=some a∧f a=some r:=qo h
theorem iG {X:Type} {c:Bool} {x y:Option X} {r:X} (h:u5 c x y=some r):(c=true∧x=some r)∨(c=false∧y=some r):=by
 cases c<;>simp at h ⊢<;>exact h
section
variable {R:Type}
def fV (v:V) (k:V→R):R:=match v with
 | .any=>k .any
 | .tf b=>match b with
  |true=>k (.tf true)
  |false=>k (.tf false)
 | .bool b=>k (.bool b)
 | .int ik n=>k (.int ik n)
 | .str s=>k (.str s)
 | .ez=>k .ez
 | .cF=>k .cF
 | .eW=>k .eW
 | .eH t xs=>k (.eH t xs)
 | .bY=>k .bY
 | .sl id t lo n=>k (.sl id t lo n)
 | .ptr id off=>k (.ptr id off)
 | .ff cs=>k (.ff cs)
 | .ep id t i p=>k (.ep id t i p)
 | .ip t x=>k (.ip t x)
 | .fn f a b=>k (.fn f a b)
 | .yl id=>k (.yl id)
 | .agg cs=>k (.agg cs)
 | .cI vs=>k (.cI vs)
 | .cq t v=>k (.cq t v)
 | .cb c=>k (.cb c)
 | .mp id=>k (.mp id)
 | .cB=>k .cB
 | .pa id t n=>k (.pa id t n)
 | .kQ t xs=>k (.kQ t xs)
 | .sp id o l=>k (.sp id o l)
theorem nt (v:V) (k:V→R):fV v k=k v:=by
 cases v<;>try rfl
 rename_i b;cases b<;>rfl
def fN (n:Nat) (k:Nat→R):R:=match n with
 |0=>k 0
 |n+1=>k (n+1)
theorem fM (n:Nat) (k:Nat→R):fN n k=k n:=by cases n<;>rfl
def uB (d:Option Nat) (v:V) (env:Env) (k:Env→R):R:=match d with
 |some t=>k ((t,v)::env)
 |none=>k env
theorem kY (d:Option Nat) (v:V) (env:Env) (k:Env→R):uB d v env k=k (put d v env):=by cases d<;>rfl
def pQ (id : Nat) : ah → (ah → R) → R
 |[],k=>k []
 |(s,b)::r,k=>match Nat.beq s id with
  |true=>pQ id r k
  |false=>pQ id r fun r'=>k ((s,b)::r')
theorem j8 (id : Nat) : ∀ (bl : ah) (k : ah → R), pQ id bl k = k (bt id bl)
 |[],k=>rfl
 |(s,b)::r,k=>by
  simp only [pQ,bt]
  split<;>rename_i h<;>simp only [h]<;>exact j8 id r _
def gR : eA → ah → (ah → R) → R
 |[],bl,k=>k bl
 |(id,none)::r,bl,k=>pQ id bl fun bl=>gR r bl k
 |(id,some b)::r,bl,k=>pQ id bl fun bl=>gR r ((id,b)::bl) k
theorem fO : ∀ (u : eA) (bl : ah) (k : ah → R), gR u bl k = k (bw u bl)
 |[],_,_=>rfl
 |(id,none)::r,bl,k=>by simp only [gR,j8,bw];exact fO r _ k
 |(id,some b)::r,bl,k=>by simp only [gR,j8,bw];exact fO r _ k
def rq (kz : Kz R) : List Bool → R → R
 |[],k=>k
 |b::r,k=>kz.nd b (rq kz r k)
structure Cx where
 pc:{R:Type}→Kz R→Nat→List V→(V→R)→R
 ca:{R:Type}→Kz R→Nat→List V→Nat→ah→(V→Nat→ah→R)→R
 rd:{R:Type}→Kz R→Nat→List V→Nat→ah→(V→Nat→ah→R)→R
 op:Nat:=0
structure Cx.Ok (P:Program) (cx:Cx):Prop where
 Ur:∀{X:Type} {f:Nat} {vs:List V} {K:V→Option X} {r:X},cx.pc (jf X) f vs K=some r→∃v,gL P f vs v∧K v=some r
 QT:∀{X:Type} {f:Nat} {vs:List V} {nx:Nat} {bl:ah} {K:V→Nat→ah→Option X} {r:X},cx.ca (jf X) f vs nx bl K=some r →
  ∀{Q:V→aF→Prop},(∀v nx bl,K v nx bl=some r→Q v ⟨nx,bl⟩)→gN P f vs ⟨nx,bl⟩ Q
 WB:∀{X:Type} {id:Nat} {vs:List V} {nx:Nat} {bl:ah} {K:V→Nat→ah→Option X} {r:X},cx.rd (jf X) id vs nx bl K=some r →
  ∀{Q:V→aF→Prop},(∀v nx bl,K v nx bl=some r→Q v ⟨nx,bl⟩)→around P id vs ⟨nx,bl⟩ Q
def Cx.mz (cx:Cx) (n:Nat):Cx:={ cx with op:=n }
def Bm (kz:Kz R) (g:Option (Nat×Bool)) (env:Env) (skip run:Env→R):R:=match g with
 |none=>run env
 |some (s,b)=>match get s env with
  | .tf c=>match c,b with
   |true,true=>run env
   |false,false=>run env
   |true,false=>skip env
   |false,true=>skip env
  | .bool c => kz.br c
   (match b with
    |true=>run ((s,.tf true)::env)
    |false=>skip ((s,.tf true)::env))
   (match b with
    |false=>run ((s,.tf false)::env)
    |true=>skip ((s,.tf false)::env))
  | .cI _=>skip env
  |_=>kz.no
def Us (kz:Kz R) (op:Nat) (ar:Ar) (bl:ah) (k:ah→R):R:=match op with
 |0=>k bl
 |n+1=>match (match n with
   |0=>Li bl
   |_+1=>AJ bl) with
  |[]=>k bl
  |ids=>match KY ar ids bl with
   |some u=>gR u bl k
   |none=>kz.no
def dmOp : Nat → Nat
 |0=>0
 |_+1=>1
def kI (kz : Kz R) (cx : Cx) (ar : Ar) : List eL → Env → Nat → ah → (Env → Nat → ah → R) → R
 |[],env,nx,bl,K=>K env nx bl
 | .op d g i::r,env,nx,bl,K=>Bm kz g env (fun env=>uB d (.cI []) env fun env=>kI kz cx ar r env nx bl K) fun env =>
   match cx.op with
   |0=>(match Uk ar i env bl nx with
    |some (ob,v,u)=>rq kz ob (fV v fun v=>uB d v env fun env=>match i.lays with
     |true=>fN (nx+1) fun nx=>gR u bl fun bl=>kI kz cx ar r env nx bl K
     |false=>gR u bl fun bl=>kI kz cx ar r env nx bl K)
    |none=>kz.no)
   |_+1=>match yH ar i env bl nx with
    |some (ob,v,u)=>rq kz ob (fV v fun v=>uB d v env fun env=>match i.lays with
     |true=>fN (nx+1) fun nx=>gR u bl fun bl=>kI kz cx ar r env nx bl K
     |false=>gR u bl fun bl=>kI kz cx ar r env nx bl K)
    |none=>match Uk ar i env bl nx with
     |some (ob,v,u)=>rq kz ob (fV v fun v=>uB d v env fun env=>match i.lays with
      |true=>fN (nx+1) fun nx=>gR u bl fun bl=>kI kz cx ar r env nx bl K
      |false=>gR u bl fun bl=>kI kz cx ar r env nx bl K)
     |none=>Us kz 1 ar bl fun bl=>match Uk ar i env bl nx with
      |some (ob,v,u)=>rq kz ob (fV v fun v=>uB d v env fun env=>match i.lays with
       |true=>fN (nx+1) fun nx=>gR u bl fun bl=>kI kz cx ar r env nx bl K
       |false=>gR u bl fun bl=>kI kz cx ar r env nx bl K)
      |none=>kz.no
 | .call d g f a tys::r,env,nx,bl,K=>Bm kz g env (fun env=>uB d (.cI []) env fun env=>kI kz cx ar r env nx bl K) fun env=>Us kz (dmOp cx.op) ar bl fun bl =>
   match f.ev env with
   | .fn f fs cs=>cx.ca kz f (fs++cO tys (a.map (·.ev env))++cs) nx bl fun v nx bl=>fV v fun v=>uB d v env fun env=>kI kz cx ar r env nx bl K
   | .yl id=>cx.rd kz id (cO tys (a.map (·.ev env))) nx bl fun v nx bl=>fV v fun v=>uB d v env fun env=>kI kz cx ar r env nx bl K
   |_=>kz.no
def zU (kz:Kz R) (gs:List Nat) (d:Option Nat) (v:V) (env:Env) (K:Env→R):R:=match d with
 |none=>K env
 |some t=>match AQ t gs with
  |false=>K ((t,v)::env)
  |true=>match v with
   | .bool c=>kz.br c (K ((t,.tf true)::env)) (K ((t,.tf false)::env))
   |v=>K ((t,v)::env)
def PS (kz : Kz R) (cx : Cx) (ar : Ar) (gs : List Nat) (b : Nat) : List eL → Nat → Env → ah → List DR → (Env → ah → List DR → R) → R
 |[],_,env,bl,c8,K=>K env bl c8
 | .op d g i::r,k,env,bl,c8,K=>match GW g env with
  |some true=>match (match cx.op with
    |0=>none
    |_+1=>yH ar i env bl (b+k)) with
   |some (ob,v,u)=>rq kz ob (fV v fun v=>zU kz gs d v env fun env'=>gR u bl fun bl=>PS kz cx ar gs b r (k+1) env' bl (vN k (mF i env) (u.map (·.1)) c8) K)
   |none=>match Uk ar i env bl (b+k) with
    |some (ob,v,u)=>rq kz ob (fV v fun v=>zU kz gs d v env fun env'=>gR u bl fun bl=>PS kz cx ar gs b r (k+1) env' bl (vN k (mF i env) (u.map (·.1)) c8) K)
    |none=>kz.no
  |some false=>uB d (.cI []) env fun env=>PS kz cx ar gs b r (k+1) env bl c8 K
  |none=>kz.no
 | .call d g f a tys::r,k,env,bl,c8,K=>match GW g env with
  |some true=>match f.ev env with
   | .fn f fs cs=>match fs++cO tys (a.map (·.ev env))++cs with
    |vs=>match dg (fin ar bl 8) vs with
     |some vs'=>cx.pc kz f vs' fun x=>fV x fun x=>match CA x||vs.all (dJ 8) with
      |true=>zU kz gs d x env fun env'=>PS kz cx ar gs b r (k+1) env' bl (vN k (jt bl vs) [] c8) K
      |false=>match vO (jt bl vs) bl with
       |some u=>zU kz gs d x env fun env'=>gR u bl fun bH=>PS kz cx ar gs b r (k+1) env' bH (vN k (jt bl vs) (u.map (·.1)) c8) K
       |none=>kz.no
     |none=>kz.no
   |_=>kz.no
  |some false=>uB d (.cI []) env fun env=>PS kz cx ar gs b r (k+1) env bl c8 K
  |none=>kz.no
end
abbrev Kc (R:Type):=Ex→Env→Nat→ah→List Nat→R
structure cm (P:Program) (N:Nat) (out:Option Nat) (base:Nat):Type 1 where
 c:C
 run:{R:Type}→Kz R→Env→Nat→ah→List Nat→Kc R→R
 ok:∀{X:Type} {env:Env} {nx:Nat} {bl:ah} {ms:List Nat} {K:Kc (Option X)} {r:X},run (jf X) env nx bl ms K=some r →
  ∀{Q:Ex→St→Prop},(∀e env nx bl ms,K e env nx bl ms=some r→Q e ⟨env,⟨nx,bl⟩,ms⟩)→(fI P N out base).loop c ⟨env,⟨nx,bl⟩,ms⟩ Q
structure gp (P:Program) (N:Nat) (out:Option Nat) (base:Nat):Type 1 where
 f:O
 ps:List Nat
 a:C
 b:C
 run:{R:Type}→Kz R→Env→Nat→ah→List Nat→Kc R→R
 ok:∀{X:Type} {env:Env} {nx:Nat} {bl:ah} {ms:List Nat} {K:Kc (Option X)} {r:X},run (jf X) env nx bl ms K=some r →
  ∀{Q:Ex→St→Prop},(∀e env nx bl ms,K e env nx bl ms=some r→Q e ⟨env,⟨nx,bl⟩,ms⟩)→(fI P N out base).bC f ps a b ⟨env,⟨nx,bl⟩,ms⟩ Q
structure ru (P:Program) (N:Nat) (out:Option Nat) (base:Nat):Type 1 where
 pre:List eL
 m:O
 it:Nat
 cl:List Nat
 e:Option Nat
 kt:Ty
 kg:Bool
 vt:Ty
 vg:Bool
 pJ:Nat
 b:C
 run:{R:Type}→Kz R→Env→Nat→ah→List Nat→Kc R→R
 ok:∀{X:Type} {env:Env} {nx:Nat} {bl:ah} {ms:List Nat} {K:Kc (Option X)} {r:X},run (jf X) env nx bl ms K=some r →
  ∀{Q:Ex→St→Prop},(∀e env nx bl ms,K e env nx bl ms=some r→Q e ⟨env,⟨nx,bl⟩,ms⟩)→(fI P N out base).gG (.gG pre m it cl e kt kg vt vg pJ b) ⟨env,⟨nx,bl⟩,ms⟩ Q
structure FE (P:Program) (N:Nat) (out:Option Nat) (base:Nat) (f:O) (ps:List Nat) (a b:C):Type 1 where
 run:{R:Type}→Kz R→Env→Nat→ah→List Nat→Kc R→R
 ok:∀{X:Type} {env:Env} {nx:Nat} {bl:ah} {ms:List Nat} {K:Kc (Option X)} {r:X},run (jf X) env nx bl ms K=some r →
  ∀{Q:Ex→St→Prop},(∀e env nx bl ms,K e env nx bl ms=some r→Q e ⟨env,⟨nx,bl⟩,ms⟩)→(fI P N out base).bC f ps a b ⟨env,⟨nx,bl⟩,ms⟩ Q
def FE.s {P:Program} {N:Nat} {out:Option Nat} {base:Nat} {f:O} {ps:List Nat} {a b:C} (T:FE P N out base f ps a b):gp P N out base:=⟨f,ps,a,b,T.run,T.ok⟩
inductive D (P:Program) (N:Nat) (out:Option Nat) (base:Nat):Type 1 where
 |skip
 |aR (items:List eL)
 |draw (cS:List (List Nat)) (items:List eL)
 |seq (a b:D P N out base)
 |cond (c:O) (a b:D P N out base)
 |block (id:Nat) (c:D P N out base)
 |loop (l:cm P N out base)
 |exit (id:Nat)
 |ret
 |bC (l:gp P N out base)
 |gG (l:ru P N out base)
section
variable {P:Program} {N:Nat} {out:Option Nat} {base:Nat} {R:Type}
def D.er : D P N out base → C
 | .skip=>.skip
 | .aR is=>.aR is
 | .draw ps is=>.draw ps is
 | .seq a b=>.seq a.er b.er
 | .cond c a b=>.cond c a.er b.er
 | .block id c=>.block id c.er
 | .loop l=>.loop l.c
 | .exit id=>.exit id
 | .ret=>.ret
 | .bC l=>.bC l.f l.ps l.a l.b
 | .gG l=>.gG l.pre l.m l.it l.cl l.e l.kt l.kg l.vt l.vg l.pJ l.b
def ZN (c:O) (b:Bool) (env:Env):Env:=match c with
 | .t n=>(n,.tf b)::env
 | .c _=>env
 | .m _ _=>env
def kE (kz : Kz R) (cx : Cx) (ar : Ar) : D P N out base → Env → Nat → ah → List Nat → Kc R → R
 | .skip,env,nx,bl,ms,K=>K .normal env nx bl ms
 | .aR is,env,nx,bl,ms,K=>kI kz cx ar is env nx bl fun env nx bl=>K .normal env nx bl ms
 | .draw ps is,env,nx,bl,ms,K=>PS kz cx ar (vR is) nx is 0 env bl [] fun env bl c8=>match Ls ps c8 with
  |true=>fN (nx+is.length) fun nx=>K .normal env nx bl ms
  |false=>kz.no
 | .seq a b,env,nx,bl,ms,K=>kE kz cx ar a env nx bl ms fun e env nx bl ms=>match e with
  | .normal=>kE kz cx ar b env nx bl ms K
  | .exit id=>K (.exit id) env nx bl ms
  | .ret=>K .ret env nx bl ms
 | .cond c a b,env,nx,bl,ms,K=>match c.ev env with
  | .tf true=>kE kz cx ar a env nx bl ms K
  | .tf false=>kE kz cx ar b env nx bl ms K
  | .bool x=>kz.br x (kE kz cx ar a (ZN c true env) nx bl ms K) (kE kz cx ar b (ZN c false env) nx bl ms K)
  | .cb x=>kz.br x (kz.am (kE kz cx ar a (ZN c true env) nx bl ms K) (kE kz cx ar b (ZN c false env) nx bl ms K)) (kE kz cx ar b (ZN c false env) nx bl ms K)
  |_=>kz.no
 | .block id c,env,nx,bl,ms,K=>kE kz cx ar c env nx bl ms fun e env nx bl ms=>match e with
  | .normal=>K .normal env nx bl ms
  | .exit id'=>match Nat.beq id' id with
   |true=>K .normal env nx bl ms
   |false=>K (.exit id') env nx bl ms
  | .ret=>K .ret env nx bl ms
 | .loop l,env,nx,bl,ms,K=>Us kz cx.op ar bl fun bl=>l.run kz env nx bl ms K
 | .exit id,env,nx,bl,ms,K=>K (.exit id) env nx bl ms
 | .ret,env,nx,bl,ms,K=>K .ret env nx bl ms
 | .bC l,env,nx,bl,ms,K=>Us kz cx.op ar bl fun bl=>l.run kz env nx bl ms K
 | .gG l,env,nx,bl,ms,K=>Us kz cx.op ar bl fun bl=>l.run kz env nx bl ms K
variable {X:Type} {cx:Cx}
theorem mS {ob:List Bool} {x:Option X} {r:X} (h:rq (jf X) ob x=some r):uw ob∧x=some r:=by
 induction ob with
 |nil=>exact ⟨trivial,h⟩
 |cons b l ih =>
  obtain ⟨h1,h2⟩:=de h
  obtain ⟨h3,h4⟩:=ih h2
  cases l with
  |nil=>exact ⟨h1,h4⟩
  |cons c l=>exact ⟨⟨h1,h3⟩,h4⟩
theorem zV {g : Option (Nat × Bool)} {env : Env} {nx : Nat} {bl : ah} {ms : List Nat} {skip run : Env → Option X} {r : X} (h : Bm (jf X) g env skip run = some r) {d : Option Nat} {K run' : St → Prop}
  (hs:∀env,skip env=some r→K ⟨put d (.cI []) env,⟨nx,bl⟩,ms⟩) (hr:∀env,run env=some r→run' ⟨env,⟨nx,bl⟩,ms⟩):oN g d ⟨env,⟨nx,bl⟩,ms⟩ K run':=by
 unfold Bm at h
 unfold oN
 split at h
 ·exact hr _ h
 ·rename_i s b
  simp only
  split at h
  ·rename_i c hc
   rw [hc]
   cases c<;>cases b<;>simp only at h ⊢
   ·exact hr _ h
   ·exact hs _ h
   ·exact hs _ h
   ·exact hr _ h
  ·rename_i c hc
   rw [hc]
   rcases iG h with ⟨e,h⟩|⟨e,h⟩
   ·refine ⟨fun _ => ?_, fun e' => by rw [e] at e'; cases e'⟩
    cases b<;>simp only at h ⊢
    ·exact hs _ h
    ·exact hr _ h
   ·refine ⟨fun e' => (by rw [e] at e'; cases e'), fun _ => ?_⟩
    cases b<;>simp only at h ⊢
    ·exact hr _ h
    ·exact hs _ h
  ·rename_i hc
   rw [hc]
   exact hs _ h
  ·cases h
theorem Mz {op:Nat} {bl:ah} {k:ah→Option X} {r:X} (h:Us (jf X) op ew bl k=some r):k bl=some r∨∃ids u,KY (fI P N out base) ids bl=some u∧k (bw u bl)=some r:=by
 unfold Us at h
 split at h
 ·exact .inl h
 ·split at h
  ·exact .inl h
  ·split at h <;> try (cases h; done)
   rename_i u hu
   rw [fO] at h
   exact .inr ⟨_,u,by unfold fI;rw [Me];exact hu,h⟩
theorem Bn {op:Nat} {env:Env} {nx:Nat} {bl:ah} {ms:List Nat} {k:ah→Option X} {r:X} (h:Us (jf X) op ew bl k=some r) {K:St→Prop} (hK:∀bl,k bl=some r→K ⟨env,⟨nx,bl⟩,ms⟩):Lk (fI P N out base) ⟨env,⟨nx,bl⟩,ms⟩ K:=by
 rcases Mz (P:=P) (N:=N) (out:=out) (base:=base) h with h|⟨ids,u,hu,h⟩
 ·exact .inl (hK _ h)
 ·exact .inr ⟨ids,u,hu,hK _ h⟩
theorem od (gq:cx.Ok P):∀{is:List eL} {env:Env} {nx:Nat} {bl:ah} {ms:List Nat} {K:Env→Nat→ah→Option X} {r:X} {Q:St→Prop},kI (jf X) cx ew is env nx bl K=some r →
  (∀env nx bl,K env nx bl=some r→Q ⟨env,⟨nx,bl⟩,ms⟩)→fu (fI P N out base) is ⟨env,⟨nx,bl⟩,ms⟩ Q
 |[],env,nx,bl,ms,K,r,Q,h,hK=>hK _ _ _ h
 | .op d g i::is,env,nx,bl,ms,K,r,Q,h,hK=>by
  simp only [kI] at h
  simp only [fu]
  have body:∀{env:Env} {bl:ah} {ob:List Bool} {v:V} {u:eA},Uk ew i env bl nx=some (ob,v,u) →
    rq (jf X) ob (fV v fun v=>uB d v env fun env=>match i.lays with
     |true=>fN (nx+1) fun nx=>gR u bl fun bl=>kI (jf X) cx ew is env nx bl K
     |false=>gR u bl fun bl=>kI (jf X) cx ew is env nx bl K)=some r →
    bZ (fI P N out base) i env bl nx=some (ob,v,u)∧uw ob∧fu (fI P N out base) is ⟨put d v env,⟨KZ i.lays nx,bw u bl⟩,ms⟩ Q:=by
   intro env bl ob v u ag h
   obtain ⟨cV,h⟩:=mS h
   rw [nt,kY] at h
   rw [Ml] at ag
   refine ⟨by unfold fI;rw [Mc];exact ag,cV,?_⟩
   split at h
   ·rename_i hl
    rw [fM,fO] at h
    simp only [hl,KZ]
    exact od gq h hK
   ·rename_i hl
    rw [fO] at h
    simp only [hl,KZ]
    exact od gq h hK
  refine zV h (fun env h=>?_) (fun env h=>?_)
  ·rw [kY] at h;exact od gq h hK
  ·split at h
   ·split at h
    ·rename_i ob v u ag
     obtain ⟨h1,h2,h3⟩:=body ag h
     exact Bf h1 h2 h3
    ·cases h
   ·split at h
    ·rename_i ob v u ag
     obtain ⟨cV,h⟩:=mS h
     rw [nt,kY] at h
     refine Wo (by unfold fI;rw [Md];exact ag) cV ?_
     split at h
     ·rename_i hl
      rw [fM,fO] at h
      simp only [hl,KZ]
      exact od gq h hK
     ·rename_i hl
      rw [fO] at h
      simp only [hl,KZ]
      exact od gq h hK
    ·split at h
     ·rename_i ob v u ag
      obtain ⟨h1,h2,h3⟩:=body ag h
      exact Bf h1 h2 h3
     ·rcases Mz (P := P) (N := N) (out := out) (base := base) h with h | ⟨ids, u', hu, h⟩
      ·split at h
       ·rename_i ob v u ag
        obtain ⟨h1,h2,h3⟩:=body ag h
        exact Bf h1 h2 h3
       ·cases h
      ·split at h
       ·rename_i ob v u ag
        obtain ⟨h1,h2,h3⟩:=body ag h
        exact Wp hu h1 h2 h3
       ·cases h
 | .call d g f a tys::is,env,nx,bl,ms,K,r,Q,h,hK=>by
  simp only [kI] at h
  simp only [fu]
  refine zV h (fun env h=>?_) (fun env h=>?_)
  ·rw [kY] at h;exact od gq h hK
  ·simp only [E6]
   refine Bn h fun bl h=>?_
   simp only [uS]
   split at h
   ·rename_i f' fs cs hf
    rw [hf]
    refine gq.QT h fun v nx bl h=>?_
    rw [nt,kY] at h
    exact od gq h hK
   ·rename_i id hf
    rw [hf]
    refine gq.WB h fun v nx bl h=>?_
    rw [nt,kY] at h
    exact od gq h hK
   ·cases h
theorem rz {gs:List Nat} {d:Option Nat} {v:V} {env:Env} {K:Env→Option X} {r:X} (h:zU (jf X) gs d v env K=some r) {K':Env→Prop} (hK:∀env,K env=some r→K' env):CB gs d v env K':=by
 unfold zU at h
 unfold CB
 cases d with
 |none=>exact hK _ h
 |some t =>
  simp only at h ⊢
  split at h
  ·rename_i hm;rw [hm];exact hK _ h
  ·rename_i hm
   rw [hm]
   simp only
   split at h
   ·rename_i c
    simp only
    rcases iG h with ⟨e,h⟩|⟨e,h⟩
    ·exact ⟨fun _=>hK _ h,fun e'=>by rw [e] at e';cases e'⟩
    ·exact ⟨fun e'=>(by rw [e] at e';cases e'),fun _=>hK _ h⟩
   ·rename_i hv
    have:=hK _ h
    cases v<;>first|exact this|exact (hv _ rfl).elim
theorem qp (gq:cx.Ok P) {gs:List Nat} {b:Nat}:∀{is:List eL} {k:Nat} {env:Env} {bl:ah} {c8:List DR} {K:Env→ah→List DR→Option X} {r:X} {Q:Env→ah→List DR→Prop},
  PS (jf X) cx ew gs b is k env bl c8 K=some r→(∀env bl c8,K env bl c8=some r→Q env bl c8)→qO (fI P N out base) gs b is k env bl c8 Q
 |[],k,env,bl,c8,K,r,Q,h,hK=>hK _ _ _ h
 | .op d g i::is,k,env,bl,c8,K,r,Q,h,hK=>by
  simp only [PS] at h
  simp only [qO]
  split at h
  ·rename_i hg
   rw [hg]
   split at h
   ·rename_i ob v u ag
    obtain ⟨cV,h⟩:=mS h
    rw [nt] at h
    have WC:yH (fI P N out base) i env bl (b+k)=some (ob,v,u):=by
     unfold fI;rw [Md]
     split at ag
     ·cases ag
     ·exact ag
    refine .inr (zq WC cV (rz h fun env h=>?_))
    rw [fO] at h
    exact qp gq h hK
   ·split at h
    ·rename_i ob v u ag
     obtain ⟨cV,h⟩:=mS h
     rw [nt] at h
     rw [Ml] at ag
     have WC:bZ (fI P N out base) i env bl (b+k)=some (ob,v,u):=by unfold fI;rw [Mc];exact ag
     refine .inl (zq WC cV (rz h fun env h=>?_))
     rw [fO] at h
     exact qp gq h hK
    ·cases h
  ·rename_i hg
   rw [hg]
   rw [kY] at h
   exact qp gq h hK
  ·cases h
 | .call d g f a tys::is,k,env,bl,c8,K,r,Q,h,hK=>by
  simp only [PS] at h
  simp only [qO]
  split at h
  ·rename_i hg
   rw [hg]
   split at h
   ·rename_i f' fs cs hf
    rw [hf]
    split at h
    ·rename_i vs' hm
     obtain ⟨v,hp,h⟩:=gq.Ur h
     rw [nt] at h
     have e:dg (fin (fI P N out base) bl 8)=dg (fin ew bl 8):=funext fun vs=>mP (fun v=>by unfold fI;exact wK) vs
     simp only [e,hm]
     split at h
     ·rename_i hsc
      exact ⟨v,[],hp,by rw [hsc];rfl,rz h fun env h=>qp gq h hK⟩
     ·rename_i hsc
      split at h
      ·rename_i u hu
       exact ⟨v,u,hp,by rw [hsc];exact hu,rz h fun env h=>qp gq (by rw [fO] at h;exact h) hK⟩
      ·cases h
    ·cases h
   ·cases h
  ·rename_i hg
   rw [hg]
   rw [kY] at h
   exact qp gq h hK
  ·cases h
theorem kZ (gq:cx.Ok P):∀{d:D P N out base} {env:Env} {nx:Nat} {bl:ah} {ms:List Nat} {K:Kc (Option X)} {r:X} {Q:Ex→St→Prop},kE (jf X) cx ew d env nx bl ms K=some r →
  (∀e env nx bl ms,K e env nx bl ms=some r→Q e ⟨env,⟨nx,bl⟩,ms⟩)→qP (fI P N out base) d.er ⟨env,⟨nx,bl⟩,ms⟩ Q:=by
 intro d
 induction d with
 |skip=>intro env nx bl ms K r Q h hK;exact hK _ _ _ _ _ h
 |aR is=>intro env nx bl ms K r Q h hK;exact od gq h fun env nx bl h=>hK _ _ _ _ _ h
 |draw ps is =>
  intro env nx bl ms K r Q h hK
  refine qp gq h fun env bl c8 h=>?_
  split at h
  ·rename_i hd
   rw [fM] at h
   exact ⟨hd,hK _ _ _ _ _ h⟩
  ·cases h
 |seq a b FF ER =>
  intro env nx bl ms K r Q h hK
  refine FF h fun e env nx bl ms h=>?_
  cases e with
  |normal=>exact ER h hK
  |exit id=>exact hK _ _ _ _ _ h
  |ret=>exact hK _ _ _ _ _ h
 |cond c a b FF ER =>
  intro env nx bl ms K r Q h hK
  simp only [kE] at h
  simp only [D.er,qP]
  have hrw:∀x env,Qc c x ⟨env,⟨nx,bl⟩,ms⟩=⟨ZN c x env,⟨nx,bl⟩,ms⟩:=fun x env=>by cases c<;>rfl
  split at h
  ·rename_i hc;rw [hc];exact FF h hK
  ·rename_i hc;rw [hc];exact ER h hK
  ·rename_i x hc
   rw [hc]
   rcases iG h with ⟨e,h⟩|⟨e,h⟩
   ·refine ⟨fun _ => ?_, fun e' => by rw [e] at e'; cases e'⟩
    rw [hrw];exact FF h hK
   ·refine ⟨fun e' => (by rw [e] at e'; cases e'), fun _ => ?_⟩
    rw [hrw];exact ER h hK
  ·rename_i x hc
   rw [hc]
   rcases iG h with ⟨e,h⟩|⟨e,h⟩
   ·obtain ⟨h1, h2⟩ := JH h
    exact ⟨fun _=>by rw [hrw];exact FF h1 hK,by rw [hrw];exact ER h2 hK⟩
   ·exact ⟨fun e'=>(by rw [e] at e';cases e'),by rw [hrw];exact ER h hK⟩
  ·cases h
 |block id c ih =>
  intro env nx bl ms K r Q h hK
  refine ih h fun e env nx bl ms h=>?_
  cases e with
  |normal=>exact hK _ _ _ _ _ h
  |exit id' =>
   simp only at h ⊢
   split at h
   ·rename_i e;rw [e];exact hK _ _ _ _ _ h
   ·rename_i e;rw [e];exact hK _ _ _ _ _ h
  |ret=>exact hK _ _ _ _ _ h
 |loop l=>intro env nx bl ms K r Q h hK;exact Bn h fun bl h=>l.ok h hK
 |exit id=>intro env nx bl ms K r Q h hK;exact hK _ _ _ _ _ h
 |ret=>intro env nx bl ms K r Q h hK;exact hK _ _ _ _ _ h
 |bC l=>intro env nx bl ms K r Q h hK;exact Bn h fun bl h=>l.ok h hK
 |gG l=>intro env nx bl ms K r Q h hK;exact Bn h fun bl h=>l.ok h hK
end
end Go.AM
end
section
namespace Go.AM
inductive CP where
 |any
 |tf (b:Bool)
 |ez
 |cF
 |eW
 |bY
 |hole (t:Ty)
 |cC (b:Nat) (t:Ty)
 |PT (b:Nat) (t:Ty)
 |ptr (b off:Nat)
 |yl (b:Nat)
 |ff (t:Ty)
 |fn0 (f:Nat)
 |JI (l:CP)
 |JJ (l:CP)
 |fn (f:Nat) (a b:CP)
 |FG (t:Nat) (g:Bool) (l:CP)
 |mp (b:Nat)
 |cB
 |pa (b:Nat) (t:Ty) (n:Nat)
 |kQ (t:Ty)
 |nil
 |cons (c l:CP)
inductive SP where
 |c (c:CP)
 |agg (cs:List CP)
 |cI (cs:List CP)
 |fn (f:Nat) (a b:List CP)
 |alt (a b:List CP)
def CP.T : CP → Type → Type
 | .hole t,A=>t.den×A
 | .cC _ _,A=>Nat×A
 | .PT _ _,A=>Nat×Nat×A
 | .ff t,A=>t.den×A
 | .kQ t,A=>List t.den×A
 | .FG _ _ l,A=>l.T A
 | .mp _,A=>A
 | .cB,A=>A
 | .pa _ _ _,A=>A
 | .JI l,A=>l.T A
 | .JJ l,A=>l.T A
 | .fn _ a b,A=>a.T (b.T A)
 | .cons c l,A=>c.T (l.T A)
 | .any,A=>A
 | .tf _,A=>A
 | .ez,A=>A
 | .cF,A=>A
 | .eW,A=>A
 | .bY,A=>A
 | .ptr _ _,A=>A
 | .yl _,A=>A
 | .fn0 _,A=>A
 | .nil,A=>A
def tyV : (t : Ty) → t.den → V
 | .unit,_=>.agg []
 | .bool,b=>.bool b
 | .str,s=>.str s
 | .int k,n=>.int k n
 | .list t,xs=>.eH t xs
 | .prod a b,x=>.agg (cw (.prod a b) x)
 | .cq d g t,x=>.cq d (cw.iU g (cw t x))
def CP.r : (c : CP) → {A : Type} → c.T A → A
 | .any,_,x=>x
 | .tf _,_,x=>x
 | .ez,_,x=>x
 | .cF,_,x=>x
 | .eW,_,x=>x
 | .bY,_,x=>x
 | .hole _,_,x=>x.2
 | .cC _ _,_,x=>x.2
 | .PT _ _,_,x=>x.2.2
 | .ptr _ _,_,x=>x
 | .yl _,_,x=>x
 | .ff _,_,x=>x.2
 | .kQ _,_,x=>x.2
 | .FG _ _ l,_,x=>l.r x
 | .mp _,_,x=>x
 | .cB,_,x=>x
 | .pa _ _ _,_,x=>x
 | .fn0 _,_,x=>x
 | .JI l,_,x=>l.r x
 | .JJ l,_,x=>l.r x
 | .fn _ a b,_,x=>b.r (a.r x)
 | .nil,_,x=>x
 | .cons c l,_,x=>l.r (c.r x)
def CP.vs : (c : CP) → {A : Type} → c.T A → List V
 | .any,_,_=>[.any]
 | .tf b,_,_=>[.tf b]
 | .ez,_,_=>[.ez]
 | .cF,_,_=>[.cF]
 | .eW,_,_=>[.eW]
 | .bY,_,_=>[.bY]
 | .hole t,_,x=>[tyV t x.1]
 | .cC b t,_,x=>[.sl b t 0 x.1]
 | .PT b t,_,x=>[.sl b t x.1 x.2.1]
 | .ptr b off,_,_=>[.ptr b off]
 | .yl b,_,_=>[.yl b]
 | .ff t,_,x=>[.ff (cw t x.1)]
 | .fn0 f,_,_=>[.fn f [] []]
 | .JI l,_,x=>[.ff (l.vs x)]
 | .JJ l,_,x=>[.agg (l.vs x)]
 | .FG t g l,_,x=>[.cq t (cw.iU g (l.vs x))]
 | .mp b,_,_=>[.mp b]
 | .cB,_,_=>[.cB]
 | .pa b t n,_,_=>[.pa b t n]
 | .kQ t,_,x=>[.kQ t x.1]
 | .fn f a b,_,x=>[.fn f (a.vs x) (b.vs (a.r x))]
 | .nil,_,_=>[]
 | .cons c l,_,x=>c.vs x++l.vs (c.r x)
def Mp : List V → V
 |v::_=>v
 |[]=>.any
def CP.v {A:Type} (c:CP) (x:c.T A):V:=Mp (c.vs x)
def lV : List CP → Type → Type
 |[],A=>A
 |c::r,A=>c.T (lV r A)
def qq {A : Type} : (cs : List CP) → lV cs A → List V
 |[],_=>[]
 |c::r,x=>c.v x::qq r (c.r x)
def rA {A : Type} : (cs : List CP) → lV cs A → A
 |[],x=>x
 |c::r,x=>rA r (c.r x)
def SP.T : SP → Type → Type
 | .c q,A=>q.T A
 | .agg cs,A=>lV cs A
 | .cI cs,A=>lV cs A
 | .fn _ a b,A=>lV a (lV b A)
 | .alt a b,A=>lV a A ⊕ lV b A
def SP.v {A : Type} : (p : SP) → p.T A → V
 | .c q,x=>q.v x
 | .agg cs,x=>.agg (qq cs x)
 | .cI cs,x=>.cI (qq cs x)
 | .fn f a b,x=>.fn f (qq a x) (qq b (rA a x))
 | .alt a b,x=>match x with
  | .inl y=>.cI (qq a y)
  | .inr y=>.cI (qq b y)
def SP.r {A : Type} : (p : SP) → p.T A → A
 | .c q,x=>q.r x
 | .agg cs,x=>rA cs x
 | .cI cs,x=>rA cs x
 | .fn _ a b,x=>rA b (rA a x)
 | .alt a b,x=>match x with
  | .inl y=>rA a y
  | .inr y=>rA b y
def yR : List (Nat × SP) → Type → Type
 |[],A=>A
 |(_,p)::r,A=>p.T (yR r A)
def wU {A : Type} : (ps : List (Nat × SP)) → yR ps A → Env
 |[],_=>[]
 |(s,p)::r,x=>(s,p.v x)::wU r (p.r x)
def MA {A : Type} : (ps : List (Nat × SP)) → yR ps A → A
 |[],x=>x
 |(_,p)::r,x=>MA r (p.r x)
inductive BP where
 |arr (t:Ty) (fz:Bool)
 |cells (cs:List CP) (fz:Bool)
 |loop (st:qb) (j:Option Ex) (d:Nat) (env:List (Nat×SP)) (ps:List Nat) (as bd:C) (N:Nat)
 |ig
 |map (kt:Ty) (kg:Bool) (vt:Ty) (vg:Bool)
 |mz (t:Ty) (i:Nat) (p:List Bool) (c:CP)
def BP.T : BP → Type → Type
 | .arr t _,A=>List t.den×A
 | .cells cs _,A=>lV cs A
 | .loop _ _ _ env _ _ _ _,A=>yR env A
 | .ig,A=>A
 | .map kt _ vt _,A=>List (kt.den×vt.den)×A
 | .mz t _ _ c,A=>List t.den×c.T A
def BP.v {A : Type} : (p : BP) → p.T A → kP
 | .arr t fz,x=>.arr t x.1 fz
 | .cells cs fz,x=>.cells (qq cs x) fz
 | .loop st j d env ps as bd N,x=>.loop st j d (wU env x) ps as bd N
 | .ig,_=>.ig
 | .map kt kg vt vg,x=>.map kt kg vt vg x.1
 | .mz t i p c,x=>.mz t x.1 i p (c.v x.2)
def BP.r {A : Type} : (p : BP) → p.T A → A
 | .arr _ _,x=>x.2
 | .cells cs _,x=>rA cs x
 | .loop _ _ _ env _ _ _ _,x=>MA env x
 | .ig,x=>x
 | .map _ _ _ _,x=>x.2
 | .mz _ _ _ c,x=>c.r x.2
def QU : List (Nat × BP) → Type → Type
 |[],A=>A
 |(_,p)::r,A=>p.T (QU r A)
def PU {A : Type} : (ps : List (Nat × BP)) → QU ps A → ah
 |[],_=>[]
 |(s,p)::r,x=>(s,p.v x)::PU r (p.r x)
inductive Lc where
 |slot (s:Nat)
 |part (s k:Nat)
 |cell (b k:Nat)
 |old (i:Nat)
 |mark (j:Nat)
structure az where
 env:List (Nat×SP)
 bl:List (Nat×BP)
 gI:List Lc
 ms:List Nat
def az.T (p:az):Type:=yR p.env (QU p.bl Unit)
def az.E (p:az) (x:p.T):Env:=wU p.env x
def az.B (p:az) (x:p.T):ah:=PU p.bl (MA p.env x)
def az.st (base:Nat) (p:az) (x:p.T):St:=⟨p.E x,⟨base+p.gI.length,p.B x⟩,p.ms⟩
def uC : List Nat → Nat → Option Nat
 |[],_=>none
 |i::_,0=>some i
 |_::r,n+1=>uC r n
def lI : Bool → Bool → Bool
 |true,true=>true
 |false,false=>true
 |_,_=>false
def lW : (t t' : Ty) → Bool
 | .unit,.unit=>true
 | .bool,.bool=>true
 | .str,.str=>true
 | .int k,.int k'=>decide (k=k')
 | .list t,.list t'=>lW t t'
 | .prod a b,.prod a' b'=>match lW a a' with
  |true=>lW b b'
  |false=>false
 | .cq d g a,.cq d' g' a'=>match Nat.beq d d' with
  |true=>match lI g g' with
   |true=>lW a a'
   |false=>false
  |false=>false
 |_,_=>false
def yS (π:List Nat) (b i:Nat):Bool:=match uC π b with
 |some j=>Nat.beq j i
 |none=>false
def Bo : (t : Ty) → V → Option t.den
 | .bool,.bool b=>some b
 | .bool,.tf b=>some b
 | .str,.str s=>some s
 | .int k,.int k' n=>match decide (k=k') with
  |true=>some n
  |false=>none
 | .list t,.eH t' xs=>jR t' t xs
 | .list _,.bY=>some []
 | .prod a b,.agg cs=>match bq ew [] (.prod a b) cs with
  |some (x,_,[])=>some x
  |_=>none
 | .cq d g a,v=>match bq ew [] (.cq d g a) [v] with
  |some (x,_,[])=>some x
  |_=>none
 |_,_=>none
def CP.rd1 {A:Type} (π:List Nat) (c:CP) (v:V):Option (A→c.T A) :=
 match c with
 | .any=>some fun a=>a
 | .tf b=>match v with
  | .tf b'=>match lI b b' with
   |true=>some fun a=>a
   |false=>none
  |_=>none
 | .ez=>match v with
  | .ez=>some fun a=>a
  |_=>none
 | .cF=>match v with
  | .cF=>some fun a=>a
  |_=>none
 | .eW=>match v with
  | .eW=>some fun a=>a
  |_=>none
 | .bY=>match v with
  | .bY=>some fun a=>a
  |_=>none
 | .hole t=>match Bo t v with
  |some x=>some fun a=>(x,a)
  |none=>none
 | .cC b t=>match v with
  | .sl i t' lo n=>match yS π b i with
   |true=>match lW t' t with
    |true=>match Nat.beq lo 0 with
     |true=>some fun a=>(n,a)
     |false=>none
    |false=>none
   |false=>none
  | .bY=>some fun a=>((0:Nat),a)
  |_=>none
 | .PT b t=>match v with
  | .sl i t' lo n=>match yS π b i with
   |true=>match lW t' t with
    |true=>some fun a=>(lo,n,a)
    |false=>none
   |false=>none
  | .bY=>some fun a=>((0:Nat),(0:Nat),a)
  |_=>none
 | .ptr b off=>match v with
  | .ptr i o=>match yS π b i with
   |true=>match Nat.beq o off with
    |true=>some fun a=>a
    |false=>none
   |false=>none
  |_=>none
 | .yl b=>match v with
  | .yl i=>match yS π b i with
   |true=>some fun a=>a
   |false=>none
  |_=>none
 | .ff t=>match v with
  | .ff cs=>match bq ew [] t cs with
   |some (x,_,[])=>some fun a=>(x,a)
   |_=>none
  |_=>none
 | .mp b=>match v with
  | .mp i=>match yS π b i with
   |true=>some fun a=>a
   |false=>none
  |_=>none
 | .cB=>match v with
  | .cB=>some fun a=>a
  |_=>none
 | .pa b t n=>match v with
  | .pa i t' n'=>match yS π b i with
   |true=>match lW t' t with
    |true=>match Nat.beq n' n with
     |true=>some fun a=>a
     |false=>none
    |false=>none
   |false=>none
  |_=>none
 | .kQ t=>match v with
  | .kQ t' xs=>match jR t' t xs with
   |some ys=>some fun a=>(ys,a)
   |none=>none
  |_=>none
 | .fn0 f=>match v with
  | .fn f' [] []=>match Nat.beq f' f with
   |true=>some fun a=>a
   |false=>none
  |_=>none
 |_=>none
def CP.ET (π : List Nat) : (c : CP) → {A : Type} → List V → Option ((A → c.T A) × List V)
 | .nil,_,vs=>some (fun a=>a,vs)
 | .cons c l,A,vs=>match c.ET π (A:=l.T A) vs with
  |some (f,vs')=>match l.ET π (A:=A) vs' with
   |some (g,vs'')=>some (fun a=>f (g a),vs'')
   |none=>none
  |none=>none
 | .JI l,A,vs=>match vs with
  | .ff cs::r=>match l.ET π (A:=A) cs with
   |some (f,[])=>some (f,r)
   |_=>none
  |_=>none
 | .JJ l,A,vs=>match vs with
  | .agg cs::r=>match l.ET π (A:=A) cs with
   |some (f,[])=>some (f,r)
   |_=>none
  |_=>none
 | .FG t g l,A,vs=>match vs with
  | .cq t' v::r=>match Nat.beq t' t with
   |true=>match AG g v with
    |some cs=>match l.ET π (A:=A) cs with
     |some (f,[])=>some (f,r)
     |_=>none
    |none=>none
   |false=>none
  |_=>none
 | .fn f a b,A,vs=>match vs with
  | .fn f' va vb::r=>match Nat.beq f' f with
   |true=>match a.ET π (A:=b.T A) va with
    |some (g,[])=>match b.ET π (A:=A) vb with
     |some (h,[])=>some (fun x=>g (h x),r)
     |_=>none
    |_=>none
   |false=>none
  |_=>none
 |c,_,vs=>match vs with
  |v::r=>match c.rd1 π v with
   |some f=>some (f,r)
   |none=>none
  |[]=>none
def CP.rd {A:Type} (π:List Nat) (c:CP) (v:V):Option (A→c.T A):=match c.ET π (A:=A) [v] with
 |some (f,[])=>some f
 |_=>none
def fq {A : Type} (π : List Nat) : (cs : List CP) → List V → Option (A → lV cs A)
 |[],[]=>some fun a=>a
 |c::r,v::vs=>match CP.rd (A:=lV r A) π c v with
  |some f=>match fq (A:=A) π r vs with
   |some g=>some fun a=>f (g a)
   |none=>none
  |none=>none
 |_,_=>none
def SP.rd {A:Type} (π:List Nat) (p:SP) (v:V):Option (A→p.T A) :=
 match p with
 | .c q=>q.rd π v
 | .agg cs=>match v with
  | .agg vs=>fq π cs vs
  |_=>none
 | .cI cs=>match v with
  | .cI vs=>fq π cs vs
  |_=>none
 | .fn f a b=>match v with
  | .fn f' va vb=>match Nat.beq f' f with
   |true=>match fq (A:=lV b A) π a va with
    |some g=>match fq (A:=A) π b vb with
     |some h=>some fun x=>g (h x)
     |none=>none
    |none=>none
   |false=>none
  |_=>none
 | .alt a b=>match v with
  | .cI vs=>match fq (A:=A) π a vs with
   |some f=>some fun x=>.inl (f x)
   |none=>match fq (A:=A) π b vs with
    |some f=>some fun x=>.inr (f x)
    |none=>none
  |_=>none
def SP.kv {R : Type} (kz : Kz R) : (p : SP) → p.T Unit → (V → R) → R
 | .alt a b,y,K=>kz.sm (A:=lV a Unit) (B:=lV b Unit) y (fun x=>K (.cI (qq a x))) (fun x=>K (.cI (qq b x)))
 | .c q,y,K=>K (SP.v (.c q) y)
 | .agg cs,y,K=>K (SP.v (.agg cs) y)
 | .cI cs,y,K=>K (SP.v (.cI cs) y)
 | .fn f a b,y,K=>K (SP.v (.fn f a b) y)
theorem SP.aaR {X : Type} : ∀ (p : SP) (y : p.T Unit) (K : V → Option X), p.kv (jf X) y K = K (p.v y)
 | .alt _ _,.inl _,_=>rfl
 | .alt _ _,.inr _,_=>rfl
 | .c _,_,_=>rfl
 | .agg _,_,_=>rfl
 | .cI _,_,_=>rfl
 | .fn _ _ _,_,_=>rfl
def zW {A : Type} (π : List Nat) (env : Env) : (ps : List (Nat × SP)) → Option (A → yR ps A)
 |[]=>some fun a=>a
 |(s,p)::r=>match SP.rd (A:=yR r A) π p (get s env) with
  |some f=>match zW (A:=A) π env r with
   |some g=>some fun a=>f (g a)
   |none=>none
  |none=>none
mutual
def QV : V → V → Bool
 | .any,.any=>true
 | .tf a,.tf b=>lI a b
 | .bool a,.bool b=>lI a b
 | .int k n,.int k' m=>match decide (k=k') with
  |true=>decide (n=m)
  |false=>false
 | .ez,.ez=>true
 | .cF,.cF=>true
 | .eW,.eW=>true
 | .cB,.cB=>true
 | .bY,.bY=>true
 | .str s,.str s'=>decide (s=s')
 | .fn f a b,.fn f' a' b'=>match Nat.beq f f' with
  |true=>match pR a a' with
   |true=>pR b b'
   |false=>false
  |false=>false
 | .agg a,.agg b=>pR a b
 |_,_=>false
def pR : List V → List V → Bool
 |[],[]=>true
 |a::r,b::s=>match QV a b with
  |true=>pR r s
  |false=>false
 |_,_=>false
end
mutual
theorem HH : ∀ {a b : V}, QV a b = true → a = b
 |a,b,h=>by
  cases a<;>cases b<;>simp only [QV,Bool.false_eq_true] at h<;>try rfl
  case tf.tf x y=>cases x<;>cases y<;>simp_all [lI]
  case bool.bool x y=>cases x<;>cases y<;>simp_all [lI]
  case int.int=>split at h<;>simp_all
  case str.str=>simp_all
  case fn.fn =>
   split at h<;>try (cases h;done)
   rename_i h1
   split at h<;>try (cases h;done)
   rename_i h2
   rw [Nat.eq_of_beq_eq_true h1,lX h2,lX h]
  case agg.agg=>rw [lX h]
theorem lX : ∀ {a b : List V}, pR a b = true → a = b
 |[],[],_=>rfl
 |a::r,b::s,h=>by
  simp only [pR] at h
  split at h<;>try (cases h;done)
  rename_i h1
  rw [HH h1,lX h]
 |[],_::_,h=>by simp [pR] at h
 |_::_,[],h=>by simp [pR] at h
end
end Go.AM
end
section
namespace Go.AM
def an (a b:Bool):Bool:=match a with
 |true=>b
 |false=>false
theorem aM {a b:Bool}:an a b=true↔a=true∧b=true:=by cases a<;>simp [an]
theorem ei {a b:Bool} (h:lI a b=true):a=b:=by cases a<;>cases b<;>simp_all [lI]
theorem k8:∀{t t':Ty},lW t t'=true→t=t':=by
 intro t
 induction t with
 |unit=>intro t' h;cases t'<;>simp [lW] at h ⊢
 |bool=>intro t' h;cases t'<;>simp [lW] at h ⊢
 |str=>intro t' h;cases t'<;>simp [lW] at h ⊢
 |int k=>intro t' h;cases t'<;>simp [lW] at h ⊢;exact h
 |list t ih=>intro t' h;cases t'<;>simp [lW] at h ⊢;exact ih h
 |prod a b FF ER =>
  intro t' h
  cases t'<;>simp only [lW,Bool.false_eq_true] at h
  split at h<;>try (cases h;done)
  rename_i h1
  rw [FF h1,ER h]
 |cq d g a ih =>
  intro t' h
  cases t'<;>simp only [lW,Bool.false_eq_true] at h
  split at h<;>try (cases h;done)
  rename_i h1
  split at h<;>try (cases h;done)
  rename_i h2
  rw [Nat.eq_of_beq_eq_true h1,ei h2,ih h]
def MB (a b:IntKind):Bool:=decide (a=b)
theorem MC {a b:IntKind} (h:MB a b=true):a=b:=by simpa [MB] using h
def MD (a b:yE):Bool:=decide (a=b)
theorem ME {a b:yE} (h:MD a b=true):a=b:=by simpa [MD] using h
def MF : Kd → Kd → Bool
 | .b,.b=>true
 | .i,.i=>true
 | .s,.s=>true
 |_,_=>false
theorem MG {x y:Kd} (h:MF x y=true):x=y:=by cases x<;>cases y<;>simp_all [MF]
def j9 {α : Type} (f : α → α → Bool) : List α → List α → Bool
 |[],[]=>true
 |a::r,b::s=>match f a b with
  |true=>j9 f r s
  |false=>false
 |_,_=>false
theorem eS {α : Type} {f : α → α → Bool} (hf : ∀ {a b}, f a b = true → a = b) : ∀ {a b : List α}, j9 f a b = true → a = b
 |[],[],_=>rfl
 |a::r,b::s,h=>by
  simp only [j9] at h
  split at h<;>try (cases h;done)
  rename_i h1
  rw [hf h1,eS hf h]
 |[],_::_,h=>by simp [j9] at h
 |_::_,[],h=>by simp [j9] at h
def Ut:=j9 MF
theorem MH {a b:List Kd} (h:Ut a b=true):a=b:=eS MG h
def MJ:=j9 lI
theorem Dj {a b:List Bool} (h:MJ a b=true):a=b:=eS ei h
def Dk:=j9 Nat.beq
theorem rB {a b:List Nat} (h:Dk a b=true):a=b:=eS Nat.eq_of_beq_eq_true h
def MK:=j9 Dk
theorem JK {a b:List (List Nat)} (h:MK a b=true):a=b:=eS rB h
def dN : O → O → Bool
 | .t n,.t m=>Nat.beq n m
 | .c v,.c u=>QV v u
 | .m n l,.m m k=>an (Nat.beq n m) (decide (l=k))
 |_,_=>false
theorem aT {a b:O} (h:dN a b=true):a=b:=by
 cases a<;>cases b<;>simp only [dN,Bool.false_eq_true] at h
 ·rw [Nat.eq_of_beq_eq_true h]
 ·rw [HH h]
 ·rw [aM] at h;rw [Nat.eq_of_beq_eq_true h.1,of_decide_eq_true h.2]
def wV:=j9 dN
theorem lY {a b:List O} (h:wV a b=true):a=b:=eS aT h
def Dl : Option O → Option O → Bool
 |none,none=>true
 |some a,some b=>dN a b
 |_,_=>false
theorem wW {a b:Option O} (h:Dl a b=true):a=b:=by
 cases a<;>cases b<;>simp only [Dl,Bool.false_eq_true] at h
 ·rfl
 ·rw [aT h]
def WD : Nat × Nat × O → Nat × Nat × O → Bool
 |(a,b,x),(a',b',x')=>an (Nat.beq a a') (an (Nat.beq b b') (dN x x'))
theorem QW {p q:Nat×Nat×O} (h:WD p q=true):p=q:=by
 obtain ⟨a,b,c⟩:=p
 obtain ⟨a',b',c'⟩:=q
 simp only [WD,aM] at h
 rw [Nat.eq_of_beq_eq_true h.1,Nat.eq_of_beq_eq_true h.2.1,aT h.2.2]
def Uu:=j9 WD
theorem ML {a b:List (Nat×Nat×O)} (h:Uu a b=true):a=b:=eS QW h
def gr : I → I → Bool
 | .mv x0,.mv y0=>dN x0 y0
 | .pick x0 x1 x2,.pick y0 y1 y2=>an (dN x0 y0) (an (dN x1 y1) (dN x2 y2))
 | .alloc x0,.alloc y0=>pR x0 y0
 | .box x0,.box y0=>dN x0 y0
 | .build x0 x1,.build y0 y1=>an (pR x0 y0) (Uu x1 y1)
 | .dU x0 x1,.dU y0 y1=>an (lW x0 y0) (wV x1 y1)
 | .load x0 x1 x2,.load y0 y1 y2=>an (lI x0 y0) (an (Nat.beq x1 y1) (dN x2 y2))
 | .store x0 x1 x2,.store y0 y1 y2=>an (Nat.beq x0 y0) (an (dN x1 y1) (dN x2 y2))
 | .bin x0 x1 x2,.bin y0 y1 y2=>an (MD x0 y0) (an (dN x1 y1) (dN x2 y2))
 | .P3 x0 x1 x2,.P3 y0 y1 y2=>an (lI x0 y0) (an (dN x1 y1) (dN x2 y2))
 | .eqs x0 x1 x2 x3,.eqs y0 y1 y2 y3=>an (lI x0 y0) (an (Ut x1 y1) (an (dN x2 y2) (dN x3 y3)))
 | .neg x0,.neg y0=>dN x0 y0
 | .not x0,.not y0=>dN x0 y0
 | .conv x0 x1,.conv y0 y1=>an (MB x0 y0) (dN x1 y1)
 | .mB x0 x1 x2,.mB y0 y1 y2=>an (Nat.beq x0 y0) (an (MJ x1 y1) (dN x2 y2))
 | .field x0 x1 x2 x3,.field y0 y1 y2 y3=>an (lI x0 y0) (an (Nat.beq x1 y1) (an (Nat.beq x2 y2) (dN x3 y3)))
 | .idx x0 x1 x2,.idx y0 y1 y2=>an (Nat.beq x0 y0) (an (dN x1 y1) (dN x2 y2))
 | .yF x0 x1 x2 x3,.yF y0 y1 y2 y3=>an (Nat.beq x0 y0) (an (Nat.beq x1 y1) (an (dN x2 y2) (dN x3 y3)))
 | .ext x0 x1,.ext y0 y1=>an (Nat.beq x0 y0) (dN x1 y1)
 | .len x0,.len y0=>dN x0 y0
 | .lens x0,.lens y0=>dN x0 y0
 | .yG x0,.yG y0=>Nat.beq x0 y0
 | .append x0 x1 x2,.append y0 y1 y2=>an (Nat.beq x0 y0) (an (dN x1 y1) (dN x2 y2))
 | .iN x0 x1,.iN y0 y1=>an (lW x0 y0) (dN x1 y1)
 | .AE x0 x1 x2,.AE y0 y1 y2=>an (Nat.beq x0 y0) (an (wV x1 y1) (wV x2 y2))
 | .slice x0 x1 x2 x3 x4,.slice y0 y1 y2 y3 y4=>an (Nat.beq x0 y0) (an (dN x1 y1) (an (Dl x2 y2) (an (Dl x3 y3) (Dl x4 y4))))
 | .lC x0 x1 x2,.lC y0 y1 y2=>an (lI x0 y0) (an (dN x1 y1) (wV x2 y2))
 | .ex x0 x1,.ex y0 y1=>an (decide (x0=y0)) (wV x1 y1)
 |_,_=>false
theorem QX {a b:I} (h:gr a b=true):a=b:=by
 cases a<;>cases b<;>first|(simp only [gr,Bool.false_eq_true] at h;done)|skip
 case mv.mv=>simp only [gr,aM] at h;rw [aT h]
 case pick.pick=>simp only [gr,aM] at h;rw [aT h.1,aT h.2.1,aT h.2.2]
 case alloc.alloc=>simp only [gr,aM] at h;rw [lX h]
 case box.box=>simp only [gr,aM] at h;rw [aT h]
 case build.build=>simp only [gr,aM] at h;rw [lX h.1,ML h.2]
 case dU.dU=>simp only [gr,aM] at h;rw [k8 h.1,lY h.2]
 case load.load=>simp only [gr,aM] at h;rw [ei h.1,Nat.eq_of_beq_eq_true h.2.1,aT h.2.2]
 case store.store=>simp only [gr,aM] at h;rw [Nat.eq_of_beq_eq_true h.1,aT h.2.1,aT h.2.2]
 case bin.bin=>simp only [gr,aM] at h;rw [ME h.1,aT h.2.1,aT h.2.2]
 case P3.P3=>simp only [gr,aM] at h;rw [ei h.1,aT h.2.1,aT h.2.2]
 case eqs.eqs=>simp only [gr,aM] at h;rw [ei h.1,MH h.2.1,aT h.2.2.1,aT h.2.2.2]
 case neg.neg=>simp only [gr,aM] at h;rw [aT h]
 case not.not=>simp only [gr,aM] at h;rw [aT h]
 case conv.conv=>simp only [gr,aM] at h;rw [MC h.1,aT h.2]
 case mB.mB=>simp only [gr,aM] at h;rw [Nat.eq_of_beq_eq_true h.1,Dj h.2.1,aT h.2.2]
 case field.field=>simp only [gr,aM] at h;rw [ei h.1,Nat.eq_of_beq_eq_true h.2.1,Nat.eq_of_beq_eq_true h.2.2.1,aT h.2.2.2]
 case idx.idx=>simp only [gr,aM] at h;rw [Nat.eq_of_beq_eq_true h.1,aT h.2.1,aT h.2.2]
 case yF.yF=>simp only [gr,aM] at h;rw [Nat.eq_of_beq_eq_true h.1,Nat.eq_of_beq_eq_true h.2.1,aT h.2.2.1,aT h.2.2.2]
 case ext.ext=>simp only [gr,aM] at h;rw [Nat.eq_of_beq_eq_true h.1,aT h.2]
 case len.len=>simp only [gr,aM] at h;rw [aT h]
 case lens.lens=>simp only [gr,aM] at h;rw [aT h]
 case yG.yG=>simp only [gr,aM] at h;rw [Nat.eq_of_beq_eq_true h]
 case append.append=>simp only [gr,aM] at h;rw [Nat.eq_of_beq_eq_true h.1,aT h.2.1,aT h.2.2]
 case iN.iN=>simp only [gr,aM] at h;rw [k8 h.1,aT h.2]
 case AE.AE=>simp only [gr,aM] at h;rw [Nat.eq_of_beq_eq_true h.1,lY h.2.1,lY h.2.2]
 case slice.slice=>simp only [gr,aM] at h;rw [Nat.eq_of_beq_eq_true h.1,aT h.2.1,wW h.2.2.1,wW h.2.2.2.1,wW h.2.2.2.2]
 case lC.lC=>simp only [gr,aM] at h;rw [ei h.1,aT h.2.1,lY h.2.2]
 case ex.ex=>simp only [gr,aM] at h;rw [of_decide_eq_true h.1,lY h.2]
def QY : Option (Nat × Bool) → Option (Nat × Bool) → Bool
 |none,none=>true
 |some (s,b),some (s',b')=>an (Nat.beq s s') (lI b b')
 |_,_=>false
theorem HI {p q:Option (Nat×Bool)} (h:QY p q=true):p=q:=by
 rcases p with _|⟨a,b⟩<;>rcases q with _|⟨a',b'⟩<;>simp only [QY,Bool.false_eq_true,aM] at h
 ·rfl
 ·rw [Nat.eq_of_beq_eq_true h.1,ei h.2]
def MM : Option Nat → Option Nat → Bool
 |none,none=>true
 |some a,some b=>Nat.beq a b
 |_,_=>false
theorem Bp {a b:Option Nat} (h:MM a b=true):a=b:=by
 cases a<;>cases b<;>simp only [MM,Bool.false_eq_true] at h
 ·rfl
 ·rw [Nat.eq_of_beq_eq_true h]
def MN : Option Ty → Option Ty → Bool
 |none,none=>true
 |some a,some b=>lW a b
 |_,_=>false
theorem MO {a b:Option Ty} (h:MN a b=true):a=b:=by
 cases a<;>cases b<;>simp only [MN,Bool.false_eq_true] at h
 ·rfl
 ·rw [k8 h]
def wX : eL → eL → Bool
 | .op d g i,.op d' g' i'=>an (MM d d') (an (QY g g') (gr i i'))
 | .call d g f a t,.call d' g' f' a' t'=>an (MM d d') (an (QY g g') (an (dN f f') (an (wV a a') (j9 MN t t'))))
 |_,_=>false
theorem tq {a b:eL} (h:wX a b=true):a=b:=by
 cases a<;>cases b<;>simp only [wX,Bool.false_eq_true,aM] at h
 ·rw [Bp h.1,HI h.2.1,QX h.2.2]
 ·rw [Bp h.1,HI h.2.1,aT h.2.2.1,lY h.2.2.2.1,eS MO h.2.2.2.2]
def jm : C → C → Bool
 | .skip,.skip=>true
 | .aR is,.aR is'=>j9 wX is is'
 | .draw ps is,.draw ps' is'=>an (MK ps ps') (j9 wX is is')
 | .seq a b,.seq a' b'=>an (jm a a') (jm b b')
 | .cond c a b,.cond c' a' b'=>an (dN c c') (an (jm a a') (jm b b'))
 | .block id c,.block id' c'=>an (Nat.beq id id') (jm c c')
 | .loop c,.loop c'=>jm c c'
 | .exit id,.exit id'=>Nat.beq id id'
 | .ret,.ret=>true
 | .bC f ps a b,.bC f' ps' a' b'=>an (dN f f') (an (Dk ps ps') (an (jm a a') (jm b b')))
 | .gG p m i cl e kt kg vt vg d b,.gG p' m' i' cl' e' KW T7 KX P7 d' b'=>an (j9 wX p p') (an (dN m m') (an (Nat.beq i i') (an (Dk cl cl') (an (MM e e') (an (lW kt KW) (an (lI kg T7) (an (lW vt KX) (an (lI vg P7) (an (Nat.beq d d') (jm b b'))))))))))
 |_,_=>false
theorem u7:∀{a b:C},jm a b=true→a=b:=by
 intro a
 induction a with
 |skip=>intro b h;cases b<;>simp [jm] at h ⊢
 |ret=>intro b h;cases b<;>simp [jm] at h ⊢
 |exit id=>intro b h;cases b<;>simp only [jm,Bool.false_eq_true] at h;rw [Nat.eq_of_beq_eq_true h]
 |aR is=>intro b h;cases b<;>simp only [jm,Bool.false_eq_true] at h;rw [eS tq h]
 |draw ps is=>intro b h;cases b<;>simp only [jm,Bool.false_eq_true,aM] at h;rw [JK h.1,eS tq h.2]
 |seq a b FF ER=>intro b h;cases b<;>simp only [jm,Bool.false_eq_true,aM] at h;rw [FF h.1,ER h.2]
 |cond c a b FF ER=>intro b h;cases b<;>simp only [jm,Bool.false_eq_true,aM] at h;rw [aT h.1,FF h.2.1,ER h.2.2]
 |block id c ih=>intro b h;cases b<;>simp only [jm,Bool.false_eq_true,aM] at h;rw [Nat.eq_of_beq_eq_true h.1,ih h.2]
 |loop c ih=>intro b h;cases b<;>simp only [jm,Bool.false_eq_true] at h;rw [ih h]
 |gG p m i cl e kt kg vt vg d b ih =>
  intro b h
  cases b<;>simp only [jm,Bool.false_eq_true,aM] at h
  obtain ⟨h1,h2,h3,h4,h5,h6,h7,h8,h9,Zy,Z1⟩:=h
  rw [eS tq h1,aT h2,Nat.eq_of_beq_eq_true h3,rB h4,Bp h5,k8 h6,ei h7,k8 h8,ei h9,Nat.eq_of_beq_eq_true Zy,ih Z1]
 |bC f ps a b FF ER=>intro b h;cases b<;>simp only [jm,Bool.false_eq_true,aM] at h;rw [aT h.1,rB h.2.1,FF h.2.2.1,ER h.2.2.2]
end Go.AM
end
section
namespace Go.AM
section
variable {π:List Nat}
theorem oW : ∀ (π : List Nat) (b : Nat), uC π b = π[b]?
 |[],_=>by simp [uC]
 |i::r,0=>by simp [uC]
 |i::r,n+1=>by simp [uC,oW r n]
theorem lg {b i:Nat} (h:yS π b i=true):π[b]?=some i:=by
 unfold yS at h
 split at h
 ·rename_i j e;rw [←oW,e,Nat.eq_of_beq_eq_true h]
 ·cases h
theorem Cq.append {as bs cs ds:List V} (h:Cq π as bs) (h':Cq π cs ds):Cq π (as++cs) (bs++ds):=by
 induction as generalizing bs with
 |nil =>
  have:bs=[]:=List.eq_nil_of_length_eq_zero h.1.symm
  subst this;simpa using h'
 |cons a as ih =>
  cases bs with
  |nil=>exact absurd h.1 (by simp)
  |cons b bs=>exact .cons (h.2 0 a b rfl rfl) (ih ⟨by have:=h.1;simpa using this,fun i v u hv hu=>h.2 (i+1) v u (by simpa using hv) (by simpa using hu)⟩)
theorem Dm {t t':Ty} {xs:List t.den} {ys:List t'.den} (h:jR t t' xs=some ys):V.eH t' ys=V.eH t xs:=by
 obtain ⟨e,he⟩:=dV h
 subst e;subst he;rfl
theorem Dn {g:Bool} {v:V} {ds cs:List V} (h:AG g v=some cs) (ag:Cq π ds cs):EV π (cw.iU g ds) v:=by
 cases g with
 |true =>
  cases v<;>simp [AG] at h
  subst h
  exact .agg _ _ ag.1 ag.2
 |false =>
  have:cs=[v]:=by cases v<;>simp_all [AG,V.cells?]
  subst this
  match ds,ag with
  |[w],ag=>exact ag.2 0 w v rfl rfl
  |[],ag=>exact absurd ag.1 (by simp)
  |_::_::_,ag=>exact absurd ag.1 (by simp)
theorem oZ {ar : Ar} : ∀ {t : Ty} {vs : List V} {x : t.den} {u : eA} {r : List V}, bq ar [] t vs = some (x, u, r) → ∃ us, vs = us ++ r ∧ Cq π (cw t x) us
 | .unit,vs,x,u,r,h=>by
  simp [bq] at h;obtain ⟨_,_,rfl⟩:=h;exact ⟨[],rfl,.nil⟩
 | .bool,vs,x,u,r,h=>by
  rcases vs with _|⟨v,r'⟩
  ·simp [bq] at h
  ·cases v <;> simp [bq] at h
   ·obtain ⟨rfl,_,rfl⟩:=h;exact ⟨[_],rfl,.cons (.tfb _) .nil⟩
   ·obtain ⟨rfl,_,rfl⟩:=h;exact ⟨[_],rfl,.cons (.bool _) .nil⟩
 | .str,vs,x,u,r,h=>by
  rcases vs with _|⟨v,r'⟩
  ·simp [bq] at h
  ·cases v <;> simp [bq] at h
   obtain ⟨rfl,_,rfl⟩:=h;exact ⟨[_],rfl,.cons (.str _) .nil⟩
 | .int k,vs,x,u,r,h=>by
  rcases vs with _|⟨v,r'⟩
  ·simp [bq] at h
  ·cases v <;> simp [bq] at h
   obtain ⟨rfl,rfl,_,rfl⟩:=h;exact ⟨[_],rfl,.cons (.int _ _) .nil⟩
 | .list t,vs,x,u,r,h=>by
  rcases vs with _|⟨v,r'⟩
  ·simp [bq] at h
  ·cases v <;> simp only [bq] at h <;> try (cases h; done)
   ·split at h <;> try (cases h; done)
    rename_i hc
    cases h
    exact ⟨[_],rfl,.cons (by rw [Dm hc];exact .eH _ _) .nil⟩
   ·cases h;exact ⟨[.bY],rfl,.cons (.Wq _) .nil⟩
 | .prod a b,vs,x,u,r,h=>by
  simp only [bq] at h
  split at h<;>try (cases h;done)
  rename_i x1 u1 r1 h1
  split at h<;>try (cases h;done)
  rename_i y1 u2 r2 h2
  cases h
  obtain ⟨us,rfl,e1⟩:=oZ h1
  obtain ⟨VT,rfl,e2⟩:=oZ h2
  exact ⟨us++VT,by simp,e1.append e2⟩
 | .cq d g t,vs,x,u,r,h=>by
  cases vs with
  |nil=>simp [bq] at h
  |cons v vs =>
   cases v<;>simp only [bq] at h<;>try (cases h;done)
   rename_i d' v'
   split at h<;>try (cases h;done)
   rename_i e;subst e
   split at h<;>try (cases h;done)
   rename_i cs hun
   split at h<;>try (cases h;done)
   rename_i x0 ho
   cases h
   obtain ⟨us,e1,ag⟩:=oZ ho
   rw [List.append_nil] at e1
   exact ⟨[.cq d v'],rfl,.cons (.cq _ _ _ (Dn hun (by rw [e1];exact ag))) .nil⟩
theorem QZ : ∀ {t : Ty} {v : V} {x : t.den}, Bo t v = some x → EV π (tyV t x) v
 | .unit,v,x,h=>by simp [Bo] at h
 | .bool,v,x,h=>by
  cases v<;>simp [Bo] at h
  ·subst h;exact .tfb _
  ·subst h;exact .bool _
 | .str,v,x,h=>by
  cases v<;>simp [Bo] at h
  subst h;exact .str _
 | .int k,v,x,h=>by
  cases v<;>simp only [Bo] at h<;>try (cases h;done)
  split at h<;>try (cases h;done)
  rename_i hk
  cases h
  have:=of_decide_eq_true hk
  subst this;exact .int _ _
 | .list t,v,x,h=>by
  cases v<;>simp only [Bo] at h<;>try (cases h;done)
  ·show EV π (.eH t x) _
   rw [Dm h];exact .eH _ _
  ·cases h;exact .Wq _
 | .prod a b,v,x,h=>by
  cases v<;>simp only [Bo] at h<;>try (cases h;done)
  split at h<;>try (cases h;done)
  rename_i hc
  cases h
  obtain ⟨us,e,ag⟩:=oZ (π:=π) hc
  rw [List.append_nil] at e
  subst e
  exact .agg _ _ ag.1 ag.2
 | .cq d g t,v,x,h=>by
  simp only [Bo] at h
  split at h<;>try (cases h;done)
  rename_i hc
  cases h
  obtain ⟨us,e,ag⟩:=oZ (π:=π) hc
  rw [List.append_nil] at e
  subst e
  exact ag.2 0 _ _ rfl rfl
variable {A:Type}
theorem CP.WE {c:CP} {v:V} {f:A→c.T A} (h:c.rd1 π v=some f) (a:A):Cq π (c.vs (f a)) [v]∧c.r (f a)=a:=by
 cases c<;>simp only [CP.rd1] at h
 case any=>cases h;exact ⟨.cons (.any _) .nil,rfl⟩
 case tf b =>
  split at h<;>try (cases h;done)
  split at h<;>try (cases h;done)
  rename_i hb
  cases h
  rw [←ei hb]
  exact ⟨.cons (.tf _) .nil,rfl⟩
 case ez=>split at h<;>cases h;exact ⟨.cons (.ez) .nil,rfl⟩
 case cF=>split at h<;>cases h;exact ⟨.cons (.cF) .nil,rfl⟩
 case eW=>split at h<;>cases h;exact ⟨.cons (.eW) .nil,rfl⟩
 case bY=>split at h<;>cases h;exact ⟨.cons (.bY) .nil,rfl⟩
 case hole t =>
  split at h<;>cases h
  rename_i hx
  exact ⟨.cons (QZ hx) .nil,rfl⟩
 case cC b t =>
  split at h<;>try (cases h;done)
  ·rename_i i t' lo n
   split at h<;>try (cases h;done)
   rename_i h1
   split at h<;>try (cases h;done)
   rename_i h2
   split at h<;>try (cases h;done)
   rename_i h3
   cases h
   have e:=Nat.eq_of_beq_eq_true h3
   rw [k8 h2,e]
   exact ⟨.cons (.sl _ _ _ _ _ (lg h1)) .nil,rfl⟩
  ·cases h;exact ⟨.cons (.Wr _ _ _) .nil,rfl⟩
 case PT b t =>
  split at h<;>try (cases h;done)
  ·rename_i i t' lo n
   split at h<;>try (cases h;done)
   rename_i h1
   split at h<;>try (cases h;done)
   rename_i h2
   cases h
   rw [k8 h2]
   exact ⟨.cons (.sl _ _ _ _ _ (lg h1)) .nil,rfl⟩
  ·cases h;exact ⟨.cons (.Wr _ _ _) .nil,rfl⟩
 case ptr b off =>
  split at h<;>try (cases h;done)
  split at h<;>try (cases h;done)
  rename_i h1
  split at h<;>try (cases h;done)
  rename_i h2
  cases h
  rw [Nat.eq_of_beq_eq_true h2]
  exact ⟨.cons (.ptr _ _ _ (lg h1)) .nil,rfl⟩
 case yl b =>
  split at h<;>try (cases h;done)
  split at h<;>try (cases h;done)
  rename_i h1
  cases h
  exact ⟨.cons (.yl _ _ (lg h1)) .nil,rfl⟩
 case ff t =>
  split at h<;>try (cases h;done)
  split at h<;>try (cases h;done)
  rename_i hc
  cases h
  obtain ⟨us,e,ag⟩:=oZ (π:=π) hc
  rw [List.append_nil] at e
  subst e
  exact ⟨.cons (.ff _ _ ag.1 ag.2) .nil,rfl⟩
 case mp b =>
  split at h<;>try (cases h;done)
  split at h<;>try (cases h;done)
  rename_i h1
  cases h
  exact ⟨.cons (.mp _ _ (lg h1)) .nil,rfl⟩
 case cB=>split at h<;>cases h;exact ⟨.cons (.cB) .nil,rfl⟩
 case pa b t n =>
  split at h<;>try (cases h;done)
  split at h<;>try (cases h;done)
  rename_i h1
  split at h<;>try (cases h;done)
  rename_i h2
  split at h<;>try (cases h;done)
  rename_i h3
  cases h
  rw [k8 h2,Nat.eq_of_beq_eq_true h3]
  exact ⟨.cons (.pa _ _ _ _ (lg h1)) .nil,rfl⟩
 case kQ t =>
  split at h<;>try (cases h;done)
  split at h<;>try (cases h;done)
  rename_i ys hc
  cases h
  obtain ⟨e,he⟩:=dV hc
  subst e;subst he
  exact ⟨.cons (.kQ _ _) .nil,rfl⟩
 case FG=>cases h
 case fn0 f' =>
  split at h<;>try (cases h;done)
  split at h<;>try (cases h;done)
  rename_i h1
  cases h
  rw [Nat.eq_of_beq_eq_true h1]
  exact ⟨.cons (.fn _ _ _ _ _ rfl (fun i v u hv=>by simp at hv) rfl (fun i v u hv=>by simp at hv)) .nil,rfl⟩
 case JI=>cases h
 case JJ=>cases h
 case fn=>cases h
 case nil=>cases h
 case cons=>cases h
theorem CP.WG:∀{c:CP} {A:Type} {vs r:List V} {f:A→c.T A},c.ET π vs=some (f,r)→∃us,vs=us++r∧∀a,Cq π (c.vs (f a)) us∧c.r (f a)=a:=by
 intro c
 induction c with
 |nil=>intro A vs r f h;simp only [CP.ET] at h;cases h;exact ⟨[],rfl,fun a=>⟨.nil,rfl⟩⟩
 |cons c l ihc ihl =>
  intro A vs r f h
  simp only [CP.ET] at h
  split at h<;>try (cases h;done)
  rename_i f1 vs' h1
  split at h<;>try (cases h;done)
  rename_i g vs'' h2
  cases h
  obtain ⟨us,rfl,e1⟩:=ihc h1
  obtain ⟨VT,rfl,e2⟩:=ihl h2
  refine ⟨us++VT,by simp,fun a=>?_⟩
  obtain ⟨q1,q2⟩:=e1 (g a)
  obtain ⟨q3,q4⟩:=e2 a
  simp only [CP.vs,CP.r,q2]
  exact ⟨q1.append q3,q4⟩
 |JI l ih =>
  intro A vs r f h
  simp only [CP.ET] at h
  split at h<;>try (cases h;done)
  rename_i cs r'
  split at h<;>try (cases h;done)
  rename_i f1 h1
  cases h
  obtain ⟨us,e,e1⟩:=ih h1
  rw [List.append_nil] at e
  subst e
  refine ⟨[.ff cs],rfl,fun a=>?_⟩
  obtain ⟨q1,q2⟩:=e1 a
  exact ⟨.cons (.ff _ _ q1.1 q1.2) .nil,q2⟩
 |JJ l ih =>
  intro A vs r f h
  simp only [CP.ET] at h
  split at h<;>try (cases h;done)
  rename_i cs r'
  split at h<;>try (cases h;done)
  rename_i f1 h1
  cases h
  obtain ⟨us,e,e1⟩:=ih h1
  rw [List.append_nil] at e
  subst e
  refine ⟨[.agg cs],rfl,fun a=>?_⟩
  obtain ⟨q1,q2⟩:=e1 a
  exact ⟨.cons (.agg _ _ q1.1 q1.2) .nil,q2⟩
 |FG t g l ih =>
  intro A vs r f h
  simp only [CP.ET] at h
  split at h<;>try (cases h;done)
  rename_i t' v r'
  split at h<;>try (cases h;done)
  rename_i ht
  split at h<;>try (cases h;done)
  rename_i cs hun
  split at h<;>try (cases h;done)
  rename_i f1 h1
  cases h
  obtain ⟨us,e,e1⟩:=ih h1
  rw [List.append_nil] at e
  subst e
  have e0:=Nat.eq_of_beq_eq_true ht
  subst e0
  refine ⟨[.cq t' v],rfl,fun a=>?_⟩
  obtain ⟨q1,q2⟩:=e1 a
  exact ⟨.cons (.cq _ _ _ (Dn hun q1)) .nil,q2⟩
 |fn f0 a b FF ER =>
  intro A vs r f h
  simp only [CP.ET] at h
  split at h<;>try (cases h;done)
  rename_i f' va vb r'
  split at h<;>try (cases h;done)
  rename_i hf
  split at h<;>try (cases h;done)
  rename_i g hg
  split at h<;>try (cases h;done)
  rename_i k hk
  cases h
  obtain ⟨us,e,e1⟩:=FF hg
  rw [List.append_nil] at e
  subst e
  obtain ⟨VT,e',e2⟩:=ER hk
  rw [List.append_nil] at e'
  subst e'
  have e0:=Nat.eq_of_beq_eq_true hf
  subst e0
  refine ⟨[.fn f' va vb],rfl,fun x=>?_⟩
  obtain ⟨q1,q2⟩:=e1 (k x)
  obtain ⟨q3,q4⟩:=e2 x
  simp only [CP.vs,CP.r,q2]
  exact ⟨.cons (.fn _ _ _ _ _ q1.1 q1.2 q3.1 q3.2) .nil,q4⟩
 |_ =>
  intro A vs r f h
  simp only [CP.ET] at h
  split at h<;>try (cases h;done)
  rename_i v r'
  split at h<;>try (cases h;done)
  rename_i f1 h1
  cases h
  exact ⟨[v],rfl,fun a=>CP.WE h1 a⟩
theorem CP.rC {c:CP} {v:V} {f:A→c.T A} (h:c.rd π v=some f) (a:A):EV π (c.v (f a)) v∧c.r (f a)=a:=by
 unfold CP.rd at h
 split at h<;>try (cases h;done)
 rename_i f1 h1
 cases h
 obtain ⟨us,e,e1⟩:=CP.WG h1
 rw [List.append_nil] at e
 subst e
 obtain ⟨q1,q2⟩:=e1 a
 refine ⟨?_,q2⟩
 unfold CP.v
 have hl:=q1.1
 cases hc:c.vs (f a) with
 |nil=>rw [hc] at hl;simp at hl
 |cons u r=>exact q1.2 0 u v (by rw [hc];rfl) rfl
theorem ja : ∀ {cs : List CP} {vs : List V} {f : A → lV cs A}, fq π cs vs = some f → ∀ a, Cq π (qq cs (f a)) vs ∧ rA cs (f a) = a
 |[],[],f,h,a=>by cases h;exact ⟨.nil,rfl⟩
 |c::r,v::vs,f,h,a=>by
  simp only [fq] at h
  split at h<;>try (cases h;done)
  rename_i f1 h1
  split at h<;>cases h
  rename_i g h2
  obtain ⟨q1,q2⟩:=CP.rC h1 (g a)
  obtain ⟨q3,q4⟩:=ja h2 a
  simp only [qq,rA,q2]
  exact ⟨.cons q1 q3,q4⟩
 |[],_::_,f,h,a=>by simp [fq] at h
 |_::_,[],f,h,a=>by simp [fq] at h
theorem SP.rC : ∀ {p : SP} {v : V} {f : A → p.T A}, p.rd π v = some f → ∀ (a : A), EV π (p.v (f a)) v ∧ p.r (f a) = a
 | .c q,v,f,h,a=>CP.rC (c:=q) h a
 | .agg cs,v,f,h,a=>by
  cases v<;>try (cases h;done)
  rename_i vs
  have h':fq π cs vs=some f:=h
  obtain ⟨h1,h2⟩:=ja h' a
  exact ⟨.agg _ _ h1.1 h1.2,h2⟩
 | .cI cs,v,f,h,a=>by
  cases v<;>try (cases h;done)
  rename_i vs
  have h':fq π cs vs=some f:=h
  obtain ⟨h1,h2⟩:=ja h' a
  exact ⟨.cI _ _ h1.1 h1.2,h2⟩
 | .fn f' x y,v,f,h,a=>by
  cases v with
  |fn f2 va vb =>
   have h':(match Nat.beq f2 f' with
    |true=>match fq (A:=lV y A) π x va with
     |some g=>match fq (A:=A) π y vb with
      |some h=>some fun z=>g (h z)
      |none=>none
     |none=>none
    |false=>none)=some f:=h
   clear h
   cases hf:Nat.beq f2 f' with
   |false=>rw [hf] at h';cases h'
   |true =>
    rw [hf] at h'
    simp only at h'
    cases hg:fq (A:=lV y A) π x va with
    |none=>rw [hg] at h';cases h'
    |some g =>
     rw [hg] at h'
     simp only at h'
     cases hk:fq (A:=A) π y vb with
     |none=>rw [hk] at h';cases h'
     |some k =>
      rw [hk] at h'
      have h2:(fun z=>g (k z))=f:=Option.some.inj h'
      obtain ⟨q1,q2⟩:=ja hg (k a)
      obtain ⟨q3,q4⟩:=ja hk a
      have e:=Nat.eq_of_beq_eq_true hf
      subst e
      have e2:SP.v (A:=A) (.fn f2 x y) (g (k a)) = .fn f2 (qq x (g (k a))) (qq y (k a)):=by
       show V.fn f2 _ (qq y (rA x (g (k a))))=_
       rw [q2]
      have e3:SP.r (A:=A) (.fn f2 x y) (g (k a))=a:=by
       show rA y (rA x (g (k a)))=a
       rw [q2,q4]
      have e4:f a=g (k a):=by rw [←h2]
      rw [e4]
      exact ⟨by rw [e2];exact .fn _ _ _ _ _ q1.1 q1.2 q3.1 q3.2,e3⟩
  |_=>cases h
 | .alt x y,v,f,h,a=>by
  cases v with
  |cI vs =>
   have h':(match fq (A:=A) π x vs with
    |some f=>some fun z=>(Sum.inl (f z):lV x A ⊕ lV y A)
    |none=>match fq (A:=A) π y vs with
     |some f=>some fun z=>Sum.inr (f z)
     |none=>none)=some f:=h
   clear h
   cases hx:fq (A:=A) π x vs with
   |some g =>
    rw [hx] at h'
    have h2:=Option.some.inj h'
    subst h2
    obtain ⟨h1,h2⟩:=ja hx a
    exact ⟨.cI _ _ h1.1 h1.2,h2⟩
   |none =>
    rw [hx] at h'
    simp only at h'
    cases hy:fq (A:=A) π y vs with
    |none=>rw [hy] at h';cases h'
    |some g =>
     rw [hy] at h'
     have h2:=Option.some.inj h'
     subst h2
     obtain ⟨h1,h2⟩:=ja hy a
     exact ⟨.cI _ _ h1.1 h1.2,h2⟩
  |_=>cases h
theorem rD {env : Env} : ∀ {ps : List (Nat × SP)} {f : A → yR ps A}, zW π env ps = some f → ∀ a, EE π (wU ps (f a)) env ∧ MA ps (f a) = a
 |[],f,h,a=>by cases h;exact ⟨fun p hp=>by simp [wU] at hp,rfl⟩
 |(s,p)::r,f,h,a=>by
  simp only [zW] at h
  split at h<;>try (cases h;done)
  rename_i f1 h1
  split at h<;>cases h
  rename_i g h2
  obtain ⟨q1,q2⟩:=SP.rC h1 (g a)
  obtain ⟨q3,q4⟩:=rD h2 a
  simp only [wU,MA,q2]
  refine ⟨fun x hx=>?_,q4⟩
  rcases List.mem_cons.1 hx with rfl|hx
  ·exact q1
  ·exact q3 x hx
def MP : qb → qb → Bool
 | .ready,.ready=>true
 | .busy,.busy=>true
 | .done,.done=>true
 | .exhausted,.exhausted=>true
 |_,_=>false
theorem MQ {a b:qb} (h:MP a b=true):a=b:=by cases a<;>cases b<;>simp_all [MP]
def WH : Option Ex → Option Ex → Bool
 |none,none=>true
 |some .normal,some .normal=>true
 |some (.exit a),some (.exit b)=>Nat.beq a b
 |some .ret,some .ret=>true
 |_,_=>false
theorem Q2 {a b:Option Ex} (h:WH a b=true):a=b:=by
 rcases a with _|(_|_|_)<;>rcases b with _|(_|_|_)<;>simp only [WH,Bool.false_eq_true] at h<;>try rfl
 rw [Nat.eq_of_beq_eq_true h]
def BP.rd (π:List Nat) (nx:Nat) (bl:ah) (id:Nat) (p:BP):Option (A→p.T A) :=
 match uC π id with
 |none=>none
 |some i=>match p with
  | .arr t fz=>match au i bl with
   |some (.arr t' xs VU)=>match jR t' t xs with
    |some ys=>match lI VU fz with
     |true=>some fun a=>(ys,a)
     |false=>none
    |none=>none
   |none=>match Nat.ble nx i with
    |true=>some fun a=>(([]:List t.den),a)
    |false=>none
   |_=>none
  | .cells cs fz=>match au i bl with
   |some (.cells vs VU)=>match lI VU fz with
    |true=>fq π cs vs
    |false=>none
   |_=>none
  | .loop st j d env ps as bd N=>match au i bl with
   |some (.loop st' j' d' env' ps' as' Qz N')=>match an (MP st' st) (an (WH j' j)<|an (yS π d d') (an (Dk ps' ps) (an (Nat.beq N' N) (an (jm as' as) (jm Qz bd))))) with
    |true=>zW π env' env
    |false=>none
   |_=>none
  | .ig=>match au i bl with
   |some .ig=>some fun a=>a
   |_=>none
  | .map kt kg vt vg=>match au i bl with
   |some (.map KW T7 KX P7 es)=>match an (lI T7 kg) (lI P7 vg) with
    |true=>match GN KW KX kt vt es with
     |some fs=>some fun a=>(fs,a)
     |none=>none
    |false=>none
   |_=>none
  | .mz t k q c=>match au i bl with
   |some (.mz t' xs k' q' v)=>match an (Nat.beq k' k) (MJ q' q) with
    |true=>match jR t' t xs with
     |some ys=>match CP.rd π c v with
      |some f=>some fun a=>(ys,f a)
      |none=>none
     |none=>none
    |false=>none
   |_=>none
theorem BP.rC {nx:Nat} {bl:ah} {id:Nat} {p:BP} {f:A→p.T A} (h:p.rd π nx bl id=some f) (a:A):ZM π nx bl id (p.v (f a))∧p.r (f a)=a:=by
 unfold BP.rd at h
 split at h
 ·cases h
 ·rename_i i hi
  rw [oW] at hi
  cases p<;>simp only at h
  case arr t fz =>
   split at h
   ·rename_i t' xs VU hb
    split at h<;>try (cases h;done)
    rename_i ys hc
    split at h<;>cases h
    rename_i hfz
    refine ⟨⟨i,hi,.inl ?_⟩,rfl⟩
    obtain ⟨e,he⟩:=dV hc
    subst e;subst he
    rw [hb,ei hfz]
   ·rename_i hb
    split at h<;>cases h
    rename_i hle
    exact ⟨⟨i,hi,.inr ⟨rfl,Nat.le_of_ble_eq_true hle⟩⟩,rfl⟩
   ·cases h
  case cells cs fz =>
   split at h<;>try (cases h;done)
   rename_i vs VU hb
   split at h<;>try (cases h;done)
   rename_i hfz
   obtain ⟨h1,h2⟩:=ja h a
   refine ⟨⟨i,hi,vs,?_,h1⟩,h2⟩
   rw [hb,ei hfz]
  case loop st j d env ps as bd N =>
   split at h<;>try (cases h;done)
   rename_i st' j' d' env' ps' as' Qz N' hb
   split at h<;>try (cases h;done)
   rename_i hc
   simp only [aM] at hc
   obtain ⟨c1,cj,c2,c3,c4,c5,c6⟩:=hc
   obtain ⟨h1,h2⟩:=rD h a
   refine ⟨⟨i,hi,d',env',?_,lg c2,h1⟩,h2⟩
   rw [hb,MQ c1,Q2 cj,rB c3,Nat.eq_of_beq_eq_true c4,u7 c5,u7 c6]
  case ig =>
   split at h<;>cases h
   rename_i hb
   exact ⟨⟨i,hi,hb⟩,rfl⟩
  case map kt kg vt vg =>
   split at h<;>try (cases h;done)
   rename_i KW T7 KX P7 es hb
   split at h<;>try (cases h;done)
   rename_i hg
   split at h<;>try (cases h;done)
   rename_i fs hc
   cases h
   simp only [aM] at hg
   rw [ei hg.1,ei hg.2] at hb
   unfold GN at hc
   split at hc<;>try (cases hc;done)
   rename_i he
   obtain ⟨rfl,rfl⟩:=he
   cases hc
   exact ⟨⟨i,hi,hb⟩,rfl⟩
  case mz t k q c =>
   split at h<;>try (cases h;done)
   rename_i t' xs k' q' v hb
   split at h<;>try (cases h;done)
   rename_i hc
   simp only [aM] at hc
   split at h<;>try (cases h;done)
   rename_i ys hy
   split at h<;>try (cases h;done)
   rename_i f' hf
   cases h
   obtain ⟨e,he⟩:=dV hy
   subst e;subst he
   obtain ⟨h1,h2⟩:=CP.rC hf a
   refine ⟨⟨i,hi,v,?_,h1⟩,h2⟩
   rw [hb,Nat.eq_of_beq_eq_true hc.1,Dj hc.2]
def MR (π : List Nat) (nx : Nat) (bl : ah) : (ps : List (Nat × BP)) → Option (A → QU ps A)
 |[]=>some fun a=>a
 |(id,p)::r=>match BP.rd (A:=QU r A) π nx bl id p with
  |some f=>match MR π nx bl r with
   |some g=>some fun a=>f (g a)
   |none=>none
  |none=>none
theorem Bq {nx : Nat} {bl : ah} : ∀ {ps : List (Nat × BP)} {f : A → QU ps A}, MR π nx bl ps = some f → ∀ a, (∀ p ∈ PU ps (f a), ZM π nx bl p.1 p.2) ∧ (PU ps (f a)).map (·.1) = ps.map (·.1)
 |[],f,h,a=>by cases h;exact ⟨fun p hp=>by simp [PU] at hp,rfl⟩
 |(s,p)::r,f,h,a=>by
  simp only [MR] at h
  split at h<;>try (cases h;done)
  rename_i f1 h1
  split at h<;>cases h
  rename_i g h2
  obtain ⟨q1,q2⟩:=BP.rC h1 (g a)
  obtain ⟨q3,q4⟩:=Bq h2 a
  simp only [PU,q2]
  refine ⟨fun x hx=>?_,by simp [q4]⟩
  rcases List.mem_cons.1 hx with rfl|hx
  ·exact q1
  ·exact q3 x hx
def JL (nx b : Nat) : V → Option Nat
 | .sl i _ _ _=>some i
 | .ptr i _=>some i
 | .yl i=>some i
 | .mp i=>some i
 | .pa i _ _=>some i
 | .ep i _ _ _=>some i
 | .bY=>some (nx+b)
 | .cq _ (.ptr i _)=>some i
 |_=>none
def MS : List V → Nat → Option V
 |[],_=>none
 |v::_,0=>some v
 |_::r,n+1=>MS r n
def WI (π : List Nat) (env : Env) (nx : Nat) (bl : ah) (ms : List Nat) (b : Nat) : Lc → Option Nat
 | .slot s=>JL nx b (get s env)
 | .part s k=>match get s env with
  | .agg cs=>match MS cs k with
   |some v=>JL nx b v
   |none=>none
  | .fn _ a c=>match MS (a++c) k with
   |some v=>JL nx b v
   |none=>none
  | .cI cs=>match MS cs k with
   |some v=>JL nx b v
   |none=>none
  |_=>none
 | .cell b' k=>match uC π b' with
  |some i=>match au i bl with
   |some (.cells cs _)=>match MS cs k with
    |some v=>JL nx b v
    |none=>none
   |some (.mz _ _ _ _ v)=>JL nx b v
   |_=>none
  |none=>none
 | .old i=>some i
 | .mark j=>uC ms j
def snoc {R : Type} : List Nat → Nat → (List Nat → R) → R
 |[],i,k=>k [i]
 |j::r,i,k=>snoc r i fun r'=>k (j::r')
theorem Bs {R : Type} : ∀ (l : List Nat) (i : Nat) (k : List Nat → R), snoc l i k = k (l ++ [i])
 |[],_,_=>rfl
 |j::r,i,k=>by simp only [snoc,Bs r];rfl
def rE {R : Type} (no : R) (env : Env) (nx : Nat) (bl : ah) (ms : List Nat) : List Lc → List Nat → Nat → (List Nat → R) → R
 |[],π,_,k=>k π
 |l::r,π,b,k=>match WI π env nx bl ms b l with
  |some i=>fN i fun i=>snoc π i fun π=>fN (b+1) fun b=>rE no env nx bl ms r π b k
  |none=>no
theorem wY {X:Type} {no:Option X} {env:Env} {nx:Nat} {bl:ah} {ms:List Nat}:∀{ls:List Lc} {π:List Nat} {b:Nat} {k:List Nat→Option X} {x:X},rE no env nx bl ms ls π b k=some x →
  no=some x∨∃r,r.length=ls.length∧k (π++r)=some x
 |[],π,b,k,x,h=>.inr ⟨[],rfl,by simpa [rE] using h⟩
 |l::ls,π,b,k,x,h=>by
  simp only [rE] at h
  split at h
  ·rename_i i hi
   rw [fM,Bs,fM] at h
   rcases wY h with h|⟨r,h1,h2⟩
   ·exact .inl h
   ·exact .inr ⟨i::r,by simp [h1],by simpa using h2⟩
  ·exact .inl h
def MT (π:List Nat) (a b:Nat):Bool:=match uC π a with
 |some i=>match uC π b with
  |some j=>match Nat.beq i j with
   |true=>false
   |false=>true
  |none=>false
 |none=>false
def Bt (π : List Nat) (a : Nat) : List (Nat × BP) → Bool
 |[]=>true
 |(b,_)::r=>match MT π a b with
  |true=>Bt π a r
  |false=>false
def wZ (π : List Nat) : List (Nat × BP) → Bool
 |[]=>true
 |(a,_)::r=>match Bt π a r with
  |true=>wZ π r
  |false=>false
theorem MU {a b:Nat} (h:MT π a b=true):π[a]?≠π[b]?:=by
 unfold MT at h
 split at h<;>try (cases h;done)
 rename_i i hi
 split at h<;>try (cases h;done)
 rename_i j hj
 split at h<;>try (cases h;done)
 rename_i hij
 rw [←oW,←oW,hi,hj]
 intro e;cases e
 rw [Nat.beq_refl] at hij;cases hij
theorem tr {a : Nat} : ∀ {r : List (Nat × BP)}, Bt π a r = true → ∀ b ∈ r.map (·.1), π[a]? ≠ π[b]?
 |[],_,b,hb=>by simp at hb
 |(c,_)::r,h,b,hb=>by
  simp only [Bt] at h
  split at h<;>try (cases h;done)
  rename_i hd
  simp only [List.map_cons,List.mem_cons] at hb
  rcases hb with rfl|hb
  ·exact MU hd
  ·exact tr h b hb
theorem w5 : ∀ {r : List (Nat × BP)}, wZ π r = true → ∀ a ∈ r.map (·.1), ∀ b ∈ r.map (·.1), π[a]? = π[b]? → a = b
 |[],_,a,ha=>by simp at ha
 |(c,_)::r,h,a,ha=>by
  simp only [wZ] at h
  split at h<;>try (cases h;done)
  rename_i hd
  intro b hb e
  simp only [List.map_cons,List.mem_cons] at ha hb
  rcases ha with rfl|ha<;>rcases hb with rfl|hb
  ·rfl
  ·exact absurd e (tr hd b hb)
  ·exact absurd e.symm (tr hd a ha)
  ·exact w5 h a ha b hb e
def JM (π : List Nat) : List Nat → List Nat → Bool
 |[],[]=>true
 |a::r,i::s=>match yS π a i with
  |true=>JM π r s
  |false=>false
 |_,_=>false
theorem HJ : ∀ {ps ms : List Nat}, JM π ps ms = true → ps.map (fun i => π[i]?) = ms.map some
 |[],[],_=>rfl
 |a::r,i::s,h=>by
  simp only [JM] at h
  split at h<;>try (cases h;done)
  rename_i ha
  simp [lg ha,HJ h]
 |[],_::_,h=>by simp [JM] at h
 |_::_,[],h=>by simp [JM] at h
def az.rd {R:Type} (no:R) (pre:List Nat) (base:Nat) (p:az) (env:Env) (nx:Nat) (bl:ah) (ms:List Nat) (k:p.T→R):R :=
 rE no env nx bl ms p.gI pre base fun π=>match an (JM π p.ms ms) (wZ π p.bl) with
  |true=>match zW (A:=QU p.bl Unit) π env p.env with
   |some f=>match MR (A:=Unit) π nx bl p.bl with
    |some g=>k (f (g ()))
    |none=>no
   |none=>no
  |false=>no
theorem az.HK {X:Type} {no:Option X} {base:Nat} {p:az} {env:Env} {nx:Nat} {bl:ah} {ms:List Nat} {k:p.T→Option X} {r:X} (h:p.rd no (List.range base) base env nx bl ms k=some r) :
  no=some r∨∃x π,k x=some r∧jl base π ⟨env,⟨nx,bl⟩,ms⟩ (p.st base x):=by
 rcases wY h with h|⟨rr,hlen,h⟩
 ·exact .inl h
 split at h
 ·rename_i hc
  rw [aM] at hc
  split at h
  ·rename_i f hf
   split at h
   ·rename_i g hg
    obtain ⟨h1,h2⟩:=rD hf (g ())
    obtain ⟨h3,h4⟩:=Bq hg ()
    refine .inr ⟨f (g ()),List.range base++rr,h,?_⟩
    constructor
    ·simp
    ·simp [az.st,hlen]
    ·exact HJ hc.1
    ·exact h1
    ·simp only [az.st,az.B,h2];exact h3
    ·simp only [az.st, az.B, h2]
     intro q hq s hs e
     refine w5 hc.2 q.1 ?_ s.1 ?_ e
     ·rw [←h4];exact List.mem_map_of_mem hq
     ·rw [←h4];exact List.mem_map_of_mem hs
   ·exact .inl h
  ·exact .inl h
 ·exact .inl h
theorem az.dG {X:Type} {base:Nat} {p:az} {env:Env} {nx:Nat} {bl:ah} {ms:List Nat} {k:p.T→Option X} {r:X} (h:p.rd none (List.range base) base env nx bl ms k=some r) :
  ∃x π,k x=some r∧jl base π ⟨env,⟨nx,bl⟩,ms⟩ (p.st base x):=by
 rcases az.HK h with h|h
 ·cases h
 ·exact h
end
end Go.AM
end
section
namespace Go.AM
@[reducible] def gH (k:IntKind) (z:Int):Bool:=k.min≤z&&z≤k.max
@[reducible] def fh (i n:Int):Bool:=decide (0≤i∧i<n)
@[reducible] def VL (a b:Int):Int:=if b<a then b else a
@[reducible] def imax (a b:Int):Int:=if b > a then b else a
@[reducible] def seq (a b:ByteArray):Bool:=a.toList==b.toList
@[reducible] def slt (a b:ByteArray):Bool:=Op.bytesLess a.toList b.toList
@[reducible] def E1 (c a b:Bool):Bool:=if c then a else b
def FH : Ex → Ex → Bool
 | .normal,.normal=>true
 | .exit a,.exit b=>Nat.beq a b
 | .ret,.ret=>true
 |_,_=>false
theorem HL {a b:Ex} (h:FH a b=true):a=b:=by
 cases a<;>cases b<;>simp only [FH,Bool.false_eq_true] at h<;>try rfl
 rw [Nat.eq_of_beq_eq_true h]
abbrev aZ:=List (Ex×az)
def aZ.T : aZ → Type
 |[]=>Empty
 |[(_,p)]=>p.T
 |(_,p)::q::r=>p.T ⊕ aZ.T (q::r)
def aZ.st (base : Nat) : (xs : aZ) → xs.T → Ex × St
 |[],x=>nomatch x
 |[(e,p)],x=>(e,p.st base x)
 |(_,_)::q::r,.inr y=>aZ.st base (q::r) y
 |(e,p)::_::_,.inl x=>(e,p.st base x)
section
variable {R:Type}
def Q3 : List V → (List V → R) → R
 |[],k=>k []
 |v::r,k=>fV v fun v=>Q3 r fun r=>k (v::r)
theorem mT : ∀ (l : List V) (k : List V → R), Q3 l k = k l
 |[],k=>rfl
 |v::r,k=>by simp only [Q3,nt,mT r]
def JN : Env → (Env → R) → R
 |[],k=>k []
 |(s,v)::r,k=>fV v fun v=>JN r fun r=>k ((s,v)::r)
theorem rF : ∀ (l : Env) (k : Env → R), JN l k = k l
 |[],k=>rfl
 |(s,v)::r,k=>by simp only [JN,nt,rF r]
def WJ (b:kP) (k:kP→R):R:=match b with
 | .cells cs fz=>Q3 cs fun cs=>k (.cells cs fz)
 | .arr t xs fz=>k (.arr t xs fz)
 | .loop st j d env ps as bd N=>JN env fun env=>k (.loop st j d env ps as bd N)
 | .ig=>k .ig
 | .map kt kg vt vg es=>k (.map kt kg vt vg es)
 | .mz t xs i p v=>fV v fun v=>k (.mz t xs i p v)
theorem Q4 (b:kP) (k:kP→R):WJ b k=k b:=by cases b<;>simp only [WJ,mT,rF,nt]
def ZO : ah → (ah → R) → R
 |[],k=>k []
 |(s,b)::r,k=>WJ b fun b=>ZO r fun r=>k ((s,b)::r)
theorem Bu : ∀ (l : ah) (k : ah → R), ZO l k = k l
 |[],k=>rfl
 |(s,b)::r,k=>by simp only [ZO,Q4,Bu r]
def az.go (p:az) (nx:Nat) (x:p.T) (k:Env→Nat→ah→List Nat→R):R:=JN (p.E x) fun env=>ZO (p.B x) fun bl=>k env nx bl p.ms
theorem az.go_eq (p:az) (nx:Nat) (x:p.T) (k:Env→Nat→ah→List Nat→R):p.go nx x k=k (p.E x) nx (p.B x) p.ms:=by
 unfold az.go;rw [rF,Bu]
def aZ.go (kz : Kz R) (base : Nat) : (xs : aZ) → xs.T → Kc R → R
 |[],x,_=>nomatch x
 |[(e,p)],x,k=>fN (base+p.gI.length) fun nx=>p.go nx x (k e)
 |(e,p)::q::r,x,k=>kz.sm x (fun x=>fN (base+p.gI.length) fun nx=>p.go nx x (k e)) fun y=>aZ.go kz base (q::r) y k
end
theorem aZ.zX {X:Type} {base:Nat}:∀{xs:aZ} {x:xs.T} {k:Kc (Option X)} {r:X},xs.go (jf X) base x k=some r →
  k (xs.st base x).1 (xs.st base x).2.env (xs.st base x).2.H.next (xs.st base x).2.H.bl (xs.st base x).2.ms=some r
 |[],x,_,_,_=>nomatch x
 |[(e,p)],x,k,r,h=>by
  simp only [aZ.go,fM] at h
  exact (az.go_eq p _ (show p.T from x) (k e)).symm.trans h
 |(e,p)::q::s,x,k,r,h=>by
  simp only [aZ.go,jf] at h
  cases x with
  |inl x =>
   simp only [fM] at h
   rw [az.go_eq] at h
   exact h
  |inr y=>exact aZ.zX (xs:=q::s) (x:=y) h
def aZ.rd {R : Type} (no : R) (pre : List Nat) (base : Nat) : (xs : aZ) → Ex → Env → Nat → ah → List Nat → (xs.T → R) → R
 |[],_,_,_,_,_,_=>no
 |[(e',p)],e,env,nx,bl,ms,k=>match FH e' e with
  |true=>p.rd no pre base env nx bl ms k
  |false=>no
 |(e',p)::q::r,e,env,nx,bl,ms,k=>match FH e' e with
  |true=>p.rd (aZ.rd no pre base (q::r) e env nx bl ms fun x=>k (.inr x)) pre base env nx bl ms fun x=>k (.inl x)
  |false=>aZ.rd no pre base (q::r) e env nx bl ms fun x=>k (.inr x)
theorem aZ.dG {X:Type} {base:Nat} {env:Env} {nx:Nat} {bl:ah} {ms:List Nat}:∀{xs:aZ} {e:Ex} {k:xs.T→Option X} {r:X},xs.rd none (List.range base) base e env nx bl ms k=some r →
  ∃x π,k x=some r∧e=(xs.st base x).1∧jl base π ⟨env,⟨nx,bl⟩,ms⟩ (xs.st base x).2
 |[],_,_,_,h=>by simp [aZ.rd] at h
 |[(e',p)],e,k,r,h=>by
  simp only [aZ.rd] at h
  split at h<;>try (cases h;done)
  rename_i he
  obtain ⟨x,π,h1,h2⟩:=az.dG h
  exact ⟨x,π,h1,(HL he).symm,h2⟩
 |(e',p)::q::s,e,k,r,h=>by
  simp only [aZ.rd] at h
  split at h
  ·rename_i he
   rcases az.HK h with h|⟨x,π,h1,h2⟩
   ·obtain ⟨x, π, h1, h2, h3⟩ := aZ.dG (xs := q :: s) h
    exact ⟨.inr x,π,h1,h2,h3⟩
   ·exact ⟨.inl x,π,h1,(HL he).symm,h2⟩
  ·obtain ⟨x, π, h1, h2, h3⟩ := aZ.dG (xs := q :: s) h
   exact ⟨.inr x,π,h1,h2,h3⟩
def MV {R:Type} (no:R) (pre:List Nat) (base:Nat) (p:az) (xs:aZ) (inl:p.T→R) (inr:xs.T→R):Kc R:=fun e env nx bl ms=>match e with
 | .normal=>p.rd no pre base env nx bl ms inl
 | .exit i=>xs.rd no pre base (.exit i) env nx bl ms inr
 | .ret=>xs.rd no pre base .ret env nx bl ms inr
def Bv {P:Program} {N:Nat} {out:Option Nat} {base:Nat} {R:Type} (kz:Kz R) (cx:Cx) (ar:Ar) (pre:List Nat) (p:az) (xs:aZ) (body:D P N out base) (inl:p.T→R) (inr:xs.T→R) (x:p.T):R :=
 fN (base+p.gI.length) fun nx=>p.go nx x fun env nx bl ms=>kE kz cx ar body env nx bl ms (MV kz.no pre base p xs inl inr)
section
variable {P:Program} {N:Nat} {out:Option Nat} {base:Nat}
noncomputable def bN (mixed : P.follows .mixedOrders = true) (cx : Cx) (gq : cx.Ok P) (pre : List Nat) (hpre : pre = List.range base) (p : az) (xs : aZ) (hxs : xs.all (fun p => !FH p.1 .normal) = true) (body : D P N out base)
  (step:p.T→Option (p.T ⊕ xs.T)) (hstep:∀x,Bv (jf (p.T ⊕ xs.T)) cx ew pre p xs body (fun y=>some (.inl y)) (fun b=>some (.inr b)) x=step x):cm P N out base where
 c:=body.er
 run kz env nx bl ms K:=p.rd kz.no pre base env nx bl ms fun x=>kz.bd (iter step x) fun b=>xs.go kz base b K
 ok:=by
  intro X env nx bl ms K r h Q hQ
  subst hpre
  obtain ⟨x,π,h1,h2⟩:=az.dG h
  obtain ⟨b,h3,h4⟩:=oV h1
  have h5:=aZ.zX h4
  refine JC (iD mixed) (I:=p.st base) (X:=xs.st base) (step:=step) (fun x r hx=>?_) h3 h2 (hQ _ _ _ _ _ h5)
  rw [←hstep x] at hx
  unfold Bv at hx
  rw [fM,az.go_eq] at hx
  refine kZ gq hx fun e env nx bl ms hk=>?_
  unfold MV at hk
  cases e with
  |normal =>
   obtain ⟨y,π,q1,q2⟩:=az.dG hk
   cases q1
   exact ⟨rfl,π,q2⟩
  |exit i =>
   obtain ⟨y,π,q1,q2,q3⟩:=aZ.dG hk
   cases q1
   exact ⟨by simp,q2,π,q3⟩
  |ret =>
   obtain ⟨y,π,q1,q2,q3⟩:=aZ.dG hk
   cases q1
   exact ⟨by simp,q2,π,q3⟩
def qs : List SP → Type → Type
 |[],A=>A
 |p::r,A=>p.T (qs r A)
def Dp {A : Type} : (ps : List SP) → qs ps A → List V
 |[],_=>[]
 |p::r,x=>p.v x::Dp r (p.r x)
def WK {A : Type} : (ps : List SP) → qs ps A → A
 |[],x=>x
 |p::r,x=>WK r (p.r x)
def zY {A : Type} (π : List Nat) : (ps : List SP) → List V → Option (A → qs ps A)
 |[],[]=>some fun a=>a
 |p::r,v::vs=>match SP.rd (A:=qs r A) π p v with
  |some f=>match zY π r vs with
   |some g=>some fun a=>f (g a)
   |none=>none
  |none=>none
 |_,_=>none
theorem Dq {π : List Nat} {A : Type} : ∀ {ps : List SP} {vs : List V} {f : A → qs ps A}, zY π ps vs = some f → ∀ a, Cq π (Dp ps (f a)) vs ∧ WK ps (f a) = a
 |[],[],f,h,a=>by cases h;exact ⟨.nil,rfl⟩
 |c::r,v::vs,f,h,a=>by
  simp only [zY] at h
  split at h<;>try (cases h;done)
  rename_i f1 h1
  split at h<;>cases h
  rename_i g h2
  obtain ⟨q1,q2⟩:=SP.rC h1 (g a)
  obtain ⟨q3,q4⟩:=Dq h2 a
  simp only [Dp,WK,q2]
  exact ⟨.cons q1 q3,q4⟩
 |[],_::_,f,h,a=>by simp [zY] at h
 |_::_,[],f,h,a=>by simp [zY] at h
structure Ct where
 f:Nat
 ps:List SP
 res:SP
 fn:qs ps Unit→Option (res.T Unit)
def Ct.Ok (P:Program) (ct:Ct):Prop:=∀x y,ct.fn x=some y→gL P ct.f (Dp ct.ps x) (ct.res.v y)
theorem Dr {π:List Nat}:Mu.eR (fun _=>none) π=fun _=>none:=by
 funext i;simp only [Mu.eR];cases π[i]?<;>rfl
theorem Bw {f:Nat} {vs vs':List V} {v:V} {nx:Nat} {bl:ah} (h:gL P f vs' v) (hm:dg (fin ew bl 8) vs=some vs') (hs:CA v=true) {Q:V→aF→Prop} (hQ:Q v ⟨nx,bl⟩):gN P f vs ⟨nx,bl⟩ Q:=by
 refine ⟨h.1,fun Y ι μ w as hI hl=>?_⟩
 refine (h.2 (ι.all Y.own w) w as (hI.dy.mono (ai.A4 hI.rd)) (fun b o x hx=>?_) (iZ (fun v r x h hr=>uW (fun _ _ _=>rfl) hI h hr) hm hl)).mono ?_
 ·exact ai.Fo hI.rd hx
 ·rintro e w' ⟨x, ι', rfl, _, _, _, jF, Fk⟩
  exact ⟨x,ι,μ,v,_,rfl,ai.le_refl _,Mu.le_refl _,hI.called (ai.le_refl _) (fun _ _ _=>rfl) (dm.kept (fun b o x hx=>hI.rd b o x hx) jF) jF,C8 hs Fk,hQ⟩
def Ds {R : Type} (kz : Kz R) (f : Nat) (vs : List V) (K : V → R) : List Ct → R
 |[]=>kz.no
 |ct::r=>match Nat.beq ct.f f with
  |true=>match zY (A:=Unit) [] ct.ps vs with
   |some g=>kz.bd (ct.fn (g ())) fun y=>ct.res.kv kz y K
   |none=>Ds kz f vs K r
  |false=>Ds kz f vs K r
def HM (P : Program) : List Ct → Prop
 |[]=>True
 |c::r=>c.Ok P∧HM P r
theorem o3 {X : Type} {f : Nat} {vs : List V} {K : V → Option X} {r : X} : ∀ {u9 : List Ct}, HM P u9 → Ds (jf X) f vs K u9 = some r → ∃ v, gL P f vs v ∧ K v = some r
 |[],_,hk=>by cases hk
 |ct::u9,h,hk=>by
  simp only [Ds] at hk
  split at hk
  ·rename_i hf
   have e:=Nat.eq_of_beq_eq_true hf
   subst e
   split at hk
   ·rename_i g hg
    obtain ⟨y,hy,hk⟩:=qo hk
    rw [SP.aaR] at hk
    obtain ⟨q1,_⟩:=Dq hg ()
    refine ⟨_,?_,hk⟩
    have hp:=h.1 _ _ hy
    exact ⟨hp.1, fun ι w as hgl hrd hl => hp.2 ι w as hgl hrd (by
     have:=aG.eR (π:=[]) q1.1 (fun i v u hv hu=>fun {x} hr=>(q1.2 i v u hv hu).rel hr) hl
     rwa [Dr] at this)⟩
   ·exact o3 h.2 hk
  ·exact o3 h.2 hk
theorem JO {f:Nat} {vs vs':List V} {v:V} {nx:Nat} {bl bH:ah} (h:gL P f vs' v) (hm:dg (fin ew bl 8) vs=some vs') (hb:ua (jt bl vs) bl=some bH) {Q:V→aF→Prop} (hQ:Q v ⟨nx,bH⟩):gN P f vs ⟨nx,bl⟩ Q:=by
 refine ⟨h.1,fun Y ι μ w as hI hl=>?_⟩
 obtain ⟨ι',h1,h2,h3⟩:=uY hI hb
 have hl':aG ι' (fun _=>none) vs' as.toList:=by
  have key:∀{vs vs':List V} {xs:List Value},dg (fin ew bl 8) vs=some vs'→(∀id∈jt bl vs,yL ι' μ id (au id bl))→aG ι μ vs xs→aG ι' (fun _=>none) vs' xs:=by
   intro vs
   induction vs with
   |nil=>intro vs' xs hm _ hl;cases hm;rw [hl.of_nil];exact .nil
   |cons v r ih =>
    intro vs' xs hm hfz hl
    unfold dg at hm
    split at hm<;>try (cases hm;done)
    rename_i u hu
    split at hm<;>cases hm
    rename_i us Hj
    obtain ⟨x,xs',rfl,r1,r2⟩:=hl.bx
    simp only [jt,List.flatMap_cons,List.mem_append] at hfz
    exact .cons (A7 hu (fun id hid=>hfz id (.inl hid)) (r1.mono h1 (Mu.le_refl _))) (ih Hj (fun id hid=>hfz id (.inr hid)) r2)
  exact key hm h3 hl
 refine (h.2 ι' w as h2.dy (fun b o x hx=>h2.rd b o x hx) hl').mono ?_
 rintro e w' ⟨x,ι2,rfl,hi,hib,hrd,jF,Fk⟩
 exact ⟨x,ι2,μ,v,_,rfl,ai.le_trans h1 hi,Mu.le_refl _,h2.called hi hib hrd jF,Fk.mono (ai.le_refl _) (fun _ _ h=>by cases h),hQ⟩
def WL {R:Type} (u9:List Ct) (kz:Kz R) (f:Nat) (vs:List V) (nx:Nat) (bl:ah) (K:V→Nat→ah→R):R:=match vs.all (dJ 8) with
 |true=>Ds kz f vs (fun v=>K v nx bl) u9
 |false=>match dg (fin ew bl 8) vs with
  |some vs'=>Ds kz f vs' (fun v=>match CA v with
   |true=>K v nx bl
   |false=>match ua (jt bl vs) bl with
    |some bH=>ZO bH fun bH=>K v nx bH
    |none=>kz.no) u9
  |none=>kz.no
def mkCx (u9:List Ct):Cx where
 pc kz f vs K:=Ds kz f vs K u9
 ca kz f vs nx bl K:=WL u9 kz f vs nx bl K
 rd kz _ _ _ _ _:=kz.no
theorem Q5 {u9:List Ct} (h:HM P u9):(mkCx u9).Ok P where
 Ur hk:=o3 h hk
 QT:=by
  intro X f vs nx bl K r hk Q hQ
  simp only [mkCx,WL] at hk
  split at hk
  ·rename_i hd
   obtain ⟨v,hp,hk⟩:=o3 h hk
   exact Fu hp hd (hQ _ _ _ hk)
  ·split at hk <;> try (cases hk; done)
   rename_i vs' hm
   obtain ⟨v,hp,hk⟩:=o3 h hk
   split at hk
   ·rename_i hs
    exact Bw hp hm hs (hQ _ _ _ hk)
   ·split at hk <;> try (cases hk; done)
    rename_i bH hb
    rw [Bu] at hk
    exact JO hp hm hb (hQ _ _ _ hk)
 WB hk:=by cases hk
def WM {R:Type} (kz:Kz R) (ar:Ar) (rs:List RV) (tys:List (Option Ty)) (res:SP) (k:res.T Unit→R):Kc R:=fun e env nx bl ms=>match e with
 | .exit _=>kz.no
 | .normal=>go env nx bl ms
 | .ret=>go env nx bl ms
where go (env:Env) (nx:Nat) (bl:ah) (ms:List Nat):R:=match eG ms bl with
 |some bl=>match uz ar ⟨env,⟨nx,bl⟩,[]⟩ rs with
  |some vs=>match fin ar bl 8 (tV (cO tys vs)) with
   |some v=>match SP.rd (A:=Unit) [] res v with
    |some f=>k (f ())
    |none=>kz.no
   |none=>kz.no
  |none=>kz.no
 |none=>kz.no
def fnE {R:Type} (kz:Kz R) (cx:Cx) (ar:Ar) (rs:List RV) (tys:List (Option Ty)) (ps:List SP) (res:SP) (body:D P N none 0) (k:res.T Unit→R) (x:qs ps Unit):R :=
 Q3 (Dp ps x) fun vs=>kE kz cx ar body (args 0 vs) 0 [] [] (WM kz ar rs tys res k)
theorem JP {f : Nat} {func : Func} {fn : Fn} (hf : P.funcs[f]? = some func) (htr : cN P func = some fn) (cD : Enters P f) (gP : mL P fn.N none 0) {vs : List V} {r : V} (hlen : vs.length ≤ fn.np)
  (h:qP (fI P fn.N none 0) fn.body ⟨args 0 vs,⟨0,[]⟩,[]⟩ (Jo (fI P fn.N none 0) fn.res fn.tys (fun r'=>EV [] r r'))):gL P f vs r:=by
 refine ⟨cD,fun ι w as hgl hrd hr=>?_⟩
 let Y:Ctx:=⟨w,ι,fun _=>none,none,fun _=>False,[]⟩
 have hI:Inv P Y ι (fun _=>none) ⟨0,[]⟩ w:=⟨GY.refl _ _,ai.le_refl _,fun _ _ _ _=>rfl,hrd,fun id L h=>h,fun _ _=>rfl,fun id B h=>by simp [au] at h,fun id id' B B' L L' h=>by simp [au] at h,fun id B h=>by simp [au] at h,hgl⟩
 have hres:Lr P func.results.toList=some fn.res:=by
  unfold cN at htr
  split at htr<;>try (cases htr;done)
  split at htr<;>try (cases htr;done)
  rename_i PN
  split at htr<;>try (cases htr;done)
  cases htr;exact PN
 refine Hr (Y:=Y) hf htr gP hlen h rfl rfl (fun _ _=>rfl) hI hr fun Y1 ι' μ' S' a' w' e' hY hR hq=>?_
 have key:Jo.qf (fI P fn.N none 0) fn.res fn.tys (fun r'=>EV [] r r') S'→LeavesInM Fence.wide 0 P func a'.tmps (fun e w'=>∃v ι',e = .returned v∧ι.le ι'∧(∀b o,b<w.heap.size→ι' b o=ι b o)∧dm ι' w' ∧
   Dw w w'∧Rel ι' (fun _=>none) r v) a'.defers .returning w':=by
  intro hs
  unfold Jo.qf at hs
  split at hs<;>try (exact hs.elim)
  rename_i bl qE
  split at hs<;>try (exact hs.elim)
  rename_i vs' hvs
  split at hs<;>try (exact hs.elim)
  rename_i r' FI
  refine sS hres (n:=S'.H.next) (bl:=S'.H.bl) hY rfl hR.inv hR.env hR.ms qE hvs fun x w2 nM hx=>?_
  refine ⟨x,ι'.all Y.own w2,rfl,ai.le_trans nM.i0 (ai.A4 nM.rd),fun b o hb=>?_,fun b o y hy=>?_,nM.below.to (fun _ h=>h),?_⟩
  ·rw [ai.Qs (fun h=>by rcases h with h|h;exact absurd hb (Nat.not_lt.2 h);exact h)];exact nM.iB b o hb (fun h=>h)
  ·exact ai.Fo nM.rd hy
  ·have := hs.rel (uW (Y := Y) (ar := fI P fn.N none 0) (fun _ _ _ => rfl) nM FI (hx fn.tys))
   rwa [Dr] at this
 cases e' with
 |exit id=>exact hq.elim
 |normal=>exact ⟨.inl rfl,key hq⟩
 |ret=>exact ⟨.inr rfl,key hq⟩
theorem cQ (mixed : P.follows .mixedOrders = true) {cx : Cx} (gq : cx.Ok P) {func : Func} {fn : Fn} {ct : Ct} (hf : P.funcs[ct.f]? = some func) (htr : cN P func = some fn) (cD : Enters P ct.f)
  (body:D P fn.N none 0) (hbody:body.er=fn.body) (hnp:Nat.ble ct.ps.length fn.np=true) (hfn:∀x,fnE (jf (ct.res.T Unit)) cx ew fn.res fn.tys ct.ps ct.res body some x=ct.fn x):ct.Ok P:=by
 intro x y hxy
 rw [←hfn x] at hxy
 unfold fnE at hxy
 rw [mT] at hxy
 have hlen:∀(ps:List SP) (x:qs ps Unit),(Dp ps x).length=ps.length:=by
  intro ps
  induction ps with
  |nil=>intro x;rfl
  |cons p r ih=>intro x;simp [Dp,ih]
 have hwp:=kZ (Q:=Jo (fI P fn.N none 0) fn.res fn.tys (fun r=>EV [] (ct.res.v y) r)) gq hxy (fun e env nx bl ms hk=>by
  have key:WM.go (jf (ct.res.T Unit)) ew fn.res fn.tys ct.res some env nx bl ms=some y→Jo.qf (fI P fn.N none 0) fn.res fn.tys (fun r=>EV [] (ct.res.v y) r) ⟨env,⟨nx,bl⟩,ms⟩:=by
   intro hg
   unfold WM.go at hg
   unfold Jo.qf
   split at hg<;>try (cases hg;done)
   rename_i bH h1
   rw [h1]
   simp only
   split at hg<;>try (cases hg;done)
   rename_i vs h2
   rw [h2]
   simp only
   have e:fin (fI P fn.N none 0) bH 8 (tV (cO fn.tys vs))=fin ew bH 8 (tV (cO fn.tys vs)):=by unfold fI;exact wK
   rw [e]
   split at hg<;>try (cases hg;done)
   rename_i v h3
   rw [h3]
   simp only
   split at hg<;>try (cases hg;done)
   rename_i f h4
   cases hg
   exact (SP.rC h4 ()).1
  cases e with
  |exit i=>cases hk
  |normal=>exact key hk
  |ret=>exact key hk)
 rw [hbody] at hwp
 exact JP hf htr cD (iD mixed) (by rw [hlen];exact Nat.le_of_ble_eq_true hnp) hwp
end
end Go.AM
end
