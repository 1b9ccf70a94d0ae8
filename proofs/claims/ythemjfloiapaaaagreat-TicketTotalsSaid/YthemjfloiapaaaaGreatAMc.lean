/- A region whose order is drawn: whatever the order, it ends as the canonical one. Calls in the caller's heap, loops unrolled, loops over functions. A call of yield: a round of the loop. The small machine, run. The way in: what an argument reads as is data of the machine. States that stand for as much, in general: names may change, nil slices may stand for empty lists, blocks that nobody reads are forgotten. The small machine's code as a function: tests, needs and calls stay open, all else is reckoned. Patterns: what stands in slots and blocks, with places for data; read out of a state, and laid again. Code that is the same, as a test. What is read by a pattern stands for what was there. Loops and functions, as functions of their data. -/
import Derived.Test.YthemjfloiapaaaaGreatAMb
import Derived.OrdersIn
import Derived.ProofKit
import Derived.OpenShut
import Derived.Maps.RangeRun
set_option linter.unusedSectionVars false
set_option linter.unusedVariables false
set_option linter.unusedSimpArgs false
section
namespace Go.AM
section
variable {P:Program} {N:Nat} {Y:Ctx} {ι ι':au} {μ μ':Mu} {H:aG} {w w':World} {out:Option Nat} {base:Nat} {ops:Array Oper}
def lV (acc:Array Nat) (o:Oper):Array Nat:=acc.push (o.after.foldl (fun s e=>if Region.binds .any e then s ||| 2 ^ e.on ||| acc.getD e.on 0 else s) 0)
theorem zL:Region.before ops=ops.toList.foldl lV #[]:=by
 unfold Region.before
 rw [←Array.foldl_toList];rfl
theorem wQ {acc:Array Nat} {j:Nat}:∀{l:List Edge} {s:Nat},(l.foldl (fun s e=>if Region.binds .any e then s ||| 2 ^ e.on ||| acc.getD e.on 0 else s) s).testBit j=true →
  s.testBit j=true∨∃e∈l,Region.binds .any e=true∧(j=e.on∨(acc.getD e.on 0).testBit j=true)
 |[],s,h=>.inl h
 |e::r,s,h=>by
  simp only [List.foldl_cons] at h
  rcases wQ h with h1|⟨e',he',h2⟩
  ·split at h1
   ·rename_i hb
    simp only [Nat.testBit_or,Bool.or_eq_true,Nat.testBit_two_pow,decide_eq_true_eq] at h1
    rcases h1 with (h1|h1)|h1
    ·exact .inl h1
    ·exact .inr ⟨e,List.mem_cons_self ..,hb,.inl h1.symm⟩
    ·exact .inr ⟨e,List.mem_cons_self ..,hb,.inr h1⟩
   ·exact .inl h1
  ·exact .inr ⟨e',List.mem_cons_of_mem _ he',h2⟩
theorem wR : ∀ (l : List Oper) (acc : Array Nat), (l.foldl lV acc).size = acc.size + l.length
 |[],acc=>by simp
 |o::r,acc=>by simp only [List.foldl_cons,wR r,lV,Array.size_push,List.length_cons];omega
theorem wS {j:Nat}:∀(l:List Oper) (acc:Array Nat) (pre:List Oper),acc.size=pre.length →
  (∀i,(acc.getD i 0).testBit j=true→∃o,pre[i]?=some o∧∃e∈o.after,Region.binds .any e=true∧(j=e.on∨(acc.getD e.on 0).testBit j=true)) →
  ∀i,((l.foldl lV acc).getD i 0).testBit j=true→∃o,(pre++l)[i]?=some o∧∃e∈o.after,Region.binds .any e=true∧(j=e.on∨((l.foldl lV acc).getD e.on 0).testBit j=true)
 |[],acc,pre,hs,h,i,hi=>by simpa using h i hi
 |o::r,acc,pre,hs,h,i,hi=>by
  have:=wS r (lV acc o) (pre++[o]) (by simp [lV,hs]) (fun i hi=>?_) i hi
  ·simpa using this
  ·have keep:∀k,(acc.getD k 0).testBit j=true→((lV acc o).getD k 0).testBit j=true:=fun k hk=>by
    have hlt:k<acc.size:=by
     rcases Nat.lt_or_ge k acc.size with h|h
     ·exact h
     ·simp [Array.getD,Nat.not_lt.2 h] at hk
    simpa [lV,Array.getD,hlt,Array.getElem_push,Nat.lt_succ_of_lt hlt] using (by simpa [Array.getD,hlt] using hk:acc[k].testBit j=true)
   by_cases hlt:i<acc.size
   ·have hi':(acc.getD i 0).testBit j=true:=by
     simpa [lV,Array.getD,hlt,Array.getElem_push,Nat.lt_succ_of_lt hlt] using hi
    obtain ⟨o',ho',e,he,hb,hj⟩:=h i hi'
    exact ⟨o',by rw [List.getElem?_append_left (List.getElem?_eq_some_iff.1 ho').1];exact ho',e,he,hb,hj.imp id (keep _)⟩
   ·by_cases heq : i = acc.size
    ·subst heq
     have hi':(o.after.foldl (fun s e=>if Region.binds .any e then s ||| 2 ^ e.on ||| acc.getD e.on 0 else s) 0).testBit j=true:=by
      simpa [lV,Array.getD,Array.getElem_push] using hi
     rw [←Array.foldl_toList] at hi'
     rcases wQ hi' with h1|⟨e,he,hb,hj⟩
     ·simp at h1
     ·exact ⟨o,by rw [hs];simp,e,by simpa using he,hb,hj.imp id (keep _)⟩
    ·have : ¬ i < (lV acc o).size := by simp [lV]; omega
     simp [Array.getD,this] at hi
theorem nZ {i j:Nat} (h:((Region.before ops).getD i 0).testBit j=true) :
  ∃o,ops[i]?=some o∧∃e∈o.after,Region.binds .any e=true∧(j=e.on∨((Region.before ops).getD e.on 0).testBit j=true):=by
 rw [zL] at h ⊢
 obtain ⟨o,ho,h⟩:=wS (j:=j) ops.toList #[] [] rfl (fun i hi=>by simp at hi) i h
 exact ⟨o,by simpa using ho,h⟩
theorem n4:(Region.before ops).size=ops.size:=by rw [zL,wR];simp
theorem jO {i j:Nat}:j∈(bP ops).getD i []↔j<ops.size∧((Region.before ops).getD i 0).testBit j=true:=by
 unfold bP
 simp only [List.getD,List.getElem?_map]
 by_cases hi:i<ops.size
 ·have h:(Region.before ops).toList[i]?=some ((Region.before ops).getD i 0):=by
   have:i<(Region.before ops).size:=by rw [n4];exact hi
   simp [Array.getD,this]
  simp [h,List.mem_filter,List.mem_range]
 ·have h1 : (Region.before ops).toList[i]? = none := List.getElem?_eq_none (by simp [n4]; omega)
  have h2:(Region.before ops).getD i 0=0:=by simp [Array.getD,n4,hi]
  simp [h1,h2]
theorem gq : ∀ {os : List Oper} {is : List eR}, dW P N ops os = some is → is.length = os.length ∧ ∀ (k : Nat) o it, os[k]? = some o → is[k]? = some it → pJ P N ops o = some it
 |[],is,h=>by cases h;exact ⟨rfl,fun k o it h=>by simp at h⟩
 |o::os,is,h=>by
  unfold dW at h
  split at h<;>try (cases h;done)
  rename_i it its hit MG
  cases h
  obtain ⟨h1,h2⟩:=gq MG
  refine ⟨by simp [h1],fun k o' it' ho hi=>?_⟩
  cases k with
  |zero=>simp at ho hi;subst ho;subst hi;exact hit
  |succ k=>exact h2 k o' it' (by simpa using ho) (by simpa using hi)
theorem Inv.ta (h:Inv P Y ι μ H w) {n:Nat} (hn:H.next≤n):Inv P Y ι μ ⟨n,H.bl⟩ w :=
 ⟨h.below,h.i0,h.iB,h.rd,h.m0,fun id hid=>h.nx id (Nat.le_trans hn hid),h.live,h.inj,fun id B hB=>Nat.lt_of_lt_of_le (h.lt id B hB) hn,h.gl⟩
theorem Inv.eqB (h:Inv P Y ι μ H w) {bl:aq} (he:Vo bl H.bl):Inv P Y ι μ ⟨H.next,bl⟩ w :=
 ⟨h.below,h.i0,h.iB,h.rd,h.m0,h.nx,fun id B hB=>h.live id B (by rw [←he id];exact hB),fun id id' B B' L L' hb hb'=>h.inj id id' B B' L L' (by rw [←he id];exact hb) (by rw [←he id'];exact hb'),
  fun id B hB=>h.lt id B (by rw [←he id];exact hB),h.gl⟩
theorem dL.MM {B:Nat→Prop} {id:Nat} {b:kR} (h:dL P B ι μ id w b) (hw:w'.heap=w.heap):dL P B ι μ id w' b:=by
 cases b with
 |cells cs fz=>obtain ⟨L,vs,hM,h⟩:=h;exact ⟨L,vs,⟨hM.mu,hM.old,by rw [hw];exact hM.row,hM.fits,hM.one,hM.CT,hM.pK⟩,h⟩
 |arr t xs fz =>
  rcases h with h|⟨L,vs,hM,h⟩
  ·exact .inl h
  ·exact .inr ⟨L,vs,⟨hM.mu,hM.old,by rw [hw];exact hM.row,hM.fits,hM.one,hM.CT,hM.pK⟩,h⟩
 |loop st j d env ps as bd N=>unfold dL at h ⊢;rw [hw];exact h
 |ig=>unfold dL at h ⊢;rw [hw];exact h
 |map kt kg vt vg es=>unfold dL at h ⊢;rw [hw];exact h
 |mw t xs i p v =>
  obtain ⟨L,us,vs,c,hM,h⟩:=h
  exact ⟨L,us,vs,c,⟨hM.mu,hM.old,by rw [hw];exact hM.row,hM.fits,hM.one,hM.CT,hM.pK⟩,h⟩
theorem Inv.drawn (h:Inv P Y ι μ H w):Inv P Y ι μ H { w with drawn:=w.drawn+1 } :=
 ⟨⟨h.below.os,h.below.tape,h.below.output,h.below.size,h.below.block,Nat.le_succ_of_le h.below.dr,h.below.maps⟩,h.i0,h.iB,h.rd,h.m0,h.nx,fun id B hB=>(h.live id B hB).MM rfl,h.inj,h.lt,h.gl⟩
theorem Inv.called (hI:Inv P Y ι μ H w) (hi:ι.le ι') (hib:∀b o,b<w.heap.size→ι' b o=ι b o) (hrd:dw ι' w') (jE:Dw w w'):Inv P Y ι' μ H w':=by
 have hsz:=hI.below.size
 refine ⟨hI.below.then jE,au.le_trans hI.i0 hi,fun b o hb hx=>by rw [hib b o (by omega)];exact hI.iB b o hb hx,hrd,hI.m0,hI.nx,fun id B hB=>?_,hI.inj,hI.lt,hI.gl⟩
 have kZ:=hI.live id B hB
 refine kZ.mono hi (Mu.le_refl _) (fun h=>h) (fun L hL=>jE.b.block _ (kZ.loc hL).2) (fun L hL ho o=>?_)
 rw [hib _ _ (kZ.loc hL).2];exact ho o
theorem dw.kept (h:dw ι w) (jE:Dw w w'):dw ι w':=fun b o x hx=>by
 have h1:=h b o x hx
 have hlt:b<w.heap.size:=by
  rcases Nat.lt_or_ge b w.heap.size with h'|h'
  ·exact h'
  ·simp [World.cell?,Array.getElem?_eq_none h'] at h1
 unfold World.cell? at h1 ⊢
 simp only at h1 ⊢
 rw [jE.b.block b hlt];exact h1
theorem zN {v:V} {x:Value} (h:HS v=true) (hr:Rel ι μ v x):Rel ι' μ' v x:=by
 cases hr<;>simp only [HS] at h<;>try (cases h;done)
 case tf=>exact .tf _
 case bool=>exact .bool _
 case int=>exact .int _ _
 case str=>exact .str _
theorem Ka {v:V} {x:Value} (h:Mk v=true) (hr:Rel ι μ v x):Rel ι' μ' v x:=by
 cases hr<;>simp only [Mk] at h<;>try (cases h;done)
 case tf=>exact .tf _
 case bool=>exact .bool _
 case int=>exact .int _ _
 case str=>exact .str _
 case agg cs xs h1 h2 h3=>exact .agg cs xs h1 (fun i v x hv hx=>zN (List.all_eq_true.1 h _ (List.mem_of_getElem? hv)) (h2 i v x hv hx)) h3
theorem Dp {v:V} {x:Value} (h:CR v=true) (hr:Rel ι μ v x):Rel ι' μ' v x:=by
 cases hr<;>simp only [CR] at h<;>try (cases h;done)
 case tf=>exact .tf _
 case bool=>exact .bool _
 case int=>exact .int _ _
 case str=>exact .str _
 case agg cs xs h1 h2 h3=>exact .agg cs xs h1 (fun i v x hv hx=>zN (List.all_eq_true.1 h _ (List.mem_of_getElem? hv)) (h2 i v x hv hx)) h3
 case cK cs xs h1 h2=>exact .cK cs xs h1 fun i v x hv hx=>Ka (List.all_eq_true.1 h _ (List.mem_of_getElem? hv)) (h2 i v x hv hx)
theorem Bg {g : V → Option V} : ∀ {vs : List V}, (∀ v ∈ vs, g v = some v) → di g vs = some vs
 |[],_=>rfl
 |v::r,h=>by simp only [di,h v (List.mem_cons_self ..),Bg (vs:=r) (fun v hv=>h v (List.mem_cons_of_mem _ hv))]
theorem wT {ar : Ar} {bl : aq} : ∀ {n : Nat} {v : V}, dK n v = true → fin ar bl n v = some v
 |0,v,h=>by cases h
 |n+1,v,h=>by
  have all:∀{cs:List V},cs.all (dK n)=true→di (fin ar bl n) cs=some cs:=fun h=>Bg fun v hv=>wT (List.all_eq_true.1 h v hv)
  cases v<;>simp only [dK] at h<;>try (cases h;done)
  case fu cs=>simp only [fin,h,if_true]
  case fn f a b=>simp only [Bool.and_eq_true] at h;simp only [fin,all h.1,all h.2]
  case agg cs=>simp only [fin,all h]
  case cK cs=>simp only [fin,all h]
  case cu t v=>simp only [fin,wT h]
  all_goals rfl
theorem vn {v0 v:V} {x:Value} (h:vOk v0 v) (hr:Rel ι μ v0 x):Rel ι μ v x:=by
 rcases h with rfl|⟨c,rfl,rfl⟩
 ·exact hr
 ·cases hr;exact .tf _
theorem tc {S:List (Nat×V)} {a:Act} (he:ez ι μ S a.tmps) {o:Oper} {g:Option (Nat×Bool)} (hg:trG ops o.guard=some g) {c:Bool} (h:HT g S=some c):Region.wanted o (yielded ops a.tmps)=c:=by
 cases MF:o.guard with
 |none=>rw [MF] at hg;cases hg;cases h;simp [Region.wanted,MF]
 |some jb =>
  obtain ⟨j,b⟩:=jb
  rw [MF] at hg
  simp only [trG] at hg
  split at hg<;>try (cases hg;done)
  rename_i oj hoj
  split at hg<;>try (cases hg;done)
  rename_i d hdj
  cases hg
  simp only [HT] at h
  split at h<;>try (cases h;done)
  rotate_left
  ·rename_i vs hc
   cases h
   simp only [Region.wanted,MF,uc he hoj hdj hc]
   rfl
  rename_i c' hc
  simp only [Region.wanted,MF,wv he hoj hdj (.inl hc)]
  revert h
  cases c'<;>cases b<;>intro h<;>cases h<;>rfl
theorem Ij {b n : Nat} {t : TR} {env : List (Nat × V)} {bl : aq} {ms : List Nat} {a : Act} (hn : t.k < n) {o : Oper} (ho : ops[t.k]? = some o) (hit : pJ P N ops o = some t.it)
  (MN:En (gn P N out base) b t env bl) (hR:eM P N Y ι μ ⟨env,⟨b+n,bl⟩,ms⟩ a w) (hfree:μ (b+t.k)=none) {Q:Exit→Act→World→Prop} {K:Act→World→Prop}
  (hK:∀ι' μ' a' w',eM P N Y ι' μ' ⟨t.MK env,⟨b+n,t.J8 bl⟩,ms⟩ a' w'→(∀id,id≠b+t.k→μ' id=μ id)→K a' w'):wpOpIn Y.F 0 P ops Q t.k K a w:=by
 obtain ⟨k,it,ac,rd⟩:=t
 simp only at hn ho hit hfree hK
 unfold pJ at hit
 split at hit<;>try (cases hit;done)
 rename_i hd
 split at hit<;>try (cases hit;done)
 rename_i g hg
 have hgrd:it.W3=g∧it.dst=o.dst:=by
  split at hit<;>(split at hit<;>try (cases hit;done))<;>(cases hit;exact ⟨rfl,rfl⟩)
 unfold wpOpIn
 simp only [ho]
 unfold En at MN
 cases ac with
 |skip =>
  simp only at MN
  rw [hgrd.1] at MN
  rw [if_neg (by rw [tc hR.env hg MN.1];simp)]
  refine ⟨fun _ _=>trivial,hK ι μ _ _ ?_ fun _ _=>rfl⟩
  have:=hR.put hd (au.le_refl _) (Mu.le_refl _) hR.inv Rel.und
  simpa [TR.MK,TR.J8,hgrd.2,Ac.val,Ac.QG,bx] using this
 |op v u =>
  split at hit
  ·split at hit <;> try (cases hit; done)
   cases hit;exact MN.elim
  ·split at hit <;> try (cases hit; done)
   cases hit;exact MN.elim
  ·rename_i op _ _
   split at hit<;>try (cases hit;done)
   rename_i i hi
   cases hit
   obtain ⟨H6,ob,v0,aj,cV,hv,_⟩:=MN
   have hw:=tc hR.env hg H6
   rw [if_pos hw]
   have hop:Mo P Y ι μ ⟨b+n,bl⟩ w (b+k) (execOp a.eval o) v0 u i.lays:=by
    rcases aj with aj|aj
    ·exact zH hR.inv hfree hR.env hi aj cV
    ·exact zI hR.inv hfree hR.env hi aj cV
   obtain ⟨ι',μ',x,w',hx,hi',hm,hne,hinv,FL⟩:=hop
   refine ⟨fun _ _=>trivial,?_⟩
   rw [Oper.semAt_eq _ _ _ (lU hi)]
   have Ik:fG i.lays (b+n) (b+k)=b+n:=by unfold fG;cases i.lays<;>simp<;>omega
   have lH:eM P N Y ι' μ' ⟨AM.put o.dst v env,⟨b+n,bx u bl⟩,ms⟩ (a.put o.dst x) w':=by
    refine hR.put hd hi' hm ?_ (vn hv FL)
    have:=hinv;simp only [Ik] at this;exact this
   rcases hx with h|⟨h,rfl⟩<;>rw [h]<;>exact hK _ _ _ _ lH hne
 |call v u =>
  obtain ⟨c,args,tys,fo,as,hop,hf,ha,rfl⟩:∃(c:Callee) (args:Array Operand) (tys:Array TypeId) (fo:O) (as:List O),o.op = .call { callee:=c,args:=args,argTypes:=tys }∧mE P c=some fo∧vO args.toList=some as∧it = .call o.dst g fo as (iO P fo tys):=by
   split at hit
   ·rename_i f args tys hop
    split at hit<;>try (cases hit;done)
    rename_i fo as hf ha
    cases hit
    exact ⟨.value f,args,tys,fo,as,hop,hf,ha,rfl⟩
   ·rename_i r name args tys hop
    split at hit<;>try (cases hit;done)
    rename_i fo as hf ha
    cases hit
    exact ⟨.invoke r name,args,tys,fo,as,hop,hf,ha,rfl⟩
   ·split at hit <;> try (cases hit; done)
    cases hit;exact MN.elim
  obtain ⟨H6,fid,fs,cs,vs',v0,mA,hmo,hp,hs,hv,_⟩:=MN
  have hw:=tc hR.env hg H6
  rw [if_pos hw]
  refine ⟨fun _ _=>trivial,?_⟩
  rw [Oper.semAt_eq _ _ _ (by rw [hop];simp)]
  have ra:=jV hR.env ha
  obtain ⟨cE,gR⟩:=hp
  obtain ⟨xs,ys,r1,r2,hrun⟩:=Dh hop hf hR.env mA cE
  rw [hrun]
  have rl:aI ι μ (fs++cO (iO P fo tys) (as.map (·.ev env))++cs) (xs++args.map a.eval++ys).toList:=by
   have:=(r1.append (lQ (ts:=iO P fo tys) ra)).append r2
   simpa using this
  refine ⟨fun h=>by simp [Ctx.F,Fence.wide] at h,?_⟩
  rcases Bool.eq_false_or_eq_true (CR v0||(fs++cO (iO P fo tys) (as.map (·.ev env))++cs).all (dK 8)) with hb|hb
  rotate_left
  ·rw [hb] at hs
   obtain ⟨ι2,i1,i2,i3⟩:=vm hR.inv (Bf hs)
   have hmo':di (fin dN bl 8) (fs++cO (iO P fo tys) (as.map (·.ev env))++cs)=some vs':=(mQ (fun v=>by unfold gn;exact wP.symm) _).trans hmo
   refine CallsIn.mono (F:=Y.F) (gR ι2 w _ i2.dz (fun b o x hx=>i2.rd b o x hx) (Rs i1 hmo' i3 rl)) ?_
   rintro e w' ⟨v',ι',rfl,hi,hib,hrd,jE,FL⟩
   have hinv':Inv P Y ι' μ ⟨b+n,bx u bl⟩ w':=i2.called hi hib hrd jE
   exact hK _ _ _ _ (hR.put hd (au.le_trans i1 hi) (Mu.le_refl _) hinv' (vn hv (FL.mono (au.le_refl _) (fun _ _ h=>by cases h)))) fun _ _=>rfl
  rw [hb] at hs
  cases hs
  replace hs:=hb
  rw [Bool.or_eq_true] at hs
  rcases hs with hs|hs
  ·refine CallsIn.mono (F := Y.F) (gR (ι.all Y.own w) w _ (hR.inv.dz.mono (au.Bb hR.inv.rd)) (fun b o x hx => ?_) (iY (fun v r x h hr => vk (fun _ _ _ => rfl) hR.inv h hr) hmo rl)) ?_
   ·exact au.FO hR.inv.rd hx
   ·rintro e w' ⟨v', ι', rfl, _, _, _, jE, FL⟩
    have hinv':Inv P Y ι μ ⟨b+n,bl⟩ w':=hR.inv.called (au.le_refl _) (fun _ _ _=>rfl) (dw.kept (fun b o x hx=>hR.inv.rd b o x hx) jE) jE
    exact hK _ _ _ _ (hR.put hd (au.le_refl _) (Mu.le_refl _) hinv' (vn hv (Dp hs FL))) fun _ _=>rfl
  ·have hid:di (fin (gn P N out base) bl 8) (fs++cO (iO P fo tys) (as.map (·.ev env))++cs)=some (fs++cO (iO P fo tys) (as.map (·.ev env))++cs) :=
    Bg fun v hv=>wT (List.all_eq_true.1 hs v hv)
   rw [hid] at hmo;cases hmo
   have rl':aI ι (fun _=>none) (fs++cO (iO P fo tys) (as.map (·.ev env))++cs) (xs++args.map a.eval++ys).toList :=
    ⟨rl.1,fun i v x hv hx=>dF (List.all_eq_true.1 hs _ (List.mem_of_getElem? hv)) (rl.2 i v x hv hx)⟩
   refine CallsIn.mono (F:=Y.F) (gR ι w _ hR.inv.dz (fun b o x hx=>hR.inv.rd b o x hx) rl') ?_
   rintro e w' ⟨v',ι',rfl,hi,hib,hrd,jE,FL⟩
   have hinv':Inv P Y ι' μ ⟨b+n,bl⟩ w':=hR.inv.called hi hib hrd jE
   exact hK _ _ _ _ (hR.put hd hi (Mu.le_refl _) hinv' (vn hv (FL.mono (au.le_refl _) (fun _ _ h=>by cases h)))) fun _ _=>rfl
structure Good (ops:Array Oper) (m:Nat) (is:List eR) (R:List TR) (listed:Array Bool):Prop where
 sz:listed.size=ops.size
 mem:∀t∈R,t.k<m∧is[t.k]?=some t.it∧listed.getD t.k true=false
 cov:∀i,i<m→listed.getD i true=false→∃t∈R,t.k=i
 srt:R.Pairwise (fun a b=>a.k<b.k)
 dr:R.Pairwise (DrP (bP ops))
 clo:∀i,listed.getD i false=true→∀j∈(bP ops).getD i [],listed.getD j false=true
 le:m≤ops.size
 tl:∀i,m≤i→i<ops.size→listed.getD i true=false
theorem Bh {l:Array Bool} {i:Nat} (h:l.getD i true=false):l.getD i false=false∧i<l.size:=by
 rcases Nat.lt_or_ge i l.size with h'|h'
 ·simp [h'] at h ⊢;exact h
 ·simp [Array.getElem?_eq_none h'] at h
theorem mR {l:Array Bool} {i:Nat} (h:i<l.size) (d d':Bool):l.getD i d=l.getD i d':=by simp [h]
theorem Bi {cS:List (List Nat)} {is:List eR} (h:qM cS is=true) {i j:Nat} (hij:i<j) {a b:eR} (ha:is[i]?=some a) (hb:is[j]?=some b):i∈cS.getD j []∨mF a b=true:=by
 unfold qM at h
 have hj:j<is.length:=(List.getElem?_eq_some_iff.1 hb).1
 have:=List.all_eq_true.1 (List.all_eq_true.1 h j (List.mem_range.2 hj)) i (List.mem_range.2 hij)
 simp only [ha,hb,Bool.or_eq_true] at this
 rcases this with h|h
 ·exact .inl (by simpa using h)
 ·exact .inr h
theorem n9 {m:Nat} {is:List eR} {R:List TR} {listed:Array Bool} (hG:Good ops m is R listed) {i:Nat} (hi:i∈Region.ready .any ops listed):∀j∈(bP ops).getD i [],listed.getD j false=true:=by
 intro j hj
 obtain ⟨_,o,ho,hall⟩:=mem_ready.1 hi
 obtain ⟨hjs,ht⟩:=jO.1 hj
 obtain ⟨o',ho',e,he,hb,h⟩:=nZ ht
 rw [ho] at ho';cases ho'
 have hl:=hall e he hb
 rcases h with rfl|h
 ·exact hl
 ·exact hG.clo _ hl j (jO.2 ⟨hjs,h⟩)
theorem MO {m:Nat} {is:List eR} {R:List TR} {listed:Array Bool} (hG:Good ops m is R listed) (dZ:gP ops=true) {k:Nat} (h1:k<ops.size) (h3:listed.getD k true=false) (oa:∀i,i<k→listed.getD i true=true):k∈Region.ready .any ops listed:=by
 refine mem_ready.2 ⟨h3,ops[k],by simp [h1],fun e he hb=>?_⟩
 have hlt:e.on<k:=by
  unfold gP at dZ
  have hmem:(ops[k],k)∈ops.toList.zipIdx:=by
   rw [List.mem_zipIdx_iff_getElem?];simp [h1]
  have:=List.all_eq_true.1 dZ _ hmem
  simp only at this
  have:=Array.all_eq_true_iff_forall_mem.1 this e he
  simpa [hb] using this
 have hlt':e.on<listed.size:=by rw [hG.sz];omega
 rw [mR hlt' false true];exact oa _ hlt
theorem FW {m:Nat} {is:List eR} {t:TR} {R:List TR} {listed:Array Bool} (hG:Good ops m is (t::R) listed) (dZ:gP ops=true):t.k∈Region.ready .any ops listed:=by
 obtain ⟨h1,_,h3⟩:=hG.mem t (List.mem_cons_self ..)
 refine MO hG dZ (by have:=hG.le;omega) h3 fun i hi=>?_
 rcases Bool.eq_false_or_eq_true (listed.getD i true) with h|h
 ·exact h
 ·obtain ⟨t', ht', hk⟩ := hG.cov i (by omega) h
  rcases List.mem_cons.1 ht' with rfl|ht'
  ·omega
  ·have := (List.pairwise_cons.1 hG.srt).1 t' ht'
   omega
theorem Good.step {m:Nat} {is:List eR} {L1 L2:List TR} {t:TR} {listed:Array Bool} (hG:Good ops m is (L1++t::L2) listed) (hr:t.k∈Region.ready .any ops listed):Good ops m is (L1++L2) (listed.setIfInBounds t.k true):=by
 have hsub:(L1++L2).Sublist (L1++t::L2):=(List.Sublist.refl L1).append (List.sublist_cons_self t L2)
 have hne:∀x∈L1++L2,x.k≠t.k:=fun x hx=>by
  have:=List.pairwise_append.1 hG.srt
  rcases List.mem_append.1 hx with h|h
  ·exact Nat.ne_of_lt (this.2.2 x h t (List.mem_cons_self ..))
  ·exact Nat.ne_of_gt ((List.pairwise_cons.1 this.2.1).1 x h)
 refine ⟨by simp [hG.sz],fun x hx=>?_,fun i hi Rt=>?_,hG.srt.sublist hsub,hG.dr.sublist hsub,fun i hi j hj=>?_,hG.le,fun i hi hi2=>?_⟩
 ·obtain ⟨h1, h2, h3⟩ := hG.mem x (hsub.subset hx)
  exact ⟨h1,h2,by rw [getD_set_ne true (Ne.symm (hne x hx))];exact h3⟩
 ·have hki:t.k≠i:=fun e=>by
   subst e
   have:t.k<listed.size:=by rw [hG.sz];exact Nat.lt_of_lt_of_le hi hG.le
   simp [this] at Rt
  rw [getD_set_ne true hki] at Rt
  obtain ⟨x,hx,hk⟩:=hG.cov i hi Rt
  refine ⟨x,?_,hk⟩
  rcases List.mem_append.1 hx with h|h
  ·exact List.mem_append_left _ h
  ·rcases List.mem_cons.1 h with rfl | h
   ·exact absurd hk hki
   ·exact List.mem_append_right _ h
 ·refine getD_set_true ?_
  by_cases hki:t.k=i
  ·subst hki;exact n9 hG hr j hj
  ·rw [getD_set_ne false hki] at hi
   exact hG.clo i hi j hj
 ·have hk := (hG.mem t (List.mem_append_right _ (List.mem_cons_self ..))).1
  rw [getD_set_ne true (by omega)]
  exact hG.tl i hi hi2
theorem Dq {os:List Oper} {is:List eR} {k:Nat} (h:dW P N ops os=some is):dW P N ops (os.drop k)=some (is.drop k):=by
 induction k generalizing os is with
 |zero=>simpa using h
 |succ k ih =>
  cases os with
  |nil=>cases h;rfl
  |cons o os =>
   unfold dW at h
   split at h<;>try (cases h;done)
   rename_i it its hit MG
   cases h
   simpa using ih MG
theorem Dr {m:Nat} (dZ:gP ops=true) (zO:∀i,m≤i→i<ops.size→∀j,j<i→j∈(bP ops).getD i []) {Q:Exit→Act→World→Prop}:∀(n k:Nat) {listed:Array Bool} {a:Act} {w:World},
  m≤k→k+n=ops.size→listed.size=ops.size→(∀i,i<k→listed.getD i true=true)→(∀i,k≤i→i<ops.size→listed.getD i true=false) →
  (∀i,listed.getD i false=true→∀j∈(bP ops).getD i [],listed.getD j false=true)→wpOpsIn Y.F 0 P ops Q (List.range' k n) a w→wpAnyIn Y.F 0 P .any ops Q n listed a w
 |0,k,listed,a,w,hm,hk,hsz,oa,Il,tg,h=>by
  refine ⟨?_,h⟩
  cases hr:Region.ready .any ops listed with
  |nil=>rfl
  |cons i r =>
   have hi:i∈Region.ready .any ops listed:=by rw [hr];exact List.mem_cons_self ..
   obtain ⟨h0,o,ho,_⟩:=mem_ready.1 hi
   have:=(Array.getElem?_eq_some_iff.1 ho).1
   rw [oa i (by omega)] at h0;cases h0
 |n+1,k,listed,a,w,hm,hk,hsz,oa,Il,tg,h=>by
  have hks:k<ops.size:=by omega
  have hrk:k∈Region.ready .any ops listed:=by
   refine mem_ready.2 ⟨Il k (Nat.le_refl _) hks,ops[k],by simp [hks],fun e he hb=>?_⟩
   have hlt:e.on<k:=by
    unfold gP at dZ
    have hmem:(ops[k],k)∈ops.toList.zipIdx:=by
     rw [List.mem_zipIdx_iff_getElem?];simp [hks]
    have:=List.all_eq_true.1 dZ _ hmem
    simp only at this
    have:=Array.all_eq_true_iff_forall_mem.1 this e he
    simpa [hb] using this
   have hlt':e.on<listed.size:=by rw [hsz];omega
   rw [mR hlt' false true];exact oa _ hlt
  have hrp:∀i,i∈Region.ready .any ops listed→∀j∈(bP ops).getD i [],listed.getD j false=true:=by
   intro i hi j hj
   obtain ⟨_,o,ho,hall⟩:=mem_ready.1 hi
   obtain ⟨hjs,ht⟩:=jO.1 hj
   obtain ⟨o',ho',e,he,hb,h⟩:=nZ ht
   rw [ho] at ho';cases ho'
   have hl:=hall e he hb
   rcases h with rfl|h
   ·exact hl
   ·exact tg _ hl j (jO.2 ⟨hjs,h⟩)
  refine ⟨fun h0=>(by rw [h0] at hrk;cases hrk),fun i hi=>?_⟩
  obtain ⟨h0,o,ho,_⟩:=mem_ready.1 hi
  have mN:=(Array.getElem?_eq_some_iff.1 ho).1
  have hik:i=k:=by
   rcases Nat.lt_trichotomy i k with h1|h1|h1
   ·rw [oa i h1] at h0;cases h0
   ·exact h1
   ·have := hrp i hi k (zO i (by omega) mN k h1)
    rw [(Bh (Il k (Nat.le_refl _) hks)).1] at this;cases this
  subst hik
  rw [List.range'_succ,wpOpsIn_cons] at h
  refine wpOpIn_mono (fun a' w' h'=>Dr dZ zO n (i+1) (by omega) (by omega) (by simpa using hsz) (fun j hj=>?_) (fun j hj hj2=>?_) (fun x hx j hj=>?_) h') h
  ·by_cases e : i = j
   ·subst e;simp [hsz,hks]
   ·rw [getD_set_ne true e];exact oa j (by omega)
  ·rw [getD_set_ne true (by omega)];exact Il j (by omega) hj2
  ·refine getD_set_true ?_
   by_cases e:i=x
   ·subst e;exact hrp i hi j hj
   ·rw [getD_set_ne false e] at hx
    exact tg x hx j hj
theorem MP {is : List eR} {m : Nat} (zO : ∀ i, m ≤ i → i < ops.size → ∀ j, j < i → j ∈ (bP ops).getD i []) (mN : dW P N ops ops.toList = some is) (qg : qM (bP ops) is = true) (dZ : gP ops = true) {b : Nat} {ms : List Nat} {F : List (Nat × V) → aq → Prop} (hF : Bd F)
  {Q:Exit→Act→World→Prop} (hend:∀ι μ env bl a w,eM P N Y ι μ ⟨env,⟨b+m,bl⟩,ms⟩ a w→F env bl→wpOpsIn Y.F 0 P ops Q (List.range' m (ops.size - m)) a w) :
  ∀(fuel:Nat) {R:List TR} {listed:Array Bool} {a:Act} {w:World} {ι:au} {μ:Mu} {env:List (Nat×V)} {bl:aq},fuel=R.length+(ops.size - m)→Good ops m is R listed→uN (gn P N out base) b R env bl F →
   eM P N Y ι μ ⟨env,⟨b+m,bl⟩,ms⟩ a w→(∀t∈R,μ (b+t.k)=none)→wpAnyIn Y.F 0 P .any ops Q fuel listed a w
 |fuel,R,listed,a,w,ι,μ,env,bl,hl,hG,hrun,hR,hfr=>by
  rcases Decidable.em (R=[]) with th|th
  ·subst th
   have hle:=hG.le
   have hf:fuel=ops.size - m:=by simpa using hl
   rw [hf]
   refine Dr dZ zO (ops.size - m) m (Nat.le_refl _) (by omega) hG.sz (fun i hi=>?_) hG.tl hG.clo (hend _ _ _ _ _ _ hR hrun)
   rcases Bool.eq_false_or_eq_true (listed.getD i true) with h|h
   ·exact h
   ·obtain ⟨t,ht,_⟩:=hG.cov i hi h;simp at ht
  obtain ⟨fuel,rfl⟩:∃f,fuel=f+1:=⟨fuel - 1,by have:=List.length_pos_iff.2 th;omega⟩
  ·refine ⟨fun h0 => ?_, fun i hi => ?_⟩
   ·cases R with
    |nil=>exact absurd rfl th
    |cons t R=>have:=FW hG dZ;rw [h0] at this;simp at this
   ·obtain ⟨h0, o, ho, _⟩ := mem_ready.1 hi
    have him:i<m:=by
     rcases Nat.lt_or_ge i m with h|h
     ·exact h
     ·exfalso
      have vX:=(Array.getElem?_eq_some_iff.1 ho).1
      cases R with
      |nil=>exact th rfl
      |cons t R =>
       have QH:=hG.mem t (List.mem_cons_self ..)
       have:=n9 hG hi _ (zO i h vX t.k (by omega))
       rw [(Bh QH.2.2).1] at this;cases this
    obtain ⟨t,ht,hk⟩:=hG.cov i him h0
    subst hk
    obtain ⟨L1,L2,rfl⟩:=List.append_of_mem ht
    have hAp:∀x∈L1,Vp x t:=fun x hx=>by
     have hp:=(List.pairwise_append.1 hG.srt).2.2 x hx t (List.mem_cons_self ..)
     have hd:=(List.pairwise_append.1 hG.dr).2.2 x hx t (List.mem_cons_self ..)
     have Xh:=hG.mem x (List.mem_append_left _ hx)
     have QH:=hG.mem t ht
     have hnot:x.k∉(bP ops).getD t.k []:=fun h=>by
      have:=n9 hG hi _ h
      rw [(Bh Xh.2.2).1] at this;cases this
     rcases Bi qg hp Xh.2.1 QH.2.1 with h|h
     ·exact absurd h hnot
     ·rcases hd with h' | h'
      ·exact absurd h' hnot
      ·exact ⟨h,h'.1,h'.2⟩
    obtain ⟨MN,abD⟩:=pull hF hAp hrun
    have QH:=hG.mem t ht
    have hit:=(gq mN).2 t.k o t.it (by simpa using ho) QH.2.1
    refine Ij QH.1 ho hit MN hR (hfr t ht) fun ι' μ' a' w' gM hne=>?_
    have hG':=hG.step hi
    refine MP zO mN qg dZ hF hend fuel (R:=L1++L2) (by simp at hl ⊢;omega) hG' abD gM fun x hx=>?_
    have hx':x∈L1++t::L2:=((List.Sublist.refl L1).append (List.sublist_cons_self t L2)).subset hx
    have h1:=(hG'.mem x hx).2.2
    have hnk:x.k≠t.k:=fun e=>by
     rw [e] at h1
     have:t.k<listed.size:=by rw [hG.sz];have:=hG.le;omega
     simp [this] at h1
    rw [hne _ (by omega)];exact hfr x hx'
theorem zP {ar : Ar} {b : Nat} {F G : List (Nat × V) → aq → Prop} (h : ∀ e bl, F e bl → G e bl) : ∀ {ts : List TR} {env : List (Nat × V)} {bl : aq}, uN ar b ts env bl F → uN ar b ts env bl G
 |[],_,_,hr=>h _ _ hr
 |_::_,_,_,hr=>⟨hr.1,zP h hr.2⟩
theorem Ds {ar : Ar} {b : Nat} {p : Prop} {F : List (Nat × V) → aq → Prop} : ∀ {ts : List TR} {env : List (Nat × V)} {bl : aq}, uN ar b ts env bl (fun e bl => p ∧ F e bl) → p ∧ uN ar b ts env bl F
 |[],_,_,hr=>hr
 |_::_,_,_,hr=>let ⟨h1,h2⟩:=Ds hr.2;⟨h1,hr.1,h2⟩
theorem iD (hm:P.follows .mixedOrders=true):mM P N out base:=by
 intro id ops CC Rk mN qg dZ hl S K hK Y ι μ a w ho hb hR
 refine wpIn_region_any hm ?_
 obtain ⟨ts,h1,h2,h3⟩:=nY hK
 simp only [List.nil_append] at h3
 obtain ⟨hdr,hrun⟩:=Ds h3
 have hlen:CC.length+Rk.length=ops.size:=by simpa using (gq mN).1
 have htl:ts.length=CC.length:=by rw [←h1];simp
 have hk:∀(j:Nat) t,ts[j]?=some t→t.k=j∧(CC++Rk)[j]?=some t.it∧j<CC.length:=fun j t ht=>by
  have hj:=(List.getElem?_eq_some_iff.1 ht).1
  refine ⟨?_,?_,by omega⟩
  ·have : (ts.map (·.k))[j]? = some t.k := by simp [ht]
   rw [h2,List.getElem?_range' (by omega)] at this
   simpa using this.symm
  ·rw [List.getElem?_append_left (by omega),←h1];simp [ht]
 let F:List (Nat×V)→aq→Prop:=fun env bl=>∃jF Im,FV jF env∧Vo Im bl∧fD (gn P N out base) Rk ⟨jF,⟨S.H.next+CC.length,Im⟩,S.ms⟩ K
 have hF:Bd F:=fun env env' bl bO he qE ⟨e0,b0,q1,q2,q3⟩=>⟨e0,b0,q1.trans he,fun i=>(q2 i).trans (qE i),q3⟩
 have lH:∀{ι' μ' env bl jF Im a' w'},eM P N Y ι' μ' ⟨env,⟨S.H.next+CC.length,bl⟩,S.ms⟩ a' w'→FV jF env→Vo Im bl→eM P N Y ι' μ' ⟨jF,⟨S.H.next+CC.length,Im⟩,S.ms⟩ a' w':=fun gM q1 q2 =>
  ⟨fun t=>by rw [q1 t];exact gM.env t,gM.sz,gM.inv.eqB q2,gM.ms⟩
 have hfl:ops.size=ts.length+(ops.size - CC.length):=by omega
 have htr2:dW P N ops (ops.toList.drop CC.length)=some Rk:=by
  have:=Dq (k:=CC.length) mN
  rwa [List.drop_left' rfl] at this
 refine MP (out:=out) (base:=base) (b:=S.H.next) (ms:=S.ms) (F:=F) (fun i hi hi2=>hl i hi (by omega)) mN qg dZ hF (fun ι' μ' env bl a' w' gM hf=>?_) ops.size (R:=ts) (ι:=ι) (μ:=μ) (env:=S.env) (bl:=S.H.bl) hfl ?_ ?_ ?_ ?_
 ·obtain ⟨e0, b0, q1, q2, q3⟩ := hf
  have h:=wE (Y:=Y) (os:=ops.toList.drop CC.length) (Q:=Post P N Y fun e S=>match e with | .normal=>K S|_=>False) (K:=K) (out:=out) (base:=base) (fun ι μ S a w hR hK=>Post.of (e':=.normal) hR rfl hK) (k:=CC.length) htr2 (fun j=>by
   rw [List.getElem?_drop];simp) (lH gM q1 q2) q3
  rwa [List.length_drop,Array.length_toList] at h
 ·refine ⟨by simp, fun t ht => ?_, fun i hi Rt => ?_, ?_, qf hdr, fun i hi => ?_, by omega, fun i hi hi2 => by simp [hi2]⟩
  ·obtain ⟨j, hj⟩ := List.getElem?_of_mem ht
   obtain ⟨e1,e2,e3⟩:=hk j t hj
   subst e1
   exact ⟨e3,e2,by simp [show t.k<ops.size by omega]⟩
  ·have : i < ts.length := by omega
   refine ⟨ts[i],List.getElem_mem this,(hk i _ (by simp)).1⟩
  ·have h4 : (ts.map (·.k)).Pairwise (· < ·) := by rw [h2]; exact List.pairwise_lt_range'
   exact List.pairwise_map.1 h4
  ·exfalso
   rcases Nat.lt_or_ge i ops.size with h|h<;>simp [h] at hi
 ·refine zP (fun e bl h => ?_) hrun
  exact ⟨e,bl,fun _=>rfl,fun _=>rfl,h⟩
 ·exact ⟨hR.env,hR.sz,(hR.inv.ta (by omega)).drawn,hR.ms⟩
 ·intro t ht
  exact hR.inv.nx _ (by omega)
end
end Go.AM
end
section
namespace Go.AM
section
variable {P:Program} {N:Nat} {Y:Ctx} {ι ι':au} {μ μ':Mu} {H:aG} {w w':World} {out:Option Nat} {base:Nat}
theorem Ru {func:Func} {fn:Fn} (htr:cw P func=some fn):Mi P func.results.toList=some fn.res:=by
 unfold cw at htr
 split at htr<;>try (cases htr;done)
 split at htr<;>try (cases htr;done)
 rename_i QF
 split at htr<;>try (cases htr;done)
 cases htr;exact QF
theorem Inv.down (h:Inv P Y ι μ H w) (ro:Option Nat):Inv P ⟨Y.w0,ι,μ,ro,Y.x,[]⟩ ι μ H w :=
 ⟨h.below,au.le_refl _,fun _ _ _ _=>rfl,h.rd,Mu.le_refl _,h.nx,h.live,h.inj,h.lt,h.dz⟩
theorem Inv.up {ro:Option Nat} {H':aG} (h0:Inv P Y ι μ H w) (h:Inv P ⟨Y.w0,ι,μ,ro,Y.x,[]⟩ ι' μ' H' w'):Inv P Y ι' μ' H' w'∧ι.le ι'∧μ.le μ' :=
 ⟨⟨h.below,au.le_trans h0.i0 h.i0,fun b o hb hx=>(h.iB b o hb hx).trans (h0.iB b o hb hx),h.rd,Mu.le_trans h0.m0 h.m0,h.nx,h.live,h.inj,h.lt,h0.gl⟩,h.i0,h.m0⟩
theorem j7 {f : Nat} {func : Func} {fn : Fn} (hf : P.funcs[f]? = some func) (htr : cw P func = some fn) (cE : Enters P f) (gT : mM P fn.N none H.next) {vs : List V} {Q : V → aG → Prop} (hlen : vs.length ≤ fn.np)
  (h:qP (gn P fn.N none H.next) fn.body ⟨args 0 vs,H,[]⟩ (Ba fn.res fn.tys Q)):gQ P f vs H Q:=by
 refine ⟨cE,fun Y ι μ w as hI hr=>?_⟩
 refine Ig (Y:=⟨Y.w0,ι,μ,none,Y.x,[]⟩) hf htr gT hlen h rfl rfl (fun id hid=>hI.nx id hid) (hI.down none) hr fun Y1 ι' μ' S' a' w' e' hY hR hq=>?_
 have key:Ba.qc fn.res fn.tys Q S'→LeavesInM Fence.wide 0 P func a'.tmps (MC P Y ι μ Q) a'.defers .returning w':=by
  intro hs
  unfold Ba.qc at hs
  split at hs<;>try (exact hs.elim)
  rename_i bl qE
  split at hs<;>try (exact hs.elim)
  rename_i vs' hvs
  refine sX (Ru htr) (n:=S'.H.next) (bl:=S'.H.bl) hY rfl hR.inv hR.env hR.ms qE hvs fun x w2 nN hx=>?_
  obtain ⟨h1,h2,h3⟩:=hI.up nN
  exact ⟨x,ι',μ',_,_,rfl,h2,h3,h1,hx (hTs fn.tys),hs⟩
 cases e' with
 |exit id=>exact hq.elim
 |normal=>exact ⟨.inl rfl,key hq⟩
 |ret=>exact ⟨.inr rfl,key hq⟩
def unr (ar : Ar) (c : C) : Nat → St → (Ex → St → Prop) → Prop
 |0,_,_=>False
 |n+1,S,K=>qP ar c S fun e S'=>match e with
  | .normal=>unr ar c n S' K
  | .exit id=>K (.exit id) S'
  | .ret=>K .ret S'
theorem Inv.Kb {bl:aq} {n id:Nat} {L:Loc} {B:kR} (h:Inv P Y ι μ ⟨n,bl⟩ w) (hb:ay id bl=some B) (hL:μ id=some L) {o o':Obj} (ho:w.heap[L.b]?=some o) (hnc:∀c e f,o ≠ .cells c e f) (hnm:∀ms c,o ≠ .map ms c) :
  Inv P Y ι μ ⟨n,bu id bl⟩ (w.putObj L.b o'):=by
 have hold:Y.own L.b:=((h.live id _ hb).loc hL).1
 have bU:∀k,k≠L.b→(w.putObj L.b o').heap[k]?=w.heap[k]?:=fun k hk=>World.putObj_heap_other hk
 have hsub:=h.del id
 refine ⟨⟨h.below.os, h.below.tape, h.below.output, by rw [World.putObj_size]; exact h.below.size, fun k hk hx => ?_, h.below.dr, fun k hk => (h.below.maps k hk).trans (by
   by_cases e:k=L.b
   ·subst e;exact .no (fun ms c e=>by rw [ho] at e;cases e;exact hnm _ _ rfl)
   ·exact .eq (bU k e))⟩,h.i0,h.iB,fun b o2 x hx=>?_,h.m0,h.nx,fun i B2 hB=>?_,hsub.inj,hsub.lt,h.gl⟩
 ·rw [bU k (Ctx.lE hold hk hx)];exact h.below.block k hk hx
 ·have := h.rd b o2 x hx
  have hne:b≠L.b:=fun e=>by
   subst e
   cases o<;>simp [World.cell?,ho] at this
   exact hnc _ _ _ rfl
  unfold World.cell? at this ⊢
  simp only at this ⊢
  rw [bU b hne];exact this
 ·simp only at hB
  rw [bn] at hB
  split at hB
  ·cases hB
  ·rename_i e
   refine (h.live i B2 hB).mono (au.le_refl _) (Mu.le_refl _) (fun h=>h) (fun L' hL'=>bU _ (fun e'=>e (h.inj i id B2 _ L' L hB hb hL' hL e'))) (fun _ _ h=>h)
def Io (j:Option Ex) (S:St) (K:Ex→St→Prop):Prop:=match j with
 |none=>K .normal S
 |some e=>match e with
  | .normal=>False
  | .exit i=>K (.exit i) S
  | .ret=>K .ret S
def jP (id:Nat) (sh:List Nat) (S:St) (K:Ex→St→Prop) (H:aG):Prop:=match ay id H.bl with
 |some (.loop st j _ _ _ _ _ _)=>match st with
  | .busy=>False
  |_=>match eN sh (bu id H.bl) with
   |some bl=>Io j ⟨S.env,⟨H.next,bl⟩,S.ms⟩ K
   |none=>False
 |_=>False
def Xq (ar:Ar) (N:Nat) (out:Option Nat) (f:O) (ps:List Nat) (as bd:C) (S:St) (K:Ex→St→Prop):Prop :=
 ps.all (Nat.blt · N)=true ∧
 match f.ev S.env with
 | .fn fid first cap=>match out with
  | none => S.ms = [] ∧ ar.call fid (first ++ [.yl (S.H.next + 1)] ++ cap) ⟨S.H.next + 2, (S.H.next + 1, .loop .ready none S.H.next S.env ps as bd N) :: (S.H.next, .ig) :: S.H.bl⟩
    fun _ H=>jP (S.H.next+1) [S.H.next] S K H
  |some Vq=>match ay Vq S.H.bl with
   | some (.loop _ _ d _ _ _ _ _) => ar.call fid (first ++ [.yl S.H.next] ++ cap) ⟨S.H.next + 1, (S.H.next, .loop .ready none d S.env ps as bd N) :: S.H.bl⟩
     fun _ H=>jP S.H.next [] S K H
   |_=>False
 |_=>False
theorem um {f:O} {ps:List Nat} {as bd:C} {S:St} {K:Ex→St→Prop} (h:Xq (gn P N out base) N out f ps as bd S K):(gn P N out base).bH f ps as bd S K:=by
 intro fo CA ao bo hfo hps hao hbo Y ι μ a w ho hb hR
 obtain ⟨hpN,h⟩:=h
 have rf:=aB hR.env hfo
 have hnc:∀(r:Loop) c e f,Obj.loop r ≠ .cells c e f:=fun r c e f=>by intro h;cases h
 split at h
 ·rename_i fid fs cs mA
  rw [mA] at rf
  generalize hg:a.eval fo=fv at rf
  cases rf with
  |fn _ _ _ xs ys h1 h2 h3 h4 =>
   have r1:aI ι μ fs xs.toList:=⟨by simpa using h1,fun i v x hv hx=>h2 i v x hv (by simpa using hx)⟩
   have r2:aI ι μ cs ys.toList:=⟨by simpa using h3,fun i v x hv hx=>h4 i v x hv (by simpa using hx)⟩
   -- behind the call
   have fin:∀{aC:Nat} {L:Loc} {sh ms':List Nat} {ds':List Deferred} {μ1:Mu},μ.le μ1→μ1 aC=some L→jg Y.hid μ1 ms' ds'→((sh=[]∧ms'=S.ms)∨∃i,sh=[i]∧ms'=[i]∧S.ms=[]∧Y.ro=none) →
     ∀e w',MC P Y ι μ1 (fun _ H=>jP aC sh S K H) e w' →
     rangePost Y.F 0 P L.b (Post P N Y K) { a with defers:=ds' } e w':=fun {aC L sh ms' ds' μ1} gj hL hmk hsh e w' he=>by
    obtain ⟨v,ι',μ',r,H',rfl,hi,hm,hinv,hv,hq⟩:=he
    unfold jP at hq
    split at hq<;>try (exact hq.elim)
    rename_i st j d env' ps' as' Rv N' qE
    obtain ⟨L',r',Ld,q1,q2,q3,q4,q5,q6,q7,q8,q9,q10,q11,q12,q13⟩:=hinv.live _ _ qE
    rw [hm _ _ hL] at q1;cases q1
    have hst:r'.state ≠ .busy:=by rw [q4];cases st<;>simp [stR] at hq ⊢
    have hinv':=hinv.Kb (o':=.loop { r' with state:=.exhausted }) qE (hm _ _ hL) q3 (hnc r') (fun _ _ e=>by cases e)
    have Vr:eM P N Y ι' μ' ⟨S.env,⟨H'.next,bu aC H'.bl⟩,ms'⟩ { a with defers:=ds' } (w'.putObj L.b (.loop { r' with state:=.exhausted })) :=
     ⟨hR.env.mono hi (Mu.le_trans gj hm),hR.sz,hinv',hmk.mono hm⟩
    have hq1:∃bl,eN sh (bu aC H'.bl)=some bl∧Io j ⟨S.env,⟨H'.next,bl⟩,S.ms⟩ K:=by
     cases hsh2:eN sh (bu aC H'.bl) with
     |none=>rw [hsh2] at hq;cases st<;>exact hq.elim
     |some bl=>rw [hsh2] at hq;exact ⟨bl,rfl,by cases st<;>first|exact hq.elim|exact hq⟩
    obtain ⟨bl,MQ,Xr⟩:=hq1
    obtain ⟨Y1,MR,lH⟩:∃Y1,Ext P Y Y1∧eM P N Y1 ι' μ' ⟨S.env,⟨H'.next,bl⟩,S.ms⟩ { a with defers:=ds' } (w'.putObj L.b (.loop { r' with state:=.exhausted })):=by
     rcases hsh with ⟨rfl,rfl⟩|⟨i,rfl,rfl,hS,hro⟩
     ·cases MQ;exact ⟨Y,.refl Y,Vr⟩
     ·simp only [eN] at MQ
      split at MQ<;>try (cases MQ;done)
      rename_i hb
      cases MQ
      rw [hS]
      exact Vr.uL rfl hb hro
    have hend:=run_endLoop (P:=P) q3 hst
    generalize w'.putObj L.b (.loop { r' with state:=.exhausted })=w4 at lH hend
    refine ⟨r'.pending,w4,hend,?_⟩
    unfold Io at Xr
    cases j with
    |none=>simp only [CU] at q5;rw [q5];exact .of1 (e':=.normal) MR lH rfl Xr
    |some e =>
     cases e with
     |normal=>exact Xr.elim
     |exit i=>simp only [CU] at q5;rw [q5];exact wpIn_exit (.of1 (e':=.exit i) MR lH rfl Xr)
     |ret=>simp only [CU] at q5;rw [q5];exact wpIn_ret (.of1 (e':=.ret) MR lH rfl Xr)
   have hpN':∀p∈ps,p<N:=fun p hp=>by have:=List.all_eq_true.1 hpN p hp;simpa using this
   cases out with
   |none =>
    simp only at h
    have hro:Y.ro=none:=ho
    obtain ⟨hms0,cE,gR⟩:=h
    let Ld:Loc:=⟨w.heap.size,0,0,0⟩
    let L:Loc:=⟨w.heap.size+1,0,0,0⟩
    have hn0:=hR.inv.nx S.H.next (Nat.le_refl _)
    have yR:=Mu.fF (L:=Ld) hn0
    have Fg:=hR.inv.lay hn0 (L:=Ld) (o:=.deferred (some [])) (b:=.ig) rfl ⟨Ld,by simp [Mu.set],.inl hR.inv.below.size,by show (w.heap.push _)[w.heap.size]?=_;simp⟩
    have Ke:(w.alloc (.deferred (some []))).heap.size=w.heap.size+1:=World.size_alloc _ _
    have Vn:(μ.set S.H.next Ld) (S.H.next+1)=none:=by simp only [Mu.set];rw [if_neg (by omega)];exact hR.inv.nx _ (by omega)
    have hle1:=Mu.fF (L:=L) Vn
    have FX : ∀ fn : Nat, Inv P Y ι ((μ.set S.H.next Ld).set (S.H.next + 1) L) ⟨S.H.next + 2, (S.H.next + 1, .loop .ready none S.H.next S.env ps as bd N) :: (S.H.next, .ig) :: S.H.bl⟩
      ((w.alloc (.deferred (some []))).alloc (.loop { state:=.ready,pending:=none,fn:=fn,tmps:=a.tmps,params:=CA,assign:=ao,body:=bo,defers:=w.heap.size })):=fun fn=>by
     have nN := Fg.lay Vn (L := L) (o := .loop { state := .ready, pending := none, fn := fn, tmps := a.tmps, params := CA, assign := ao, body := bo, defers := w.heap.size })
      (b:=.loop .ready none S.H.next S.env ps as bd N) (by simp [L,Ke]) ⟨L,{ state:=.ready,pending:=none,fn:=fn,tmps:=a.tmps,params:=CA,assign:=ao,body:=bo,defers:=w.heap.size },Ld,by simp [Mu.set],.inl (by have:=hR.inv.below.size;simp only [L];omega),by
       have:=World.alloc_heap_new (w.alloc (.deferred (some []))) (.loop { state:=.ready,pending:=none,fn:=fn,tmps:=a.tmps,params:=CA,assign:=ao,body:=bo,defers:=w.heap.size })
       rw [Ke] at this;exact this,rfl,rfl,hR.env.mono (au.le_refl _) (Mu.le_trans yR hle1),hps,hR.sz,hpN',hao,hbo,by simp [Mu.set],rfl⟩
     refine nN.congr (fun id=>?_) (by simp only;omega)
     rw [aD,bq]
     by_cases e:S.H.next+1=id
     ·subst e;simp
     ·rw [if_neg e, if_neg (fun e' => e e'.symm), aD, bq]
      by_cases e2:S.H.next=id
      ·subst e2;simp
      ·rw [if_neg e2,if_neg (fun e'=>e2 e'.symm)]
    have yS:=Mu.le_trans yR hle1
    have hLd:((μ.set S.H.next Ld).set (S.H.next+1) L) S.H.next=some Ld:=by simp [Mu.set]
    have hL:((μ.set S.H.next Ld).set (S.H.next+1) L) (S.H.next+1)=some L:=by simp [Mu.set]
    refine wpIn_rangeFunc fun fn _=>?_
    have Dt:=FX fn
    obtain ⟨W,hW⟩:∃W,W=(w.alloc (.deferred (some []))).alloc (.loop { state:=.ready,pending:=none,fn:=fn,tmps:=a.tmps,params:=CA,assign:=ao,body:=bo,defers:=w.heap.size }):=⟨_,rfl⟩
    rw [←hW] at Dt
    refine ⟨w.heap.size+1,[{ target:=.collected w.heap.size,args:=#[] }],W,{ target:=.fn (.func fid) ys,args:=xs++#[.func (.yield (w.heap.size+1)) #[] #[]] },W,fid,
     (xs++#[.func (.yield (w.heap.size+1)) #[] #[]])++ys,W,?_,?_,fun _ _=>trivial,?_,fun h=>by simp [Ctx.F,Fence.wide] at h,?_⟩
    ·show (Instr.enterLoop fn a.tmps CA ao bo Y.ro).run P w = _
     rw [hro,hW];exact run_enterLoop_outer _ _ _ _ _
    ·have e1 : ∀ v, a.eval (.const v) = v := fun _ => rfl
     simp [resolve,hg,Deferred.ofValue,e1]
    ·have := cE ((xs ++ #[Value.func (Fn.yield (w.heap.size + 1)) #[] #[]]) ++ ys) W
     simpa [invoke] using this
    ·have rl:aI ι ((μ.set S.H.next Ld).set (S.H.next+1) L) (fs++[.yl (S.H.next+1)]++cs) ((xs++#[Value.func (Fn.yield (w.heap.size+1)) #[] #[]])++ys).toList:=by
      have q1:=r1.mono (au.le_refl _) yS
      have q2:=r2.mono (au.le_refl _) yS
      have:=(q1.append (.cons (.yl _ L hL) .nil)).append q2
      simpa using this
     refine CallsIn.mono (F:=Y.F) (gR Y ι _ _ _ Dt rl) fun e w' he=>?_
     exact fin (L:=L) (aC:=S.H.next+1) (sh:=[S.H.next]) (ms':=[S.H.next]) (ds':={ target:=.collected w.heap.size,args:=#[] }::a.defers) yS hL ⟨Ld,_,a.defers,rfl,hLd,rfl,by have:=hR.ms;rw [hms0] at this;exact this⟩ (.inr ⟨_,rfl,rfl,hms0,hro⟩) e w' he
   |some Vq =>
    simp only at h
    obtain ⟨L0,hm0,hro⟩:=ho
    split at h<;>try (exact h.elim)
    rename_i st0 j0 d0 jF ps0 as0 bd0 N0 hb0
    obtain ⟨cE,gR⟩:=h
    obtain ⟨L0',r0,Ld,q1,q2,q3,q4,q5,q6,q7,q8,q9,q10,q11,q12,q13⟩:=hR.inv.live _ _ hb0
    rw [hR.inv.m0 _ _ hm0] at q1;cases q1
    let L:Loc:=⟨w.heap.size,0,0,0⟩
    have hn0:=hR.inv.nx S.H.next (Nat.le_refl _)
    have yS:=Mu.fF (L:=L) hn0
    have FX : ∀ fn : Nat, Inv P Y ι (μ.set S.H.next L) ⟨S.H.next + 1, (S.H.next, .loop .ready none d0 S.env ps as bd N) :: S.H.bl⟩
      (w.alloc (.loop { state:=.ready,pending:=none,fn:=fn,tmps:=a.tmps,params:=CA,assign:=ao,body:=bo,defers:=r0.defers })):=fun fn=>by
     have nN := hR.inv.lay hn0 (L := L) (o := .loop { state := .ready, pending := none, fn := fn, tmps := a.tmps, params := CA, assign := ao, body := bo, defers := r0.defers })
      (b:=.loop .ready none d0 S.env ps as bd N) rfl ⟨L,{ state:=.ready,pending:=none,fn:=fn,tmps:=a.tmps,params:=CA,assign:=ao,body:=bo,defers:=r0.defers },Ld,by simp [Mu.set],.inl hR.inv.below.size,by
       show (w.heap.push _)[w.heap.size]?=_
       simp,rfl,rfl,hR.env.mono (au.le_refl _) yS,hps,hR.sz,hpN',hao,hbo,yS _ _ q12,q13⟩
     refine nN.congr (fun id=>?_) (by simp only;omega)
     rw [aD,bq]
     by_cases e:S.H.next=id
     ·subst e;simp
     ·rw [if_neg e,if_neg (fun e'=>e e'.symm)]
    have hL:(μ.set S.H.next L) S.H.next=some L:=by simp [Mu.set]
    refine wpIn_rangeFunc fun fn _=>?_
    have Dt:=FX fn
    obtain ⟨W,hW⟩:∃W,W=w.alloc (.loop { state:=.ready,pending:=none,fn:=fn,tmps:=a.tmps,params:=CA,assign:=ao,body:=bo,defers:=r0.defers }):=⟨_,rfl⟩
    rw [←hW] at Dt
    refine ⟨w.heap.size,[],W,{ target:=.fn (.func fid) ys,args:=xs++#[.func (.yield w.heap.size) #[] #[]] },W,fid,
     (xs++#[.func (.yield w.heap.size) #[] #[]])++ys,W,?_,?_,fun _ _=>trivial,?_,fun h=>by simp [Ctx.F,Fence.wide] at h,?_⟩
    ·show (Instr.enterLoop fn a.tmps CA ao bo Y.ro).run P w = _
     rw [hro,hW];exact run_enterLoop_inner q3 _ _ _ _ _
    ·have e1 : ∀ v, a.eval (.const v) = v := fun _ => rfl
     simp [resolve,hg,Deferred.ofValue,e1]
    ·have := cE ((xs ++ #[Value.func (Fn.yield w.heap.size) #[] #[]]) ++ ys) W
     simpa [invoke] using this
    ·have rl:aI ι (μ.set S.H.next L) (fs++[.yl S.H.next]++cs) ((xs++#[Value.func (Fn.yield w.heap.size) #[] #[]])++ys).toList:=by
      have q1:=r1.mono (au.le_refl _) yS
      have q2:=r2.mono (au.le_refl _) yS
      have:=(q1.append (.cons (.yl _ L hL) .nil)).append q2
      simpa using this
     refine CallsIn.mono (F:=Y.F) (gR Y ι _ _ _ Dt rl) fun e w' he=>?_
     exact fin (L:=L) (aC:=S.H.next) (sh:=[]) yS hL (hR.ms.mono yS) (.inl ⟨rfl,rfl⟩) e w' he
 ·exact h.elim
end
end Go.AM
end
section
namespace Go.AM
def uo : List Nat → List V → List (Nat × V) → List (Nat × V)
  |p::ps,v::vs,env=>uo ps vs (AS p v env)
  |_,_,env=>env
def qY (id:Nat) (Q:V→aG→Prop) (e:Ex) (S:St):Prop:=match ay id S.H.bl with
  |some (.loop .busy _ d env ps as bd N)=>match e with
    | .normal=>Q (.tf true) ⟨S.H.next,(id,.loop .ready none d env ps as bd N)::bu id S.H.bl⟩
    | .exit i=>Q (.tf false) ⟨S.H.next,(id,.loop .done (some (.exit i)) d env ps as bd N)::bu id S.H.bl⟩
    | .ret=>Q (.tf false) ⟨S.H.next,(id,.loop .done (some .ret) d env ps as bd N)::bu id S.H.bl⟩
  |_=>False
def FY (ar:Nat→Ar) (id:Nat) (vs:List V) (H:aG) (Q:V→aG→Prop):Prop:=match ay id H.bl with
  |some (.loop .ready none d env ps as bd N)=>vs.length=ps.length∧qP (ar N) as ⟨uo ps vs env,H,[]⟩ fun e S=>match e with
    | .normal=>match ay id S.H.bl with
      |some (.loop .ready none d' env' ps' as' Rv N')=>qP (ar N) bd ⟨S.env,⟨S.H.next,(id,.loop .busy none d' env' ps' as' Rv N')::bu id S.H.bl⟩,S.ms⟩ (qY id Q)
      |_=>False
    |_=>False
  |_=>False
section
variable {P:Program} {N:Nat} {Y:Ctx} {ι ι':au} {μ μ':Mu} {H:aG} {w w':World} {out:Option Nat} {base:Nat}
theorem zQ:∀{ps:List Nat} {vs:List V} {args:List Value} {env:List (Nat×V)} {tmps:Array Value},aI ι μ vs args→(∀p∈ps,p<N)→tmps.size=N→ez ι μ env tmps →
    ez ι μ (uo ps vs env) ((ps.zip args).foldl (fun t (p,v)=>t.setIfInBounds p v) tmps)∧((ps.zip args).foldl (fun (t:Array Value) (p,v)=>t.setIfInBounds p v) tmps).size=N
  |[],vs,args,env,tmps,hr,hp,hs,he=>by simp only [uo,List.zip_nil_left,List.foldl_nil];exact ⟨he,hs⟩
  |p::ps,[],args,env,tmps,hr,hp,hs,he=>by rw [hr.of_nil];simp only [uo,List.zip_nil_right,List.foldl_nil];exact ⟨he,hs⟩
  |p::ps,v::vs,args,env,tmps,hr,hp,hs,he=>by
    obtain ⟨x,r,rfl,h1,h2⟩:=hr.bC
    simp only [uo,List.zip_cons_cons,List.foldl_cons]
    refine zQ h2 (fun q hq=>hp q (List.mem_cons_of_mem _ hq)) (by simp [hs]) fun t=>?_
    have hd':p<N:=hp p (List.mem_cons_self ..)
    rw [lS]
    by_cases h:p=t
    · subst h
      rw [if_pos rfl]
      have:(tmps.setIfInBounds p x).getD p undef=x:=by simp [Array.getD,hs,hd']
      rw [this];exact h1
    · rw [if_neg h]
      have:(tmps.setIfInBounds p x).getD t undef=tmps.getD t undef:=by
        simp only [Array.getD_eq_getD_getElem?]
        rw [Array.getElem?_setIfInBounds_ne h]
      rw [this];exact he t
theorem Kf {id:Nat} {vs:List V} {Q:V→aG→Prop} (gT:∀N,mM P N (some id) H.next) (h:FY (fun N=>gn P N (some id) H.next) id vs H Q):around P id vs H Q:=by
  intro Y ι μ w args L hI hr hL
  unfold FY at h
  split at h<;>try (exact h.elim)
  rename_i d env ps as bd N hb
  obtain ⟨hlen,h⟩:=h
  obtain ⟨L',r,Ld,q1,q2,q3,q4,q5,q6,q7,q8,q9,q10,q11,q12,q13⟩:=hI.live _ _ hb
  rw [hL] at q1;cases q1
  have hnc:∀(r:Loop) c e f,Obj.loop r ≠ .cells c e f:=fun r c e f=>by intro h;cases h
  have hsize : args.size = r.params.size := by have h1 := hr.1; have h2 : r.params.toList.length = ps.length := by rw [q7]
                                               simp at h1 h2;omega
  refine ⟨r.fn,_,r.assign,r.body,w,run_yield q3 hsize,roundIn_of_wpIn trivial ?_⟩
  let Y':Ctx:=⟨Y.w0,ι,μ,some L.b,Y.x,[]⟩
  obtain ⟨he1,he2⟩:=zQ (env:=env) hr q9 q8 q6
  have hzip:(r.params.zip args).foldl (fun tmps (x:Tmp×Value)=>tmps.setIfInBounds x.1 x.2) r.tmps=(ps.zip args.toList).foldl (fun (t:Array Value) (p,v)=>t.setIfInBounds p v) r.tmps:=by
    rw [←Array.foldl_toList,Array.toList_zip,q7]
  have hR:eM P N Y' ι μ ⟨uo ps vs env,H,[]⟩ { tmps:=(r.params.zip args).foldl (fun tmps (x:Tmp×Value)=>tmps.setIfInBounds x.1 x.2) r.tmps,defers:=[] } w :=
    ⟨by rw [hzip];exact he1,by rw [hzip];exact he2,hI.down _,rfl⟩
  have hbase:Y'.base H.next:=fun id hid=>hI.nx id hid
  have hout:jZ Y' (some id):=⟨L,hL,rfl⟩
  refine wpIn_mono (gE (gT N) r.assign q10 h Y' ι μ _ w hout hbase hR) fun e a1 w1 hp=>?_
  obtain ⟨Y1,MR,ι1,μ1,S1,e1,qF,hx1,hq1⟩:=hp
  have:=MR.same (by simp [Y'])
  subst this
  cases e1 with
  |exit i=>exact hq1.elim
  |ret=>exact hq1.elim
  |normal =>
    cases hx1
    simp only at hq1
    split at hq1<;>try (exact hq1.elim)
    rename_i d1 env1 ps1 as1 bd1 N1 iC
    obtain ⟨L1,r1,Ld1,p1,p2,p3,p4,p5,p6,p7,p8,p9,p10,p11,p12,p13⟩:=qF.inv.live _ _ iC
    have Xe:μ1 id=some L:=qF.inv.m0 _ _ hL
    rw [Xe] at p1;cases p1
    refine ⟨_,run_beginRound p3 p4,?_⟩
    have hlt1:L.b<w1.heap.size:=(Array.getElem?_eq_some_iff.1 p3).1
    have nN := qF.inv.H7 (o' := .loop { r1 with state := .busy }) (B' := .loop .busy none d1 env1 ps1 as1 bd1 N1) iC Xe p3 (hnc _) (fun _ _ e => by cases e)
      ⟨L,{ r1 with state:=.busy },Ld1,Xe,p2,World.putObj_heap_same hlt1,rfl,p5,p6,p7,p8,p9,p10,p11,p12,p13⟩
    have ny:eM P N Y' ι1 μ1 ⟨S1.env,⟨S1.H.next,(id,.loop .busy none d1 env1 ps1 as1 bd1 N1)::bu id S1.H.bl⟩,S1.ms⟩ a1 (w1.putObj L.b (.loop { r1 with state:=.busy })):=⟨qF.env,qF.sz,nN,qF.ms⟩
    refine wpIn_mono (gE (gT N) r.body q11 hq1 Y' ι1 μ1 _ _ hout hbase ny) fun e a3 w3 hp=>?_
    obtain ⟨Y3,hY3,ι3,μ3,S3,e3,LI,Vs,Rw⟩:=hp
    have:=hY3.same (by simp [Y'])
    subst this
    unfold qY at Rw
    split at Rw<;>try (exact Rw.elim)
    rename_i j3 d3 env3 ps3 as3 bd3 N3 zA
    obtain ⟨L3,r3,Ld3,s1,s2,s3,s4,s5,s6,s7,s8,s9,s10,s11,s12,s13⟩:=LI.inv.live _ _ zA
    have hL3:μ3 id=some L:=LI.inv.m0 _ _ hL
    rw [hL3] at s1;cases s1
    have hlt3:L.b<w3.heap.size:=(Array.getElem?_eq_some_iff.1 s3).1
    have fin:∀(jump:Option Code) (st:pY) (j:Option Ex) (v:V),stR st=(if jump.isNone then .ready else .done)→CU j jump→v = .tf jump.isNone→Q v ⟨S3.H.next,(id,.loop st j d3 env3 ps3 as3 bd3 N3)::bu id S3.H.bl⟩ →
        ∃v w',(Instr.endRound L.b jump).run P w3 = .ok v w'∧MC P Y ι μ Q (.returned v) w':=fun jump st j v h1 h2 h3 h4=>by
      have hI4 := LI.inv.H7 (o' := .loop { r3 with state := if jump.isNone then .ready else .done, pending := jump }) (B' := .loop st j d3 env3 ps3 as3 bd3 N3) zA hL3 s3 (hnc _) (fun _ _ e => by cases e)
        ⟨L,{ r3 with state:=if jump.isNone then .ready else .done,pending:=jump },Ld3,hL3,s2,World.putObj_heap_same hlt3,h1.symm,h2,s6,s7,s8,s9,s10,s11,s12,s13⟩
      obtain ⟨u1,u2,u3⟩:=hI.up hI4
      subst h3
      exact ⟨_,_,run_endRound jump s3,_,ι3,μ3,_,_,rfl,u2,u3,u1,.tf _,h4⟩
    cases e3 with
    |normal=>cases Vs;exact fin none .ready none _ rfl rfl rfl Rw
    |exit i=>cases Vs;exact fin (some (.exit i)) .done (some (.exit i)) _ rfl rfl rfl Rw
    |ret=>cases Vs;exact fin (some .ret) .done (some .ret) _ rfl rfl rfl Rw
end
end Go.AM
end
section
namespace Go.AM
section
variable {c1 : Nat → List V → aG → (V → aG → Prop) → Prop} {c2 : Nat → List V → V → Prop} {c3 : C → St → (Ex → St → Prop) → Prop}
 {c4:Nat→List V→aG→(V→aG→Prop)→Prop} {c5:O→List Nat→C→C→St→(Ex→St→Prop)→Prop} {c6:C→St→(Ex→St→Prop)→Prop} {bl:aq}
theorem jG : ∀ {t : Ty} {bl : aq} {vs : List V}, bt (bp c1 c2 c3 c4 c5 c6) bl t vs = bt dN bl t vs
 | .unit,bl,vs=>by simp only [bt]
 | .prod a b,bl,vs=>by simp only [bt,jG (t:=a),jG (t:=b)]
 | .bool,_,[]=>rfl
 | .str,_,[]=>rfl
 | .int _,_,[]=>rfl
 | .list _,_,[]=>rfl
 | .cu _ _ _,_,[]=>rfl
 | .bool,_,c::cs=>by cases c<;>rfl
 | .str,_,c::cs=>by cases c<;>rfl
 | .int k,_,c::cs=>by cases c<;>rfl
 | .list t,_,c::cs=>by cases c<;>rfl
 | .cu d g t,_,c::cs=>by cases c<;>first|rfl|(simp only [bt,jG (t:=t)])
theorem qZ {t : Ty} {bl : aq} : ∀ {n : Nat} {vs : List V}, lN (bp c1 c2 c3 c4 c5 c6) bl t n vs = lN dN bl t n vs
 |0,[]=>rfl
 |0,_::_=>rfl
 |n+1,vs=>by simp only [lN,jG,qZ (n:=n)]
theorem Bk {t : Ty} {xs : List t.den} : ∀ {n i : Nat}, CK (bp c1 c2 c3 c4 c5 c6) t xs n i = CK dN t xs n i
 |0,_=>rfl
 |n+1,i=>by simp only [CK,Bk (n:=n)];rfl
theorem Du {t:Ty} {g:Bool} {v:V}:keyOf (bp c1 c2 c3 c4 c5 c6) t g v=keyOf dN t g v:=by simp only [keyOf,jG]
theorem Bm {t : Ty} : ∀ {vs : List V}, qG (bp c1 c2 c3 c4 c5 c6) bl t vs = qG dN bl t vs
 |[]=>rfl
 |v::r=>by simp only [qG,jG,Bm (vs:=r)]
theorem mS : ∀ {t : Ty} {x : t.den} {p : List Bool} {vs : List V}, cM (bp c1 c2 c3 c4 c5 c6) bl t x p vs = cM dN bl t x p vs
 |t,x,[],vs=>by cases t<;>simp only [cM,jG]
 | .prod a b,x,false::p,vs=>by simp only [cM,mS (t:=a)]
 | .prod a b,x,true::p,vs=>by simp only [cM,mS (t:=b)]
 | .unit,_,_::_,_=>by simp [cM]
 | .bool,_,_::_,_=>by simp [cM]
 | .str,_,_::_,_=>by simp [cM]
 | .int _,_,_::_,_=>by simp [cM]
 | .list _,_,_::_,_=>by simp [cM]
 | .cu _ _ _,_,_::_,_=>by simp [cM]
theorem rj {t:Ty} {v:V}:elems (bp c1 c2 c3 c4 c5 c6) bl t v=elems dN bl t v:=by cases v<;>rfl
theorem wU:∀{ks:List Kd} {xs ys:List V},aK (bp c1 c2 c3 c4 c5 c6) ks xs ys=aK dN ks xs ys:=by
 intro ks
 induction ks with
 |nil=>intro xs ys;cases xs<;>cases ys<;>rfl
 |cons k ks ih =>
  intro xs ys
  cases xs with
  |nil=>cases k<;>rfl
  |cons x xs =>
   cases ys with
   |nil=>cases k<;>cases x<;>rfl
   |cons y ys=>cases k<;>cases x<;>cases y<;>first|rfl|(simp only [aK,ih];rfl)
theorem wV {mx:Bool} {k:IntKind}:∀{ys:List V} {a:Int},iN (bp c1 c2 c3 c4 c5 c6) mx k a ys=iN dN mx k a ys:=by
 intro ys
 induction ys with
 |nil=>intro a;rfl
 |cons y ys ih=>intro a;cases y<;>first|rfl|(simp only [iN,ih];rfl)
theorem MS {e:gA} {vs:List V} {aC:Nat}:iU (bp c1 c2 c3 c4 c5 c6) e vs bl aC=iU dN e vs bl aC:=by
 cases e<;>first|rfl|(simp only [iU,rj,Du,qZ];done)|(simp only [iU,rj,Du,qZ];rfl)
theorem wW {f g : Nat → Option V} (h : ∀ n, f n = g n) : ∀ ns, AQ f ns = AQ g ns
 |[]=>rfl
 |n::r=>by simp only [AQ,h n,wW h r]
theorem Rx {vs:List V} {j:Int}:L5 (bp c1 c2 c3 c4 c5 c6) vs j=L5 dN vs j:=rfl
theorem Bn {cs : List V} : ∀ {l : List (Nat × Nat × Int)} {o : Nat}, CL (bp c1 c2 c3 c4 c5 c6) cs l o = CL dN cs l o
 |[],o=>rfl
 |(eL,len,j)::r,o=>by simp only [CL,wW (fun n=>Bn (l:=r) (o:=o+n * eL)),Rx]
theorem MT {i:I} {env:List (Nat×V)} {aC:Nat}:bY (bp c1 c2 c3 c4 c5 c6) i env bl aC=bY dN i env bl aC:=by
 cases i<;>first|rfl|(simp only [bY,Bm,mS,rj,wU,wV,MS,qZ,Bk,Bn];done)|(simp only [bY,Bm,mS,rj,wU,wV,MS,qZ,Bk,Bn];rfl)
theorem MU {i:I} {env:List (Nat×V)} {aC:Nat}:yM (bp c1 c2 c3 c4 c5 c6) i env bl aC=yM dN i env bl aC:=by
 cases i<;>first|rfl|(simp only [yM,mS,jG];done)|(simp only [yM,mS,jG];rfl)
theorem Xs {id:Nat}:clU (bp c1 c2 c3 c4 c5 c6) id bl=clU dN id bl:=by
 unfold clU
 split
 ·simp only [mS];rfl
 ·rfl
end
theorem MV {c1 : Nat → List V → aG → (V → aG → Prop) → Prop} {c2 : Nat → List V → V → Prop} {c3 : C → St → (Ex → St → Prop) → Prop}
  {c4:Nat→List V→aG→(V→aG→Prop)→Prop} {c5:O→List Nat→C→C→St→(Ex→St→Prop)→Prop} {c6:C→St→(Ex→St→Prop)→Prop}:∀{ids:List Nat} {bl:aq},LG (bp c1 c2 c3 c4 c5 c6) ids bl=LG dN ids bl
 |[],_=>rfl
 |id::r,bl=>by simp only [LG,Xs,MV (ids:=r)]
def abO (ar:Ar) (x:O) (env:List (Nat×V)) (bl:aq) (aC:Nat):Out:=some ([],x.ev env,[])
def Ry (ar:Ar) (c:O) (a:O) (b:O) (env:List (Nat×V)) (bl:aq) (aC:Nat):Out :=
  match c.ev env with
  | .tf true=>some ([],a.ev env,[])
  | .tf false=>some ([],b.ev env,[])
  | .bool c=>match JX (a.ev env),JX (b.ev env) with
   |some x,some y=>some ([],.bool (ar.Ft c x y),[])
   |_,_=>none
  |_=>none
def MW (ar:Ar) (z:List V) (env:List (Nat×V)) (bl:aq) (aC:Nat):Out:=some ([],.ptr aC 0,[(aC,some (.cells z false))])
def Xt (ar:Ar) (x:O) (env:List (Nat×V)) (bl:aq) (aC:Nat):Out:=match (x.ev env).cells? with
  |some cs=>some ([],.ptr aC 0,[(aC,some (.cells cs false))])
  |none=>none
def MX (ar:Ar) (z:List V) (parts:List (Nat×Nat×O)) (env:List (Nat×V)) (bl:aq) (aC:Nat):Out:=match tU parts env z with
  |some cs=>some ([],.agg cs,[])
  |none=>none
def Kg (ar:Ar) (t:Ty) (xs:List O) (env:List (Nat×V)) (bl:aq) (aC:Nat):Out:=match qG ar bl t (xs.map (·.ev env)) with
  |some (ys,u)=>some ([],.sl aC t 0 xs.length,u++[(aC,some (.arr t ys false))])
  |none=>none
def Rz (ar:Ar) (agg:Bool) (k:Nat) (x:O) (env:List (Nat×V)) (bl:aq) (aC:Nat):Out :=
  match x.ev env with
  | .ptr id off=>match ay id bl with
   |some (.cells cs _)=>match cut off k cs with
    |some vs=>match cn agg vs with
     |some v=>some ([],v,[])
     |none=>none
    |none=>none
   |_=>none
  | .fu cs=>match cut 0 k cs with
   |some vs=>match cn agg vs with
    |some v=>some ([],v,[])
    |none=>none
   |none=>none
  | .ep id t i p=>match ay id bl with
   |some (.arr t' xs _)=>if t=t' then
     match pn t' (ar.get t'.zero xs i) p with
     |some ⟨t2,y⟩=>match cz t2 y with
      |vs=>if vs.length=k then (match cn agg vs with
       |some v=>some ([ar.LC i (ar.len xs)],v,[])
       |none=>none) else none
     |none=>none
    else none
   |some (.mw t' xs i' p' v)=>if t=t'∧p=p'∧k=1 then (match agg with
    |false=>some ([ar.eq (Int.ofNat i) (Int.ofNat i')],v,[])
    |true=>none) else none
   |_=>none
  | .ip t y=>match cz t y with
   |vs=>if vs.length=k then (match cn agg vs with
    |some v=>some ([],v,[])
    |none=>none) else none
  | .pa id t m=>match ay id bl with
   |some (.arr t' xs _)=>if t=t' then (match CK ar t' xs m 0 with
    |vs=>if vs.length=k then (match cn agg vs with
     |some v=>some ([],v,[])
     |none=>none) else none) else none
   |_=>none
  | .sp id o l=>match ay id bl with
   |some (.cells cs _)=>match k with
    |1=>match CL ar cs l o with
     |some v=>match cn agg [v] with
      |some v=>some ([],v,[])
      |none=>none
     |none=>none
    |_=>none
   |_=>none
  |_=>none
def MY (ar:Ar) (k:Nat) (a:O) (x:O) (env:List (Nat×V)) (bl:aq) (aC:Nat):Out :=
  match (x.ev env).cells? with
  |none=>none
  |some vs=>if vs.length=k then
   (match a.ev env with
   | .ptr id off=>match ay id bl with
    |some (.cells cs false)=>match qH off vs cs with
     |some cs'=>some ([],.any,[(id,some (.cells cs' false))])
     |none=>none
    |_=>none
   | .ep id t i p=>match ay id bl with
    |some (.arr t' xs false)=>if t=t' then
      match cM ar bl t' (ar.get t'.zero xs i) p vs with
      |some (y,u)=>match tV id u with
       |true=>some ([ar.LC i (ar.len xs)],.any,u++[(id,some (.arr t' (ar.set xs i y) false))])
       |false=>none
      |none=>none
     else none
    |_=>none
   | .pa id t m=>match ay id bl with
    |some (.arr t' xs false)=>if t=t' then
      match lN ar bl t' m vs with
      |some (ys,u)=>match tV id u with
       |true=>some ([],.any,u++[(id,some (.arr t' ys false))])
       |false=>none
      |none=>none
     else none
    |_=>none
   |_=>none) else none
def Xu (ar:Ar) (op:yJ) (x:O) (y:O) (env:List (Nat×V)) (bl:aq) (aC:Nat):Out :=
  match x.ev env,y.ev env with
  | .int k a,.int k' b=>match op with
   | .shl=>zm ar .shl k a b
   | .shr=>zm ar .shr k a b
   |_=>if k=k' then Fv ar op k a b else none
  | .str a,.str b=>Fw ar op a b
  |_,_=>none
def Xv (ar:Ar) (neg:Bool) (x:O) (y:O) (env:List (Nat×V)) (bl:aq) (aC:Nat):Out:=match JX (x.ev env),JX (y.ev env) with
  |some a,some b=>some ([],.bool (match neg with|true=>ar.sE (ar.beq a b)|false=>ar.beq a b),[])
  |_,_=>none
def Xw (ar:Ar) (neg:Bool) (ks:List Kd) (x:O) (y:O) (env:List (Nat×V)) (bl:aq) (aC:Nat):Out :=
  match x.ev env,y.ev env with
  | .agg xs,.agg ys=>match aK ar ks xs ys with
   |some c=>some ([],.bool (match neg with|true=>ar.sE c|false=>c),[])
   |none=>none
  |_,_=>none
def Xx (ar:Ar) (x:O) (env:List (Nat×V)) (bl:aq) (aC:Nat):Out:=match x.ev env with
  | .int k a=>match k.signed with
   |true=>match ar.sub 0 a with|z=>some ([ar.de k z],.int k z,[])
   |false=>some ([],.int k (ar.wr k (ar.sub 0 a)),[])
  |_=>none
def Xy (ar:Ar) (x:O) (env:List (Nat×V)) (bl:aq) (aC:Nat):Out:=match x.ev env with
  | .tf b=>some ([],.tf (!b),[])
  | .bool b=>some ([],.bool (ar.sE b),[])
  |_=>none
def RA (ar:Ar) (k:IntKind) (x:O) (env:List (Nat×V)) (bl:aq) (aC:Nat):Out:=match x.ev env with
  | .int _ n=>some ([ar.de k n],.int k n,[])
  |_=>none
def Xz (ar:Ar) (off:Nat) (path:List Bool) (x:O) (env:List (Nat×V)) (bl:aq) (aC:Nat):Out:=match x.ev env with
  | .ptr id o=>some ([],.ptr id (o+off),[])
  | .fu cs=>if off≤cs.length then some ([],.fu (cs.drop off),[]) else none
  | .ep id t i p=>match t.qD p with
   |some t1=>if t1.bE path=off then (match t1.qD path with
    |some _=>some ([],.ep id t i (p++path),[])
    |none=>none) else none
   |none=>none
  | .ip t y=>if t.bE path=off then (match pn t y path with
   |some ⟨t2,z⟩=>some ([],.ip t2 z,[])
   |none=>none) else none
  | .pa id t m=>if (off / t.sz) * t.sz=off∧off / t.sz<m then some ([],.ep id t (off / t.sz) [],[]) else none
  | .kV t xs=>if (off / t.sz) * t.sz=off then some ([ar.LC (off / t.sz) (ar.len xs)],.ip t (ar.get t.zero xs (off / t.sz)),[]) else none
  | .sp id o l=>some ([],.sp id (o+off) l,[])
  |_=>none
def MZ (ar:Ar) (agg:Bool) (off:Nat) (k:Nat) (x:O) (env:List (Nat×V)) (bl:aq) (aC:Nat):Out:=match x.ev env with
  | .agg cs=>match cut off k cs with
   |some vs=>match cn agg vs with
    |some v=>some ([],v,[])
    |none=>none
   |none=>none
  |_=>none
def XA (ar:Ar) (eL:Nat) (x:O) (i:O) (env:List (Nat×V)) (bl:aq) (aC:Nat):Out :=
  match i.ev env with
  | .int _ n=>match x.ev env with
   | .sl id t lo m=>if t.sz=eL then some ([ar.bZ n (Int.ofNat m)],.ep id t (ar.Fu lo (ar.sF n)) [],[]) else none
   | .eO t xs=>if t.sz=eL then some ([ar.bZ n (Int.ofNat (ar.len xs))],.ip t (ar.get t.zero xs (ar.sF n)),[]) else none
   |_=>none
  |_=>none
def RB (ar:Ar) (len:Nat) (eL:Nat) (x:O) (i:O) (env:List (Nat×V)) (bl:aq) (aC:Nat):Out :=
  match x.ev env with
  | .pa id t m=>match i.ev env with
   | .int _ j=>if t.sz=eL∧m=len then some ([ar.bZ j (Int.ofNat len)],.ep id t (ar.sF j) [],[]) else none
   |_=>none
  | .kV t xs=>match i.ev env with
   | .int _ j=>if t.sz=eL then some ([ar.bZ j (Int.ofNat len),ar.bZ j (Int.ofNat (ar.len xs))],.ip t (ar.get t.zero xs (ar.sF j)),[]) else none
   |_=>none
  | .ptr id o=>match i.ev env with
   | .int _ j=>some ([ar.bZ j (Int.ofNat len)],.sp id o [(eL,len,j)],[])
   |_=>none
  | .sp id o l=>match i.ev env with
   | .int _ j=>some ([ar.bZ j (Int.ofNat len)],.sp id o ((eL,len,j)::l),[])
   |_=>none
  | .fu cs=>match i.ev env with
   | .int _ (.ofNat n)=>if n<len then (if n * eL≤cs.length then some ([],.fu (cs.drop (n * eL)),[]) else none) else none
   |_=>none
  |_=>none
def XB (ar:Ar) (k:Nat) (x:O) (env:List (Nat×V)) (bl:aq) (aC:Nat):Out:=match x.ev env with
  | .cK vs=>match vs[k]? with
   |some v=>some ([],v,[])
   |none=>none
  |_=>none
def XC (ar:Ar) (x:O) (env:List (Nat×V)) (bl:aq) (aC:Nat):Out:=match x.ev env with
  | .sl _ _ _ n=>some ([],.int .i64 (Int.ofNat n),[])
  | .eO _ xs=>some ([],.int .i64 (Int.ofNat (ar.len xs)),[])
  | .bX=>some ([],.int .i64 0,[])
  |_=>none
def RC (ar:Ar) (x:O) (env:List (Nat×V)) (bl:aq) (aC:Nat):Out:=match x.ev env with
  | .str s=>some ([],.int .i64 (ar.JW s),[])
  |_=>none
def RD (ar:Ar) (n:Nat) (env:List (Nat×V)) (bl:aq) (aC:Nat):Out:=some ([],.int .i64 (Int.ofNat n),[])
def Kh (ar:Ar) (eL:Nat) (x:O) (y:O) (env:List (Nat×V)) (bl:aq) (aC:Nat):Out :=
  match x.ev env with
  | .bX=>match Fx (y.ev env) with
   |some t=>if t.sz=eL then
     (match elems ar bl t (y.ev env) with
     |some ys=>match ar.len ys with
      |m=>some ([ar.LC m bI],.sl aC t 0 m,[(aC,some (.arr t ys false))])
     |none=>none) else none
   |none=>none
  | .sl id t lo n=>if t.sz=eL then
   (match ay id bl with
   |some (.arr t' xs false)=>if t'=t then
    (match jR t' t xs with
    |some xs'=>match elems ar bl t (y.ev env) with
     |some ys=>match ar.Fu n (ar.len ys) with
      |m=>some ([ar.LC m bI],.sl aC t 0 m,[(id,none),(aC,some (.arr t (ar.app (ar.sub' xs' lo n) ys) false))])
     |none=>none
    |none=>none) else none
   |_=>none) else none
  |_=>none
def FZ (ar:Ar) (t:Ty) (n:O) (env:List (Nat×V)) (bl:aq) (aC:Nat):Out:=match n.ev env with
  | .int _ z=>match ar.sF z with
   |m=>some ([ar.bZ z (Int.ofNat bI)],.sl aC t 0 m,[(aC,some (.arr t (ar.rep m t.zero) false))])
  |_=>none
def RE (ar:Ar) (f:Nat) (a:List O) (b:List O) (env:List (Nat×V)) (bl:aq) (aC:Nat):Out:=some ([],.fn f (a.map (·.ev env)) (b.map (·.ev env)),[])
def M0 (ar:Ar) (eL:Nat) (x:O) (lo:Option O) (hi:Option O) (mx:Option O) (env:List (Nat×V)) (bl:aq) (aC:Nat):Out :=
  match mx with
  |some m=>match hi with
   |some h=>match pZ (m.ev env),pZ (h.ev env),cA env 0 lo with
    |some a,some b,some c=>match x.ev env with
     | .sl _ _ _ _=>some ([ar.eq a 0,ar.eq b 0,ar.eq c 0],.bX,[])
     | .eO _ _=>some ([ar.eq a 0,ar.eq b 0,ar.eq c 0],.bX,[])
     | .bX=>some ([ar.eq a 0,ar.eq b 0,ar.eq c 0],.bX,[])
     |_=>none
    |_,_,_=>none
   |none=>none
  |none =>
   match x.ev env with
   | .sl id t l n=>if t.sz=eL then
    (match cA env 0 lo,cA env (Int.ofNat n) hi with
    |some a,some b=>some ([ar.le 0 a,ar.le a b,ar.le b (Int.ofNat n)],.sl id t (ar.Fu l (ar.sF a)) (ar.LZ (ar.sF b) (ar.sF a)),[])
    |_,_=>none) else none
   | .eO t xs=>if t.sz=eL then
    (match cA env 0 lo,cA env (Int.ofNat (ar.len xs)) hi with
    |some a,some b=>some ([ar.le 0 a,ar.le a b,ar.le b (Int.ofNat (ar.len xs))],.eO t (ar.sub' xs (ar.sF a) (ar.LZ (ar.sF b) (ar.sF a))),[])
    |_,_=>none) else none
   | .bX=>(match cA env 0 lo,cA env 0 hi with
    |some a,some b=>some ([ar.eq a 0,ar.eq b 0],.bX,[])
    |_,_=>none)
   |_=>none
def Ki (ar:Ar) (mx:Bool) (x:O) (ys:List O) (env:List (Nat×V)) (bl:aq) (aC:Nat):Out:=match x.ev env with
  | .int k a=>match iN ar mx k a (ys.map (·.ev env)) with
   |some z=>some ([],.int k z,[])
   |none=>none
  |_=>none
def Vt (ar:Ar) (i:I) (env:List (Nat×V)) (bl:aq) (aC:Nat):Out:=match i with
 | .mv x=>abO ar x env bl aC
 | .pick c a b=>Ry ar c a b env bl aC
 | .alloc z=>MW ar z env bl aC
 | .box x=>Xt ar x env bl aC
 | .build z parts=>MX ar z parts env bl aC
 | .dS t xs=>Kg ar t xs env bl aC
 | .load agg k x=>Rz ar agg k x env bl aC
 | .store k a x=>MY ar k a x env bl aC
 | .bin op x y=>Xu ar op x y env bl aC
 | .QV neg x y=>Xv ar neg x y env bl aC
 | .eqs neg ks x y=>Xw ar neg ks x y env bl aC
 | .neg x=>Xx ar x env bl aC
 | .not x=>Xy ar x env bl aC
 | .conv k x=>RA ar k x env bl aC
 | .mD off path x=>Xz ar off path x env bl aC
 | .field agg off k x=>MZ ar agg off k x env bl aC
 | .idx eL x i=>XA ar eL x i env bl aC
 | .yK len eL x i=>RB ar len eL x i env bl aC
 | .ext k x=>XB ar k x env bl aC
 | .len x=>XC ar x env bl aC
 | .lens x=>RC ar x env bl aC
 | .yL n=>RD ar n env bl aC
 | .append eL x y=>Kh ar eL x y env bl aC
 | .iM t n=>FZ ar t n env bl aC
 | .AN f a b=>RE ar f a b env bl aC
 | .slice eL x lo hi mx=>M0 ar eL x lo hi mx env bl aC
 | .lC mx x ys=>Ki ar mx x ys env bl aC
 | .ex e xs=>iU ar e (xs.map (·.ev env)) bl aC
theorem M1 {ar:Ar} {i:I} {env:List (Nat×V)} {bl:aq} {aC:Nat}:Vt ar i env bl aC=bY ar i env bl aC:=by cases i<;>rfl
structure Rn where
 call:Nat→List V→aG→Option (V×aG)
 round:Nat→List V→aG→Option (V×aG)
 gO:Nat→List V→Option V
 loop:Nat→Option Nat→C→St→Option (Ex×St)
section
variable {P:Program} {N:Nat} {Y:Ctx} {ι ι':au} {μ μ':Mu} {H:aG} {w w':World} {out:Option Nat} {base:Nat}
structure RnOk (P:Program) (rn:Rn):Prop where
 call:∀{f vs H v H'},rn.call f vs H=some (v,H')→gQ P f vs H fun v2 H2=>v2=v∧H2=H'
 round:∀{id vs H v H'},rn.round id vs H=some (v,H')→around P id vs H fun v2 H2=>v2=v∧H2=H'
 gO:∀{f vs v},rn.gO f vs=some v→gO P f vs v
 loop:∀{N out base c S e S' K},rn.loop N out c S=some (e,S')→K e S'→∃n,unr (gn P N out base) c n S K
 mixed:P.follows .mixedOrders=true
theorem Bo {ar : Ar} {d : Option Nat} {i : I} {S : St} {K : St → Prop} {ob : List Bool} {v : V} {u : eF} (aj : bY ar i S.env S.H.bl S.H.next = some (ob, v, u)) (cV : uJ ob)
  (hk:K ⟨put d v S.env,⟨LH i.lays S.H.next,bx u S.H.bl⟩,S.ms⟩):wpOp ar d i S K:=by
 refine .inl ?_
 unfold qI
 rw [aj]
 cases ob with
 |nil=>exact hk
 |cons b r=>exact ⟨cV,hk⟩
theorem XD {ar : Ar} {d : Option Nat} {i : I} {S : St} {K : St → Prop} {ob : List Bool} {v : V} {u : eF} (aj : yM ar i S.env S.H.bl S.H.next = some (ob, v, u)) (cV : uJ ob)
  (hk:K ⟨put d v S.env,⟨LH i.lays S.H.next,bx u S.H.bl⟩,S.ms⟩):wpOp ar d i S K:=by
 refine .inr (.inl ?_)
 unfold qI
 rw [aj]
 cases ob with
 |nil=>exact hk
 |cons b r=>exact ⟨cV,hk⟩
theorem XE {ar : Ar} {d : Option Nat} {i : I} {S : St} {K : St → Prop} {ob : List Bool} {v : V} {u u' : eF} {ids : List Nat} (hu : LG ar ids S.H.bl = some u') (aj : bY ar i S.env (bx u' S.H.bl) S.H.next = some (ob, v, u)) (cV : uJ ob)
  (hk:K ⟨put d v S.env,⟨LH i.lays S.H.next,bx u (bx u' S.H.bl)⟩,S.ms⟩):wpOp ar d i S K:=by
 refine .inr (.inr ⟨ids,u',hu,?_⟩)
 unfold qI
 rw [aj]
 cases ob with
 |nil=>exact hk
 |cons b r=>exact ⟨cV,hk⟩
end
end Go.AM
end
section
namespace Go.AM
open Go.RowKit
def j8 (P : Program) (g : TypeId → Ty → Bool) : Nat → List Field → Ty → Bool
 |_,[],.unit=>true
 |off,[f],ty=>Nat.beq f.offset off&&Nat.beq (P.cellsOf f.type) ty.sz&&g f.type ty
 |off,f::f2::r,.prod a b=>Nat.beq f.offset off&&Nat.beq (P.cellsOf f.type) a.sz&&g f.type a&&j8 P g (off+a.sz) (f2::r) b
 |_,_,_=>false
def zR (P:Program) (g:TypeId→Ty→Bool) (fs:List Field) (ty:Ty):Bool:=match fs with
 |[f]=>match ty with
  | .prod a .unit=>j8 P g 0 [f] a
  |_=>false
 |fs=>j8 P g 0 fs ty
def zS (P : Program) (g : TypeId → Ty → Bool) : Nat → TypeId → Ty → Bool
 |0,_,.unit=>true
 |1,e,ty=>Nat.beq (P.cellsOf e) ty.sz&&g e ty
 |n+2,e,.prod a b=>Nat.beq (P.cellsOf e) a.sz&&g e a&&zS P g (n+1) e b
 |_,_,_=>false
def fP (P : Program) : Nat → TypeId → Ty → Bool
 |0,_,_=>false
 |n+1,t,ty=>match P.underlying t with
  |some .bool=>match ty with | .bool=>true|_=>false
  |some (.int k)=>match ty with | .int k'=>decide (k=k')|_=>false
  |some .string=>match ty with | .str=>true|_=>false
  |some (.slice e)=>match ty with | .list te=>Nat.beq (P.cellsOf e) te.sz&&Nat.blt 0 te.sz&&fP P n e te|_=>false
  |some (.struct fs)=>Nat.beq (P.cellsOf t) ty.sz&&zR P (fP P n) fs.toList ty
  |some (.array m e)=>Nat.beq (P.cellsOf t) ty.sz&&zS P (fP P n) m e ty
  |_=>false
def Wf : (t : Ty) → t.den → Prop
 | .unit,_=>True
 | .bool,_=>True
 | .str,s=>s.size≤maxLen
 | .int k,n=>k.min≤n∧n≤k.max
 | .list t,xs=>xs.length≤maxLen∧∀x∈xs,Wf t x
 | .prod a b,x=>Wf a x.1∧Wf b x.2
 | .cu _ _ a,x=>Wf a x
def jv (w:World):au:=fun b o=>w.cell? ⟨b,o,none⟩
section
variable {H:Type} {enc:TypeId×Value→H} {P:Program} {w:World} {sp:Nat→Bool} {held:Bool}
theorem Bp {b o:Nat} {a:Addr} {n:Nat} {cs:List Value} (ha:a=⟨b,o,none⟩∨0<n) (hb:a.block=b) (ho:a.off=o) (h:w.cells? 0 a n=some cs):cs.length=n∧Reads (jv w) b o cs∧(0<n→a.spot=none):=by
 unfold World.cells? at h
 rw [if_pos (Nat.zero_le _)] at h
 have key:∀(m:Nat) (xs:List Nat) (cs:List Value),xs.mapM (fun i=>w.cell? (a.add i))=some cs→cs.length=xs.length∧∀(j i:Nat),xs[j]?=some i→w.cell? (a.add i)=cs[j]?:=by
  intro m xs
  induction xs with
  |nil=>intro cs h;simp at h;subst h;exact ⟨rfl,fun j i hj=>by simp at hj⟩
  |cons x xs ih =>
   intro cs h
   rw [List.mapM_cons] at h
   cases hx:w.cell? (a.add x) with
   |none=>simp [hx] at h
   |some v =>
    cases hr:xs.mapM (fun i=>w.cell? (a.add i)) with
    |none=>simp [hx,hr] at h
    |some vs =>
     simp [hx,hr] at h
     subst h
     obtain ⟨h1,h2⟩:=ih vs hr
     refine ⟨by simp [h1],fun j i hj=>?_⟩
     cases j with
     |zero=>simp at hj;subst hj;simpa using hx
     |succ j=>simpa using h2 j i (by simpa using hj)
 obtain ⟨h1,h2⟩:=key 0 _ _ h
 have hlen:cs.length=n:=by simpa using h1
 have M3:0<n→a.spot=none:=fun hn=>by
  have:=h2 0 0 (by simp [hn])
  simp only [Addr.add,if_true] at this
  have hc:∃v,w.cell? a=some v:=⟨cs[0]'(by omega),by rw [this];simp⟩
  obtain ⟨v,hv⟩:=hc
  unfold World.cell? at hv
  cases hs:a.spot with
  |none=>rfl
  |some s=>rw [hs] at hv;split at hv<;>simp at hv
 refine ⟨hlen,fun j v hv=>?_,M3⟩
 have hj:j<cs.length:=(List.getElem?_eq_some_iff.1 hv).1
 have:=h2 j j (by rw [List.getElem?_range (by omega)])
 rw [hv] at this
 unfold jv
 have e:a.add j=⟨b,o+j,none⟩:=by
  have hs:=M3 (by omega)
  unfold Addr.add
  subst hb;subst ho
  split
  ·rename_i h0;subst h0;cases a;simp_all
  ·rfl
 rw [e] at this
 exact this
theorem Ip {α : Type} {D : α → List Value → Prop} : ∀ (n : Nat) (f : Nat → α) (g : Nat → List Value), (∀ i, i < n → D (f i) (g i)) → bw D ((List.range n).map f) ((List.range n).flatMap g)
 |0,_,_,_=>rfl
 |n+1,f,g,h=>by
  rw [List.range_succ,List.map_append,List.flatMap_append]
  exact (Ip n f g fun i hi=>h i (by omega)).append ⟨g n,[],by simp,h n (by omega),rfl⟩
theorem RG {k:IntKind} {n:Int} (h:(Lit.int k n).wf=true):k.min≤n∧n≤k.max:=by
 simpa [Lit.wf] using h
theorem qh {n : Nat} (ih : ∀ {t : TypeId} {ty : Ty}, fP P n t ty = true → ∀ {fuel : Nat} {cs : List Value} {x : DataW H × List MemPlace}, DataW.trod enc P w 0 sp held fuel t cs = some x → ∃ y : ty.den, ag (jv w) ty y cs ∧ Wf ty y)
  {fuel:Nat} {cs:List Value}:∀{fs:List Field} {off:Nat} {ty:Ty},j8 P (fP P n) off fs ty=true→cs.length=off+ty.sz →
   (∀f∈fs,∃x,DataW.trod enc P w 0 sp held fuel f.type ((cs.drop f.offset).take (P.cellsOf f.type))=some x)→∃y:ty.den,ag (jv w) ty y (cs.drop off)∧Wf ty y
 |[],off,ty,h,hl,_=>by
  cases ty<;>simp [j8] at h
  exact ⟨(),by simp [ag];simp [Ty.sz] at hl;omega,trivial⟩
 |[f],off,ty,h,hl,hf=>by
  have h':(Nat.beq f.offset off&&Nat.beq (P.cellsOf f.type) ty.sz&&fP P n f.type ty)=true:=by
   cases ty<;>simpa [j8] using h
  simp only [Bool.and_eq_true] at h'
  obtain ⟨⟨h1,h2⟩,h3⟩:=h'
  have e1:=Nat.eq_of_beq_eq_true h1
  have e2:=Nat.eq_of_beq_eq_true h2
  obtain ⟨x,hx⟩:=hf f (List.mem_singleton_self _)
  rw [e1,e2,List.take_of_length_le (by simp;omega)] at hx
  exact ih h3 hx
 |f::f2::r,off,ty,h,hl,hf=>by
  cases ty<;>simp only [j8,Bool.false_eq_true] at h
  rename_i a b
  simp only [Bool.and_eq_true] at h
  obtain ⟨⟨⟨h1,h2⟩,h3⟩,h4⟩:=h
  have e1:=Nat.eq_of_beq_eq_true h1
  have e2:=Nat.eq_of_beq_eq_true h2
  obtain ⟨x,hx⟩:=hf f (List.mem_cons_self ..)
  rw [e1,e2] at hx
  obtain ⟨y,hy,wy⟩:=ih h3 hx
  simp only [Ty.sz] at hl
  obtain ⟨z,hz,wz⟩:=qh ih h4 (by omega) (fun g hg=>hf g (List.mem_cons_of_mem _ hg))
  refine ⟨(y,z),⟨_,_,?_,hy,hz⟩,wy,wz⟩
  rw [←List.drop_drop,List.take_append_drop]
theorem Iq {n : Nat} (ih : ∀ {t : TypeId} {ty : Ty}, fP P n t ty = true → ∀ {fuel : Nat} {cs : List Value} {x : DataW H × List MemPlace}, DataW.trod enc P w 0 sp held fuel t cs = some x → ∃ y : ty.den, ag (jv w) ty y cs ∧ Wf ty y)
  {fuel:Nat} {cs:List Value} {e:TypeId}:∀{m i:Nat} {ty:Ty},zS P (fP P n) m e ty=true→cs.length=i * P.cellsOf e+ty.sz →
   (∀j,i≤j→j<i+m→∃x,DataW.trod enc P w 0 sp held fuel e ((cs.drop (j * P.cellsOf e)).take (P.cellsOf e))=some x)→∃y:ty.den,ag (jv w) ty y (cs.drop (i * P.cellsOf e))∧Wf ty y
 |0,i,ty,h,hl,_=>by
  cases ty<;>simp [zS] at h
  exact ⟨(),by simp [ag];simp [Ty.sz] at hl;omega,trivial⟩
 |1,i,ty,h,hl,hf=>by
  have h':(Nat.beq (P.cellsOf e) ty.sz&&fP P n e ty)=true:=by
   cases ty<;>simpa [zS] using h
  simp only [Bool.and_eq_true] at h'
  have e2:=Nat.eq_of_beq_eq_true h'.1
  obtain ⟨x,hx⟩:=hf i (Nat.le_refl _) (by omega)
  rw [List.take_of_length_le (by rw [List.length_drop];omega)] at hx
  exact ih h'.2 hx
 |m+2,i,ty,h,hl,hf=>by
  cases ty<;>simp only [zS,Bool.false_eq_true] at h
  rename_i a b
  simp only [Bool.and_eq_true] at h
  obtain ⟨⟨h1,h3⟩,h4⟩:=h
  have e2:=Nat.eq_of_beq_eq_true h1
  obtain ⟨x,hx⟩:=hf i (Nat.le_refl _) (by omega)
  obtain ⟨y,hy,wy⟩:=ih h3 hx
  simp only [Ty.sz] at hl
  obtain ⟨z,hz,wz⟩:=Iq ih h4 (i:=i+1) (by rw [Nat.add_mul];omega) (fun j h1 h2=>hf j (by omega) (by omega))
  refine ⟨(y,z),⟨_,_,?_,hy,hz⟩,wy,wz⟩
  rw [show (i+1) * P.cellsOf e=i * P.cellsOf e+P.cellsOf e by rw [Nat.add_mul];omega,←List.drop_drop,List.take_append_drop]
theorem M4 {n:Nat}:∀{t:TypeId} {ty:Ty},fP P n t ty=true→∀{fuel:Nat} {cs:List Value} {x:DataW H×List MemPlace},DataW.trod enc P w 0 sp held fuel t cs=some x→∃y:ty.den,ag (jv w) ty y cs∧Wf ty y:=by
 induction n with
 |zero=>intro t ty h;cases h
 |succ n ih =>
  intro t ty h fuel cs x hx
  have hx0:=hx
  unfold fP at h
  split at h
  ·rename_i hu
   cases ty<;>simp at h
   cases fuel with
   |zero=>simp [DataW.trod] at hx
   |succ fuel =>
    rcases cs with _|⟨c,_|⟨c2,r⟩⟩
    ·simp [DataW.trod,hu] at hx
    ·cases c <;> simp [DataW.trod, hu] at hx
     exact ⟨_,rfl,trivial⟩
    ·simp [DataW.trod,hu] at hx
  ·rename_i k hu
   cases ty<;>simp at h
   subst h
   cases fuel with
   |zero=>simp [DataW.trod] at hx
   |succ fuel =>
    rcases cs with _|⟨c,_|⟨c2,r⟩⟩
    ·simp [DataW.trod,hu] at hx
    ·cases c <;> simp [DataW.trod, hu] at hx
     obtain ⟨⟨rfl,h2⟩,_⟩:=hx
     exact ⟨_,rfl,RG h2⟩
    ·simp [DataW.trod,hu] at hx
  ·rename_i hu
   cases ty<;>simp at h
   cases fuel with
   |zero=>simp [DataW.trod] at hx
   |succ fuel =>
    rcases cs with _|⟨c,_|⟨c2,r⟩⟩
    ·simp [DataW.trod,hu] at hx
    ·cases c <;> simp [DataW.trod, hu] at hx
     exact ⟨_,rfl,hx.1⟩
    ·simp [DataW.trod,hu] at hx
  ·rename_i e hu
   cases ty<;>simp only [Bool.false_eq_true] at h
   rename_i te
   simp only [Bool.and_eq_true] at h
   obtain ⟨⟨h1,h2⟩,h3⟩:=h
   have e1:=Nat.eq_of_beq_eq_true h1
   have hpos:0<te.sz:=by simpa using h2
   rcases DataW.trod_slice hu hx with ⟨rfl,rfl⟩|⟨a,len,cap,elems,rest,m,_,rfl,rfl,_,hlc,hm,hel,hE,_,_⟩
   ·exact ⟨[],⟨none,0,by simp,by simp,.inl rfl⟩,by simp,by simp⟩
   ·have each:∀i,i<len→∃(y:te.den) (us:List Value),ag (jv w) te y us∧Wf te y∧us.length=te.sz∧Reads (jv w) a.block (a.off+i * te.sz) us∧(i=0→a.spot=none):=fun i hi=>by
     have:=hE i hi
     have hlt:i<elems.length:=by omega
     rw [List.getElem?_eq_getElem hlt,e1] at this
     cases hc:w.cells? 0 (a.add (i * te.sz)) te.sz with
     |none=>rw [hc] at this;simp at this
     |some us =>
      rw [hc,Option.bind_some] at this
      obtain ⟨y,hy,wy⟩:=ih h3 this
      have hb:(a.add (i * te.sz)).block=a.block:=by unfold Addr.add;split<;>rfl
      have ho:(a.add (i * te.sz)).off=a.off+i * te.sz:=by unfold Addr.add;split<;>simp_all
      obtain ⟨q1,q2,q3⟩:=Bp (.inr hpos) hb ho hc
      refine ⟨y,us,hy,wy,q1,q2,fun h0=>?_⟩
      subst h0
      have:=q3 hpos
      simpa [Addr.add] using this
    by_cases hl0:len=0
    ·subst hl0
     exact ⟨[],⟨some a,cap,rfl,by simp,.inl rfl⟩,by simp,by simp⟩
    ·obtain ⟨f,hf⟩:∃f:Nat→te.den×List Value,∀i,i<len→ag (jv w) te (f i).1 (f i).2∧Wf te (f i).1∧(f i).2.length=te.sz∧Reads (jv w) a.block (a.off+i * te.sz) (f i).2∧(i=0→a.spot=none) :=
      ⟨fun i=>if h:i<len then ((each i h).choose,(each i h).choose_spec.choose) else (te.zero,[]),fun i hi=>by simp only [hi,dif_pos];exact (each i hi).choose_spec.choose_spec⟩
     have M3:=(hf 0 (by omega)).2.2.2.2 rfl
     have hrd:∀n,n≤len→((List.range n).flatMap fun i=>(f i).2).length=n * te.sz∧Reads (jv w) a.block a.off ((List.range n).flatMap fun i=>(f i).2):=fun n=>by
      induction n with
      |zero=>intro _;exact ⟨by simp,fun j v hv=>by simp at hv⟩
      |succ n ih2 =>
       intro hn
       obtain ⟨l1,l2⟩:=ih2 (by omega)
       obtain ⟨_,_,l3,l4,_⟩:=hf n (by omega)
       rw [List.range_succ,List.flatMap_append]
       simp only [List.flatMap_cons,List.flatMap_nil,List.append_nil]
       refine ⟨by rw [List.length_append,l1,l3,Nat.add_mul];simp,fun j v hv=>?_⟩
       rw [List.getElem?_append] at hv
       split at hv
       ·exact l2 j v hv
       ·rename_i hj
        have:=l4 _ _ hv
        rw [l1] at this hj
        rw [show a.off+n * te.sz+(j - n * te.sz)=a.off+j by omega] at this
        exact this
     refine ⟨(List.range len).map fun i=>(f i).1,⟨some a,cap,by simp,by simpa using hlc,.inr ⟨a.block,a.off,(List.range len).flatMap fun i=>(f i).2,by cases a;simp_all,(hrd len (Nat.le_refl _)).2,Ip _ _ _ fun i hi=>(hf i hi).1⟩⟩,by simp;omega,fun x hx=>?_⟩
     obtain ⟨i,hi,rfl⟩:=List.mem_map.1 hx
     exact (hf i (List.mem_range.1 hi)).2.1
  ·rename_i fs hu
   simp only [Bool.and_eq_true] at h
   obtain ⟨h1,h2⟩:=h
   obtain ⟨xs,m,_,_,hl,hxl,hf⟩:=DataW.trod_struct hu hx
   have hfm:∀f∈fs.toList,∃y,DataW.trod enc P w 0 sp held m f.type ((cs.drop f.offset).take (P.cellsOf f.type))=some y:=fun f hfm=>by
    obtain ⟨i,hi⟩:=List.getElem?_of_mem hfm
    have hi':fs[i]?=some f:=by simpa using hi
    have hlt:i<xs.length:=by rw [hxl];exact (Array.getElem?_eq_some_iff.1 hi').1
    exact ⟨xs[i],by rw [hf i f hi'];simp⟩
   have hlen:cs.length=ty.sz:=by rw [hl,Nat.eq_of_beq_eq_true h1]
   unfold zR at h2
   split at h2
   ·rename_i f hfs
    split at h2<;>try (cases h2;done)
    rename_i a
    have:=qh ih (fuel:=m) (cs:=cs) h2 (by simpa [Ty.sz] using hlen) (fun f' hf'=>by rw [←hfs] at hf';exact hfm f' hf')
    obtain ⟨y,hy,wy⟩:=this
    exact ⟨(y,()),⟨cs,[],by simp,by simpa using hy,rfl⟩,wy,trivial⟩
   ·have := qh ih (fuel := m) (cs := cs) h2 (by simpa using hlen) hfm
    simpa using this
  ·rename_i m e hu
   simp only [Bool.and_eq_true] at h
   obtain ⟨h1,h2⟩:=h
   obtain ⟨xs,k,_,_,hl,hxl,hf⟩:=DataW.trod_array hu hx
   have:=Iq ih (fuel:=k) (cs:=cs) (i:=0) h2 (by rw [hl,Nat.eq_of_beq_eq_true h1];simp) (fun j _ hj=>⟨xs[j]'(by omega),by rw [hf j (by omega)];simp⟩)
   simpa using this
  ·cases h
end
end Go.AM
end
section
namespace Go.AM
inductive EV (π : List Nat) : V → V → Prop
 |any (v):EV π .any v
 |tf (b):EV π (.tf b) (.tf b)
 |bool (b):EV π (.bool b) (.bool b)
 |tfb (b):EV π (.bool b) (.tf b)
 |int (k n):EV π (.int k n) (.int k n)
 |str (s):EV π (.str s) (.str s)
 |eE:EV π .eE .eE
 |cG:EV π .cG .cG
 |ff:EV π .ff .ff
 |eO (t xs):EV π (.eO t xs) (.eO t xs)
 |XF (t):EV π (.eO t []) .bX
 |bX:EV π .bX .bX
 |sl (id i t lo n) (h:π[id]?=some i):EV π (.sl id t lo n) (.sl i t lo n)
 |XG (id t lo):EV π (.sl id t lo 0) .bX
 |ptr (id i o) (h:π[id]?=some i):EV π (.ptr id o) (.ptr i o)
 |ep (id i t j p) (h:π[id]?=some i):EV π (.ep id t j p) (.ep i t j p)
 |yl (id i) (h:π[id]?=some i):EV π (.yl id) (.yl i)
 |ip (t x):EV π (.ip t x) (.ip t x)
 |fu (cs ds) (h:cs.length=ds.length) (h2:∀(i:Nat) v u,cs[i]?=some v→ds[i]?=some u→EV π v u):EV π (.fu cs) (.fu ds)
 | fn (f as as' cs cs') (h : as.length = as'.length) (h2 : ∀ (i : Nat) v u, as[i]? = some v → as'[i]? = some u → EV π v u)
   (h3:cs.length=cs'.length) (h4:∀(i:Nat) v u,cs[i]?=some v→cs'[i]?=some u→EV π v u):EV π (.fn f as cs) (.fn f as' cs')
 |agg (cs ds) (h:cs.length=ds.length) (h2:∀(i:Nat) v u,cs[i]?=some v→ds[i]?=some u→EV π v u):EV π (.agg cs) (.agg ds)
 |cK (cs ds) (h:cs.length=ds.length) (h2:∀(i:Nat) v u,cs[i]?=some v→ds[i]?=some u→EV π v u):EV π (.cK cs) (.cK ds)
 |cu (t v u) (h:EV π v u):EV π (.cu t v) (.cu t u)
 |cb (c):EV π (.cb c) (.cb c)
 |mp (id i) (h:π[id]?=some i):EV π (.mp id) (.mp i)
 |cD:EV π .cD .cD
 |pa (id i t n) (h:π[id]?=some i):EV π (.pa id t n) (.pa i t n)
 |kV (t xs):EV π (.kV t xs) (.kV t xs)
def CD (π:List Nat) (cs ds:List V):Prop:=cs.length=ds.length∧∀(i:Nat) v u,cs[i]?=some v→ds[i]?=some u→EV π v u
theorem CD.nil {π:List Nat}:CD π [] []:=⟨rfl,fun i v u h=>by simp at h⟩
theorem CD.cons {π:List Nat} {v u:V} {cs ds:List V} (h:EV π v u) (hl:CD π cs ds):CD π (v::cs) (u::ds) :=
 ⟨by simp [hl.1],fun i w y hw hy=>by
  cases i with
  |zero=>simp at hw hy;subst hw;subst hy;exact h
  |succ i=>exact hl.2 i w y (by simpa using hw) (by simpa using hy)⟩
def EE (π:List Nat) (env' env:List (Nat×V)):Prop:=∀p∈env',EV π p.2 (get p.1 env)
def EBk (π:List Nat) (nx:Nat) (bl:aq) (id:Nat) (B:kR):Prop:=∃i,π[id]?=some i∧match B with
 | .cells cs fz=>∃ds,ay i bl=some (.cells ds fz)∧CD π cs ds
 | .arr t xs fz=>ay i bl=some (.arr t xs fz)∨(xs=[]∧nx≤i)
 | .loop st j d env ps as bd N=>∃d0 jF,ay i bl=some (.loop st j d0 jF ps as bd N)∧π[d]?=some d0∧EE π env jF
 | .ig=>ay i bl=some .ig
 | .map kt kg vt vg es=>ay i bl=some (.map kt kg vt vg es)
 | .mw t xs k p v=>∃u,ay i bl=some (.mw t xs k p u)∧EV π v u
structure jh (base:Nat) (π:List Nat) (S S':St):Prop where
 pre:π.take base=List.range base
 nx:S'.H.next=π.length
 ms:S'.ms.map (fun i=>π[i]?)=S.ms.map some
 env:EE π S'.env S.env
 bl:∀p∈S'.H.bl,EBk π S.H.next S.H.bl p.1 p.2
 inj:∀p∈S'.H.bl,∀q∈S'.H.bl,π[p.1]?=π[q.1]?→p.1=q.1
section
variable {P:Program} {N:Nat} {Y:Ctx} {ι ι':au} {μ μ':Mu} {H:aG} {w w':World} {out:Option Nat} {base:Nat} {π:List Nat}
theorem aI.eZ {cs ds:List V} {xs:List Value} (h:cs.length=ds.length) (ih:∀(i:Nat) v u,cs[i]?=some v→ds[i]?=some u→∀{x:Value},Rel ι μ u x→Rel ι (μ.eZ π) v x) (hr:aI ι μ ds xs):aI ι (μ.eZ π) cs xs :=
 ⟨h.trans hr.1,fun i v x hv hx=>by
  have hi:i<ds.length:=by have:=(List.getElem?_eq_some_iff.1 hv).1;omega
  exact ih i v ds[i] hv (by simp [hi]) (hr.2 i ds[i] x (by simp [hi]) hx)⟩
theorem EV.rel {v' v:V} (h:EV π v' v):∀{x:Value},Rel ι μ v x→Rel ι (μ.eZ π) v' x:=by
 induction h with
 |any v=>intro x _;exact .any _
 |tf b=>intro x hr;cases hr;exact .tf _
 |bool b=>intro x hr;cases hr;exact .bool _
 |tfb b=>intro x hr;cases hr;exact .bool _
 |int k n=>intro x hr;cases hr;exact .int _ _
 |str s=>intro x hr;cases hr;exact .str _
 |eE=>intro x hr;cases hr;exact .eE
 |cG=>intro x hr;cases hr;exact .cG
 |ff=>intro x hr;cases hr;exact .ff
 |eO t xs=>intro x hr;cases hr with|eO _ _ _ hd=>exact .eO t xs _ hd
 |XF t=>intro x hr;cases hr;exact .eO _ _ _ ⟨_,0,rfl,Nat.le_refl _,.inl rfl⟩
 |bX=>intro x hr;cases hr;exact .bX _
 |sl id i t lo n hi =>
  intro x hr
  cases hr with
  |sl _ _ _ _ cap L hL h1 h2 h3=>exact .sl id t lo n cap L (by simp [Mu.eZ,hi,hL]) h1 h2 h3
  |bN=>exact .bN _ _ _ _
 |XG id t lo=>intro x hr;cases hr;exact .bN _ _ _ _
 |ptr id i o hi=>intro x hr;cases hr with|ptr _ _ L hL=>exact .ptr id o L (by simp [Mu.eZ,hi,hL])
 |ep id i t j p hi=>intro x hr;cases hr with|ep _ _ _ _ L hL=>exact .ep id t j p L (by simp [Mu.eZ,hi,hL])
 |yl id i hi=>intro x hr;cases hr with|yl _ L hL=>exact .yl id L (by simp [Mu.eZ,hi,hL])
 |ip t y=>intro x hr;cases hr with|ip _ _ b o us h1 h2=>exact .ip t y b o us h1 h2
 |fu cs ds h h2 ih =>
  intro x hr
  cases hr with
  |fu _ b o gf h1 h3 h4 =>
   have hR:aI ι μ ds ((List.range ds.length).map gf):=⟨by simp,fun i v x hv hx=>by
    have hi:=(List.getElem?_eq_some_iff.1 hv).1
    simp [hi] at hx;subst hx;exact h3 i v hv⟩
   have gM:=aI.eZ h ih hR
   exact .fu cs b o gf (fun i hi => h1 i (by omega)) (fun i v hv => gM.2 i v (gf i) hv (by
    have hi:=(List.getElem?_eq_some_iff.1 hv).1
    simp [show i<ds.length by omega])) h4
 |fn f as as' cs cs' h h2 h3 h4 ih1 ih2 =>
  intro x hr
  cases hr with
  |fn _ _ _ xs ys q1 q2 q3 q4 =>
   have r1:=aI.eZ h ih1 (xs:=xs.toList) ⟨by simpa using q1,fun i v x hv hx=>q2 i v x hv (by simpa using hx)⟩
   have r2:=aI.eZ h3 ih2 (xs:=ys.toList) ⟨by simpa using q3,fun i v x hv hx=>q4 i v x hv (by simpa using hx)⟩
   exact .fn f as cs xs ys (by simpa using r1.1) (fun i v x hv hx=>r1.2 i v x hv (by simpa using hx)) (by simpa using r2.1) (fun i v x hv hx=>r2.2 i v x hv (by simpa using hx))
 |agg cs ds h h2 ih =>
  intro x hr
  cases hr with
  |agg _ xs q1 q2 q3 =>
   have r1:=aI.eZ h ih (xs:=xs.toList) ⟨by simpa using q1,fun i v x hv hx=>q2 i v x hv (by simpa using hx)⟩
   exact .agg cs xs (by simpa using r1.1) (fun i v x hv hx=>r1.2 i v x hv (by simpa using hx)) q3
 |cK cs ds h h2 ih =>
  intro x hr
  cases hr with
  |cK _ xs q1 q2 =>
   have r1:=aI.eZ h ih (xs:=xs.toList) ⟨by simpa using q1,fun i v x hv hx=>q2 i v x hv (by simpa using hx)⟩
   exact .cK cs xs (by simpa using r1.1) (fun i v x hv hx=>r1.2 i v x hv (by simpa using hx))
 |cu t v u h ih=>intro x hr;cases hr with|cu _ _ x hx=>exact .cu t v x (ih hx)
 |cb c=>intro x hr;cases hr with|cb _ b hc=>exact .cb c b hc
 |mp id i hi=>intro x hr;cases hr with|mp _ L hL=>exact .mp id L (by simp [Mu.eZ,hi,hL])
 |cD=>intro x hr;cases hr;exact .cD
 |pa id i t n hi=>intro x hr;cases hr with|pa _ _ _ L hL hm=>exact .pa id t n L (by simp [Mu.eZ,hi,hL]) hm
 |kV t xs=>intro x hr;cases hr with|kV _ _ b o us h1 h2=>exact .kV t xs b o us h1 h2
theorem EE.rel {tmps : Array Value} {env : List (Nat × V)} (he : ez ι μ env tmps) : ∀ {env' : List (Nat × V)}, EE π env' env → ez ι (μ.eZ π) env' tmps
 |[],_=>fun t=>.any _
 |(t,v)::r,h=>fun i=>by
  rw [bW];split
  ·rename_i e;subst e;exact (h _ (List.mem_cons_self ..)).rel (he _)
  ·exact EE.rel he (fun p hp=>h p (List.mem_cons_of_mem _ hp)) i
theorem dx : ∀ {bl : aq} {id : Nat} {b : kR}, ay id bl = some b → (id, b) ∈ bl
 |[],id,b,h=>by simp [ay] at h
 |(s,c)::r,id,b,h=>by
  rw [bq] at h
  split at h
  ·rename_i e;subst e;cases h;exact List.mem_cons_self ..
  ·exact List.mem_cons_of_mem _ (dx h)
theorem jh.rep {S S':St} (h:jh base π S S') (hbase:Y.base base) {a:Act} (hR:eM P N Y ι μ S a w):eM P N Y ι (μ.eZ π) S' a w:=by
 have hI:=hR.inv
 have hle:Y.m0.le (μ.eZ π):=fun id L hL=>by
  have hlt:id<base:=by
   rcases Nat.lt_or_ge id base with h|h
   ·exact h
   ·rw [hbase id h] at hL;cases hL
  have:π[id]?=some id:=by
   have e1:(π.take base)[id]?=(List.range base)[id]?:=by rw [h.pre]
   rw [List.getElem?_take,if_pos hlt,List.getElem?_range hlt] at e1
   exact e1
  simp [Mu.eZ,this,hI.m0 id L hL]
 refine ⟨h.env.rel hR.env,hR.sz,⟨hI.below,hI.i0,hI.iB,hI.rd,hle,fun id hid=>?_,fun id B hB=>?_,?_,fun id B hB=>?_,hI.gl⟩,?_⟩
 ·have : π[id]? = none := List.getElem?_eq_none (by rw [← h.nx]; exact hid)
  simp [Mu.eZ,this]
 ·obtain ⟨i, e1, hb⟩ := h.bl _ (dx hB)
  have fM:(μ.eZ π) id=μ i:=by simp only [Mu.eZ];rw [e1];rfl
  cases B with
  |cells cs fz =>
   obtain ⟨ds,e2,aj⟩:=hb
   obtain ⟨L,vs,hM,Ih⟩:=hI.live i _ e2
   exact ⟨L,vs,⟨by rw [fM];exact hM.mu,hM.old,hM.row,hM.fits,hM.one,hM.CT,hM.pK⟩,aI.eZ aj.1 (fun i v u hv hu=>fun {x} hr=>(aj.2 i v u hv hu).rel hr) Ih⟩
  |arr t xs fz =>
   rcases hb with e2|⟨rfl,hge⟩
   ·rcases hI.live i _ e2 with ⟨e, hn⟩ | ⟨L, vs, hM, hc, hl⟩
    ·exact .inl ⟨e,by rw [fM];exact hn⟩
    ·exact .inr ⟨L,vs,⟨by rw [fM];exact hM.mu,hM.old,hM.row,hM.fits,hM.one,hM.CT,hM.pK⟩,hc,hl⟩
   ·exact .inl ⟨rfl,by rw [fM];exact hI.nx i hge⟩
  |loop st j d env ps as bd N =>
   obtain ⟨d0,jF,e2,e3,hee⟩:=hb
   obtain ⟨L,r,Ld,q1,q2,q3,q4,q5,q6,q7,q8,q9,q10,q11,q12,q13⟩:=hI.live i _ e2
   exact ⟨L,r,Ld,by rw [fM];exact q1,q2,q3,q4,q5,hee.rel q6,q7,q8,q9,q10,q11,by simp only [Mu.eZ];rw [e3];exact q12,q13⟩
  |ig =>
   obtain ⟨L,q1,q2,q3⟩:=hI.live i _ hb
   exact ⟨L,by rw [fM];exact q1,q2,q3⟩
  |map kt kg vt vg es =>
   obtain ⟨L,ms,clock,dB,q1,q2,q3⟩:=hI.live i _ hb
   exact ⟨L,ms,clock,dB,by rw [fM];exact q1,q2,q3⟩
  |mw t xs k p v =>
   obtain ⟨u,e2,aj⟩:=hb
   obtain ⟨L,us,vs,c,hM,hc,hl,q1,q2,q3,q4⟩:=hI.live i _ e2
   exact ⟨L,us,vs,c,⟨by rw [fM];exact hM.mu,hM.old,hM.row,hM.fits,hM.one,hM.CT,hM.pK⟩,hc,hl,q1,q2,q3,aj.rel q4⟩
 ·intro id id' B B' L L' hb hb' hm hm' e
  obtain ⟨i,e1,hbk⟩:=h.bl _ (dx hb)
  obtain ⟨i',Fh,hbk'⟩:=h.bl _ (dx hb')
  simp only at e1 Fh
  have fM:(μ.eZ π) id=μ i:=by simp only [Mu.eZ];rw [e1];rfl
  have Xp:(μ.eZ π) id'=μ i':=by simp only [Mu.eZ];rw [Fh];rfl
  rw [fM] at hm;rw [Xp] at hm'
  have live:∀{i:Nat} {B:kR} {id:Nat} {L:Loc},EBk π S.H.next S.H.bl id B→π[id]?=some i→μ i=some L→∃C,ay i S.H.bl=some C:=by
   intro i B id L hbk e hm
   obtain ⟨i2,e2,eC⟩:=hbk
   rw [e] at e2;cases e2
   cases B with
   |cells cs fz=>obtain ⟨ds,e2,_⟩:=eC;exact ⟨_,e2⟩
   |arr t xs fz =>
    rcases eC with e2|⟨_,hge⟩
    ·exact ⟨_,e2⟩
    ·rw [hI.nx i hge] at hm;cases hm
   |loop st j d env ps as bd N=>obtain ⟨d0,jF,e2,_⟩:=eC;exact ⟨_,e2⟩
   |ig=>exact ⟨_,eC⟩
   |map kt kg vt vg es=>exact ⟨_,eC⟩
   |mw t xs k p v=>obtain ⟨u,e2,_⟩:=eC;exact ⟨_,e2⟩
  obtain ⟨C,hC⟩:=live (h.bl _ (dx hb)) e1 hm
  obtain ⟨C',Q6⟩:=live (h.bl _ (dx hb')) Fh hm'
  have:=hI.inj i i' C C' L L' hC Q6 hm hm' e
  subst this
  exact h.inj _ (dx hb) _ (dx hb') (e1.trans Fh.symm)
 ·obtain ⟨i, e1, _⟩ := h.bl _ (dx hB)
  have:=(List.getElem?_eq_some_iff.1 e1).1
  rw [h.nx];exact this
 ·have key:∀{ms ms':List Nat} {ds:List Deferred},ms'.map (fun i=>π[i]?)=ms.map some→jg Y.hid μ ms ds→jg Y.hid (μ.eZ π) ms' ds:=by
   intro ms
   induction ms with
   |nil=>intro ms' ds e hm;cases ms'<;>simp at e;exact hm
   |cons i ms ih =>
    intro ms' ds e hm
    cases ms' with
    |nil=>simp at e
    |cons i' ms' =>
     simp only [List.map_cons,List.cons.injEq] at e
     obtain ⟨L,d,ds',q1,q2,q3,q4⟩:=hm
     exact ⟨L,d,ds',q1,by simp [Mu.eZ,e.1,q2],q3,ih e.2 q4⟩
  exact key h.ms hR.ms
def jw {α β : Type} (step : α → Option (α ⊕ β)) : Nat → α → Option β
 |0,_=>none
 |n+1,x=>match step x with
  |none=>none
  |some (.inl y)=>jw step n y
  |some (.inr b)=>some b
noncomputable def iter {α β:Type} (step:α→Option (α ⊕ β)) (x:α):Option β:=by
 classical exact if h:∃n b,jw step n x=some b then some h.choose_spec.choose else none
theorem zT {α β : Type} {step : α → Option (α ⊕ β)} : ∀ {n m : Nat} {x : α} {b c : β}, jw step n x = some b → jw step m x = some c → b = c
 |0,_,_,_,_,h,_=>by cases h
 |_+1,0,_,_,_,_,h=>by cases h
 |n+1,m+1,x,b,c,h,h'=>by
  simp only [jw] at h h'
  split at h
  ·cases h
  ·rename_i y e;rw [e] at h';exact zT h h'
  ·rename_i b' e;rw [e] at h';cases h;cases h';rfl
theorem Bq {α β:Type} {step:α→Option (α ⊕ β)} {n:Nat} {x:α} {b:β} (h:jw step n x=some b):iter step x=some b:=by
 unfold iter
 have h':∃n b,jw step n x=some b:=⟨n,b,h⟩
 rw [dif_pos h']
 exact congrArg some (zT h'.choose_spec.choose_spec h)
theorem tj {α β:Type} {step:α→Option (α ⊕ β)} {x:α} {b:β} (h:iter step x=some b):∃n,jw step n x=some b:=by
 unfold iter at h
 split at h
 ·rename_i h';cases h;exact ⟨_,h'.choose_spec.choose_spec⟩
 ·cases h
theorem rq {α β:Type} {step:α→Option (α ⊕ β)} {x y:α} {b:β} (h:step x=some (.inl y)) (h':iter step y=some b):iter step x=some b:=by
 obtain ⟨n,hn⟩:=tj h'
 exact Bq (n:=n+1) (by simp [jw,h,hn])
theorem j9 {α β:Type} {step:α→Option (α ⊕ β)} {x:α} {b:β} (h:step x=some (.inr b)):iter step x=some b :=
 Bq (n:=1) (by simp [jw,h])
theorem Kj (gT : mM P N out base) {α β : Type} {I : α → St} {X : β → Ex × St} {step : α → Option (α ⊕ β)} {c : C}
  (hstep:∀x r,step x=some r→qP (gn P N out base) c (I x) fun e S'=>match r with
   | .inl y=>e = .normal∧∃π,jh base π S' (I y)
   | .inr b=>e ≠ .normal∧e=(X b).1∧∃π,jh base π S' (X b).2)
  {x:α} {b:β} (hx:iter step x=some b) {S:St} {π:List Nat} (hS:jh base π S (I x)) {K:Ex→St→Prop} (hK:K (X b).1 (X b).2):(gn P N out base).loop c S K:=by
 obtain ⟨n,hn⟩:=tj hx
 intro body hbody Y ι μ a w ho hb hR
 refine wpIn_loop_ghost (fun (n:Nat) a w=>∃Y1,Ext P Y Y1∧∃x ι μ,eM P N Y1 ι μ (I x) a w∧jw step n x=some b) id (x:=n) ⟨Y,.refl Y,x,ι,_,hS.rep hb hR,hn⟩ ?_
 rintro n a w ⟨Y0,QI,x,ι,μ,hR,hx⟩
 cases n with
 |zero=>cases hx
 |succ n =>
  simp only [jw] at hx
  split at hx
  ·cases hx
  ·rename_i y e
   refine wpIn_mono (FM (gE gT body hbody (hstep x _ e)) QI ho hb hR) fun e a' w' hp=>?_
   obtain ⟨Y1,hY,ι',μ',S',e',h1,h2,rfl,π',h3⟩:=hp
   cases h2
   exact ⟨n,⟨Y1,hY,y,ι',_,h3.rep (hY.ua hb) h1,hx⟩,Nat.lt_succ_self n⟩
  ·rename_i b' e
   cases hx
   refine wpIn_mono (FM (gE gT body hbody (hstep x _ e)) QI ho hb hR) fun e a' w' hp=>?_
   obtain ⟨Y1,hY,ι',μ',S',e',h1,h2,hne,h3,π',h4⟩:=hp
   have hp:Post P N Y K e a' w':=⟨Y1,hY,ι',_,_,_,h4.rep (hY.ua hb) h1,by rw [←h3];exact h2,hK⟩
   cases e' with
   |normal=>exact absurd rfl hne
   |exit id=>cases h2;exact hp
   |ret=>cases h2;exact hp
end
abbrev Env:=List (Nat×V)
section
variable {P:Program} {N:Nat} {Y:Ctx} {ι ι':au} {μ μ':Mu} {H H':aG} {w w':World} {out:Option Nat} {base:Nat}
theorem Inv.junk (h:Inv P Y ι μ H w) (o:Obj):Inv P Y ι μ H (w.alloc o):=by
 have heap:∀k,k<w.heap.size→(w.alloc o).heap[k]?=w.heap[k]?:=fun k hk=>by
  show (w.heap.push o)[k]?=_
  rw [Array.getElem?_push];split
  ·omega
  ·rfl
 refine ⟨⟨h.below.os,h.below.tape,h.below.output,by have:=h.below.size;simp;omega,fun k hk hx=>?_,h.below.dr,fun k hk=>(h.below.maps k hk).trans (.eq (heap k (Nat.lt_of_lt_of_le hk h.below.size)))⟩,h.i0,h.iB,fun b o x hx=>?_,h.m0,h.nx,fun id B hB=>?_,h.inj,h.lt,h.gl⟩
 ·have := h.below.size
  rw [heap k (by omega)];exact h.below.block k hk hx
 ·have := h.rd b o x hx
  rw [World.cell?_alloc_lt _ _ _ (World.block_lt_of_cell? _ _ this)];exact this
 ·exact (h.live id B hB).mono (au.le_refl _) (Mu.le_refl _) (fun h=>h) (fun L' hL'=>heap _ ((h.live id B hB).loc hL').2) (fun _ _ h=>h)
theorem dL.Vu {B:Nat→Prop} {id:Nat} {b:kR} (h:dL P B ι μ id w b) {L:Loc} (hL:μ id=some L) {r:Nat} {m:Option Nat} {s c:Nat} {seen:Array Nat} (hr:w.heap[r]?=some (.mapIter m s seen c)):L.b≠r:=by
 intro e
 subst e
 cases b with
 |cells cs fz =>
  obtain ⟨L',vs,hM,_⟩:=h
  have:=hM.mu;rw [hL] at this;cases this
  obtain ⟨c,e,h1,_⟩:=hM.row
  rw [hr] at h1;cases h1
 |arr t xs fz =>
  rcases h with ⟨_,h⟩|⟨L',vs,hM,_⟩
  ·rw [h] at hL;cases hL
  ·have := hM.mu; rw [hL] at this; cases this
   obtain ⟨c,e,h1,_⟩:=hM.row
   rw [hr] at h1;cases h1
 |loop st j d env ps as bd N =>
  obtain ⟨L',r,Ld,h1,h2,h3,_⟩:=h
  rw [hL] at h1;cases h1
  rw [hr] at h3;cases h3
 |ig =>
  obtain ⟨L',h1,h2,h3⟩:=h
  rw [hL] at h1;cases h1
  rw [hr] at h3;cases h3
 |map kt kg vt vg es =>
  obtain ⟨L',ms,clock,dB,h1,h2,h3,_⟩:=h
  rw [hL] at h1;cases h1
  rw [hr] at h3;cases h3
 |mw t xs i p v =>
  obtain ⟨L',us,vs,c,hM,_⟩:=h
  have:=hM.mu;rw [hL] at this;cases this
  obtain ⟨c,e,h1,_⟩:=hM.row
  rw [hr] at h1;cases h1
theorem Inv.side (h:Inv P Y ι μ H w) {r:Nat} {m:Option Nat} {s c:Nat} {seen:Array Nat} (hr:w.heap[r]?=some (.mapIter m s seen c)) (hown:Y.own r) (o:Obj):Inv P Y ι μ H (w.putObj r o):=by
 have bU:∀k,k≠r→(w.putObj r o).heap[k]?=w.heap[k]?:=fun k hk=>World.putObj_heap_other hk
 refine ⟨⟨h.below.os,h.below.tape,h.below.output,by rw [World.putObj_size];exact h.below.size,fun k hk hx=>?_,h.below.dr,fun k hk=>(h.below.maps k hk).trans ?_⟩,h.i0,h.iB,fun b o2 x hx=>?_,h.m0,h.nx,fun i B hB=>?_,h.inj,h.lt,h.gl⟩
 ·rw [bU k (Ctx.lE hown hk hx)];exact h.below.block k hk hx
 ·by_cases e : k = r
  ·subst e;rw [hr];exact .no fun _ _ e=>by cases e
  ·exact .eq (bU k e)
 ·have := h.rd b o2 x hx
  have hne:b≠r:=fun e=>by subst e;simp [World.cell?,hr] at this
  unfold World.cell? at this ⊢
  simp only at this ⊢
  rw [bU b hne];exact this
 ·exact (h.live i B hB).mono (au.le_refl _) (Mu.le_refl _) (fun h=>h) (fun L' hL'=>bU _ ((h.live i B hB).Vu hL' hr)) (fun _ _ h=>h)
def Ctx.side (Y:Ctx) (w:World) (ι:au) (μ:Mu) (r:Nat):Ctx:=⟨w,ι,μ,Y.ro,fun b=>Y.own b∧b≠r,Y.hid⟩
theorem Inv.into (h:Inv P Y ι μ H w) {r:Nat} {m:Option Nat} {s c:Nat} {seen:Array Nat} (hr:w.heap[r]?=some (.mapIter m s seen c)):Inv P (Y.side w ι μ r) ι μ H w :=
 ⟨HV.refl _ _,au.le_refl _,fun _ _ _ _=>rfl,h.rd,Mu.le_refl _,h.nx,fun id B hB=>(h.live id B hB).owns fun L hL ho=>.inr ⟨ho,(h.live id B hB).Vu hL hr⟩,h.inj,h.lt,h.dz⟩
theorem Inv.abQ (h:Inv P Y ι μ H w) {r:Nat} (h2:Inv P (Y.side w ι μ r) ι' μ' H' w'):Inv P Y ι' μ' H' w':=by
 have hs:=h.below.size
 have hx2:∀k,k<Y.w0.heap.size→¬Y.x k→¬(Y.side w ι μ r).x k:=fun k hk hx hX=>by
  rcases hX.1 with h|h
  ·omega
  ·exact hx h
 have b2:=h2.below
 refine ⟨⟨b2.os.trans h.below.os,b2.tape.trans h.below.tape,b2.output.trans h.below.output,Nat.le_trans hs b2.size,fun k hk hx=>?_,Nat.le_trans h.below.dr b2.dr,fun k hk=>(h.below.maps k hk).trans (b2.maps k (Nat.lt_of_lt_of_le hk hs))⟩,
  au.le_trans h.i0 h2.i0,fun b o hb hx=>?_,h2.rd,Mu.le_trans h.m0 h2.m0,h2.nx,fun id B hB=>(h2.live id B hB).owns fun L _ ho=>?_,h2.inj,h2.lt,h.gl⟩
 ·exact (b2.block k (Nat.lt_of_lt_of_le hk hs) (hx2 k hk hx)).trans (h.below.block k hk hx)
 ·exact (h2.iB b o (Nat.lt_of_lt_of_le hb hs) (hx2 b hb hx)).trans (h.iB b o hb hx)
 ·rcases ho with ho | ho
  ·exact .inl (Nat.le_trans hs ho)
  ·exact ho.1
end
def yT {E α β : Type} (step : E → α → Option (α ⊕ β)) : List E → α → Option (α ⊕ β)
 |[],x=>some (.inl x)
 |e::r,x=>match step e x with
  |none=>none
  |some (.inl y)=>yT step r y
  |some (.inr b)=>some (.inr b)
def zU {E α : Type} (step : E → α → Option α) : List E → α → Option α
 |[],x=>some x
 |e::r,x=>match step e x with
  |none=>none
  |some y=>zU step r y
noncomputable def iE {E B:Type} (f:List E→Option B) (es:List E):Option B:=by
 classical exact if h:∃b,∀l:List E,l.Perm es→f l=some b then some h.choose else none
theorem oc {E B:Type} {f:List E→Option B} {es:List E} {b:B} (h:iE f es=some b):∀l:List E,l.Perm es→f l=some b:=by
 unfold iE at h
 split at h
 ·rename_i h';cases h;exact h'.choose_spec
 ·cases h
theorem gF {E B:Type} {f:List E→Option B} {es:List E} {b:B} (h:∀l:List E,l.Perm es→f l=some b):iE f es=some b:=by
 have h':∃b,∀l:List E,l.Perm es→f l=some b:=⟨b,h⟩
 unfold iE
 rw [dif_pos h']
 have h1:=h'.choose_spec es (.refl _)
 rw [h es (.refl _)] at h1
 exact h1.symm▸rfl
noncomputable def jy {α:Type} (a b:α):Bool:=@decide (a=b) (Classical.propDecidable _)
theorem Dv {α:Type} {a b:α} (h:jy a b=true):a=b:=by simpa [jy] using h
@[simp] theorem dG {α:Type} (a:α):jy a a=true:=by simp [jy]
def ee : List Nat → Env → Env
 |[],env=>env
 |t::r,env=>(t,.any)::ee r env
def RH (e:Option Nat) (kt:Ty) (kg:Bool) (vt:Ty) (vg:Bool) (x:kt.den×vt.den) (env:Env):Env:=match e with
 |none=>env
 |some s=>(s,.cK [cz.iS kg (cz kt x.1),cz.iS vg (cz vt x.2)])::env
section
variable {P:Program} {N:Nat} {Y:Ctx} {ι ι':au} {μ μ':Mu} {H H':aG} {w w':World} {out:Option Nat} {base:Nat}
theorem qi : ∀ {cl : List Nat} {env : Env} {t : Nat}, get t (ee cl env) = .any ∨ get t (ee cl env) = get t env
 |[],env,t=>.inr rfl
 |s::r,env,t=>by
  rw [ee,bW]
  split
  ·exact .inl rfl
  ·exact qi
theorem ez.forget {env:Env} {tmps:Array Value} (h:ez ι μ env tmps) (cl:List Nat):ez ι μ (ee cl env) tmps:=fun t=>by
 rcases qi (cl:=cl) (env:=env) (t:=t) with e|e<;>rw [e]
 ·exact .any _
 ·exact h t
theorem ez.over {env:Env} {a:Act} (h:ez ι μ env a.tmps) {d:Nat} (hd:get d env = .any) (v:Value):ez ι μ env (a.put (some d) v).tmps:=fun t=>by
 by_cases e:d=t
 ·subst e;rw [hd];exact .any _
 ·have:(a.tmps.setIfInBounds d v).getD t undef=a.tmps.getD t undef:=by
   simp only [Array.getD_eq_getD_getElem?]
   rw [Array.getElem?_setIfInBounds_ne e]
  simp only [Act.put]
  rw [this];exact h t
theorem eM.over {S:St} {a:Act} (h:eM P N Y ι μ S a w) {d:Nat} (hd:get d S.env = .any) (v:Value):eM P N Y ι μ S (a.put (some d) v) w :=
 ⟨h.env.over hd v,by simp [Act.put,h.sz],h.inv,h.ms⟩
theorem Bs {a:Act} {d:Nat} {v:Value} (hd:d<a.tmps.size):(a.put (some d) v).tmps.getD d undef=v:=by simp [Act.put,Array.getD,hd]
theorem M5 {a:Act} {d t:Nat} {v:Value} (h:d≠t):(a.put (some d) v).tmps.getD t undef=a.tmps.getD t undef:=by
 simp only [Act.put,Array.getD_eq_getD_getElem?]
 rw [Array.getElem?_setIfInBounds_ne h]
theorem Inv.name (h:Inv P Y ι μ H w) (L:Loc):Inv P Y ι (μ.set H.next L) ⟨H.next+1,H.bl⟩ w:=by
 have hn:=h.nx H.next (Nat.le_refl _)
 have hle:=Mu.fF (L:=L) hn
 have hne:∀id B,ay id H.bl=some B→id≠H.next:=fun id B hB=>Nat.ne_of_lt (h.lt id B hB)
 refine ⟨h.below,h.i0,h.iB,h.rd,Mu.le_trans h.m0 hle,fun id hid=>?_,fun id B hB=>?_,fun id id' B B' L1 L2 h1 h2 gj hm2 e=>?_,fun id B hB=>Nat.lt_succ_of_lt (h.lt id B hB),h.gl⟩
 ·simp only at hid
  unfold Mu.set;rw [if_neg (by omega)];exact h.nx id (by omega)
 ·exact (h.live id B hB).mono (au.le_refl _) hle (fun hm=>by unfold Mu.set;rw [if_neg (hne id B hB)];exact hm) (fun _ _=>rfl) (fun _ _ h=>h)
 ·unfold Mu.set at gj hm2
  rw [if_neg (hne id B h1)] at gj
  rw [if_neg (hne id' B' h2)] at hm2
  exact h.inj id id' B B' L1 L2 h1 h2 gj hm2 e
theorem gG {o:Oper} (h:o.guard=none) (f:Nat→Option Bool):Region.wanted o f=true:=by
 unfold Region.wanted;rw [h]
theorem Ga {a b:Code} {hd:Vj} (h:vR P N a b=some hd):∃(ia:Nat) (yU:Array Oper) (o:Oper) (rr:List Oper) (t:TypeId) (x:Operand) (b3 i2:Nat) (tn:Array Oper) (o1 o2:Oper) (n ok:Nat) (y:Code),
  a = .region ia yU false∧yU.toList=rr++[o]∧o.op = .range t x∧o.dst=some hd.it∧o.guard=none∧hd.it<N∧jT P t=some (hd.kt,hd.kg,hd.vt,hd.vg)∧dA x=some hd.m∧dW P N yU rr=some hd.pre ∧
  b = .block hd.pH (.loop (.seq (.region i2 tn false) (.seq (.cond (.tmp ok) .skip (.exit hd.pH)) (.block b3 y))))∧tn.toList=[o1,o2]∧o1.op = .next (.tmp hd.it) false∧o1.dst=some n∧o1.guard=none ∧
  o2.op = .extract (.tmp n) 0∧o2.dst=some ok∧o2.guard=none∧n<N∧ok<N∧n≠hd.it∧ok≠hd.it∧hd.cl=[n,ok]∧hd.e=sJ N hd.it y:=by
 unfold vR at h
 split at h<;>try (cases h;done)
 rename_i b1 x2 t b2 b3 y
 split at h<;>try (cases h;done)
 rename_i is m it kt vt vg h1
 split at h<;>try (cases h;done)
 rename_i n ok h2
 split at h<;>try (cases h;done)
 rename_i hc
 obtain ⟨e1,e2⟩:=hc
 subst e1;subst e2
 cases h
 unfold Mf at h1
 split at h1<;>try (cases h1;done)
 rename_i ia yU
 split at h1<;>try (cases h1;done)
 rename_i o rr hrev
 split at h1<;>try (cases h1;done)
 rename_i t x hop
 split at h1<;>try (cases h1;done)
 rename_i it' RI
 split at h1<;>try (cases h1;done)
 rename_i hg
 split at h1<;>try (cases h1;done)
 rename_i LD LF QY m' is' C6 hx mN
 cases h1
 unfold Mh at h2
 split at h2<;>try (cases h2;done)
 rename_i i2 tn
 split at h2<;>try (cases h2;done)
 rename_i o1 o2 hl
 split at h2<;>try (cases h2;done)
 rename_i i Gb
 split at h2<;>try (cases h2;done)
 rename_i n' M6
 split at h2<;>try (cases h2;done)
 rename_i n2 Kk
 split at h2<;>try (cases h2;done)
 rename_i ok' hd2
 split at h2<;>try (cases h2;done)
 rename_i Vl
 obtain ⟨g1,g2,e1,e2,l1,l2,l3,l4⟩:=Vl
 subst e1;subst e2
 cases h2
 have Cy:yU.toList=rr.reverse++[o]:=by
  have:=congrArg List.reverse hrev
  simpa using this
 exact ⟨ia,yU,o,rr.reverse,t,x,b3,i2,tn,o1,o2,_,_,y,rfl,Cy,hop,RI,hg.1,hg.2,C6,hx,mN,rfl,hl,Gb,M6,g1,Kk,hd2,g2,l1,l2,l3,l4,rfl,rfl⟩
end
section
variable {P:Program} {N:Nat} {Y:Ctx} {ι ι':au} {μ μ':Mu} {H H':aG} {w w':World} {out:Option Nat} {base:Nat}
theorem RJ {b1 i2 b3 ok:Nat} {tn:Array Oper} {y:Code} {cb:C} (h:fB P N (.block b1 (.loop (.seq (.region i2 tn false) (.seq (.cond (.tmp ok) .skip (.exit b1)) (.block b3 y)))))=some cb) :
  ∃cx cc cy,fB P N y=some cy∧cb = .block b1 (.loop (.seq cx (.seq cc (.block b3 cy)))):=by
 have h1:∀z,vR P N (.cond (.tmp ok) .skip (.exit b1)) z=none:=fun z=>by
  unfold vR
  split
  ·split
   ·rename_i h1;cases h1
   ·rfl
  ·rfl
 have h2:∀z u v,vR P N z (.seq u v)=none:=fun z u v=>rfl
 simp only [fB] at h
 cases hx:dW P N tn tn.toList with
 |none=>simp [hx] at h
 |some is =>
  simp only [hx] at h
  cases hy:fB P N y with
  |none=>simp [hy] at h
  |some cy =>
   simp only [hy,dA,Option.map_some,h1,h2] at h
   cases h
   exact ⟨_,_,cy,rfl,rfl⟩
theorem wX {id:Nat} {K:Ex→St→Prop} {e:Exit} {a:Act} {w:World} (hp:Post P N Y (fun e S=>match e with
  | .normal=>K .normal S
  | .exit id'=>match Nat.beq id' id with
   |true=>K .normal S
   |false=>K (.exit id') S
  | .ret=>K .ret S) e a w):Exit.inBlock id (Post P N Y K) e a w:=by
 obtain ⟨Y1,hY,ι',μ',S',e',h1,h2,h3⟩:=hp
 cases e' with
 |normal=>cases h2;exact ⟨Y1,hY,ι',μ',S',.normal,h1,rfl,h3⟩
 |exit id' =>
  cases h2
  simp only [Exit.inBlock]
  simp only at h3
  split at h3
  ·rename_i A9
   rw [if_pos (Nat.eq_of_beq_eq_true A9)]
   exact ⟨Y1,hY,ι',μ',S',.normal,h1,rfl,h3⟩
  ·rename_i A9
   rw [if_neg (fun e=>by subst e;rw [Nat.beq_refl] at A9;cases A9)]
   exact ⟨Y1,hY,ι',μ',S',.exit id',h1,rfl,h3⟩
 |ret=>cases h2;exact ⟨Y1,hY,ι',μ',S',.ret,h1,rfl,h3⟩
theorem M7 (gT : mM P N out base) {it b1 b3 : Nat} {y : Code} {cx cc cy bd : C} (Kl : fB P N y = some cy) (hbd : HQ (sJ N it y) (.block b1 (.loop (.seq cx (.seq cc (.block b3 cy))))) = some bd) {S0 : St} {a : Act}
  (ho:jZ Y out) (hb:Y.base base) (hR:eM P N Y ι μ S0 a w) {r:Nat} (hit:a.tmps.getD it undef = .pointer (some ⟨r,0,none⟩)) {kv vv:Value} (cE:(Instr.entry (.pointer (some ⟨r,0,none⟩))).run P w = .ok (.tuple #[kv,vv]) w)
  {kt vt:Ty} {kg vg:Bool} {x:kt.den×vt.den} (hk:Rel ι μ (cz.iS kg (cz kt x.1)) kv) (hv:Rel ι μ (cz.iS vg (cz vt x.2)) vv) {Q:Ex→St→Prop}
  (h:qP (gn P N out base) bd ⟨RH (sJ N it y) kt kg vt vg x S0.env,S0.H,S0.ms⟩ Q):(Code.block b3 y).wpIn Y.F 0 P (Post P N Y Q) a w:=by
 cases he:sJ N it y with
 |none =>
  rw [he] at hbd h
  cases hbd
  exact gE gT (.block b3 y) (c:=.block b3 cy) (by simp [fB,Kl]) h Y ι μ a w ho hb hR
 |some s =>
  rw [he] at hbd h
  unfold sJ at he
  split at he<;>try (cases he;done)
  rename_i ri ops rest
  split at he<;>try (cases he;done)
  rename_i o os hl
  split at he<;>try (cases he;done)
  rename_i i hop
  split at he<;>try (cases he;done)
  rename_i s' RI
  split at he<;>try (cases he;done)
  rename_i hc
  obtain ⟨hg,hi,hs,hne⟩:=hc
  cases he
  subst hi
  -- the code
  simp only [fB] at Kl
  cases mN:dW P N ops ops.toList with
  |none=>simp [mN] at Kl
  |some is0 =>
   simp only [mN] at Kl
   cases hcr:fB P N rest with
   |none=>simp [hcr] at Kl
   |some cr =>
    simp only [hcr] at Kl
    split at Kl
    rotate_left
    ·rename_i hd2 _
     split at Kl<;>try (cases Kl;done)
     cases Kl
     simp [HQ] at hbd
    cases Kl
    rw [hl] at mN
    unfold dW at mN
    split at mN<;>try (cases mN;done)
    rename_i i0 is hi0 mN
    cases mN
    simp only [HQ] at hbd
    cases hbd
    simp only [qP] at h
    refine wpIn_block (wpIn_mono ?_ fun e a w hp=>wX hp)
    refine wpIn_seq (wpIn_region ?_)
    have hsz:ops.size=os.length+1:=by rw [←Array.length_toList,hl];rfl
    rw [List.range_eq_range',hsz,List.range'_succ]
    have ho0:ops[0]?=some o:=by rw [←Array.getElem?_toList,hl];rfl
    have aj:a.eval (.tmp i) = .pointer (some ⟨r,0,none⟩):=hit
    have hN:qL N o.dst=true:=by rw [RI];simpa [qL] using hs
    refine ud (x := .tuple #[kv, vv]) (w' := w) (fun _ => trivial) rfl ho0 (gG hg _) (by rw [hop]; intro c; simp) (.inl (by
     unfold execOp;rw [hop];simp only [aj,Sem.run_bind,cE];rfl)) ?_
    have ny:eM P N Y ι μ ⟨RH (some s) kt kg vt vg x S0.env,S0.H,S0.ms⟩ (a.put o.dst (.tuple #[kv,vv])) w:=by
     have := hR.put hN (au.le_refl _) (Mu.le_refl _) hR.inv (v := .cK [cz.iS kg (cz kt x.1), cz.iS vg (cz vt x.2)]) (x := .tuple #[kv, vv])
      (.cK _ _ rfl (fun i v x qd hx=>by
       match i with
       |0=>simp at qd hx;subst qd;subst hx;exact hk
       |1=>simp at qd hx;subst qd;subst hx;exact hv
       |i+2=>simp at qd))
     rw [RI] at this ⊢
     exact this
    exact wE (Y:=Y) (out:=out) (base:=base) (k:=1) (Q:=Exit.then (rest.wpIn Y.F 0 P _) _) (fun ι μ S a w hR hK=>gE gT rest hcr hK Y ι μ a w ho hb hR) mN (fun j=>by rw [←Array.getElem?_toList,hl,Nat.add_comm];simp) ny h
end
section
variable {P:Program} {N:Nat} {Y:Ctx} {ι ι':au} {μ μ':Mu} {H H':aG} {w w':World} {out:Option Nat} {base:Nat}
theorem eV.at {kt vt : Ty} {kg vg : Bool} : ∀ {es : List (kt.den × vt.den)} {ms : List MapEntry}, eV ι kt kg vt vg es ms → ∀ {i : Nat} {m : MapEntry}, ms[i]? = some m → ∃ e, es[i]? = some e ∧ fO ι kg kt e.1 m.key ∧ fO ι vg vt e.2 m.val
 |[],_,h,i,m,hm=>by simp [eV] at h;subst h;simp at hm
 |e::es,_,⟨m0,r,rfl,h1,h2,h3⟩,i,m,hm=>by
  cases i with
  |zero=>simp at hm;subst hm;exact ⟨e,rfl,h1,h2⟩
  |succ i=>simpa using h3.at (i:=i) (by simpa using hm)
theorem Dx {E α β:Type} {step:E→α→Option (α ⊕ β)} {e:E} {r:List E} {x:α} {res:α ⊕ β} (h:yT step (e::r) x=some res) :
  (∃y,step e x=some (.inl y))∨∃b,step e x=some (.inr b)∧res = .inr b:=by
 simp only [yT] at h
 split at h
 ·cases h
 ·rename_i y e;exact .inl ⟨y,e⟩
 ·rename_i b e;cases h;exact .inr ⟨b,e,rfl⟩
theorem get_mem : ∀ {env : Env} {t : Nat} {v : V}, get t env = v → v ≠ .any → (t, v) ∈ env
 |[],t,v,h,hv=>absurd h.symm hv
 |(s,u)::r,t,v,h,hv=>by
  rw [bW] at h
  split at h
  ·rename_i e;subst e;subst h;exact List.mem_cons_self ..
  ·exact List.mem_cons_of_mem _ (get_mem h hv)
theorem Ir {π : List Nat} {cl : List Nat} {env : Env} {Hh : aG} {mss : List Nat} {S' : St} (h : jh base π ⟨ee cl env, Hh, mss⟩ S') {mn id bm : Nat} (hid : get mn env = .mp id) {kt vt : Ty} {kg vg : Bool} {es : List (kt.den × vt.den)}
  (Cz:jq Hh.bl kt kg vt vg id=some es) {L:Loc} (hL:μ id=some L) (Xd:L.b=bm) (yG:Nat) (h2:get mn S'.env = .mp yG) :
  (∃L,(μ.eZ π) yG=some L∧L.b=bm)∧∀es',jq S'.H.bl kt kg vt vg yG=some es'→es'=es:=by
 have aj:=h.env _ (get_mem h2 (by simp))
 try simp only at aj
 have hπ:π[yG]?=some id:=by
  rcases qi (cl:=cl) (env:=env) (t:=mn) with e|e<;>rw [e] at aj
  ·cases aj
  ·rw [hid] at aj;cases aj with|mp _ _ hi=>exact hi
 refine ⟨⟨L,by simp [Mu.eZ,hπ,hL],Xd⟩,fun es' he'=>?_⟩
 obtain ⟨i,e1,hb⟩:=h.bl _ (dx (dY he'))
 try simp only at e1 hb
 rw [hπ] at e1;cases e1
 have Km:=dY Cz
 try simp only at Km
 rw [Km] at hb
 simp only [Option.some.injEq,kR.map.injEq,heq_eq_eq,true_and] at hb
 exact hb.symm
theorem jZ.up {w:World} {ι:au} {r:Nat} (h:jZ Y out) (hm:Y.m0.le μ):jZ (Y.side w ι μ r) out:=by
 cases out with
 |none=>exact h
 |some o=>obtain ⟨Lo,h1,h2⟩:=h;exact ⟨Lo,hm _ _ h1,h2⟩
theorem Ext.lift {Ya Yb : Ctx} {r : Nat} (hinv : ∀ {ι : au} {μ : Mu} {H : aG} {w : World}, Inv P Ya ι μ H w → Inv P Yb ι μ H w) (hown : ∀ b, Ya.own b → Yb.own b) (hro : Yb.ro = Ya.ro) (hm0 : Yb.m0.le Ya.m0) (Bc : Yb.hid = Ya.hid)
  (hr:r<Ya.w0.heap.size∧¬Ya.own r) (hrb:Yb.own r) {Y1:Ctx} (h:Ext P Ya Y1) :
  ∃Y2,Ext P Yb Y2∧(∀{ι:au} {μ:Mu} {H:aG} {w:World},Inv P Y1 ι μ H w→Inv P Y2 ι μ H w)∧(∀b,Y1.own b→Y2.own b)∧Y2.ro=Y1.ro∧Y2.m0.le Y1.m0∧Y2.hid=Y1.hid∧(r<Y1.w0.heap.size∧¬Y1.own r)∧Y2.own r:=by
 induction h with
 |refl=>exact ⟨Yb,.refl Yb,hinv,hown,hro,hm0,Bc,hr,hrb⟩
 |step h ro hI hr' own ih =>
  rename_i Y1 ι1 μ1 H1 w1 r'
  obtain ⟨Y2,e1,e2,e3,e4,e5,e6,e7,e8⟩:=ih
  have hlt:=(Array.getElem?_eq_some_iff.1 hr').1
  have hne:r≠r':=fun e=>by subst e;exact e7.2 own
  have hs:=hI.below.size
  refine ⟨Y2.uL w1 ι1 r',.step e1 (e4.trans ro) (e2 hI) hr' (e3 _ own),fun {ι μ H w} h=>?_,fun b hb=>?_,e4,e5,?_,⟨?_,fun hX=>?_⟩,.inr ⟨e8,hne⟩⟩
  ·have hx : ∀ b, (Y1.uL w1 ι1 r').x b → (Y2.uL w1 ι1 r').x b := fun b hb => ⟨e3 _ hb.1, hb.2⟩
   exact ⟨⟨h.below.os,h.below.tape,h.below.output,h.below.size,fun k hk hx'=>h.below.block k hk (fun hh=>hx' (hx _ hh)),h.below.dr,h.below.maps⟩,h.i0,fun b o hb hx'=>h.iB b o hb (fun hh=>hx' (hx _ hh)),h.rd,Mu.le_trans e5 h.m0,h.nx,
    fun id B hB=>(h.live id B hB).owns fun L _ ho=>ho.imp (fun h=>h) (hx _),h.inj,h.lt,h.gl⟩
  ·exact hb.imp (fun h=>h) fun h=>⟨e3 _ h.1,h.2⟩
  ·show r' :: Y2.hid = r' :: Y1.hid
   rw [e6]
  ·exact Nat.lt_of_lt_of_le e7.1 hs
  ·rcases hX with hX | hX
   ·have : w1.heap.size ≤ r := hX
    omega
   ·exact e7.2 hX.1
theorem KD.inj {t:Ty} {β:Type} {es:List (t.den×β)} (h:KD t es) {a b:t.den×β} (ha:a∈es) (hb:b∈es) (hab:dJ t a.1 b.1=true):a=b:=by
 have haa:dJ t a.1 a.1=true:=by
  have:=bL hab
  rw [←this] at hab;exact hab
 have h1:=mJ (d:=a.2) h ha haa
 have h2:=mJ (d:=a.2) h hb hab
 exact Prod.ext (bL hab) (h1.symm.trans h2)
theorem tq {ι ι' : au} : ∀ {t : Ty} {ks : List Kd} {x y : t.den} {vs : List Value}, bF t = some ks → ag ι t x vs → ag ι' t y vs → dJ t x y = true
 | .unit,ks,x,y,vs,h,hx,hy=>rfl
 | .bool,ks,x,y,vs,h,hx,hy=>by simp only [ag] at hx hy;subst hx;simpa [dJ] using hy
 | .str,ks,x,y,vs,h,hx,hy=>by
  simp only [ag] at hx hy;subst hx
  simp only [List.cons.injEq,Value.string.injEq,and_true] at hy
  subst hy;simp [dJ]
 | .int k,ks,x,y,vs,h,hx,hy=>by simp only [ag] at hx hy;subst hx;simpa [dJ] using hy
 | .list _,ks,x,y,vs,h,hx,hy=>by cases h
 | .cu _ _ _,ks,x,y,vs,h,hx,hy=>by cases h
 | .prod a b,ks,x,y,vs,h,hx,hy=>by
  simp only [bF] at h
  split at h<;>try (cases h;done)
  rename_i k1 k2 h1 h2
  obtain ⟨us,ws,e1,d1,d2⟩:=hx
  obtain ⟨us',ws',e2,d1',d2'⟩:=hy
  rw [e1] at e2
  obtain ⟨rfl,rfl⟩:=List.append_inj e2 (by rw [d1.length,d1'.length])
  simp only [dJ,tq h1 d1 d1',tq h2 d2 d2',Bool.and_self]
theorem M8 {k:TypeId} {kt:Ty} {kg:Bool} (h:vQ P k=some (kt,kg)):∃ks,bF kt=some ks:=by
 unfold vQ at h
 split at h<;>try (cases h;done)
 ·cases h;exact ⟨_,rfl⟩
 ·cases h;exact ⟨_,rfl⟩
 ·split at h <;> try (cases h; done)
  split at h<;>try (cases h;done)
  rename_i hc
  cases h
  exact ⟨_,hc.1⟩
theorem Kn {g:Bool} {xs ys:List Value} {v:Value} (h1:iq g xs=some v) (h2:iq g ys=some v):xs=ys:=by
 cases g with
 |true =>
  simp only [iq,Option.some.injEq] at h1 h2
  subst h1
  simp only [Value.agg.injEq] at h2
  have:=congrArg Array.toList h2
  simpa using this.symm
 |false =>
  match xs,ys,h1,h2 with
  |[x],[y],h1,h2 =>
   simp only [iq,Option.some.injEq] at h1 h2
   rw [h1,h2]
  |[],_,h1,_=>simp [iq] at h1
  |_::_::_,_,h1,_=>simp [iq] at h1
  |[_],[],_,h2=>simp [iq] at h2
  |[_],_::_::_,_,h2=>simp [iq] at h2
theorem RK {k:TypeId} {kt:Ty} {kg:Bool} (h:vQ P k=some (kt,kg)) {x y:kt.den} {z:Value} (hx:fO ι kg kt x z) (hy:fO ι' kg kt y z):dJ kt x y=true:=by
 obtain ⟨ks,hks⟩:=M8 h
 obtain ⟨xs,h1,h2⟩:=hx
 obtain ⟨ys,h3,h4⟩:=hy
 have:=Kn h2 h4
 subst this
 exact tq hks h1 h3
structure MI {α:Type} (P:Program) (N:Nat) (Y:Ctx) (I:α→St) (mn it:Nat) (kt:Ty) (kg:Bool) (vt:Ty) (vg:Bool) (es dB:List (kt.den×vt.den)) (kz:List Value) (bm r since:Nat) (bs todo:List Nat) (x:α) (a:Act) (w:World) (ι:au) (μ:Mu) (seen:Array Nat) (c0:Nat) (ms:Array MapEntry) (clock:Nat):Prop where
 rep:eM P N Y ι μ (I x) a w
 it:a.tmps.getD it undef = .pointer (some ⟨r,0,none⟩)
 own:Y.own r
 hr:w.heap[r]?=some (.mapIter (some bm) since seen c0)
 sc:since≤c0
 ck:since≤clock
 hm:w.heap[bm]?=some (.map ms clock)
 Vv:ms.toList.map (·.born)=bs
 hkz:ms.toList.map (·.key)=kz
 hke:∀(i:Nat) e z,dB[i]?=some e→kz[i]?=some z→fO ι kg kt e.1 z
 old:∀b∈bs,b<since
 nd:bs.Nodup
 len:dB.length=bs.length
 td:todo.Nodup
 left:∀i,i∈todo↔∃b,bs[i]?=some b∧b∉seen.toList
 here:∀id,get mn (I x).env = .mp id→(∃L,μ id=some L∧L.b=bm)∧∀es',jq (I x).H.bl kt kg vt vg id=some es'→es'=es
def Dy (pH : Nat) : Ex → Ex
 | .exit i=>match Nat.beq i pH with
  |true=>.normal
  |false=>.exit i
 |e=>e
theorem M9 {α:Type} (es:List α) (d:α):(List.range es.length).map (fun i=>es.getD i d)=es:=by
 apply List.ext_getElem
 ·simp
 ·intro i h1 h2;simp at h1;simp [List.getD,h1]
theorem Dz (gT : ∀ base, mM P N out base) {α β : Type} {I : α → St} {X : β → Ex × St} {pre : List eR} {mn it : Nat} {cl : List Nat} {e : Option Nat} {kt vt : Ty} {kg vg : Bool} {pH : Nat} {bd : C}
  {step:kt.den×vt.den→α→Option (α ⊕ β)} {aC:Nat} (hI:∀x s,s∈it::cl→get s (I x).env = .any) (Ik:∀x,(I x).H.next=aC)
  (hstep:∀k5 x r,step k5 x=some r→∃id es',get mn (I x).env = .mp id∧jq (I x).H.bl kt kg vt vg id=some es' ∧
   qP (gn P N out (aC+1)) bd ⟨RH e kt kg vt vg k5 ((it,.ptr aC 0)::(I x).env),⟨aC+1,(I x).H.bl⟩,(I x).ms⟩ fun ex S'=>match r with
    | .inl y=>ex = .normal∧get it S'.env = .ptr aC 0∧get mn S'.env = .mp id∧jq S'.H.bl kt kg vt vg id=some es'∧∃π,jh base π ⟨ee (it::cl) S'.env,S'.H,S'.ms⟩ (I y)
    | .inr b=>ex ≠ .normal∧ex=(X b).1∧∃π,jh base π S' (X b).2)
  {S:St} {K:Ex→St→Prop}
  (hpre:fD (gn P N out base) pre S fun S1=>∃id es x π,get mn S1.env = .mp id∧jq S1.H.bl kt kg vt vg id=some es∧jh base π ⟨ee (it::cl) S1.env,S1.H,S1.ms⟩ (I x) ∧
   ∀l:List (kt.den×vt.den),l.Perm es→∃res,yT step l x=some res∧(match res with | .inl y=>K .normal (I y) | .inr b=>K (Dy pH (X b).1) (X b).2)) :
  (gn P N out base).gK (.gK pre (.t mn) it cl e kt kg vt vg pH bd) S K:=by
 intro ca cb htr hsome
 have htr0:=htr
 simp only [fB] at htr
 split at htr<;>try (cases htr;done)
 rename_i xa xb htra htrb
 split at htr
 ·rename_i hn;rw [hn] at hsome;cases hsome
 rename_i hd hmh
 split at htr<;>try (cases htr;done)
 rename_i Rv hbd
 obtain ⟨hpre',hm',qj,hcl',he',wY,XH,yV,XI,zV⟩:=hd
 simp only [Option.some.injEq,C.gK.injEq] at htr
 obtain ⟨rfl,rfl,rfl,rfl,rfl,rfl,rfl,rfl,rfl,rfl,rfl⟩:=htr
 obtain ⟨ia,yU,oA,rr,t,xo,b3,i2,tn,o1,o2,n,ok,y,rfl,hlA,XJ,hdA,hgA,hitN,C6,LJ,mN,rfl,Cy,Gb,M6,hg1,Kk,hd2,hg2,hnN,hokN,hnit,Vw,yI,he⟩:=Ga hmh
 simp only at XJ hdA hgA hitN C6 LJ mN Gb hnit Vw yI he hbd
 subst yI
 obtain ⟨cx,cc,cy,Kl,rfl⟩:=RJ htrb
 subst he
 intro Y ι μ a w hout hbase hR
 refine wpIn_seq (wpIn_region ?_)
 have hszA:yU.size=rr.length+1:=by rw [←Array.length_toList,hlA];simp
 have XK:List.range yU.size=List.range' 0 rr.length++[rr.length]:=by
  rw [hszA,List.range_succ,List.range_eq_range']
 rw [XK]
 refine sW (Y:=Y) (out:=out) (base:=base) (k:=0) (K:=fun S1=>∃id es x π,get mn S1.env = .mp id∧jq S1.H.bl wY XH yV XI id=some es∧jh base π ⟨ee (qj::[n,ok]) S1.env,S1.H,S1.ms⟩ (I x) ∧
   ∀l:List (wY.den×yV.den),l.Perm es→∃res,yT step l x=some res∧(match res with | .inl y=>K .normal (I y) | .inr b=>K (Dy zV (X b).1) (X b).2)) ?_ mN (fun j hj=>?_) hR hpre
 rotate_left
 ·rw [←Array.getElem?_toList,hlA,Nat.zero_add,List.getElem?_append_left (by assumption)]
 clear hR hpre
 intro ι μ S1 a w hR hK1
 obtain ⟨id,es,x,π,hmid,qk,cE,hres⟩:=hK1
 -- the iterator is made
 have hv:=hR.env mn
 rw [hmid] at hv
 generalize hav:a.tmps.getD mn undef=mv at hv
 cases hv with
 |mp _ L hL =>
 have hb:=dY qk
 obtain ⟨L',ms,clock,dB,q1,q2,q3,q4,q5,q6,hp0,hd0⟩:=hR.inv.live _ _ hb
 rw [hL] at q1;cases q1
 obtain ⟨kT,eT,huT,hkT,_⟩:=jY C6
 have dD:a.eval xo = .map (some L.b):=by
  have:xo = .tmp mn:=by
   cases xo<;>simp only [dA] at LJ
   ·cases LJ;rfl
   ·split at LJ<;>cases LJ
   ·cases LJ
   ·cases LJ
  rw [this];exact hav
 have hoA:yU[rr.length]?=some oA:=by rw [←Array.getElem?_toList,hlA];simp
 refine ud (x := .pointer (some ⟨w.heap.size, 0, none⟩)) (w' := w.alloc (.mapIter (some L.b) clock #[] clock)) (fun _ => trivial) rfl hoA (gG hgA _) (by rw [XJ]; intro c; simp) (.inl (by
  unfold execOp;rw [XJ];simp only [dD,Sem.run_bind,run_range_map w t kT eT L.b ms clock huT q3];rfl)) ?_
 simp only [wpOpsIn]
 rw [hdA]
 have qF:eM P N Y ι μ ⟨ee (qj::[n,ok]) S1.env,S1.H,S1.ms⟩ (a.put (some qj) (.pointer (some ⟨w.heap.size,0,none⟩))) (w.alloc (.mapIter (some L.b) clock #[] clock)):=by
  have h1:eM P N Y ι μ ⟨ee (qj::[n,ok]) S1.env,S1.H,S1.ms⟩ a w:=⟨hR.env.forget _,hR.sz,hR.inv,hR.ms⟩
  have h2:=h1.over (d:=qj) (by simp [ee,get]) (.pointer (some ⟨w.heap.size,0,none⟩))
  exact ⟨h2.env,h2.sz,h2.inv.junk _,h2.ms⟩
 have ny:=cE.rep hbase qF
 have hlt:L.b<w.heap.size:=(Array.getElem?_eq_some_iff.1 q3).1
 have RL:MI P N Y I mn qj wY XH yV XI es dB (ms.toList.map (·.key)) L.b w.heap.size clock (ms.toList.map (·.born)) (List.range dB.length) x (a.put (some qj) (.pointer (some ⟨w.heap.size,0,none⟩))) (w.alloc (.mapIter (some L.b) clock #[] clock)) ι (μ.eZ π) #[] clock ms clock:=by
  refine ⟨ny,Bs (by rw [hR.sz];exact hitN),.inl hR.inv.below.size,heap_alloc_new _ _,Nat.le_refl _,Nat.le_refl _,(heap_alloc_old _ _ hlt).trans q3,rfl,rfl,fun i e z he hz=>?_,fun b hb=>?_,q6,?_,List.nodup_range,fun i=>?_,fun yG h2=>?_⟩
  ·rw [List.getElem?_map] at hz
   cases hm:ms.toList[i]? with
   |none=>rw [hm] at hz;cases hz
   |some m =>
    rw [hm] at hz;cases hz
    obtain ⟨e',he',hk,_⟩:=q4.at hm
    rw [he] at he';cases he'
    exact hk
  ·obtain ⟨m, hm, rfl⟩ := List.mem_map.1 hb
   exact q5 m hm
  ·rw [List.length_map,eV.length q4]
  ·have hlen := eV.length q4
   simp only [List.mem_range,List.not_mem_nil,not_false_eq_true,and_true]
   constructor
   ·intro hi
    exact ⟨_,List.getElem?_eq_getElem (show i<(ms.toList.map (·.born)).length by simp at hlen ⊢;omega)⟩
   ·rintro ⟨b, hb⟩
    have:=(List.getElem?_eq_some_iff.1 hb).1
    simp at this hlen;omega
  ·exact Ir cE hmid qk hL rfl yG h2
 have hat0:∀J:List Nat,J.Perm (List.range dB.length)→∃res,yT step (J.map fun i=>dB.getD i (wY.zero,yV.zero)) x=some res∧(match res with | .inl y=>K .normal (I y) | .inr b=>K (Dy zV (X b).1) (X b).2):=fun J hJ =>
  hres _ (((hJ.map _).trans (by rw [M9])).trans hp0)
 have hdE:KD wY es:=hd0.perm hp0
 clear hres qF ny qk hmid cE q3 q5 q6 dD hoA hav hb hR hL hlt
 generalize (a.put (some qj) (.pointer (some ⟨w.heap.size,0,none⟩)))=a1 at RL ⊢
 generalize hw1:w.alloc (.mapIter (some L.b) clock #[] clock)=w1 at RL ⊢
 generalize w.heap.size=r at RL
 generalize Vv:ms.toList.map (·.born)=bs at RL
 generalize hkz:ms.toList.map (·.key)=kz at RL
 generalize L.b=bm at RL
 have hlen:dB.length=bs.length:=RL.len
 clear hw1 Vv hkz
 show Code.wpIn _ _ _ (.block zV _) _ _ _
 refine wpIn_block (wpIn_mono ?_ fun e a w hp=>wX hp)
 refine wpIn_loop_ghost (fun (g:List Nat×α) a w=>(∃Y1,Ext P Y Y1∧∃ι μ seen c0 ms clock',MI P N Y1 I mn qj wY XH yV XI es dB kz bm r clock bs g.1 g.2 a w ι μ seen c0 ms clock') ∧
  ∀J:List Nat,J.Perm g.1→∃res,yT step (J.map fun i=>dB.getD i (wY.zero,yV.zero)) g.2=some res∧(match res with | .inl y=>K .normal (I y) | .inr b=>K (Dy zV (X b).1) (X b).2)) (fun g=>g.1.length) (x:=(List.range dB.length,x)) ⟨⟨Y,.refl Y,_,_,_,_,_,_,RL⟩,hat0⟩ ?_
 clear RL hat0
 rintro ⟨todo,x⟩ a w ⟨⟨Y0,QI,ι,μ,seen,c0,ms,clock',M⟩,H6⟩
 simp only at M H6
 refine wpIn_seq (wpIn_region ?_)
 have hsz2:tn.size=2:=by rw [←Array.length_toList,Cy];rfl
 rw [show List.range tn.size=[0,1] by rw [hsz2];rfl]
 have hO0:tn[0]?=some o1:=by rw [←Array.getElem?_toList,Cy];rfl
 have hO1:tn[1]?=some o2:=by rw [←Array.getElem?_toList,Cy];rfl
 have XM:=M.rep.sz
 have Vx:a.eval (.tmp qj) = .pointer (some ⟨r,0,none⟩):=M.it
 have hold:∀m∈ms.toList,m.born<clock:=fun m hm=>M.old _ (by rw [←M.Vv];exact List.mem_map.2 ⟨m,hm,rfl⟩)
 have eA:∀v,get n (I x).env = .any∧get ok (I x).env = .any∧(a.put (some n) v).eval (.tmp n)=v:=fun v=>⟨hI x n (by simp),hI x ok (by simp),Bs (by rw [XM];exact hnN)⟩
 rcases run_next_at (P:=P) w o1.type r bm clock c0 seen ms clock' M.hr M.hm hold M.sc with ⟨h0,hrun⟩|⟨en,hel,w1,hw1,hrun⟩
 ·refine ud (x := .tuple #[.bool false]) (w' := w) (fun _ => trivial) rfl hO0 (gG hg1 _) (by rw [Gb]; intro c; simp) (.inl (by
   unfold execOp;rw [Gb];simp only [Vx,Sem.run_bind,hrun];rfl)) ?_
  rw [M6]
  refine ud (x := .bool false) (w' := w) (fun _ => trivial) rfl hO1 (gG hg2 _) (by rw [Kk]; intro c; simp) (.inl (by
   unfold execOp;rw [Kk];simp only [(eA _).2.2];simp [Instr.extract])) ?_
  rw [hd2]
  simp only [wpOpsIn]
  show Code.wpIn _ _ _ (.seq _ _) _ _ _
  refine wpIn_seq (wpIn_cond_false (Bs (by simpa [Act.put,XM] using hokN)) (wpIn_exit ?_))
  have abV:todo=[]:=by
   cases htd:todo with
   |nil=>rfl
   |cons i _ =>
    exfalso
    obtain ⟨b,iC,eC⟩:=(M.left i).1 (by rw [htd];exact List.mem_cons_self ..)
    rw [←M.Vv,List.getElem?_map] at iC
    cases XN:ms.toList[i]? with
    |none=>rw [XN] at iC;cases iC
    |some m =>
     rw [XN] at iC;cases iC
     have:m∈leftOf ms seen:=by
      simp only [leftOf,Array.mem_filter]
      exact ⟨by simpa using List.mem_of_getElem? XN,by simpa using eC⟩
     have hp:=Array.size_pos_of_mem this
     omega
  subst abV
  obtain ⟨res,hr,hK⟩:=H6 [] (.refl _)
  simp only [List.map_nil,yT,Option.some.injEq] at hr
  subst hr
  refine ⟨Y0,QI,ι,μ,I x,.exit zV,?_,rfl,?_⟩
  ·have h1 := (M.rep.over (eA .nilFunc).1 (.tuple #[.bool false])).over (eA .nilFunc).2.1 (.bool false)
   exact h1
  ·simp only [Nat.beq_refl];exact hK
 ·-- an entry
  have XO:w1.heap=w.heap:=by rcases hw1 with rfl|rfl<;>rfl
  have qF:eM P N Y0 ι μ (I x) a w1:=by
   rcases hw1 with rfl|rfl
   ·exact M.rep
   ·exact ⟨M.rep.env,M.rep.sz,M.rep.inv.drew,M.rep.ms⟩
  have CY:w1.heap[r]?=some (.mapIter (some bm) clock seen c0):=by rw [XO];exact M.hr
  have gj:w1.heap[bm]?=some (.map ms clock'):=by rw [XO];exact M.hm
  have hne:bm≠r:=fun e=>by subst e;rw [CY] at gj;cases gj
  have hrlt:r<w1.heap.size:=(Array.getElem?_eq_some_iff.1 CY).1
  change (Instr.next _ _ _).run P w = .ok _ (w1.putObj r (.mapIter (some bm) clock (seen.push en.born) clock')) at hrun
  generalize hw2:w1.putObj r (.mapIter (some bm) clock (seen.push en.born) clock')=w2 at hrun
  have C0:w2.heap[r]?=some (.mapIter (some bm) clock (seen.push en.born) clock'):=by rw [←hw2];exact World.putObj_heap_same hrlt
  have hm2:w2.heap[bm]?=some (.map ms clock'):=by rw [←hw2,World.putObj_heap_other hne];exact gj
  have uq:Inv P Y0 ι μ (I x).H w2:=by rw [←hw2];exact qF.inv.side CY M.own _
  have abX:Y0.w0.heap.size≤w2.heap.size:=uq.below.size
  clear hw2 gj CY qF hw1 XO hrlt
  refine ud (x := .tuple #[.bool true, en.key, en.val]) (w' := w2) (fun _ => trivial) rfl hO0 (gG hg1 _) (by rw [Gb]; intro c; simp) (.inl (by
   unfold execOp;rw [Gb];simp only [Vx,Sem.run_bind,hrun];rfl)) ?_
  rw [M6]
  refine ud (x := .bool true) (w' := w2) (fun _ => trivial) rfl hO1 (gG hg2 _) (by rw [Kk]; intro c; simp) (.inl (by
   unfold execOp;rw [Kk];simp only [(eA _).2.2];simp [Instr.extract])) ?_
  rw [hd2]
  simp only [wpOpsIn]
  show Code.wpIn _ _ _ (.seq _ _) _ _ _
  refine wpIn_seq (wpIn_cond_true (Bs (by simpa [Act.put,XM] using hokN)) (wpIn_skip ?_))
  have hRa:eM P N Y0 ι μ (I x) ((a.put (some n) (.tuple #[.bool true,en.key,en.val])).put (some ok) (.bool true)) w2:=by
   have h1:=(M.rep.over (eA .nilFunc).1 (.tuple #[.bool true,en.key,en.val])).over (eA .nilFunc).2.1 (.bool true)
   exact ⟨h1.env,h1.sz,uq,h1.ms⟩
  have XP:((a.put (some n) (.tuple #[.bool true,en.key,en.val])).put (some ok) (.bool true)).tmps.getD qj undef = .pointer (some ⟨r,0,none⟩):=by
   rw [M5 Vw,M5 hnit];exact M.it
  show Code.wpIn _ _ _ (.block b3 y) _ _ _
  generalize ((a.put (some n) (.tuple #[.bool true,en.key,en.val])).put (some ok) (.bool true))=a2 at hRa XP
  -- which one
  have XQ:en∈ms.toList∧en.born∉seen.toList:=by
   have:en∈leftOf ms seen:=by simpa using hel
   simp only [leftOf,Array.mem_filter] at this
   exact ⟨by simpa using this.1,by simpa using this.2⟩
  obtain ⟨i,hi⟩:=List.getElem?_of_mem XQ.1
  have hbi:bs[i]?=some en.born:=by rw [←M.Vv,List.getElem?_map,hi];rfl
  have Gc:i∈todo:=(M.left i).2 ⟨_,hbi,XQ.2⟩
  have ur:∀J:List Nat,J.Perm (todo.erase i)→∃res,yT step (dB.getD i (wY.zero,yV.zero)::J.map fun i=>dB.getD i (wY.zero,yV.zero)) x=some res∧(match res with | .inl y=>K .normal (I y) | .inr b=>K (Dy zV (X b).1) (X b).2):=fun J hJ =>
   H6 (i::J) ((hJ.cons i).trans (List.perm_cons_erase Gc).symm)
  have hs1:∃q,step (dB.getD i (wY.zero,yV.zero)) x=some q:=by
   obtain ⟨res,hr,_⟩:=ur _ (.refl _)
   rcases Dx hr with ⟨y,hy⟩|⟨b,hb,_⟩
   ·exact ⟨_,hy⟩
   ·exact ⟨_,hb⟩
  obtain ⟨q,hq⟩:=hs1
  obtain ⟨id,es',hmid,qk,hwp⟩:=hstep _ _ _ hq
  obtain ⟨⟨L,hL,Xd⟩,Cz⟩:=M.here id hmid
  have:=Cz es' qk
  subst this
  obtain ⟨L',ms2,ck2,Fi,z1,z2,z3,z4,z5,z6,z7,z8⟩:=uq.live id _ (dY qk)
  rw [hL] at z1;cases z1
  rw [Xd,hm2] at z3;cases z3
  obtain ⟨e0,he0,hk,hv⟩:=z4.at hi
  have hat:dB.getD i (wY.zero,yV.zero)=e0:=by
   have hil:i<dB.length:=by
    have:=(List.getElem?_eq_some_iff.1 hbi).1
    rw [M.len];exact this
   have h1:dB[i]?=some dB[i]:=List.getElem?_eq_getElem hil
   have h2:=M.hke i _ en.key h1 (by rw [←M.hkz,List.getElem?_map,hi];rfl)
   have h3:=hdE.inj (hp0.mem_iff.1 (List.getElem_mem hil)) (z7.mem_iff.1 (List.mem_of_getElem? he0)) (RK hkT h2 hk)
   rw [List.getD_eq_getElem?_getD,h1]
   exact h3
  rw [hat] at hq hwp ur
  have hx0:=Ik x
  let L0:Loc:=⟨r,0,0,0⟩
  have Na:Inv P Y0 ι (μ.set aC L0) ⟨aC+1,(I x).H.bl⟩ w2:=by rw [←hx0];exact uq.name L0
  have hnone:μ aC=none:=by rw [←hx0];exact uq.nx _ (Nat.le_refl _)
  have hle:=Mu.fF (L:=L0) hnone
  have hRs:eM P N (Y0.side w2 ι (μ.set aC L0) r) ι (μ.set aC L0) ⟨(qj,.ptr aC 0)::(I x).env,⟨aC+1,(I x).H.bl⟩,(I x).ms⟩ a2 w2:=by
   refine ⟨fun t=>?_,hRa.sz,Na.into C0,hRa.ms.mono hle⟩
   rw [bW]
   split
   ·rename_i e; subst e
    rw [XP]
    have:=Rel.ptr (ι:=ι) (μ:=μ.set aC L0) aC 0 L0 (by simp [Mu.set])
    exact this
   ·exact (hRa.env t).mono (au.le_refl _) hle
  have cE:=run_entry_at (P:=P) w2 r bm clock seen ms clock' en C0 hm2 XQ.1 (by rw [M.Vv];exact M.nd)
  have Nb:jZ (Y0.side w2 ι (μ.set aC L0) r) out:=(QI.Xl hout).up (Mu.le_trans M.rep.inv.m0 hle)
  have iF:(Y0.side w2 ι (μ.set aC L0) r).base (aC+1):=fun id hid=>Na.nx id hid
  have hF:(Y0.side w2 ι (μ.set aC L0) r).F=Y.F:=QI.F
  rw [←hF]
  refine wpIn_mono (M7 (Y:=Y0.side w2 ι (μ.set aC L0) r) (gT (aC+1)) Kl hbd Nb iF hRs XP cE (hk.rel) (hv.rel) hwp) fun e3 a3 w3 hp=>?_
  obtain ⟨Y1,MR,ι3,μ3,S3,ex,LI,Vs,Rw⟩:=hp
  have pN:Inv P (Y0.side w2 ι (μ.set aC L0) r) ι3 μ3 S3.H w3:=MR.inv LI.inv
  have RM:(μ.set aC L0).le μ3:=pN.m0
  have abZ:=(Array.getElem?_eq_some_iff.1 C0).1
  obtain ⟨Y2,hY2,Nc,-,-,-,Bc,-,Nd⟩:=MR.lift (Yb:=Y0) (r:=r) (fun h=>Na.abQ h) (fun b hb=>by
   rcases hb with hb|hb
   ·exact .inl (Nat.le_trans abX hb)
   ·exact hb.1) rfl (Mu.le_trans M.rep.inv.m0 hle) rfl ⟨abZ,fun h=>by
    rcases h with h|h
    ·have : w2.heap.size ≤ r := h
     omega
    ·exact h.2 rfl⟩ M.own
  have hYt:=QI.trans hY2
  have Is:Inv P Y2 ι3 μ3 S3.H w3:=Nc LI.inv
  have hms3:jg Y2.hid μ3 S3.ms a3.defers:=by rw [Bc];exact LI.ms
  cases q with
  |inr b =>
   obtain ⟨hne3,hex,π3,It⟩:=Rw
   obtain ⟨res,hr,hK⟩:=ur _ (.refl _)
   have hres:res = .inr b:=by
    rcases Dx hr with ⟨y,hy⟩|⟨b',hb,h⟩
    ·rw [hq] at hy;cases hy
    ·rw [hq] at hb;cases hb;exact h
   subst hres
   have hRb:=It.rep (hYt.ua hbase) (⟨LI.env,LI.sz,Is,hms3⟩:eM P N Y2 ι3 μ3 S3 a3 w3)
   subst hex
   simp only at hK
   generalize hxb:(X b).1=xb at hK Vs hne3
   cases xb with
   |normal=>exact absurd rfl hne3
   |exit i' =>
    cases Vs
    refine ⟨Y2,hYt,ι3,_,_,.exit i',hRb,rfl,?_⟩
    simp only [Dy] at hK
    split at hK
    ·rename_i hb;simp only [hb];exact hK
    ·rename_i hb;simp only [hb];exact hK
   |ret=>cases Vs;exact ⟨Y2,hYt,ι3,_,_,.ret,hRb,rfl,hK⟩
  |inl y =>
   obtain ⟨rfl,hit3,hmn3,Bt,π3,It⟩:=Rw
   cases Vs
   have hRf:eM P N Y2 ι3 μ3 ⟨ee (qj::[n,ok]) S3.env,S3.H,S3.ms⟩ a3 w3:=⟨LI.env.forget _,LI.sz,Is,hms3⟩
   have hRy:=It.rep (hYt.ua hbase) hRf
   have hbm3 : w3.heap[bm]? = some (.map ms clock') ∨ ∃ Vy ck3, w3.heap[bm]? = some (.map Vy ck3) := .inr (by
    obtain ⟨L3,Vy,ck3,es3,y1,y2,y3,_⟩:=Is.live id _ (dY Bt)
    rw [RM _ _ (hle _ _ hL)] at y1;cases y1
    exact ⟨Vy,ck3,by rw [←Xd];exact y3⟩)
   obtain ⟨L3,Vy,ck3,es3,y1,y2,y3,y4,y5,y6,y7,_⟩:=Is.live id _ (dY Bt)
   rw [RM _ _ (hle _ _ hL)] at y1;cases y1
   rw [Xd] at y3
   have ab4:bm<w2.heap.size:=(Array.getElem?_eq_some_iff.1 hm2).1
   have hgrow:=pN.below.maps bm ab4 ms clock' hm2
   obtain ⟨ms4,ck4,g1,g2,g3⟩:=hgrow
   rw [y3] at g1;cases g1
   have hbk:(Vy.toList.map fun m=>(m.born,m.key))=ms.toList.map fun m=>(m.born,m.key):=by
    refine (g2.eq_of_length ?_).symm
    have h1:=uq.live id _ (dY qk)
    have h2:ms.toList.length=bs.length:=by rw [←M.Vv,List.length_map]
    rw [List.length_map,List.length_map,eV.length y4,y7.length_eq,←hp0.length_eq,hlen,h2]
   have wu:Vy.toList.map (·.born)=bs:=by
    have:=congrArg (List.map Prod.fst) hbk
    rw [←M.Vv];simpa [List.map_map,Function.comp_def] using this
   have hkeys:Vy.toList.map (·.key)=kz:=by
    have:=congrArg (List.map Prod.snd) hbk
    rw [←M.hkz];simpa [List.map_map,Function.comp_def] using this
   refine ⟨⟨todo.erase i,y⟩,⟨⟨Y2,hYt,ι3,_,seen.push en.born,clock',Vy,ck3,hRy,?_,Nd,?_,M.ck,Nat.le_trans M.ck g3,y3,wu,hkeys,fun i e z he hz=>(M.hke i e z he hz).mono (fun b o x hx=>pN.i0 b o x hx),M.old,M.nd,M.len,M.td.erase i,fun j=>?_,?_⟩,fun J hJ=>?_⟩,?_⟩
   ·have := LI.env qj
    rw [hit3] at this
    generalize a3.tmps.getD qj undef=tv at this ⊢
    cases this with
    |ptr _ _ L4 h4 =>
     rw [RM aC L0 (by simp [Mu.set])] at h4
     cases h4
     rfl
   ·have := pN.below.block r (Array.getElem?_eq_some_iff.1 C0).1 (fun h => h.2 rfl)
    rw [this];exact C0
   ·rw [List.Nodup.mem_erase_iff M.td, M.left j]
    simp only [Array.toList_push,List.mem_append,List.mem_singleton]
    constructor
    ·rintro ⟨hj, b, hb, hs⟩
     refine ⟨b,hb,fun h=>?_⟩
     rcases h with h|h
     ·exact hs h
     ·subst h
      exact hj ((List.getElem?_inj (List.getElem?_eq_some_iff.1 hb).1 M.nd).1 (hb.trans hbi.symm))
    ·rintro ⟨b, hb, hs⟩
     refine ⟨fun e=>?_,b,hb,fun h=>hs (.inl h)⟩
     subst e
     rw [hbi] at hb;cases hb
     exact hs (.inr rfl)
   ·exact fun yG h2=>Ir It hmn3 Bt (RM _ _ (hle _ _ hL)) Xd yG h2
   ·obtain ⟨res, h, hK⟩ := ur J hJ
    simp only [yT,hq] at h
    exact ⟨res,h,hK⟩
   ·rw [List.length_erase_of_mem Gc]
    have:=List.length_pos_of_mem Gc
    show todo.length - 1<todo.length
    omega
end
end Go.AM
end
section
namespace Go.AM
structure Kz (R:Type) where
 br:Bool→R→R→R
 am:R→R→R
 nd:Bool→R→R
 no:R
 bd:{A:Type}→Option A→(A→R)→R
 sm:{A B:Type}→A ⊕ B→(A→R)→(B→R)→R
 an:{E:Type}→List E→(List E→R)→R
noncomputable def need {X:Type} (c:Bool) (x:Option X):Option X:=@ite _ (c=true) (Classical.propDecidable _) x none
noncomputable def kU {X:Type} (c:Bool) (x y:Option X):Option X:=@ite _ (c=true) (Classical.propDecidable _) x y
noncomputable def DA {X:Type} (x y:Option X):Option X:=@ite _ (x=y) (Classical.propDecidable _) x none
noncomputable def cq {A X:Type} (o:Option A) (f:A→Option X):Option X:=@dite _ (∃a,o=some a) (Classical.propDecidable _) (fun h=>f h.choose) (fun _=>none)
@[reducible] noncomputable def iu (X:Type):Kz (Option X) where
 br c a b:=kU c a b
 am a b:=DA a b
 nd c a:=need c a
 no:=none
 bd o f:=cq o f
 sm s f g:=match s with
  | .inl a=>f a
  | .inr b=>g b
 an es f:=iE f es
theorem Ko {X:Type} {x y:Option X} {r:X} (h:DA x y=some r):x=some r∧y=some r:=by
 unfold DA at h
 split at h
 ·rename_i e;exact ⟨h,e▸h⟩
 ·cases h
@[simp] theorem zW {X:Type} {x:Option X}:DA x x=x:=by unfold DA;rw [if_pos rfl]
theorem iG {X:Type} {c:Bool} {x:Option X} (h:c=true):need c x=x:=by unfold need;rw [if_pos h]
@[simp] theorem af {X:Type} {x:Option X}:need true x=x:=iG rfl
@[simp] theorem XR {X:Type} {x:Option X}:need false x=none:=by unfold need;rw [if_neg (by simp)]
@[simp] theorem bM {X:Type} {x y:Option X}:kU true x y=x:=by unfold kU;rw [if_pos rfl]
@[simp] theorem aY {X:Type} {x y:Option X}:kU false x y=y:=by unfold kU;rw [if_neg (by simp)]
@[simp] theorem aF {A X:Type} {a:A} {f:A→Option X}:cq (some a) f=f a:=by
 have h:∃b,some a=some b:=⟨a,rfl⟩
 unfold cq;rw [dif_pos h]
 have:=h.choose_spec
 rw [←Option.some.inj this]
@[simp] theorem oR {A X:Type} {f:A→Option X}:cq none f=none:=by
 unfold cq;rw [dif_neg];rintro ⟨a,h⟩;cases h
theorem cQ {X:Type} {c:Bool} {x:Option X} {r:X} (h:need c x=some r):c=true∧x=some r:=by
 cases c<;>simp at h ⊢;exact h
theorem ql {A X:Type} {o:Option A} {f:A→Option X} {r:X} (h:cq o f=some r):∃a,o=some a∧f a=some r:=by
 cases o<;>simp at h ⊢;exact h
theorem oS {X A:Type} {o:Option A} {f:A→Option X} {r:X} (h:(iu X).bd o f=some r):∃a,o=some a∧f a=some r:=ql h
theorem iH {X:Type} {c:Bool} {x y:Option X} {r:X} (h:kU c x y=some r):(c=true∧x=some r)∨(c=false∧y=some r):=by
 cases c<;>simp at h ⊢<;>exact h
section
variable {R:Type}
def fV (v:V) (k:V→R):R:=match v with
 | .any=>k .any
 | .tf b=>match b with
  |true=>k (.tf true)
  |false=>k (.tf false)
 | .bool b=>k (.bool b)
 | .int ik n=>k (.int ik n)
 | .str s=>k (.str s)
 | .eE=>k .eE
 | .cG=>k .cG
 | .ff=>k .ff
 | .eO t xs=>k (.eO t xs)
 | .bX=>k .bX
 | .sl id t lo n=>k (.sl id t lo n)
 | .ptr id off=>k (.ptr id off)
 | .fu cs=>k (.fu cs)
 | .ep id t i p=>k (.ep id t i p)
 | .ip t x=>k (.ip t x)
 | .fn f a b=>k (.fn f a b)
 | .yl id=>k (.yl id)
 | .agg cs=>k (.agg cs)
 | .cK vs=>k (.cK vs)
 | .cu t v=>k (.cu t v)
 | .cb c=>k (.cb c)
 | .mp id=>k (.mp id)
 | .cD=>k .cD
 | .pa id t n=>k (.pa id t n)
 | .kV t xs=>k (.kV t xs)
 | .sp id o l=>k (.sp id o l)
theorem nA (v:V) (k:V→R):fV v k=k v:=by
 cases v<;>try rfl
 rename_i b;cases b<;>rfl
def fN (n:Nat) (k:Nat→R):R:=match n with
 |0=>k 0
 |n+1=>k (n+1)
theorem fQ (n:Nat) (k:Nat→R):fN n k=k n:=by cases n<;>rfl
def uO (d:Option Nat) (v:V) (env:Env) (k:Env→R):R:=match d with
 |some t=>k ((t,v)::env)
 |none=>k env
theorem k6 (d:Option Nat) (v:V) (env:Env) (k:Env→R):uO d v env k=k (put d v env):=by cases d<;>rfl
def pO (id : Nat) : aq → (aq → R) → R
 |[],k=>k []
 |(s,b)::r,k=>match Nat.beq s id with
  |true=>pO id r k
  |false=>pO id r fun r'=>k ((s,b)::r')
theorem kf (id : Nat) : ∀ (bl : aq) (k : aq → R), pO id bl k = k (bu id bl)
 |[],k=>rfl
 |(s,b)::r,k=>by
  simp only [pO,bu]
  split<;>rename_i h<;>simp only [h]<;>exact kf id r _
def gU : eF → aq → (aq → R) → R
 |[],bl,k=>k bl
 |(id,none)::r,bl,k=>pO id bl fun bl=>gU r bl k
 |(id,some b)::r,bl,k=>pO id bl fun bl=>gU r ((id,b)::bl) k
theorem fS : ∀ (u : eF) (bl : aq) (k : aq → R), gU u bl k = k (bx u bl)
 |[],_,_=>rfl
 |(id,none)::r,bl,k=>by simp only [gU,kf,bx];exact fS r _ k
 |(id,some b)::r,bl,k=>by simp only [gU,kf,bx];exact fS r _ k
def ru (kz : Kz R) : List Bool → R → R
 |[],k=>k
 |b::r,k=>kz.nd b (ru kz r k)
structure Cx where
 pc:{R:Type}→Kz R→Nat→List V→(V→R)→R
 ca:{R:Type}→Kz R→Nat→List V→Nat→aq→(V→Nat→aq→R)→R
 rd:{R:Type}→Kz R→Nat→List V→Nat→aq→(V→Nat→aq→R)→R
 op:Nat:=0
structure Cx.Ok (P:Program) (cx:Cx):Prop where
 Vz:∀{X:Type} {f:Nat} {vs:List V} {K:V→Option X} {r:X},cx.pc (iu X) f vs K=some r→∃v,gO P f vs v∧K v=some r
 RN:∀{X:Type} {f:Nat} {vs:List V} {nx:Nat} {bl:aq} {K:V→Nat→aq→Option X} {r:X},cx.ca (iu X) f vs nx bl K=some r →
  ∀{Q:V→aG→Prop},(∀v nx bl,K v nx bl=some r→Q v ⟨nx,bl⟩)→gQ P f vs ⟨nx,bl⟩ Q
 XS:∀{X:Type} {id:Nat} {vs:List V} {nx:Nat} {bl:aq} {K:V→Nat→aq→Option X} {r:X},cx.rd (iu X) id vs nx bl K=some r →
  ∀{Q:V→aG→Prop},(∀v nx bl,K v nx bl=some r→Q v ⟨nx,bl⟩)→around P id vs ⟨nx,bl⟩ Q
def Cx.mw (cx:Cx) (n:Nat):Cx:={ cx with op:=n }
def Bu (kz:Kz R) (g:Option (Nat×Bool)) (env:Env) (skip run:Env→R):R:=match g with
 |none=>run env
 |some (s,b)=>match get s env with
  | .tf c=>match c,b with
   |true,true=>run env
   |false,false=>run env
   |true,false=>skip env
   |false,true=>skip env
  | .bool c => kz.br c
   (match b with
    |true=>run ((s,.tf true)::env)
    |false=>skip ((s,.tf true)::env))
   (match b with
    |false=>run ((s,.tf false)::env)
    |true=>skip ((s,.tf false)::env))
  | .cK _=>skip env
  |_=>kz.no
def VA (kz:Kz R) (op:Nat) (ar:Ar) (bl:aq) (k:aq→R):R:=match op with
 |0=>k bl
 |n+1=>match (match n with
   |0=>Ma bl
   |_+1=>AR bl) with
  |[]=>k bl
  |ids=>match LG ar ids bl with
   |some u=>gU u bl k
   |none=>kz.no
def dmOp : Nat → Nat
 |0=>0
 |_+1=>1
def kI (kz : Kz R) (cx : Cx) (ar : Ar) : List eR → Env → Nat → aq → (Env → Nat → aq → R) → R
 |[],env,nx,bl,K=>K env nx bl
 | .op d g i::r,env,nx,bl,K=>Bu kz g env (fun env=>uO d (.cK []) env fun env=>kI kz cx ar r env nx bl K) fun env =>
   match cx.op with
   |0=>(match Vt ar i env bl nx with
    |some (ob,v,u)=>ru kz ob (fV v fun v=>uO d v env fun env=>match i.lays with
     |true=>fN (nx+1) fun nx=>gU u bl fun bl=>kI kz cx ar r env nx bl K
     |false=>gU u bl fun bl=>kI kz cx ar r env nx bl K)
    |none=>kz.no)
   |_+1=>match yM ar i env bl nx with
    |some (ob,v,u)=>ru kz ob (fV v fun v=>uO d v env fun env=>match i.lays with
     |true=>fN (nx+1) fun nx=>gU u bl fun bl=>kI kz cx ar r env nx bl K
     |false=>gU u bl fun bl=>kI kz cx ar r env nx bl K)
    |none=>match Vt ar i env bl nx with
     |some (ob,v,u)=>ru kz ob (fV v fun v=>uO d v env fun env=>match i.lays with
      |true=>fN (nx+1) fun nx=>gU u bl fun bl=>kI kz cx ar r env nx bl K
      |false=>gU u bl fun bl=>kI kz cx ar r env nx bl K)
     |none=>VA kz 1 ar bl fun bl=>match Vt ar i env bl nx with
      |some (ob,v,u)=>ru kz ob (fV v fun v=>uO d v env fun env=>match i.lays with
       |true=>fN (nx+1) fun nx=>gU u bl fun bl=>kI kz cx ar r env nx bl K
       |false=>gU u bl fun bl=>kI kz cx ar r env nx bl K)
      |none=>kz.no
 | .call d g f a tys::r,env,nx,bl,K=>Bu kz g env (fun env=>uO d (.cK []) env fun env=>kI kz cx ar r env nx bl K) fun env=>VA kz (dmOp cx.op) ar bl fun bl =>
   match f.ev env with
   | .fn f fs cs=>cx.ca kz f (fs++cO tys (a.map (·.ev env))++cs) nx bl fun v nx bl=>fV v fun v=>uO d v env fun env=>kI kz cx ar r env nx bl K
   | .yl id=>cx.rd kz id (cO tys (a.map (·.ev env))) nx bl fun v nx bl=>fV v fun v=>uO d v env fun env=>kI kz cx ar r env nx bl K
   |_=>kz.no
def zX (kz:Kz R) (gs:List Nat) (d:Option Nat) (v:V) (env:Env) (K:Env→R):R:=match d with
 |none=>K env
 |some t=>match AY t gs with
  |false=>K ((t,v)::env)
  |true=>match v with
   | .bool c=>kz.br c (K ((t,.tf true)::env)) (K ((t,.tf false)::env))
   |v=>K ((t,v)::env)
def QJ (kz : Kz R) (cx : Cx) (ar : Ar) (gs : List Nat) (b : Nat) : List eR → Nat → Env → aq → List DR → (Env → aq → List DR → R) → R
 |[],_,env,bl,dg,K=>K env bl dg
 | .op d g i::r,k,env,bl,dg,K=>match HT g env with
  |some true=>match (match cx.op with
    |0=>none
    |_+1=>yM ar i env bl (b+k)) with
   |some (ob,v,u)=>ru kz ob (fV v fun v=>zX kz gs d v env fun env'=>gU u bl fun bl=>QJ kz cx ar gs b r (k+1) env' bl (vS k (mG i env) (u.map (·.1)) dg) K)
   |none=>match Vt ar i env bl (b+k) with
    |some (ob,v,u)=>ru kz ob (fV v fun v=>zX kz gs d v env fun env'=>gU u bl fun bl=>QJ kz cx ar gs b r (k+1) env' bl (vS k (mG i env) (u.map (·.1)) dg) K)
    |none=>kz.no
  |some false=>uO d (.cK []) env fun env=>QJ kz cx ar gs b r (k+1) env bl dg K
  |none=>kz.no
 | .call d g f a tys::r,k,env,bl,dg,K=>match HT g env with
  |some true=>match f.ev env with
   | .fn f fs cs=>match fs++cO tys (a.map (·.ev env))++cs with
    |vs=>match di (fin ar bl 8) vs with
     |some vs'=>cx.pc kz f vs' fun x=>fV x fun x=>match CR x||vs.all (dK 8) with
      |true=>zX kz gs d x env fun env'=>QJ kz cx ar gs b r (k+1) env' bl (vS k (jr bl vs) [] dg) K
      |false=>match vT (jr bl vs) bl with
       |some u=>zX kz gs d x env fun env'=>gU u bl fun bO=>QJ kz cx ar gs b r (k+1) env' bO (vS k (jr bl vs) (u.map (·.1)) dg) K
       |none=>kz.no
     |none=>kz.no
   |_=>kz.no
  |some false=>uO d (.cK []) env fun env=>QJ kz cx ar gs b r (k+1) env bl dg K
  |none=>kz.no
end
abbrev Kc (R:Type):=Ex→Env→Nat→aq→List Nat→R
structure bD (P:Program) (N:Nat) (out:Option Nat) (base:Nat):Type 1 where
 c:C
 run:{R:Type}→Kz R→Env→Nat→aq→List Nat→Kc R→R
 ok:∀{X:Type} {env:Env} {nx:Nat} {bl:aq} {ms:List Nat} {K:Kc (Option X)} {r:X},run (iu X) env nx bl ms K=some r →
  ∀{Q:Ex→St→Prop},(∀e env nx bl ms,K e env nx bl ms=some r→Q e ⟨env,⟨nx,bl⟩,ms⟩)→(gn P N out base).loop c ⟨env,⟨nx,bl⟩,ms⟩ Q
structure gr (P:Program) (N:Nat) (out:Option Nat) (base:Nat):Type 1 where
 f:O
 ps:List Nat
 a:C
 b:C
 run:{R:Type}→Kz R→Env→Nat→aq→List Nat→Kc R→R
 ok:∀{X:Type} {env:Env} {nx:Nat} {bl:aq} {ms:List Nat} {K:Kc (Option X)} {r:X},run (iu X) env nx bl ms K=some r →
  ∀{Q:Ex→St→Prop},(∀e env nx bl ms,K e env nx bl ms=some r→Q e ⟨env,⟨nx,bl⟩,ms⟩)→(gn P N out base).bH f ps a b ⟨env,⟨nx,bl⟩,ms⟩ Q
structure rz (P:Program) (N:Nat) (out:Option Nat) (base:Nat):Type 1 where
 pre:List eR
 m:O
 it:Nat
 cl:List Nat
 e:Option Nat
 kt:Ty
 kg:Bool
 vt:Ty
 vg:Bool
 pH:Nat
 b:C
 run:{R:Type}→Kz R→Env→Nat→aq→List Nat→Kc R→R
 ok:∀{X:Type} {env:Env} {nx:Nat} {bl:aq} {ms:List Nat} {K:Kc (Option X)} {r:X},run (iu X) env nx bl ms K=some r →
  ∀{Q:Ex→St→Prop},(∀e env nx bl ms,K e env nx bl ms=some r→Q e ⟨env,⟨nx,bl⟩,ms⟩)→(gn P N out base).gK (.gK pre m it cl e kt kg vt vg pH b) ⟨env,⟨nx,bl⟩,ms⟩ Q
structure Gf (P:Program) (N:Nat) (out:Option Nat) (base:Nat) (f:O) (ps:List Nat) (a b:C):Type 1 where
 run:{R:Type}→Kz R→Env→Nat→aq→List Nat→Kc R→R
 ok:∀{X:Type} {env:Env} {nx:Nat} {bl:aq} {ms:List Nat} {K:Kc (Option X)} {r:X},run (iu X) env nx bl ms K=some r →
  ∀{Q:Ex→St→Prop},(∀e env nx bl ms,K e env nx bl ms=some r→Q e ⟨env,⟨nx,bl⟩,ms⟩)→(gn P N out base).bH f ps a b ⟨env,⟨nx,bl⟩,ms⟩ Q
def Gf.s {P:Program} {N:Nat} {out:Option Nat} {base:Nat} {f:O} {ps:List Nat} {a b:C} (T:Gf P N out base f ps a b):gr P N out base:=⟨f,ps,a,b,T.run,T.ok⟩
inductive D (P:Program) (N:Nat) (out:Option Nat) (base:Nat):Type 1 where
 |skip
 |aV (items:List eR)
 |draw (cS:List (List Nat)) (items:List eR)
 |seq (a b:D P N out base)
 |cond (c:O) (a b:D P N out base)
 |block (id:Nat) (c:D P N out base)
 |loop (l:bD P N out base)
 |exit (id:Nat)
 |ret
 |bH (l:gr P N out base)
 |gK (l:rz P N out base)
section
variable {P:Program} {N:Nat} {out:Option Nat} {base:Nat} {R:Type}
def D.er : D P N out base → C
 | .skip=>.skip
 | .aV is=>.aV is
 | .draw ps is=>.draw ps is
 | .seq a b=>.seq a.er b.er
 | .cond c a b=>.cond c a.er b.er
 | .block id c=>.block id c.er
 | .loop l=>.loop l.c
 | .exit id=>.exit id
 | .ret=>.ret
 | .bH l=>.bH l.f l.ps l.a l.b
 | .gK l=>.gK l.pre l.m l.it l.cl l.e l.kt l.kg l.vt l.vg l.pH l.b
def rwK (c:O) (b:Bool) (env:Env):Env:=match c with
 | .t n=>(n,.tf b)::env
 | .c _=>env
 | .m _ _=>env
def kE (kz : Kz R) (cx : Cx) (ar : Ar) : D P N out base → Env → Nat → aq → List Nat → Kc R → R
 | .skip,env,nx,bl,ms,K=>K .normal env nx bl ms
 | .aV is,env,nx,bl,ms,K=>kI kz cx ar is env nx bl fun env nx bl=>K .normal env nx bl ms
 | .draw ps is,env,nx,bl,ms,K=>QJ kz cx ar (vW is) nx is 0 env bl [] fun env bl dg=>match Mj ps dg with
  |true=>fN (nx+is.length) fun nx=>K .normal env nx bl ms
  |false=>kz.no
 | .seq a b,env,nx,bl,ms,K=>kE kz cx ar a env nx bl ms fun e env nx bl ms=>match e with
  | .normal=>kE kz cx ar b env nx bl ms K
  | .exit id=>K (.exit id) env nx bl ms
  | .ret=>K .ret env nx bl ms
 | .cond c a b,env,nx,bl,ms,K=>match c.ev env with
  | .tf true=>kE kz cx ar a env nx bl ms K
  | .tf false=>kE kz cx ar b env nx bl ms K
  | .bool x=>kz.br x (kE kz cx ar a (rwK c true env) nx bl ms K) (kE kz cx ar b (rwK c false env) nx bl ms K)
  | .cb x=>kz.br x (kz.am (kE kz cx ar a (rwK c true env) nx bl ms K) (kE kz cx ar b (rwK c false env) nx bl ms K)) (kE kz cx ar b (rwK c false env) nx bl ms K)
  |_=>kz.no
 | .block id c,env,nx,bl,ms,K=>kE kz cx ar c env nx bl ms fun e env nx bl ms=>match e with
  | .normal=>K .normal env nx bl ms
  | .exit id'=>match Nat.beq id' id with
   |true=>K .normal env nx bl ms
   |false=>K (.exit id') env nx bl ms
  | .ret=>K .ret env nx bl ms
 | .loop l,env,nx,bl,ms,K=>VA kz cx.op ar bl fun bl=>l.run kz env nx bl ms K
 | .exit id,env,nx,bl,ms,K=>K (.exit id) env nx bl ms
 | .ret,env,nx,bl,ms,K=>K .ret env nx bl ms
 | .bH l,env,nx,bl,ms,K=>VA kz cx.op ar bl fun bl=>l.run kz env nx bl ms K
 | .gK l,env,nx,bl,ms,K=>VA kz cx.op ar bl fun bl=>l.run kz env nx bl ms K
variable {X:Type} {cx:Cx}
theorem mT {ob:List Bool} {x:Option X} {r:X} (h:ru (iu X) ob x=some r):uJ ob∧x=some r:=by
 induction ob with
 |nil=>exact ⟨trivial,h⟩
 |cons b l ih =>
  obtain ⟨h1,h2⟩:=cQ h
  obtain ⟨h3,h4⟩:=ih h2
  cases l with
  |nil=>exact ⟨h1,h4⟩
  |cons c l=>exact ⟨⟨h1,h3⟩,h4⟩
theorem zY {g : Option (Nat × Bool)} {env : Env} {nx : Nat} {bl : aq} {ms : List Nat} {skip run : Env → Option X} {r : X} (h : Bu (iu X) g env skip run = some r) {d : Option Nat} {K run' : St → Prop}
  (hs:∀env,skip env=some r→K ⟨put d (.cK []) env,⟨nx,bl⟩,ms⟩) (hr:∀env,run env=some r→run' ⟨env,⟨nx,bl⟩,ms⟩):oK g d ⟨env,⟨nx,bl⟩,ms⟩ K run':=by
 unfold Bu at h
 unfold oK
 split at h
 ·exact hr _ h
 ·rename_i s b
  simp only
  split at h
  ·rename_i c hc
   rw [hc]
   cases c<;>cases b<;>simp only at h ⊢
   ·exact hr _ h
   ·exact hs _ h
   ·exact hs _ h
   ·exact hr _ h
  ·rename_i c hc
   rw [hc]
   rcases iH h with ⟨e,h⟩|⟨e,h⟩
   ·refine ⟨fun _ => ?_, fun e' => by rw [e] at e'; cases e'⟩
    cases b<;>simp only at h ⊢
    ·exact hs _ h
    ·exact hr _ h
   ·refine ⟨fun e' => (by rw [e] at e'; cases e'), fun _ => ?_⟩
    cases b<;>simp only at h ⊢
    ·exact hr _ h
    ·exact hs _ h
  ·rename_i hc
   rw [hc]
   exact hs _ h
  ·cases h
theorem Nf {op:Nat} {bl:aq} {k:aq→Option X} {r:X} (h:VA (iu X) op dN bl k=some r):k bl=some r∨∃ids u,LG (gn P N out base) ids bl=some u∧k (bx u bl)=some r:=by
 unfold VA at h
 split at h
 ·exact .inl h
 ·split at h
  ·exact .inl h
  ·split at h <;> try (cases h; done)
   rename_i u hu
   rw [fS] at h
   exact .inr ⟨_,u,by unfold gn;rw [MV];exact hu,h⟩
theorem Bv {op:Nat} {env:Env} {nx:Nat} {bl:aq} {ms:List Nat} {k:aq→Option X} {r:X} (h:VA (iu X) op dN bl k=some r) {K:St→Prop} (hK:∀bl,k bl=some r→K ⟨env,⟨nx,bl⟩,ms⟩):Mb (gn P N out base) ⟨env,⟨nx,bl⟩,ms⟩ K:=by
 rcases Nf (P:=P) (N:=N) (out:=out) (base:=base) h with h|⟨ids,u,hu,h⟩
 ·exact .inl (hK _ h)
 ·exact .inr ⟨ids,u,hu,hK _ h⟩
theorem od (gu:cx.Ok P):∀{is:List eR} {env:Env} {nx:Nat} {bl:aq} {ms:List Nat} {K:Env→Nat→aq→Option X} {r:X} {Q:St→Prop},kI (iu X) cx dN is env nx bl K=some r →
  (∀env nx bl,K env nx bl=some r→Q ⟨env,⟨nx,bl⟩,ms⟩)→fD (gn P N out base) is ⟨env,⟨nx,bl⟩,ms⟩ Q
 |[],env,nx,bl,ms,K,r,Q,h,hK=>hK _ _ _ h
 | .op d g i::is,env,nx,bl,ms,K,r,Q,h,hK=>by
  simp only [kI] at h
  simp only [fD]
  have body:∀{env:Env} {bl:aq} {ob:List Bool} {v:V} {u:eF},Vt dN i env bl nx=some (ob,v,u) →
    ru (iu X) ob (fV v fun v=>uO d v env fun env=>match i.lays with
     |true=>fN (nx+1) fun nx=>gU u bl fun bl=>kI (iu X) cx dN is env nx bl K
     |false=>gU u bl fun bl=>kI (iu X) cx dN is env nx bl K)=some r →
    bY (gn P N out base) i env bl nx=some (ob,v,u)∧uJ ob∧fD (gn P N out base) is ⟨put d v env,⟨LH i.lays nx,bx u bl⟩,ms⟩ Q:=by
   intro env bl ob v u aj h
   obtain ⟨cV,h⟩:=mT h
   rw [nA,k6] at h
   rw [M1] at aj
   refine ⟨by unfold gn;rw [MT];exact aj,cV,?_⟩
   split at h
   ·rename_i hl
    rw [fQ,fS] at h
    simp only [hl,LH]
    exact od gu h hK
   ·rename_i hl
    rw [fS] at h
    simp only [hl,LH]
    exact od gu h hK
  refine zY h (fun env h=>?_) (fun env h=>?_)
  ·rw [k6] at h;exact od gu h hK
  ·split at h
   ·split at h
    ·rename_i ob v u aj
     obtain ⟨h1,h2,h3⟩:=body aj h
     exact Bo h1 h2 h3
    ·cases h
   ·split at h
    ·rename_i ob v u aj
     obtain ⟨cV,h⟩:=mT h
     rw [nA,k6] at h
     refine XD (by unfold gn;rw [MU];exact aj) cV ?_
     split at h
     ·rename_i hl
      rw [fQ,fS] at h
      simp only [hl,LH]
      exact od gu h hK
     ·rename_i hl
      rw [fS] at h
      simp only [hl,LH]
      exact od gu h hK
    ·split at h
     ·rename_i ob v u aj
      obtain ⟨h1,h2,h3⟩:=body aj h
      exact Bo h1 h2 h3
     ·rcases Nf (P := P) (N := N) (out := out) (base := base) h with h | ⟨ids, u', hu, h⟩
      ·split at h
       ·rename_i ob v u aj
        obtain ⟨h1,h2,h3⟩:=body aj h
        exact Bo h1 h2 h3
       ·cases h
      ·split at h
       ·rename_i ob v u aj
        obtain ⟨h1,h2,h3⟩:=body aj h
        exact XE hu h1 h2 h3
       ·cases h
 | .call d g f a tys::is,env,nx,bl,ms,K,r,Q,h,hK=>by
  simp only [kI] at h
  simp only [fD]
  refine zY h (fun env h=>?_) (fun env h=>?_)
  ·rw [k6] at h;exact od gu h hK
  ·simp only [Fy]
   refine Bv h fun bl h=>?_
   simp only [ve]
   split at h
   ·rename_i f' fs cs hf
    rw [hf]
    refine gu.RN h fun v nx bl h=>?_
    rw [nA,k6] at h
    exact od gu h hK
   ·rename_i id hf
    rw [hf]
    refine gu.XS h fun v nx bl h=>?_
    rw [nA,k6] at h
    exact od gu h hK
   ·cases h
theorem rA {gs:List Nat} {d:Option Nat} {v:V} {env:Env} {K:Env→Option X} {r:X} (h:zX (iu X) gs d v env K=some r) {K':Env→Prop} (hK:∀env,K env=some r→K' env):CS gs d v env K':=by
 unfold zX at h
 unfold CS
 cases d with
 |none=>exact hK _ h
 |some t =>
  simp only at h ⊢
  split at h
  ·rename_i hm;rw [hm];exact hK _ h
  ·rename_i hm
   rw [hm]
   simp only
   split at h
   ·rename_i c
    simp only
    rcases iH h with ⟨e,h⟩|⟨e,h⟩
    ·exact ⟨fun _=>hK _ h,fun e'=>by rw [e] at e';cases e'⟩
    ·exact ⟨fun e'=>(by rw [e] at e';cases e'),fun _=>hK _ h⟩
   ·rename_i hv
    have:=hK _ h
    cases v<;>first|exact this|exact (hv _ rfl).elim
theorem qm (gu:cx.Ok P) {gs:List Nat} {b:Nat}:∀{is:List eR} {k:Nat} {env:Env} {bl:aq} {dg:List DR} {K:Env→aq→List DR→Option X} {r:X} {Q:Env→aq→List DR→Prop},
  QJ (iu X) cx dN gs b is k env bl dg K=some r→(∀env bl dg,K env bl dg=some r→Q env bl dg)→qO (gn P N out base) gs b is k env bl dg Q
 |[],k,env,bl,dg,K,r,Q,h,hK=>hK _ _ _ h
 | .op d g i::is,k,env,bl,dg,K,r,Q,h,hK=>by
  simp only [QJ] at h
  simp only [qO]
  split at h
  ·rename_i hg
   rw [hg]
   split at h
   ·rename_i ob v u aj
    obtain ⟨cV,h⟩:=mT h
    rw [nA] at h
    have XT:yM (gn P N out base) i env bl (b+k)=some (ob,v,u):=by
     unfold gn;rw [MU]
     split at aj
     ·cases aj
     ·exact aj
    refine .inr (zx XT cV (rA h fun env h=>?_))
    rw [fS] at h
    exact qm gu h hK
   ·split at h
    ·rename_i ob v u aj
     obtain ⟨cV,h⟩:=mT h
     rw [nA] at h
     rw [M1] at aj
     have XT:bY (gn P N out base) i env bl (b+k)=some (ob,v,u):=by unfold gn;rw [MT];exact aj
     refine .inl (zx XT cV (rA h fun env h=>?_))
     rw [fS] at h
     exact qm gu h hK
    ·cases h
  ·rename_i hg
   rw [hg]
   rw [k6] at h
   exact qm gu h hK
  ·cases h
 | .call d g f a tys::is,k,env,bl,dg,K,r,Q,h,hK=>by
  simp only [QJ] at h
  simp only [qO]
  split at h
  ·rename_i hg
   rw [hg]
   split at h
   ·rename_i f' fs cs hf
    rw [hf]
    split at h
    ·rename_i vs' hm
     obtain ⟨v,hp,h⟩:=gu.Vz h
     rw [nA] at h
     have e:di (fin (gn P N out base) bl 8)=di (fin dN bl 8):=funext fun vs=>mQ (fun v=>by unfold gn;exact wP) vs
     simp only [e,hm]
     split at h
     ·rename_i hsc
      exact ⟨v,[],hp,by rw [hsc];rfl,rA h fun env h=>qm gu h hK⟩
     ·rename_i hsc
      split at h
      ·rename_i u hu
       exact ⟨v,u,hp,by rw [hsc];exact hu,rA h fun env h=>qm gu (by rw [fS] at h;exact h) hK⟩
      ·cases h
    ·cases h
   ·cases h
  ·rename_i hg
   rw [hg]
   rw [k6] at h
   exact qm gu h hK
  ·cases h
theorem k7 (gu:cx.Ok P):∀{d:D P N out base} {env:Env} {nx:Nat} {bl:aq} {ms:List Nat} {K:Kc (Option X)} {r:X} {Q:Ex→St→Prop},kE (iu X) cx dN d env nx bl ms K=some r →
  (∀e env nx bl ms,K e env nx bl ms=some r→Q e ⟨env,⟨nx,bl⟩,ms⟩)→qP (gn P N out base) d.er ⟨env,⟨nx,bl⟩,ms⟩ Q:=by
 intro d
 induction d with
 |skip=>intro env nx bl ms K r Q h hK;exact hK _ _ _ _ _ h
 |aV is=>intro env nx bl ms K r Q h hK;exact od gu h fun env nx bl h=>hK _ _ _ _ _ h
 |draw ps is =>
  intro env nx bl ms K r Q h hK
  refine qm gu h fun env bl dg h=>?_
  split at h
  ·rename_i hd
   rw [fQ] at h
   exact ⟨hd,hK _ _ _ _ _ h⟩
  ·cases h
 |seq a b Gg Fj =>
  intro env nx bl ms K r Q h hK
  refine Gg h fun e env nx bl ms h=>?_
  cases e with
  |normal=>exact Fj h hK
  |exit id=>exact hK _ _ _ _ _ h
  |ret=>exact hK _ _ _ _ _ h
 |cond c a b Gg Fj =>
  intro env nx bl ms K r Q h hK
  simp only [kE] at h
  simp only [D.er,qP]
  have hrw:∀x env,Q5 c x ⟨env,⟨nx,bl⟩,ms⟩=⟨rwK c x env,⟨nx,bl⟩,ms⟩:=fun x env=>by cases c<;>rfl
  split at h
  ·rename_i hc;rw [hc];exact Gg h hK
  ·rename_i hc;rw [hc];exact Fj h hK
  ·rename_i x hc
   rw [hc]
   rcases iH h with ⟨e,h⟩|⟨e,h⟩
   ·refine ⟨fun _ => ?_, fun e' => by rw [e] at e'; cases e'⟩
    rw [hrw];exact Gg h hK
   ·refine ⟨fun e' => (by rw [e] at e'; cases e'), fun _ => ?_⟩
    rw [hrw];exact Fj h hK
  ·rename_i x hc
   rw [hc]
   rcases iH h with ⟨e,h⟩|⟨e,h⟩
   ·obtain ⟨h1, h2⟩ := Ko h
    exact ⟨fun _=>by rw [hrw];exact Gg h1 hK,by rw [hrw];exact Fj h2 hK⟩
   ·exact ⟨fun e'=>(by rw [e] at e';cases e'),by rw [hrw];exact Fj h hK⟩
  ·cases h
 |block id c ih =>
  intro env nx bl ms K r Q h hK
  refine ih h fun e env nx bl ms h=>?_
  cases e with
  |normal=>exact hK _ _ _ _ _ h
  |exit id' =>
   simp only at h ⊢
   split at h
   ·rename_i e;rw [e];exact hK _ _ _ _ _ h
   ·rename_i e;rw [e];exact hK _ _ _ _ _ h
  |ret=>exact hK _ _ _ _ _ h
 |loop l=>intro env nx bl ms K r Q h hK;exact Bv h fun bl h=>l.ok h hK
 |exit id=>intro env nx bl ms K r Q h hK;exact hK _ _ _ _ _ h
 |ret=>intro env nx bl ms K r Q h hK;exact hK _ _ _ _ _ h
 |bH l=>intro env nx bl ms K r Q h hK;exact Bv h fun bl h=>l.ok h hK
 |gK l=>intro env nx bl ms K r Q h hK;exact Bv h fun bl h=>l.ok h hK
end
end Go.AM
end
section
namespace Go.AM
inductive CP where
 |any
 |tf (b:Bool)
 |eE
 |cG
 |ff
 |bX
 |hole (t:Ty)
 |bN (b:Nat) (t:Ty)
 |QK (b:Nat) (t:Ty)
 |ptr (b off:Nat)
 |yl (b:Nat)
 |fu (t:Ty)
 |fn0 (f:Nat)
 |Kq (l:CP)
 |Kr (l:CP)
 |fn (f:Nat) (a b:CP)
 |Gi (t:Nat) (g:Bool) (l:CP)
 |mp (b:Nat)
 |cD
 |pa (b:Nat) (t:Ty) (n:Nat)
 |kV (t:Ty)
 |nil
 |cons (c l:CP)
inductive SP where
 |c (c:CP)
 |agg (cs:List CP)
 |cK (cs:List CP)
 |fn (f:Nat) (a b:List CP)
 |alt (a b:List CP)
def CP.T : CP → Type → Type
 | .hole t,A=>t.den×A
 | .bN _ _,A=>Nat×A
 | .QK _ _,A=>Nat×Nat×A
 | .fu t,A=>t.den×A
 | .kV t,A=>List t.den×A
 | .Gi _ _ l,A=>l.T A
 | .mp _,A=>A
 | .cD,A=>A
 | .pa _ _ _,A=>A
 | .Kq l,A=>l.T A
 | .Kr l,A=>l.T A
 | .fn _ a b,A=>a.T (b.T A)
 | .cons c l,A=>c.T (l.T A)
 | .any,A=>A
 | .tf _,A=>A
 | .eE,A=>A
 | .cG,A=>A
 | .ff,A=>A
 | .bX,A=>A
 | .ptr _ _,A=>A
 | .yl _,A=>A
 | .fn0 _,A=>A
 | .nil,A=>A
def tyV : (t : Ty) → t.den → V
 | .unit,_=>.agg []
 | .bool,b=>.bool b
 | .str,s=>.str s
 | .int k,n=>.int k n
 | .list t,xs=>.eO t xs
 | .prod a b,x=>.agg (cz (.prod a b) x)
 | .cu d g t,x=>.cu d (cz.iS g (cz t x))
def CP.r : (c : CP) → {A : Type} → c.T A → A
 | .any,_,x=>x
 | .tf _,_,x=>x
 | .eE,_,x=>x
 | .cG,_,x=>x
 | .ff,_,x=>x
 | .bX,_,x=>x
 | .hole _,_,x=>x.2
 | .bN _ _,_,x=>x.2
 | .QK _ _,_,x=>x.2.2
 | .ptr _ _,_,x=>x
 | .yl _,_,x=>x
 | .fu _,_,x=>x.2
 | .kV _,_,x=>x.2
 | .Gi _ _ l,_,x=>l.r x
 | .mp _,_,x=>x
 | .cD,_,x=>x
 | .pa _ _ _,_,x=>x
 | .fn0 _,_,x=>x
 | .Kq l,_,x=>l.r x
 | .Kr l,_,x=>l.r x
 | .fn _ a b,_,x=>b.r (a.r x)
 | .nil,_,x=>x
 | .cons c l,_,x=>l.r (c.r x)
def CP.vs : (c : CP) → {A : Type} → c.T A → List V
 | .any,_,_=>[.any]
 | .tf b,_,_=>[.tf b]
 | .eE,_,_=>[.eE]
 | .cG,_,_=>[.cG]
 | .ff,_,_=>[.ff]
 | .bX,_,_=>[.bX]
 | .hole t,_,x=>[tyV t x.1]
 | .bN b t,_,x=>[.sl b t 0 x.1]
 | .QK b t,_,x=>[.sl b t x.1 x.2.1]
 | .ptr b off,_,_=>[.ptr b off]
 | .yl b,_,_=>[.yl b]
 | .fu t,_,x=>[.fu (cz t x.1)]
 | .fn0 f,_,_=>[.fn f [] []]
 | .Kq l,_,x=>[.fu (l.vs x)]
 | .Kr l,_,x=>[.agg (l.vs x)]
 | .Gi t g l,_,x=>[.cu t (cz.iS g (l.vs x))]
 | .mp b,_,_=>[.mp b]
 | .cD,_,_=>[.cD]
 | .pa b t n,_,_=>[.pa b t n]
 | .kV t,_,x=>[.kV t x.1]
 | .fn f a b,_,x=>[.fn f (a.vs x) (b.vs (a.r x))]
 | .nil,_,_=>[]
 | .cons c l,_,x=>c.vs x++l.vs (c.r x)
def M6 : List V → V
 |v::_=>v
 |[]=>.any
def CP.v {A:Type} (c:CP) (x:c.T A):V:=M6 (c.vs x)
def lW : List CP → Type → Type
 |[],A=>A
 |c::r,A=>c.T (lW r A)
def qn {A : Type} : (cs : List CP) → lW cs A → List V
 |[],_=>[]
 |c::r,x=>c.v x::qn r (c.r x)
def rB {A : Type} : (cs : List CP) → lW cs A → A
 |[],x=>x
 |c::r,x=>rB r (c.r x)
def SP.T : SP → Type → Type
 | .c q,A=>q.T A
 | .agg cs,A=>lW cs A
 | .cK cs,A=>lW cs A
 | .fn _ a b,A=>lW a (lW b A)
 | .alt a b,A=>lW a A ⊕ lW b A
def SP.v {A : Type} : (p : SP) → p.T A → V
 | .c q,x=>q.v x
 | .agg cs,x=>.agg (qn cs x)
 | .cK cs,x=>.cK (qn cs x)
 | .fn f a b,x=>.fn f (qn a x) (qn b (rB a x))
 | .alt a b,x=>match x with
  | .inl y=>.cK (qn a y)
  | .inr y=>.cK (qn b y)
def SP.r {A : Type} : (p : SP) → p.T A → A
 | .c q,x=>q.r x
 | .agg cs,x=>rB cs x
 | .cK cs,x=>rB cs x
 | .fn _ a b,x=>rB b (rB a x)
 | .alt a b,x=>match x with
  | .inl y=>rB a y
  | .inr y=>rB b y
def yW : List (Nat × SP) → Type → Type
 |[],A=>A
 |(_,p)::r,A=>p.T (yW r A)
def wZ {A : Type} : (ps : List (Nat × SP)) → yW ps A → Env
 |[],_=>[]
 |(s,p)::r,x=>(s,p.v x)::wZ r (p.r x)
def Ng {A : Type} : (ps : List (Nat × SP)) → yW ps A → A
 |[],x=>x
 |(_,p)::r,x=>Ng r (p.r x)
inductive BP where
 |arr (t:Ty) (fz:Bool)
 |cells (cs:List CP) (fz:Bool)
 |loop (st:pY) (j:Option Ex) (d:Nat) (env:List (Nat×SP)) (ps:List Nat) (as bd:C) (N:Nat)
 |ig
 |map (kt:Ty) (kg:Bool) (vt:Ty) (vg:Bool)
 |mw (t:Ty) (i:Nat) (p:List Bool) (c:CP)
def BP.T : BP → Type → Type
 | .arr t _,A=>List t.den×A
 | .cells cs _,A=>lW cs A
 | .loop _ _ _ env _ _ _ _,A=>yW env A
 | .ig,A=>A
 | .map kt _ vt _,A=>List (kt.den×vt.den)×A
 | .mw t _ _ c,A=>List t.den×c.T A
def BP.v {A : Type} : (p : BP) → p.T A → kR
 | .arr t fz,x=>.arr t x.1 fz
 | .cells cs fz,x=>.cells (qn cs x) fz
 | .loop st j d env ps as bd N,x=>.loop st j d (wZ env x) ps as bd N
 | .ig,_=>.ig
 | .map kt kg vt vg,x=>.map kt kg vt vg x.1
 | .mw t i p c,x=>.mw t x.1 i p (c.v x.2)
def BP.r {A : Type} : (p : BP) → p.T A → A
 | .arr _ _,x=>x.2
 | .cells cs _,x=>rB cs x
 | .loop _ _ _ env _ _ _ _,x=>Ng env x
 | .ig,x=>x
 | .map _ _ _ _,x=>x.2
 | .mw _ _ _ c,x=>c.r x.2
def RO : List (Nat × BP) → Type → Type
 |[],A=>A
 |(_,p)::r,A=>p.T (RO r A)
def QL {A : Type} : (ps : List (Nat × BP)) → RO ps A → aq
 |[],_=>[]
 |(s,p)::r,x=>(s,p.v x)::QL r (p.r x)
inductive Lc where
 |slot (s:Nat)
 |part (s k:Nat)
 |cell (b k:Nat)
 |old (i:Nat)
 |mark (j:Nat)
structure ax where
 env:List (Nat×SP)
 bl:List (Nat×BP)
 gL:List Lc
 ms:List Nat
def ax.T (p:ax):Type:=yW p.env (RO p.bl Unit)
def ax.E (p:ax) (x:p.T):Env:=wZ p.env x
def ax.B (p:ax) (x:p.T):aq:=QL p.bl (Ng p.env x)
def ax.st (base:Nat) (p:ax) (x:p.T):St:=⟨p.E x,⟨base+p.gL.length,p.B x⟩,p.ms⟩
def uP : List Nat → Nat → Option Nat
 |[],_=>none
 |i::_,0=>some i
 |_::r,n+1=>uP r n
def lI : Bool → Bool → Bool
 |true,true=>true
 |false,false=>true
 |_,_=>false
def lX : (t t' : Ty) → Bool
 | .unit,.unit=>true
 | .bool,.bool=>true
 | .str,.str=>true
 | .int k,.int k'=>decide (k=k')
 | .list t,.list t'=>lX t t'
 | .prod a b,.prod a' b'=>match lX a a' with
  |true=>lX b b'
  |false=>false
 | .cu d g a,.cu d' g' a'=>match Nat.beq d d' with
  |true=>match lI g g' with
   |true=>lX a a'
   |false=>false
  |false=>false
 |_,_=>false
def yX (π:List Nat) (b i:Nat):Bool:=match uP π b with
 |some j=>Nat.beq j i
 |none=>false
def Bw : (t : Ty) → V → Option t.den
 | .bool,.bool b=>some b
 | .bool,.tf b=>some b
 | .str,.str s=>some s
 | .int k,.int k' n=>match decide (k=k') with
  |true=>some n
  |false=>none
 | .list t,.eO t' xs=>jR t' t xs
 | .list _,.bX=>some []
 | .prod a b,.agg cs=>match bt dN [] (.prod a b) cs with
  |some (x,_,[])=>some x
  |_=>none
 | .cu d g a,v=>match bt dN [] (.cu d g a) [v] with
  |some (x,_,[])=>some x
  |_=>none
 |_,_=>none
def CP.rd1 {A:Type} (π:List Nat) (c:CP) (v:V):Option (A→c.T A) :=
 match c with
 | .any=>some fun a=>a
 | .tf b=>match v with
  | .tf b'=>match lI b b' with
   |true=>some fun a=>a
   |false=>none
  |_=>none
 | .eE=>match v with
  | .eE=>some fun a=>a
  |_=>none
 | .cG=>match v with
  | .cG=>some fun a=>a
  |_=>none
 | .ff=>match v with
  | .ff=>some fun a=>a
  |_=>none
 | .bX=>match v with
  | .bX=>some fun a=>a
  |_=>none
 | .hole t=>match Bw t v with
  |some x=>some fun a=>(x,a)
  |none=>none
 | .bN b t=>match v with
  | .sl i t' lo n=>match yX π b i with
   |true=>match lX t' t with
    |true=>match Nat.beq lo 0 with
     |true=>some fun a=>(n,a)
     |false=>none
    |false=>none
   |false=>none
  | .bX=>some fun a=>((0:Nat),a)
  |_=>none
 | .QK b t=>match v with
  | .sl i t' lo n=>match yX π b i with
   |true=>match lX t' t with
    |true=>some fun a=>(lo,n,a)
    |false=>none
   |false=>none
  | .bX=>some fun a=>((0:Nat),(0:Nat),a)
  |_=>none
 | .ptr b off=>match v with
  | .ptr i o=>match yX π b i with
   |true=>match Nat.beq o off with
    |true=>some fun a=>a
    |false=>none
   |false=>none
  |_=>none
 | .yl b=>match v with
  | .yl i=>match yX π b i with
   |true=>some fun a=>a
   |false=>none
  |_=>none
 | .fu t=>match v with
  | .fu cs=>match bt dN [] t cs with
   |some (x,_,[])=>some fun a=>(x,a)
   |_=>none
  |_=>none
 | .mp b=>match v with
  | .mp i=>match yX π b i with
   |true=>some fun a=>a
   |false=>none
  |_=>none
 | .cD=>match v with
  | .cD=>some fun a=>a
  |_=>none
 | .pa b t n=>match v with
  | .pa i t' n'=>match yX π b i with
   |true=>match lX t' t with
    |true=>match Nat.beq n' n with
     |true=>some fun a=>a
     |false=>none
    |false=>none
   |false=>none
  |_=>none
 | .kV t=>match v with
  | .kV t' xs=>match jR t' t xs with
   |some ys=>some fun a=>(ys,a)
   |none=>none
  |_=>none
 | .fn0 f=>match v with
  | .fn f' [] []=>match Nat.beq f' f with
   |true=>some fun a=>a
   |false=>none
  |_=>none
 |_=>none
def CP.Fk (π : List Nat) : (c : CP) → {A : Type} → List V → Option ((A → c.T A) × List V)
 | .nil,_,vs=>some (fun a=>a,vs)
 | .cons c l,A,vs=>match c.Fk π (A:=l.T A) vs with
  |some (f,vs')=>match l.Fk π (A:=A) vs' with
   |some (g,vs'')=>some (fun a=>f (g a),vs'')
   |none=>none
  |none=>none
 | .Kq l,A,vs=>match vs with
  | .fu cs::r=>match l.Fk π (A:=A) cs with
   |some (f,[])=>some (f,r)
   |_=>none
  |_=>none
 | .Kr l,A,vs=>match vs with
  | .agg cs::r=>match l.Fk π (A:=A) cs with
   |some (f,[])=>some (f,r)
   |_=>none
  |_=>none
 | .Gi t g l,A,vs=>match vs with
  | .cu t' v::r=>match Nat.beq t' t with
   |true=>match AP g v with
    |some cs=>match l.Fk π (A:=A) cs with
     |some (f,[])=>some (f,r)
     |_=>none
    |none=>none
   |false=>none
  |_=>none
 | .fn f a b,A,vs=>match vs with
  | .fn f' va vb::r=>match Nat.beq f' f with
   |true=>match a.Fk π (A:=b.T A) va with
    |some (g,[])=>match b.Fk π (A:=A) vb with
     |some (h,[])=>some (fun x=>g (h x),r)
     |_=>none
    |_=>none
   |false=>none
  |_=>none
 |c,_,vs=>match vs with
  |v::r=>match c.rd1 π v with
   |some f=>some (f,r)
   |none=>none
  |[]=>none
def CP.rd {A:Type} (π:List Nat) (c:CP) (v:V):Option (A→c.T A):=match c.Fk π (A:=A) [v] with
 |some (f,[])=>some f
 |_=>none
def fC {A : Type} (π : List Nat) : (cs : List CP) → List V → Option (A → lW cs A)
 |[],[]=>some fun a=>a
 |c::r,v::vs=>match CP.rd (A:=lW r A) π c v with
  |some f=>match fC (A:=A) π r vs with
   |some g=>some fun a=>f (g a)
   |none=>none
  |none=>none
 |_,_=>none
def SP.rd {A:Type} (π:List Nat) (p:SP) (v:V):Option (A→p.T A) :=
 match p with
 | .c q=>q.rd π v
 | .agg cs=>match v with
  | .agg vs=>fC π cs vs
  |_=>none
 | .cK cs=>match v with
  | .cK vs=>fC π cs vs
  |_=>none
 | .fn f a b=>match v with
  | .fn f' va vb=>match Nat.beq f' f with
   |true=>match fC (A:=lW b A) π a va with
    |some g=>match fC (A:=A) π b vb with
     |some h=>some fun x=>g (h x)
     |none=>none
    |none=>none
   |false=>none
  |_=>none
 | .alt a b=>match v with
  | .cK vs=>match fC (A:=A) π a vs with
   |some f=>some fun x=>.inl (f x)
   |none=>match fC (A:=A) π b vs with
    |some f=>some fun x=>.inr (f x)
    |none=>none
  |_=>none
def SP.kv {R : Type} (kz : Kz R) : (p : SP) → p.T Unit → (V → R) → R
 | .alt a b,y,K=>kz.sm (A:=lW a Unit) (B:=lW b Unit) y (fun x=>K (.cK (qn a x))) (fun x=>K (.cK (qn b x)))
 | .c q,y,K=>K (SP.v (.c q) y)
 | .agg cs,y,K=>K (SP.v (.agg cs) y)
 | .cK cs,y,K=>K (SP.v (.cK cs) y)
 | .fn f a b,y,K=>K (SP.v (.fn f a b) y)
theorem SP.ab6 {X : Type} : ∀ (p : SP) (y : p.T Unit) (K : V → Option X), p.kv (iu X) y K = K (p.v y)
 | .alt _ _,.inl _,_=>rfl
 | .alt _ _,.inr _,_=>rfl
 | .c _,_,_=>rfl
 | .agg _,_,_=>rfl
 | .cK _,_,_=>rfl
 | .fn _ _ _,_,_=>rfl
def zZ {A : Type} (π : List Nat) (env : Env) : (ps : List (Nat × SP)) → Option (A → yW ps A)
 |[]=>some fun a=>a
 |(s,p)::r=>match SP.rd (A:=yW r A) π p (get s env) with
  |some f=>match zZ (A:=A) π env r with
   |some g=>some fun a=>f (g a)
   |none=>none
  |none=>none
mutual
def RP : V → V → Bool
 | .any,.any=>true
 | .tf a,.tf b=>lI a b
 | .bool a,.bool b=>lI a b
 | .int k n,.int k' m=>match decide (k=k') with
  |true=>decide (n=m)
  |false=>false
 | .eE,.eE=>true
 | .cG,.cG=>true
 | .ff,.ff=>true
 | .cD,.cD=>true
 | .bX,.bX=>true
 | .str s,.str s'=>decide (s=s')
 | .fn f a b,.fn f' a' b'=>match Nat.beq f f' with
  |true=>match pP a a' with
   |true=>pP b b'
   |false=>false
  |false=>false
 | .agg a,.agg b=>pP a b
 |_,_=>false
def pP : List V → List V → Bool
 |[],[]=>true
 |a::r,b::s=>match RP a b with
  |true=>pP r s
  |false=>false
 |_,_=>false
end
mutual
theorem Iu : ∀ {a b : V}, RP a b = true → a = b
 |a,b,h=>by
  cases a<;>cases b<;>simp only [RP,Bool.false_eq_true] at h<;>try rfl
  case tf.tf x y=>cases x<;>cases y<;>simp_all [lI]
  case bool.bool x y=>cases x<;>cases y<;>simp_all [lI]
  case int.int=>split at h<;>simp_all
  case str.str=>simp_all
  case fn.fn =>
   split at h<;>try (cases h;done)
   rename_i h1
   split at h<;>try (cases h;done)
   rename_i h2
   rw [Nat.eq_of_beq_eq_true h1,lY h2,lY h]
  case agg.agg=>rw [lY h]
theorem lY : ∀ {a b : List V}, pP a b = true → a = b
 |[],[],_=>rfl
 |a::r,b::s,h=>by
  simp only [pP] at h
  split at h<;>try (cases h;done)
  rename_i h1
  rw [Iu h1,lY h]
 |[],_::_,h=>by simp [pP] at h
 |_::_,[],h=>by simp [pP] at h
end
end Go.AM
end
section
namespace Go.AM
def an (a b:Bool):Bool:=match a with
 |true=>b
 |false=>false
theorem aQ {a b:Bool}:an a b=true↔a=true∧b=true:=by cases a<;>simp [an]
theorem ef {a b:Bool} (h:lI a b=true):a=b:=by cases a<;>cases b<;>simp_all [lI]
theorem k8:∀{t t':Ty},lX t t'=true→t=t':=by
 intro t
 induction t with
 |unit=>intro t' h;cases t'<;>simp [lX] at h ⊢
 |bool=>intro t' h;cases t'<;>simp [lX] at h ⊢
 |str=>intro t' h;cases t'<;>simp [lX] at h ⊢
 |int k=>intro t' h;cases t'<;>simp [lX] at h ⊢;exact h
 |list t ih=>intro t' h;cases t'<;>simp [lX] at h ⊢;exact ih h
 |prod a b Gg Fj =>
  intro t' h
  cases t'<;>simp only [lX,Bool.false_eq_true] at h
  split at h<;>try (cases h;done)
  rename_i h1
  rw [Gg h1,Fj h]
 |cu d g a ih =>
  intro t' h
  cases t'<;>simp only [lX,Bool.false_eq_true] at h
  split at h<;>try (cases h;done)
  rename_i h1
  split at h<;>try (cases h;done)
  rename_i h2
  rw [Nat.eq_of_beq_eq_true h1,ef h2,ih h]
def Nh (a b:IntKind):Bool:=decide (a=b)
theorem Ni {a b:IntKind} (h:Nh a b=true):a=b:=by simpa [Nh] using h
def Nj (a b:yJ):Bool:=decide (a=b)
theorem Nk {a b:yJ} (h:Nj a b=true):a=b:=by simpa [Nj] using h
def Nl : Kd → Kd → Bool
 | .b,.b=>true
 | .i,.i=>true
 | .s,.s=>true
 |_,_=>false
theorem Nn {x y:Kd} (h:Nl x y=true):x=y:=by cases x<;>cases y<;>simp_all [Nl]
def kj {α : Type} (f : α → α → Bool) : List α → List α → Bool
 |[],[]=>true
 |a::r,b::s=>match f a b with
  |true=>kj f r s
  |false=>false
 |_,_=>false
theorem fc {α : Type} {f : α → α → Bool} (hf : ∀ {a b}, f a b = true → a = b) : ∀ {a b : List α}, kj f a b = true → a = b
 |[],[],_=>rfl
 |a::r,b::s,h=>by
  simp only [kj] at h
  split at h<;>try (cases h;done)
  rename_i h1
  rw [hf h1,fc hf h]
 |[],_::_,h=>by simp [kj] at h
 |_::_,[],h=>by simp [kj] at h
def VB:=kj Nl
theorem Np {a b:List Kd} (h:VB a b=true):a=b:=fc Nn h
def Nq:=kj lI
theorem DB {a b:List Bool} (h:Nq a b=true):a=b:=fc ef h
def DC:=kj Nat.beq
theorem rC {a b:List Nat} (h:DC a b=true):a=b:=fc Nat.eq_of_beq_eq_true h
def Nr:=kj DC
theorem Ks {a b:List (List Nat)} (h:Nr a b=true):a=b:=fc rC h
def dP : O → O → Bool
 | .t n,.t m=>Nat.beq n m
 | .c v,.c u=>RP v u
 | .m n l,.m m k=>an (Nat.beq n m) (decide (l=k))
 |_,_=>false
theorem aX {a b:O} (h:dP a b=true):a=b:=by
 cases a<;>cases b<;>simp only [dP,Bool.false_eq_true] at h
 ·rw [Nat.eq_of_beq_eq_true h]
 ·rw [Iu h]
 ·rw [aQ] at h;rw [Nat.eq_of_beq_eq_true h.1,of_decide_eq_true h.2]
def w5:=kj dP
theorem lZ {a b:List O} (h:w5 a b=true):a=b:=fc aX h
def DD : Option O → Option O → Bool
 |none,none=>true
 |some a,some b=>dP a b
 |_,_=>false
theorem w6 {a b:Option O} (h:DD a b=true):a=b:=by
 cases a<;>cases b<;>simp only [DD,Bool.false_eq_true] at h
 ·rfl
 ·rw [aX h]
def XU : Nat × Nat × O → Nat × Nat × O → Bool
 |(a,b,x),(a',b',x')=>an (Nat.beq a a') (an (Nat.beq b b') (dP x x'))
theorem RQ {p q:Nat×Nat×O} (h:XU p q=true):p=q:=by
 obtain ⟨a,b,c⟩:=p
 obtain ⟨a',b',c'⟩:=q
 simp only [XU,aQ] at h
 rw [Nat.eq_of_beq_eq_true h.1,Nat.eq_of_beq_eq_true h.2.1,aX h.2.2]
def VC:=kj XU
theorem Ns {a b:List (Nat×Nat×O)} (h:VC a b=true):a=b:=fc RQ h
def gv : I → I → Bool
 | .mv x0,.mv y0=>dP x0 y0
 | .pick x0 x1 x2,.pick y0 y1 y2=>an (dP x0 y0) (an (dP x1 y1) (dP x2 y2))
 | .alloc x0,.alloc y0=>pP x0 y0
 | .box x0,.box y0=>dP x0 y0
 | .build x0 x1,.build y0 y1=>an (pP x0 y0) (VC x1 y1)
 | .dS x0 x1,.dS y0 y1=>an (lX x0 y0) (w5 x1 y1)
 | .load x0 x1 x2,.load y0 y1 y2=>an (lI x0 y0) (an (Nat.beq x1 y1) (dP x2 y2))
 | .store x0 x1 x2,.store y0 y1 y2=>an (Nat.beq x0 y0) (an (dP x1 y1) (dP x2 y2))
 | .bin x0 x1 x2,.bin y0 y1 y2=>an (Nj x0 y0) (an (dP x1 y1) (dP x2 y2))
 | .QV x0 x1 x2,.QV y0 y1 y2=>an (lI x0 y0) (an (dP x1 y1) (dP x2 y2))
 | .eqs x0 x1 x2 x3,.eqs y0 y1 y2 y3=>an (lI x0 y0) (an (VB x1 y1) (an (dP x2 y2) (dP x3 y3)))
 | .neg x0,.neg y0=>dP x0 y0
 | .not x0,.not y0=>dP x0 y0
 | .conv x0 x1,.conv y0 y1=>an (Nh x0 y0) (dP x1 y1)
 | .mD x0 x1 x2,.mD y0 y1 y2=>an (Nat.beq x0 y0) (an (Nq x1 y1) (dP x2 y2))
 | .field x0 x1 x2 x3,.field y0 y1 y2 y3=>an (lI x0 y0) (an (Nat.beq x1 y1) (an (Nat.beq x2 y2) (dP x3 y3)))
 | .idx x0 x1 x2,.idx y0 y1 y2=>an (Nat.beq x0 y0) (an (dP x1 y1) (dP x2 y2))
 | .yK x0 x1 x2 x3,.yK y0 y1 y2 y3=>an (Nat.beq x0 y0) (an (Nat.beq x1 y1) (an (dP x2 y2) (dP x3 y3)))
 | .ext x0 x1,.ext y0 y1=>an (Nat.beq x0 y0) (dP x1 y1)
 | .len x0,.len y0=>dP x0 y0
 | .lens x0,.lens y0=>dP x0 y0
 | .yL x0,.yL y0=>Nat.beq x0 y0
 | .append x0 x1 x2,.append y0 y1 y2=>an (Nat.beq x0 y0) (an (dP x1 y1) (dP x2 y2))
 | .iM x0 x1,.iM y0 y1=>an (lX x0 y0) (dP x1 y1)
 | .AN x0 x1 x2,.AN y0 y1 y2=>an (Nat.beq x0 y0) (an (w5 x1 y1) (w5 x2 y2))
 | .slice x0 x1 x2 x3 x4,.slice y0 y1 y2 y3 y4=>an (Nat.beq x0 y0) (an (dP x1 y1) (an (DD x2 y2) (an (DD x3 y3) (DD x4 y4))))
 | .lC x0 x1 x2,.lC y0 y1 y2=>an (lI x0 y0) (an (dP x1 y1) (w5 x2 y2))
 | .ex x0 x1,.ex y0 y1=>an (decide (x0=y0)) (w5 x1 y1)
 |_,_=>false
theorem RR {a b:I} (h:gv a b=true):a=b:=by
 cases a<;>cases b<;>first|(simp only [gv,Bool.false_eq_true] at h;done)|skip
 case mv.mv=>simp only [gv,aQ] at h;rw [aX h]
 case pick.pick=>simp only [gv,aQ] at h;rw [aX h.1,aX h.2.1,aX h.2.2]
 case alloc.alloc=>simp only [gv,aQ] at h;rw [lY h]
 case box.box=>simp only [gv,aQ] at h;rw [aX h]
 case build.build=>simp only [gv,aQ] at h;rw [lY h.1,Ns h.2]
 case dS.dS=>simp only [gv,aQ] at h;rw [k8 h.1,lZ h.2]
 case load.load=>simp only [gv,aQ] at h;rw [ef h.1,Nat.eq_of_beq_eq_true h.2.1,aX h.2.2]
 case store.store=>simp only [gv,aQ] at h;rw [Nat.eq_of_beq_eq_true h.1,aX h.2.1,aX h.2.2]
 case bin.bin=>simp only [gv,aQ] at h;rw [Nk h.1,aX h.2.1,aX h.2.2]
 case QV.QV=>simp only [gv,aQ] at h;rw [ef h.1,aX h.2.1,aX h.2.2]
 case eqs.eqs=>simp only [gv,aQ] at h;rw [ef h.1,Np h.2.1,aX h.2.2.1,aX h.2.2.2]
 case neg.neg=>simp only [gv,aQ] at h;rw [aX h]
 case not.not=>simp only [gv,aQ] at h;rw [aX h]
 case conv.conv=>simp only [gv,aQ] at h;rw [Ni h.1,aX h.2]
 case mD.mD=>simp only [gv,aQ] at h;rw [Nat.eq_of_beq_eq_true h.1,DB h.2.1,aX h.2.2]
 case field.field=>simp only [gv,aQ] at h;rw [ef h.1,Nat.eq_of_beq_eq_true h.2.1,Nat.eq_of_beq_eq_true h.2.2.1,aX h.2.2.2]
 case idx.idx=>simp only [gv,aQ] at h;rw [Nat.eq_of_beq_eq_true h.1,aX h.2.1,aX h.2.2]
 case yK.yK=>simp only [gv,aQ] at h;rw [Nat.eq_of_beq_eq_true h.1,Nat.eq_of_beq_eq_true h.2.1,aX h.2.2.1,aX h.2.2.2]
 case ext.ext=>simp only [gv,aQ] at h;rw [Nat.eq_of_beq_eq_true h.1,aX h.2]
 case len.len=>simp only [gv,aQ] at h;rw [aX h]
 case lens.lens=>simp only [gv,aQ] at h;rw [aX h]
 case yL.yL=>simp only [gv,aQ] at h;rw [Nat.eq_of_beq_eq_true h]
 case append.append=>simp only [gv,aQ] at h;rw [Nat.eq_of_beq_eq_true h.1,aX h.2.1,aX h.2.2]
 case iM.iM=>simp only [gv,aQ] at h;rw [k8 h.1,aX h.2]
 case AN.AN=>simp only [gv,aQ] at h;rw [Nat.eq_of_beq_eq_true h.1,lZ h.2.1,lZ h.2.2]
 case slice.slice=>simp only [gv,aQ] at h;rw [Nat.eq_of_beq_eq_true h.1,aX h.2.1,w6 h.2.2.1,w6 h.2.2.2.1,w6 h.2.2.2.2]
 case lC.lC=>simp only [gv,aQ] at h;rw [ef h.1,aX h.2.1,lZ h.2.2]
 case ex.ex=>simp only [gv,aQ] at h;rw [of_decide_eq_true h.1,lZ h.2]
def RT : Option (Nat × Bool) → Option (Nat × Bool) → Bool
 |none,none=>true
 |some (s,b),some (s',b')=>an (Nat.beq s s') (lI b b')
 |_,_=>false
theorem Iv {p q:Option (Nat×Bool)} (h:RT p q=true):p=q:=by
 rcases p with _|⟨a,b⟩<;>rcases q with _|⟨a',b'⟩<;>simp only [RT,Bool.false_eq_true,aQ] at h
 ·rfl
 ·rw [Nat.eq_of_beq_eq_true h.1,ef h.2]
def Nt : Option Nat → Option Nat → Bool
 |none,none=>true
 |some a,some b=>Nat.beq a b
 |_,_=>false
theorem Bx {a b:Option Nat} (h:Nt a b=true):a=b:=by
 cases a<;>cases b<;>simp only [Nt,Bool.false_eq_true] at h
 ·rfl
 ·rw [Nat.eq_of_beq_eq_true h]
def Nu : Option Ty → Option Ty → Bool
 |none,none=>true
 |some a,some b=>lX a b
 |_,_=>false
theorem Nv {a b:Option Ty} (h:Nu a b=true):a=b:=by
 cases a<;>cases b<;>simp only [Nu,Bool.false_eq_true] at h
 ·rfl
 ·rw [k8 h]
def w8 : eR → eR → Bool
 | .op d g i,.op d' g' i'=>an (Nt d d') (an (RT g g') (gv i i'))
 | .call d g f a t,.call d' g' f' a' t'=>an (Nt d d') (an (RT g g') (an (dP f f') (an (w5 a a') (kj Nu t t'))))
 |_,_=>false
theorem tr {a b:eR} (h:w8 a b=true):a=b:=by
 cases a<;>cases b<;>simp only [w8,Bool.false_eq_true,aQ] at h
 ·rw [Bx h.1,Iv h.2.1,RR h.2.2]
 ·rw [Bx h.1,Iv h.2.1,aX h.2.2.1,lZ h.2.2.2.1,fc Nv h.2.2.2.2]
def ji : C → C → Bool
 | .skip,.skip=>true
 | .aV is,.aV is'=>kj w8 is is'
 | .draw ps is,.draw ps' is'=>an (Nr ps ps') (kj w8 is is')
 | .seq a b,.seq a' b'=>an (ji a a') (ji b b')
 | .cond c a b,.cond c' a' b'=>an (dP c c') (an (ji a a') (ji b b'))
 | .block id c,.block id' c'=>an (Nat.beq id id') (ji c c')
 | .loop c,.loop c'=>ji c c'
 | .exit id,.exit id'=>Nat.beq id id'
 | .ret,.ret=>true
 | .bH f ps a b,.bH f' ps' a' b'=>an (dP f f') (an (DC ps ps') (an (ji a a') (ji b b')))
 | .gK p m i cl e kt kg vt vg d b,.gK p' m' i' cl' e' LD Vf LF QY d' b'=>an (kj w8 p p') (an (dP m m') (an (Nat.beq i i') (an (DC cl cl') (an (Nt e e') (an (lX kt LD) (an (lI kg Vf) (an (lX vt LF) (an (lI vg QY) (an (Nat.beq d d') (ji b b'))))))))))
 |_,_=>false
theorem vo:∀{a b:C},ji a b=true→a=b:=by
 intro a
 induction a with
 |skip=>intro b h;cases b<;>simp [ji] at h ⊢
 |ret=>intro b h;cases b<;>simp [ji] at h ⊢
 |exit id=>intro b h;cases b<;>simp only [ji,Bool.false_eq_true] at h;rw [Nat.eq_of_beq_eq_true h]
 |aV is=>intro b h;cases b<;>simp only [ji,Bool.false_eq_true] at h;rw [fc tr h]
 |draw ps is=>intro b h;cases b<;>simp only [ji,Bool.false_eq_true,aQ] at h;rw [Ks h.1,fc tr h.2]
 |seq a b Gg Fj=>intro b h;cases b<;>simp only [ji,Bool.false_eq_true,aQ] at h;rw [Gg h.1,Fj h.2]
 |cond c a b Gg Fj=>intro b h;cases b<;>simp only [ji,Bool.false_eq_true,aQ] at h;rw [aX h.1,Gg h.2.1,Fj h.2.2]
 |block id c ih=>intro b h;cases b<;>simp only [ji,Bool.false_eq_true,aQ] at h;rw [Nat.eq_of_beq_eq_true h.1,ih h.2]
 |loop c ih=>intro b h;cases b<;>simp only [ji,Bool.false_eq_true] at h;rw [ih h]
 |gK p m i cl e kt kg vt vg d b ih =>
  intro b h
  cases b<;>simp only [ji,Bool.false_eq_true,aQ] at h
  obtain ⟨h1,h2,h3,h4,h5,h6,h7,h8,h9,h11,h10⟩:=h
  rw [fc tr h1,aX h2,Nat.eq_of_beq_eq_true h3,rC h4,Bx h5,k8 h6,ef h7,k8 h8,ef h9,Nat.eq_of_beq_eq_true h11,ih h10]
 |bH f ps a b Gg Fj=>intro b h;cases b<;>simp only [ji,Bool.false_eq_true,aQ] at h;rw [aX h.1,rC h.2.1,Gg h.2.2.1,Fj h.2.2.2]
end Go.AM
end
section
namespace Go.AM
section
variable {π:List Nat}
theorem oT : ∀ (π : List Nat) (b : Nat), uP π b = π[b]?
 |[],_=>by simp [uP]
 |i::r,0=>by simp [uP]
 |i::r,n+1=>by simp [uP,oT r n]
theorem k9 {b i:Nat} (h:yX π b i=true):π[b]?=some i:=by
 unfold yX at h
 split at h
 ·rename_i j e;rw [←oT,e,Nat.eq_of_beq_eq_true h]
 ·cases h
theorem CD.append {as bs cs ds:List V} (h:CD π as bs) (h':CD π cs ds):CD π (as++cs) (bs++ds):=by
 induction as generalizing bs with
 |nil =>
  have:bs=[]:=List.eq_nil_of_length_eq_zero h.1.symm
  subst this;simpa using h'
 |cons a as ih =>
  cases bs with
  |nil=>exact absurd h.1 (by simp)
  |cons b bs=>exact .cons (h.2 0 a b rfl rfl) (ih ⟨by have:=h.1;simpa using this,fun i v u hv hu=>h.2 (i+1) v u (by simpa using hv) (by simpa using hu)⟩)
theorem DE {t t':Ty} {xs:List t.den} {ys:List t'.den} (h:jR t t' xs=some ys):V.eO t' ys=V.eO t xs:=by
 obtain ⟨e,he⟩:=dU h
 subst e;subst he;rfl
theorem DF {g:Bool} {v:V} {ds cs:List V} (h:AP g v=some cs) (aj:CD π ds cs):EV π (cz.iS g ds) v:=by
 cases g with
 |true =>
  cases v<;>simp [AP] at h
  subst h
  exact .agg _ _ aj.1 aj.2
 |false =>
  have:cs=[v]:=by cases v<;>simp_all [AP,V.cells?]
  subst this
  match ds,aj with
  |[w],aj=>exact aj.2 0 w v rfl rfl
  |[],aj=>exact absurd aj.1 (by simp)
  |_::_::_,aj=>exact absurd aj.1 (by simp)
theorem oU {ar : Ar} : ∀ {t : Ty} {vs : List V} {x : t.den} {u : eF} {r : List V}, bt ar [] t vs = some (x, u, r) → ∃ us, vs = us ++ r ∧ CD π (cz t x) us
 | .unit,vs,x,u,r,h=>by
  simp [bt] at h;obtain ⟨_,_,rfl⟩:=h;exact ⟨[],rfl,.nil⟩
 | .bool,vs,x,u,r,h=>by
  rcases vs with _|⟨v,r'⟩
  ·simp [bt] at h
  ·cases v <;> simp [bt] at h
   ·obtain ⟨rfl,_,rfl⟩:=h;exact ⟨[_],rfl,.cons (.tfb _) .nil⟩
   ·obtain ⟨rfl,_,rfl⟩:=h;exact ⟨[_],rfl,.cons (.bool _) .nil⟩
 | .str,vs,x,u,r,h=>by
  rcases vs with _|⟨v,r'⟩
  ·simp [bt] at h
  ·cases v <;> simp [bt] at h
   obtain ⟨rfl,_,rfl⟩:=h;exact ⟨[_],rfl,.cons (.str _) .nil⟩
 | .int k,vs,x,u,r,h=>by
  rcases vs with _|⟨v,r'⟩
  ·simp [bt] at h
  ·cases v <;> simp [bt] at h
   obtain ⟨rfl,rfl,_,rfl⟩:=h;exact ⟨[_],rfl,.cons (.int _ _) .nil⟩
 | .list t,vs,x,u,r,h=>by
  rcases vs with _|⟨v,r'⟩
  ·simp [bt] at h
  ·cases v <;> simp only [bt] at h <;> try (cases h; done)
   ·split at h <;> try (cases h; done)
    rename_i hc
    cases h
    exact ⟨[_],rfl,.cons (by rw [DE hc];exact .eO _ _) .nil⟩
   ·cases h;exact ⟨[.bX],rfl,.cons (.XF _) .nil⟩
 | .prod a b,vs,x,u,r,h=>by
  simp only [bt] at h
  split at h<;>try (cases h;done)
  rename_i x1 u1 r1 h1
  split at h<;>try (cases h;done)
  rename_i y1 u2 r2 h2
  cases h
  obtain ⟨us,rfl,e1⟩:=oU h1
  obtain ⟨W9,rfl,e2⟩:=oU h2
  exact ⟨us++W9,by simp,e1.append e2⟩
 | .cu d g t,vs,x,u,r,h=>by
  cases vs with
  |nil=>simp [bt] at h
  |cons v vs =>
   cases v<;>simp only [bt] at h<;>try (cases h;done)
   rename_i d' v'
   split at h<;>try (cases h;done)
   rename_i e;subst e
   split at h<;>try (cases h;done)
   rename_i cs hun
   split at h<;>try (cases h;done)
   rename_i x0 ho
   cases h
   obtain ⟨us,e1,aj⟩:=oU ho
   rw [List.append_nil] at e1
   exact ⟨[.cu d v'],rfl,.cons (.cu _ _ _ (DF hun (by rw [e1];exact aj))) .nil⟩
theorem RU : ∀ {t : Ty} {v : V} {x : t.den}, Bw t v = some x → EV π (tyV t x) v
 | .unit,v,x,h=>by simp [Bw] at h
 | .bool,v,x,h=>by
  cases v<;>simp [Bw] at h
  ·subst h;exact .tfb _
  ·subst h;exact .bool _
 | .str,v,x,h=>by
  cases v<;>simp [Bw] at h
  subst h;exact .str _
 | .int k,v,x,h=>by
  cases v<;>simp only [Bw] at h<;>try (cases h;done)
  split at h<;>try (cases h;done)
  rename_i hk
  cases h
  have:=of_decide_eq_true hk
  subst this;exact .int _ _
 | .list t,v,x,h=>by
  cases v<;>simp only [Bw] at h<;>try (cases h;done)
  ·show EV π (.eO t x) _
   rw [DE h];exact .eO _ _
  ·cases h;exact .XF _
 | .prod a b,v,x,h=>by
  cases v<;>simp only [Bw] at h<;>try (cases h;done)
  split at h<;>try (cases h;done)
  rename_i hc
  cases h
  obtain ⟨us,e,aj⟩:=oU (π:=π) hc
  rw [List.append_nil] at e
  subst e
  exact .agg _ _ aj.1 aj.2
 | .cu d g t,v,x,h=>by
  simp only [Bw] at h
  split at h<;>try (cases h;done)
  rename_i hc
  cases h
  obtain ⟨us,e,aj⟩:=oU (π:=π) hc
  rw [List.append_nil] at e
  subst e
  exact aj.2 0 _ _ rfl rfl
variable {A:Type}
theorem CP.XV {c:CP} {v:V} {f:A→c.T A} (h:c.rd1 π v=some f) (a:A):CD π (c.vs (f a)) [v]∧c.r (f a)=a:=by
 cases c<;>simp only [CP.rd1] at h
 case any=>cases h;exact ⟨.cons (.any _) .nil,rfl⟩
 case tf b =>
  split at h<;>try (cases h;done)
  split at h<;>try (cases h;done)
  rename_i hb
  cases h
  rw [←ef hb]
  exact ⟨.cons (.tf _) .nil,rfl⟩
 case eE=>split at h<;>cases h;exact ⟨.cons (.eE) .nil,rfl⟩
 case cG=>split at h<;>cases h;exact ⟨.cons (.cG) .nil,rfl⟩
 case ff=>split at h<;>cases h;exact ⟨.cons (.ff) .nil,rfl⟩
 case bX=>split at h<;>cases h;exact ⟨.cons (.bX) .nil,rfl⟩
 case hole t =>
  split at h<;>cases h
  rename_i hx
  exact ⟨.cons (RU hx) .nil,rfl⟩
 case bN b t =>
  split at h<;>try (cases h;done)
  ·rename_i i t' lo n
   split at h<;>try (cases h;done)
   rename_i h1
   split at h<;>try (cases h;done)
   rename_i h2
   split at h<;>try (cases h;done)
   rename_i h3
   cases h
   have e:=Nat.eq_of_beq_eq_true h3
   rw [k8 h2,e]
   exact ⟨.cons (.sl _ _ _ _ _ (k9 h1)) .nil,rfl⟩
  ·cases h;exact ⟨.cons (.XG _ _ _) .nil,rfl⟩
 case QK b t =>
  split at h<;>try (cases h;done)
  ·rename_i i t' lo n
   split at h<;>try (cases h;done)
   rename_i h1
   split at h<;>try (cases h;done)
   rename_i h2
   cases h
   rw [k8 h2]
   exact ⟨.cons (.sl _ _ _ _ _ (k9 h1)) .nil,rfl⟩
  ·cases h;exact ⟨.cons (.XG _ _ _) .nil,rfl⟩
 case ptr b off =>
  split at h<;>try (cases h;done)
  split at h<;>try (cases h;done)
  rename_i h1
  split at h<;>try (cases h;done)
  rename_i h2
  cases h
  rw [Nat.eq_of_beq_eq_true h2]
  exact ⟨.cons (.ptr _ _ _ (k9 h1)) .nil,rfl⟩
 case yl b =>
  split at h<;>try (cases h;done)
  split at h<;>try (cases h;done)
  rename_i h1
  cases h
  exact ⟨.cons (.yl _ _ (k9 h1)) .nil,rfl⟩
 case fu t =>
  split at h<;>try (cases h;done)
  split at h<;>try (cases h;done)
  rename_i hc
  cases h
  obtain ⟨us,e,aj⟩:=oU (π:=π) hc
  rw [List.append_nil] at e
  subst e
  exact ⟨.cons (.fu _ _ aj.1 aj.2) .nil,rfl⟩
 case mp b =>
  split at h<;>try (cases h;done)
  split at h<;>try (cases h;done)
  rename_i h1
  cases h
  exact ⟨.cons (.mp _ _ (k9 h1)) .nil,rfl⟩
 case cD=>split at h<;>cases h;exact ⟨.cons (.cD) .nil,rfl⟩
 case pa b t n =>
  split at h<;>try (cases h;done)
  split at h<;>try (cases h;done)
  rename_i h1
  split at h<;>try (cases h;done)
  rename_i h2
  split at h<;>try (cases h;done)
  rename_i h3
  cases h
  rw [k8 h2,Nat.eq_of_beq_eq_true h3]
  exact ⟨.cons (.pa _ _ _ _ (k9 h1)) .nil,rfl⟩
 case kV t =>
  split at h<;>try (cases h;done)
  split at h<;>try (cases h;done)
  rename_i ys hc
  cases h
  obtain ⟨e,he⟩:=dU hc
  subst e;subst he
  exact ⟨.cons (.kV _ _) .nil,rfl⟩
 case Gi=>cases h
 case fn0 f' =>
  split at h<;>try (cases h;done)
  split at h<;>try (cases h;done)
  rename_i h1
  cases h
  rw [Nat.eq_of_beq_eq_true h1]
  exact ⟨.cons (.fn _ _ _ _ _ rfl (fun i v u hv=>by simp at hv) rfl (fun i v u hv=>by simp at hv)) .nil,rfl⟩
 case Kq=>cases h
 case Kr=>cases h
 case fn=>cases h
 case nil=>cases h
 case cons=>cases h
theorem CP.XW:∀{c:CP} {A:Type} {vs r:List V} {f:A→c.T A},c.Fk π vs=some (f,r)→∃us,vs=us++r∧∀a,CD π (c.vs (f a)) us∧c.r (f a)=a:=by
 intro c
 induction c with
 |nil=>intro A vs r f h;simp only [CP.Fk] at h;cases h;exact ⟨[],rfl,fun a=>⟨.nil,rfl⟩⟩
 |cons c l ihc ihl =>
  intro A vs r f h
  simp only [CP.Fk] at h
  split at h<;>try (cases h;done)
  rename_i f1 vs' h1
  split at h<;>try (cases h;done)
  rename_i g vs'' h2
  cases h
  obtain ⟨us,rfl,e1⟩:=ihc h1
  obtain ⟨W9,rfl,e2⟩:=ihl h2
  refine ⟨us++W9,by simp,fun a=>?_⟩
  obtain ⟨q1,q2⟩:=e1 (g a)
  obtain ⟨q3,q4⟩:=e2 a
  simp only [CP.vs,CP.r,q2]
  exact ⟨q1.append q3,q4⟩
 |Kq l ih =>
  intro A vs r f h
  simp only [CP.Fk] at h
  split at h<;>try (cases h;done)
  rename_i cs r'
  split at h<;>try (cases h;done)
  rename_i f1 h1
  cases h
  obtain ⟨us,e,e1⟩:=ih h1
  rw [List.append_nil] at e
  subst e
  refine ⟨[.fu cs],rfl,fun a=>?_⟩
  obtain ⟨q1,q2⟩:=e1 a
  exact ⟨.cons (.fu _ _ q1.1 q1.2) .nil,q2⟩
 |Kr l ih =>
  intro A vs r f h
  simp only [CP.Fk] at h
  split at h<;>try (cases h;done)
  rename_i cs r'
  split at h<;>try (cases h;done)
  rename_i f1 h1
  cases h
  obtain ⟨us,e,e1⟩:=ih h1
  rw [List.append_nil] at e
  subst e
  refine ⟨[.agg cs],rfl,fun a=>?_⟩
  obtain ⟨q1,q2⟩:=e1 a
  exact ⟨.cons (.agg _ _ q1.1 q1.2) .nil,q2⟩
 |Gi t g l ih =>
  intro A vs r f h
  simp only [CP.Fk] at h
  split at h<;>try (cases h;done)
  rename_i t' v r'
  split at h<;>try (cases h;done)
  rename_i ht
  split at h<;>try (cases h;done)
  rename_i cs hun
  split at h<;>try (cases h;done)
  rename_i f1 h1
  cases h
  obtain ⟨us,e,e1⟩:=ih h1
  rw [List.append_nil] at e
  subst e
  have e0:=Nat.eq_of_beq_eq_true ht
  subst e0
  refine ⟨[.cu t' v],rfl,fun a=>?_⟩
  obtain ⟨q1,q2⟩:=e1 a
  exact ⟨.cons (.cu _ _ _ (DF hun q1)) .nil,q2⟩
 |fn f0 a b Gg Fj =>
  intro A vs r f h
  simp only [CP.Fk] at h
  split at h<;>try (cases h;done)
  rename_i f' va vb r'
  split at h<;>try (cases h;done)
  rename_i hf
  split at h<;>try (cases h;done)
  rename_i g hg
  split at h<;>try (cases h;done)
  rename_i k hk
  cases h
  obtain ⟨us,e,e1⟩:=Gg hg
  rw [List.append_nil] at e
  subst e
  obtain ⟨W9,e',e2⟩:=Fj hk
  rw [List.append_nil] at e'
  subst e'
  have e0:=Nat.eq_of_beq_eq_true hf
  subst e0
  refine ⟨[.fn f' va vb],rfl,fun x=>?_⟩
  obtain ⟨q1,q2⟩:=e1 (k x)
  obtain ⟨q3,q4⟩:=e2 x
  simp only [CP.vs,CP.r,q2]
  exact ⟨.cons (.fn _ _ _ _ _ q1.1 q1.2 q3.1 q3.2) .nil,q4⟩
 |_ =>
  intro A vs r f h
  simp only [CP.Fk] at h
  split at h<;>try (cases h;done)
  rename_i v r'
  split at h<;>try (cases h;done)
  rename_i f1 h1
  cases h
  exact ⟨[v],rfl,fun a=>CP.XV h1 a⟩
theorem CP.rD {c:CP} {v:V} {f:A→c.T A} (h:c.rd π v=some f) (a:A):EV π (c.v (f a)) v∧c.r (f a)=a:=by
 unfold CP.rd at h
 split at h<;>try (cases h;done)
 rename_i f1 h1
 cases h
 obtain ⟨us,e,e1⟩:=CP.XW h1
 rw [List.append_nil] at e
 subst e
 obtain ⟨q1,q2⟩:=e1 a
 refine ⟨?_,q2⟩
 unfold CP.v
 have hl:=q1.1
 cases hc:c.vs (f a) with
 |nil=>rw [hc] at hl;simp at hl
 |cons u r=>exact q1.2 0 u v (by rw [hc];rfl) rfl
theorem iZ : ∀ {cs : List CP} {vs : List V} {f : A → lW cs A}, fC π cs vs = some f → ∀ a, CD π (qn cs (f a)) vs ∧ rB cs (f a) = a
 |[],[],f,h,a=>by cases h;exact ⟨.nil,rfl⟩
 |c::r,v::vs,f,h,a=>by
  simp only [fC] at h
  split at h<;>try (cases h;done)
  rename_i f1 h1
  split at h<;>cases h
  rename_i g h2
  obtain ⟨q1,q2⟩:=CP.rD h1 (g a)
  obtain ⟨q3,q4⟩:=iZ h2 a
  simp only [qn,rB,q2]
  exact ⟨.cons q1 q3,q4⟩
 |[],_::_,f,h,a=>by simp [fC] at h
 |_::_,[],f,h,a=>by simp [fC] at h
theorem SP.rD : ∀ {p : SP} {v : V} {f : A → p.T A}, p.rd π v = some f → ∀ (a : A), EV π (p.v (f a)) v ∧ p.r (f a) = a
 | .c q,v,f,h,a=>CP.rD (c:=q) h a
 | .agg cs,v,f,h,a=>by
  cases v<;>try (cases h;done)
  rename_i vs
  have h':fC π cs vs=some f:=h
  obtain ⟨h1,h2⟩:=iZ h' a
  exact ⟨.agg _ _ h1.1 h1.2,h2⟩
 | .cK cs,v,f,h,a=>by
  cases v<;>try (cases h;done)
  rename_i vs
  have h':fC π cs vs=some f:=h
  obtain ⟨h1,h2⟩:=iZ h' a
  exact ⟨.cK _ _ h1.1 h1.2,h2⟩
 | .fn f' x y,v,f,h,a=>by
  cases v with
  |fn f2 va vb =>
   have h':(match Nat.beq f2 f' with
    |true=>match fC (A:=lW y A) π x va with
     |some g=>match fC (A:=A) π y vb with
      |some h=>some fun z=>g (h z)
      |none=>none
     |none=>none
    |false=>none)=some f:=h
   clear h
   cases hf:Nat.beq f2 f' with
   |false=>rw [hf] at h';cases h'
   |true =>
    rw [hf] at h'
    simp only at h'
    cases hg:fC (A:=lW y A) π x va with
    |none=>rw [hg] at h';cases h'
    |some g =>
     rw [hg] at h'
     simp only at h'
     cases hk:fC (A:=A) π y vb with
     |none=>rw [hk] at h';cases h'
     |some k =>
      rw [hk] at h'
      have h2:(fun z=>g (k z))=f:=Option.some.inj h'
      obtain ⟨q1,q2⟩:=iZ hg (k a)
      obtain ⟨q3,q4⟩:=iZ hk a
      have e:=Nat.eq_of_beq_eq_true hf
      subst e
      have e2:SP.v (A:=A) (.fn f2 x y) (g (k a)) = .fn f2 (qn x (g (k a))) (qn y (k a)):=by
       show V.fn f2 _ (qn y (rB x (g (k a))))=_
       rw [q2]
      have e3:SP.r (A:=A) (.fn f2 x y) (g (k a))=a:=by
       show rB y (rB x (g (k a)))=a
       rw [q2,q4]
      have e4:f a=g (k a):=by rw [←h2]
      rw [e4]
      exact ⟨by rw [e2];exact .fn _ _ _ _ _ q1.1 q1.2 q3.1 q3.2,e3⟩
  |_=>cases h
 | .alt x y,v,f,h,a=>by
  cases v with
  |cK vs =>
   have h':(match fC (A:=A) π x vs with
    |some f=>some fun z=>(Sum.inl (f z):lW x A ⊕ lW y A)
    |none=>match fC (A:=A) π y vs with
     |some f=>some fun z=>Sum.inr (f z)
     |none=>none)=some f:=h
   clear h
   cases hx:fC (A:=A) π x vs with
   |some g =>
    rw [hx] at h'
    have h2:=Option.some.inj h'
    subst h2
    obtain ⟨h1,h2⟩:=iZ hx a
    exact ⟨.cK _ _ h1.1 h1.2,h2⟩
   |none =>
    rw [hx] at h'
    simp only at h'
    cases hy:fC (A:=A) π y vs with
    |none=>rw [hy] at h';cases h'
    |some g =>
     rw [hy] at h'
     have h2:=Option.some.inj h'
     subst h2
     obtain ⟨h1,h2⟩:=iZ hy a
     exact ⟨.cK _ _ h1.1 h1.2,h2⟩
  |_=>cases h
theorem rE {env : Env} : ∀ {ps : List (Nat × SP)} {f : A → yW ps A}, zZ π env ps = some f → ∀ a, EE π (wZ ps (f a)) env ∧ Ng ps (f a) = a
 |[],f,h,a=>by cases h;exact ⟨fun p hp=>by simp [wZ] at hp,rfl⟩
 |(s,p)::r,f,h,a=>by
  simp only [zZ] at h
  split at h<;>try (cases h;done)
  rename_i f1 h1
  split at h<;>cases h
  rename_i g h2
  obtain ⟨q1,q2⟩:=SP.rD h1 (g a)
  obtain ⟨q3,q4⟩:=rE h2 a
  simp only [wZ,Ng,q2]
  refine ⟨fun x hx=>?_,q4⟩
  rcases List.mem_cons.1 hx with rfl|hx
  ·exact q1
  ·exact q3 x hx
def Nw : pY → pY → Bool
 | .ready,.ready=>true
 | .busy,.busy=>true
 | .done,.done=>true
 | .exhausted,.exhausted=>true
 |_,_=>false
theorem Nx {a b:pY} (h:Nw a b=true):a=b:=by cases a<;>cases b<;>simp_all [Nw]
def XX : Option Ex → Option Ex → Bool
 |none,none=>true
 |some .normal,some .normal=>true
 |some (.exit a),some (.exit b)=>Nat.beq a b
 |some .ret,some .ret=>true
 |_,_=>false
theorem RW {a b:Option Ex} (h:XX a b=true):a=b:=by
 rcases a with _|(_|_|_)<;>rcases b with _|(_|_|_)<;>simp only [XX,Bool.false_eq_true] at h<;>try rfl
 rw [Nat.eq_of_beq_eq_true h]
def BP.rd (π:List Nat) (nx:Nat) (bl:aq) (id:Nat) (p:BP):Option (A→p.T A) :=
 match uP π id with
 |none=>none
 |some i=>match p with
  | .arr t fz=>match ay i bl with
   |some (.arr t' xs Xa)=>match jR t' t xs with
    |some ys=>match lI Xa fz with
     |true=>some fun a=>(ys,a)
     |false=>none
    |none=>none
   |none=>match Nat.ble nx i with
    |true=>some fun a=>(([]:List t.den),a)
    |false=>none
   |_=>none
  | .cells cs fz=>match ay i bl with
   |some (.cells vs Xa)=>match lI Xa fz with
    |true=>fC π cs vs
    |false=>none
   |_=>none
  | .loop st j d env ps as bd N=>match ay i bl with
   |some (.loop st' j' d' env' ps' as' Rv N')=>match an (Nw st' st) (an (XX j' j)<|an (yX π d d') (an (DC ps' ps) (an (Nat.beq N' N) (an (ji as' as) (ji Rv bd))))) with
    |true=>zZ π env' env
    |false=>none
   |_=>none
  | .ig=>match ay i bl with
   |some .ig=>some fun a=>a
   |_=>none
  | .map kt kg vt vg=>match ay i bl with
   |some (.map LD Vf LF QY es)=>match an (lI Vf kg) (lI QY vg) with
    |true=>match HL LD LF kt vt es with
     |some fs=>some fun a=>(fs,a)
     |none=>none
    |false=>none
   |_=>none
  | .mw t k q c=>match ay i bl with
   |some (.mw t' xs k' q' v)=>match an (Nat.beq k' k) (Nq q' q) with
    |true=>match jR t' t xs with
     |some ys=>match CP.rd π c v with
      |some f=>some fun a=>(ys,f a)
      |none=>none
     |none=>none
    |false=>none
   |_=>none
theorem BP.rD {nx:Nat} {bl:aq} {id:Nat} {p:BP} {f:A→p.T A} (h:p.rd π nx bl id=some f) (a:A):EBk π nx bl id (p.v (f a))∧p.r (f a)=a:=by
 unfold BP.rd at h
 split at h
 ·cases h
 ·rename_i i hi
  rw [oT] at hi
  cases p<;>simp only at h
  case arr t fz =>
   split at h
   ·rename_i t' xs Xa hb
    split at h<;>try (cases h;done)
    rename_i ys hc
    split at h<;>cases h
    rename_i hfz
    refine ⟨⟨i,hi,.inl ?_⟩,rfl⟩
    obtain ⟨e,he⟩:=dU hc
    subst e;subst he
    rw [hb,ef hfz]
   ·rename_i hb
    split at h<;>cases h
    rename_i hle
    exact ⟨⟨i,hi,.inr ⟨rfl,Nat.le_of_ble_eq_true hle⟩⟩,rfl⟩
   ·cases h
  case cells cs fz =>
   split at h<;>try (cases h;done)
   rename_i vs Xa hb
   split at h<;>try (cases h;done)
   rename_i hfz
   obtain ⟨h1,h2⟩:=iZ h a
   refine ⟨⟨i,hi,vs,?_,h1⟩,h2⟩
   rw [hb,ef hfz]
  case loop st j d env ps as bd N =>
   split at h<;>try (cases h;done)
   rename_i st' j' d' env' ps' as' Rv N' hb
   split at h<;>try (cases h;done)
   rename_i hc
   simp only [aQ] at hc
   obtain ⟨c1,cj,c2,c3,c4,c5,c6⟩:=hc
   obtain ⟨h1,h2⟩:=rE h a
   refine ⟨⟨i,hi,d',env',?_,k9 c2,h1⟩,h2⟩
   rw [hb,Nx c1,RW cj,rC c3,Nat.eq_of_beq_eq_true c4,vo c5,vo c6]
  case ig =>
   split at h<;>cases h
   rename_i hb
   exact ⟨⟨i,hi,hb⟩,rfl⟩
  case map kt kg vt vg =>
   split at h<;>try (cases h;done)
   rename_i LD Vf LF QY es hb
   split at h<;>try (cases h;done)
   rename_i hg
   split at h<;>try (cases h;done)
   rename_i fs hc
   cases h
   simp only [aQ] at hg
   rw [ef hg.1,ef hg.2] at hb
   unfold HL at hc
   split at hc<;>try (cases hc;done)
   rename_i he
   obtain ⟨rfl,rfl⟩:=he
   cases hc
   exact ⟨⟨i,hi,hb⟩,rfl⟩
  case mw t k q c =>
   split at h<;>try (cases h;done)
   rename_i t' xs k' q' v hb
   split at h<;>try (cases h;done)
   rename_i hc
   simp only [aQ] at hc
   split at h<;>try (cases h;done)
   rename_i ys hy
   split at h<;>try (cases h;done)
   rename_i f' hf
   cases h
   obtain ⟨e,he⟩:=dU hy
   subst e;subst he
   obtain ⟨h1,h2⟩:=CP.rD hf a
   refine ⟨⟨i,hi,v,?_,h1⟩,h2⟩
   rw [hb,Nat.eq_of_beq_eq_true hc.1,DB hc.2]
def Ny (π : List Nat) (nx : Nat) (bl : aq) : (ps : List (Nat × BP)) → Option (A → RO ps A)
 |[]=>some fun a=>a
 |(id,p)::r=>match BP.rd (A:=RO r A) π nx bl id p with
  |some f=>match Ny π nx bl r with
   |some g=>some fun a=>f (g a)
   |none=>none
  |none=>none
theorem Bz {nx : Nat} {bl : aq} : ∀ {ps : List (Nat × BP)} {f : A → RO ps A}, Ny π nx bl ps = some f → ∀ a, (∀ p ∈ QL ps (f a), EBk π nx bl p.1 p.2) ∧ (QL ps (f a)).map (·.1) = ps.map (·.1)
 |[],f,h,a=>by cases h;exact ⟨fun p hp=>by simp [QL] at hp,rfl⟩
 |(s,p)::r,f,h,a=>by
  simp only [Ny] at h
  split at h<;>try (cases h;done)
  rename_i f1 h1
  split at h<;>cases h
  rename_i g h2
  obtain ⟨q1,q2⟩:=BP.rD h1 (g a)
  obtain ⟨q3,q4⟩:=Bz h2 a
  simp only [QL,q2]
  refine ⟨fun x hx=>?_,by simp [q4]⟩
  rcases List.mem_cons.1 hx with rfl|hx
  ·exact q1
  ·exact q3 x hx
def Kt (nx b : Nat) : V → Option Nat
 | .sl i _ _ _=>some i
 | .ptr i _=>some i
 | .yl i=>some i
 | .mp i=>some i
 | .pa i _ _=>some i
 | .ep i _ _ _=>some i
 | .bX=>some (nx+b)
 | .cu _ (.ptr i _)=>some i
 |_=>none
def Nz : List V → Nat → Option V
 |[],_=>none
 |v::_,0=>some v
 |_::r,n+1=>Nz r n
def XY (π : List Nat) (env : Env) (nx : Nat) (bl : aq) (ms : List Nat) (b : Nat) : Lc → Option Nat
 | .slot s=>Kt nx b (get s env)
 | .part s k=>match get s env with
  | .agg cs=>match Nz cs k with
   |some v=>Kt nx b v
   |none=>none
  | .fn _ a c=>match Nz (a++c) k with
   |some v=>Kt nx b v
   |none=>none
  | .cK cs=>match Nz cs k with
   |some v=>Kt nx b v
   |none=>none
  |_=>none
 | .cell b' k=>match uP π b' with
  |some i=>match ay i bl with
   |some (.cells cs _)=>match Nz cs k with
    |some v=>Kt nx b v
    |none=>none
   |some (.mw _ _ _ _ v)=>Kt nx b v
   |_=>none
  |none=>none
 | .old i=>some i
 | .mark j=>uP ms j
def snoc {R : Type} : List Nat → Nat → (List Nat → R) → R
 |[],i,k=>k [i]
 |j::r,i,k=>snoc r i fun r'=>k (j::r')
theorem BA {R : Type} : ∀ (l : List Nat) (i : Nat) (k : List Nat → R), snoc l i k = k (l ++ [i])
 |[],_,_=>rfl
 |j::r,i,k=>by simp only [snoc,BA r];rfl
def rF {R : Type} (no : R) (env : Env) (nx : Nat) (bl : aq) (ms : List Nat) : List Lc → List Nat → Nat → (List Nat → R) → R
 |[],π,_,k=>k π
 |l::r,π,b,k=>match XY π env nx bl ms b l with
  |some i=>fN i fun i=>snoc π i fun π=>fN (b+1) fun b=>rF no env nx bl ms r π b k
  |none=>no
theorem w9 {X:Type} {no:Option X} {env:Env} {nx:Nat} {bl:aq} {ms:List Nat}:∀{ls:List Lc} {π:List Nat} {b:Nat} {k:List Nat→Option X} {x:X},rF no env nx bl ms ls π b k=some x →
  no=some x∨∃r,r.length=ls.length∧k (π++r)=some x
 |[],π,b,k,x,h=>.inr ⟨[],rfl,by simpa [rF] using h⟩
 |l::ls,π,b,k,x,h=>by
  simp only [rF] at h
  split at h
  ·rename_i i hi
   rw [fQ,BA,fQ] at h
   rcases w9 h with h|⟨r,h1,h2⟩
   ·exact .inl h
   ·exact .inr ⟨i::r,by simp [h1],by simpa using h2⟩
  ·exact .inl h
def NA (π:List Nat) (a b:Nat):Bool:=match uP π a with
 |some i=>match uP π b with
  |some j=>match Nat.beq i j with
   |true=>false
   |false=>true
  |none=>false
 |none=>false
def BC (π : List Nat) (a : Nat) : List (Nat × BP) → Bool
 |[]=>true
 |(b,_)::r=>match NA π a b with
  |true=>BC π a r
  |false=>false
def xd (π : List Nat) : List (Nat × BP) → Bool
 |[]=>true
 |(a,_)::r=>match BC π a r with
  |true=>xd π r
  |false=>false
theorem NB {a b:Nat} (h:NA π a b=true):π[a]?≠π[b]?:=by
 unfold NA at h
 split at h<;>try (cases h;done)
 rename_i i hi
 split at h<;>try (cases h;done)
 rename_i j hj
 split at h<;>try (cases h;done)
 rename_i hij
 rw [←oT,←oT,hi,hj]
 intro e;cases e
 rw [Nat.beq_refl] at hij;cases hij
theorem tu {a : Nat} : ∀ {r : List (Nat × BP)}, BC π a r = true → ∀ b ∈ r.map (·.1), π[a]? ≠ π[b]?
 |[],_,b,hb=>by simp at hb
 |(c,_)::r,h,b,hb=>by
  simp only [BC] at h
  split at h<;>try (cases h;done)
  rename_i hd
  simp only [List.map_cons,List.mem_cons] at hb
  rcases hb with rfl|hb
  ·exact NB hd
  ·exact tu h b hb
theorem xe : ∀ {r : List (Nat × BP)}, xd π r = true → ∀ a ∈ r.map (·.1), ∀ b ∈ r.map (·.1), π[a]? = π[b]? → a = b
 |[],_,a,ha=>by simp at ha
 |(c,_)::r,h,a,ha=>by
  simp only [xd] at h
  split at h<;>try (cases h;done)
  rename_i hd
  intro b hb e
  simp only [List.map_cons,List.mem_cons] at ha hb
  rcases ha with rfl|ha<;>rcases hb with rfl|hb
  ·rfl
  ·exact absurd e (tu hd b hb)
  ·exact absurd e.symm (tu hd a ha)
  ·exact xe h a ha b hb e
def Ku (π : List Nat) : List Nat → List Nat → Bool
 |[],[]=>true
 |a::r,i::s=>match yX π a i with
  |true=>Ku π r s
  |false=>false
 |_,_=>false
theorem Iw : ∀ {ps ms : List Nat}, Ku π ps ms = true → ps.map (fun i => π[i]?) = ms.map some
 |[],[],_=>rfl
 |a::r,i::s,h=>by
  simp only [Ku] at h
  split at h<;>try (cases h;done)
  rename_i ha
  simp [k9 ha,Iw h]
 |[],_::_,h=>by simp [Ku] at h
 |_::_,[],h=>by simp [Ku] at h
def ax.rd {R:Type} (no:R) (pre:List Nat) (base:Nat) (p:ax) (env:Env) (nx:Nat) (bl:aq) (ms:List Nat) (k:p.T→R):R :=
 rF no env nx bl ms p.gL pre base fun π=>match an (Ku π p.ms ms) (xd π p.bl) with
  |true=>match zZ (A:=RO p.bl Unit) π env p.env with
   |some f=>match Ny (A:=Unit) π nx bl p.bl with
    |some g=>k (f (g ()))
    |none=>no
   |none=>no
  |false=>no
theorem ax.Iy {X:Type} {no:Option X} {base:Nat} {p:ax} {env:Env} {nx:Nat} {bl:aq} {ms:List Nat} {k:p.T→Option X} {r:X} (h:p.rd no (List.range base) base env nx bl ms k=some r) :
  no=some r∨∃x π,k x=some r∧jh base π ⟨env,⟨nx,bl⟩,ms⟩ (p.st base x):=by
 rcases w9 h with h|⟨rr,hlen,h⟩
 ·exact .inl h
 split at h
 ·rename_i hc
  rw [aQ] at hc
  split at h
  ·rename_i f hf
   split at h
   ·rename_i g hg
    obtain ⟨h1,h2⟩:=rE hf (g ())
    obtain ⟨h3,h4⟩:=Bz hg ()
    refine .inr ⟨f (g ()),List.range base++rr,h,?_⟩
    constructor
    ·simp
    ·simp [ax.st,hlen]
    ·exact Iw hc.1
    ·exact h1
    ·simp only [ax.st,ax.B,h2];exact h3
    ·simp only [ax.st, ax.B, h2]
     intro q hq s hs e
     refine xe hc.2 q.1 ?_ s.1 ?_ e
     ·rw [←h4];exact List.mem_map_of_mem hq
     ·rw [←h4];exact List.mem_map_of_mem hs
   ·exact .inl h
  ·exact .inl h
 ·exact .inl h
theorem ax.dH {X:Type} {base:Nat} {p:ax} {env:Env} {nx:Nat} {bl:aq} {ms:List Nat} {k:p.T→Option X} {r:X} (h:p.rd none (List.range base) base env nx bl ms k=some r) :
  ∃x π,k x=some r∧jh base π ⟨env,⟨nx,bl⟩,ms⟩ (p.st base x):=by
 rcases ax.Iy h with h|h
 ·cases h
 ·exact h
end
end Go.AM
end
section
namespace Go.AM
@[reducible] def de (k:IntKind) (z:Int):Bool:=k.min≤z&&z≤k.max
@[reducible] def bZ (i n:Int):Bool:=decide (0≤i∧i<n)
@[reducible] def W1 (a b:Int):Int:=if b<a then b else a
@[reducible] def imax (a b:Int):Int:=if b > a then b else a
@[reducible] def seq (a b:ByteArray):Bool:=a.toList==b.toList
@[reducible] def slt (a b:ByteArray):Bool:=Op.bytesLess a.toList b.toList
@[reducible] def Ft (c a b:Bool):Bool:=if c then a else b
def Gj : Ex → Ex → Bool
 | .normal,.normal=>true
 | .exit a,.exit b=>Nat.beq a b
 | .ret,.ret=>true
 |_,_=>false
theorem Iz {a b:Ex} (h:Gj a b=true):a=b:=by
 cases a<;>cases b<;>simp only [Gj,Bool.false_eq_true] at h<;>try rfl
 rw [Nat.eq_of_beq_eq_true h]
abbrev aT:=List (Ex×ax)
def aT.T : aT → Type
 |[]=>Empty
 |[(_,p)]=>p.T
 |(_,p)::q::r=>p.T ⊕ aT.T (q::r)
def aT.st (base : Nat) : (xs : aT) → xs.T → Ex × St
 |[],x=>nomatch x
 |[(e,p)],x=>(e,p.st base x)
 |(_,_)::q::r,.inr y=>aT.st base (q::r) y
 |(e,p)::_::_,.inl x=>(e,p.st base x)
section
variable {R:Type}
def RX : List V → (List V → R) → R
 |[],k=>k []
 |v::r,k=>fV v fun v=>RX r fun r=>k (v::r)
theorem mU : ∀ (l : List V) (k : List V → R), RX l k = k l
 |[],k=>rfl
 |v::r,k=>by simp only [RX,nA,mU r]
def Kv : Env → (Env → R) → R
 |[],k=>k []
 |(s,v)::r,k=>fV v fun v=>Kv r fun r=>k ((s,v)::r)
theorem rG : ∀ (l : Env) (k : Env → R), Kv l k = k l
 |[],k=>rfl
 |(s,v)::r,k=>by simp only [Kv,nA,rG r]
def XZ (b:kR) (k:kR→R):R:=match b with
 | .cells cs fz=>RX cs fun cs=>k (.cells cs fz)
 | .arr t xs fz=>k (.arr t xs fz)
 | .loop st j d env ps as bd N=>Kv env fun env=>k (.loop st j d env ps as bd N)
 | .ig=>k .ig
 | .map kt kg vt vg es=>k (.map kt kg vt vg es)
 | .mw t xs i p v=>fV v fun v=>k (.mw t xs i p v)
theorem RY (b:kR) (k:kR→R):XZ b k=k b:=by cases b<;>simp only [XZ,mU,rG,nA]
def fBl : aq → (aq → R) → R
 |[],k=>k []
 |(s,b)::r,k=>XZ b fun b=>fBl r fun r=>k ((s,b)::r)
theorem BD : ∀ (l : aq) (k : aq → R), fBl l k = k l
 |[],k=>rfl
 |(s,b)::r,k=>by simp only [fBl,RY,BD r]
def ax.go (p:ax) (nx:Nat) (x:p.T) (k:Env→Nat→aq→List Nat→R):R:=Kv (p.E x) fun env=>fBl (p.B x) fun bl=>k env nx bl p.ms
theorem ax.go_eq (p:ax) (nx:Nat) (x:p.T) (k:Env→Nat→aq→List Nat→R):p.go nx x k=k (p.E x) nx (p.B x) p.ms:=by
 unfold ax.go;rw [rG,BD]
def aT.go (kz : Kz R) (base : Nat) : (xs : aT) → xs.T → Kc R → R
 |[],x,_=>nomatch x
 |[(e,p)],x,k=>fN (base+p.gL.length) fun nx=>p.go nx x (k e)
 |(e,p)::q::r,x,k=>kz.sm x (fun x=>fN (base+p.gL.length) fun nx=>p.go nx x (k e)) fun y=>aT.go kz base (q::r) y k
end
theorem aT.Aa {X:Type} {base:Nat}:∀{xs:aT} {x:xs.T} {k:Kc (Option X)} {r:X},xs.go (iu X) base x k=some r →
  k (xs.st base x).1 (xs.st base x).2.env (xs.st base x).2.H.next (xs.st base x).2.H.bl (xs.st base x).2.ms=some r
 |[],x,_,_,_=>nomatch x
 |[(e,p)],x,k,r,h=>by
  simp only [aT.go,fQ] at h
  exact (ax.go_eq p _ (show p.T from x) (k e)).symm.trans h
 |(e,p)::q::s,x,k,r,h=>by
  simp only [aT.go,iu] at h
  cases x with
  |inl x =>
   simp only [fQ] at h
   rw [ax.go_eq] at h
   exact h
  |inr y=>exact aT.Aa (xs:=q::s) (x:=y) h
def aT.rd {R : Type} (no : R) (pre : List Nat) (base : Nat) : (xs : aT) → Ex → Env → Nat → aq → List Nat → (xs.T → R) → R
 |[],_,_,_,_,_,_=>no
 |[(e',p)],e,env,nx,bl,ms,k=>match Gj e' e with
  |true=>p.rd no pre base env nx bl ms k
  |false=>no
 |(e',p)::q::r,e,env,nx,bl,ms,k=>match Gj e' e with
  |true=>p.rd (aT.rd no pre base (q::r) e env nx bl ms fun x=>k (.inr x)) pre base env nx bl ms fun x=>k (.inl x)
  |false=>aT.rd no pre base (q::r) e env nx bl ms fun x=>k (.inr x)
theorem aT.dH {X:Type} {base:Nat} {env:Env} {nx:Nat} {bl:aq} {ms:List Nat}:∀{xs:aT} {e:Ex} {k:xs.T→Option X} {r:X},xs.rd none (List.range base) base e env nx bl ms k=some r →
  ∃x π,k x=some r∧e=(xs.st base x).1∧jh base π ⟨env,⟨nx,bl⟩,ms⟩ (xs.st base x).2
 |[],_,_,_,h=>by simp [aT.rd] at h
 |[(e',p)],e,k,r,h=>by
  simp only [aT.rd] at h
  split at h<;>try (cases h;done)
  rename_i he
  obtain ⟨x,π,h1,h2⟩:=ax.dH h
  exact ⟨x,π,h1,(Iz he).symm,h2⟩
 |(e',p)::q::s,e,k,r,h=>by
  simp only [aT.rd] at h
  split at h
  ·rename_i he
   rcases ax.Iy h with h|⟨x,π,h1,h2⟩
   ·obtain ⟨x, π, h1, h2, h3⟩ := aT.dH (xs := q :: s) h
    exact ⟨.inr x,π,h1,h2,h3⟩
   ·exact ⟨.inl x,π,h1,(Iz he).symm,h2⟩
  ·obtain ⟨x, π, h1, h2, h3⟩ := aT.dH (xs := q :: s) h
   exact ⟨.inr x,π,h1,h2,h3⟩
def NC {R:Type} (no:R) (pre:List Nat) (base:Nat) (p:ax) (xs:aT) (inl:p.T→R) (inr:xs.T→R):Kc R:=fun e env nx bl ms=>match e with
 | .normal=>p.rd no pre base env nx bl ms inl
 | .exit i=>xs.rd no pre base (.exit i) env nx bl ms inr
 | .ret=>xs.rd no pre base .ret env nx bl ms inr
def oe {P:Program} {N:Nat} {out:Option Nat} {base:Nat} {R:Type} (kz:Kz R) (cx:Cx) (ar:Ar) (pre:List Nat) (p:ax) (xs:aT) (body:D P N out base) (inl:p.T→R) (inr:xs.T→R) (x:p.T):R :=
 fN (base+p.gL.length) fun nx=>p.go nx x fun env nx bl ms=>kE kz cx ar body env nx bl ms (NC kz.no pre base p xs inl inr)
section
variable {P:Program} {N:Nat} {out:Option Nat} {base:Nat}
noncomputable def aZ (mixed : P.follows .mixedOrders = true) (cx : Cx) (gu : cx.Ok P) (pre : List Nat) (hpre : pre = List.range base) (p : ax) (xs : aT) (hxs : xs.all (fun p => !Gj p.1 .normal) = true) (body : D P N out base)
  (step:p.T→Option (p.T ⊕ xs.T)) (hstep:∀x,oe (iu (p.T ⊕ xs.T)) cx dN pre p xs body (fun y=>some (.inl y)) (fun b=>some (.inr b)) x=step x):bD P N out base where
 c:=body.er
 run kz env nx bl ms K:=p.rd kz.no pre base env nx bl ms fun x=>kz.bd (iter step x) fun b=>xs.go kz base b K
 ok:=by
  intro X env nx bl ms K r h Q hQ
  subst hpre
  obtain ⟨x,π,h1,h2⟩:=ax.dH h
  obtain ⟨b,h3,h4⟩:=oS h1
  have h5:=aT.Aa h4
  refine Kj (iD mixed) (I:=p.st base) (X:=xs.st base) (step:=step) (fun x r hx=>?_) h3 h2 (hQ _ _ _ _ _ h5)
  rw [←hstep x] at hx
  unfold oe at hx
  rw [fQ,ax.go_eq] at hx
  refine k7 gu hx fun e env nx bl ms hk=>?_
  unfold NC at hk
  cases e with
  |normal =>
   obtain ⟨y,π,q1,q2⟩:=ax.dH hk
   cases q1
   exact ⟨rfl,π,q2⟩
  |exit i =>
   obtain ⟨y,π,q1,q2,q3⟩:=aT.dH hk
   cases q1
   exact ⟨by simp,q2,π,q3⟩
  |ret =>
   obtain ⟨y,π,q1,q2,q3⟩:=aT.dH hk
   cases q1
   exact ⟨by simp,q2,π,q3⟩
def qo : List SP → Type → Type
 |[],A=>A
 |p::r,A=>p.T (qo r A)
def DG {A : Type} : (ps : List SP) → qo ps A → List V
 |[],_=>[]
 |p::r,x=>p.v x::DG r (p.r x)
def X0 {A : Type} : (ps : List SP) → qo ps A → A
 |[],x=>x
 |p::r,x=>X0 r (p.r x)
def Ab {A : Type} (π : List Nat) : (ps : List SP) → List V → Option (A → qo ps A)
 |[],[]=>some fun a=>a
 |p::r,v::vs=>match SP.rd (A:=qo r A) π p v with
  |some f=>match Ab π r vs with
   |some g=>some fun a=>f (g a)
   |none=>none
  |none=>none
 |_,_=>none
theorem DH {π : List Nat} {A : Type} : ∀ {ps : List SP} {vs : List V} {f : A → qo ps A}, Ab π ps vs = some f → ∀ a, CD π (DG ps (f a)) vs ∧ X0 ps (f a) = a
 |[],[],f,h,a=>by cases h;exact ⟨.nil,rfl⟩
 |c::r,v::vs,f,h,a=>by
  simp only [Ab] at h
  split at h<;>try (cases h;done)
  rename_i f1 h1
  split at h<;>cases h
  rename_i g h2
  obtain ⟨q1,q2⟩:=SP.rD h1 (g a)
  obtain ⟨q3,q4⟩:=DH h2 a
  simp only [DG,X0,q2]
  exact ⟨.cons q1 q3,q4⟩
 |[],_::_,f,h,a=>by simp [Ab] at h
 |_::_,[],f,h,a=>by simp [Ab] at h
structure Ct where
 f:Nat
 ps:List SP
 res:SP
 fn:qo ps Unit→Option (res.T Unit)
def Ct.Ok (P:Program) (ct:Ct):Prop:=∀x y,ct.fn x=some y→gO P ct.f (DG ct.ps x) (ct.res.v y)
theorem DI {π:List Nat}:Mu.eZ (fun _=>none) π=fun _=>none:=by
 funext i;simp only [Mu.eZ];cases π[i]?<;>rfl
theorem BE {f:Nat} {vs vs':List V} {v:V} {nx:Nat} {bl:aq} (h:gO P f vs' v) (hm:di (fin dN bl 8) vs=some vs') (hs:CR v=true) {Q:V→aG→Prop} (hQ:Q v ⟨nx,bl⟩):gQ P f vs ⟨nx,bl⟩ Q:=by
 refine ⟨h.1,fun Y ι μ w as hI hl=>?_⟩
 refine (h.2 (ι.all Y.own w) w as (hI.dz.mono (au.Bb hI.rd)) (fun b o x hx=>?_) (iY (fun v r x h hr=>vk (fun _ _ _=>rfl) hI h hr) hm hl)).mono ?_
 ·exact au.FO hI.rd hx
 ·rintro e w' ⟨x, ι', rfl, _, _, _, jE, FL⟩
  exact ⟨x,ι,μ,v,_,rfl,au.le_refl _,Mu.le_refl _,hI.called (au.le_refl _) (fun _ _ _=>rfl) (dw.kept (fun b o x hx=>hI.rd b o x hx) jE) jE,Dp hs FL,hQ⟩
def DJ {R : Type} (kz : Kz R) (f : Nat) (vs : List V) (K : V → R) : List Ct → R
 |[]=>kz.no
 |ct::r=>match Nat.beq ct.f f with
  |true=>match Ab (A:=Unit) [] ct.ps vs with
   |some g=>kz.bd (ct.fn (g ())) fun y=>ct.res.kv kz y K
   |none=>DJ kz f vs K r
  |false=>DJ kz f vs K r
def IA (P : Program) : List Ct → Prop
 |[]=>True
 |c::r=>c.Ok P∧IA P r
theorem oV {X : Type} {f : Nat} {vs : List V} {K : V → Option X} {r : X} : ∀ {vp : List Ct}, IA P vp → DJ (iu X) f vs K vp = some r → ∃ v, gO P f vs v ∧ K v = some r
 |[],_,hk=>by cases hk
 |ct::vp,h,hk=>by
  simp only [DJ] at hk
  split at hk
  ·rename_i hf
   have e:=Nat.eq_of_beq_eq_true hf
   subst e
   split at hk
   ·rename_i g hg
    obtain ⟨y,hy,hk⟩:=ql hk
    rw [SP.ab6] at hk
    obtain ⟨q1,_⟩:=DH hg ()
    refine ⟨_,?_,hk⟩
    have hp:=h.1 _ _ hy
    exact ⟨hp.1, fun ι w as hgl hrd hl => hp.2 ι w as hgl hrd (by
     have:=aI.eZ (π:=[]) q1.1 (fun i v u hv hu=>fun {x} hr=>(q1.2 i v u hv hu).rel hr) hl
     rwa [DI] at this)⟩
   ·exact oV h.2 hk
  ·exact oV h.2 hk
theorem Kw {f:Nat} {vs vs':List V} {v:V} {nx:Nat} {bl bO:aq} (h:gO P f vs' v) (hm:di (fin dN bl 8) vs=some vs') (hb:uk (jr bl vs) bl=some bO) {Q:V→aG→Prop} (hQ:Q v ⟨nx,bO⟩):gQ P f vs ⟨nx,bl⟩ Q:=by
 refine ⟨h.1,fun Y ι μ w as hI hl=>?_⟩
 obtain ⟨ι',h1,h2,h3⟩:=vm hI hb
 have hl':aI ι' (fun _=>none) vs' as.toList:=by
  have key:∀{vs vs':List V} {xs:List Value},di (fin dN bl 8) vs=some vs'→(∀id∈jr bl vs,yQ ι' μ id (ay id bl))→aI ι μ vs xs→aI ι' (fun _=>none) vs' xs:=by
   intro vs
   induction vs with
   |nil=>intro vs' xs hm _ hl;cases hm;rw [hl.of_nil];exact .nil
   |cons v r ih =>
    intro vs' xs hm hfz hl
    unfold di at hm
    split at hm<;>try (cases hm;done)
    rename_i u hu
    split at hm<;>cases hm
    rename_i us H9
    obtain ⟨x,xs',rfl,r1,r2⟩:=hl.bC
    simp only [jr,List.flatMap_cons,List.mem_append] at hfz
    exact .cons (Be hu (fun id hid=>hfz id (.inl hid)) (r1.mono h1 (Mu.le_refl _))) (ih H9 (fun id hid=>hfz id (.inr hid)) r2)
  exact key hm h3 hl
 refine (h.2 ι' w as h2.dz (fun b o x hx=>h2.rd b o x hx) hl').mono ?_
 rintro e w' ⟨x,ι2,rfl,hi,hib,hrd,jE,FL⟩
 exact ⟨x,ι2,μ,v,_,rfl,au.le_trans h1 hi,Mu.le_refl _,h2.called hi hib hrd jE,FL.mono (au.le_refl _) (fun _ _ h=>by cases h),hQ⟩
def X1 {R:Type} (vp:List Ct) (kz:Kz R) (f:Nat) (vs:List V) (nx:Nat) (bl:aq) (K:V→Nat→aq→R):R:=match vs.all (dK 8) with
 |true=>DJ kz f vs (fun v=>K v nx bl) vp
 |false=>match di (fin dN bl 8) vs with
  |some vs'=>DJ kz f vs' (fun v=>match CR v with
   |true=>K v nx bl
   |false=>match uk (jr bl vs) bl with
    |some bO=>fBl bO fun bO=>K v nx bO
    |none=>kz.no) vp
  |none=>kz.no
def mkCx (vp:List Ct):Cx where
 pc kz f vs K:=DJ kz f vs K vp
 ca kz f vs nx bl K:=X1 vp kz f vs nx bl K
 rd kz _ _ _ _ _:=kz.no
theorem RZ {vp:List Ct} (h:IA P vp):(mkCx vp).Ok P where
 Vz hk:=oV h hk
 RN:=by
  intro X f vs nx bl K r hk Q hQ
  simp only [mkCx,X1] at hk
  split at hk
  ·rename_i hd
   obtain ⟨v,hp,hk⟩:=oV h hk
   exact FU hp hd (hQ _ _ _ hk)
  ·split at hk <;> try (cases hk; done)
   rename_i vs' hm
   obtain ⟨v,hp,hk⟩:=oV h hk
   split at hk
   ·rename_i hs
    exact BE hp hm hs (hQ _ _ _ hk)
   ·split at hk <;> try (cases hk; done)
    rename_i bO hb
    rw [BD] at hk
    exact Kw hp hm hb (hQ _ _ _ hk)
 XS hk:=by cases hk
def X2 {R:Type} (kz:Kz R) (ar:Ar) (rs:List RV) (tys:List (Option Ty)) (res:SP) (k:res.T Unit→R):Kc R:=fun e env nx bl ms=>match e with
 | .exit _=>kz.no
 | .normal=>go env nx bl ms
 | .ret=>go env nx bl ms
where go (env:Env) (nx:Nat) (bl:aq) (ms:List Nat):R:=match eN ms bl with
 |some bl=>match uM ar ⟨env,⟨nx,bl⟩,[]⟩ rs with
  |some vs=>match fin ar bl 8 (ue (cO tys vs)) with
   |some v=>match SP.rd (A:=Unit) [] res v with
    |some f=>k (f ())
    |none=>kz.no
   |none=>kz.no
  |none=>kz.no
 |none=>kz.no
def fnE {R:Type} (kz:Kz R) (cx:Cx) (ar:Ar) (rs:List RV) (tys:List (Option Ty)) (ps:List SP) (res:SP) (body:D P N none 0) (k:res.T Unit→R) (x:qo ps Unit):R :=
 RX (DG ps x) fun vs=>kE kz cx ar body (args 0 vs) 0 [] [] (X2 kz ar rs tys res k)
theorem Kx {f : Nat} {func : Func} {fn : Fn} (hf : P.funcs[f]? = some func) (htr : cw P func = some fn) (cE : Enters P f) (gT : mM P fn.N none 0) {vs : List V} {r : V} (hlen : vs.length ≤ fn.np)
  (h:qP (gn P fn.N none 0) fn.body ⟨args 0 vs,⟨0,[]⟩,[]⟩ (J4 (gn P fn.N none 0) fn.res fn.tys (fun r'=>EV [] r r'))):gO P f vs r:=by
 refine ⟨cE,fun ι w as hgl hrd hr=>?_⟩
 let Y:Ctx:=⟨w,ι,fun _=>none,none,fun _=>False,[]⟩
 have hI:Inv P Y ι (fun _=>none) ⟨0,[]⟩ w:=⟨HV.refl _ _,au.le_refl _,fun _ _ _ _=>rfl,hrd,fun id L h=>h,fun _ _=>rfl,fun id B h=>by simp [ay] at h,fun id id' B B' L L' h=>by simp [ay] at h,fun id B h=>by simp [ay] at h,hgl⟩
 have hres:Mi P func.results.toList=some fn.res:=by
  unfold cw at htr
  split at htr<;>try (cases htr;done)
  split at htr<;>try (cases htr;done)
  rename_i QF
  split at htr<;>try (cases htr;done)
  cases htr;exact QF
 refine Ig (Y:=Y) hf htr gT hlen h rfl rfl (fun _ _=>rfl) hI hr fun Y1 ι' μ' S' a' w' e' hY hR hq=>?_
 have key:J4.qc (gn P fn.N none 0) fn.res fn.tys (fun r'=>EV [] r r') S'→LeavesInM Fence.wide 0 P func a'.tmps (fun e w'=>∃v ι',e = .returned v∧ι.le ι'∧(∀b o,b<w.heap.size→ι' b o=ι b o)∧dw ι' w' ∧
   Dw w w'∧Rel ι' (fun _=>none) r v) a'.defers .returning w':=by
  intro hs
  unfold J4.qc at hs
  split at hs<;>try (exact hs.elim)
  rename_i bl qE
  split at hs<;>try (exact hs.elim)
  rename_i vs' hvs
  split at hs<;>try (exact hs.elim)
  rename_i r' R1
  refine sX hres (n:=S'.H.next) (bl:=S'.H.bl) hY rfl hR.inv hR.env hR.ms qE hvs fun x w2 nN hx=>?_
  refine ⟨x,ι'.all Y.own w2,rfl,au.le_trans nN.i0 (au.Bb nN.rd),fun b o hb=>?_,fun b o y hy=>?_,nN.below.to (fun _ h=>h),?_⟩
  ·rw [au.Ro (fun h=>by rcases h with h|h;exact absurd hb (Nat.not_lt.2 h);exact h)];exact nN.iB b o hb (fun h=>h)
  ·exact au.FO nN.rd hy
  ·have := hs.rel (vk (Y := Y) (ar := gn P fn.N none 0) (fun _ _ _ => rfl) nN R1 (hx fn.tys))
   rwa [DI] at this
 cases e' with
 |exit id=>exact hq.elim
 |normal=>exact ⟨.inl rfl,key hq⟩
 |ret=>exact ⟨.inr rfl,key hq⟩
theorem cB (mixed : P.follows .mixedOrders = true) {cx : Cx} (gu : cx.Ok P) {func : Func} {fn : Fn} {ct : Ct} (hf : P.funcs[ct.f]? = some func) (htr : cw P func = some fn) (cE : Enters P ct.f)
  (body:D P fn.N none 0) (hbody:body.er=fn.body) (hnp:Nat.ble ct.ps.length fn.np=true) (hfn:∀x,fnE (iu (ct.res.T Unit)) cx dN fn.res fn.tys ct.ps ct.res body some x=ct.fn x):ct.Ok P:=by
 intro x y hxy
 rw [←hfn x] at hxy
 unfold fnE at hxy
 rw [mU] at hxy
 have hlen:∀(ps:List SP) (x:qo ps Unit),(DG ps x).length=ps.length:=by
  intro ps
  induction ps with
  |nil=>intro x;rfl
  |cons p r ih=>intro x;simp [DG,ih]
 have hwp:=k7 (Q:=J4 (gn P fn.N none 0) fn.res fn.tys (fun r=>EV [] (ct.res.v y) r)) gu hxy (fun e env nx bl ms hk=>by
  have key:X2.go (iu (ct.res.T Unit)) dN fn.res fn.tys ct.res some env nx bl ms=some y→J4.qc (gn P fn.N none 0) fn.res fn.tys (fun r=>EV [] (ct.res.v y) r) ⟨env,⟨nx,bl⟩,ms⟩:=by
   intro hg
   unfold X2.go at hg
   unfold J4.qc
   split at hg<;>try (cases hg;done)
   rename_i bO h1
   rw [h1]
   simp only
   split at hg<;>try (cases hg;done)
   rename_i vs h2
   rw [h2]
   simp only
   have e:fin (gn P fn.N none 0) bO 8 (ue (cO fn.tys vs))=fin dN bO 8 (ue (cO fn.tys vs)):=by unfold gn;exact wP
   rw [e]
   split at hg<;>try (cases hg;done)
   rename_i v h3
   rw [h3]
   simp only
   split at hg<;>try (cases hg;done)
   rename_i f h4
   cases hg
   exact (SP.rD h4 ()).1
  cases e with
  |exit i=>cases hk
  |normal=>exact key hk
  |ret=>exact key hk)
 rw [hbody] at hwp
 exact Kx hf htr cE (iD mixed) (by rw [hlen];exact Nat.le_of_ble_eq_true hnp) hwp
end
end Go.AM
end
