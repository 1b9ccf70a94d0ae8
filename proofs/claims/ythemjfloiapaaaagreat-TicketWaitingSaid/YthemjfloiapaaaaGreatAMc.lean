/- A region whose order is drawn: whatever the order, it ends as the canonical one. Calls in the caller's heap, loops unrolled, loops over functions. A call of yield: a round of the loop. The small machine, run. The way in: what an argument reads as is data of the machine. States that stand for as much, in general: names may change, nil slices may stand for empty lists, blocks that nobody reads are forgotten. The small machine's code as a function: tests, needs and calls stay open, all else is reckoned. Patterns: what stands in slots and blocks, with places for data; read out of a state, and laid again. Code that is the same, as a test. What is read by a pattern stands for what was there. Loops and functions, as functions of their data. -/
import Derived.Test.YthemjfloiapaaaaGreatAMb
import Derived.OrdersIn
import Derived.ProofKit
import Derived.OpenShut
import Derived.Maps.RangeRun
set_option linter.unusedSectionVars false
set_option linter.unusedVariables false
set_option linter.unusedSimpArgs false
section
namespace Go.AM
section
variable {P:Program} {N:Nat} {Y:Ctx} {ι ι':aj} {μ μ':Mu} {H:aF} {w w':World} {out:Option Nat} {base:Nat} {ops:Array Oper}
def mg (acc:Array Nat) (o:Oper):Array Nat:=acc.push (o.after.foldl (fun s e=>if Region.binds .any e then s ||| 2 ^ e.on ||| acc.getD e.on 0 else s) 0)
theorem zQ:Region.before ops=ops.toList.foldl mg #[]:=by
 unfold Region.before
 rw [←Array.foldl_toList];rfl
theorem wQ {acc:Array Nat} {j:Nat}:∀{l:List Edge} {s:Nat},(l.foldl (fun s e=>if Region.binds .any e then s ||| 2 ^ e.on ||| acc.getD e.on 0 else s) s).testBit j=true →
  s.testBit j=true∨∃e∈l,Region.binds .any e=true∧(j=e.on∨(acc.getD e.on 0).testBit j=true)
 |[],s,h=>.inl h
 |e::r,s,h=>by
  simp only [List.foldl_cons] at h
  rcases wQ h with h1|⟨e',he',h2⟩
  ·split at h1
   ·rename_i hb
    simp only [Nat.testBit_or,Bool.or_eq_true,Nat.testBit_two_pow,decide_eq_true_eq] at h1
    rcases h1 with (h1|h1)|h1
    ·exact .inl h1
    ·exact .inr ⟨e,List.mem_cons_self ..,hb,.inl h1.symm⟩
    ·exact .inr ⟨e,List.mem_cons_self ..,hb,.inr h1⟩
   ·exact .inl h1
  ·exact .inr ⟨e',List.mem_cons_of_mem _ he',h2⟩
theorem wR : ∀ (l : List Oper) (acc : Array Nat), (l.foldl mg acc).size = acc.size + l.length
 |[],acc=>by simp
 |o::r,acc=>by simp only [List.foldl_cons,wR r,mg,Array.size_push,List.length_cons];omega
theorem wS {j:Nat}:∀(l:List Oper) (acc:Array Nat) (pre:List Oper),acc.size=pre.length →
  (∀i,(acc.getD i 0).testBit j=true→∃o,pre[i]?=some o∧∃e∈o.after,Region.binds .any e=true∧(j=e.on∨(acc.getD e.on 0).testBit j=true)) →
  ∀i,((l.foldl mg acc).getD i 0).testBit j=true→∃o,(pre++l)[i]?=some o∧∃e∈o.after,Region.binds .any e=true∧(j=e.on∨((l.foldl mg acc).getD e.on 0).testBit j=true)
 |[],acc,pre,hs,h,i,hi=>by simpa using h i hi
 |o::r,acc,pre,hs,h,i,hi=>by
  have:=wS r (mg acc o) (pre++[o]) (by simp [mg,hs]) (fun i hi=>?_) i hi
  ·simpa using this
  ·have keep:∀k,(acc.getD k 0).testBit j=true→((mg acc o).getD k 0).testBit j=true:=fun k hk=>by
    have hlt:k<acc.size:=by
     rcases Nat.lt_or_ge k acc.size with h|h
     ·exact h
     ·simp [Array.getD,Nat.not_lt.2 h] at hk
    simpa [mg,Array.getD,hlt,Array.getElem_push,Nat.lt_succ_of_lt hlt] using (by simpa [Array.getD,hlt] using hk:acc[k].testBit j=true)
   by_cases hlt:i<acc.size
   ·have hi':(acc.getD i 0).testBit j=true:=by
     simpa [mg,Array.getD,hlt,Array.getElem_push,Nat.lt_succ_of_lt hlt] using hi
    obtain ⟨o',ho',e,he,hb,hj⟩:=h i hi'
    exact ⟨o',by rw [List.getElem?_append_left (List.getElem?_eq_some_iff.1 ho').1];exact ho',e,he,hb,hj.imp id (keep _)⟩
   ·by_cases heq : i = acc.size
    ·subst heq
     have hi':(o.after.foldl (fun s e=>if Region.binds .any e then s ||| 2 ^ e.on ||| acc.getD e.on 0 else s) 0).testBit j=true:=by
      simpa [mg,Array.getD,Array.getElem_push] using hi
     rw [←Array.foldl_toList] at hi'
     rcases wQ hi' with h1|⟨e,he,hb,hj⟩
     ·simp at h1
     ·exact ⟨o,by rw [hs];simp,e,by simpa using he,hb,hj.imp id (keep _)⟩
    ·have : ¬ i < (mg acc o).size := by simp [mg]; omega
     simp [Array.getD,this] at hi
theorem oh {i j:Nat} (h:((Region.before ops).getD i 0).testBit j=true) :
  ∃o,ops[i]?=some o∧∃e∈o.after,Region.binds .any e=true∧(j=e.on∨((Region.before ops).getD e.on 0).testBit j=true):=by
 rw [zQ] at h ⊢
 obtain ⟨o,ho,h⟩:=wS (j:=j) ops.toList #[] [] rfl (fun i hi=>by simp at hi) i h
 exact ⟨o,by simpa using ho,h⟩
theorem oq:(Region.before ops).size=ops.size:=by rw [zQ,wR];simp
theorem jW {i j:Nat}:j∈(bN ops).getD i []↔j<ops.size∧((Region.before ops).getD i 0).testBit j=true:=by
 unfold bN
 simp only [List.getD,List.getElem?_map]
 by_cases hi:i<ops.size
 ·have h:(Region.before ops).toList[i]?=some ((Region.before ops).getD i 0):=by
   have:i<(Region.before ops).size:=by rw [oq];exact hi
   simp [Array.getD,this]
  simp [h,List.mem_filter,List.mem_range]
 ·have h1 : (Region.before ops).toList[i]? = none := List.getElem?_eq_none (by simp [oq]; omega)
  have h2:(Region.before ops).getD i 0=0:=by simp [Array.getD,oq,hi]
  simp [h1,h2]
theorem gm : ∀ {os : List Oper} {is : List eN}, dX P N ops os = some is → is.length = os.length ∧ ∀ (k : Nat) o it, os[k]? = some o → is[k]? = some it → pO P N ops o = some it
 |[],is,h=>by cases h;exact ⟨rfl,fun k o it h=>by simp at h⟩
 |o::os,is,h=>by
  unfold dX at h
  split at h<;>try (cases h;done)
  rename_i it its hit My
  cases h
  obtain ⟨h1,h2⟩:=gm My
  refine ⟨by simp [h1],fun k o' it' ho hi=>?_⟩
  cases k with
  |zero=>simp at ho hi;subst ho;subst hi;exact hit
  |succ k=>exact h2 k o' it' (by simpa using ho) (by simpa using hi)
theorem Inv.sX (h:Inv P Y ι μ H w) {n:Nat} (hn:H.next≤n):Inv P Y ι μ ⟨n,H.bl⟩ w :=
 ⟨h.below,h.i0,h.iB,h.rd,h.m0,fun id hid=>h.nx id (Nat.le_trans hn hid),h.live,h.inj,fun id B hB=>Nat.lt_of_lt_of_le (h.lt id B hB) hn,h.gl⟩
theorem Inv.eqB (h:Inv P Y ι μ H w) {bl:ai} (he:UM bl H.bl):Inv P Y ι μ ⟨H.next,bl⟩ w :=
 ⟨h.below,h.i0,h.iB,h.rd,h.m0,h.nx,fun id B hB=>h.live id B (by rw [←he id];exact hB),fun id id' B B' L L' hb hb'=>h.inj id id' B B' L L' (by rw [←he id];exact hb) (by rw [←he id'];exact hb'),
  fun id B hB=>h.lt id B (by rw [←he id];exact hB),h.gl⟩
theorem dL.MD {B:Nat→Prop} {id:Nat} {b:k8} (h:dL P B ι μ id w b) (hw:w'.heap=w.heap):dL P B ι μ id w' b:=by
 cases b with
 |cells cs fz=>obtain ⟨L,vs,hM,h⟩:=h;exact ⟨L,vs,⟨hM.mu,hM.old,by rw [hw];exact hM.row,hM.fits,hM.one,hM.CW,hM.pP⟩,h⟩
 |arr t xs fz =>
  rcases h with h|⟨L,vs,hM,h⟩
  ·exact .inl h
  ·exact .inr ⟨L,vs,⟨hM.mu,hM.old,by rw [hw];exact hM.row,hM.fits,hM.one,hM.CW,hM.pP⟩,h⟩
 |loop st j d env ps as bd N=>unfold dL at h ⊢;rw [hw];exact h
 |ig=>unfold dL at h ⊢;rw [hw];exact h
 |map kt kg vt vg es=>unfold dL at h ⊢;rw [hw];exact h
 |mJ t xs i p v =>
  obtain ⟨L,us,vs,c,hM,h⟩:=h
  exact ⟨L,us,vs,c,⟨hM.mu,hM.old,by rw [hw];exact hM.row,hM.fits,hM.one,hM.CW,hM.pP⟩,h⟩
theorem Inv.drawn (h:Inv P Y ι μ H w):Inv P Y ι μ H { w with drawn:=w.drawn+1 } :=
 ⟨⟨h.below.os,h.below.tape,h.below.output,h.below.size,h.below.block,Nat.le_succ_of_le h.below.dr,h.below.maps⟩,h.i0,h.iB,h.rd,h.m0,h.nx,fun id B hB=>(h.live id B hB).MD rfl,h.inj,h.lt,h.gl⟩
theorem Inv.called (hI:Inv P Y ι μ H w) (hi:ι.le ι') (hib:∀b o,b<w.heap.size→ι' b o=ι b o) (hrd:dn ι' w') (jK:Dw w w'):Inv P Y ι' μ H w':=by
 have hsz:=hI.below.size
 refine ⟨hI.below.then jK,aj.le_trans hI.i0 hi,fun b o hb hx=>by rw [hib b o (by omega)];exact hI.iB b o hb hx,hrd,hI.m0,hI.nx,fun id B hB=>?_,hI.inj,hI.lt,hI.gl⟩
 have lC:=hI.live id B hB
 refine lC.mono hi (Mu.le_refl _) (fun h=>h) (fun L hL=>jK.b.block _ (lC.loc hL).2) (fun L hL ho o=>?_)
 rw [hib _ _ (lC.loc hL).2];exact ho o
theorem dn.kept (h:dn ι w) (jK:Dw w w'):dn ι w':=fun b o x hx=>by
 have h1:=h b o x hx
 have hlt:b<w.heap.size:=by
  rcases Nat.lt_or_ge b w.heap.size with h'|h'
  ·exact h'
  ·simp [World.cell?,Array.getElem?_eq_none h'] at h1
 unfold World.cell? at h1 ⊢
 simp only at h1 ⊢
 rw [jK.b.block b hlt];exact h1
theorem zR {v:V} {x:Value} (h:HE v=true) (hr:Rel ι μ v x):Rel ι' μ' v x:=by
 cases hr<;>simp only [HE] at h<;>try (cases h;done)
 case tf=>exact .tf _
 case bool=>exact .bool _
 case int=>exact .int _ _
 case str=>exact .str _
theorem JZ {v:V} {x:Value} (h:Mc v=true) (hr:Rel ι μ v x):Rel ι' μ' v x:=by
 cases hr<;>simp only [Mc] at h<;>try (cases h;done)
 case tf=>exact .tf _
 case bool=>exact .bool _
 case int=>exact .int _ _
 case str=>exact .str _
 case agg cs xs h1 h2 h3=>exact .agg cs xs h1 (fun i v x hv hx=>zR (List.all_eq_true.1 h _ (List.mem_of_getElem? hv)) (h2 i v x hv hx)) h3
theorem Dr {v:V} {x:Value} (h:CU v=true) (hr:Rel ι μ v x):Rel ι' μ' v x:=by
 cases hr<;>simp only [CU] at h<;>try (cases h;done)
 case tf=>exact .tf _
 case bool=>exact .bool _
 case int=>exact .int _ _
 case str=>exact .str _
 case agg cs xs h1 h2 h3=>exact .agg cs xs h1 (fun i v x hv hx=>zR (List.all_eq_true.1 h _ (List.mem_of_getElem? hv)) (h2 i v x hv hx)) h3
 case cK cs xs h1 h2=>exact .cK cs xs h1 fun i v x hv hx=>JZ (List.all_eq_true.1 h _ (List.mem_of_getElem? hv)) (h2 i v x hv hx)
theorem Bn {g : V → Option V} : ∀ {vs : List V}, (∀ v ∈ vs, g v = some v) → dh g vs = some vs
 |[],_=>rfl
 |v::r,h=>by simp only [dh,h v (List.mem_cons_self ..),Bn (vs:=r) (fun v hv=>h v (List.mem_cons_of_mem _ hv))]
theorem wT {ar : Ar} {bl : ai} : ∀ {n : Nat} {v : V}, dK n v = true → fin ar bl n v = some v
 |0,v,h=>by cases h
 |n+1,v,h=>by
  have all:∀{cs:List V},cs.all (dK n)=true→dh (fin ar bl n) cs=some cs:=fun h=>Bn fun v hv=>wT (List.all_eq_true.1 h v hv)
  cases v<;>simp only [dK] at h<;>try (cases h;done)
  case ff cs=>simp only [fin,h,if_true]
  case fn f a b=>simp only [Bool.and_eq_true] at h;simp only [fin,all h.1,all h.2]
  case agg cs=>simp only [fin,all h]
  case cK cs=>simp only [fin,all h]
  case cq t v=>simp only [fin,wT h]
  all_goals rfl
theorem u9 {v0 v:V} {x:Value} (h:vOk v0 v) (hr:Rel ι μ v0 x):Rel ι μ v x:=by
 rcases h with rfl|⟨c,rfl,rfl⟩
 ·exact hr
 ·cases hr;exact .tf _
theorem sY {S:List (Nat×V)} {a:Act} (he:eu ι μ S a.tmps) {o:Oper} {g:Option (Nat×Bool)} (hg:trG ops o.guard=some g) {c:Bool} (h:HF g S=some c):Region.wanted o (yielded ops a.tmps)=c:=by
 cases Mx:o.guard with
 |none=>rw [Mx] at hg;cases hg;cases h;simp [Region.wanted,Mx]
 |some jb =>
  obtain ⟨j,b⟩:=jb
  rw [Mx] at hg
  simp only [trG] at hg
  split at hg<;>try (cases hg;done)
  rename_i oj hoj
  split at hg<;>try (cases hg;done)
  rename_i d hdj
  cases hg
  simp only [HF] at h
  split at h<;>try (cases h;done)
  rotate_left
  ·rename_i vs hc
   cases h
   simp only [Region.wanted,Mx,tY he hoj hdj hc]
   rfl
  rename_i c' hc
  simp only [Region.wanted,Mx,wv he hoj hdj (.inl hc)]
  revert h
  cases c'<;>cases b<;>intro h<;>cases h<;>rfl
theorem HV {b n : Nat} {t : TR} {env : List (Nat × V)} {bl : ai} {ms : List Nat} {a : Act} (hn : t.k < n) {o : Oper} (ho : ops[t.k]? = some o) (hit : pO P N ops o = some t.it)
  (ME:En (fI P N out base) b t env bl) (hR:eG P N Y ι μ ⟨env,⟨b+n,bl⟩,ms⟩ a w) (hfree:μ (b+t.k)=none) {Q:Exit→Act→World→Prop} {K:Act→World→Prop}
  (hK:∀ι' μ' a' w',eG P N Y ι' μ' ⟨t.MB env,⟨b+n,t.JX bl⟩,ms⟩ a' w'→(∀id,id≠b+t.k→μ' id=μ id)→K a' w'):wpOpIn Y.F 0 P ops Q t.k K a w:=by
 obtain ⟨k,it,ac,rd⟩:=t
 simp only at hn ho hit hfree hK
 unfold pO at hit
 split at hit<;>try (cases hit;done)
 rename_i hd
 split at hit<;>try (cases hit;done)
 rename_i g hg
 have hgrd:it.Wm=g∧it.dst=o.dst:=by
  split at hit<;>(split at hit<;>try (cases hit;done))<;>(cases hit;exact ⟨rfl,rfl⟩)
 unfold wpOpIn
 simp only [ho]
 unfold En at ME
 cases ac with
 |skip =>
  simp only at ME
  rw [hgrd.1] at ME
  rw [if_neg (by rw [sY hR.env hg ME.1];simp)]
  refine ⟨fun _ _=>trivial,hK ι μ _ _ ?_ fun _ _=>rfl⟩
  have:=hR.put hd (aj.le_refl _) (Mu.le_refl _) hR.inv Rel.und
  simpa [TR.MB,TR.JX,hgrd.2,Ac.val,Ac.Qp,bw] using this
 |op v u =>
  split at hit
  ·split at hit <;> try (cases hit; done)
   cases hit;exact ME.elim
  ·split at hit <;> try (cases hit; done)
   cases hit;exact ME.elim
  ·rename_i op _ _
   split at hit<;>try (cases hit;done)
   rename_i i hi
   cases hit
   obtain ⟨HL,ob,v0,ag,cV,hv,_⟩:=ME
   have hw:=sY hR.env hg HL
   rw [if_pos hw]
   have hop:Mi P Y ι μ ⟨b+n,bl⟩ w (b+k) (execOp a.eval o) v0 u i.lays:=by
    rcases ag with ag|ag
    ·exact zL hR.inv hfree hR.env hi ag cV
    ·exact zN hR.inv hfree hR.env hi ag cV
   obtain ⟨ι',μ',x,w',hx,hi',hm,hne,hinv,FK⟩:=hop
   refine ⟨fun _ _=>trivial,?_⟩
   rw [Oper.semAt_eq _ _ _ (me hi)]
   have HW:fE i.lays (b+n) (b+k)=b+n:=by unfold fE;cases i.lays<;>simp<;>omega
   have lX:eG P N Y ι' μ' ⟨AM.put o.dst v env,⟨b+n,bw u bl⟩,ms⟩ (a.put o.dst x) w':=by
    refine hR.put hd hi' hm ?_ (u9 hv FK)
    have:=hinv;simp only [HW] at this;exact this
   rcases hx with h|⟨h,rfl⟩<;>rw [h]<;>exact hK _ _ _ _ lX hne
 |call v u =>
  obtain ⟨c,args,tys,fo,as,hop,hf,ha,rfl⟩:∃(c:Callee) (args:Array Operand) (tys:Array TypeId) (fo:O) (as:List O),o.op = .call { callee:=c,args:=args,argTypes:=tys }∧mM P c=some fo∧vO args.toList=some as∧it = .call o.dst g fo as (iO P fo tys):=by
   split at hit
   ·rename_i f args tys hop
    split at hit<;>try (cases hit;done)
    rename_i fo as hf ha
    cases hit
    exact ⟨.value f,args,tys,fo,as,hop,hf,ha,rfl⟩
   ·rename_i r name args tys hop
    split at hit<;>try (cases hit;done)
    rename_i fo as hf ha
    cases hit
    exact ⟨.invoke r name,args,tys,fo,as,hop,hf,ha,rfl⟩
   ·split at hit <;> try (cases hit; done)
    cases hit;exact ME.elim
  obtain ⟨HL,fid,fs,cs,vs',v0,o3,hmo,hp,hs,hv,_⟩:=ME
  have hw:=sY hR.env hg HL
  rw [if_pos hw]
  refine ⟨fun _ _=>trivial,?_⟩
  rw [Oper.semAt_eq _ _ _ (by rw [hop];simp)]
  have ra:=j6 hR.env ha
  obtain ⟨cD,gO⟩:=hp
  obtain ⟨xs,ys,r1,r2,hrun⟩:=Dk hop hf hR.env o3 cD
  rw [hrun]
  have rl:aG ι μ (fs++cO (iO P fo tys) (as.map (·.ev env))++cs) (xs++args.map a.eval++ys).toList:=by
   have:=(r1.append (l8 (ts:=iO P fo tys) ra)).append r2
   simpa using this
  refine ⟨fun h=>by simp [Ctx.F,Fence.wide] at h,?_⟩
  rcases Bool.eq_false_or_eq_true (CU v0||(fs++cO (iO P fo tys) (as.map (·.ev env))++cs).all (dK 8)) with hb|hb
  rotate_left
  ·rw [hb] at hs
   obtain ⟨ι2,i1,i2,i3⟩:=u7 hR.inv (Bm hs)
   have hmo':dh (fin ez bl 8) (fs++cO (iO P fo tys) (as.map (·.ev env))++cs)=some vs':=(mY (fun v=>by unfold fI;exact wP.symm) _).trans hmo
   refine CallsIn.mono (F:=Y.F) (gO ι2 w _ i2.dz (fun b o x hx=>i2.rd b o x hx) (Re i1 hmo' i3 rl)) ?_
   rintro e w' ⟨v',ι',rfl,hi,hib,hrd,jK,FK⟩
   have hinv':Inv P Y ι' μ ⟨b+n,bw u bl⟩ w':=i2.called hi hib hrd jK
   exact hK _ _ _ _ (hR.put hd (aj.le_trans i1 hi) (Mu.le_refl _) hinv' (u9 hv (FK.mono (aj.le_refl _) (fun _ _ h=>by cases h)))) fun _ _=>rfl
  rw [hb] at hs
  cases hs
  replace hs:=hb
  rw [Bool.or_eq_true] at hs
  rcases hs with hs|hs
  ·refine CallsIn.mono (F := Y.F) (gO (ι.all Y.own w) w _ (hR.inv.dz.mono (aj.Bg hR.inv.rd)) (fun b o x hx => ?_) (iZ (fun v r x h hr => uZ (fun _ _ _ => rfl) hR.inv h hr) hmo rl)) ?_
   ·exact aj.FN hR.inv.rd hx
   ·rintro e w' ⟨v', ι', rfl, _, _, _, jK, FK⟩
    have hinv':Inv P Y ι μ ⟨b+n,bl⟩ w':=hR.inv.called (aj.le_refl _) (fun _ _ _=>rfl) (dn.kept (fun b o x hx=>hR.inv.rd b o x hx) jK) jK
    exact hK _ _ _ _ (hR.put hd (aj.le_refl _) (Mu.le_refl _) hinv' (u9 hv (Dr hs FK))) fun _ _=>rfl
  ·have hid:dh (fin (fI P N out base) bl 8) (fs++cO (iO P fo tys) (as.map (·.ev env))++cs)=some (fs++cO (iO P fo tys) (as.map (·.ev env))++cs) :=
    Bn fun v hv=>wT (List.all_eq_true.1 hs v hv)
   rw [hid] at hmo;cases hmo
   have rl':aG ι (fun _=>none) (fs++cO (iO P fo tys) (as.map (·.ev env))++cs) (xs++args.map a.eval++ys).toList :=
    ⟨rl.1,fun i v x hv hx=>dF (List.all_eq_true.1 hs _ (List.mem_of_getElem? hv)) (rl.2 i v x hv hx)⟩
   refine CallsIn.mono (F:=Y.F) (gO ι w _ hR.inv.dz (fun b o x hx=>hR.inv.rd b o x hx) rl') ?_
   rintro e w' ⟨v',ι',rfl,hi,hib,hrd,jK,FK⟩
   have hinv':Inv P Y ι' μ ⟨b+n,bl⟩ w':=hR.inv.called hi hib hrd jK
   exact hK _ _ _ _ (hR.put hd hi (Mu.le_refl _) hinv' (u9 hv (FK.mono (aj.le_refl _) (fun _ _ h=>by cases h)))) fun _ _=>rfl
structure Good (ops:Array Oper) (m:Nat) (is:List eN) (R:List TR) (listed:Array Bool):Prop where
 sz:listed.size=ops.size
 mem:∀t∈R,t.k<m∧is[t.k]?=some t.it∧listed.getD t.k true=false
 cov:∀i,i<m→listed.getD i true=false→∃t∈R,t.k=i
 srt:R.Pairwise (fun a b=>a.k<b.k)
 dr:R.Pairwise (DrP (bN ops))
 clo:∀i,listed.getD i false=true→∀j∈(bN ops).getD i [],listed.getD j false=true
 le:m≤ops.size
 tl:∀i,m≤i→i<ops.size→listed.getD i true=false
theorem Bo {l:Array Bool} {i:Nat} (h:l.getD i true=false):l.getD i false=false∧i<l.size:=by
 rcases Nat.lt_or_ge i l.size with h'|h'
 ·simp [h'] at h ⊢;exact h
 ·simp [Array.getElem?_eq_none h'] at h
theorem mZ {l:Array Bool} {i:Nat} (h:i<l.size) (d d':Bool):l.getD i d=l.getD i d':=by simp [h]
theorem Bp {cS:List (List Nat)} {is:List eN} (h:qP cS is=true) {i j:Nat} (hij:i<j) {a b:eN} (ha:is[i]?=some a) (hb:is[j]?=some b):i∈cS.getD j []∨mN a b=true:=by
 unfold qP at h
 have hj:j<is.length:=(List.getElem?_eq_some_iff.1 hb).1
 have:=List.all_eq_true.1 (List.all_eq_true.1 h j (List.mem_range.2 hj)) i (List.mem_range.2 hij)
 simp only [ha,hb,Bool.or_eq_true] at this
 rcases this with h|h
 ·exact .inl (by simpa using h)
 ·exact .inr h
theorem ot {m:Nat} {is:List eN} {R:List TR} {listed:Array Bool} (hG:Good ops m is R listed) {i:Nat} (hi:i∈Region.ready .any ops listed):∀j∈(bN ops).getD i [],listed.getD j false=true:=by
 intro j hj
 obtain ⟨_,o,ho,hall⟩:=mem_ready.1 hi
 obtain ⟨hjs,ht⟩:=jW.1 hj
 obtain ⟨o',ho',e,he,hb,h⟩:=oh ht
 rw [ho] at ho';cases ho'
 have hl:=hall e he hb
 rcases h with rfl|h
 ·exact hl
 ·exact hG.clo _ hl j (jW.2 ⟨hjs,h⟩)
theorem MF {m:Nat} {is:List eN} {R:List TR} {listed:Array Bool} (hG:Good ops m is R listed) (ee:gM ops=true) {k:Nat} (h1:k<ops.size) (h3:listed.getD k true=false) (ou:∀i,i<k→listed.getD i true=true):k∈Region.ready .any ops listed:=by
 refine mem_ready.2 ⟨h3,ops[k],by simp [h1],fun e he hb=>?_⟩
 have hlt:e.on<k:=by
  unfold gM at ee
  have hmem:(ops[k],k)∈ops.toList.zipIdx:=by
   rw [List.mem_zipIdx_iff_getElem?];simp [h1]
  have:=List.all_eq_true.1 ee _ hmem
  simp only at this
  have:=Array.all_eq_true_iff_forall_mem.1 this e he
  simpa [hb] using this
 have hlt':e.on<listed.size:=by rw [hG.sz];omega
 rw [mZ hlt' false true];exact ou _ hlt
theorem FV {m:Nat} {is:List eN} {t:TR} {R:List TR} {listed:Array Bool} (hG:Good ops m is (t::R) listed) (ee:gM ops=true):t.k∈Region.ready .any ops listed:=by
 obtain ⟨h1,_,h3⟩:=hG.mem t (List.mem_cons_self ..)
 refine MF hG ee (by have:=hG.le;omega) h3 fun i hi=>?_
 rcases Bool.eq_false_or_eq_true (listed.getD i true) with h|h
 ·exact h
 ·obtain ⟨t', ht', hk⟩ := hG.cov i (by omega) h
  rcases List.mem_cons.1 ht' with rfl|ht'
  ·omega
  ·have := (List.pairwise_cons.1 hG.srt).1 t' ht'
   omega
theorem Good.step {m:Nat} {is:List eN} {L1 L2:List TR} {t:TR} {listed:Array Bool} (hG:Good ops m is (L1++t::L2) listed) (hr:t.k∈Region.ready .any ops listed):Good ops m is (L1++L2) (listed.setIfInBounds t.k true):=by
 have hsub:(L1++L2).Sublist (L1++t::L2):=(List.Sublist.refl L1).append (List.sublist_cons_self t L2)
 have hne:∀x∈L1++L2,x.k≠t.k:=fun x hx=>by
  have:=List.pairwise_append.1 hG.srt
  rcases List.mem_append.1 hx with h|h
  ·exact Nat.ne_of_lt (this.2.2 x h t (List.mem_cons_self ..))
  ·exact Nat.ne_of_gt ((List.pairwise_cons.1 this.2.1).1 x h)
 refine ⟨by simp [hG.sz],fun x hx=>?_,fun i hi Rf=>?_,hG.srt.sublist hsub,hG.dr.sublist hsub,fun i hi j hj=>?_,hG.le,fun i hi hi2=>?_⟩
 ·obtain ⟨h1, h2, h3⟩ := hG.mem x (hsub.subset hx)
  exact ⟨h1,h2,by rw [getD_set_ne true (Ne.symm (hne x hx))];exact h3⟩
 ·have hki:t.k≠i:=fun e=>by
   subst e
   have:t.k<listed.size:=by rw [hG.sz];exact Nat.lt_of_lt_of_le hi hG.le
   simp [this] at Rf
  rw [getD_set_ne true hki] at Rf
  obtain ⟨x,hx,hk⟩:=hG.cov i hi Rf
  refine ⟨x,?_,hk⟩
  rcases List.mem_append.1 hx with h|h
  ·exact List.mem_append_left _ h
  ·rcases List.mem_cons.1 h with rfl | h
   ·exact absurd hk hki
   ·exact List.mem_append_right _ h
 ·refine getD_set_true ?_
  by_cases hki:t.k=i
  ·subst hki;exact ot hG hr j hj
  ·rw [getD_set_ne false hki] at hi
   exact hG.clo i hi j hj
 ·have hk := (hG.mem t (List.mem_append_right _ (List.mem_cons_self ..))).1
  rw [getD_set_ne true (by omega)]
  exact hG.tl i hi hi2
theorem Ds {os:List Oper} {is:List eN} {k:Nat} (h:dX P N ops os=some is):dX P N ops (os.drop k)=some (is.drop k):=by
 induction k generalizing os is with
 |zero=>simpa using h
 |succ k ih =>
  cases os with
  |nil=>cases h;rfl
  |cons o os =>
   unfold dX at h
   split at h<;>try (cases h;done)
   rename_i it its hit My
   cases h
   simpa using ih My
theorem Dt {m:Nat} (ee:gM ops=true) (zS:∀i,m≤i→i<ops.size→∀j,j<i→j∈(bN ops).getD i []) {Q:Exit→Act→World→Prop}:∀(n k:Nat) {listed:Array Bool} {a:Act} {w:World},
  m≤k→k+n=ops.size→listed.size=ops.size→(∀i,i<k→listed.getD i true=true)→(∀i,k≤i→i<ops.size→listed.getD i true=false) →
  (∀i,listed.getD i false=true→∀j∈(bN ops).getD i [],listed.getD j false=true)→wpOpsIn Y.F 0 P ops Q (List.range' k n) a w→wpAnyIn Y.F 0 P .any ops Q n listed a w
 |0,k,listed,a,w,hm,hk,hsz,ou,HX,sZ,h=>by
  refine ⟨?_,h⟩
  cases hr:Region.ready .any ops listed with
  |nil=>rfl
  |cons i r =>
   have hi:i∈Region.ready .any ops listed:=by rw [hr];exact List.mem_cons_self ..
   obtain ⟨h0,o,ho,_⟩:=mem_ready.1 hi
   have:=(Array.getElem?_eq_some_iff.1 ho).1
   rw [ou i (by omega)] at h0;cases h0
 |n+1,k,listed,a,w,hm,hk,hsz,ou,HX,sZ,h=>by
  have hks:k<ops.size:=by omega
  have hrk:k∈Region.ready .any ops listed:=by
   refine mem_ready.2 ⟨HX k (Nat.le_refl _) hks,ops[k],by simp [hks],fun e he hb=>?_⟩
   have hlt:e.on<k:=by
    unfold gM at ee
    have hmem:(ops[k],k)∈ops.toList.zipIdx:=by
     rw [List.mem_zipIdx_iff_getElem?];simp [hks]
    have:=List.all_eq_true.1 ee _ hmem
    simp only at this
    have:=Array.all_eq_true_iff_forall_mem.1 this e he
    simpa [hb] using this
   have hlt':e.on<listed.size:=by rw [hsz];omega
   rw [mZ hlt' false true];exact ou _ hlt
  have hrp:∀i,i∈Region.ready .any ops listed→∀j∈(bN ops).getD i [],listed.getD j false=true:=by
   intro i hi j hj
   obtain ⟨_,o,ho,hall⟩:=mem_ready.1 hi
   obtain ⟨hjs,ht⟩:=jW.1 hj
   obtain ⟨o',ho',e,he,hb,h⟩:=oh ht
   rw [ho] at ho';cases ho'
   have hl:=hall e he hb
   rcases h with rfl|h
   ·exact hl
   ·exact sZ _ hl j (jW.2 ⟨hjs,h⟩)
  refine ⟨fun h0=>(by rw [h0] at hrk;cases hrk),fun i hi=>?_⟩
  obtain ⟨h0,o,ho,_⟩:=mem_ready.1 hi
  have mW:=(Array.getElem?_eq_some_iff.1 ho).1
  have hik:i=k:=by
   rcases Nat.lt_trichotomy i k with h1|h1|h1
   ·rw [ou i h1] at h0;cases h0
   ·exact h1
   ·have := hrp i hi k (zS i (by omega) mW k h1)
    rw [(Bo (HX k (Nat.le_refl _) hks)).1] at this;cases this
  subst hik
  rw [List.range'_succ,wpOpsIn_cons] at h
  refine wpOpIn_mono (fun a' w' h'=>Dt ee zS n (i+1) (by omega) (by omega) (by simpa using hsz) (fun j hj=>?_) (fun j hj hj2=>?_) (fun x hx j hj=>?_) h') h
  ·by_cases e : i = j
   ·subst e;simp [hsz,hks]
   ·rw [getD_set_ne true e];exact ou j (by omega)
  ·rw [getD_set_ne true (by omega)];exact HX j (by omega) hj2
  ·refine getD_set_true ?_
   by_cases e:i=x
   ·subst e;exact hrp i hi j hj
   ·rw [getD_set_ne false e] at hx
    exact sZ x hx j hj
theorem MG {is : List eN} {m : Nat} (zS : ∀ i, m ≤ i → i < ops.size → ∀ j, j < i → j ∈ (bN ops).getD i []) (mW : dX P N ops ops.toList = some is) (ql : qP (bN ops) is = true) (ee : gM ops = true) {b : Nat} {ms : List Nat} {F : List (Nat × V) → ai → Prop} (hF : Bi F)
  {Q:Exit→Act→World→Prop} (hend:∀ι μ env bl a w,eG P N Y ι μ ⟨env,⟨b+m,bl⟩,ms⟩ a w→F env bl→wpOpsIn Y.F 0 P ops Q (List.range' m (ops.size - m)) a w) :
  ∀(fuel:Nat) {R:List TR} {listed:Array Bool} {a:Act} {w:World} {ι:aj} {μ:Mu} {env:List (Nat×V)} {bl:ai},fuel=R.length+(ops.size - m)→Good ops m is R listed→uF (fI P N out base) b R env bl F →
   eG P N Y ι μ ⟨env,⟨b+m,bl⟩,ms⟩ a w→(∀t∈R,μ (b+t.k)=none)→wpAnyIn Y.F 0 P .any ops Q fuel listed a w
 |fuel,R,listed,a,w,ι,μ,env,bl,hl,hG,hrun,hR,hfr=>by
  rcases Decidable.em (R=[]) with th|th
  ·subst th
   have hle:=hG.le
   have hf:fuel=ops.size - m:=by simpa using hl
   rw [hf]
   refine Dt ee zS (ops.size - m) m (Nat.le_refl _) (by omega) hG.sz (fun i hi=>?_) hG.tl hG.clo (hend _ _ _ _ _ _ hR hrun)
   rcases Bool.eq_false_or_eq_true (listed.getD i true) with h|h
   ·exact h
   ·obtain ⟨t,ht,_⟩:=hG.cov i hi h;simp at ht
  obtain ⟨fuel,rfl⟩:∃f,fuel=f+1:=⟨fuel - 1,by have:=List.length_pos_iff.2 th;omega⟩
  ·refine ⟨fun h0 => ?_, fun i hi => ?_⟩
   ·cases R with
    |nil=>exact absurd rfl th
    |cons t R=>have:=FV hG ee;rw [h0] at this;simp at this
   ·obtain ⟨h0, o, ho, _⟩ := mem_ready.1 hi
    have him:i<m:=by
     rcases Nat.lt_or_ge i m with h|h
     ·exact h
     ·exfalso
      have vX:=(Array.getElem?_eq_some_iff.1 ho).1
      cases R with
      |nil=>exact th rfl
      |cons t R =>
       have Qq:=hG.mem t (List.mem_cons_self ..)
       have:=ot hG hi _ (zS i h vX t.k (by omega))
       rw [(Bo Qq.2.2).1] at this;cases this
    obtain ⟨t,ht,hk⟩:=hG.cov i him h0
    subst hk
    obtain ⟨L1,L2,rfl⟩:=List.append_of_mem ht
    have hAp:∀x∈L1,UN x t:=fun x hx=>by
     have hp:=(List.pairwise_append.1 hG.srt).2.2 x hx t (List.mem_cons_self ..)
     have hd:=(List.pairwise_append.1 hG.dr).2.2 x hx t (List.mem_cons_self ..)
     have QZ:=hG.mem x (List.mem_append_left _ hx)
     have Qq:=hG.mem t ht
     have hnot:x.k∉(bN ops).getD t.k []:=fun h=>by
      have:=ot hG hi _ h
      rw [(Bo QZ.2.2).1] at this;cases this
     rcases Bp ql hp QZ.2.1 Qq.2.1 with h|h
     ·exact absurd h hnot
     ·rcases hd with h' | h'
      ·exact absurd h' hnot
      ·exact ⟨h,h'.1,h'.2⟩
    obtain ⟨ME,aa8⟩:=pull hF hAp hrun
    have Qq:=hG.mem t ht
    have hit:=(gm mW).2 t.k o t.it (by simpa using ho) Qq.2.1
    refine HV Qq.1 ho hit ME hR (hfr t ht) fun ι' μ' a' w' gI hne=>?_
    have hG':=hG.step hi
    refine MG zS mW ql ee hF hend fuel (R:=L1++L2) (by simp at hl ⊢;omega) hG' aa8 gI fun x hx=>?_
    have hx':x∈L1++t::L2:=((List.Sublist.refl L1).append (List.sublist_cons_self t L2)).subset hx
    have h1:=(hG'.mem x hx).2.2
    have hnk:x.k≠t.k:=fun e=>by
     rw [e] at h1
     have:t.k<listed.size:=by rw [hG.sz];have:=hG.le;omega
     simp [this] at h1
    rw [hne _ (by omega)];exact hfr x hx'
theorem zT {ar : Ar} {b : Nat} {F G : List (Nat × V) → ai → Prop} (h : ∀ e bl, F e bl → G e bl) : ∀ {ts : List TR} {env : List (Nat × V)} {bl : ai}, uF ar b ts env bl F → uF ar b ts env bl G
 |[],_,_,hr=>h _ _ hr
 |_::_,_,_,hr=>⟨hr.1,zT h hr.2⟩
theorem Du {ar : Ar} {b : Nat} {p : Prop} {F : List (Nat × V) → ai → Prop} : ∀ {ts : List TR} {env : List (Nat × V)} {bl : ai}, uF ar b ts env bl (fun e bl => p ∧ F e bl) → p ∧ uF ar b ts env bl F
 |[],_,_,hr=>hr
 |_::_,_,_,hr=>let ⟨h1,h2⟩:=Du hr.2;⟨h1,hr.1,h2⟩
theorem iD (hm:P.follows .mixedOrders=true):mV P N out base:=by
 intro id ops CK Q6 mW ql ee hl S K hK Y ι μ a w ho hb hR
 refine wpIn_region_any hm ?_
 obtain ⟨ts,h1,h2,h3⟩:=oe hK
 simp only [List.nil_append] at h3
 obtain ⟨hdr,hrun⟩:=Du h3
 have hlen:CK.length+Q6.length=ops.size:=by simpa using (gm mW).1
 have htl:ts.length=CK.length:=by rw [←h1];simp
 have hk:∀(j:Nat) t,ts[j]?=some t→t.k=j∧(CK++Q6)[j]?=some t.it∧j<CK.length:=fun j t ht=>by
  have hj:=(List.getElem?_eq_some_iff.1 ht).1
  refine ⟨?_,?_,by omega⟩
  ·have : (ts.map (·.k))[j]? = some t.k := by simp [ht]
   rw [h2,List.getElem?_range' (by omega)] at this
   simpa using this.symm
  ·rw [List.getElem?_append_left (by omega),←h1];simp [ht]
 let F:List (Nat×V)→ai→Prop:=fun env bl=>∃jL HY,FU jL env∧UM HY bl∧fB (fI P N out base) Q6 ⟨jL,⟨S.H.next+CK.length,HY⟩,S.ms⟩ K
 have hF:Bi F:=fun env env' bl bJ he qH ⟨e0,b0,q1,q2,q3⟩=>⟨e0,b0,q1.trans he,fun i=>(q2 i).trans (qH i),q3⟩
 have lX:∀{ι' μ' env bl jL HY a' w'},eG P N Y ι' μ' ⟨env,⟨S.H.next+CK.length,bl⟩,S.ms⟩ a' w'→FU jL env→UM HY bl→eG P N Y ι' μ' ⟨jL,⟨S.H.next+CK.length,HY⟩,S.ms⟩ a' w':=fun gI q1 q2 =>
  ⟨fun t=>by rw [q1 t];exact gI.env t,gI.sz,gI.inv.eqB q2,gI.ms⟩
 have hfl:ops.size=ts.length+(ops.size - CK.length):=by omega
 have htr2:dX P N ops (ops.toList.drop CK.length)=some Q6:=by
  have:=Ds (k:=CK.length) mW
  rwa [List.drop_left' rfl] at this
 refine MG (out:=out) (base:=base) (b:=S.H.next) (ms:=S.ms) (F:=F) (fun i hi hi2=>hl i hi (by omega)) mW ql ee hF (fun ι' μ' env bl a' w' gI hf=>?_) ops.size (R:=ts) (ι:=ι) (μ:=μ) (env:=S.env) (bl:=S.H.bl) hfl ?_ ?_ ?_ ?_
 ·obtain ⟨e0, b0, q1, q2, q3⟩ := hf
  have h:=wE (Y:=Y) (os:=ops.toList.drop CK.length) (Q:=Post P N Y fun e S=>match e with | .normal=>K S|_=>False) (K:=K) (out:=out) (base:=base) (fun ι μ S a w hR hK=>Post.of (e':=.normal) hR rfl hK) (k:=CK.length) htr2 (fun j=>by
   rw [List.getElem?_drop];simp) (lX gI q1 q2) q3
  rwa [List.length_drop,Array.length_toList] at h
 ·refine ⟨by simp, fun t ht => ?_, fun i hi Rf => ?_, ?_, qk hdr, fun i hi => ?_, by omega, fun i hi hi2 => by simp [hi2]⟩
  ·obtain ⟨j, hj⟩ := List.getElem?_of_mem ht
   obtain ⟨e1,e2,e3⟩:=hk j t hj
   subst e1
   exact ⟨e3,e2,by simp [show t.k<ops.size by omega]⟩
  ·have : i < ts.length := by omega
   refine ⟨ts[i],List.getElem_mem this,(hk i _ (by simp)).1⟩
  ·have h4 : (ts.map (·.k)).Pairwise (· < ·) := by rw [h2]; exact List.pairwise_lt_range'
   exact List.pairwise_map.1 h4
  ·exfalso
   rcases Nat.lt_or_ge i ops.size with h|h<;>simp [h] at hi
 ·refine zT (fun e bl h => ?_) hrun
  exact ⟨e,bl,fun _=>rfl,fun _=>rfl,h⟩
 ·exact ⟨hR.env,hR.sz,(hR.inv.sX (by omega)).drawn,hR.ms⟩
 ·intro t ht
  exact hR.inv.nx _ (by omega)
end
end Go.AM
end
section
namespace Go.AM
section
variable {P:Program} {N:Nat} {Y:Ctx} {ι ι':aj} {μ μ':Mu} {H:aF} {w w':World} {out:Option Nat} {base:Nat}
theorem Rg {func:Func} {fn:Fn} (htr:cM P func=some fn):Ma P func.results.toList=some fn.res:=by
 unfold cM at htr
 split at htr<;>try (cases htr;done)
 split at htr<;>try (cases htr;done)
 rename_i Qo
 split at htr<;>try (cases htr;done)
 cases htr;exact Qo
theorem Inv.down (h:Inv P Y ι μ H w) (ro:Option Nat):Inv P ⟨Y.w0,ι,μ,ro,Y.x,[]⟩ ι μ H w :=
 ⟨h.below,aj.le_refl _,fun _ _ _ _=>rfl,h.rd,Mu.le_refl _,h.nx,h.live,h.inj,h.lt,h.dz⟩
theorem Inv.up {ro:Option Nat} {H':aF} (h0:Inv P Y ι μ H w) (h:Inv P ⟨Y.w0,ι,μ,ro,Y.x,[]⟩ ι' μ' H' w'):Inv P Y ι' μ' H' w'∧ι.le ι'∧μ.le μ' :=
 ⟨⟨h.below,aj.le_trans h0.i0 h.i0,fun b o hb hx=>(h.iB b o hb hx).trans (h0.iB b o hb hx),h.rd,Mu.le_trans h0.m0 h.m0,h.nx,h.live,h.inj,h.lt,h0.gl⟩,h.i0,h.m0⟩
theorem kq {f : Nat} {func : Func} {fn : Fn} (hf : P.funcs[f]? = some func) (htr : cM P func = some fn) (cD : Enters P f) (gP : mV P fn.N none H.next) {vs : List V} {Q : V → aF → Prop} (hlen : vs.length ≤ fn.np)
  (h:qS (fI P fn.N none H.next) fn.body ⟨args 0 vs,H,[]⟩ (Bf fn.res fn.tys Q)):gN P f vs H Q:=by
 refine ⟨cD,fun Y ι μ w as hI hr=>?_⟩
 refine HS (Y:=⟨Y.w0,ι,μ,none,Y.x,[]⟩) hf htr gP hlen h rfl rfl (fun id hid=>hI.nx id hid) (hI.down none) hr fun Y1 ι' μ' S' a' w' e' hY hR hq=>?_
 have key:Bf.qh fn.res fn.tys Q S'→LeavesInM Fence.wide 0 P func a'.tmps (Mv P Y ι μ Q) a'.defers .returning w':=by
  intro hs
  unfold Bf.qh at hs
  split at hs<;>try (exact hs.elim)
  rename_i bl qH
  split at hs<;>try (exact hs.elim)
  rename_i vs' hvs
  refine sU (Rg htr) (n:=S'.H.next) (bl:=S'.H.bl) hY rfl hR.inv hR.env hR.ms qH hvs fun x w2 nT hx=>?_
  obtain ⟨h1,h2,h3⟩:=hI.up nT
  exact ⟨x,ι',μ',_,_,rfl,h2,h3,h1,hx (hTs fn.tys),hs⟩
 cases e' with
 |exit id=>exact hq.elim
 |normal=>exact ⟨.inl rfl,key hq⟩
 |ret=>exact ⟨.inr rfl,key hq⟩
def unr (ar : Ar) (c : C) : Nat → St → (Ex → St → Prop) → Prop
 |0,_,_=>False
 |n+1,S,K=>qS ar c S fun e S'=>match e with
  | .normal=>unr ar c n S' K
  | .exit id=>K (.exit id) S'
  | .ret=>K .ret S'
theorem Inv.J1 {bl:ai} {n id:Nat} {L:Loc} {B:k8} (h:Inv P Y ι μ ⟨n,bl⟩ w) (hb:aq id bl=some B) (hL:μ id=some L) {o o':Obj} (ho:w.heap[L.b]?=some o) (hnc:∀c e f,o ≠ .cells c e f) (hnm:∀ms c,o ≠ .map ms c) :
  Inv P Y ι μ ⟨n,bn id bl⟩ (w.putObj L.b o'):=by
 have hold:Y.own L.b:=((h.live id _ hb).loc hL).1
 have bQ:∀k,k≠L.b→(w.putObj L.b o').heap[k]?=w.heap[k]?:=fun k hk=>World.putObj_heap_other hk
 have hsub:=h.del id
 refine ⟨⟨h.below.os, h.below.tape, h.below.output, by rw [World.putObj_size]; exact h.below.size, fun k hk hx => ?_, h.below.dr, fun k hk => (h.below.maps k hk).trans (by
   by_cases e:k=L.b
   ·subst e;exact .no (fun ms c e=>by rw [ho] at e;cases e;exact hnm _ _ rfl)
   ·exact .eq (bQ k e))⟩,h.i0,h.iB,fun b o2 x hx=>?_,h.m0,h.nx,fun i B2 hB=>?_,hsub.inj,hsub.lt,h.gl⟩
 ·rw [bQ k (Ctx.lU hold hk hx)];exact h.below.block k hk hx
 ·have := h.rd b o2 x hx
  have hne:b≠L.b:=fun e=>by
   subst e
   cases o<;>simp [World.cell?,ho] at this
   exact hnc _ _ _ rfl
  unfold World.cell? at this ⊢
  simp only at this ⊢
  rw [bQ b hne];exact this
 ·simp only at hB
  rw [aW] at hB
  split at hB
  ·cases hB
  ·rename_i e
   refine (h.live i B2 hB).mono (aj.le_refl _) (Mu.le_refl _) (fun h=>h) (fun L' hL'=>bQ _ (fun e'=>e (h.inj i id B2 _ L' L hB hb hL' hL e'))) (fun _ _ h=>h)
def HZ (j:Option Ex) (S:St) (K:Ex→St→Prop):Prop:=match j with
 |none=>K .normal S
 |some e=>match e with
  | .normal=>False
  | .exit i=>K (.exit i) S
  | .ret=>K .ret S
def jX (id:Nat) (sh:List Nat) (S:St) (K:Ex→St→Prop) (H:aF):Prop:=match aq id H.bl with
 |some (.loop st j _ _ _ _ _ _)=>match st with
  | .busy=>False
  |_=>match eH sh (bn id H.bl) with
   |some bl=>HZ j ⟨S.env,⟨H.next,bl⟩,S.ms⟩ K
   |none=>False
 |_=>False
def WJ (ar:Ar) (N:Nat) (out:Option Nat) (f:O) (ps:List Nat) (as bd:C) (S:St) (K:Ex→St→Prop):Prop :=
 ps.all (Nat.blt · N)=true ∧
 match f.ev S.env with
 | .fn fid first cap=>match out with
  | none => S.ms = [] ∧ ar.call fid (first ++ [.yl (S.H.next + 1)] ++ cap) ⟨S.H.next + 2, (S.H.next + 1, .loop .ready none S.H.next S.env ps as bd N) :: (S.H.next, .ig) :: S.H.bl⟩
    fun _ H=>jX (S.H.next+1) [S.H.next] S K H
  |some UO=>match aq UO S.H.bl with
   | some (.loop _ _ d _ _ _ _ _) => ar.call fid (first ++ [.yl S.H.next] ++ cap) ⟨S.H.next + 1, (S.H.next, .loop .ready none d S.env ps as bd N) :: S.H.bl⟩
     fun _ H=>jX S.H.next [] S K H
   |_=>False
 |_=>False
theorem uh {f:O} {ps:List Nat} {as bd:C} {S:St} {K:Ex→St→Prop} (h:WJ (fI P N out base) N out f ps as bd S K):(fI P N out base).bF f ps as bd S K:=by
 intro fo CI ao bo hfo hps hao hbo Y ι μ a w ho hb hR
 obtain ⟨hpN,h⟩:=h
 have rf:=aB hR.env hfo
 have hnc:∀(r:Loop) c e f,Obj.loop r ≠ .cells c e f:=fun r c e f=>by intro h;cases h
 split at h
 ·rename_i fid fs cs o3
  rw [o3] at rf
  generalize hg:a.eval fo=fv at rf
  cases rf with
  |fn _ _ _ xs ys h1 h2 h3 h4 =>
   have r1:aG ι μ fs xs.toList:=⟨by simpa using h1,fun i v x hv hx=>h2 i v x hv (by simpa using hx)⟩
   have r2:aG ι μ cs ys.toList:=⟨by simpa using h3,fun i v x hv hx=>h4 i v x hv (by simpa using hx)⟩
   -- behind the call
   have fin:∀{aC:Nat} {L:Loc} {sh ms':List Nat} {ds':List Deferred} {μ1:Mu},μ.le μ1→μ1 aC=some L→jl Y.hid μ1 ms' ds'→((sh=[]∧ms'=S.ms)∨∃i,sh=[i]∧ms'=[i]∧S.ms=[]∧Y.ro=none) →
     ∀e w',Mv P Y ι μ1 (fun _ H=>jX aC sh S K H) e w' →
     rangePost Y.F 0 P L.b (Post P N Y K) { a with defers:=ds' } e w':=fun {aC L sh ms' ds' μ1} fK hL hmk hsh e w' he=>by
    obtain ⟨v,ι',μ',r,H',rfl,hi,hm,hinv,hv,hq⟩:=he
    unfold jX at hq
    split at hq<;>try (exact hq.elim)
    rename_i st j d env' ps' as' Rh N' qH
    obtain ⟨L',r',Ld,q1,q2,q3,q4,q5,q6,q7,q8,q9,q10,q11,q12,q13⟩:=hinv.live _ _ qH
    rw [hm _ _ hL] at q1;cases q1
    have hst:r'.state ≠ .busy:=by rw [q4];cases st<;>simp [stR] at hq ⊢
    have hinv':=hinv.J1 (o':=.loop { r' with state:=.exhausted }) qH (hm _ _ hL) q3 (hnc r') (fun _ _ e=>by cases e)
    have UP:eG P N Y ι' μ' ⟨S.env,⟨H'.next,bn aC H'.bl⟩,ms'⟩ { a with defers:=ds' } (w'.putObj L.b (.loop { r' with state:=.exhausted })) :=
     ⟨hR.env.mono hi (Mu.le_trans fK hm),hR.sz,hinv',hmk.mono hm⟩
    have hq1:∃bl,eH sh (bn aC H'.bl)=some bl∧HZ j ⟨S.env,⟨H'.next,bl⟩,S.ms⟩ K:=by
     cases hsh2:eH sh (bn aC H'.bl) with
     |none=>rw [hsh2] at hq;cases st<;>exact hq.elim
     |some bl=>rw [hsh2] at hq;exact ⟨bl,rfl,by cases st<;>first|exact hq.elim|exact hq⟩
    obtain ⟨bl,MH,WK⟩:=hq1
    obtain ⟨Y1,MJ,lX⟩:∃Y1,Ext P Y Y1∧eG P N Y1 ι' μ' ⟨S.env,⟨H'.next,bl⟩,S.ms⟩ { a with defers:=ds' } (w'.putObj L.b (.loop { r' with state:=.exhausted })):=by
     rcases hsh with ⟨rfl,rfl⟩|⟨i,rfl,rfl,hS,hro⟩
     ·cases MH;exact ⟨Y,.refl Y,UP⟩
     ·simp only [eH] at MH
      split at MH<;>try (cases MH;done)
      rename_i hb
      cases MH
      rw [hS]
      exact UP.uD rfl hb hro
    have hend:=run_endLoop (P:=P) q3 hst
    generalize w'.putObj L.b (.loop { r' with state:=.exhausted })=w4 at lX hend
    refine ⟨r'.pending,w4,hend,?_⟩
    unfold HZ at WK
    cases j with
    |none=>simp only [CX] at q5;rw [q5];exact .of1 (e':=.normal) MJ lX rfl WK
    |some e =>
     cases e with
     |normal=>exact WK.elim
     |exit i=>simp only [CX] at q5;rw [q5];exact wpIn_exit (.of1 (e':=.exit i) MJ lX rfl WK)
     |ret=>simp only [CX] at q5;rw [q5];exact wpIn_ret (.of1 (e':=.ret) MJ lX rfl WK)
   have hpN':∀p∈ps,p<N:=fun p hp=>by have:=List.all_eq_true.1 hpN p hp;simpa using this
   cases out with
   |none =>
    simp only at h
    have hro:Y.ro=none:=ho
    obtain ⟨hms0,cD,gO⟩:=h
    let Ld:Loc:=⟨w.heap.size,0,0,0⟩
    let L:Loc:=⟨w.heap.size+1,0,0,0⟩
    have hn0:=hR.inv.nx S.H.next (Nat.le_refl _)
    have yV:=Mu.fD (L:=Ld) hn0
    have Fc:=hR.inv.lay hn0 (L:=Ld) (o:=.deferred (some [])) (b:=.ig) rfl ⟨Ld,by simp [Mu.set],.inl hR.inv.below.size,by show (w.heap.push _)[w.heap.size]?=_;simp⟩
    have J2:(w.alloc (.deferred (some []))).heap.size=w.heap.size+1:=World.size_alloc _ _
    have JQ:(μ.set S.H.next Ld) (S.H.next+1)=none:=by simp only [Mu.set];rw [if_neg (by omega)];exact hR.inv.nx _ (by omega)
    have hle1:=Mu.fD (L:=L) JQ
    have FW : ∀ fn : Nat, Inv P Y ι ((μ.set S.H.next Ld).set (S.H.next + 1) L) ⟨S.H.next + 2, (S.H.next + 1, .loop .ready none S.H.next S.env ps as bd N) :: (S.H.next, .ig) :: S.H.bl⟩
      ((w.alloc (.deferred (some []))).alloc (.loop { state:=.ready,pending:=none,fn:=fn,tmps:=a.tmps,params:=CI,assign:=ao,body:=bo,defers:=w.heap.size })):=fun fn=>by
     have nT := Fc.lay JQ (L := L) (o := .loop { state := .ready, pending := none, fn := fn, tmps := a.tmps, params := CI, assign := ao, body := bo, defers := w.heap.size })
      (b:=.loop .ready none S.H.next S.env ps as bd N) (by simp [L,J2]) ⟨L,{ state:=.ready,pending:=none,fn:=fn,tmps:=a.tmps,params:=CI,assign:=ao,body:=bo,defers:=w.heap.size },Ld,by simp [Mu.set],.inl (by have:=hR.inv.below.size;simp only [L];omega),by
       have:=World.alloc_heap_new (w.alloc (.deferred (some []))) (.loop { state:=.ready,pending:=none,fn:=fn,tmps:=a.tmps,params:=CI,assign:=ao,body:=bo,defers:=w.heap.size })
       rw [J2] at this;exact this,rfl,rfl,hR.env.mono (aj.le_refl _) (Mu.le_trans yV hle1),hps,hR.sz,hpN',hao,hbo,by simp [Mu.set],rfl⟩
     refine nT.congr (fun id=>?_) (by simp only;omega)
     rw [aD,bf]
     by_cases e:S.H.next+1=id
     ·subst e;simp
     ·rw [if_neg e, if_neg (fun e' => e e'.symm), aD, bf]
      by_cases e2:S.H.next=id
      ·subst e2;simp
      ·rw [if_neg e2,if_neg (fun e'=>e2 e'.symm)]
    have yW:=Mu.le_trans yV hle1
    have hLd:((μ.set S.H.next Ld).set (S.H.next+1) L) S.H.next=some Ld:=by simp [Mu.set]
    have hL:((μ.set S.H.next Ld).set (S.H.next+1) L) (S.H.next+1)=some L:=by simp [Mu.set]
    refine wpIn_rangeFunc fun fn _=>?_
    have Dv:=FW fn
    obtain ⟨W,hW⟩:∃W,W=(w.alloc (.deferred (some []))).alloc (.loop { state:=.ready,pending:=none,fn:=fn,tmps:=a.tmps,params:=CI,assign:=ao,body:=bo,defers:=w.heap.size }):=⟨_,rfl⟩
    rw [←hW] at Dv
    refine ⟨w.heap.size+1,[{ target:=.collected w.heap.size,args:=#[] }],W,{ target:=.fn (.func fid) ys,args:=xs++#[.func (.yield (w.heap.size+1)) #[] #[]] },W,fid,
     (xs++#[.func (.yield (w.heap.size+1)) #[] #[]])++ys,W,?_,?_,fun _ _=>trivial,?_,fun h=>by simp [Ctx.F,Fence.wide] at h,?_⟩
    ·show (Instr.enterLoop fn a.tmps CI ao bo Y.ro).run P w = _
     rw [hro,hW];exact run_enterLoop_outer _ _ _ _ _
    ·have e1 : ∀ v, a.eval (.const v) = v := fun _ => rfl
     simp [resolve,hg,Deferred.ofValue,e1]
    ·have := cD ((xs ++ #[Value.func (Fn.yield (w.heap.size + 1)) #[] #[]]) ++ ys) W
     simpa [invoke] using this
    ·have rl:aG ι ((μ.set S.H.next Ld).set (S.H.next+1) L) (fs++[.yl (S.H.next+1)]++cs) ((xs++#[Value.func (Fn.yield (w.heap.size+1)) #[] #[]])++ys).toList:=by
      have q1:=r1.mono (aj.le_refl _) yW
      have q2:=r2.mono (aj.le_refl _) yW
      have:=(q1.append (.cons (.yl _ L hL) .nil)).append q2
      simpa using this
     refine CallsIn.mono (F:=Y.F) (gO Y ι _ _ _ Dv rl) fun e w' he=>?_
     exact fin (L:=L) (aC:=S.H.next+1) (sh:=[S.H.next]) (ms':=[S.H.next]) (ds':={ target:=.collected w.heap.size,args:=#[] }::a.defers) yW hL ⟨Ld,_,a.defers,rfl,hLd,rfl,by have:=hR.ms;rw [hms0] at this;exact this⟩ (.inr ⟨_,rfl,rfl,hms0,hro⟩) e w' he
   |some UO =>
    simp only at h
    obtain ⟨L0,hm0,hro⟩:=ho
    split at h<;>try (exact h.elim)
    rename_i st0 j0 d0 jL ps0 as0 bd0 N0 hb0
    obtain ⟨cD,gO⟩:=h
    obtain ⟨L0',r0,Ld,q1,q2,q3,q4,q5,q6,q7,q8,q9,q10,q11,q12,q13⟩:=hR.inv.live _ _ hb0
    rw [hR.inv.m0 _ _ hm0] at q1;cases q1
    let L:Loc:=⟨w.heap.size,0,0,0⟩
    have hn0:=hR.inv.nx S.H.next (Nat.le_refl _)
    have yW:=Mu.fD (L:=L) hn0
    have FW : ∀ fn : Nat, Inv P Y ι (μ.set S.H.next L) ⟨S.H.next + 1, (S.H.next, .loop .ready none d0 S.env ps as bd N) :: S.H.bl⟩
      (w.alloc (.loop { state:=.ready,pending:=none,fn:=fn,tmps:=a.tmps,params:=CI,assign:=ao,body:=bo,defers:=r0.defers })):=fun fn=>by
     have nT := hR.inv.lay hn0 (L := L) (o := .loop { state := .ready, pending := none, fn := fn, tmps := a.tmps, params := CI, assign := ao, body := bo, defers := r0.defers })
      (b:=.loop .ready none d0 S.env ps as bd N) rfl ⟨L,{ state:=.ready,pending:=none,fn:=fn,tmps:=a.tmps,params:=CI,assign:=ao,body:=bo,defers:=r0.defers },Ld,by simp [Mu.set],.inl hR.inv.below.size,by
       show (w.heap.push _)[w.heap.size]?=_
       simp,rfl,rfl,hR.env.mono (aj.le_refl _) yW,hps,hR.sz,hpN',hao,hbo,yW _ _ q12,q13⟩
     refine nT.congr (fun id=>?_) (by simp only;omega)
     rw [aD,bf]
     by_cases e:S.H.next=id
     ·subst e;simp
     ·rw [if_neg e,if_neg (fun e'=>e e'.symm)]
    have hL:(μ.set S.H.next L) S.H.next=some L:=by simp [Mu.set]
    refine wpIn_rangeFunc fun fn _=>?_
    have Dv:=FW fn
    obtain ⟨W,hW⟩:∃W,W=w.alloc (.loop { state:=.ready,pending:=none,fn:=fn,tmps:=a.tmps,params:=CI,assign:=ao,body:=bo,defers:=r0.defers }):=⟨_,rfl⟩
    rw [←hW] at Dv
    refine ⟨w.heap.size,[],W,{ target:=.fn (.func fid) ys,args:=xs++#[.func (.yield w.heap.size) #[] #[]] },W,fid,
     (xs++#[.func (.yield w.heap.size) #[] #[]])++ys,W,?_,?_,fun _ _=>trivial,?_,fun h=>by simp [Ctx.F,Fence.wide] at h,?_⟩
    ·show (Instr.enterLoop fn a.tmps CI ao bo Y.ro).run P w = _
     rw [hro,hW];exact run_enterLoop_inner q3 _ _ _ _ _
    ·have e1 : ∀ v, a.eval (.const v) = v := fun _ => rfl
     simp [resolve,hg,Deferred.ofValue,e1]
    ·have := cD ((xs ++ #[Value.func (Fn.yield w.heap.size) #[] #[]]) ++ ys) W
     simpa [invoke] using this
    ·have rl:aG ι (μ.set S.H.next L) (fs++[.yl S.H.next]++cs) ((xs++#[Value.func (Fn.yield w.heap.size) #[] #[]])++ys).toList:=by
      have q1:=r1.mono (aj.le_refl _) yW
      have q2:=r2.mono (aj.le_refl _) yW
      have:=(q1.append (.cons (.yl _ L hL) .nil)).append q2
      simpa using this
     refine CallsIn.mono (F:=Y.F) (gO Y ι _ _ _ Dv rl) fun e w' he=>?_
     exact fin (L:=L) (aC:=S.H.next) (sh:=[]) yW hL (hR.ms.mono yW) (.inl ⟨rfl,rfl⟩) e w' he
 ·exact h.elim
end
end Go.AM
end
section
namespace Go.AM
def uj : List Nat → List V → List (Nat × V) → List (Nat × V)
  |p::ps,v::vs,env=>uj ps vs (AY p v env)
  |_,_,env=>env
def rq (id:Nat) (Q:V→aF→Prop) (e:Ex) (S:St):Prop:=match aq id S.H.bl with
  |some (.loop .busy _ d env ps as bd N)=>match e with
    | .normal=>Q (.tf true) ⟨S.H.next,(id,.loop .ready none d env ps as bd N)::bn id S.H.bl⟩
    | .exit i=>Q (.tf false) ⟨S.H.next,(id,.loop .done (some (.exit i)) d env ps as bd N)::bn id S.H.bl⟩
    | .ret=>Q (.tf false) ⟨S.H.next,(id,.loop .done (some .ret) d env ps as bd N)::bn id S.H.bl⟩
  |_=>False
def FX (ar:Nat→Ar) (id:Nat) (vs:List V) (H:aF) (Q:V→aF→Prop):Prop:=match aq id H.bl with
  |some (.loop .ready none d env ps as bd N)=>vs.length=ps.length∧qS (ar N) as ⟨uj ps vs env,H,[]⟩ fun e S=>match e with
    | .normal=>match aq id S.H.bl with
      |some (.loop .ready none d' env' ps' as' Rh N')=>qS (ar N) bd ⟨S.env,⟨S.H.next,(id,.loop .busy none d' env' ps' as' Rh N')::bn id S.H.bl⟩,S.ms⟩ (rq id Q)
      |_=>False
    |_=>False
  |_=>False
section
variable {P:Program} {N:Nat} {Y:Ctx} {ι ι':aj} {μ μ':Mu} {H:aF} {w w':World} {out:Option Nat} {base:Nat}
theorem zU:∀{ps:List Nat} {vs:List V} {args:List Value} {env:List (Nat×V)} {tmps:Array Value},aG ι μ vs args→(∀p∈ps,p<N)→tmps.size=N→eu ι μ env tmps →
    eu ι μ (uj ps vs env) ((ps.zip args).foldl (fun t (p,v)=>t.setIfInBounds p v) tmps)∧((ps.zip args).foldl (fun (t:Array Value) (p,v)=>t.setIfInBounds p v) tmps).size=N
  |[],vs,args,env,tmps,hr,hp,hs,he=>by simp only [uj,List.zip_nil_left,List.foldl_nil];exact ⟨he,hs⟩
  |p::ps,[],args,env,tmps,hr,hp,hs,he=>by rw [hr.of_nil];simp only [uj,List.zip_nil_right,List.foldl_nil];exact ⟨he,hs⟩
  |p::ps,v::vs,args,env,tmps,hr,hp,hs,he=>by
    obtain ⟨x,r,rfl,h1,h2⟩:=hr.bA
    simp only [uj,List.zip_cons_cons,List.foldl_cons]
    refine zU h2 (fun q hq=>hp q (List.mem_cons_of_mem _ hq)) (by simp [hs]) fun t=>?_
    have hd':p<N:=hp p (List.mem_cons_self ..)
    rw [mb]
    by_cases h:p=t
    · subst h
      rw [if_pos rfl]
      have:(tmps.setIfInBounds p x).getD p undef=x:=by simp [Array.getD,hs,hd']
      rw [this];exact h1
    · rw [if_neg h]
      have:(tmps.setIfInBounds p x).getD t undef=tmps.getD t undef:=by
        simp only [Array.getD_eq_getD_getElem?]
        rw [Array.getElem?_setIfInBounds_ne h]
      rw [this];exact he t
theorem J3 {id:Nat} {vs:List V} {Q:V→aF→Prop} (gP:∀N,mV P N (some id) H.next) (h:FX (fun N=>fI P N (some id) H.next) id vs H Q):around P id vs H Q:=by
  intro Y ι μ w args L hI hr hL
  unfold FX at h
  split at h<;>try (exact h.elim)
  rename_i d env ps as bd N hb
  obtain ⟨hlen,h⟩:=h
  obtain ⟨L',r,Ld,q1,q2,q3,q4,q5,q6,q7,q8,q9,q10,q11,q12,q13⟩:=hI.live _ _ hb
  rw [hL] at q1;cases q1
  have hnc:∀(r:Loop) c e f,Obj.loop r ≠ .cells c e f:=fun r c e f=>by intro h;cases h
  have hsize : args.size = r.params.size := by have h1 := hr.1; have h2 : r.params.toList.length = ps.length := by rw [q7]
                                               simp at h1 h2;omega
  refine ⟨r.fn,_,r.assign,r.body,w,run_yield q3 hsize,roundIn_of_wpIn trivial ?_⟩
  let Y':Ctx:=⟨Y.w0,ι,μ,some L.b,Y.x,[]⟩
  obtain ⟨he1,he2⟩:=zU (env:=env) hr q9 q8 q6
  have hzip:(r.params.zip args).foldl (fun tmps (x:Tmp×Value)=>tmps.setIfInBounds x.1 x.2) r.tmps=(ps.zip args.toList).foldl (fun (t:Array Value) (p,v)=>t.setIfInBounds p v) r.tmps:=by
    rw [←Array.foldl_toList,Array.toList_zip,q7]
  have hR:eG P N Y' ι μ ⟨uj ps vs env,H,[]⟩ { tmps:=(r.params.zip args).foldl (fun tmps (x:Tmp×Value)=>tmps.setIfInBounds x.1 x.2) r.tmps,defers:=[] } w :=
    ⟨by rw [hzip];exact he1,by rw [hzip];exact he2,hI.down _,rfl⟩
  have hbase:Y'.base H.next:=fun id hid=>hI.nx id hid
  have hout:kj Y' (some id):=⟨L,hL,rfl⟩
  refine wpIn_mono (gy (gP N) r.assign q10 h Y' ι μ _ w hout hbase hR) fun e a1 w1 hp=>?_
  obtain ⟨Y1,MJ,ι1,μ1,S1,e1,qI,hx1,hq1⟩:=hp
  have:=MJ.same (by simp [Y'])
  subst this
  cases e1 with
  |exit i=>exact hq1.elim
  |ret=>exact hq1.elim
  |normal =>
    cases hx1
    simp only at hq1
    split at hq1<;>try (exact hq1.elim)
    rename_i d1 env1 ps1 as1 bd1 N1 iX
    obtain ⟨L1,r1,Ld1,p1,p2,p3,p4,p5,p6,p7,p8,p9,p10,p11,p12,p13⟩:=qI.inv.live _ _ iX
    have Wx:μ1 id=some L:=qI.inv.m0 _ _ hL
    rw [Wx] at p1;cases p1
    refine ⟨_,run_beginRound p3 p4,?_⟩
    have hlt1:L.b<w1.heap.size:=(Array.getElem?_eq_some_iff.1 p3).1
    have nT := qI.inv.HM (o' := .loop { r1 with state := .busy }) (B' := .loop .busy none d1 env1 ps1 as1 bd1 N1) iX Wx p3 (hnc _) (fun _ _ e => by cases e)
      ⟨L,{ r1 with state:=.busy },Ld1,Wx,p2,World.putObj_heap_same hlt1,rfl,p5,p6,p7,p8,p9,p10,p11,p12,p13⟩
    have nD:eG P N Y' ι1 μ1 ⟨S1.env,⟨S1.H.next,(id,.loop .busy none d1 env1 ps1 as1 bd1 N1)::bn id S1.H.bl⟩,S1.ms⟩ a1 (w1.putObj L.b (.loop { r1 with state:=.busy })):=⟨qI.env,qI.sz,nT,qI.ms⟩
    refine wpIn_mono (gy (gP N) r.body q11 hq1 Y' ι1 μ1 _ _ hout hbase nD) fun e a3 w3 hp=>?_
    obtain ⟨Y3,hY3,ι3,μ3,S3,e3,LD,Dx,Ri⟩:=hp
    have:=hY3.same (by simp [Y'])
    subst this
    unfold rq at Ri
    split at Ri<;>try (exact Ri.elim)
    rename_i j3 d3 env3 ps3 as3 bd3 N3 CG
    obtain ⟨L3,r3,Ld3,s1,s2,s3,s4,s5,s6,s7,s8,s9,s10,s11,s12,s13⟩:=LD.inv.live _ _ CG
    have hL3:μ3 id=some L:=LD.inv.m0 _ _ hL
    rw [hL3] at s1;cases s1
    have hlt3:L.b<w3.heap.size:=(Array.getElem?_eq_some_iff.1 s3).1
    have fin:∀(jump:Option Code) (st:qd) (j:Option Ex) (v:V),stR st=(if jump.isNone then .ready else .done)→CX j jump→v = .tf jump.isNone→Q v ⟨S3.H.next,(id,.loop st j d3 env3 ps3 as3 bd3 N3)::bn id S3.H.bl⟩ →
        ∃v w',(Instr.endRound L.b jump).run P w3 = .ok v w'∧Mv P Y ι μ Q (.returned v) w':=fun jump st j v h1 h2 h3 h4=>by
      have hI4 := LD.inv.HM (o' := .loop { r3 with state := if jump.isNone then .ready else .done, pending := jump }) (B' := .loop st j d3 env3 ps3 as3 bd3 N3) CG hL3 s3 (hnc _) (fun _ _ e => by cases e)
        ⟨L,{ r3 with state:=if jump.isNone then .ready else .done,pending:=jump },Ld3,hL3,s2,World.putObj_heap_same hlt3,h1.symm,h2,s6,s7,s8,s9,s10,s11,s12,s13⟩
      obtain ⟨u1,u2,u3⟩:=hI.up hI4
      subst h3
      exact ⟨_,_,run_endRound jump s3,_,ι3,μ3,_,_,rfl,u2,u3,u1,.tf _,h4⟩
    cases e3 with
    |normal=>cases Dx;exact fin none .ready none _ rfl rfl rfl Ri
    |exit i=>cases Dx;exact fin (some (.exit i)) .done (some (.exit i)) _ rfl rfl rfl Ri
    |ret=>cases Dx;exact fin (some .ret) .done (some .ret) _ rfl rfl rfl Ri
end
end Go.AM
end
section
namespace Go.AM
section
variable {c1 : Nat → List V → aF → (V → aF → Prop) → Prop} {c2 : Nat → List V → V → Prop} {c3 : C → St → (Ex → St → Prop) → Prop}
 {c4:Nat→List V→aF→(V→aF→Prop)→Prop} {c5:O→List Nat→C→C→St→(Ex→St→Prop)→Prop} {c6:C→St→(Ex→St→Prop)→Prop} {bl:ai}
theorem jM : ∀ {t : Ty} {bl : ai} {vs : List V}, bg (aY c1 c2 c3 c4 c5 c6) bl t vs = bg ez bl t vs
 | .unit,bl,vs=>by simp only [bg]
 | .prod a b,bl,vs=>by simp only [bg,jM (t:=a),jM (t:=b)]
 | .bool,_,[]=>rfl
 | .str,_,[]=>rfl
 | .int _,_,[]=>rfl
 | .list _,_,[]=>rfl
 | .cq _ _ _,_,[]=>rfl
 | .bool,_,c::cs=>by cases c<;>rfl
 | .str,_,c::cs=>by cases c<;>rfl
 | .int k,_,c::cs=>by cases c<;>rfl
 | .list t,_,c::cs=>by cases c<;>rfl
 | .cq d g t,_,c::cs=>by cases c<;>first|rfl|(simp only [bg,jM (t:=t)])
theorem ru {t : Ty} {bl : ai} : ∀ {n : Nat} {vs : List V}, l6 (aY c1 c2 c3 c4 c5 c6) bl t n vs = l6 ez bl t n vs
 |0,[]=>rfl
 |0,_::_=>rfl
 |n+1,vs=>by simp only [l6,jM,ru (n:=n)]
theorem Bq {t : Ty} {xs : List t.den} : ∀ {n i : Nat}, CO (aY c1 c2 c3 c4 c5 c6) t xs n i = CO ez t xs n i
 |0,_=>rfl
 |n+1,i=>by simp only [CO,Bq (n:=n)];rfl
theorem Dy {t:Ty} {g:Bool} {v:V}:keyOf (aY c1 c2 c3 c4 c5 c6) t g v=keyOf ez t g v:=by simp only [keyOf,jM]
theorem Bs {t : Ty} : ∀ {vs : List V}, qJ (aY c1 c2 c3 c4 c5 c6) bl t vs = qJ ez bl t vs
 |[]=>rfl
 |v::r=>by simp only [qJ,jM,Bs (vs:=r)]
theorem nc : ∀ {t : Ty} {x : t.den} {p : List Bool} {vs : List V}, cL (aY c1 c2 c3 c4 c5 c6) bl t x p vs = cL ez bl t x p vs
 |t,x,[],vs=>by cases t<;>simp only [cL,jM]
 | .prod a b,x,false::p,vs=>by simp only [cL,nc (t:=a)]
 | .prod a b,x,true::p,vs=>by simp only [cL,nc (t:=b)]
 | .unit,_,_::_,_=>by simp [cL]
 | .bool,_,_::_,_=>by simp [cL]
 | .str,_,_::_,_=>by simp [cL]
 | .int _,_,_::_,_=>by simp [cL]
 | .list _,_,_::_,_=>by simp [cL]
 | .cq _ _ _,_,_::_,_=>by simp [cL]
theorem rz {t:Ty} {v:V}:elems (aY c1 c2 c3 c4 c5 c6) bl t v=elems ez bl t v:=by cases v<;>rfl
theorem wU:∀{ks:List Kd} {xs ys:List V},aH (aY c1 c2 c3 c4 c5 c6) ks xs ys=aH ez ks xs ys:=by
 intro ks
 induction ks with
 |nil=>intro xs ys;cases xs<;>cases ys<;>rfl
 |cons k ks ih =>
  intro xs ys
  cases xs with
  |nil=>cases k<;>rfl
  |cons x xs =>
   cases ys with
   |nil=>cases k<;>cases x<;>rfl
   |cons y ys=>cases k<;>cases x<;>cases y<;>first|rfl|(simp only [aH,ih];rfl)
theorem wV {mx:Bool} {k:IntKind}:∀{ys:List V} {a:Int},iN (aY c1 c2 c3 c4 c5 c6) mx k a ys=iN ez mx k a ys:=by
 intro ys
 induction ys with
 |nil=>intro a;rfl
 |cons y ys ih=>intro a;cases y<;>first|rfl|(simp only [iN,ih];rfl)
theorem MK {e:gv} {vs:List V} {aC:Nat}:iU (aY c1 c2 c3 c4 c5 c6) e vs bl aC=iU ez e vs bl aC:=by
 cases e<;>first|rfl|(simp only [iU,rz,Dy,ru];done)|(simp only [iU,rz,Dy,ru];rfl)
theorem wW {f g : Nat → Option V} (h : ∀ n, f n = g n) : ∀ ns, AW f ns = AW g ns
 |[]=>rfl
 |n::r=>by simp only [AW,h n,wW h r]
theorem Rj {vs:List V} {j:Int}:LS (aY c1 c2 c3 c4 c5 c6) vs j=LS ez vs j:=rfl
theorem Bt {cs : List V} : ∀ {l : List (Nat × Nat × Int)} {o : Nat}, CQ (aY c1 c2 c3 c4 c5 c6) cs l o = CQ ez cs l o
 |[],o=>rfl
 |(eF,len,j)::r,o=>by simp only [CQ,wW (fun n=>Bt (l:=r) (o:=o+n * eF)),Rj]
theorem ML {i:I} {env:List (Nat×V)} {aC:Nat}:bX (aY c1 c2 c3 c4 c5 c6) i env bl aC=bX ez i env bl aC:=by
 cases i<;>first|rfl|(simp only [bX,Bs,nc,rz,wU,wV,MK,ru,Bq,Bt];done)|(simp only [bX,Bs,nc,rz,wU,wV,MK,ru,Bq,Bt];rfl)
theorem MM {i:I} {env:List (Nat×V)} {aC:Nat}:yQ (aY c1 c2 c3 c4 c5 c6) i env bl aC=yQ ez i env bl aC:=by
 cases i<;>first|rfl|(simp only [yQ,nc,jM];done)|(simp only [yQ,nc,jM];rfl)
theorem WL {id:Nat}:clU (aY c1 c2 c3 c4 c5 c6) id bl=clU ez id bl:=by
 unfold clU
 split
 ·simp only [nc];rfl
 ·rfl
end
theorem MN {c1 : Nat → List V → aF → (V → aF → Prop) → Prop} {c2 : Nat → List V → V → Prop} {c3 : C → St → (Ex → St → Prop) → Prop}
  {c4:Nat→List V→aF→(V→aF→Prop)→Prop} {c5:O→List Nat→C→C→St→(Ex→St→Prop)→Prop} {c6:C→St→(Ex→St→Prop)→Prop}:∀{ids:List Nat} {bl:ai},LB (aY c1 c2 c3 c4 c5 c6) ids bl=LB ez ids bl
 |[],_=>rfl
 |id::r,bl=>by simp only [LB,WL,MN (ids:=r)]
def abj (ar:Ar) (x:O) (env:List (Nat×V)) (bl:ai) (aC:Nat):Out:=some ([],x.ev env,[])
def Rk (ar:Ar) (c:O) (a:O) (b:O) (env:List (Nat×V)) (bl:ai) (aC:Nat):Out :=
  match c.ev env with
  | .tf true=>some ([],a.ev env,[])
  | .tf false=>some ([],b.ev env,[])
  | .bool c=>match JM (a.ev env),JM (b.ev env) with
   |some x,some y=>some ([],.bool (ar.Fq c x y),[])
   |_,_=>none
  |_=>none
def MO (ar:Ar) (z:List V) (env:List (Nat×V)) (bl:ai) (aC:Nat):Out:=some ([],.ptr aC 0,[(aC,some (.cells z false))])
def WM (ar:Ar) (x:O) (env:List (Nat×V)) (bl:ai) (aC:Nat):Out:=match (x.ev env).cells? with
  |some cs=>some ([],.ptr aC 0,[(aC,some (.cells cs false))])
  |none=>none
def MP (ar:Ar) (z:List V) (parts:List (Nat×Nat×O)) (env:List (Nat×V)) (bl:ai) (aC:Nat):Out:=match tR parts env z with
  |some cs=>some ([],.agg cs,[])
  |none=>none
def J4 (ar:Ar) (t:Ty) (xs:List O) (env:List (Nat×V)) (bl:ai) (aC:Nat):Out:=match qJ ar bl t (xs.map (·.ev env)) with
  |some (ys,u)=>some ([],.sl aC t 0 xs.length,u++[(aC,some (.arr t ys false))])
  |none=>none
def Rl (ar:Ar) (agg:Bool) (k:Nat) (x:O) (env:List (Nat×V)) (bl:ai) (aC:Nat):Out :=
  match x.ev env with
  | .ptr id off=>match aq id bl with
   |some (.cells cs _)=>match cut off k cs with
    |some vs=>match cm agg vs with
     |some v=>some ([],v,[])
     |none=>none
    |none=>none
   |_=>none
  | .ff cs=>match cut 0 k cs with
   |some vs=>match cm agg vs with
    |some v=>some ([],v,[])
    |none=>none
   |none=>none
  | .ep id t i p=>match aq id bl with
   |some (.arr t' xs _)=>if t=t' then
     match pI t' (ar.get t'.zero xs i) p with
     |some ⟨t2,y⟩=>match cw t2 y with
      |vs=>if vs.length=k then (match cm agg vs with
       |some v=>some ([ar.Lx i (ar.len xs)],v,[])
       |none=>none) else none
     |none=>none
    else none
   |some (.mJ t' xs i' p' v)=>if t=t'∧p=p'∧k=1 then (match agg with
    |false=>some ([ar.eq (Int.ofNat i) (Int.ofNat i')],v,[])
    |true=>none) else none
   |_=>none
  | .ip t y=>match cw t y with
   |vs=>if vs.length=k then (match cm agg vs with
    |some v=>some ([],v,[])
    |none=>none) else none
  | .pa id t m=>match aq id bl with
   |some (.arr t' xs _)=>if t=t' then (match CO ar t' xs m 0 with
    |vs=>if vs.length=k then (match cm agg vs with
     |some v=>some ([],v,[])
     |none=>none) else none) else none
   |_=>none
  | .sp id o l=>match aq id bl with
   |some (.cells cs _)=>match k with
    |1=>match CQ ar cs l o with
     |some v=>match cm agg [v] with
      |some v=>some ([],v,[])
      |none=>none
     |none=>none
    |_=>none
   |_=>none
  |_=>none
def MQ (ar:Ar) (k:Nat) (a:O) (x:O) (env:List (Nat×V)) (bl:ai) (aC:Nat):Out :=
  match (x.ev env).cells? with
  |none=>none
  |some vs=>if vs.length=k then
   (match a.ev env with
   | .ptr id off=>match aq id bl with
    |some (.cells cs false)=>match qK off vs cs with
     |some cs'=>some ([],.any,[(id,some (.cells cs' false))])
     |none=>none
    |_=>none
   | .ep id t i p=>match aq id bl with
    |some (.arr t' xs false)=>if t=t' then
      match cL ar bl t' (ar.get t'.zero xs i) p vs with
      |some (y,u)=>match tS id u with
       |true=>some ([ar.Lx i (ar.len xs)],.any,u++[(id,some (.arr t' (ar.set xs i y) false))])
       |false=>none
      |none=>none
     else none
    |_=>none
   | .pa id t m=>match aq id bl with
    |some (.arr t' xs false)=>if t=t' then
      match l6 ar bl t' m vs with
      |some (ys,u)=>match tS id u with
       |true=>some ([],.any,u++[(id,some (.arr t' ys false))])
       |false=>none
      |none=>none
     else none
    |_=>none
   |_=>none) else none
def WN (ar:Ar) (op:yN) (x:O) (y:O) (env:List (Nat×V)) (bl:ai) (aC:Nat):Out :=
  match x.ev env,y.ev env with
  | .int k a,.int k' b=>match op with
   | .shl=>zu ar .shl k a b
   | .shr=>zu ar .shr k a b
   |_=>if k=k' then Ft ar op k a b else none
  | .str a,.str b=>Fu ar op a b
  |_,_=>none
def WO (ar:Ar) (neg:Bool) (x:O) (y:O) (env:List (Nat×V)) (bl:ai) (aC:Nat):Out:=match JM (x.ev env),JM (y.ev env) with
  |some a,some b=>some ([],.bool (match neg with|true=>ar.sC (ar.beq a b)|false=>ar.beq a b),[])
  |_,_=>none
def WQ (ar:Ar) (neg:Bool) (ks:List Kd) (x:O) (y:O) (env:List (Nat×V)) (bl:ai) (aC:Nat):Out :=
  match x.ev env,y.ev env with
  | .agg xs,.agg ys=>match aH ar ks xs ys with
   |some c=>some ([],.bool (match neg with|true=>ar.sC c|false=>c),[])
   |none=>none
  |_,_=>none
def WR (ar:Ar) (x:O) (env:List (Nat×V)) (bl:ai) (aC:Nat):Out:=match x.ev env with
  | .int k a=>match k.signed with
   |true=>match ar.sub 0 a with|z=>some ([ar.gG k z],.int k z,[])
   |false=>some ([],.int k (ar.wr k (ar.sub 0 a)),[])
  |_=>none
def WS (ar:Ar) (x:O) (env:List (Nat×V)) (bl:ai) (aC:Nat):Out:=match x.ev env with
  | .tf b=>some ([],.tf (!b),[])
  | .bool b=>some ([],.bool (ar.sC b),[])
  |_=>none
def Rm (ar:Ar) (k:IntKind) (x:O) (env:List (Nat×V)) (bl:ai) (aC:Nat):Out:=match x.ev env with
  | .int _ n=>some ([ar.gG k n],.int k n,[])
  |_=>none
def WT (ar:Ar) (off:Nat) (path:List Bool) (x:O) (env:List (Nat×V)) (bl:ai) (aC:Nat):Out:=match x.ev env with
  | .ptr id o=>some ([],.ptr id (o+off),[])
  | .ff cs=>if off≤cs.length then some ([],.ff (cs.drop off),[]) else none
  | .ep id t i p=>match t.qG p with
   |some t1=>if t1.bC path=off then (match t1.qG path with
    |some _=>some ([],.ep id t i (p++path),[])
    |none=>none) else none
   |none=>none
  | .ip t y=>if t.bC path=off then (match pI t y path with
   |some ⟨t2,z⟩=>some ([],.ip t2 z,[])
   |none=>none) else none
  | .pa id t m=>if (off / t.sz) * t.sz=off∧off / t.sz<m then some ([],.ep id t (off / t.sz) [],[]) else none
  | .lg t xs=>if (off / t.sz) * t.sz=off then some ([ar.Lx (off / t.sz) (ar.len xs)],.ip t (ar.get t.zero xs (off / t.sz)),[]) else none
  | .sp id o l=>some ([],.sp id (o+off) l,[])
  |_=>none
def MR (ar:Ar) (agg:Bool) (off:Nat) (k:Nat) (x:O) (env:List (Nat×V)) (bl:ai) (aC:Nat):Out:=match x.ev env with
  | .agg cs=>match cut off k cs with
   |some vs=>match cm agg vs with
    |some v=>some ([],v,[])
    |none=>none
   |none=>none
  |_=>none
def WU (ar:Ar) (eF:Nat) (x:O) (i:O) (env:List (Nat×V)) (bl:ai) (aC:Nat):Out :=
  match i.ev env with
  | .int _ n=>match x.ev env with
   | .sl id t lo m=>if t.sz=eF then some ([ar.fu n (Int.ofNat m)],.ep id t (ar.Fs lo (ar.sD n)) [],[]) else none
   | .eL t xs=>if t.sz=eF then some ([ar.fu n (Int.ofNat (ar.len xs))],.ip t (ar.get t.zero xs (ar.sD n)),[]) else none
   |_=>none
  |_=>none
def Ro (ar:Ar) (len:Nat) (eF:Nat) (x:O) (i:O) (env:List (Nat×V)) (bl:ai) (aC:Nat):Out :=
  match x.ev env with
  | .pa id t m=>match i.ev env with
   | .int _ j=>if t.sz=eF∧m=len then some ([ar.fu j (Int.ofNat len)],.ep id t (ar.sD j) [],[]) else none
   |_=>none
  | .lg t xs=>match i.ev env with
   | .int _ j=>if t.sz=eF then some ([ar.fu j (Int.ofNat len),ar.fu j (Int.ofNat (ar.len xs))],.ip t (ar.get t.zero xs (ar.sD j)),[]) else none
   |_=>none
  | .ptr id o=>match i.ev env with
   | .int _ j=>some ([ar.fu j (Int.ofNat len)],.sp id o [(eF,len,j)],[])
   |_=>none
  | .sp id o l=>match i.ev env with
   | .int _ j=>some ([ar.fu j (Int.ofNat len)],.sp id o ((eF,len,j)::l),[])
   |_=>none
  | .ff cs=>match i.ev env with
   | .int _ (.ofNat n)=>if n<len then (if n * eF≤cs.length then some ([],.ff (cs.drop (n * eF)),[]) else none) else none
   |_=>none
  |_=>none
def WV (ar:Ar) (k:Nat) (x:O) (env:List (Nat×V)) (bl:ai) (aC:Nat):Out:=match x.ev env with
  | .cK vs=>match vs[k]? with
   |some v=>some ([],v,[])
   |none=>none
  |_=>none
def WW (ar:Ar) (x:O) (env:List (Nat×V)) (bl:ai) (aC:Nat):Out:=match x.ev env with
  | .sl _ _ _ n=>some ([],.int .i64 (Int.ofNat n),[])
  | .eL _ xs=>some ([],.int .i64 (Int.ofNat (ar.len xs)),[])
  | .bW=>some ([],.int .i64 0,[])
  |_=>none
def Rp (ar:Ar) (x:O) (env:List (Nat×V)) (bl:ai) (aC:Nat):Out:=match x.ev env with
  | .str s=>some ([],.int .i64 (ar.JL s),[])
  |_=>none
def Rq (ar:Ar) (n:Nat) (env:List (Nat×V)) (bl:ai) (aC:Nat):Out:=some ([],.int .i64 (Int.ofNat n),[])
def J5 (ar:Ar) (eF:Nat) (x:O) (y:O) (env:List (Nat×V)) (bl:ai) (aC:Nat):Out :=
  match x.ev env with
  | .bW=>match Fv (y.ev env) with
   |some t=>if t.sz=eF then
     (match elems ar bl t (y.ev env) with
     |some ys=>match ar.len ys with
      |m=>some ([ar.Lx m cu],.sl aC t 0 m,[(aC,some (.arr t ys false))])
     |none=>none) else none
   |none=>none
  | .sl id t lo n=>if t.sz=eF then
   (match aq id bl with
   |some (.arr t' xs false)=>if t'=t then
    (match jY t' t xs with
    |some xs'=>match elems ar bl t (y.ev env) with
     |some ys=>match ar.Fs n (ar.len ys) with
      |m=>some ([ar.Lx m cu],.sl aC t 0 m,[(id,none),(aC,some (.arr t (ar.app (ar.sub' xs' lo n) ys) false))])
     |none=>none
    |none=>none) else none
   |_=>none) else none
  |_=>none
def FY (ar:Ar) (t:Ty) (n:O) (env:List (Nat×V)) (bl:ai) (aC:Nat):Out:=match n.ev env with
  | .int _ z=>match ar.sD z with
   |m=>some ([ar.fu z (Int.ofNat cu)],.sl aC t 0 m,[(aC,some (.arr t (ar.rep m t.zero) false))])
  |_=>none
def Rr (ar:Ar) (f:Nat) (a:List O) (b:List O) (env:List (Nat×V)) (bl:ai) (aC:Nat):Out:=some ([],.fn f (a.map (·.ev env)) (b.map (·.ev env)),[])
def MS (ar:Ar) (eF:Nat) (x:O) (lo:Option O) (hi:Option O) (mx:Option O) (env:List (Nat×V)) (bl:ai) (aC:Nat):Out :=
  match mx with
  |some m=>match hi with
   |some h=>match qe (m.ev env),qe (h.ev env),cz env 0 lo with
    |some a,some b,some c=>match x.ev env with
     | .sl _ _ _ _=>some ([ar.eq a 0,ar.eq b 0,ar.eq c 0],.bW,[])
     | .eL _ _=>some ([ar.eq a 0,ar.eq b 0,ar.eq c 0],.bW,[])
     | .bW=>some ([ar.eq a 0,ar.eq b 0,ar.eq c 0],.bW,[])
     |_=>none
    |_,_,_=>none
   |none=>none
  |none =>
   match x.ev env with
   | .sl id t l n=>if t.sz=eF then
    (match cz env 0 lo,cz env (Int.ofNat n) hi with
    |some a,some b=>some ([ar.le 0 a,ar.le a b,ar.le b (Int.ofNat n)],.sl id t (ar.Fs l (ar.sD a)) (ar.LQ (ar.sD b) (ar.sD a)),[])
    |_,_=>none) else none
   | .eL t xs=>if t.sz=eF then
    (match cz env 0 lo,cz env (Int.ofNat (ar.len xs)) hi with
    |some a,some b=>some ([ar.le 0 a,ar.le a b,ar.le b (Int.ofNat (ar.len xs))],.eL t (ar.sub' xs (ar.sD a) (ar.LQ (ar.sD b) (ar.sD a))),[])
    |_,_=>none) else none
   | .bW=>(match cz env 0 lo,cz env 0 hi with
    |some a,some b=>some ([ar.eq a 0,ar.eq b 0],.bW,[])
    |_,_=>none)
   |_=>none
def J6 (ar:Ar) (mx:Bool) (x:O) (ys:List O) (env:List (Nat×V)) (bl:ai) (aC:Nat):Out:=match x.ev env with
  | .int k a=>match iN ar mx k a (ys.map (·.ev env)) with
   |some z=>some ([],.int k z,[])
   |none=>none
  |_=>none
def UQ (ar:Ar) (i:I) (env:List (Nat×V)) (bl:ai) (aC:Nat):Out:=match i with
 | .mv x=>abj ar x env bl aC
 | .pick c a b=>Rk ar c a b env bl aC
 | .alloc z=>MO ar z env bl aC
 | .box x=>WM ar x env bl aC
 | .build z parts=>MP ar z parts env bl aC
 | .dU t xs=>J4 ar t xs env bl aC
 | .load agg k x=>Rl ar agg k x env bl aC
 | .store k a x=>MQ ar k a x env bl aC
 | .bin op x y=>WN ar op x y env bl aC
 | .QD neg x y=>WO ar neg x y env bl aC
 | .eqs neg ks x y=>WQ ar neg ks x y env bl aC
 | .neg x=>WR ar x env bl aC
 | .not x=>WS ar x env bl aC
 | .conv k x=>Rm ar k x env bl aC
 | .mL off path x=>WT ar off path x env bl aC
 | .field agg off k x=>MR ar agg off k x env bl aC
 | .idx eF x i=>WU ar eF x i env bl aC
 | .yO len eF x i=>Ro ar len eF x i env bl aC
 | .ext k x=>WV ar k x env bl aC
 | .len x=>WW ar x env bl aC
 | .lens x=>Rp ar x env bl aC
 | .yP n=>Rq ar n env bl aC
 | .append eF x y=>J5 ar eF x y env bl aC
 | .iM t n=>FY ar t n env bl aC
 | .AS f a b=>Rr ar f a b env bl aC
 | .slice eF x lo hi mx=>MS ar eF x lo hi mx env bl aC
 | .lS mx x ys=>J6 ar mx x ys env bl aC
 | .ex e xs=>iU ar e (xs.map (·.ev env)) bl aC
theorem MT {ar:Ar} {i:I} {env:List (Nat×V)} {bl:ai} {aC:Nat}:UQ ar i env bl aC=bX ar i env bl aC:=by cases i<;>rfl
structure Rn where
 call:Nat→List V→aF→Option (V×aF)
 round:Nat→List V→aF→Option (V×aF)
 gL:Nat→List V→Option V
 loop:Nat→Option Nat→C→St→Option (Ex×St)
section
variable {P:Program} {N:Nat} {Y:Ctx} {ι ι':aj} {μ μ':Mu} {H:aF} {w w':World} {out:Option Nat} {base:Nat}
structure RnOk (P:Program) (rn:Rn):Prop where
 call:∀{f vs H v H'},rn.call f vs H=some (v,H')→gN P f vs H fun v2 H2=>v2=v∧H2=H'
 round:∀{id vs H v H'},rn.round id vs H=some (v,H')→around P id vs H fun v2 H2=>v2=v∧H2=H'
 gL:∀{f vs v},rn.gL f vs=some v→gL P f vs v
 loop:∀{N out base c S e S' K},rn.loop N out c S=some (e,S')→K e S'→∃n,unr (fI P N out base) c n S K
 mixed:P.follows .mixedOrders=true
theorem Bu {ar : Ar} {d : Option Nat} {i : I} {S : St} {K : St → Prop} {ob : List Bool} {v : V} {u : eC} (ag : bX ar i S.env S.H.bl S.H.next = some (ob, v, u)) (cV : uB ob)
  (hk:K ⟨put d v S.env,⟨LC i.lays S.H.next,bw u S.H.bl⟩,S.ms⟩):wpOp ar d i S K:=by
 refine .inl ?_
 unfold qL
 rw [ag]
 cases ob with
 |nil=>exact hk
 |cons b r=>exact ⟨cV,hk⟩
theorem WX {ar : Ar} {d : Option Nat} {i : I} {S : St} {K : St → Prop} {ob : List Bool} {v : V} {u : eC} (ag : yQ ar i S.env S.H.bl S.H.next = some (ob, v, u)) (cV : uB ob)
  (hk:K ⟨put d v S.env,⟨LC i.lays S.H.next,bw u S.H.bl⟩,S.ms⟩):wpOp ar d i S K:=by
 refine .inr (.inl ?_)
 unfold qL
 rw [ag]
 cases ob with
 |nil=>exact hk
 |cons b r=>exact ⟨cV,hk⟩
theorem WY {ar : Ar} {d : Option Nat} {i : I} {S : St} {K : St → Prop} {ob : List Bool} {v : V} {u u' : eC} {ids : List Nat} (hu : LB ar ids S.H.bl = some u') (ag : bX ar i S.env (bw u' S.H.bl) S.H.next = some (ob, v, u)) (cV : uB ob)
  (hk:K ⟨put d v S.env,⟨LC i.lays S.H.next,bw u (bw u' S.H.bl)⟩,S.ms⟩):wpOp ar d i S K:=by
 refine .inr (.inr ⟨ids,u',hu,?_⟩)
 unfold qL
 rw [ag]
 cases ob with
 |nil=>exact hk
 |cons b r=>exact ⟨cV,hk⟩
end
end Go.AM
end
section
namespace Go.AM
open Go.RowKit
def kr (P : Program) (g : TypeId → Ty → Bool) : Nat → List Field → Ty → Bool
 |_,[],.unit=>true
 |off,[f],ty=>Nat.beq f.offset off&&Nat.beq (P.cellsOf f.type) ty.sz&&g f.type ty
 |off,f::f2::r,.prod a b=>Nat.beq f.offset off&&Nat.beq (P.cellsOf f.type) a.sz&&g f.type a&&kr P g (off+a.sz) (f2::r) b
 |_,_,_=>false
def zV (P:Program) (g:TypeId→Ty→Bool) (fs:List Field) (ty:Ty):Bool:=match fs with
 |[f]=>match ty with
  | .prod a .unit=>kr P g 0 [f] a
  |_=>false
 |fs=>kr P g 0 fs ty
def zW (P : Program) (g : TypeId → Ty → Bool) : Nat → TypeId → Ty → Bool
 |0,_,.unit=>true
 |1,e,ty=>Nat.beq (P.cellsOf e) ty.sz&&g e ty
 |n+2,e,.prod a b=>Nat.beq (P.cellsOf e) a.sz&&g e a&&zW P g (n+1) e b
 |_,_,_=>false
def fL (P : Program) : Nat → TypeId → Ty → Bool
 |0,_,_=>false
 |n+1,t,ty=>match P.underlying t with
  |some .bool=>match ty with | .bool=>true|_=>false
  |some (.int k)=>match ty with | .int k'=>decide (k=k')|_=>false
  |some .string=>match ty with | .str=>true|_=>false
  |some (.slice e)=>match ty with | .list te=>Nat.beq (P.cellsOf e) te.sz&&Nat.blt 0 te.sz&&fL P n e te|_=>false
  |some (.struct fs)=>Nat.beq (P.cellsOf t) ty.sz&&zV P (fL P n) fs.toList ty
  |some (.array m e)=>Nat.beq (P.cellsOf t) ty.sz&&zW P (fL P n) m e ty
  |_=>false
def Wf : (t : Ty) → t.den → Prop
 | .unit,_=>True
 | .bool,_=>True
 | .str,s=>s.size≤maxLen
 | .int k,n=>k.min≤n∧n≤k.max
 | .list t,xs=>xs.length≤maxLen∧∀x∈xs,Wf t x
 | .prod a b,x=>Wf a x.1∧Wf b x.2
 | .cq _ _ a,x=>Wf a x
def jE (w:World):aj:=fun b o=>w.cell? ⟨b,o,none⟩
section
variable {H:Type} {enc:TypeId×Value→H} {P:Program} {w:World} {sp:Nat→Bool} {held:Bool}
theorem Bv {b o:Nat} {a:Addr} {n:Nat} {cs:List Value} (ha:a=⟨b,o,none⟩∨0<n) (hb:a.block=b) (ho:a.off=o) (h:w.cells? 0 a n=some cs):cs.length=n∧Reads (jE w) b o cs∧(0<n→a.spot=none):=by
 unfold World.cells? at h
 rw [if_pos (Nat.zero_le _)] at h
 have key:∀(m:Nat) (xs:List Nat) (cs:List Value),xs.mapM (fun i=>w.cell? (a.add i))=some cs→cs.length=xs.length∧∀(j i:Nat),xs[j]?=some i→w.cell? (a.add i)=cs[j]?:=by
  intro m xs
  induction xs with
  |nil=>intro cs h;simp at h;subst h;exact ⟨rfl,fun j i hj=>by simp at hj⟩
  |cons x xs ih =>
   intro cs h
   rw [List.mapM_cons] at h
   cases hx:w.cell? (a.add x) with
   |none=>simp [hx] at h
   |some v =>
    cases hr:xs.mapM (fun i=>w.cell? (a.add i)) with
    |none=>simp [hx,hr] at h
    |some vs =>
     simp [hx,hr] at h
     subst h
     obtain ⟨h1,h2⟩:=ih vs hr
     refine ⟨by simp [h1],fun j i hj=>?_⟩
     cases j with
     |zero=>simp at hj;subst hj;simpa using hx
     |succ j=>simpa using h2 j i (by simpa using hj)
 obtain ⟨h1,h2⟩:=key 0 _ _ h
 have hlen:cs.length=n:=by simpa using h1
 have MU:0<n→a.spot=none:=fun hn=>by
  have:=h2 0 0 (by simp [hn])
  simp only [Addr.add,if_true] at this
  have hc:∃v,w.cell? a=some v:=⟨cs[0]'(by omega),by rw [this];simp⟩
  obtain ⟨v,hv⟩:=hc
  unfold World.cell? at hv
  cases hs:a.spot with
  |none=>rfl
  |some s=>rw [hs] at hv;split at hv<;>simp at hv
 refine ⟨hlen,fun j v hv=>?_,MU⟩
 have hj:j<cs.length:=(List.getElem?_eq_some_iff.1 hv).1
 have:=h2 j j (by rw [List.getElem?_range (by omega)])
 rw [hv] at this
 unfold jE
 have e:a.add j=⟨b,o+j,none⟩:=by
  have hs:=MU (by omega)
  unfold Addr.add
  subst hb;subst ho
  split
  ·rename_i h0;subst h0;cases a;simp_all
  ·rfl
 rw [e] at this
 exact this
theorem H6 {α : Type} {D : α → List Value → Prop} : ∀ (n : Nat) (f : Nat → α) (g : Nat → List Value), (∀ i, i < n → D (f i) (g i)) → bp D ((List.range n).map f) ((List.range n).flatMap g)
 |0,_,_,_=>rfl
 |n+1,f,g,h=>by
  rw [List.range_succ,List.map_append,List.flatMap_append]
  exact (H6 n f g fun i hi=>h i (by omega)).append ⟨g n,[],by simp,h n (by omega),rfl⟩
theorem Rs {k:IntKind} {n:Int} (h:(Lit.int k n).wf=true):k.min≤n∧n≤k.max:=by
 simpa [Lit.wf] using h
theorem qm {n : Nat} (ih : ∀ {t : TypeId} {ty : Ty}, fL P n t ty = true → ∀ {fuel : Nat} {cs : List Value} {x : DataW H × List MemPlace}, DataW.trod enc P w 0 sp held fuel t cs = some x → ∃ y : ty.den, af (jE w) ty y cs ∧ Wf ty y)
  {fuel:Nat} {cs:List Value}:∀{fs:List Field} {off:Nat} {ty:Ty},kr P (fL P n) off fs ty=true→cs.length=off+ty.sz →
   (∀f∈fs,∃x,DataW.trod enc P w 0 sp held fuel f.type ((cs.drop f.offset).take (P.cellsOf f.type))=some x)→∃y:ty.den,af (jE w) ty y (cs.drop off)∧Wf ty y
 |[],off,ty,h,hl,_=>by
  cases ty<;>simp [kr] at h
  exact ⟨(),by simp [af];simp [Ty.sz] at hl;omega,trivial⟩
 |[f],off,ty,h,hl,hf=>by
  have h':(Nat.beq f.offset off&&Nat.beq (P.cellsOf f.type) ty.sz&&fL P n f.type ty)=true:=by
   cases ty<;>simpa [kr] using h
  simp only [Bool.and_eq_true] at h'
  obtain ⟨⟨h1,h2⟩,h3⟩:=h'
  have e1:=Nat.eq_of_beq_eq_true h1
  have e2:=Nat.eq_of_beq_eq_true h2
  obtain ⟨x,hx⟩:=hf f (List.mem_singleton_self _)
  rw [e1,e2,List.take_of_length_le (by simp;omega)] at hx
  exact ih h3 hx
 |f::f2::r,off,ty,h,hl,hf=>by
  cases ty<;>simp only [kr,Bool.false_eq_true] at h
  rename_i a b
  simp only [Bool.and_eq_true] at h
  obtain ⟨⟨⟨h1,h2⟩,h3⟩,h4⟩:=h
  have e1:=Nat.eq_of_beq_eq_true h1
  have e2:=Nat.eq_of_beq_eq_true h2
  obtain ⟨x,hx⟩:=hf f (List.mem_cons_self ..)
  rw [e1,e2] at hx
  obtain ⟨y,hy,wy⟩:=ih h3 hx
  simp only [Ty.sz] at hl
  obtain ⟨z,hz,wz⟩:=qm ih h4 (by omega) (fun g hg=>hf g (List.mem_cons_of_mem _ hg))
  refine ⟨(y,z),⟨_,_,?_,hy,hz⟩,wy,wz⟩
  rw [←List.drop_drop,List.take_append_drop]
theorem H7 {n : Nat} (ih : ∀ {t : TypeId} {ty : Ty}, fL P n t ty = true → ∀ {fuel : Nat} {cs : List Value} {x : DataW H × List MemPlace}, DataW.trod enc P w 0 sp held fuel t cs = some x → ∃ y : ty.den, af (jE w) ty y cs ∧ Wf ty y)
  {fuel:Nat} {cs:List Value} {e:TypeId}:∀{m i:Nat} {ty:Ty},zW P (fL P n) m e ty=true→cs.length=i * P.cellsOf e+ty.sz →
   (∀j,i≤j→j<i+m→∃x,DataW.trod enc P w 0 sp held fuel e ((cs.drop (j * P.cellsOf e)).take (P.cellsOf e))=some x)→∃y:ty.den,af (jE w) ty y (cs.drop (i * P.cellsOf e))∧Wf ty y
 |0,i,ty,h,hl,_=>by
  cases ty<;>simp [zW] at h
  exact ⟨(),by simp [af];simp [Ty.sz] at hl;omega,trivial⟩
 |1,i,ty,h,hl,hf=>by
  have h':(Nat.beq (P.cellsOf e) ty.sz&&fL P n e ty)=true:=by
   cases ty<;>simpa [zW] using h
  simp only [Bool.and_eq_true] at h'
  have e2:=Nat.eq_of_beq_eq_true h'.1
  obtain ⟨x,hx⟩:=hf i (Nat.le_refl _) (by omega)
  rw [List.take_of_length_le (by rw [List.length_drop];omega)] at hx
  exact ih h'.2 hx
 |m+2,i,ty,h,hl,hf=>by
  cases ty<;>simp only [zW,Bool.false_eq_true] at h
  rename_i a b
  simp only [Bool.and_eq_true] at h
  obtain ⟨⟨h1,h3⟩,h4⟩:=h
  have e2:=Nat.eq_of_beq_eq_true h1
  obtain ⟨x,hx⟩:=hf i (Nat.le_refl _) (by omega)
  obtain ⟨y,hy,wy⟩:=ih h3 hx
  simp only [Ty.sz] at hl
  obtain ⟨z,hz,wz⟩:=H7 ih h4 (i:=i+1) (by rw [Nat.add_mul];omega) (fun j h1 h2=>hf j (by omega) (by omega))
  refine ⟨(y,z),⟨_,_,?_,hy,hz⟩,wy,wz⟩
  rw [show (i+1) * P.cellsOf e=i * P.cellsOf e+P.cellsOf e by rw [Nat.add_mul];omega,←List.drop_drop,List.take_append_drop]
theorem MV {n:Nat}:∀{t:TypeId} {ty:Ty},fL P n t ty=true→∀{fuel:Nat} {cs:List Value} {x:DataW H×List MemPlace},DataW.trod enc P w 0 sp held fuel t cs=some x→∃y:ty.den,af (jE w) ty y cs∧Wf ty y:=by
 induction n with
 |zero=>intro t ty h;cases h
 |succ n ih =>
  intro t ty h fuel cs x hx
  have hx0:=hx
  unfold fL at h
  split at h
  ·rename_i hu
   cases ty<;>simp at h
   cases fuel with
   |zero=>simp [DataW.trod] at hx
   |succ fuel =>
    rcases cs with _|⟨c,_|⟨c2,r⟩⟩
    ·simp [DataW.trod,hu] at hx
    ·cases c <;> simp [DataW.trod, hu] at hx
     exact ⟨_,rfl,trivial⟩
    ·simp [DataW.trod,hu] at hx
  ·rename_i k hu
   cases ty<;>simp at h
   subst h
   cases fuel with
   |zero=>simp [DataW.trod] at hx
   |succ fuel =>
    rcases cs with _|⟨c,_|⟨c2,r⟩⟩
    ·simp [DataW.trod,hu] at hx
    ·cases c <;> simp [DataW.trod, hu] at hx
     obtain ⟨⟨rfl,h2⟩,_⟩:=hx
     exact ⟨_,rfl,Rs h2⟩
    ·simp [DataW.trod,hu] at hx
  ·rename_i hu
   cases ty<;>simp at h
   cases fuel with
   |zero=>simp [DataW.trod] at hx
   |succ fuel =>
    rcases cs with _|⟨c,_|⟨c2,r⟩⟩
    ·simp [DataW.trod,hu] at hx
    ·cases c <;> simp [DataW.trod, hu] at hx
     exact ⟨_,rfl,hx.1⟩
    ·simp [DataW.trod,hu] at hx
  ·rename_i e hu
   cases ty<;>simp only [Bool.false_eq_true] at h
   rename_i te
   simp only [Bool.and_eq_true] at h
   obtain ⟨⟨h1,h2⟩,h3⟩:=h
   have e1:=Nat.eq_of_beq_eq_true h1
   have hpos:0<te.sz:=by simpa using h2
   rcases DataW.trod_slice hu hx with ⟨rfl,rfl⟩|⟨a,len,cap,elems,rest,m,_,rfl,rfl,_,hlc,hm,hel,hE,_,_⟩
   ·exact ⟨[],⟨none,0,by simp,by simp,.inl rfl⟩,by simp,by simp⟩
   ·have each:∀i,i<len→∃(y:te.den) (us:List Value),af (jE w) te y us∧Wf te y∧us.length=te.sz∧Reads (jE w) a.block (a.off+i * te.sz) us∧(i=0→a.spot=none):=fun i hi=>by
     have:=hE i hi
     have hlt:i<elems.length:=by omega
     rw [List.getElem?_eq_getElem hlt,e1] at this
     cases hc:w.cells? 0 (a.add (i * te.sz)) te.sz with
     |none=>rw [hc] at this;simp at this
     |some us =>
      rw [hc,Option.bind_some] at this
      obtain ⟨y,hy,wy⟩:=ih h3 this
      have hb:(a.add (i * te.sz)).block=a.block:=by unfold Addr.add;split<;>rfl
      have ho:(a.add (i * te.sz)).off=a.off+i * te.sz:=by unfold Addr.add;split<;>simp_all
      obtain ⟨q1,q2,q3⟩:=Bv (.inr hpos) hb ho hc
      refine ⟨y,us,hy,wy,q1,q2,fun h0=>?_⟩
      subst h0
      have:=q3 hpos
      simpa [Addr.add] using this
    by_cases hl0:len=0
    ·subst hl0
     exact ⟨[],⟨some a,cap,rfl,by simp,.inl rfl⟩,by simp,by simp⟩
    ·obtain ⟨f,hf⟩:∃f:Nat→te.den×List Value,∀i,i<len→af (jE w) te (f i).1 (f i).2∧Wf te (f i).1∧(f i).2.length=te.sz∧Reads (jE w) a.block (a.off+i * te.sz) (f i).2∧(i=0→a.spot=none) :=
      ⟨fun i=>if h:i<len then ((each i h).choose,(each i h).choose_spec.choose) else (te.zero,[]),fun i hi=>by simp only [hi,dif_pos];exact (each i hi).choose_spec.choose_spec⟩
     have MU:=(hf 0 (by omega)).2.2.2.2 rfl
     have hrd:∀n,n≤len→((List.range n).flatMap fun i=>(f i).2).length=n * te.sz∧Reads (jE w) a.block a.off ((List.range n).flatMap fun i=>(f i).2):=fun n=>by
      induction n with
      |zero=>intro _;exact ⟨by simp,fun j v hv=>by simp at hv⟩
      |succ n ih2 =>
       intro hn
       obtain ⟨l1,l2⟩:=ih2 (by omega)
       obtain ⟨_,_,l3,l4,_⟩:=hf n (by omega)
       rw [List.range_succ,List.flatMap_append]
       simp only [List.flatMap_cons,List.flatMap_nil,List.append_nil]
       refine ⟨by rw [List.length_append,l1,l3,Nat.add_mul];simp,fun j v hv=>?_⟩
       rw [List.getElem?_append] at hv
       split at hv
       ·exact l2 j v hv
       ·rename_i hj
        have:=l4 _ _ hv
        rw [l1] at this hj
        rw [show a.off+n * te.sz+(j - n * te.sz)=a.off+j by omega] at this
        exact this
     refine ⟨(List.range len).map fun i=>(f i).1,⟨some a,cap,by simp,by simpa using hlc,.inr ⟨a.block,a.off,(List.range len).flatMap fun i=>(f i).2,by cases a;simp_all,(hrd len (Nat.le_refl _)).2,H6 _ _ _ fun i hi=>(hf i hi).1⟩⟩,by simp;omega,fun x hx=>?_⟩
     obtain ⟨i,hi,rfl⟩:=List.mem_map.1 hx
     exact (hf i (List.mem_range.1 hi)).2.1
  ·rename_i fs hu
   simp only [Bool.and_eq_true] at h
   obtain ⟨h1,h2⟩:=h
   obtain ⟨xs,m,_,_,hl,hxl,hf⟩:=DataW.trod_struct hu hx
   have hfm:∀f∈fs.toList,∃y,DataW.trod enc P w 0 sp held m f.type ((cs.drop f.offset).take (P.cellsOf f.type))=some y:=fun f hfm=>by
    obtain ⟨i,hi⟩:=List.getElem?_of_mem hfm
    have hi':fs[i]?=some f:=by simpa using hi
    have hlt:i<xs.length:=by rw [hxl];exact (Array.getElem?_eq_some_iff.1 hi').1
    exact ⟨xs[i],by rw [hf i f hi'];simp⟩
   have hlen:cs.length=ty.sz:=by rw [hl,Nat.eq_of_beq_eq_true h1]
   unfold zV at h2
   split at h2
   ·rename_i f hfs
    split at h2<;>try (cases h2;done)
    rename_i a
    have:=qm ih (fuel:=m) (cs:=cs) h2 (by simpa [Ty.sz] using hlen) (fun f' hf'=>by rw [←hfs] at hf';exact hfm f' hf')
    obtain ⟨y,hy,wy⟩:=this
    exact ⟨(y,()),⟨cs,[],by simp,by simpa using hy,rfl⟩,wy,trivial⟩
   ·have := qm ih (fuel := m) (cs := cs) h2 (by simpa using hlen) hfm
    simpa using this
  ·rename_i m e hu
   simp only [Bool.and_eq_true] at h
   obtain ⟨h1,h2⟩:=h
   obtain ⟨xs,k,_,_,hl,hxl,hf⟩:=DataW.trod_array hu hx
   have:=H7 ih (fuel:=k) (cs:=cs) (i:=0) h2 (by rw [hl,Nat.eq_of_beq_eq_true h1];simp) (fun j _ hj=>⟨xs[j]'(by omega),by rw [hf j (by omega)];simp⟩)
   simpa using this
  ·cases h
end
end Go.AM
end
section
namespace Go.AM
inductive EV (π : List Nat) : V → V → Prop
 |any (v):EV π .any v
 |tf (b):EV π (.tf b) (.tf b)
 |bool (b):EV π (.bool b) (.bool b)
 |tfb (b):EV π (.bool b) (.tf b)
 |int (k n):EV π (.int k n) (.int k n)
 |str (s):EV π (.str s) (.str s)
 |eB:EV π .eB .eB
 |cF:EV π .cF .cF
 |eX:EV π .eX .eX
 |eL (t xs):EV π (.eL t xs) (.eL t xs)
 |WZ (t):EV π (.eL t []) .bW
 |bW:EV π .bW .bW
 |sl (id i t lo n) (h:π[id]?=some i):EV π (.sl id t lo n) (.sl i t lo n)
 |W0 (id t lo):EV π (.sl id t lo 0) .bW
 |ptr (id i o) (h:π[id]?=some i):EV π (.ptr id o) (.ptr i o)
 |ep (id i t j p) (h:π[id]?=some i):EV π (.ep id t j p) (.ep i t j p)
 |yl (id i) (h:π[id]?=some i):EV π (.yl id) (.yl i)
 |ip (t x):EV π (.ip t x) (.ip t x)
 |ff (cs ds) (h:cs.length=ds.length) (h2:∀(i:Nat) v u,cs[i]?=some v→ds[i]?=some u→EV π v u):EV π (.ff cs) (.ff ds)
 | fn (f as as' cs cs') (h : as.length = as'.length) (h2 : ∀ (i : Nat) v u, as[i]? = some v → as'[i]? = some u → EV π v u)
   (h3:cs.length=cs'.length) (h4:∀(i:Nat) v u,cs[i]?=some v→cs'[i]?=some u→EV π v u):EV π (.fn f as cs) (.fn f as' cs')
 |agg (cs ds) (h:cs.length=ds.length) (h2:∀(i:Nat) v u,cs[i]?=some v→ds[i]?=some u→EV π v u):EV π (.agg cs) (.agg ds)
 |cK (cs ds) (h:cs.length=ds.length) (h2:∀(i:Nat) v u,cs[i]?=some v→ds[i]?=some u→EV π v u):EV π (.cK cs) (.cK ds)
 |cq (t v u) (h:EV π v u):EV π (.cq t v) (.cq t u)
 |cb (c):EV π (.cb c) (.cb c)
 |mp (id i) (h:π[id]?=some i):EV π (.mp id) (.mp i)
 |cC:EV π .cC .cC
 |pa (id i t n) (h:π[id]?=some i):EV π (.pa id t n) (.pa i t n)
 |lg (t xs):EV π (.lg t xs) (.lg t xs)
def CL (π:List Nat) (cs ds:List V):Prop:=cs.length=ds.length∧∀(i:Nat) v u,cs[i]?=some v→ds[i]?=some u→EV π v u
theorem CL.nil {π:List Nat}:CL π [] []:=⟨rfl,fun i v u h=>by simp at h⟩
theorem CL.cons {π:List Nat} {v u:V} {cs ds:List V} (h:EV π v u) (hl:CL π cs ds):CL π (v::cs) (u::ds) :=
 ⟨by simp [hl.1],fun i w y hw hy=>by
  cases i with
  |zero=>simp at hw hy;subst hw;subst hy;exact h
  |succ i=>exact hl.2 i w y (by simpa using hw) (by simpa using hy)⟩
def EE (π:List Nat) (env' env:List (Nat×V)):Prop:=∀p∈env',EV π p.2 (get p.1 env)
def EBk (π:List Nat) (nx:Nat) (bl:ai) (id:Nat) (B:k8):Prop:=∃i,π[id]?=some i∧match B with
 | .cells cs fz=>∃ds,aq i bl=some (.cells ds fz)∧CL π cs ds
 | .arr t xs fz=>aq i bl=some (.arr t xs fz)∨(xs=[]∧nx≤i)
 | .loop st j d env ps as bd N=>∃d0 jL,aq i bl=some (.loop st j d0 jL ps as bd N)∧π[d]?=some d0∧EE π env jL
 | .ig=>aq i bl=some .ig
 | .map kt kg vt vg es=>aq i bl=some (.map kt kg vt vg es)
 | .mJ t xs k p v=>∃u,aq i bl=some (.mJ t xs k p u)∧EV π v u
structure jm (base:Nat) (π:List Nat) (S S':St):Prop where
 pre:π.take base=List.range base
 nx:S'.H.next=π.length
 ms:S'.ms.map (fun i=>π[i]?)=S.ms.map some
 env:EE π S'.env S.env
 bl:∀p∈S'.H.bl,EBk π S.H.next S.H.bl p.1 p.2
 inj:∀p∈S'.H.bl,∀q∈S'.H.bl,π[p.1]?=π[q.1]?→p.1=q.1
section
variable {P:Program} {N:Nat} {Y:Ctx} {ι ι':aj} {μ μ':Mu} {H:aF} {w w':World} {out:Option Nat} {base:Nat} {π:List Nat}
theorem aG.eU {cs ds:List V} {xs:List Value} (h:cs.length=ds.length) (ih:∀(i:Nat) v u,cs[i]?=some v→ds[i]?=some u→∀{x:Value},Rel ι μ u x→Rel ι (μ.eU π) v x) (hr:aG ι μ ds xs):aG ι (μ.eU π) cs xs :=
 ⟨h.trans hr.1,fun i v x hv hx=>by
  have hi:i<ds.length:=by have:=(List.getElem?_eq_some_iff.1 hv).1;omega
  exact ih i v ds[i] hv (by simp [hi]) (hr.2 i ds[i] x (by simp [hi]) hx)⟩
theorem EV.rel {v' v:V} (h:EV π v' v):∀{x:Value},Rel ι μ v x→Rel ι (μ.eU π) v' x:=by
 induction h with
 |any v=>intro x _;exact .any _
 |tf b=>intro x hr;cases hr;exact .tf _
 |bool b=>intro x hr;cases hr;exact .bool _
 |tfb b=>intro x hr;cases hr;exact .bool _
 |int k n=>intro x hr;cases hr;exact .int _ _
 |str s=>intro x hr;cases hr;exact .str _
 |eB=>intro x hr;cases hr;exact .eB
 |cF=>intro x hr;cases hr;exact .cF
 |eX=>intro x hr;cases hr;exact .eX
 |eL t xs=>intro x hr;cases hr with|eL _ _ _ hd=>exact .eL t xs _ hd
 |WZ t=>intro x hr;cases hr;exact .eL _ _ _ ⟨_,0,rfl,Nat.le_refl _,.inl rfl⟩
 |bW=>intro x hr;cases hr;exact .bW _
 |sl id i t lo n hi =>
  intro x hr
  cases hr with
  |sl _ _ _ _ cap L hL h1 h2 h3=>exact .sl id t lo n cap L (by simp [Mu.eU,hi,hL]) h1 h2 h3
  |cQ=>exact .cQ _ _ _ _
 |W0 id t lo=>intro x hr;cases hr;exact .cQ _ _ _ _
 |ptr id i o hi=>intro x hr;cases hr with|ptr _ _ L hL=>exact .ptr id o L (by simp [Mu.eU,hi,hL])
 |ep id i t j p hi=>intro x hr;cases hr with|ep _ _ _ _ L hL=>exact .ep id t j p L (by simp [Mu.eU,hi,hL])
 |yl id i hi=>intro x hr;cases hr with|yl _ L hL=>exact .yl id L (by simp [Mu.eU,hi,hL])
 |ip t y=>intro x hr;cases hr with|ip _ _ b o us h1 h2=>exact .ip t y b o us h1 h2
 |ff cs ds h h2 ih =>
  intro x hr
  cases hr with
  |ff _ b o gf h1 h3 h4 =>
   have hR:aG ι μ ds ((List.range ds.length).map gf):=⟨by simp,fun i v x hv hx=>by
    have hi:=(List.getElem?_eq_some_iff.1 hv).1
    simp [hi] at hx;subst hx;exact h3 i v hv⟩
   have gI:=aG.eU h ih hR
   exact .ff cs b o gf (fun i hi => h1 i (by omega)) (fun i v hv => gI.2 i v (gf i) hv (by
    have hi:=(List.getElem?_eq_some_iff.1 hv).1
    simp [show i<ds.length by omega])) h4
 |fn f as as' cs cs' h h2 h3 h4 ih1 ih2 =>
  intro x hr
  cases hr with
  |fn _ _ _ xs ys q1 q2 q3 q4 =>
   have r1:=aG.eU h ih1 (xs:=xs.toList) ⟨by simpa using q1,fun i v x hv hx=>q2 i v x hv (by simpa using hx)⟩
   have r2:=aG.eU h3 ih2 (xs:=ys.toList) ⟨by simpa using q3,fun i v x hv hx=>q4 i v x hv (by simpa using hx)⟩
   exact .fn f as cs xs ys (by simpa using r1.1) (fun i v x hv hx=>r1.2 i v x hv (by simpa using hx)) (by simpa using r2.1) (fun i v x hv hx=>r2.2 i v x hv (by simpa using hx))
 |agg cs ds h h2 ih =>
  intro x hr
  cases hr with
  |agg _ xs q1 q2 q3 =>
   have r1:=aG.eU h ih (xs:=xs.toList) ⟨by simpa using q1,fun i v x hv hx=>q2 i v x hv (by simpa using hx)⟩
   exact .agg cs xs (by simpa using r1.1) (fun i v x hv hx=>r1.2 i v x hv (by simpa using hx)) q3
 |cK cs ds h h2 ih =>
  intro x hr
  cases hr with
  |cK _ xs q1 q2 =>
   have r1:=aG.eU h ih (xs:=xs.toList) ⟨by simpa using q1,fun i v x hv hx=>q2 i v x hv (by simpa using hx)⟩
   exact .cK cs xs (by simpa using r1.1) (fun i v x hv hx=>r1.2 i v x hv (by simpa using hx))
 |cq t v u h ih=>intro x hr;cases hr with|cq _ _ x hx=>exact .cq t v x (ih hx)
 |cb c=>intro x hr;cases hr with|cb _ b hc=>exact .cb c b hc
 |mp id i hi=>intro x hr;cases hr with|mp _ L hL=>exact .mp id L (by simp [Mu.eU,hi,hL])
 |cC=>intro x hr;cases hr;exact .cC
 |pa id i t n hi=>intro x hr;cases hr with|pa _ _ _ L hL hm=>exact .pa id t n L (by simp [Mu.eU,hi,hL]) hm
 |lg t xs=>intro x hr;cases hr with|lg _ _ b o us h1 h2=>exact .lg t xs b o us h1 h2
theorem EE.rel {tmps : Array Value} {env : List (Nat × V)} (he : eu ι μ env tmps) : ∀ {env' : List (Nat × V)}, EE π env' env → eu ι (μ.eU π) env' tmps
 |[],_=>fun t=>.any _
 |(t,v)::r,h=>fun i=>by
  rw [bT];split
  ·rename_i e;subst e;exact (h _ (List.mem_cons_self ..)).rel (he _)
  ·exact EE.rel he (fun p hp=>h p (List.mem_cons_of_mem _ hp)) i
theorem dw : ∀ {bl : ai} {id : Nat} {b : k8}, aq id bl = some b → (id, b) ∈ bl
 |[],id,b,h=>by simp [aq] at h
 |(s,c)::r,id,b,h=>by
  rw [bf] at h
  split at h
  ·rename_i e;subst e;cases h;exact List.mem_cons_self ..
  ·exact List.mem_cons_of_mem _ (dw h)
theorem jm.rep {S S':St} (h:jm base π S S') (hbase:Y.base base) {a:Act} (hR:eG P N Y ι μ S a w):eG P N Y ι (μ.eU π) S' a w:=by
 have hI:=hR.inv
 have hle:Y.m0.le (μ.eU π):=fun id L hL=>by
  have hlt:id<base:=by
   rcases Nat.lt_or_ge id base with h|h
   ·exact h
   ·rw [hbase id h] at hL;cases hL
  have:π[id]?=some id:=by
   have e1:(π.take base)[id]?=(List.range base)[id]?:=by rw [h.pre]
   rw [List.getElem?_take,if_pos hlt,List.getElem?_range hlt] at e1
   exact e1
  simp [Mu.eU,this,hI.m0 id L hL]
 refine ⟨h.env.rel hR.env,hR.sz,⟨hI.below,hI.i0,hI.iB,hI.rd,hle,fun id hid=>?_,fun id B hB=>?_,?_,fun id B hB=>?_,hI.gl⟩,?_⟩
 ·have : π[id]? = none := List.getElem?_eq_none (by rw [← h.nx]; exact hid)
  simp [Mu.eU,this]
 ·obtain ⟨i, e1, hb⟩ := h.bl _ (dw hB)
  have fH:(μ.eU π) id=μ i:=by simp only [Mu.eU];rw [e1];rfl
  cases B with
  |cells cs fz =>
   obtain ⟨ds,e2,ag⟩:=hb
   obtain ⟨L,vs,hM,HT⟩:=hI.live i _ e2
   exact ⟨L,vs,⟨by rw [fH];exact hM.mu,hM.old,hM.row,hM.fits,hM.one,hM.CW,hM.pP⟩,aG.eU ag.1 (fun i v u hv hu=>fun {x} hr=>(ag.2 i v u hv hu).rel hr) HT⟩
  |arr t xs fz =>
   rcases hb with e2|⟨rfl,hge⟩
   ·rcases hI.live i _ e2 with ⟨e, hn⟩ | ⟨L, vs, hM, hc, hl⟩
    ·exact .inl ⟨e,by rw [fH];exact hn⟩
    ·exact .inr ⟨L,vs,⟨by rw [fH];exact hM.mu,hM.old,hM.row,hM.fits,hM.one,hM.CW,hM.pP⟩,hc,hl⟩
   ·exact .inl ⟨rfl,by rw [fH];exact hI.nx i hge⟩
  |loop st j d env ps as bd N =>
   obtain ⟨d0,jL,e2,e3,hee⟩:=hb
   obtain ⟨L,r,Ld,q1,q2,q3,q4,q5,q6,q7,q8,q9,q10,q11,q12,q13⟩:=hI.live i _ e2
   exact ⟨L,r,Ld,by rw [fH];exact q1,q2,q3,q4,q5,hee.rel q6,q7,q8,q9,q10,q11,by simp only [Mu.eU];rw [e3];exact q12,q13⟩
  |ig =>
   obtain ⟨L,q1,q2,q3⟩:=hI.live i _ hb
   exact ⟨L,by rw [fH];exact q1,q2,q3⟩
  |map kt kg vt vg es =>
   obtain ⟨L,ms,clock,dB,q1,q2,q3⟩:=hI.live i _ hb
   exact ⟨L,ms,clock,dB,by rw [fH];exact q1,q2,q3⟩
  |mJ t xs k p v =>
   obtain ⟨u,e2,ag⟩:=hb
   obtain ⟨L,us,vs,c,hM,hc,hl,q1,q2,q3,q4⟩:=hI.live i _ e2
   exact ⟨L,us,vs,c,⟨by rw [fH];exact hM.mu,hM.old,hM.row,hM.fits,hM.one,hM.CW,hM.pP⟩,hc,hl,q1,q2,q3,ag.rel q4⟩
 ·intro id id' B B' L L' hb hb' hm hm' e
  obtain ⟨i,e1,hbk⟩:=h.bl _ (dw hb)
  obtain ⟨i',Ff,hbk'⟩:=h.bl _ (dw hb')
  simp only at e1 Ff
  have fH:(μ.eU π) id=μ i:=by simp only [Mu.eU];rw [e1];rfl
  have WI:(μ.eU π) id'=μ i':=by simp only [Mu.eU];rw [Ff];rfl
  rw [fH] at hm;rw [WI] at hm'
  have live:∀{i:Nat} {B:k8} {id:Nat} {L:Loc},EBk π S.H.next S.H.bl id B→π[id]?=some i→μ i=some L→∃C,aq i S.H.bl=some C:=by
   intro i B id L hbk e hm
   obtain ⟨i2,e2,eM⟩:=hbk
   rw [e] at e2;cases e2
   cases B with
   |cells cs fz=>obtain ⟨ds,e2,_⟩:=eM;exact ⟨_,e2⟩
   |arr t xs fz =>
    rcases eM with e2|⟨_,hge⟩
    ·exact ⟨_,e2⟩
    ·rw [hI.nx i hge] at hm;cases hm
   |loop st j d env ps as bd N=>obtain ⟨d0,jL,e2,_⟩:=eM;exact ⟨_,e2⟩
   |ig=>exact ⟨_,eM⟩
   |map kt kg vt vg es=>exact ⟨_,eM⟩
   |mJ t xs k p v=>obtain ⟨u,e2,_⟩:=eM;exact ⟨_,e2⟩
  obtain ⟨C,hC⟩:=live (h.bl _ (dw hb)) e1 hm
  obtain ⟨C',QN⟩:=live (h.bl _ (dw hb')) Ff hm'
  have:=hI.inj i i' C C' L L' hC QN hm hm' e
  subst this
  exact h.inj _ (dw hb) _ (dw hb') (e1.trans Ff.symm)
 ·obtain ⟨i, e1, _⟩ := h.bl _ (dw hB)
  have:=(List.getElem?_eq_some_iff.1 e1).1
  rw [h.nx];exact this
 ·have key:∀{ms ms':List Nat} {ds:List Deferred},ms'.map (fun i=>π[i]?)=ms.map some→jl Y.hid μ ms ds→jl Y.hid (μ.eU π) ms' ds:=by
   intro ms
   induction ms with
   |nil=>intro ms' ds e hm;cases ms'<;>simp at e;exact hm
   |cons i ms ih =>
    intro ms' ds e hm
    cases ms' with
    |nil=>simp at e
    |cons i' ms' =>
     simp only [List.map_cons,List.cons.injEq] at e
     obtain ⟨L,d,ds',q1,q2,q3,q4⟩:=hm
     exact ⟨L,d,ds',q1,by simp [Mu.eU,e.1,q2],q3,ih e.2 q4⟩
  exact key h.ms hR.ms
def jF {α β : Type} (step : α → Option (α ⊕ β)) : Nat → α → Option β
 |0,_=>none
 |n+1,x=>match step x with
  |none=>none
  |some (.inl y)=>jF step n y
  |some (.inr b)=>some b
noncomputable def iter {α β:Type} (step:α→Option (α ⊕ β)) (x:α):Option β:=by
 classical exact if h:∃n b,jF step n x=some b then some h.choose_spec.choose else none
theorem zX {α β : Type} {step : α → Option (α ⊕ β)} : ∀ {n m : Nat} {x : α} {b c : β}, jF step n x = some b → jF step m x = some c → b = c
 |0,_,_,_,_,h,_=>by cases h
 |_+1,0,_,_,_,_,h=>by cases h
 |n+1,m+1,x,b,c,h,h'=>by
  simp only [jF] at h h'
  split at h
  ·cases h
  ·rename_i y e;rw [e] at h';exact zX h h'
  ·rename_i b' e;rw [e] at h';cases h;cases h';rfl
theorem Bw {α β:Type} {step:α→Option (α ⊕ β)} {n:Nat} {x:α} {b:β} (h:jF step n x=some b):iter step x=some b:=by
 unfold iter
 have h':∃n b,jF step n x=some b:=⟨n,b,h⟩
 rw [dif_pos h']
 exact congrArg some (zX h'.choose_spec.choose_spec h)
theorem tj {α β:Type} {step:α→Option (α ⊕ β)} {x:α} {b:β} (h:iter step x=some b):∃n,jF step n x=some b:=by
 unfold iter at h
 split at h
 ·rename_i h';cases h;exact ⟨_,h'.choose_spec.choose_spec⟩
 ·cases h
theorem ku {α β:Type} {step:α→Option (α ⊕ β)} {x y:α} {b:β} (h:step x=some (.inl y)) (h':iter step y=some b):iter step x=some b:=by
 obtain ⟨n,hn⟩:=tj h'
 exact Bw (n:=n+1) (by simp [jF,h,hn])
theorem fM {α β:Type} {step:α→Option (α ⊕ β)} {x:α} {b:β} (h:step x=some (.inr b)):iter step x=some b :=
 Bw (n:=1) (by simp [jF,h])
theorem J7 (gP : mV P N out base) {α β : Type} {I : α → St} {X : β → Ex × St} {step : α → Option (α ⊕ β)} {c : C}
  (hstep:∀x r,step x=some r→qS (fI P N out base) c (I x) fun e S'=>match r with
   | .inl y=>e = .normal∧∃π,jm base π S' (I y)
   | .inr b=>e ≠ .normal∧e=(X b).1∧∃π,jm base π S' (X b).2)
  {x:α} {b:β} (hx:iter step x=some b) {S:St} {π:List Nat} (hS:jm base π S (I x)) {K:Ex→St→Prop} (hK:K (X b).1 (X b).2):(fI P N out base).loop c S K:=by
 obtain ⟨n,hn⟩:=tj hx
 intro body hbody Y ι μ a w ho hb hR
 refine wpIn_loop_ghost (fun (n:Nat) a w=>∃Y1,Ext P Y Y1∧∃x ι μ,eG P N Y1 ι μ (I x) a w∧jF step n x=some b) id (x:=n) ⟨Y,.refl Y,x,ι,_,hS.rep hb hR,hn⟩ ?_
 rintro n a w ⟨Y0,Qr,x,ι,μ,hR,hx⟩
 cases n with
 |zero=>cases hx
 |succ n =>
  simp only [jF] at hx
  split at hx
  ·cases hx
  ·rename_i y e
   refine wpIn_mono (FL (gy gP body hbody (hstep x _ e)) Qr ho hb hR) fun e a' w' hp=>?_
   obtain ⟨Y1,hY,ι',μ',S',e',h1,h2,rfl,π',h3⟩:=hp
   cases h2
   exact ⟨n,⟨Y1,hY,y,ι',_,h3.rep (hY.tX hb) h1,hx⟩,Nat.lt_succ_self n⟩
  ·rename_i b' e
   cases hx
   refine wpIn_mono (FL (gy gP body hbody (hstep x _ e)) Qr ho hb hR) fun e a' w' hp=>?_
   obtain ⟨Y1,hY,ι',μ',S',e',h1,h2,hne,h3,π',h4⟩:=hp
   have hp:Post P N Y K e a' w':=⟨Y1,hY,ι',_,_,_,h4.rep (hY.tX hb) h1,by rw [←h3];exact h2,hK⟩
   cases e' with
   |normal=>exact absurd rfl hne
   |exit id=>cases h2;exact hp
   |ret=>cases h2;exact hp
end
abbrev Env:=List (Nat×V)
section
variable {P:Program} {N:Nat} {Y:Ctx} {ι ι':aj} {μ μ':Mu} {H H':aF} {w w':World} {out:Option Nat} {base:Nat}
theorem Inv.junk (h:Inv P Y ι μ H w) (o:Obj):Inv P Y ι μ H (w.alloc o):=by
 have heap:∀k,k<w.heap.size→(w.alloc o).heap[k]?=w.heap[k]?:=fun k hk=>by
  show (w.heap.push o)[k]?=_
  rw [Array.getElem?_push];split
  ·omega
  ·rfl
 refine ⟨⟨h.below.os,h.below.tape,h.below.output,by have:=h.below.size;simp;omega,fun k hk hx=>?_,h.below.dr,fun k hk=>(h.below.maps k hk).trans (.eq (heap k (Nat.lt_of_lt_of_le hk h.below.size)))⟩,h.i0,h.iB,fun b o x hx=>?_,h.m0,h.nx,fun id B hB=>?_,h.inj,h.lt,h.gl⟩
 ·have := h.below.size
  rw [heap k (by omega)];exact h.below.block k hk hx
 ·have := h.rd b o x hx
  rw [World.cell?_alloc_lt _ _ _ (World.block_lt_of_cell? _ _ this)];exact this
 ·exact (h.live id B hB).mono (aj.le_refl _) (Mu.le_refl _) (fun h=>h) (fun L' hL'=>heap _ ((h.live id B hB).loc hL').2) (fun _ _ h=>h)
theorem dL.UR {B:Nat→Prop} {id:Nat} {b:k8} (h:dL P B ι μ id w b) {L:Loc} (hL:μ id=some L) {r:Nat} {m:Option Nat} {s c:Nat} {seen:Array Nat} (hr:w.heap[r]?=some (.mapIter m s seen c)):L.b≠r:=by
 intro e
 subst e
 cases b with
 |cells cs fz =>
  obtain ⟨L',vs,hM,_⟩:=h
  have:=hM.mu;rw [hL] at this;cases this
  obtain ⟨c,e,h1,_⟩:=hM.row
  rw [hr] at h1;cases h1
 |arr t xs fz =>
  rcases h with ⟨_,h⟩|⟨L',vs,hM,_⟩
  ·rw [h] at hL;cases hL
  ·have := hM.mu; rw [hL] at this; cases this
   obtain ⟨c,e,h1,_⟩:=hM.row
   rw [hr] at h1;cases h1
 |loop st j d env ps as bd N =>
  obtain ⟨L',r,Ld,h1,h2,h3,_⟩:=h
  rw [hL] at h1;cases h1
  rw [hr] at h3;cases h3
 |ig =>
  obtain ⟨L',h1,h2,h3⟩:=h
  rw [hL] at h1;cases h1
  rw [hr] at h3;cases h3
 |map kt kg vt vg es =>
  obtain ⟨L',ms,clock,dB,h1,h2,h3,_⟩:=h
  rw [hL] at h1;cases h1
  rw [hr] at h3;cases h3
 |mJ t xs i p v =>
  obtain ⟨L',us,vs,c,hM,_⟩:=h
  have:=hM.mu;rw [hL] at this;cases this
  obtain ⟨c,e,h1,_⟩:=hM.row
  rw [hr] at h1;cases h1
theorem Inv.side (h:Inv P Y ι μ H w) {r:Nat} {m:Option Nat} {s c:Nat} {seen:Array Nat} (hr:w.heap[r]?=some (.mapIter m s seen c)) (hown:Y.own r) (o:Obj):Inv P Y ι μ H (w.putObj r o):=by
 have bQ:∀k,k≠r→(w.putObj r o).heap[k]?=w.heap[k]?:=fun k hk=>World.putObj_heap_other hk
 refine ⟨⟨h.below.os,h.below.tape,h.below.output,by rw [World.putObj_size];exact h.below.size,fun k hk hx=>?_,h.below.dr,fun k hk=>(h.below.maps k hk).trans ?_⟩,h.i0,h.iB,fun b o2 x hx=>?_,h.m0,h.nx,fun i B hB=>?_,h.inj,h.lt,h.gl⟩
 ·rw [bQ k (Ctx.lU hown hk hx)];exact h.below.block k hk hx
 ·by_cases e : k = r
  ·subst e;rw [hr];exact .no fun _ _ e=>by cases e
  ·exact .eq (bQ k e)
 ·have := h.rd b o2 x hx
  have hne:b≠r:=fun e=>by subst e;simp [World.cell?,hr] at this
  unfold World.cell? at this ⊢
  simp only at this ⊢
  rw [bQ b hne];exact this
 ·exact (h.live i B hB).mono (aj.le_refl _) (Mu.le_refl _) (fun h=>h) (fun L' hL'=>bQ _ ((h.live i B hB).UR hL' hr)) (fun _ _ h=>h)
def Ctx.side (Y:Ctx) (w:World) (ι:aj) (μ:Mu) (r:Nat):Ctx:=⟨w,ι,μ,Y.ro,fun b=>Y.own b∧b≠r,Y.hid⟩
theorem Inv.into (h:Inv P Y ι μ H w) {r:Nat} {m:Option Nat} {s c:Nat} {seen:Array Nat} (hr:w.heap[r]?=some (.mapIter m s seen c)):Inv P (Y.side w ι μ r) ι μ H w :=
 ⟨HH.refl _ _,aj.le_refl _,fun _ _ _ _=>rfl,h.rd,Mu.le_refl _,h.nx,fun id B hB=>(h.live id B hB).owns fun L hL ho=>.inr ⟨ho,(h.live id B hB).UR hL hr⟩,h.inj,h.lt,h.dz⟩
theorem Inv.abl (h:Inv P Y ι μ H w) {r:Nat} (h2:Inv P (Y.side w ι μ r) ι' μ' H' w'):Inv P Y ι' μ' H' w':=by
 have hs:=h.below.size
 have hx2:∀k,k<Y.w0.heap.size→¬Y.x k→¬(Y.side w ι μ r).x k:=fun k hk hx hX=>by
  rcases hX.1 with h|h
  ·omega
  ·exact hx h
 have b2:=h2.below
 refine ⟨⟨b2.os.trans h.below.os,b2.tape.trans h.below.tape,b2.output.trans h.below.output,Nat.le_trans hs b2.size,fun k hk hx=>?_,Nat.le_trans h.below.dr b2.dr,fun k hk=>(h.below.maps k hk).trans (b2.maps k (Nat.lt_of_lt_of_le hk hs))⟩,
  aj.le_trans h.i0 h2.i0,fun b o hb hx=>?_,h2.rd,Mu.le_trans h.m0 h2.m0,h2.nx,fun id B hB=>(h2.live id B hB).owns fun L _ ho=>?_,h2.inj,h2.lt,h.gl⟩
 ·exact (b2.block k (Nat.lt_of_lt_of_le hk hs) (hx2 k hk hx)).trans (h.below.block k hk hx)
 ·exact (h2.iB b o (Nat.lt_of_lt_of_le hb hs) (hx2 b hb hx)).trans (h.iB b o hb hx)
 ·rcases ho with ho | ho
  ·exact .inl (Nat.le_trans hs ho)
  ·exact ho.1
end
def yX {E α β : Type} (step : E → α → Option (α ⊕ β)) : List E → α → Option (α ⊕ β)
 |[],x=>some (.inl x)
 |e::r,x=>match step e x with
  |none=>none
  |some (.inl y)=>yX step r y
  |some (.inr b)=>some (.inr b)
def zY {E α : Type} (step : E → α → Option α) : List E → α → Option α
 |[],x=>some x
 |e::r,x=>match step e x with
  |none=>none
  |some y=>zY step r y
noncomputable def iE {E B:Type} (f:List E→Option B) (es:List E):Option B:=by
 classical exact if h:∃b,∀l:List E,l.Perm es→f l=some b then some h.choose else none
theorem ov {E B:Type} {f:List E→Option B} {es:List E} {b:B} (h:iE f es=some b):∀l:List E,l.Perm es→f l=some b:=by
 unfold iE at h
 split at h
 ·rename_i h';cases h;exact h'.choose_spec
 ·cases h
theorem gz {E B:Type} {f:List E→Option B} {es:List E} {b:B} (h:∀l:List E,l.Perm es→f l=some b):iE f es=some b:=by
 have h':∃b,∀l:List E,l.Perm es→f l=some b:=⟨b,h⟩
 unfold iE
 rw [dif_pos h']
 have h1:=h'.choose_spec es (.refl _)
 rw [h es (.refl _)] at h1
 exact h1.symm▸rfl
noncomputable def jG {α:Type} (a b:α):Bool:=@decide (a=b) (Classical.propDecidable _)
theorem Dz {α:Type} {a b:α} (h:jG a b=true):a=b:=by simpa [jG] using h
@[simp] theorem dG {α:Type} (a:α):jG a a=true:=by simp [jG]
def ef : List Nat → Env → Env
 |[],env=>env
 |t::r,env=>(t,.any)::ef r env
def Rt (e:Option Nat) (kt:Ty) (kg:Bool) (vt:Ty) (vg:Bool) (x:kt.den×vt.den) (env:Env):Env:=match e with
 |none=>env
 |some s=>(s,.cK [cw.iS kg (cw kt x.1),cw.iS vg (cw vt x.2)])::env
section
variable {P:Program} {N:Nat} {Y:Ctx} {ι ι':aj} {μ μ':Mu} {H H':aF} {w w':World} {out:Option Nat} {base:Nat}
theorem qn : ∀ {cl : List Nat} {env : Env} {t : Nat}, get t (ef cl env) = .any ∨ get t (ef cl env) = get t env
 |[],env,t=>.inr rfl
 |s::r,env,t=>by
  rw [ef,bT]
  split
  ·exact .inl rfl
  ·exact qn
theorem eu.forget {env:Env} {tmps:Array Value} (h:eu ι μ env tmps) (cl:List Nat):eu ι μ (ef cl env) tmps:=fun t=>by
 rcases qn (cl:=cl) (env:=env) (t:=t) with e|e<;>rw [e]
 ·exact .any _
 ·exact h t
theorem eu.over {env:Env} {a:Act} (h:eu ι μ env a.tmps) {d:Nat} (hd:get d env = .any) (v:Value):eu ι μ env (a.put (some d) v).tmps:=fun t=>by
 by_cases e:d=t
 ·subst e;rw [hd];exact .any _
 ·have:(a.tmps.setIfInBounds d v).getD t undef=a.tmps.getD t undef:=by
   simp only [Array.getD_eq_getD_getElem?]
   rw [Array.getElem?_setIfInBounds_ne e]
  simp only [Act.put]
  rw [this];exact h t
theorem eG.over {S:St} {a:Act} (h:eG P N Y ι μ S a w) {d:Nat} (hd:get d S.env = .any) (v:Value):eG P N Y ι μ S (a.put (some d) v) w :=
 ⟨h.env.over hd v,by simp [Act.put,h.sz],h.inv,h.ms⟩
theorem Bx {a:Act} {d:Nat} {v:Value} (hd:d<a.tmps.size):(a.put (some d) v).tmps.getD d undef=v:=by simp [Act.put,Array.getD,hd]
theorem MW {a:Act} {d t:Nat} {v:Value} (h:d≠t):(a.put (some d) v).tmps.getD t undef=a.tmps.getD t undef:=by
 simp only [Act.put,Array.getD_eq_getD_getElem?]
 rw [Array.getElem?_setIfInBounds_ne h]
theorem Inv.name (h:Inv P Y ι μ H w) (L:Loc):Inv P Y ι (μ.set H.next L) ⟨H.next+1,H.bl⟩ w:=by
 have hn:=h.nx H.next (Nat.le_refl _)
 have hle:=Mu.fD (L:=L) hn
 have hne:∀id B,aq id H.bl=some B→id≠H.next:=fun id B hB=>Nat.ne_of_lt (h.lt id B hB)
 refine ⟨h.below,h.i0,h.iB,h.rd,Mu.le_trans h.m0 hle,fun id hid=>?_,fun id B hB=>?_,fun id id' B B' L1 L2 h1 h2 fK hm2 e=>?_,fun id B hB=>Nat.lt_succ_of_lt (h.lt id B hB),h.gl⟩
 ·simp only at hid
  unfold Mu.set;rw [if_neg (by omega)];exact h.nx id (by omega)
 ·exact (h.live id B hB).mono (aj.le_refl _) hle (fun hm=>by unfold Mu.set;rw [if_neg (hne id B hB)];exact hm) (fun _ _=>rfl) (fun _ _ h=>h)
 ·unfold Mu.set at fK hm2
  rw [if_neg (hne id B h1)] at fK
  rw [if_neg (hne id' B' h2)] at hm2
  exact h.inj id id' B B' L1 L2 h1 h2 fK hm2 e
theorem gA {o:Oper} (h:o.guard=none) (f:Nat→Option Bool):Region.wanted o f=true:=by
 unfold Region.wanted;rw [h]
theorem FZ {a b:Code} {hd:UI} (h:vR P N a b=some hd):∃(ia:Nat) (yY:Array Oper) (o:Oper) (rr:List Oper) (t:TypeId) (x:Operand) (b3 i2:Nat) (tn:Array Oper) (o1 o2:Oper) (n ok:Nat) (y:Code),
  a = .region ia yY false∧yY.toList=rr++[o]∧o.op = .range t x∧o.dst=some hd.it∧o.guard=none∧hd.it<N∧j4 P t=some (hd.kt,hd.kg,hd.vt,hd.vg)∧dA x=some hd.m∧dX P N yY rr=some hd.pre ∧
  b = .block hd.pM (.loop (.seq (.region i2 tn false) (.seq (.cond (.tmp ok) .skip (.exit hd.pM)) (.block b3 y))))∧tn.toList=[o1,o2]∧o1.op = .next (.tmp hd.it) false∧o1.dst=some n∧o1.guard=none ∧
  o2.op = .extract (.tmp n) 0∧o2.dst=some ok∧o2.guard=none∧n<N∧ok<N∧n≠hd.it∧ok≠hd.it∧hd.cl=[n,ok]∧hd.e=sG N hd.it y:=by
 unfold vR at h
 split at h<;>try (cases h;done)
 rename_i b1 x2 t b2 b3 y
 split at h<;>try (cases h;done)
 rename_i is m it kt vt vg h1
 split at h<;>try (cases h;done)
 rename_i n ok h2
 split at h<;>try (cases h;done)
 rename_i hc
 obtain ⟨e1,e2⟩:=hc
 subst e1;subst e2
 cases h
 unfold LZ at h1
 split at h1<;>try (cases h1;done)
 rename_i ia yY
 split at h1<;>try (cases h1;done)
 rename_i o rr hrev
 split at h1<;>try (cases h1;done)
 rename_i t x hop
 split at h1<;>try (cases h1;done)
 rename_i it' Ru
 split at h1<;>try (cases h1;done)
 rename_i hg
 split at h1<;>try (cases h1;done)
 rename_i Lz LA QH m' is' C9 hx mW
 cases h1
 unfold L5 at h2
 split at h2<;>try (cases h2;done)
 rename_i i2 tn
 split at h2<;>try (cases h2;done)
 rename_i o1 o2 hl
 split at h2<;>try (cases h2;done)
 rename_i i Ga
 split at h2<;>try (cases h2;done)
 rename_i n' MX
 split at h2<;>try (cases h2;done)
 rename_i n2 J8
 split at h2<;>try (cases h2;done)
 rename_i ok' hd2
 split at h2<;>try (cases h2;done)
 rename_i UK
 obtain ⟨g1,g2,e1,e2,l1,l2,l3,l4⟩:=UK
 subst e1;subst e2
 cases h2
 have Fe:yY.toList=rr.reverse++[o]:=by
  have:=congrArg List.reverse hrev
  simpa using this
 exact ⟨ia,yY,o,rr.reverse,t,x,b3,i2,tn,o1,o2,_,_,y,rfl,Fe,hop,Ru,hg.1,hg.2,C9,hx,mW,rfl,hl,Ga,MX,g1,J8,hd2,g2,l1,l2,l3,l4,rfl,rfl⟩
end
section
variable {P:Program} {N:Nat} {Y:Ctx} {ι ι':aj} {μ μ':Mu} {H H':aF} {w w':World} {out:Option Nat} {base:Nat}
theorem Rv {b1 i2 b3 ok:Nat} {tn:Array Oper} {y:Code} {cb:C} (h:fh P N (.block b1 (.loop (.seq (.region i2 tn false) (.seq (.cond (.tmp ok) .skip (.exit b1)) (.block b3 y)))))=some cb) :
  ∃cx cc cy,fh P N y=some cy∧cb = .block b1 (.loop (.seq cx (.seq cc (.block b3 cy)))):=by
 have h1:∀z,vR P N (.cond (.tmp ok) .skip (.exit b1)) z=none:=fun z=>by
  unfold vR
  split
  ·split
   ·rename_i h1;cases h1
   ·rfl
  ·rfl
 have h2:∀z u v,vR P N z (.seq u v)=none:=fun z u v=>rfl
 simp only [fh] at h
 cases hx:dX P N tn tn.toList with
 |none=>simp [hx] at h
 |some is =>
  simp only [hx] at h
  cases hy:fh P N y with
  |none=>simp [hy] at h
  |some cy =>
   simp only [hy,dA,Option.map_some,h1,h2] at h
   cases h
   exact ⟨_,_,cy,rfl,rfl⟩
theorem wX {id:Nat} {K:Ex→St→Prop} {e:Exit} {a:Act} {w:World} (hp:Post P N Y (fun e S=>match e with
  | .normal=>K .normal S
  | .exit id'=>match Nat.beq id' id with
   |true=>K .normal S
   |false=>K (.exit id') S
  | .ret=>K .ret S) e a w):Exit.inBlock id (Post P N Y K) e a w:=by
 obtain ⟨Y1,hY,ι',μ',S',e',h1,h2,h3⟩:=hp
 cases e' with
 |normal=>cases h2;exact ⟨Y1,hY,ι',μ',S',.normal,h1,rfl,h3⟩
 |exit id' =>
  cases h2
  simp only [Exit.inBlock]
  simp only at h3
  split at h3
  ·rename_i Be
   rw [if_pos (Nat.eq_of_beq_eq_true Be)]
   exact ⟨Y1,hY,ι',μ',S',.normal,h1,rfl,h3⟩
  ·rename_i Be
   rw [if_neg (fun e=>by subst e;rw [Nat.beq_refl] at Be;cases Be)]
   exact ⟨Y1,hY,ι',μ',S',.exit id',h1,rfl,h3⟩
 |ret=>cases h2;exact ⟨Y1,hY,ι',μ',S',.ret,h1,rfl,h3⟩
theorem MY (gP : mV P N out base) {it b1 b3 : Nat} {y : Code} {cx cc cy bd : C} (J9 : fh P N y = some cy) (hbd : HC (sG N it y) (.block b1 (.loop (.seq cx (.seq cc (.block b3 cy))))) = some bd) {S0 : St} {a : Act}
  (ho:kj Y out) (hb:Y.base base) (hR:eG P N Y ι μ S0 a w) {r:Nat} (hit:a.tmps.getD it undef = .pointer (some ⟨r,0,none⟩)) {kv vv:Value} (cD:(Instr.entry (.pointer (some ⟨r,0,none⟩))).run P w = .ok (.tuple #[kv,vv]) w)
  {kt vt:Ty} {kg vg:Bool} {x:kt.den×vt.den} (hk:Rel ι μ (cw.iS kg (cw kt x.1)) kv) (hv:Rel ι μ (cw.iS vg (cw vt x.2)) vv) {Q:Ex→St→Prop}
  (h:qS (fI P N out base) bd ⟨Rt (sG N it y) kt kg vt vg x S0.env,S0.H,S0.ms⟩ Q):(Code.block b3 y).wpIn Y.F 0 P (Post P N Y Q) a w:=by
 cases he:sG N it y with
 |none =>
  rw [he] at hbd h
  cases hbd
  exact gy gP (.block b3 y) (c:=.block b3 cy) (by simp [fh,J9]) h Y ι μ a w ho hb hR
 |some s =>
  rw [he] at hbd h
  unfold sG at he
  split at he<;>try (cases he;done)
  rename_i ri ops rest
  split at he<;>try (cases he;done)
  rename_i o os hl
  split at he<;>try (cases he;done)
  rename_i i hop
  split at he<;>try (cases he;done)
  rename_i s' Ru
  split at he<;>try (cases he;done)
  rename_i hc
  obtain ⟨hg,hi,hs,hne⟩:=hc
  cases he
  subst hi
  -- the code
  simp only [fh] at J9
  cases mW:dX P N ops ops.toList with
  |none=>simp [mW] at J9
  |some is0 =>
   simp only [mW] at J9
   cases hcr:fh P N rest with
   |none=>simp [hcr] at J9
   |some cr =>
    simp only [hcr] at J9
    split at J9
    rotate_left
    ·rename_i hd2 _
     split at J9<;>try (cases J9;done)
     cases J9
     simp [HC] at hbd
    cases J9
    rw [hl] at mW
    unfold dX at mW
    split at mW<;>try (cases mW;done)
    rename_i i0 is hi0 mW
    cases mW
    simp only [HC] at hbd
    cases hbd
    simp only [qS] at h
    refine wpIn_block (wpIn_mono ?_ fun e a w hp=>wX hp)
    refine wpIn_seq (wpIn_region ?_)
    have hsz:ops.size=os.length+1:=by rw [←Array.length_toList,hl];rfl
    rw [List.range_eq_range',hsz,List.range'_succ]
    have ho0:ops[0]?=some o:=by rw [←Array.getElem?_toList,hl];rfl
    have ag:a.eval (.tmp i) = .pointer (some ⟨r,0,none⟩):=hit
    have hN:qO N o.dst=true:=by rw [Ru];simpa [qO] using hs
    refine tZ (x := .tuple #[kv, vv]) (w' := w) (fun _ => trivial) rfl ho0 (gA hg _) (by rw [hop]; intro c; simp) (.inl (by
     unfold execOp;rw [hop];simp only [ag,Sem.run_bind,cD];rfl)) ?_
    have nD:eG P N Y ι μ ⟨Rt (some s) kt kg vt vg x S0.env,S0.H,S0.ms⟩ (a.put o.dst (.tuple #[kv,vv])) w:=by
     have := hR.put hN (aj.le_refl _) (Mu.le_refl _) hR.inv (v := .cK [cw.iS kg (cw kt x.1), cw.iS vg (cw vt x.2)]) (x := .tuple #[kv, vv])
      (.cK _ _ rfl (fun i v x qi hx=>by
       match i with
       |0=>simp at qi hx;subst qi;subst hx;exact hk
       |1=>simp at qi hx;subst qi;subst hx;exact hv
       |i+2=>simp at qi))
     rw [Ru] at this ⊢
     exact this
    exact wE (Y:=Y) (out:=out) (base:=base) (k:=1) (Q:=Exit.then (rest.wpIn Y.F 0 P _) _) (fun ι μ S a w hR hK=>gy gP rest hcr hK Y ι μ a w ho hb hR) mW (fun j=>by rw [←Array.getElem?_toList,hl,Nat.add_comm];simp) nD h
end
section
variable {P:Program} {N:Nat} {Y:Ctx} {ι ι':aj} {μ μ':Mu} {H H':aF} {w w':World} {out:Option Nat} {base:Nat}
theorem eO.at {kt vt : Ty} {kg vg : Bool} : ∀ {es : List (kt.den × vt.den)} {ms : List MapEntry}, eO ι kt kg vt vg es ms → ∀ {i : Nat} {m : MapEntry}, ms[i]? = some m → ∃ e, es[i]? = some e ∧ fJ ι kg kt e.1 m.key ∧ fJ ι vg vt e.2 m.val
 |[],_,h,i,m,hm=>by simp [eO] at h;subst h;simp at hm
 |e::es,_,⟨m0,r,rfl,h1,h2,h3⟩,i,m,hm=>by
  cases i with
  |zero=>simp at hm;subst hm;exact ⟨e,rfl,h1,h2⟩
  |succ i=>simpa using h3.at (i:=i) (by simpa using hm)
theorem DA {E α β:Type} {step:E→α→Option (α ⊕ β)} {e:E} {r:List E} {x:α} {res:α ⊕ β} (h:yX step (e::r) x=some res) :
  (∃y,step e x=some (.inl y))∨∃b,step e x=some (.inr b)∧res = .inr b:=by
 simp only [yX] at h
 split at h
 ·cases h
 ·rename_i y e;exact .inl ⟨y,e⟩
 ·rename_i b e;cases h;exact .inr ⟨b,e,rfl⟩
theorem get_mem : ∀ {env : Env} {t : Nat} {v : V}, get t env = v → v ≠ .any → (t, v) ∈ env
 |[],t,v,h,hv=>absurd h.symm hv
 |(s,u)::r,t,v,h,hv=>by
  rw [bT] at h
  split at h
  ·rename_i e;subst e;subst h;exact List.mem_cons_self ..
  ·exact List.mem_cons_of_mem _ (get_mem h hv)
theorem H8 {π : List Nat} {cl : List Nat} {env : Env} {Hh : aF} {mss : List Nat} {S' : St} (h : jm base π ⟨ef cl env, Hh, mss⟩ S') {mn id bm : Nat} (hid : get mn env = .mp id) {kt vt : Ty} {kg vg : Bool} {es : List (kt.den × vt.den)}
  (CH:jA Hh.bl kt kg vt vg id=some es) {L:Loc} (hL:μ id=some L) (Ww:L.b=bm) (yK:Nat) (h2:get mn S'.env = .mp yK) :
  (∃L,(μ.eU π) yK=some L∧L.b=bm)∧∀es',jA S'.H.bl kt kg vt vg yK=some es'→es'=es:=by
 have ag:=h.env _ (get_mem h2 (by simp))
 try simp only at ag
 have hπ:π[yK]?=some id:=by
  rcases qn (cl:=cl) (env:=env) (t:=mn) with e|e<;>rw [e] at ag
  ·cases ag
  ·rw [hid] at ag;cases ag with|mp _ _ hi=>exact hi
 refine ⟨⟨L,by simp [Mu.eU,hπ,hL],Ww⟩,fun es' he'=>?_⟩
 obtain ⟨i,e1,hb⟩:=h.bl _ (dw (dZ he'))
 try simp only at e1 hb
 rw [hπ] at e1;cases e1
 have Ka:=dZ CH
 try simp only at Ka
 rw [Ka] at hb
 simp only [Option.some.injEq,k8.map.injEq,heq_eq_eq,true_and] at hb
 exact hb.symm
theorem kj.up {w:World} {ι:aj} {r:Nat} (h:kj Y out) (hm:Y.m0.le μ):kj (Y.side w ι μ r) out:=by
 cases out with
 |none=>exact h
 |some o=>obtain ⟨Lo,h1,h2⟩:=h;exact ⟨Lo,hm _ _ h1,h2⟩
theorem Ext.lift {Ya Yb : Ctx} {r : Nat} (hinv : ∀ {ι : aj} {μ : Mu} {H : aF} {w : World}, Inv P Ya ι μ H w → Inv P Yb ι μ H w) (hown : ∀ b, Ya.own b → Yb.own b) (hro : Yb.ro = Ya.ro) (hm0 : Yb.m0.le Ya.m0) (Bh : Yb.hid = Ya.hid)
  (hr:r<Ya.w0.heap.size∧¬Ya.own r) (hrb:Yb.own r) {Y1:Ctx} (h:Ext P Ya Y1) :
  ∃Y2,Ext P Yb Y2∧(∀{ι:aj} {μ:Mu} {H:aF} {w:World},Inv P Y1 ι μ H w→Inv P Y2 ι μ H w)∧(∀b,Y1.own b→Y2.own b)∧Y2.ro=Y1.ro∧Y2.m0.le Y1.m0∧Y2.hid=Y1.hid∧(r<Y1.w0.heap.size∧¬Y1.own r)∧Y2.own r:=by
 induction h with
 |refl=>exact ⟨Yb,.refl Yb,hinv,hown,hro,hm0,Bh,hr,hrb⟩
 |step h ro hI hr' own ih =>
  rename_i Y1 ι1 μ1 H1 w1 r'
  obtain ⟨Y2,e1,e2,e3,e4,e5,e6,e7,e8⟩:=ih
  have hlt:=(Array.getElem?_eq_some_iff.1 hr').1
  have hne:r≠r':=fun e=>by subst e;exact e7.2 own
  have hs:=hI.below.size
  refine ⟨Y2.uD w1 ι1 r',.step e1 (e4.trans ro) (e2 hI) hr' (e3 _ own),fun {ι μ H w} h=>?_,fun b hb=>?_,e4,e5,?_,⟨?_,fun hX=>?_⟩,.inr ⟨e8,hne⟩⟩
  ·have hx : ∀ b, (Y1.uD w1 ι1 r').x b → (Y2.uD w1 ι1 r').x b := fun b hb => ⟨e3 _ hb.1, hb.2⟩
   exact ⟨⟨h.below.os,h.below.tape,h.below.output,h.below.size,fun k hk hx'=>h.below.block k hk (fun hh=>hx' (hx _ hh)),h.below.dr,h.below.maps⟩,h.i0,fun b o hb hx'=>h.iB b o hb (fun hh=>hx' (hx _ hh)),h.rd,Mu.le_trans e5 h.m0,h.nx,
    fun id B hB=>(h.live id B hB).owns fun L _ ho=>ho.imp (fun h=>h) (hx _),h.inj,h.lt,h.gl⟩
  ·exact hb.imp (fun h=>h) fun h=>⟨e3 _ h.1,h.2⟩
  ·show r' :: Y2.hid = r' :: Y1.hid
   rw [e6]
  ·exact Nat.lt_of_lt_of_le e7.1 hs
  ·rcases hX with hX | hX
   ·have : w1.heap.size ≤ r := hX
    omega
   ·exact e7.2 hX.1
theorem KD.inj {t:Ty} {β:Type} {es:List (t.den×β)} (h:KD t es) {a b:t.den×β} (ha:a∈es) (hb:b∈es) (hab:dJ t a.1 b.1=true):a=b:=by
 have haa:dJ t a.1 a.1=true:=by
  have:=bI hab
  rw [←this] at hab;exact hab
 have h1:=mS (d:=a.2) h ha haa
 have h2:=mS (d:=a.2) h hb hab
 exact Prod.ext (bI hab) (h1.symm.trans h2)
theorem tq {ι ι' : aj} : ∀ {t : Ty} {ks : List Kd} {x y : t.den} {vs : List Value}, bD t = some ks → af ι t x vs → af ι' t y vs → dJ t x y = true
 | .unit,ks,x,y,vs,h,hx,hy=>rfl
 | .bool,ks,x,y,vs,h,hx,hy=>by simp only [af] at hx hy;subst hx;simpa [dJ] using hy
 | .str,ks,x,y,vs,h,hx,hy=>by
  simp only [af] at hx hy;subst hx
  simp only [List.cons.injEq,Value.string.injEq,and_true] at hy
  subst hy;simp [dJ]
 | .int k,ks,x,y,vs,h,hx,hy=>by simp only [af] at hx hy;subst hx;simpa [dJ] using hy
 | .list _,ks,x,y,vs,h,hx,hy=>by cases h
 | .cq _ _ _,ks,x,y,vs,h,hx,hy=>by cases h
 | .prod a b,ks,x,y,vs,h,hx,hy=>by
  simp only [bD] at h
  split at h<;>try (cases h;done)
  rename_i k1 k2 h1 h2
  obtain ⟨us,ws,e1,d1,d2⟩:=hx
  obtain ⟨us',ws',e2,d1',d2'⟩:=hy
  rw [e1] at e2
  obtain ⟨rfl,rfl⟩:=List.append_inj e2 (by rw [d1.length,d1'.length])
  simp only [dJ,tq h1 d1 d1',tq h2 d2 d2',Bool.and_self]
theorem MZ {k:TypeId} {kt:Ty} {kg:Bool} (h:vQ P k=some (kt,kg)):∃ks,bD kt=some ks:=by
 unfold vQ at h
 split at h<;>try (cases h;done)
 ·cases h;exact ⟨_,rfl⟩
 ·cases h;exact ⟨_,rfl⟩
 ·split at h <;> try (cases h; done)
  split at h<;>try (cases h;done)
  rename_i hc
  cases h
  exact ⟨_,hc.1⟩
theorem Kb {g:Bool} {xs ys:List Value} {v:Value} (h1:iq g xs=some v) (h2:iq g ys=some v):xs=ys:=by
 cases g with
 |true =>
  simp only [iq,Option.some.injEq] at h1 h2
  subst h1
  simp only [Value.agg.injEq] at h2
  have:=congrArg Array.toList h2
  simpa using this.symm
 |false =>
  match xs,ys,h1,h2 with
  |[x],[y],h1,h2 =>
   simp only [iq,Option.some.injEq] at h1 h2
   rw [h1,h2]
  |[],_,h1,_=>simp [iq] at h1
  |_::_::_,_,h1,_=>simp [iq] at h1
  |[_],[],_,h2=>simp [iq] at h2
  |[_],_::_::_,_,h2=>simp [iq] at h2
theorem Rw {k:TypeId} {kt:Ty} {kg:Bool} (h:vQ P k=some (kt,kg)) {x y:kt.den} {z:Value} (hx:fJ ι kg kt x z) (hy:fJ ι' kg kt y z):dJ kt x y=true:=by
 obtain ⟨ks,hks⟩:=MZ h
 obtain ⟨xs,h1,h2⟩:=hx
 obtain ⟨ys,h3,h4⟩:=hy
 have:=Kb h2 h4
 subst this
 exact tq hks h1 h3
structure MI {α:Type} (P:Program) (N:Nat) (Y:Ctx) (I:α→St) (mn it:Nat) (kt:Ty) (kg:Bool) (vt:Ty) (vg:Bool) (es dB:List (kt.den×vt.den)) (kz:List Value) (bm r since:Nat) (bs todo:List Nat) (x:α) (a:Act) (w:World) (ι:aj) (μ:Mu) (seen:Array Nat) (c0:Nat) (ms:Array MapEntry) (clock:Nat):Prop where
 rep:eG P N Y ι μ (I x) a w
 it:a.tmps.getD it undef = .pointer (some ⟨r,0,none⟩)
 own:Y.own r
 hr:w.heap[r]?=some (.mapIter (some bm) since seen c0)
 sc:since≤c0
 ck:since≤clock
 hm:w.heap[bm]?=some (.map ms clock)
 US:ms.toList.map (·.born)=bs
 hkz:ms.toList.map (·.key)=kz
 hke:∀(i:Nat) e z,dB[i]?=some e→kz[i]?=some z→fJ ι kg kt e.1 z
 old:∀b∈bs,b<since
 nd:bs.Nodup
 len:dB.length=bs.length
 td:todo.Nodup
 left:∀i,i∈todo↔∃b,bs[i]?=some b∧b∉seen.toList
 here:∀id,get mn (I x).env = .mp id→(∃L,μ id=some L∧L.b=bm)∧∀es',jA (I x).H.bl kt kg vt vg id=some es'→es'=es
def DB (pM : Nat) : Ex → Ex
 | .exit i=>match Nat.beq i pM with
  |true=>.normal
  |false=>.exit i
 |e=>e
theorem M0 {α:Type} (es:List α) (d:α):(List.range es.length).map (fun i=>es.getD i d)=es:=by
 apply List.ext_getElem
 ·simp
 ·intro i h1 h2;simp at h1;simp [List.getD,h1]
theorem DC (gP : ∀ base, mV P N out base) {α β : Type} {I : α → St} {X : β → Ex × St} {pre : List eN} {mn it : Nat} {cl : List Nat} {e : Option Nat} {kt vt : Ty} {kg vg : Bool} {pM : Nat} {bd : C}
  {step:kt.den×vt.den→α→Option (α ⊕ β)} {aC:Nat} (hI:∀x s,s∈it::cl→get s (I x).env = .any) (HW:∀x,(I x).H.next=aC)
  (hstep:∀lD x r,step lD x=some r→∃id es',get mn (I x).env = .mp id∧jA (I x).H.bl kt kg vt vg id=some es' ∧
   qS (fI P N out (aC+1)) bd ⟨Rt e kt kg vt vg lD ((it,.ptr aC 0)::(I x).env),⟨aC+1,(I x).H.bl⟩,(I x).ms⟩ fun ex S'=>match r with
    | .inl y=>ex = .normal∧get it S'.env = .ptr aC 0∧get mn S'.env = .mp id∧jA S'.H.bl kt kg vt vg id=some es'∧∃π,jm base π ⟨ef (it::cl) S'.env,S'.H,S'.ms⟩ (I y)
    | .inr b=>ex ≠ .normal∧ex=(X b).1∧∃π,jm base π S' (X b).2)
  {S:St} {K:Ex→St→Prop}
  (hpre:fB (fI P N out base) pre S fun S1=>∃id es x π,get mn S1.env = .mp id∧jA S1.H.bl kt kg vt vg id=some es∧jm base π ⟨ef (it::cl) S1.env,S1.H,S1.ms⟩ (I x) ∧
   ∀l:List (kt.den×vt.den),l.Perm es→∃res,yX step l x=some res∧(match res with | .inl y=>K .normal (I y) | .inr b=>K (DB pM (X b).1) (X b).2)) :
  (fI P N out base).gF (.gF pre (.t mn) it cl e kt kg vt vg pM bd) S K:=by
 intro ca cb htr hsome
 have htr0:=htr
 simp only [fh] at htr
 split at htr<;>try (cases htr;done)
 rename_i xa xb htra htrb
 split at htr
 ·rename_i hn;rw [hn] at hsome;cases hsome
 rename_i hd hmh
 split at htr<;>try (cases htr;done)
 rename_i Rh hbd
 obtain ⟨hpre',hm',qo,hcl',he',wY,W1,yZ,W2,zZ⟩:=hd
 simp only [Option.some.injEq,C.gF.injEq] at htr
 obtain ⟨rfl,rfl,rfl,rfl,rfl,rfl,rfl,rfl,rfl,rfl,rfl⟩:=htr
 obtain ⟨ia,yY,oA,rr,t,xo,b3,i2,tn,o1,o2,n,ok,y,rfl,hlA,W3,hdA,hgA,hitN,C9,LF,mW,rfl,Fe,Ga,MX,hg1,J8,hd2,hg2,hnN,hokN,hnit,UT,yM,he⟩:=FZ hmh
 simp only at W3 hdA hgA hitN C9 LF mW Ga hnit UT yM he hbd
 subst yM
 obtain ⟨cx,cc,cy,J9,rfl⟩:=Rv htrb
 subst he
 intro Y ι μ a w hout hbase hR
 refine wpIn_seq (wpIn_region ?_)
 have hszA:yY.size=rr.length+1:=by rw [←Array.length_toList,hlA];simp
 have W4:List.range yY.size=List.range' 0 rr.length++[rr.length]:=by
  rw [hszA,List.range_succ,List.range_eq_range']
 rw [W4]
 refine sS (Y:=Y) (out:=out) (base:=base) (k:=0) (K:=fun S1=>∃id es x π,get mn S1.env = .mp id∧jA S1.H.bl wY W1 yZ W2 id=some es∧jm base π ⟨ef (qo::[n,ok]) S1.env,S1.H,S1.ms⟩ (I x) ∧
   ∀l:List (wY.den×yZ.den),l.Perm es→∃res,yX step l x=some res∧(match res with | .inl y=>K .normal (I y) | .inr b=>K (DB zZ (X b).1) (X b).2)) ?_ mW (fun j hj=>?_) hR hpre
 rotate_left
 ·rw [←Array.getElem?_toList,hlA,Nat.zero_add,List.getElem?_append_left (by assumption)]
 clear hR hpre
 intro ι μ S1 a w hR hK1
 obtain ⟨id,es,x,π,hmid,qp,cD,hres⟩:=hK1
 -- the iterator is made
 have hv:=hR.env mn
 rw [hmid] at hv
 generalize hav:a.tmps.getD mn undef=mv at hv
 cases hv with
 |mp _ L hL =>
 have hb:=dZ qp
 obtain ⟨L',ms,clock,dB,q1,q2,q3,q4,q5,q6,hp0,hd0⟩:=hR.inv.live _ _ hb
 rw [hL] at q1;cases q1
 obtain ⟨kT,eT,huT,hkT,_⟩:=kf C9
 have dD:a.eval xo = .map (some L.b):=by
  have:xo = .tmp mn:=by
   cases xo<;>simp only [dA] at LF
   ·cases LF;rfl
   ·split at LF<;>cases LF
   ·cases LF
   ·cases LF
  rw [this];exact hav
 have hoA:yY[rr.length]?=some oA:=by rw [←Array.getElem?_toList,hlA];simp
 refine tZ (x := .pointer (some ⟨w.heap.size, 0, none⟩)) (w' := w.alloc (.mapIter (some L.b) clock #[] clock)) (fun _ => trivial) rfl hoA (gA hgA _) (by rw [W3]; intro c; simp) (.inl (by
  unfold execOp;rw [W3];simp only [dD,Sem.run_bind,run_range_map w t kT eT L.b ms clock huT q3];rfl)) ?_
 simp only [wpOpsIn]
 rw [hdA]
 have qI:eG P N Y ι μ ⟨ef (qo::[n,ok]) S1.env,S1.H,S1.ms⟩ (a.put (some qo) (.pointer (some ⟨w.heap.size,0,none⟩))) (w.alloc (.mapIter (some L.b) clock #[] clock)):=by
  have h1:eG P N Y ι μ ⟨ef (qo::[n,ok]) S1.env,S1.H,S1.ms⟩ a w:=⟨hR.env.forget _,hR.sz,hR.inv,hR.ms⟩
  have h2:=h1.over (d:=qo) (by simp [ef,get]) (.pointer (some ⟨w.heap.size,0,none⟩))
  exact ⟨h2.env,h2.sz,h2.inv.junk _,h2.ms⟩
 have nD:=cD.rep hbase qI
 have hlt:L.b<w.heap.size:=(Array.getElem?_eq_some_iff.1 q3).1
 have Rx:MI P N Y I mn qo wY W1 yZ W2 es dB (ms.toList.map (·.key)) L.b w.heap.size clock (ms.toList.map (·.born)) (List.range dB.length) x (a.put (some qo) (.pointer (some ⟨w.heap.size,0,none⟩))) (w.alloc (.mapIter (some L.b) clock #[] clock)) ι (μ.eU π) #[] clock ms clock:=by
  refine ⟨nD,Bx (by rw [hR.sz];exact hitN),.inl hR.inv.below.size,heap_alloc_new _ _,Nat.le_refl _,Nat.le_refl _,(heap_alloc_old _ _ hlt).trans q3,rfl,rfl,fun i e z he hz=>?_,fun b hb=>?_,q6,?_,List.nodup_range,fun i=>?_,fun yK h2=>?_⟩
  ·rw [List.getElem?_map] at hz
   cases hm:ms.toList[i]? with
   |none=>rw [hm] at hz;cases hz
   |some m =>
    rw [hm] at hz;cases hz
    obtain ⟨e',he',hk,_⟩:=q4.at hm
    rw [he] at he';cases he'
    exact hk
  ·obtain ⟨m, hm, rfl⟩ := List.mem_map.1 hb
   exact q5 m hm
  ·rw [List.length_map,eO.length q4]
  ·have hlen := eO.length q4
   simp only [List.mem_range,List.not_mem_nil,not_false_eq_true,and_true]
   constructor
   ·intro hi
    exact ⟨_,List.getElem?_eq_getElem (show i<(ms.toList.map (·.born)).length by simp at hlen ⊢;omega)⟩
   ·rintro ⟨b, hb⟩
    have:=(List.getElem?_eq_some_iff.1 hb).1
    simp at this hlen;omega
  ·exact H8 cD hmid qp hL rfl yK h2
 have hat0:∀J:List Nat,J.Perm (List.range dB.length)→∃res,yX step (J.map fun i=>dB.getD i (wY.zero,yZ.zero)) x=some res∧(match res with | .inl y=>K .normal (I y) | .inr b=>K (DB zZ (X b).1) (X b).2):=fun J hJ =>
  hres _ (((hJ.map _).trans (by rw [M0])).trans hp0)
 have hdE:KD wY es:=hd0.perm hp0
 clear hres qI nD qp hmid cD q3 q5 q6 dD hoA hav hb hR hL hlt
 generalize (a.put (some qo) (.pointer (some ⟨w.heap.size,0,none⟩)))=a1 at Rx ⊢
 generalize hw1:w.alloc (.mapIter (some L.b) clock #[] clock)=w1 at Rx ⊢
 generalize w.heap.size=r at Rx
 generalize US:ms.toList.map (·.born)=bs at Rx
 generalize hkz:ms.toList.map (·.key)=kz at Rx
 generalize L.b=bm at Rx
 have hlen:dB.length=bs.length:=Rx.len
 clear hw1 US hkz
 show Code.wpIn _ _ _ (.block zZ _) _ _ _
 refine wpIn_block (wpIn_mono ?_ fun e a w hp=>wX hp)
 refine wpIn_loop_ghost (fun (g:List Nat×α) a w=>(∃Y1,Ext P Y Y1∧∃ι μ seen c0 ms clock',MI P N Y1 I mn qo wY W1 yZ W2 es dB kz bm r clock bs g.1 g.2 a w ι μ seen c0 ms clock') ∧
  ∀J:List Nat,J.Perm g.1→∃res,yX step (J.map fun i=>dB.getD i (wY.zero,yZ.zero)) g.2=some res∧(match res with | .inl y=>K .normal (I y) | .inr b=>K (DB zZ (X b).1) (X b).2)) (fun g=>g.1.length) (x:=(List.range dB.length,x)) ⟨⟨Y,.refl Y,_,_,_,_,_,_,Rx⟩,hat0⟩ ?_
 clear Rx hat0
 rintro ⟨todo,x⟩ a w ⟨⟨Y0,Qr,ι,μ,seen,c0,ms,clock',M⟩,HL⟩
 simp only at M HL
 refine wpIn_seq (wpIn_region ?_)
 have hsz2:tn.size=2:=by rw [←Array.length_toList,Fe];rfl
 rw [show List.range tn.size=[0,1] by rw [hsz2];rfl]
 have hO0:tn[0]?=some o1:=by rw [←Array.getElem?_toList,Fe];rfl
 have hO1:tn[1]?=some o2:=by rw [←Array.getElem?_toList,Fe];rfl
 have W5:=M.rep.sz
 have UU:a.eval (.tmp qo) = .pointer (some ⟨r,0,none⟩):=M.it
 have hold:∀m∈ms.toList,m.born<clock:=fun m hm=>M.old _ (by rw [←M.US];exact List.mem_map.2 ⟨m,hm,rfl⟩)
 have ew:∀v,get n (I x).env = .any∧get ok (I x).env = .any∧(a.put (some n) v).eval (.tmp n)=v:=fun v=>⟨hI x n (by simp),hI x ok (by simp),Bx (by rw [W5];exact hnN)⟩
 rcases run_next_at (P:=P) w o1.type r bm clock c0 seen ms clock' M.hr M.hm hold M.sc with ⟨h0,hrun⟩|⟨en,hel,w1,hw1,hrun⟩
 ·refine tZ (x := .tuple #[.bool false]) (w' := w) (fun _ => trivial) rfl hO0 (gA hg1 _) (by rw [Ga]; intro c; simp) (.inl (by
   unfold execOp;rw [Ga];simp only [UU,Sem.run_bind,hrun];rfl)) ?_
  rw [MX]
  refine tZ (x := .bool false) (w' := w) (fun _ => trivial) rfl hO1 (gA hg2 _) (by rw [J8]; intro c; simp) (.inl (by
   unfold execOp;rw [J8];simp only [(ew _).2.2];simp [Instr.extract])) ?_
  rw [hd2]
  simp only [wpOpsIn]
  show Code.wpIn _ _ _ (.seq _ _) _ _ _
  refine wpIn_seq (wpIn_cond_false (Bx (by simpa [Act.put,W5] using hokN)) (wpIn_exit ?_))
  have abq:todo=[]:=by
   cases htd:todo with
   |nil=>rfl
   |cons i _ =>
    exfalso
    obtain ⟨b,iX,eM⟩:=(M.left i).1 (by rw [htd];exact List.mem_cons_self ..)
    rw [←M.US,List.getElem?_map] at iX
    cases W6:ms.toList[i]? with
    |none=>rw [W6] at iX;cases iX
    |some m =>
     rw [W6] at iX;cases iX
     have:m∈leftOf ms seen:=by
      simp only [leftOf,Array.mem_filter]
      exact ⟨by simpa using List.mem_of_getElem? W6,by simpa using eM⟩
     have hp:=Array.size_pos_of_mem this
     omega
  subst abq
  obtain ⟨res,hr,hK⟩:=HL [] (.refl _)
  simp only [List.map_nil,yX,Option.some.injEq] at hr
  subst hr
  refine ⟨Y0,Qr,ι,μ,I x,.exit zZ,?_,rfl,?_⟩
  ·have h1 := (M.rep.over (ew .nilFunc).1 (.tuple #[.bool false])).over (ew .nilFunc).2.1 (.bool false)
   exact h1
  ·simp only [Nat.beq_refl];exact hK
 ·-- an entry
  have W7:w1.heap=w.heap:=by rcases hw1 with rfl|rfl<;>rfl
  have qI:eG P N Y0 ι μ (I x) a w1:=by
   rcases hw1 with rfl|rfl
   ·exact M.rep
   ·exact ⟨M.rep.env,M.rep.sz,M.rep.inv.drew,M.rep.ms⟩
  have C2:w1.heap[r]?=some (.mapIter (some bm) clock seen c0):=by rw [W7];exact M.hr
  have fK:w1.heap[bm]?=some (.map ms clock'):=by rw [W7];exact M.hm
  have hne:bm≠r:=fun e=>by subst e;rw [C2] at fK;cases fK
  have hrlt:r<w1.heap.size:=(Array.getElem?_eq_some_iff.1 C2).1
  change (Instr.next _ _ _).run P w = .ok _ (w1.putObj r (.mapIter (some bm) clock (seen.push en.born) clock')) at hrun
  generalize hw2:w1.putObj r (.mapIter (some bm) clock (seen.push en.born) clock')=w2 at hrun
  have C3:w2.heap[r]?=some (.mapIter (some bm) clock (seen.push en.born) clock'):=by rw [←hw2];exact World.putObj_heap_same hrlt
  have hm2:w2.heap[bm]?=some (.map ms clock'):=by rw [←hw2,World.putObj_heap_other hne];exact fK
  have uk:Inv P Y0 ι μ (I x).H w2:=by rw [←hw2];exact qI.inv.side C2 M.own _
  have abt:Y0.w0.heap.size≤w2.heap.size:=uk.below.size
  clear hw2 fK C2 qI hw1 W7 hrlt
  refine tZ (x := .tuple #[.bool true, en.key, en.val]) (w' := w2) (fun _ => trivial) rfl hO0 (gA hg1 _) (by rw [Ga]; intro c; simp) (.inl (by
   unfold execOp;rw [Ga];simp only [UU,Sem.run_bind,hrun];rfl)) ?_
  rw [MX]
  refine tZ (x := .bool true) (w' := w2) (fun _ => trivial) rfl hO1 (gA hg2 _) (by rw [J8]; intro c; simp) (.inl (by
   unfold execOp;rw [J8];simp only [(ew _).2.2];simp [Instr.extract])) ?_
  rw [hd2]
  simp only [wpOpsIn]
  show Code.wpIn _ _ _ (.seq _ _) _ _ _
  refine wpIn_seq (wpIn_cond_true (Bx (by simpa [Act.put,W5] using hokN)) (wpIn_skip ?_))
  have hRa:eG P N Y0 ι μ (I x) ((a.put (some n) (.tuple #[.bool true,en.key,en.val])).put (some ok) (.bool true)) w2:=by
   have h1:=(M.rep.over (ew .nilFunc).1 (.tuple #[.bool true,en.key,en.val])).over (ew .nilFunc).2.1 (.bool true)
   exact ⟨h1.env,h1.sz,uk,h1.ms⟩
  have W8:((a.put (some n) (.tuple #[.bool true,en.key,en.val])).put (some ok) (.bool true)).tmps.getD qo undef = .pointer (some ⟨r,0,none⟩):=by
   rw [MW UT,MW hnit];exact M.it
  show Code.wpIn _ _ _ (.block b3 y) _ _ _
  generalize ((a.put (some n) (.tuple #[.bool true,en.key,en.val])).put (some ok) (.bool true))=a2 at hRa W8
  -- which one
  have W9:en∈ms.toList∧en.born∉seen.toList:=by
   have:en∈leftOf ms seen:=by simpa using hel
   simp only [leftOf,Array.mem_filter] at this
   exact ⟨by simpa using this.1,by simpa using this.2⟩
  obtain ⟨i,hi⟩:=List.getElem?_of_mem W9.1
  have hbi:bs[i]?=some en.born:=by rw [←M.US,List.getElem?_map,hi];rfl
  have Gb:i∈todo:=(M.left i).2 ⟨_,hbi,W9.2⟩
  have H9:∀J:List Nat,J.Perm (todo.erase i)→∃res,yX step (dB.getD i (wY.zero,yZ.zero)::J.map fun i=>dB.getD i (wY.zero,yZ.zero)) x=some res∧(match res with | .inl y=>K .normal (I y) | .inr b=>K (DB zZ (X b).1) (X b).2):=fun J hJ =>
   HL (i::J) ((hJ.cons i).trans (List.perm_cons_erase Gb).symm)
  have hs1:∃q,step (dB.getD i (wY.zero,yZ.zero)) x=some q:=by
   obtain ⟨res,hr,_⟩:=H9 _ (.refl _)
   rcases DA hr with ⟨y,hy⟩|⟨b,hb,_⟩
   ·exact ⟨_,hy⟩
   ·exact ⟨_,hb⟩
  obtain ⟨q,hq⟩:=hs1
  obtain ⟨id,es',hmid,qp,hwp⟩:=hstep _ _ _ hq
  obtain ⟨⟨L,hL,Ww⟩,CH⟩:=M.here id hmid
  have:=CH es' qp
  subst this
  obtain ⟨L',ms2,ck2,Fg,z1,z2,z3,z4,z5,z6,z7,z8⟩:=uk.live id _ (dZ qp)
  rw [hL] at z1;cases z1
  rw [Ww,hm2] at z3;cases z3
  obtain ⟨e0,he0,hk,hv⟩:=z4.at hi
  have hat:dB.getD i (wY.zero,yZ.zero)=e0:=by
   have hil:i<dB.length:=by
    have:=(List.getElem?_eq_some_iff.1 hbi).1
    rw [M.len];exact this
   have h1:dB[i]?=some dB[i]:=List.getElem?_eq_getElem hil
   have h2:=M.hke i _ en.key h1 (by rw [←M.hkz,List.getElem?_map,hi];rfl)
   have h3:=hdE.inj (hp0.mem_iff.1 (List.getElem_mem hil)) (z7.mem_iff.1 (List.mem_of_getElem? he0)) (Rw hkT h2 hk)
   rw [List.getD_eq_getElem?_getD,h1]
   exact h3
  rw [hat] at hq hwp H9
  have hx0:=HW x
  let L0:Loc:=⟨r,0,0,0⟩
  have M1:Inv P Y0 ι (μ.set aC L0) ⟨aC+1,(I x).H.bl⟩ w2:=by rw [←hx0];exact uk.name L0
  have hnone:μ aC=none:=by rw [←hx0];exact uk.nx _ (Nat.le_refl _)
  have hle:=Mu.fD (L:=L0) hnone
  have hRs:eG P N (Y0.side w2 ι (μ.set aC L0) r) ι (μ.set aC L0) ⟨(qo,.ptr aC 0)::(I x).env,⟨aC+1,(I x).H.bl⟩,(I x).ms⟩ a2 w2:=by
   refine ⟨fun t=>?_,hRa.sz,M1.into C3,hRa.ms.mono hle⟩
   rw [bT]
   split
   ·rename_i e; subst e
    rw [W8]
    have:=Rel.ptr (ι:=ι) (μ:=μ.set aC L0) aC 0 L0 (by simp [Mu.set])
    exact this
   ·exact (hRa.env t).mono (aj.le_refl _) hle
  have cD:=run_entry_at (P:=P) w2 r bm clock seen ms clock' en C3 hm2 W9.1 (by rw [M.US];exact M.nd)
  have M3:kj (Y0.side w2 ι (μ.set aC L0) r) out:=(Qr.WD hout).up (Mu.le_trans M.rep.inv.m0 hle)
  have iF:(Y0.side w2 ι (μ.set aC L0) r).base (aC+1):=fun id hid=>M1.nx id hid
  have hF:(Y0.side w2 ι (μ.set aC L0) r).F=Y.F:=Qr.F
  rw [←hF]
  refine wpIn_mono (MY (Y:=Y0.side w2 ι (μ.set aC L0) r) (gP (aC+1)) J9 hbd M3 iF hRs W8 cD (hk.rel) (hv.rel) hwp) fun e3 a3 w3 hp=>?_
  obtain ⟨Y1,MJ,ι3,μ3,S3,ex,LD,Dx,Ri⟩:=hp
  have pS:Inv P (Y0.side w2 ι (μ.set aC L0) r) ι3 μ3 S3.H w3:=MJ.inv LD.inv
  have Ry:(μ.set aC L0).le μ3:=pS.m0
  have abv:=(Array.getElem?_eq_some_iff.1 C3).1
  obtain ⟨Y2,hY2,M4,-,-,-,Bh,-,M5⟩:=MJ.lift (Yb:=Y0) (r:=r) (fun h=>M1.abl h) (fun b hb=>by
   rcases hb with hb|hb
   ·exact .inl (Nat.le_trans abt hb)
   ·exact hb.1) rfl (Mu.le_trans M.rep.inv.m0 hle) rfl ⟨abv,fun h=>by
    rcases h with h|h
    ·have : w2.heap.size ≤ r := h
     omega
    ·exact h.2 rfl⟩ M.own
  have hYt:=Qr.trans hY2
  have Ia:Inv P Y2 ι3 μ3 S3.H w3:=M4 LD.inv
  have hms3:jl Y2.hid μ3 S3.ms a3.defers:=by rw [Bh];exact LD.ms
  cases q with
  |inr b =>
   obtain ⟨hne3,hex,π3,Ib⟩:=Ri
   obtain ⟨res,hr,hK⟩:=H9 _ (.refl _)
   have hres:res = .inr b:=by
    rcases DA hr with ⟨y,hy⟩|⟨b',hb,h⟩
    ·rw [hq] at hy;cases hy
    ·rw [hq] at hb;cases hb;exact h
   subst hres
   have hRb:=Ib.rep (hYt.tX hbase) (⟨LD.env,LD.sz,Ia,hms3⟩:eG P N Y2 ι3 μ3 S3 a3 w3)
   subst hex
   simp only at hK
   generalize hxb:(X b).1=xb at hK Dx hne3
   cases xb with
   |normal=>exact absurd rfl hne3
   |exit i' =>
    cases Dx
    refine ⟨Y2,hYt,ι3,_,_,.exit i',hRb,rfl,?_⟩
    simp only [DB] at hK
    split at hK
    ·rename_i hb;simp only [hb];exact hK
    ·rename_i hb;simp only [hb];exact hK
   |ret=>cases Dx;exact ⟨Y2,hYt,ι3,_,_,.ret,hRb,rfl,hK⟩
  |inl y =>
   obtain ⟨rfl,hit3,hmn3,Bz,π3,Ib⟩:=Ri
   cases Dx
   have hRf:eG P N Y2 ι3 μ3 ⟨ef (qo::[n,ok]) S3.env,S3.H,S3.ms⟩ a3 w3:=⟨LD.env.forget _,LD.sz,Ia,hms3⟩
   have hRy:=Ib.rep (hYt.tX hbase) hRf
   have hbm3 : w3.heap[bm]? = some (.map ms clock') ∨ ∃ UW ck3, w3.heap[bm]? = some (.map UW ck3) := .inr (by
    obtain ⟨L3,UW,ck3,es3,y1,y2,y3,_⟩:=Ia.live id _ (dZ Bz)
    rw [Ry _ _ (hle _ _ hL)] at y1;cases y1
    exact ⟨UW,ck3,by rw [←Ww];exact y3⟩)
   obtain ⟨L3,UW,ck3,es3,y1,y2,y3,y4,y5,y6,y7,_⟩:=Ia.live id _ (dZ Bz)
   rw [Ry _ _ (hle _ _ hL)] at y1;cases y1
   rw [Ww] at y3
   have abA:bm<w2.heap.size:=(Array.getElem?_eq_some_iff.1 hm2).1
   have hgrow:=pS.below.maps bm abA ms clock' hm2
   obtain ⟨ms4,ck4,g1,g2,g3⟩:=hgrow
   rw [y3] at g1;cases g1
   have hbk:(UW.toList.map fun m=>(m.born,m.key))=ms.toList.map fun m=>(m.born,m.key):=by
    refine (g2.eq_of_length ?_).symm
    have h1:=uk.live id _ (dZ qp)
    have h2:ms.toList.length=bs.length:=by rw [←M.US,List.length_map]
    rw [List.length_map,List.length_map,eO.length y4,y7.length_eq,←hp0.length_eq,hlen,h2]
   have wu:UW.toList.map (·.born)=bs:=by
    have:=congrArg (List.map Prod.fst) hbk
    rw [←M.US];simpa [List.map_map,Function.comp_def] using this
   have hkeys:UW.toList.map (·.key)=kz:=by
    have:=congrArg (List.map Prod.snd) hbk
    rw [←M.hkz];simpa [List.map_map,Function.comp_def] using this
   refine ⟨⟨todo.erase i,y⟩,⟨⟨Y2,hYt,ι3,_,seen.push en.born,clock',UW,ck3,hRy,?_,M5,?_,M.ck,Nat.le_trans M.ck g3,y3,wu,hkeys,fun i e z he hz=>(M.hke i e z he hz).mono (fun b o x hx=>pS.i0 b o x hx),M.old,M.nd,M.len,M.td.erase i,fun j=>?_,?_⟩,fun J hJ=>?_⟩,?_⟩
   ·have := LD.env qo
    rw [hit3] at this
    generalize a3.tmps.getD qo undef=tv at this ⊢
    cases this with
    |ptr _ _ L4 h4 =>
     rw [Ry aC L0 (by simp [Mu.set])] at h4
     cases h4
     rfl
   ·have := pS.below.block r (Array.getElem?_eq_some_iff.1 C3).1 (fun h => h.2 rfl)
    rw [this];exact C3
   ·rw [List.Nodup.mem_erase_iff M.td, M.left j]
    simp only [Array.toList_push,List.mem_append,List.mem_singleton]
    constructor
    ·rintro ⟨hj, b, hb, hs⟩
     refine ⟨b,hb,fun h=>?_⟩
     rcases h with h|h
     ·exact hs h
     ·subst h
      exact hj ((List.getElem?_inj (List.getElem?_eq_some_iff.1 hb).1 M.nd).1 (hb.trans hbi.symm))
    ·rintro ⟨b, hb, hs⟩
     refine ⟨fun e=>?_,b,hb,fun h=>hs (.inl h)⟩
     subst e
     rw [hbi] at hb;cases hb
     exact hs (.inr rfl)
   ·exact fun yK h2=>H8 Ib hmn3 Bz (Ry _ _ (hle _ _ hL)) Ww yK h2
   ·obtain ⟨res, h, hK⟩ := H9 J hJ
    simp only [yX,hq] at h
    exact ⟨res,h,hK⟩
   ·rw [List.length_erase_of_mem Gb]
    have:=List.length_pos_of_mem Gb
    show todo.length - 1<todo.length
    omega
end
end Go.AM
end
section
namespace Go.AM
structure Kz (R:Type) where
 br:Bool→R→R→R
 am:R→R→R
 nd:Bool→R→R
 no:R
 bd:{A:Type}→Option A→(A→R)→R
 sm:{A B:Type}→A ⊕ B→(A→R)→(B→R)→R
 an:{E:Type}→List E→(List E→R)→R
noncomputable def need {X:Type} (c:Bool) (x:Option X):Option X:=@ite _ (c=true) (Classical.propDecidable _) x none
noncomputable def um {X:Type} (c:Bool) (x y:Option X):Option X:=@ite _ (c=true) (Classical.propDecidable _) x y
noncomputable def DD {X:Type} (x y:Option X):Option X:=@ite _ (x=y) (Classical.propDecidable _) x none
noncomputable def cZ {A X:Type} (o:Option A) (f:A→Option X):Option X:=@dite _ (∃a,o=some a) (Classical.propDecidable _) (fun h=>f h.choose) (fun _=>none)
@[reducible] noncomputable def jg (X:Type):Kz (Option X) where
 br c a b:=um c a b
 am a b:=DD a b
 nd c a:=need c a
 no:=none
 bd o f:=cZ o f
 sm s f g:=match s with
  | .inl a=>f a
  | .inr b=>g b
 an es f:=iE f es
theorem Ke {X:Type} {x y:Option X} {r:X} (h:DD x y=some r):x=some r∧y=some r:=by
 unfold DD at h
 split at h
 ·rename_i e;exact ⟨h,e▸h⟩
 ·cases h
@[simp] theorem Aa {X:Type} {x:Option X}:DD x x=x:=by unfold DD;rw [if_pos rfl]
theorem gQ {X:Type} {c:Bool} {x:Option X} (h:c=true):need c x=x:=by unfold need;rw [if_pos h]
@[simp] theorem au {X:Type} {x:Option X}:need true x=x:=gQ rfl
@[simp] theorem Xa {X:Type} {x:Option X}:need false x=none:=by unfold need;rw [if_neg (by simp)]
@[simp] theorem bK {X:Type} {x y:Option X}:um true x y=x:=by unfold um;rw [if_pos rfl]
@[simp] theorem bq {X:Type} {x y:Option X}:um false x y=y:=by unfold um;rw [if_neg (by simp)]
@[simp] theorem aJ {A X:Type} {a:A} {f:A→Option X}:cZ (some a) f=f a:=by
 have h:∃b,some a=some b:=⟨a,rfl⟩
 unfold cZ;rw [dif_pos h]
 have:=h.choose_spec
 rw [←Option.some.inj this]
@[simp] theorem o5 {A X:Type} {f:A→Option X}:cZ none f=none:=by
 unfold cZ;rw [dif_neg];rintro ⟨a,h⟩;cases h
theorem cR {X:Type} {c:Bool} {x:Option X} {r:X} (h:need c x=some r):c=true∧x=some r:=by
 cases c<;>simp at h ⊢;exact h
theorem qq {A X:Type} {o:Option A} {f:A→Option X} {r:X} (h:cZ o f=some r):∃a,o=some a∧f a=some r:=by
 cases o<;>simp at h ⊢;exact h
theorem o9 {X A:Type} {o:Option A} {f:A→Option X} {r:X} (h:(jg X).bd o f=some r):∃a,o=some a∧f a=some r:=qq h
theorem iG {X:Type} {c:Bool} {x y:Option X} {r:X} (h:um c x y=some r):(c=true∧x=some r)∨(c=false∧y=some r):=by
 cases c<;>simp at h ⊢<;>exact h
section
variable {R:Type}
def fV (v:V) (k:V→R):R:=match v with
 | .any=>k .any
 | .tf b=>match b with
  |true=>k (.tf true)
  |false=>k (.tf false)
 | .bool b=>k (.bool b)
 | .int ik n=>k (.int ik n)
 | .str s=>k (.str s)
 | .eB=>k .eB
 | .cF=>k .cF
 | .eX=>k .eX
 | .eL t xs=>k (.eL t xs)
 | .bW=>k .bW
 | .sl id t lo n=>k (.sl id t lo n)
 | .ptr id off=>k (.ptr id off)
 | .ff cs=>k (.ff cs)
 | .ep id t i p=>k (.ep id t i p)
 | .ip t x=>k (.ip t x)
 | .fn f a b=>k (.fn f a b)
 | .yl id=>k (.yl id)
 | .agg cs=>k (.agg cs)
 | .cK vs=>k (.cK vs)
 | .cq t v=>k (.cq t v)
 | .cb c=>k (.cb c)
 | .mp id=>k (.mp id)
 | .cC=>k .cC
 | .pa id t n=>k (.pa id t n)
 | .lg t xs=>k (.lg t xs)
 | .sp id o l=>k (.sp id o l)
theorem nE (v:V) (k:V→R):fV v k=k v:=by
 cases v<;>try rfl
 rename_i b;cases b<;>rfl
def fN (n:Nat) (k:Nat→R):R:=match n with
 |0=>k 0
 |n+1=>k (n+1)
theorem fO (n:Nat) (k:Nat→R):fN n k=k n:=by cases n<;>rfl
def uG (d:Option Nat) (v:V) (env:Env) (k:Env→R):R:=match d with
 |some t=>k ((t,v)::env)
 |none=>k env
theorem lE (d:Option Nat) (v:V) (env:Env) (k:Env→R):uG d v env k=k (put d v env):=by cases d<;>rfl
def pT (id : Nat) : ai → (ai → R) → R
 |[],k=>k []
 |(s,b)::r,k=>match Nat.beq s id with
  |true=>pT id r k
  |false=>pT id r fun r'=>k ((s,b)::r')
theorem kA (id : Nat) : ∀ (bl : ai) (k : ai → R), pT id bl k = k (bn id bl)
 |[],k=>rfl
 |(s,b)::r,k=>by
  simp only [pT,bn]
  split<;>rename_i h<;>simp only [h]<;>exact kA id r _
def gR : eC → ai → (ai → R) → R
 |[],bl,k=>k bl
 |(id,none)::r,bl,k=>pT id bl fun bl=>gR r bl k
 |(id,some b)::r,bl,k=>pT id bl fun bl=>gR r ((id,b)::bl) k
theorem fP : ∀ (u : eC) (bl : ai) (k : ai → R), gR u bl k = k (bw u bl)
 |[],_,_=>rfl
 |(id,none)::r,bl,k=>by simp only [gR,kA,bw];exact fP r _ k
 |(id,some b)::r,bl,k=>by simp only [gR,kA,bw];exact fP r _ k
def rA (kz : Kz R) : List Bool → R → R
 |[],k=>k
 |b::r,k=>kz.nd b (rA kz r k)
structure Cx where
 pc:{R:Type}→Kz R→Nat→List V→(V→R)→R
 ca:{R:Type}→Kz R→Nat→List V→Nat→ai→(V→Nat→ai→R)→R
 rd:{R:Type}→Kz R→Nat→List V→Nat→ai→(V→Nat→ai→R)→R
 op:Nat:=0
structure Cx.Ok (P:Program) (cx:Cx):Prop where
 UX:∀{X:Type} {f:Nat} {vs:List V} {K:V→Option X} {r:X},cx.pc (jg X) f vs K=some r→∃v,gL P f vs v∧K v=some r
 Rz:∀{X:Type} {f:Nat} {vs:List V} {nx:Nat} {bl:ai} {K:V→Nat→ai→Option X} {r:X},cx.ca (jg X) f vs nx bl K=some r →
  ∀{Q:V→aF→Prop},(∀v nx bl,K v nx bl=some r→Q v ⟨nx,bl⟩)→gN P f vs ⟨nx,bl⟩ Q
 Xb:∀{X:Type} {id:Nat} {vs:List V} {nx:Nat} {bl:ai} {K:V→Nat→ai→Option X} {r:X},cx.rd (jg X) id vs nx bl K=some r →
  ∀{Q:V→aF→Prop},(∀v nx bl,K v nx bl=some r→Q v ⟨nx,bl⟩)→around P id vs ⟨nx,bl⟩ Q
def Cx.mJ (cx:Cx) (n:Nat):Cx:={ cx with op:=n }
def BA (kz:Kz R) (g:Option (Nat×Bool)) (env:Env) (skip run:Env→R):R:=match g with
 |none=>run env
 |some (s,b)=>match get s env with
  | .tf c=>match c,b with
   |true,true=>run env
   |false,false=>run env
   |true,false=>skip env
   |false,true=>skip env
  | .bool c => kz.br c
   (match b with
    |true=>run ((s,.tf true)::env)
    |false=>skip ((s,.tf true)::env))
   (match b with
    |false=>run ((s,.tf false)::env)
    |true=>skip ((s,.tf false)::env))
  | .cK _=>skip env
  |_=>kz.no
def UY (kz:Kz R) (op:Nat) (ar:Ar) (bl:ai) (k:ai→R):R:=match op with
 |0=>k bl
 |n+1=>match (match n with
   |0=>LU bl
   |_+1=>AX bl) with
  |[]=>k bl
  |ids=>match LB ar ids bl with
   |some u=>gR u bl k
   |none=>kz.no
def dmOp : Nat → Nat
 |0=>0
 |_+1=>1
def kI (kz : Kz R) (cx : Cx) (ar : Ar) : List eN → Env → Nat → ai → (Env → Nat → ai → R) → R
 |[],env,nx,bl,K=>K env nx bl
 | .op d g i::r,env,nx,bl,K=>BA kz g env (fun env=>uG d (.cK []) env fun env=>kI kz cx ar r env nx bl K) fun env =>
   match cx.op with
   |0=>(match UQ ar i env bl nx with
    |some (ob,v,u)=>rA kz ob (fV v fun v=>uG d v env fun env=>match i.lays with
     |true=>fN (nx+1) fun nx=>gR u bl fun bl=>kI kz cx ar r env nx bl K
     |false=>gR u bl fun bl=>kI kz cx ar r env nx bl K)
    |none=>kz.no)
   |_+1=>match yQ ar i env bl nx with
    |some (ob,v,u)=>rA kz ob (fV v fun v=>uG d v env fun env=>match i.lays with
     |true=>fN (nx+1) fun nx=>gR u bl fun bl=>kI kz cx ar r env nx bl K
     |false=>gR u bl fun bl=>kI kz cx ar r env nx bl K)
    |none=>match UQ ar i env bl nx with
     |some (ob,v,u)=>rA kz ob (fV v fun v=>uG d v env fun env=>match i.lays with
      |true=>fN (nx+1) fun nx=>gR u bl fun bl=>kI kz cx ar r env nx bl K
      |false=>gR u bl fun bl=>kI kz cx ar r env nx bl K)
     |none=>UY kz 1 ar bl fun bl=>match UQ ar i env bl nx with
      |some (ob,v,u)=>rA kz ob (fV v fun v=>uG d v env fun env=>match i.lays with
       |true=>fN (nx+1) fun nx=>gR u bl fun bl=>kI kz cx ar r env nx bl K
       |false=>gR u bl fun bl=>kI kz cx ar r env nx bl K)
      |none=>kz.no
 | .call d g f a tys::r,env,nx,bl,K=>BA kz g env (fun env=>uG d (.cK []) env fun env=>kI kz cx ar r env nx bl K) fun env=>UY kz (dmOp cx.op) ar bl fun bl =>
   match f.ev env with
   | .fn f fs cs=>cx.ca kz f (fs++cO tys (a.map (·.ev env))++cs) nx bl fun v nx bl=>fV v fun v=>uG d v env fun env=>kI kz cx ar r env nx bl K
   | .yl id=>cx.rd kz id (cO tys (a.map (·.ev env))) nx bl fun v nx bl=>fV v fun v=>uG d v env fun env=>kI kz cx ar r env nx bl K
   |_=>kz.no
def Ab (kz:Kz R) (gs:List Nat) (d:Option Nat) (v:V) (env:Env) (K:Env→R):R:=match d with
 |none=>K env
 |some t=>match A5 t gs with
  |false=>K ((t,v)::env)
  |true=>match v with
   | .bool c=>kz.br c (K ((t,.tf true)::env)) (K ((t,.tf false)::env))
   |v=>K ((t,v)::env)
def Qs (kz : Kz R) (cx : Cx) (ar : Ar) (gs : List Nat) (b : Nat) : List eN → Nat → Env → ai → List DR → (Env → ai → List DR → R) → R
 |[],_,env,bl,dc,K=>K env bl dc
 | .op d g i::r,k,env,bl,dc,K=>match HF g env with
  |some true=>match (match cx.op with
    |0=>none
    |_+1=>yQ ar i env bl (b+k)) with
   |some (ob,v,u)=>rA kz ob (fV v fun v=>Ab kz gs d v env fun env'=>gR u bl fun bl=>Qs kz cx ar gs b r (k+1) env' bl (vS k (mP i env) (u.map (·.1)) dc) K)
   |none=>match UQ ar i env bl (b+k) with
    |some (ob,v,u)=>rA kz ob (fV v fun v=>Ab kz gs d v env fun env'=>gR u bl fun bl=>Qs kz cx ar gs b r (k+1) env' bl (vS k (mP i env) (u.map (·.1)) dc) K)
    |none=>kz.no
  |some false=>uG d (.cK []) env fun env=>Qs kz cx ar gs b r (k+1) env bl dc K
  |none=>kz.no
 | .call d g f a tys::r,k,env,bl,dc,K=>match HF g env with
  |some true=>match f.ev env with
   | .fn f fs cs=>match fs++cO tys (a.map (·.ev env))++cs with
    |vs=>match dh (fin ar bl 8) vs with
     |some vs'=>cx.pc kz f vs' fun x=>fV x fun x=>match CU x||vs.all (dK 8) with
      |true=>Ab kz gs d x env fun env'=>Qs kz cx ar gs b r (k+1) env' bl (vS k (jB bl vs) [] dc) K
      |false=>match vT (jB bl vs) bl with
       |some u=>Ab kz gs d x env fun env'=>gR u bl fun bJ=>Qs kz cx ar gs b r (k+1) env' bJ (vS k (jB bl vs) (u.map (·.1)) dc) K
       |none=>kz.no
     |none=>kz.no
   |_=>kz.no
  |some false=>uG d (.cK []) env fun env=>Qs kz cx ar gs b r (k+1) env bl dc K
  |none=>kz.no
end
abbrev Kc (R:Type):=Ex→Env→Nat→ai→List Nat→R
structure cn (P:Program) (N:Nat) (out:Option Nat) (base:Nat):Type 1 where
 c:C
 run:{R:Type}→Kz R→Env→Nat→ai→List Nat→Kc R→R
 ok:∀{X:Type} {env:Env} {nx:Nat} {bl:ai} {ms:List Nat} {K:Kc (Option X)} {r:X},run (jg X) env nx bl ms K=some r →
  ∀{Q:Ex→St→Prop},(∀e env nx bl ms,K e env nx bl ms=some r→Q e ⟨env,⟨nx,bl⟩,ms⟩)→(fI P N out base).loop c ⟨env,⟨nx,bl⟩,ms⟩ Q
structure gn (P:Program) (N:Nat) (out:Option Nat) (base:Nat):Type 1 where
 f:O
 ps:List Nat
 a:C
 b:C
 run:{R:Type}→Kz R→Env→Nat→ai→List Nat→Kc R→R
 ok:∀{X:Type} {env:Env} {nx:Nat} {bl:ai} {ms:List Nat} {K:Kc (Option X)} {r:X},run (jg X) env nx bl ms K=some r →
  ∀{Q:Ex→St→Prop},(∀e env nx bl ms,K e env nx bl ms=some r→Q e ⟨env,⟨nx,bl⟩,ms⟩)→(fI P N out base).bF f ps a b ⟨env,⟨nx,bl⟩,ms⟩ Q
structure rB (P:Program) (N:Nat) (out:Option Nat) (base:Nat):Type 1 where
 pre:List eN
 m:O
 it:Nat
 cl:List Nat
 e:Option Nat
 kt:Ty
 kg:Bool
 vt:Ty
 vg:Bool
 pM:Nat
 b:C
 run:{R:Type}→Kz R→Env→Nat→ai→List Nat→Kc R→R
 ok:∀{X:Type} {env:Env} {nx:Nat} {bl:ai} {ms:List Nat} {K:Kc (Option X)} {r:X},run (jg X) env nx bl ms K=some r →
  ∀{Q:Ex→St→Prop},(∀e env nx bl ms,K e env nx bl ms=some r→Q e ⟨env,⟨nx,bl⟩,ms⟩)→(fI P N out base).gF (.gF pre m it cl e kt kg vt vg pM b) ⟨env,⟨nx,bl⟩,ms⟩ Q
structure Gc (P:Program) (N:Nat) (out:Option Nat) (base:Nat) (f:O) (ps:List Nat) (a b:C):Type 1 where
 run:{R:Type}→Kz R→Env→Nat→ai→List Nat→Kc R→R
 ok:∀{X:Type} {env:Env} {nx:Nat} {bl:ai} {ms:List Nat} {K:Kc (Option X)} {r:X},run (jg X) env nx bl ms K=some r →
  ∀{Q:Ex→St→Prop},(∀e env nx bl ms,K e env nx bl ms=some r→Q e ⟨env,⟨nx,bl⟩,ms⟩)→(fI P N out base).bF f ps a b ⟨env,⟨nx,bl⟩,ms⟩ Q
def Gc.s {P:Program} {N:Nat} {out:Option Nat} {base:Nat} {f:O} {ps:List Nat} {a b:C} (T:Gc P N out base f ps a b):gn P N out base:=⟨f,ps,a,b,T.run,T.ok⟩
inductive D (P:Program) (N:Nat) (out:Option Nat) (base:Nat):Type 1 where
 |skip
 |aO (items:List eN)
 |draw (cS:List (List Nat)) (items:List eN)
 |seq (a b:D P N out base)
 |cond (c:O) (a b:D P N out base)
 |block (id:Nat) (c:D P N out base)
 |loop (l:cn P N out base)
 |exit (id:Nat)
 |ret
 |bF (l:gn P N out base)
 |gF (l:rB P N out base)
section
variable {P:Program} {N:Nat} {out:Option Nat} {base:Nat} {R:Type}
def D.er : D P N out base → C
 | .skip=>.skip
 | .aO is=>.aO is
 | .draw ps is=>.draw ps is
 | .seq a b=>.seq a.er b.er
 | .cond c a b=>.cond c a.er b.er
 | .block id c=>.block id c.er
 | .loop l=>.loop l.c
 | .exit id=>.exit id
 | .ret=>.ret
 | .bF l=>.bF l.f l.ps l.a l.b
 | .gF l=>.gF l.pre l.m l.it l.cl l.e l.kt l.kg l.vt l.vg l.pM l.b
def rwK (c:O) (b:Bool) (env:Env):Env:=match c with
 | .t n=>(n,.tf b)::env
 | .c _=>env
 | .m _ _=>env
def kE (kz : Kz R) (cx : Cx) (ar : Ar) : D P N out base → Env → Nat → ai → List Nat → Kc R → R
 | .skip,env,nx,bl,ms,K=>K .normal env nx bl ms
 | .aO is,env,nx,bl,ms,K=>kI kz cx ar is env nx bl fun env nx bl=>K .normal env nx bl ms
 | .draw ps is,env,nx,bl,ms,K=>Qs kz cx ar (vW is) nx is 0 env bl [] fun env bl dc=>match Mb ps dc with
  |true=>fN (nx+is.length) fun nx=>K .normal env nx bl ms
  |false=>kz.no
 | .seq a b,env,nx,bl,ms,K=>kE kz cx ar a env nx bl ms fun e env nx bl ms=>match e with
  | .normal=>kE kz cx ar b env nx bl ms K
  | .exit id=>K (.exit id) env nx bl ms
  | .ret=>K .ret env nx bl ms
 | .cond c a b,env,nx,bl,ms,K=>match c.ev env with
  | .tf true=>kE kz cx ar a env nx bl ms K
  | .tf false=>kE kz cx ar b env nx bl ms K
  | .bool x=>kz.br x (kE kz cx ar a (rwK c true env) nx bl ms K) (kE kz cx ar b (rwK c false env) nx bl ms K)
  | .cb x=>kz.br x (kz.am (kE kz cx ar a (rwK c true env) nx bl ms K) (kE kz cx ar b (rwK c false env) nx bl ms K)) (kE kz cx ar b (rwK c false env) nx bl ms K)
  |_=>kz.no
 | .block id c,env,nx,bl,ms,K=>kE kz cx ar c env nx bl ms fun e env nx bl ms=>match e with
  | .normal=>K .normal env nx bl ms
  | .exit id'=>match Nat.beq id' id with
   |true=>K .normal env nx bl ms
   |false=>K (.exit id') env nx bl ms
  | .ret=>K .ret env nx bl ms
 | .loop l,env,nx,bl,ms,K=>UY kz cx.op ar bl fun bl=>l.run kz env nx bl ms K
 | .exit id,env,nx,bl,ms,K=>K (.exit id) env nx bl ms
 | .ret,env,nx,bl,ms,K=>K .ret env nx bl ms
 | .bF l,env,nx,bl,ms,K=>UY kz cx.op ar bl fun bl=>l.run kz env nx bl ms K
 | .gF l,env,nx,bl,ms,K=>UY kz cx.op ar bl fun bl=>l.run kz env nx bl ms K
variable {X:Type} {cx:Cx}
theorem nh {ob:List Bool} {x:Option X} {r:X} (h:rA (jg X) ob x=some r):uB ob∧x=some r:=by
 induction ob with
 |nil=>exact ⟨trivial,h⟩
 |cons b l ih =>
  obtain ⟨h1,h2⟩:=cR h
  obtain ⟨h3,h4⟩:=ih h2
  cases l with
  |nil=>exact ⟨h1,h4⟩
  |cons c l=>exact ⟨⟨h1,h3⟩,h4⟩
theorem Ad {g : Option (Nat × Bool)} {env : Env} {nx : Nat} {bl : ai} {ms : List Nat} {skip run : Env → Option X} {r : X} (h : BA (jg X) g env skip run = some r) {d : Option Nat} {K run' : St → Prop}
  (hs:∀env,skip env=some r→K ⟨put d (.cK []) env,⟨nx,bl⟩,ms⟩) (hr:∀env,run env=some r→run' ⟨env,⟨nx,bl⟩,ms⟩):oS g d ⟨env,⟨nx,bl⟩,ms⟩ K run':=by
 unfold BA at h
 unfold oS
 split at h
 ·exact hr _ h
 ·rename_i s b
  simp only
  split at h
  ·rename_i c hc
   rw [hc]
   cases c<;>cases b<;>simp only at h ⊢
   ·exact hr _ h
   ·exact hs _ h
   ·exact hs _ h
   ·exact hr _ h
  ·rename_i c hc
   rw [hc]
   rcases iG h with ⟨e,h⟩|⟨e,h⟩
   ·refine ⟨fun _ => ?_, fun e' => by rw [e] at e'; cases e'⟩
    cases b<;>simp only at h ⊢
    ·exact hs _ h
    ·exact hr _ h
   ·refine ⟨fun e' => (by rw [e] at e'; cases e'), fun _ => ?_⟩
    cases b<;>simp only at h ⊢
    ·exact hr _ h
    ·exact hs _ h
  ·rename_i hc
   rw [hc]
   exact hs _ h
  ·cases h
theorem M6 {op:Nat} {bl:ai} {k:ai→Option X} {r:X} (h:UY (jg X) op ez bl k=some r):k bl=some r∨∃ids u,LB (fI P N out base) ids bl=some u∧k (bw u bl)=some r:=by
 unfold UY at h
 split at h
 ·exact .inl h
 ·split at h
  ·exact .inl h
  ·split at h <;> try (cases h; done)
   rename_i u hu
   rw [fP] at h
   exact .inr ⟨_,u,by unfold fI;rw [MN];exact hu,h⟩
theorem BC {op:Nat} {env:Env} {nx:Nat} {bl:ai} {ms:List Nat} {k:ai→Option X} {r:X} (h:UY (jg X) op ez bl k=some r) {K:St→Prop} (hK:∀bl,k bl=some r→K ⟨env,⟨nx,bl⟩,ms⟩):LV (fI P N out base) ⟨env,⟨nx,bl⟩,ms⟩ K:=by
 rcases M6 (P:=P) (N:=N) (out:=out) (base:=base) h with h|⟨ids,u,hu,h⟩
 ·exact .inl (hK _ h)
 ·exact .inr ⟨ids,u,hu,hK _ h⟩
theorem ow (gp:cx.Ok P):∀{is:List eN} {env:Env} {nx:Nat} {bl:ai} {ms:List Nat} {K:Env→Nat→ai→Option X} {r:X} {Q:St→Prop},kI (jg X) cx ez is env nx bl K=some r →
  (∀env nx bl,K env nx bl=some r→Q ⟨env,⟨nx,bl⟩,ms⟩)→fB (fI P N out base) is ⟨env,⟨nx,bl⟩,ms⟩ Q
 |[],env,nx,bl,ms,K,r,Q,h,hK=>hK _ _ _ h
 | .op d g i::is,env,nx,bl,ms,K,r,Q,h,hK=>by
  simp only [kI] at h
  simp only [fB]
  have body:∀{env:Env} {bl:ai} {ob:List Bool} {v:V} {u:eC},UQ ez i env bl nx=some (ob,v,u) →
    rA (jg X) ob (fV v fun v=>uG d v env fun env=>match i.lays with
     |true=>fN (nx+1) fun nx=>gR u bl fun bl=>kI (jg X) cx ez is env nx bl K
     |false=>gR u bl fun bl=>kI (jg X) cx ez is env nx bl K)=some r →
    bX (fI P N out base) i env bl nx=some (ob,v,u)∧uB ob∧fB (fI P N out base) is ⟨put d v env,⟨LC i.lays nx,bw u bl⟩,ms⟩ Q:=by
   intro env bl ob v u ag h
   obtain ⟨cV,h⟩:=nh h
   rw [nE,lE] at h
   rw [MT] at ag
   refine ⟨by unfold fI;rw [ML];exact ag,cV,?_⟩
   split at h
   ·rename_i hl
    rw [fO,fP] at h
    simp only [hl,LC]
    exact ow gp h hK
   ·rename_i hl
    rw [fP] at h
    simp only [hl,LC]
    exact ow gp h hK
  refine Ad h (fun env h=>?_) (fun env h=>?_)
  ·rw [lE] at h;exact ow gp h hK
  ·split at h
   ·split at h
    ·rename_i ob v u ag
     obtain ⟨h1,h2,h3⟩:=body ag h
     exact Bu h1 h2 h3
    ·cases h
   ·split at h
    ·rename_i ob v u ag
     obtain ⟨cV,h⟩:=nh h
     rw [nE,lE] at h
     refine WX (by unfold fI;rw [MM];exact ag) cV ?_
     split at h
     ·rename_i hl
      rw [fO,fP] at h
      simp only [hl,LC]
      exact ow gp h hK
     ·rename_i hl
      rw [fP] at h
      simp only [hl,LC]
      exact ow gp h hK
    ·split at h
     ·rename_i ob v u ag
      obtain ⟨h1,h2,h3⟩:=body ag h
      exact Bu h1 h2 h3
     ·rcases M6 (P := P) (N := N) (out := out) (base := base) h with h | ⟨ids, u', hu, h⟩
      ·split at h
       ·rename_i ob v u ag
        obtain ⟨h1,h2,h3⟩:=body ag h
        exact Bu h1 h2 h3
       ·cases h
      ·split at h
       ·rename_i ob v u ag
        obtain ⟨h1,h2,h3⟩:=body ag h
        exact WY hu h1 h2 h3
       ·cases h
 | .call d g f a tys::is,env,nx,bl,ms,K,r,Q,h,hK=>by
  simp only [kI] at h
  simp only [fB]
  refine Ad h (fun env h=>?_) (fun env h=>?_)
  ·rw [lE] at h;exact ow gp h hK
  ·simp only [Fw]
   refine BC h fun bl h=>?_
   simp only [uV]
   split at h
   ·rename_i f' fs cs hf
    rw [hf]
    refine gp.Rz h fun v nx bl h=>?_
    rw [nE,lE] at h
    exact ow gp h hK
   ·rename_i id hf
    rw [hf]
    refine gp.Xb h fun v nx bl h=>?_
    rw [nE,lE] at h
    exact ow gp h hK
   ·cases h
theorem rC {gs:List Nat} {d:Option Nat} {v:V} {env:Env} {K:Env→Option X} {r:X} (h:Ab (jg X) gs d v env K=some r) {K':Env→Prop} (hK:∀env,K env=some r→K' env):CV gs d v env K':=by
 unfold Ab at h
 unfold CV
 cases d with
 |none=>exact hK _ h
 |some t =>
  simp only at h ⊢
  split at h
  ·rename_i hm;rw [hm];exact hK _ h
  ·rename_i hm
   rw [hm]
   simp only
   split at h
   ·rename_i c
    simp only
    rcases iG h with ⟨e,h⟩|⟨e,h⟩
    ·exact ⟨fun _=>hK _ h,fun e'=>by rw [e] at e';cases e'⟩
    ·exact ⟨fun e'=>(by rw [e] at e';cases e'),fun _=>hK _ h⟩
   ·rename_i hv
    have:=hK _ h
    cases v<;>first|exact this|exact (hv _ rfl).elim
theorem qs (gp:cx.Ok P) {gs:List Nat} {b:Nat}:∀{is:List eN} {k:Nat} {env:Env} {bl:ai} {dc:List DR} {K:Env→ai→List DR→Option X} {r:X} {Q:Env→ai→List DR→Prop},
  Qs (jg X) cx ez gs b is k env bl dc K=some r→(∀env bl dc,K env bl dc=some r→Q env bl dc)→qR (fI P N out base) gs b is k env bl dc Q
 |[],k,env,bl,dc,K,r,Q,h,hK=>hK _ _ _ h
 | .op d g i::is,k,env,bl,dc,K,r,Q,h,hK=>by
  simp only [Qs] at h
  simp only [qR]
  split at h
  ·rename_i hg
   rw [hg]
   split at h
   ·rename_i ob v u ag
    obtain ⟨cV,h⟩:=nh h
    rw [nE] at h
    have Xc:yQ (fI P N out base) i env bl (b+k)=some (ob,v,u):=by
     unfold fI;rw [MM]
     split at ag
     ·cases ag
     ·exact ag
    refine .inr (zB Xc cV (rC h fun env h=>?_))
    rw [fP] at h
    exact qs gp h hK
   ·split at h
    ·rename_i ob v u ag
     obtain ⟨cV,h⟩:=nh h
     rw [nE] at h
     rw [MT] at ag
     have Xc:bX (fI P N out base) i env bl (b+k)=some (ob,v,u):=by unfold fI;rw [ML];exact ag
     refine .inl (zB Xc cV (rC h fun env h=>?_))
     rw [fP] at h
     exact qs gp h hK
    ·cases h
  ·rename_i hg
   rw [hg]
   rw [lE] at h
   exact qs gp h hK
  ·cases h
 | .call d g f a tys::is,k,env,bl,dc,K,r,Q,h,hK=>by
  simp only [Qs] at h
  simp only [qR]
  split at h
  ·rename_i hg
   rw [hg]
   split at h
   ·rename_i f' fs cs hf
    rw [hf]
    split at h
    ·rename_i vs' hm
     obtain ⟨v,hp,h⟩:=gp.UX h
     rw [nE] at h
     have e:dh (fin (fI P N out base) bl 8)=dh (fin ez bl 8):=funext fun vs=>mY (fun v=>by unfold fI;exact wP) vs
     simp only [e,hm]
     split at h
     ·rename_i hsc
      exact ⟨v,[],hp,by rw [hsc];rfl,rC h fun env h=>qs gp h hK⟩
     ·rename_i hsc
      split at h
      ·rename_i u hu
       exact ⟨v,u,hp,by rw [hsc];exact hu,rC h fun env h=>qs gp (by rw [fP] at h;exact h) hK⟩
      ·cases h
    ·cases h
   ·cases h
  ·rename_i hg
   rw [hg]
   rw [lE] at h
   exact qs gp h hK
  ·cases h
theorem lF (gp:cx.Ok P):∀{d:D P N out base} {env:Env} {nx:Nat} {bl:ai} {ms:List Nat} {K:Kc (Option X)} {r:X} {Q:Ex→St→Prop},kE (jg X) cx ez d env nx bl ms K=some r →
  (∀e env nx bl ms,K e env nx bl ms=some r→Q e ⟨env,⟨nx,bl⟩,ms⟩)→qS (fI P N out base) d.er ⟨env,⟨nx,bl⟩,ms⟩ Q:=by
 intro d
 induction d with
 |skip=>intro env nx bl ms K r Q h hK;exact hK _ _ _ _ _ h
 |aO is=>intro env nx bl ms K r Q h hK;exact ow gp h fun env nx bl h=>hK _ _ _ _ _ h
 |draw ps is =>
  intro env nx bl ms K r Q h hK
  refine qs gp h fun env bl dc h=>?_
  split at h
  ·rename_i hd
   rw [fO] at h
   exact ⟨hd,hK _ _ _ _ _ h⟩
  ·cases h
 |seq a b Ge Fh =>
  intro env nx bl ms K r Q h hK
  refine Ge h fun e env nx bl ms h=>?_
  cases e with
  |normal=>exact Fh h hK
  |exit id=>exact hK _ _ _ _ _ h
  |ret=>exact hK _ _ _ _ _ h
 |cond c a b Ge Fh =>
  intro env nx bl ms K r Q h hK
  simp only [kE] at h
  simp only [D.er,qS]
  have hrw:∀x env,QM c x ⟨env,⟨nx,bl⟩,ms⟩=⟨rwK c x env,⟨nx,bl⟩,ms⟩:=fun x env=>by cases c<;>rfl
  split at h
  ·rename_i hc;rw [hc];exact Ge h hK
  ·rename_i hc;rw [hc];exact Fh h hK
  ·rename_i x hc
   rw [hc]
   rcases iG h with ⟨e,h⟩|⟨e,h⟩
   ·refine ⟨fun _ => ?_, fun e' => by rw [e] at e'; cases e'⟩
    rw [hrw];exact Ge h hK
   ·refine ⟨fun e' => (by rw [e] at e'; cases e'), fun _ => ?_⟩
    rw [hrw];exact Fh h hK
  ·rename_i x hc
   rw [hc]
   rcases iG h with ⟨e,h⟩|⟨e,h⟩
   ·obtain ⟨h1, h2⟩ := Ke h
    exact ⟨fun _=>by rw [hrw];exact Ge h1 hK,by rw [hrw];exact Fh h2 hK⟩
   ·exact ⟨fun e'=>(by rw [e] at e';cases e'),by rw [hrw];exact Fh h hK⟩
  ·cases h
 |block id c ih =>
  intro env nx bl ms K r Q h hK
  refine ih h fun e env nx bl ms h=>?_
  cases e with
  |normal=>exact hK _ _ _ _ _ h
  |exit id' =>
   simp only at h ⊢
   split at h
   ·rename_i e;rw [e];exact hK _ _ _ _ _ h
   ·rename_i e;rw [e];exact hK _ _ _ _ _ h
  |ret=>exact hK _ _ _ _ _ h
 |loop l=>intro env nx bl ms K r Q h hK;exact BC h fun bl h=>l.ok h hK
 |exit id=>intro env nx bl ms K r Q h hK;exact hK _ _ _ _ _ h
 |ret=>intro env nx bl ms K r Q h hK;exact hK _ _ _ _ _ h
 |bF l=>intro env nx bl ms K r Q h hK;exact BC h fun bl h=>l.ok h hK
 |gF l=>intro env nx bl ms K r Q h hK;exact BC h fun bl h=>l.ok h hK
end
end Go.AM
end
section
namespace Go.AM
inductive CP where
 |any
 |tf (b:Bool)
 |eB
 |cF
 |eX
 |bW
 |hole (t:Ty)
 |cQ (b:Nat) (t:Ty)
 |Qt (b:Nat) (t:Ty)
 |ptr (b off:Nat)
 |yl (b:Nat)
 |ff (t:Ty)
 |fn0 (f:Nat)
 |Kf (l:CP)
 |Kg (l:CP)
 |fn (f:Nat) (a b:CP)
 |Gf (t:Nat) (g:Bool) (l:CP)
 |mp (b:Nat)
 |cC
 |pa (b:Nat) (t:Ty) (n:Nat)
 |lg (t:Ty)
 |nil
 |cons (c l:CP)
inductive SP where
 |c (c:CP)
 |agg (cs:List CP)
 |cK (cs:List CP)
 |fn (f:Nat) (a b:List CP)
 |alt (a b:List CP)
def CP.T : CP → Type → Type
 | .hole t,A=>t.den×A
 | .cQ _ _,A=>Nat×A
 | .Qt _ _,A=>Nat×Nat×A
 | .ff t,A=>t.den×A
 | .lg t,A=>List t.den×A
 | .Gf _ _ l,A=>l.T A
 | .mp _,A=>A
 | .cC,A=>A
 | .pa _ _ _,A=>A
 | .Kf l,A=>l.T A
 | .Kg l,A=>l.T A
 | .fn _ a b,A=>a.T (b.T A)
 | .cons c l,A=>c.T (l.T A)
 | .any,A=>A
 | .tf _,A=>A
 | .eB,A=>A
 | .cF,A=>A
 | .eX,A=>A
 | .bW,A=>A
 | .ptr _ _,A=>A
 | .yl _,A=>A
 | .fn0 _,A=>A
 | .nil,A=>A
def tyV : (t : Ty) → t.den → V
 | .unit,_=>.agg []
 | .bool,b=>.bool b
 | .str,s=>.str s
 | .int k,n=>.int k n
 | .list t,xs=>.eL t xs
 | .prod a b,x=>.agg (cw (.prod a b) x)
 | .cq d g t,x=>.cq d (cw.iS g (cw t x))
def CP.r : (c : CP) → {A : Type} → c.T A → A
 | .any,_,x=>x
 | .tf _,_,x=>x
 | .eB,_,x=>x
 | .cF,_,x=>x
 | .eX,_,x=>x
 | .bW,_,x=>x
 | .hole _,_,x=>x.2
 | .cQ _ _,_,x=>x.2
 | .Qt _ _,_,x=>x.2.2
 | .ptr _ _,_,x=>x
 | .yl _,_,x=>x
 | .ff _,_,x=>x.2
 | .lg _,_,x=>x.2
 | .Gf _ _ l,_,x=>l.r x
 | .mp _,_,x=>x
 | .cC,_,x=>x
 | .pa _ _ _,_,x=>x
 | .fn0 _,_,x=>x
 | .Kf l,_,x=>l.r x
 | .Kg l,_,x=>l.r x
 | .fn _ a b,_,x=>b.r (a.r x)
 | .nil,_,x=>x
 | .cons c l,_,x=>l.r (c.r x)
def CP.vs : (c : CP) → {A : Type} → c.T A → List V
 | .any,_,_=>[.any]
 | .tf b,_,_=>[.tf b]
 | .eB,_,_=>[.eB]
 | .cF,_,_=>[.cF]
 | .eX,_,_=>[.eX]
 | .bW,_,_=>[.bW]
 | .hole t,_,x=>[tyV t x.1]
 | .cQ b t,_,x=>[.sl b t 0 x.1]
 | .Qt b t,_,x=>[.sl b t x.1 x.2.1]
 | .ptr b off,_,_=>[.ptr b off]
 | .yl b,_,_=>[.yl b]
 | .ff t,_,x=>[.ff (cw t x.1)]
 | .fn0 f,_,_=>[.fn f [] []]
 | .Kf l,_,x=>[.ff (l.vs x)]
 | .Kg l,_,x=>[.agg (l.vs x)]
 | .Gf t g l,_,x=>[.cq t (cw.iS g (l.vs x))]
 | .mp b,_,_=>[.mp b]
 | .cC,_,_=>[.cC]
 | .pa b t n,_,_=>[.pa b t n]
 | .lg t,_,x=>[.lg t x.1]
 | .fn f a b,_,x=>[.fn f (a.vs x) (b.vs (a.r x))]
 | .nil,_,_=>[]
 | .cons c l,_,x=>c.vs x++l.vs (c.r x)
def MX : List V → V
 |v::_=>v
 |[]=>.any
def CP.v {A:Type} (c:CP) (x:c.T A):V:=MX (c.vs x)
def mh : List CP → Type → Type
 |[],A=>A
 |c::r,A=>c.T (mh r A)
def qt {A : Type} : (cs : List CP) → mh cs A → List V
 |[],_=>[]
 |c::r,x=>c.v x::qt r (c.r x)
def rD {A : Type} : (cs : List CP) → mh cs A → A
 |[],x=>x
 |c::r,x=>rD r (c.r x)
def SP.T : SP → Type → Type
 | .c q,A=>q.T A
 | .agg cs,A=>mh cs A
 | .cK cs,A=>mh cs A
 | .fn _ a b,A=>mh a (mh b A)
 | .alt a b,A=>mh a A ⊕ mh b A
def SP.v {A : Type} : (p : SP) → p.T A → V
 | .c q,x=>q.v x
 | .agg cs,x=>.agg (qt cs x)
 | .cK cs,x=>.cK (qt cs x)
 | .fn f a b,x=>.fn f (qt a x) (qt b (rD a x))
 | .alt a b,x=>match x with
  | .inl y=>.cK (qt a y)
  | .inr y=>.cK (qt b y)
def SP.r {A : Type} : (p : SP) → p.T A → A
 | .c q,x=>q.r x
 | .agg cs,x=>rD cs x
 | .cK cs,x=>rD cs x
 | .fn _ a b,x=>rD b (rD a x)
 | .alt a b,x=>match x with
  | .inl y=>rD a y
  | .inr y=>rD b y
def ze : List (Nat × SP) → Type → Type
 |[],A=>A
 |(_,p)::r,A=>p.T (ze r A)
def wZ {A : Type} : (ps : List (Nat × SP)) → ze ps A → Env
 |[],_=>[]
 |(s,p)::r,x=>(s,p.v x)::wZ r (p.r x)
def M7 {A : Type} : (ps : List (Nat × SP)) → ze ps A → A
 |[],x=>x
 |(_,p)::r,x=>M7 r (p.r x)
inductive BP where
 |arr (t:Ty) (fz:Bool)
 |cells (cs:List CP) (fz:Bool)
 |loop (st:qd) (j:Option Ex) (d:Nat) (env:List (Nat×SP)) (ps:List Nat) (as bd:C) (N:Nat)
 |ig
 |map (kt:Ty) (kg:Bool) (vt:Ty) (vg:Bool)
 |mJ (t:Ty) (i:Nat) (p:List Bool) (c:CP)
def BP.T : BP → Type → Type
 | .arr t _,A=>List t.den×A
 | .cells cs _,A=>mh cs A
 | .loop _ _ _ env _ _ _ _,A=>ze env A
 | .ig,A=>A
 | .map kt _ vt _,A=>List (kt.den×vt.den)×A
 | .mJ t _ _ c,A=>List t.den×c.T A
def BP.v {A : Type} : (p : BP) → p.T A → k8
 | .arr t fz,x=>.arr t x.1 fz
 | .cells cs fz,x=>.cells (qt cs x) fz
 | .loop st j d env ps as bd N,x=>.loop st j d (wZ env x) ps as bd N
 | .ig,_=>.ig
 | .map kt kg vt vg,x=>.map kt kg vt vg x.1
 | .mJ t i p c,x=>.mJ t x.1 i p (c.v x.2)
def BP.r {A : Type} : (p : BP) → p.T A → A
 | .arr _ _,x=>x.2
 | .cells cs _,x=>rD cs x
 | .loop _ _ _ env _ _ _ _,x=>M7 env x
 | .ig,x=>x
 | .map _ _ _ _,x=>x.2
 | .mJ _ _ _ c,x=>c.r x.2
def RA : List (Nat × BP) → Type → Type
 |[],A=>A
 |(_,p)::r,A=>p.T (RA r A)
def Qu {A : Type} : (ps : List (Nat × BP)) → RA ps A → ai
 |[],_=>[]
 |(s,p)::r,x=>(s,p.v x)::Qu r (p.r x)
inductive Lc where
 |slot (s:Nat)
 |part (s k:Nat)
 |cell (b k:Nat)
 |old (i:Nat)
 |mark (j:Nat)
structure az where
 env:List (Nat×SP)
 bl:List (Nat×BP)
 gH:List Lc
 ms:List Nat
def az.T (p:az):Type:=ze p.env (RA p.bl Unit)
def az.E (p:az) (x:p.T):Env:=wZ p.env x
def az.B (p:az) (x:p.T):ai:=Qu p.bl (M7 p.env x)
def az.st (base:Nat) (p:az) (x:p.T):St:=⟨p.E x,⟨base+p.gH.length,p.B x⟩,p.ms⟩
def uH : List Nat → Nat → Option Nat
 |[],_=>none
 |i::_,0=>some i
 |_::r,n+1=>uH r n
def lY : Bool → Bool → Bool
 |true,true=>true
 |false,false=>true
 |_,_=>false
def mj : (t t' : Ty) → Bool
 | .unit,.unit=>true
 | .bool,.bool=>true
 | .str,.str=>true
 | .int k,.int k'=>decide (k=k')
 | .list t,.list t'=>mj t t'
 | .prod a b,.prod a' b'=>match mj a a' with
  |true=>mj b b'
  |false=>false
 | .cq d g a,.cq d' g' a'=>match Nat.beq d d' with
  |true=>match lY g g' with
   |true=>mj a a'
   |false=>false
  |false=>false
 |_,_=>false
def zf (π:List Nat) (b i:Nat):Bool:=match uH π b with
 |some j=>Nat.beq j i
 |none=>false
def BD : (t : Ty) → V → Option t.den
 | .bool,.bool b=>some b
 | .bool,.tf b=>some b
 | .str,.str s=>some s
 | .int k,.int k' n=>match decide (k=k') with
  |true=>some n
  |false=>none
 | .list t,.eL t' xs=>jY t' t xs
 | .list _,.bW=>some []
 | .prod a b,.agg cs=>match bg ez [] (.prod a b) cs with
  |some (x,_,[])=>some x
  |_=>none
 | .cq d g a,v=>match bg ez [] (.cq d g a) [v] with
  |some (x,_,[])=>some x
  |_=>none
 |_,_=>none
def CP.rd1 {A:Type} (π:List Nat) (c:CP) (v:V):Option (A→c.T A) :=
 match c with
 | .any=>some fun a=>a
 | .tf b=>match v with
  | .tf b'=>match lY b b' with
   |true=>some fun a=>a
   |false=>none
  |_=>none
 | .eB=>match v with
  | .eB=>some fun a=>a
  |_=>none
 | .cF=>match v with
  | .cF=>some fun a=>a
  |_=>none
 | .eX=>match v with
  | .eX=>some fun a=>a
  |_=>none
 | .bW=>match v with
  | .bW=>some fun a=>a
  |_=>none
 | .hole t=>match BD t v with
  |some x=>some fun a=>(x,a)
  |none=>none
 | .cQ b t=>match v with
  | .sl i t' lo n=>match zf π b i with
   |true=>match mj t' t with
    |true=>match Nat.beq lo 0 with
     |true=>some fun a=>(n,a)
     |false=>none
    |false=>none
   |false=>none
  | .bW=>some fun a=>((0:Nat),a)
  |_=>none
 | .Qt b t=>match v with
  | .sl i t' lo n=>match zf π b i with
   |true=>match mj t' t with
    |true=>some fun a=>(lo,n,a)
    |false=>none
   |false=>none
  | .bW=>some fun a=>((0:Nat),(0:Nat),a)
  |_=>none
 | .ptr b off=>match v with
  | .ptr i o=>match zf π b i with
   |true=>match Nat.beq o off with
    |true=>some fun a=>a
    |false=>none
   |false=>none
  |_=>none
 | .yl b=>match v with
  | .yl i=>match zf π b i with
   |true=>some fun a=>a
   |false=>none
  |_=>none
 | .ff t=>match v with
  | .ff cs=>match bg ez [] t cs with
   |some (x,_,[])=>some fun a=>(x,a)
   |_=>none
  |_=>none
 | .mp b=>match v with
  | .mp i=>match zf π b i with
   |true=>some fun a=>a
   |false=>none
  |_=>none
 | .cC=>match v with
  | .cC=>some fun a=>a
  |_=>none
 | .pa b t n=>match v with
  | .pa i t' n'=>match zf π b i with
   |true=>match mj t' t with
    |true=>match Nat.beq n' n with
     |true=>some fun a=>a
     |false=>none
    |false=>none
   |false=>none
  |_=>none
 | .lg t=>match v with
  | .lg t' xs=>match jY t' t xs with
   |some ys=>some fun a=>(ys,a)
   |none=>none
  |_=>none
 | .fn0 f=>match v with
  | .fn f' [] []=>match Nat.beq f' f with
   |true=>some fun a=>a
   |false=>none
  |_=>none
 |_=>none
def CP.Fi (π : List Nat) : (c : CP) → {A : Type} → List V → Option ((A → c.T A) × List V)
 | .nil,_,vs=>some (fun a=>a,vs)
 | .cons c l,A,vs=>match c.Fi π (A:=l.T A) vs with
  |some (f,vs')=>match l.Fi π (A:=A) vs' with
   |some (g,vs'')=>some (fun a=>f (g a),vs'')
   |none=>none
  |none=>none
 | .Kf l,A,vs=>match vs with
  | .ff cs::r=>match l.Fi π (A:=A) cs with
   |some (f,[])=>some (f,r)
   |_=>none
  |_=>none
 | .Kg l,A,vs=>match vs with
  | .agg cs::r=>match l.Fi π (A:=A) cs with
   |some (f,[])=>some (f,r)
   |_=>none
  |_=>none
 | .Gf t g l,A,vs=>match vs with
  | .cq t' v::r=>match Nat.beq t' t with
   |true=>match AV g v with
    |some cs=>match l.Fi π (A:=A) cs with
     |some (f,[])=>some (f,r)
     |_=>none
    |none=>none
   |false=>none
  |_=>none
 | .fn f a b,A,vs=>match vs with
  | .fn f' va vb::r=>match Nat.beq f' f with
   |true=>match a.Fi π (A:=b.T A) va with
    |some (g,[])=>match b.Fi π (A:=A) vb with
     |some (h,[])=>some (fun x=>g (h x),r)
     |_=>none
    |_=>none
   |false=>none
  |_=>none
 |c,_,vs=>match vs with
  |v::r=>match c.rd1 π v with
   |some f=>some (f,r)
   |none=>none
  |[]=>none
def CP.rd {A:Type} (π:List Nat) (c:CP) (v:V):Option (A→c.T A):=match c.Fi π (A:=A) [v] with
 |some (f,[])=>some f
 |_=>none
def fk {A : Type} (π : List Nat) : (cs : List CP) → List V → Option (A → mh cs A)
 |[],[]=>some fun a=>a
 |c::r,v::vs=>match CP.rd (A:=mh r A) π c v with
  |some f=>match fk (A:=A) π r vs with
   |some g=>some fun a=>f (g a)
   |none=>none
  |none=>none
 |_,_=>none
def SP.rd {A:Type} (π:List Nat) (p:SP) (v:V):Option (A→p.T A) :=
 match p with
 | .c q=>q.rd π v
 | .agg cs=>match v with
  | .agg vs=>fk π cs vs
  |_=>none
 | .cK cs=>match v with
  | .cK vs=>fk π cs vs
  |_=>none
 | .fn f a b=>match v with
  | .fn f' va vb=>match Nat.beq f' f with
   |true=>match fk (A:=mh b A) π a va with
    |some g=>match fk (A:=A) π b vb with
     |some h=>some fun x=>g (h x)
     |none=>none
    |none=>none
   |false=>none
  |_=>none
 | .alt a b=>match v with
  | .cK vs=>match fk (A:=A) π a vs with
   |some f=>some fun x=>.inl (f x)
   |none=>match fk (A:=A) π b vs with
    |some f=>some fun x=>.inr (f x)
    |none=>none
  |_=>none
def SP.kv {R : Type} (kz : Kz R) : (p : SP) → p.T Unit → (V → R) → R
 | .alt a b,y,K=>kz.sm (A:=mh a Unit) (B:=mh b Unit) y (fun x=>K (.cK (qt a x))) (fun x=>K (.cK (qt b x)))
 | .c q,y,K=>K (SP.v (.c q) y)
 | .agg cs,y,K=>K (SP.v (.agg cs) y)
 | .cK cs,y,K=>K (SP.v (.cK cs) y)
 | .fn f a b,y,K=>K (SP.v (.fn f a b) y)
theorem SP.abC {X : Type} : ∀ (p : SP) (y : p.T Unit) (K : V → Option X), p.kv (jg X) y K = K (p.v y)
 | .alt _ _,.inl _,_=>rfl
 | .alt _ _,.inr _,_=>rfl
 | .c _,_,_=>rfl
 | .agg _,_,_=>rfl
 | .cK _,_,_=>rfl
 | .fn _ _ _,_,_=>rfl
def Ae {A : Type} (π : List Nat) (env : Env) : (ps : List (Nat × SP)) → Option (A → ze ps A)
 |[]=>some fun a=>a
 |(s,p)::r=>match SP.rd (A:=ze r A) π p (get s env) with
  |some f=>match Ae (A:=A) π env r with
   |some g=>some fun a=>f (g a)
   |none=>none
  |none=>none
mutual
def RB : V → V → Bool
 | .any,.any=>true
 | .tf a,.tf b=>lY a b
 | .bool a,.bool b=>lY a b
 | .int k n,.int k' m=>match decide (k=k') with
  |true=>decide (n=m)
  |false=>false
 | .eB,.eB=>true
 | .cF,.cF=>true
 | .eX,.eX=>true
 | .cC,.cC=>true
 | .bW,.bW=>true
 | .str s,.str s'=>decide (s=s')
 | .fn f a b,.fn f' a' b'=>match Nat.beq f f' with
  |true=>match pU a a' with
   |true=>pU b b'
   |false=>false
  |false=>false
 | .agg a,.agg b=>pU a b
 |_,_=>false
def pU : List V → List V → Bool
 |[],[]=>true
 |a::r,b::s=>match RB a b with
  |true=>pU r s
  |false=>false
 |_,_=>false
end
mutual
theorem Ic : ∀ {a b : V}, RB a b = true → a = b
 |a,b,h=>by
  cases a<;>cases b<;>simp only [RB,Bool.false_eq_true] at h<;>try rfl
  case tf.tf x y=>cases x<;>cases y<;>simp_all [lY]
  case bool.bool x y=>cases x<;>cases y<;>simp_all [lY]
  case int.int=>split at h<;>simp_all
  case str.str=>simp_all
  case fn.fn =>
   split at h<;>try (cases h;done)
   rename_i h1
   split at h<;>try (cases h;done)
   rename_i h2
   rw [Nat.eq_of_beq_eq_true h1,mo h2,mo h]
  case agg.agg=>rw [mo h]
theorem mo : ∀ {a b : List V}, pU a b = true → a = b
 |[],[],_=>rfl
 |a::r,b::s,h=>by
  simp only [pU] at h
  split at h<;>try (cases h;done)
  rename_i h1
  rw [Ic h1,mo h]
 |[],_::_,h=>by simp [pU] at h
 |_::_,[],h=>by simp [pU] at h
end
end Go.AM
end
section
namespace Go.AM
def an (a b:Bool):Bool:=match a with
 |true=>b
 |false=>false
theorem aN {a b:Bool}:an a b=true↔a=true∧b=true:=by cases a<;>simp [an]
theorem ei {a b:Bool} (h:lY a b=true):a=b:=by cases a<;>cases b<;>simp_all [lY]
theorem lG:∀{t t':Ty},mj t t'=true→t=t':=by
 intro t
 induction t with
 |unit=>intro t' h;cases t'<;>simp [mj] at h ⊢
 |bool=>intro t' h;cases t'<;>simp [mj] at h ⊢
 |str=>intro t' h;cases t'<;>simp [mj] at h ⊢
 |int k=>intro t' h;cases t'<;>simp [mj] at h ⊢;exact h
 |list t ih=>intro t' h;cases t'<;>simp [mj] at h ⊢;exact ih h
 |prod a b Ge Fh =>
  intro t' h
  cases t'<;>simp only [mj,Bool.false_eq_true] at h
  split at h<;>try (cases h;done)
  rename_i h1
  rw [Ge h1,Fh h]
 |cq d g a ih =>
  intro t' h
  cases t'<;>simp only [mj,Bool.false_eq_true] at h
  split at h<;>try (cases h;done)
  rename_i h1
  split at h<;>try (cases h;done)
  rename_i h2
  rw [Nat.eq_of_beq_eq_true h1,ei h2,ih h]
def M8 (a b:IntKind):Bool:=decide (a=b)
theorem M9 {a b:IntKind} (h:M8 a b=true):a=b:=by simpa [M8] using h
def Na (a b:yN):Bool:=decide (a=b)
theorem Nb {a b:yN} (h:Na a b=true):a=b:=by simpa [Na] using h
def Nc : Kd → Kd → Bool
 | .b,.b=>true
 | .i,.i=>true
 | .s,.s=>true
 |_,_=>false
theorem Nd {x y:Kd} (h:Nc x y=true):x=y:=by cases x<;>cases y<;>simp_all [Nc]
def kB {α : Type} (f : α → α → Bool) : List α → List α → Bool
 |[],[]=>true
 |a::r,b::s=>match f a b with
  |true=>kB f r s
  |false=>false
 |_,_=>false
theorem eV {α : Type} {f : α → α → Bool} (hf : ∀ {a b}, f a b = true → a = b) : ∀ {a b : List α}, kB f a b = true → a = b
 |[],[],_=>rfl
 |a::r,b::s,h=>by
  simp only [kB] at h
  split at h<;>try (cases h;done)
  rename_i h1
  rw [hf h1,eV hf h]
 |[],_::_,h=>by simp [kB] at h
 |_::_,[],h=>by simp [kB] at h
def UZ:=kB Nc
theorem Nf {a b:List Kd} (h:UZ a b=true):a=b:=eV Nd h
def Ng:=kB lY
theorem DE {a b:List Bool} (h:Ng a b=true):a=b:=eV ei h
def DF:=kB Nat.beq
theorem rE {a b:List Nat} (h:DF a b=true):a=b:=eV Nat.eq_of_beq_eq_true h
def Nh:=kB DF
theorem Kh {a b:List (List Nat)} (h:Nh a b=true):a=b:=eV rE h
def dP : O → O → Bool
 | .t n,.t m=>Nat.beq n m
 | .c v,.c u=>RB v u
 | .m n l,.m m k=>an (Nat.beq n m) (decide (l=k))
 |_,_=>false
theorem aR {a b:O} (h:dP a b=true):a=b:=by
 cases a<;>cases b<;>simp only [dP,Bool.false_eq_true] at h
 ·rw [Nat.eq_of_beq_eq_true h]
 ·rw [Ic h]
 ·rw [aN] at h;rw [Nat.eq_of_beq_eq_true h.1,of_decide_eq_true h.2]
def w5:=kB dP
theorem mw {a b:List O} (h:w5 a b=true):a=b:=eV aR h
def DG : Option O → Option O → Bool
 |none,none=>true
 |some a,some b=>dP a b
 |_,_=>false
theorem w6 {a b:Option O} (h:DG a b=true):a=b:=by
 cases a<;>cases b<;>simp only [DG,Bool.false_eq_true] at h
 ·rfl
 ·rw [aR h]
def Xd : Nat × Nat × O → Nat × Nat × O → Bool
 |(a,b,x),(a',b',x')=>an (Nat.beq a a') (an (Nat.beq b b') (dP x x'))
theorem RC {p q:Nat×Nat×O} (h:Xd p q=true):p=q:=by
 obtain ⟨a,b,c⟩:=p
 obtain ⟨a',b',c'⟩:=q
 simp only [Xd,aN] at h
 rw [Nat.eq_of_beq_eq_true h.1,Nat.eq_of_beq_eq_true h.2.1,aR h.2.2]
def U0:=kB Xd
theorem Ni {a b:List (Nat×Nat×O)} (h:U0 a b=true):a=b:=eV RC h
def gq : I → I → Bool
 | .mv x0,.mv y0=>dP x0 y0
 | .pick x0 x1 x2,.pick y0 y1 y2=>an (dP x0 y0) (an (dP x1 y1) (dP x2 y2))
 | .alloc x0,.alloc y0=>pU x0 y0
 | .box x0,.box y0=>dP x0 y0
 | .build x0 x1,.build y0 y1=>an (pU x0 y0) (U0 x1 y1)
 | .dU x0 x1,.dU y0 y1=>an (mj x0 y0) (w5 x1 y1)
 | .load x0 x1 x2,.load y0 y1 y2=>an (lY x0 y0) (an (Nat.beq x1 y1) (dP x2 y2))
 | .store x0 x1 x2,.store y0 y1 y2=>an (Nat.beq x0 y0) (an (dP x1 y1) (dP x2 y2))
 | .bin x0 x1 x2,.bin y0 y1 y2=>an (Na x0 y0) (an (dP x1 y1) (dP x2 y2))
 | .QD x0 x1 x2,.QD y0 y1 y2=>an (lY x0 y0) (an (dP x1 y1) (dP x2 y2))
 | .eqs x0 x1 x2 x3,.eqs y0 y1 y2 y3=>an (lY x0 y0) (an (UZ x1 y1) (an (dP x2 y2) (dP x3 y3)))
 | .neg x0,.neg y0=>dP x0 y0
 | .not x0,.not y0=>dP x0 y0
 | .conv x0 x1,.conv y0 y1=>an (M8 x0 y0) (dP x1 y1)
 | .mL x0 x1 x2,.mL y0 y1 y2=>an (Nat.beq x0 y0) (an (Ng x1 y1) (dP x2 y2))
 | .field x0 x1 x2 x3,.field y0 y1 y2 y3=>an (lY x0 y0) (an (Nat.beq x1 y1) (an (Nat.beq x2 y2) (dP x3 y3)))
 | .idx x0 x1 x2,.idx y0 y1 y2=>an (Nat.beq x0 y0) (an (dP x1 y1) (dP x2 y2))
 | .yO x0 x1 x2 x3,.yO y0 y1 y2 y3=>an (Nat.beq x0 y0) (an (Nat.beq x1 y1) (an (dP x2 y2) (dP x3 y3)))
 | .ext x0 x1,.ext y0 y1=>an (Nat.beq x0 y0) (dP x1 y1)
 | .len x0,.len y0=>dP x0 y0
 | .lens x0,.lens y0=>dP x0 y0
 | .yP x0,.yP y0=>Nat.beq x0 y0
 | .append x0 x1 x2,.append y0 y1 y2=>an (Nat.beq x0 y0) (an (dP x1 y1) (dP x2 y2))
 | .iM x0 x1,.iM y0 y1=>an (mj x0 y0) (dP x1 y1)
 | .AS x0 x1 x2,.AS y0 y1 y2=>an (Nat.beq x0 y0) (an (w5 x1 y1) (w5 x2 y2))
 | .slice x0 x1 x2 x3 x4,.slice y0 y1 y2 y3 y4=>an (Nat.beq x0 y0) (an (dP x1 y1) (an (DG x2 y2) (an (DG x3 y3) (DG x4 y4))))
 | .lS x0 x1 x2,.lS y0 y1 y2=>an (lY x0 y0) (an (dP x1 y1) (w5 x2 y2))
 | .ex x0 x1,.ex y0 y1=>an (decide (x0=y0)) (w5 x1 y1)
 |_,_=>false
theorem RD {a b:I} (h:gq a b=true):a=b:=by
 cases a<;>cases b<;>first|(simp only [gq,Bool.false_eq_true] at h;done)|skip
 case mv.mv=>simp only [gq,aN] at h;rw [aR h]
 case pick.pick=>simp only [gq,aN] at h;rw [aR h.1,aR h.2.1,aR h.2.2]
 case alloc.alloc=>simp only [gq,aN] at h;rw [mo h]
 case box.box=>simp only [gq,aN] at h;rw [aR h]
 case build.build=>simp only [gq,aN] at h;rw [mo h.1,Ni h.2]
 case dU.dU=>simp only [gq,aN] at h;rw [lG h.1,mw h.2]
 case load.load=>simp only [gq,aN] at h;rw [ei h.1,Nat.eq_of_beq_eq_true h.2.1,aR h.2.2]
 case store.store=>simp only [gq,aN] at h;rw [Nat.eq_of_beq_eq_true h.1,aR h.2.1,aR h.2.2]
 case bin.bin=>simp only [gq,aN] at h;rw [Nb h.1,aR h.2.1,aR h.2.2]
 case QD.QD=>simp only [gq,aN] at h;rw [ei h.1,aR h.2.1,aR h.2.2]
 case eqs.eqs=>simp only [gq,aN] at h;rw [ei h.1,Nf h.2.1,aR h.2.2.1,aR h.2.2.2]
 case neg.neg=>simp only [gq,aN] at h;rw [aR h]
 case not.not=>simp only [gq,aN] at h;rw [aR h]
 case conv.conv=>simp only [gq,aN] at h;rw [M9 h.1,aR h.2]
 case mL.mL=>simp only [gq,aN] at h;rw [Nat.eq_of_beq_eq_true h.1,DE h.2.1,aR h.2.2]
 case field.field=>simp only [gq,aN] at h;rw [ei h.1,Nat.eq_of_beq_eq_true h.2.1,Nat.eq_of_beq_eq_true h.2.2.1,aR h.2.2.2]
 case idx.idx=>simp only [gq,aN] at h;rw [Nat.eq_of_beq_eq_true h.1,aR h.2.1,aR h.2.2]
 case yO.yO=>simp only [gq,aN] at h;rw [Nat.eq_of_beq_eq_true h.1,Nat.eq_of_beq_eq_true h.2.1,aR h.2.2.1,aR h.2.2.2]
 case ext.ext=>simp only [gq,aN] at h;rw [Nat.eq_of_beq_eq_true h.1,aR h.2]
 case len.len=>simp only [gq,aN] at h;rw [aR h]
 case lens.lens=>simp only [gq,aN] at h;rw [aR h]
 case yP.yP=>simp only [gq,aN] at h;rw [Nat.eq_of_beq_eq_true h]
 case append.append=>simp only [gq,aN] at h;rw [Nat.eq_of_beq_eq_true h.1,aR h.2.1,aR h.2.2]
 case iM.iM=>simp only [gq,aN] at h;rw [lG h.1,aR h.2]
 case AS.AS=>simp only [gq,aN] at h;rw [Nat.eq_of_beq_eq_true h.1,mw h.2.1,mw h.2.2]
 case slice.slice=>simp only [gq,aN] at h;rw [Nat.eq_of_beq_eq_true h.1,aR h.2.1,w6 h.2.2.1,w6 h.2.2.2.1,w6 h.2.2.2.2]
 case lS.lS=>simp only [gq,aN] at h;rw [ei h.1,aR h.2.1,mw h.2.2]
 case ex.ex=>simp only [gq,aN] at h;rw [of_decide_eq_true h.1,mw h.2]
def RE : Option (Nat × Bool) → Option (Nat × Bool) → Bool
 |none,none=>true
 |some (s,b),some (s',b')=>an (Nat.beq s s') (lY b b')
 |_,_=>false
theorem Ie {p q:Option (Nat×Bool)} (h:RE p q=true):p=q:=by
 rcases p with _|⟨a,b⟩<;>rcases q with _|⟨a',b'⟩<;>simp only [RE,Bool.false_eq_true,aN] at h
 ·rfl
 ·rw [Nat.eq_of_beq_eq_true h.1,ei h.2]
def Nj : Option Nat → Option Nat → Bool
 |none,none=>true
 |some a,some b=>Nat.beq a b
 |_,_=>false
theorem BE {a b:Option Nat} (h:Nj a b=true):a=b:=by
 cases a<;>cases b<;>simp only [Nj,Bool.false_eq_true] at h
 ·rfl
 ·rw [Nat.eq_of_beq_eq_true h]
def Nk : Option Ty → Option Ty → Bool
 |none,none=>true
 |some a,some b=>mj a b
 |_,_=>false
theorem Nl {a b:Option Ty} (h:Nk a b=true):a=b:=by
 cases a<;>cases b<;>simp only [Nk,Bool.false_eq_true] at h
 ·rfl
 ·rw [lG h]
def w8 : eN → eN → Bool
 | .op d g i,.op d' g' i'=>an (Nj d d') (an (RE g g') (gq i i'))
 | .call d g f a t,.call d' g' f' a' t'=>an (Nj d d') (an (RE g g') (an (dP f f') (an (w5 a a') (kB Nk t t'))))
 |_,_=>false
theorem tr {a b:eN} (h:w8 a b=true):a=b:=by
 cases a<;>cases b<;>simp only [w8,Bool.false_eq_true,aN] at h
 ·rw [BE h.1,Ie h.2.1,RD h.2.2]
 ·rw [BE h.1,Ie h.2.1,aR h.2.2.1,mw h.2.2.2.1,eV Nl h.2.2.2.2]
def jo : C → C → Bool
 | .skip,.skip=>true
 | .aO is,.aO is'=>kB w8 is is'
 | .draw ps is,.draw ps' is'=>an (Nh ps ps') (kB w8 is is')
 | .seq a b,.seq a' b'=>an (jo a a') (jo b b')
 | .cond c a b,.cond c' a' b'=>an (dP c c') (an (jo a a') (jo b b'))
 | .block id c,.block id' c'=>an (Nat.beq id id') (jo c c')
 | .loop c,.loop c'=>jo c c'
 | .exit id,.exit id'=>Nat.beq id id'
 | .ret,.ret=>true
 | .bF f ps a b,.bF f' ps' a' b'=>an (dP f f') (an (DF ps ps') (an (jo a a') (jo b b')))
 | .gF p m i cl e kt kg vt vg d b,.gF p' m' i' cl' e' Lz UE LA QH d' b'=>an (kB w8 p p') (an (dP m m') (an (Nat.beq i i') (an (DF cl cl') (an (Nj e e') (an (mj kt Lz) (an (lY kg UE) (an (mj vt LA) (an (lY vg QH) (an (Nat.beq d d') (jo b b'))))))))))
 |_,_=>false
theorem vc:∀{a b:C},jo a b=true→a=b:=by
 intro a
 induction a with
 |skip=>intro b h;cases b<;>simp [jo] at h ⊢
 |ret=>intro b h;cases b<;>simp [jo] at h ⊢
 |exit id=>intro b h;cases b<;>simp only [jo,Bool.false_eq_true] at h;rw [Nat.eq_of_beq_eq_true h]
 |aO is=>intro b h;cases b<;>simp only [jo,Bool.false_eq_true] at h;rw [eV tr h]
 |draw ps is=>intro b h;cases b<;>simp only [jo,Bool.false_eq_true,aN] at h;rw [Kh h.1,eV tr h.2]
 |seq a b Ge Fh=>intro b h;cases b<;>simp only [jo,Bool.false_eq_true,aN] at h;rw [Ge h.1,Fh h.2]
 |cond c a b Ge Fh=>intro b h;cases b<;>simp only [jo,Bool.false_eq_true,aN] at h;rw [aR h.1,Ge h.2.1,Fh h.2.2]
 |block id c ih=>intro b h;cases b<;>simp only [jo,Bool.false_eq_true,aN] at h;rw [Nat.eq_of_beq_eq_true h.1,ih h.2]
 |loop c ih=>intro b h;cases b<;>simp only [jo,Bool.false_eq_true] at h;rw [ih h]
 |gF p m i cl e kt kg vt vg d b ih =>
  intro b h
  cases b<;>simp only [jo,Bool.false_eq_true,aN] at h
  obtain ⟨h1,h2,h3,h4,h5,h6,h7,h8,h9,h11,h10⟩:=h
  rw [eV tr h1,aR h2,Nat.eq_of_beq_eq_true h3,rE h4,BE h5,lG h6,ei h7,lG h8,ei h9,Nat.eq_of_beq_eq_true h11,ih h10]
 |bF f ps a b Ge Fh=>intro b h;cases b<;>simp only [jo,Bool.false_eq_true,aN] at h;rw [aR h.1,rE h.2.1,Ge h.2.2.1,Fh h.2.2.2]
end Go.AM
end
section
namespace Go.AM
section
variable {π:List Nat}
theorem pe : ∀ (π : List Nat) (b : Nat), uH π b = π[b]?
 |[],_=>by simp [uH]
 |i::r,0=>by simp [uH]
 |i::r,n+1=>by simp [uH,pe r n]
theorem lH {b i:Nat} (h:zf π b i=true):π[b]?=some i:=by
 unfold zf at h
 split at h
 ·rename_i j e;rw [←pe,e,Nat.eq_of_beq_eq_true h]
 ·cases h
theorem CL.append {as bs cs ds:List V} (h:CL π as bs) (h':CL π cs ds):CL π (as++cs) (bs++ds):=by
 induction as generalizing bs with
 |nil =>
  have:bs=[]:=List.eq_nil_of_length_eq_zero h.1.symm
  subst this;simpa using h'
 |cons a as ih =>
  cases bs with
  |nil=>exact absurd h.1 (by simp)
  |cons b bs=>exact .cons (h.2 0 a b rfl rfl) (ih ⟨by have:=h.1;simpa using this,fun i v u hv hu=>h.2 (i+1) v u (by simpa using hv) (by simpa using hu)⟩)
theorem DH {t t':Ty} {xs:List t.den} {ys:List t'.den} (h:jY t t' xs=some ys):V.eL t' ys=V.eL t xs:=by
 obtain ⟨e,he⟩:=dV h
 subst e;subst he;rfl
theorem DI {g:Bool} {v:V} {ds cs:List V} (h:AV g v=some cs) (ag:CL π ds cs):EV π (cw.iS g ds) v:=by
 cases g with
 |true =>
  cases v<;>simp [AV] at h
  subst h
  exact .agg _ _ ag.1 ag.2
 |false =>
  have:cs=[v]:=by cases v<;>simp_all [AV,V.cells?]
  subst this
  match ds,ag with
  |[w],ag=>exact ag.2 0 w v rfl rfl
  |[],ag=>exact absurd ag.1 (by simp)
  |_::_::_,ag=>exact absurd ag.1 (by simp)
theorem pg {ar : Ar} : ∀ {t : Ty} {vs : List V} {x : t.den} {u : eC} {r : List V}, bg ar [] t vs = some (x, u, r) → ∃ us, vs = us ++ r ∧ CL π (cw t x) us
 | .unit,vs,x,u,r,h=>by
  simp [bg] at h;obtain ⟨_,_,rfl⟩:=h;exact ⟨[],rfl,.nil⟩
 | .bool,vs,x,u,r,h=>by
  rcases vs with _|⟨v,r'⟩
  ·simp [bg] at h
  ·cases v <;> simp [bg] at h
   ·obtain ⟨rfl,_,rfl⟩:=h;exact ⟨[_],rfl,.cons (.tfb _) .nil⟩
   ·obtain ⟨rfl,_,rfl⟩:=h;exact ⟨[_],rfl,.cons (.bool _) .nil⟩
 | .str,vs,x,u,r,h=>by
  rcases vs with _|⟨v,r'⟩
  ·simp [bg] at h
  ·cases v <;> simp [bg] at h
   obtain ⟨rfl,_,rfl⟩:=h;exact ⟨[_],rfl,.cons (.str _) .nil⟩
 | .int k,vs,x,u,r,h=>by
  rcases vs with _|⟨v,r'⟩
  ·simp [bg] at h
  ·cases v <;> simp [bg] at h
   obtain ⟨rfl,rfl,_,rfl⟩:=h;exact ⟨[_],rfl,.cons (.int _ _) .nil⟩
 | .list t,vs,x,u,r,h=>by
  rcases vs with _|⟨v,r'⟩
  ·simp [bg] at h
  ·cases v <;> simp only [bg] at h <;> try (cases h; done)
   ·split at h <;> try (cases h; done)
    rename_i hc
    cases h
    exact ⟨[_],rfl,.cons (by rw [DH hc];exact .eL _ _) .nil⟩
   ·cases h;exact ⟨[.bW],rfl,.cons (.WZ _) .nil⟩
 | .prod a b,vs,x,u,r,h=>by
  simp only [bg] at h
  split at h<;>try (cases h;done)
  rename_i x1 u1 r1 h1
  split at h<;>try (cases h;done)
  rename_i y1 u2 r2 h2
  cases h
  obtain ⟨us,rfl,e1⟩:=pg h1
  obtain ⟨Ws,rfl,e2⟩:=pg h2
  exact ⟨us++Ws,by simp,e1.append e2⟩
 | .cq d g t,vs,x,u,r,h=>by
  cases vs with
  |nil=>simp [bg] at h
  |cons v vs =>
   cases v<;>simp only [bg] at h<;>try (cases h;done)
   rename_i d' v'
   split at h<;>try (cases h;done)
   rename_i e;subst e
   split at h<;>try (cases h;done)
   rename_i cs hun
   split at h<;>try (cases h;done)
   rename_i x0 ho
   cases h
   obtain ⟨us,e1,ag⟩:=pg ho
   rw [List.append_nil] at e1
   exact ⟨[.cq d v'],rfl,.cons (.cq _ _ _ (DI hun (by rw [e1];exact ag))) .nil⟩
theorem RG : ∀ {t : Ty} {v : V} {x : t.den}, BD t v = some x → EV π (tyV t x) v
 | .unit,v,x,h=>by simp [BD] at h
 | .bool,v,x,h=>by
  cases v<;>simp [BD] at h
  ·subst h;exact .tfb _
  ·subst h;exact .bool _
 | .str,v,x,h=>by
  cases v<;>simp [BD] at h
  subst h;exact .str _
 | .int k,v,x,h=>by
  cases v<;>simp only [BD] at h<;>try (cases h;done)
  split at h<;>try (cases h;done)
  rename_i hk
  cases h
  have:=of_decide_eq_true hk
  subst this;exact .int _ _
 | .list t,v,x,h=>by
  cases v<;>simp only [BD] at h<;>try (cases h;done)
  ·show EV π (.eL t x) _
   rw [DH h];exact .eL _ _
  ·cases h;exact .WZ _
 | .prod a b,v,x,h=>by
  cases v<;>simp only [BD] at h<;>try (cases h;done)
  split at h<;>try (cases h;done)
  rename_i hc
  cases h
  obtain ⟨us,e,ag⟩:=pg (π:=π) hc
  rw [List.append_nil] at e
  subst e
  exact .agg _ _ ag.1 ag.2
 | .cq d g t,v,x,h=>by
  simp only [BD] at h
  split at h<;>try (cases h;done)
  rename_i hc
  cases h
  obtain ⟨us,e,ag⟩:=pg (π:=π) hc
  rw [List.append_nil] at e
  subst e
  exact ag.2 0 _ _ rfl rfl
variable {A:Type}
theorem CP.Xe {c:CP} {v:V} {f:A→c.T A} (h:c.rd1 π v=some f) (a:A):CL π (c.vs (f a)) [v]∧c.r (f a)=a:=by
 cases c<;>simp only [CP.rd1] at h
 case any=>cases h;exact ⟨.cons (.any _) .nil,rfl⟩
 case tf b =>
  split at h<;>try (cases h;done)
  split at h<;>try (cases h;done)
  rename_i hb
  cases h
  rw [←ei hb]
  exact ⟨.cons (.tf _) .nil,rfl⟩
 case eB=>split at h<;>cases h;exact ⟨.cons (.eB) .nil,rfl⟩
 case cF=>split at h<;>cases h;exact ⟨.cons (.cF) .nil,rfl⟩
 case eX=>split at h<;>cases h;exact ⟨.cons (.eX) .nil,rfl⟩
 case bW=>split at h<;>cases h;exact ⟨.cons (.bW) .nil,rfl⟩
 case hole t =>
  split at h<;>cases h
  rename_i hx
  exact ⟨.cons (RG hx) .nil,rfl⟩
 case cQ b t =>
  split at h<;>try (cases h;done)
  ·rename_i i t' lo n
   split at h<;>try (cases h;done)
   rename_i h1
   split at h<;>try (cases h;done)
   rename_i h2
   split at h<;>try (cases h;done)
   rename_i h3
   cases h
   have e:=Nat.eq_of_beq_eq_true h3
   rw [lG h2,e]
   exact ⟨.cons (.sl _ _ _ _ _ (lH h1)) .nil,rfl⟩
  ·cases h;exact ⟨.cons (.W0 _ _ _) .nil,rfl⟩
 case Qt b t =>
  split at h<;>try (cases h;done)
  ·rename_i i t' lo n
   split at h<;>try (cases h;done)
   rename_i h1
   split at h<;>try (cases h;done)
   rename_i h2
   cases h
   rw [lG h2]
   exact ⟨.cons (.sl _ _ _ _ _ (lH h1)) .nil,rfl⟩
  ·cases h;exact ⟨.cons (.W0 _ _ _) .nil,rfl⟩
 case ptr b off =>
  split at h<;>try (cases h;done)
  split at h<;>try (cases h;done)
  rename_i h1
  split at h<;>try (cases h;done)
  rename_i h2
  cases h
  rw [Nat.eq_of_beq_eq_true h2]
  exact ⟨.cons (.ptr _ _ _ (lH h1)) .nil,rfl⟩
 case yl b =>
  split at h<;>try (cases h;done)
  split at h<;>try (cases h;done)
  rename_i h1
  cases h
  exact ⟨.cons (.yl _ _ (lH h1)) .nil,rfl⟩
 case ff t =>
  split at h<;>try (cases h;done)
  split at h<;>try (cases h;done)
  rename_i hc
  cases h
  obtain ⟨us,e,ag⟩:=pg (π:=π) hc
  rw [List.append_nil] at e
  subst e
  exact ⟨.cons (.ff _ _ ag.1 ag.2) .nil,rfl⟩
 case mp b =>
  split at h<;>try (cases h;done)
  split at h<;>try (cases h;done)
  rename_i h1
  cases h
  exact ⟨.cons (.mp _ _ (lH h1)) .nil,rfl⟩
 case cC=>split at h<;>cases h;exact ⟨.cons (.cC) .nil,rfl⟩
 case pa b t n =>
  split at h<;>try (cases h;done)
  split at h<;>try (cases h;done)
  rename_i h1
  split at h<;>try (cases h;done)
  rename_i h2
  split at h<;>try (cases h;done)
  rename_i h3
  cases h
  rw [lG h2,Nat.eq_of_beq_eq_true h3]
  exact ⟨.cons (.pa _ _ _ _ (lH h1)) .nil,rfl⟩
 case lg t =>
  split at h<;>try (cases h;done)
  split at h<;>try (cases h;done)
  rename_i ys hc
  cases h
  obtain ⟨e,he⟩:=dV hc
  subst e;subst he
  exact ⟨.cons (.lg _ _) .nil,rfl⟩
 case Gf=>cases h
 case fn0 f' =>
  split at h<;>try (cases h;done)
  split at h<;>try (cases h;done)
  rename_i h1
  cases h
  rw [Nat.eq_of_beq_eq_true h1]
  exact ⟨.cons (.fn _ _ _ _ _ rfl (fun i v u hv=>by simp at hv) rfl (fun i v u hv=>by simp at hv)) .nil,rfl⟩
 case Kf=>cases h
 case Kg=>cases h
 case fn=>cases h
 case nil=>cases h
 case cons=>cases h
theorem CP.Xf:∀{c:CP} {A:Type} {vs r:List V} {f:A→c.T A},c.Fi π vs=some (f,r)→∃us,vs=us++r∧∀a,CL π (c.vs (f a)) us∧c.r (f a)=a:=by
 intro c
 induction c with
 |nil=>intro A vs r f h;simp only [CP.Fi] at h;cases h;exact ⟨[],rfl,fun a=>⟨.nil,rfl⟩⟩
 |cons c l ihc ihl =>
  intro A vs r f h
  simp only [CP.Fi] at h
  split at h<;>try (cases h;done)
  rename_i f1 vs' h1
  split at h<;>try (cases h;done)
  rename_i g vs'' h2
  cases h
  obtain ⟨us,rfl,e1⟩:=ihc h1
  obtain ⟨Ws,rfl,e2⟩:=ihl h2
  refine ⟨us++Ws,by simp,fun a=>?_⟩
  obtain ⟨q1,q2⟩:=e1 (g a)
  obtain ⟨q3,q4⟩:=e2 a
  simp only [CP.vs,CP.r,q2]
  exact ⟨q1.append q3,q4⟩
 |Kf l ih =>
  intro A vs r f h
  simp only [CP.Fi] at h
  split at h<;>try (cases h;done)
  rename_i cs r'
  split at h<;>try (cases h;done)
  rename_i f1 h1
  cases h
  obtain ⟨us,e,e1⟩:=ih h1
  rw [List.append_nil] at e
  subst e
  refine ⟨[.ff cs],rfl,fun a=>?_⟩
  obtain ⟨q1,q2⟩:=e1 a
  exact ⟨.cons (.ff _ _ q1.1 q1.2) .nil,q2⟩
 |Kg l ih =>
  intro A vs r f h
  simp only [CP.Fi] at h
  split at h<;>try (cases h;done)
  rename_i cs r'
  split at h<;>try (cases h;done)
  rename_i f1 h1
  cases h
  obtain ⟨us,e,e1⟩:=ih h1
  rw [List.append_nil] at e
  subst e
  refine ⟨[.agg cs],rfl,fun a=>?_⟩
  obtain ⟨q1,q2⟩:=e1 a
  exact ⟨.cons (.agg _ _ q1.1 q1.2) .nil,q2⟩
 |Gf t g l ih =>
  intro A vs r f h
  simp only [CP.Fi] at h
  split at h<;>try (cases h;done)
  rename_i t' v r'
  split at h<;>try (cases h;done)
  rename_i ht
  split at h<;>try (cases h;done)
  rename_i cs hun
  split at h<;>try (cases h;done)
  rename_i f1 h1
  cases h
  obtain ⟨us,e,e1⟩:=ih h1
  rw [List.append_nil] at e
  subst e
  have e0:=Nat.eq_of_beq_eq_true ht
  subst e0
  refine ⟨[.cq t' v],rfl,fun a=>?_⟩
  obtain ⟨q1,q2⟩:=e1 a
  exact ⟨.cons (.cq _ _ _ (DI hun q1)) .nil,q2⟩
 |fn f0 a b Ge Fh =>
  intro A vs r f h
  simp only [CP.Fi] at h
  split at h<;>try (cases h;done)
  rename_i f' va vb r'
  split at h<;>try (cases h;done)
  rename_i hf
  split at h<;>try (cases h;done)
  rename_i g hg
  split at h<;>try (cases h;done)
  rename_i k hk
  cases h
  obtain ⟨us,e,e1⟩:=Ge hg
  rw [List.append_nil] at e
  subst e
  obtain ⟨Ws,e',e2⟩:=Fh hk
  rw [List.append_nil] at e'
  subst e'
  have e0:=Nat.eq_of_beq_eq_true hf
  subst e0
  refine ⟨[.fn f' va vb],rfl,fun x=>?_⟩
  obtain ⟨q1,q2⟩:=e1 (k x)
  obtain ⟨q3,q4⟩:=e2 x
  simp only [CP.vs,CP.r,q2]
  exact ⟨.cons (.fn _ _ _ _ _ q1.1 q1.2 q3.1 q3.2) .nil,q4⟩
 |_ =>
  intro A vs r f h
  simp only [CP.Fi] at h
  split at h<;>try (cases h;done)
  rename_i v r'
  split at h<;>try (cases h;done)
  rename_i f1 h1
  cases h
  exact ⟨[v],rfl,fun a=>CP.Xe h1 a⟩
theorem CP.rF {c:CP} {v:V} {f:A→c.T A} (h:c.rd π v=some f) (a:A):EV π (c.v (f a)) v∧c.r (f a)=a:=by
 unfold CP.rd at h
 split at h<;>try (cases h;done)
 rename_i f1 h1
 cases h
 obtain ⟨us,e,e1⟩:=CP.Xf h1
 rw [List.append_nil] at e
 subst e
 obtain ⟨q1,q2⟩:=e1 a
 refine ⟨?_,q2⟩
 unfold CP.v
 have hl:=q1.1
 cases hc:c.vs (f a) with
 |nil=>rw [hc] at hl;simp at hl
 |cons u r=>exact q1.2 0 u v (by rw [hc];rfl) rfl
theorem ja : ∀ {cs : List CP} {vs : List V} {f : A → mh cs A}, fk π cs vs = some f → ∀ a, CL π (qt cs (f a)) vs ∧ rD cs (f a) = a
 |[],[],f,h,a=>by cases h;exact ⟨.nil,rfl⟩
 |c::r,v::vs,f,h,a=>by
  simp only [fk] at h
  split at h<;>try (cases h;done)
  rename_i f1 h1
  split at h<;>cases h
  rename_i g h2
  obtain ⟨q1,q2⟩:=CP.rF h1 (g a)
  obtain ⟨q3,q4⟩:=ja h2 a
  simp only [qt,rD,q2]
  exact ⟨.cons q1 q3,q4⟩
 |[],_::_,f,h,a=>by simp [fk] at h
 |_::_,[],f,h,a=>by simp [fk] at h
theorem SP.rF : ∀ {p : SP} {v : V} {f : A → p.T A}, p.rd π v = some f → ∀ (a : A), EV π (p.v (f a)) v ∧ p.r (f a) = a
 | .c q,v,f,h,a=>CP.rF (c:=q) h a
 | .agg cs,v,f,h,a=>by
  cases v<;>try (cases h;done)
  rename_i vs
  have h':fk π cs vs=some f:=h
  obtain ⟨h1,h2⟩:=ja h' a
  exact ⟨.agg _ _ h1.1 h1.2,h2⟩
 | .cK cs,v,f,h,a=>by
  cases v<;>try (cases h;done)
  rename_i vs
  have h':fk π cs vs=some f:=h
  obtain ⟨h1,h2⟩:=ja h' a
  exact ⟨.cK _ _ h1.1 h1.2,h2⟩
 | .fn f' x y,v,f,h,a=>by
  cases v with
  |fn f2 va vb =>
   have h':(match Nat.beq f2 f' with
    |true=>match fk (A:=mh y A) π x va with
     |some g=>match fk (A:=A) π y vb with
      |some h=>some fun z=>g (h z)
      |none=>none
     |none=>none
    |false=>none)=some f:=h
   clear h
   cases hf:Nat.beq f2 f' with
   |false=>rw [hf] at h';cases h'
   |true =>
    rw [hf] at h'
    simp only at h'
    cases hg:fk (A:=mh y A) π x va with
    |none=>rw [hg] at h';cases h'
    |some g =>
     rw [hg] at h'
     simp only at h'
     cases hk:fk (A:=A) π y vb with
     |none=>rw [hk] at h';cases h'
     |some k =>
      rw [hk] at h'
      have h2:(fun z=>g (k z))=f:=Option.some.inj h'
      obtain ⟨q1,q2⟩:=ja hg (k a)
      obtain ⟨q3,q4⟩:=ja hk a
      have e:=Nat.eq_of_beq_eq_true hf
      subst e
      have e2:SP.v (A:=A) (.fn f2 x y) (g (k a)) = .fn f2 (qt x (g (k a))) (qt y (k a)):=by
       show V.fn f2 _ (qt y (rD x (g (k a))))=_
       rw [q2]
      have e3:SP.r (A:=A) (.fn f2 x y) (g (k a))=a:=by
       show rD y (rD x (g (k a)))=a
       rw [q2,q4]
      have e4:f a=g (k a):=by rw [←h2]
      rw [e4]
      exact ⟨by rw [e2];exact .fn _ _ _ _ _ q1.1 q1.2 q3.1 q3.2,e3⟩
  |_=>cases h
 | .alt x y,v,f,h,a=>by
  cases v with
  |cK vs =>
   have h':(match fk (A:=A) π x vs with
    |some f=>some fun z=>(Sum.inl (f z):mh x A ⊕ mh y A)
    |none=>match fk (A:=A) π y vs with
     |some f=>some fun z=>Sum.inr (f z)
     |none=>none)=some f:=h
   clear h
   cases hx:fk (A:=A) π x vs with
   |some g =>
    rw [hx] at h'
    have h2:=Option.some.inj h'
    subst h2
    obtain ⟨h1,h2⟩:=ja hx a
    exact ⟨.cK _ _ h1.1 h1.2,h2⟩
   |none =>
    rw [hx] at h'
    simp only at h'
    cases hy:fk (A:=A) π y vs with
    |none=>rw [hy] at h';cases h'
    |some g =>
     rw [hy] at h'
     have h2:=Option.some.inj h'
     subst h2
     obtain ⟨h1,h2⟩:=ja hy a
     exact ⟨.cK _ _ h1.1 h1.2,h2⟩
  |_=>cases h
theorem rG {env : Env} : ∀ {ps : List (Nat × SP)} {f : A → ze ps A}, Ae π env ps = some f → ∀ a, EE π (wZ ps (f a)) env ∧ M7 ps (f a) = a
 |[],f,h,a=>by cases h;exact ⟨fun p hp=>by simp [wZ] at hp,rfl⟩
 |(s,p)::r,f,h,a=>by
  simp only [Ae] at h
  split at h<;>try (cases h;done)
  rename_i f1 h1
  split at h<;>cases h
  rename_i g h2
  obtain ⟨q1,q2⟩:=SP.rF h1 (g a)
  obtain ⟨q3,q4⟩:=rG h2 a
  simp only [wZ,M7,q2]
  refine ⟨fun x hx=>?_,q4⟩
  rcases List.mem_cons.1 hx with rfl|hx
  ·exact q1
  ·exact q3 x hx
def Nn : qd → qd → Bool
 | .ready,.ready=>true
 | .busy,.busy=>true
 | .done,.done=>true
 | .exhausted,.exhausted=>true
 |_,_=>false
theorem Np {a b:qd} (h:Nn a b=true):a=b:=by cases a<;>cases b<;>simp_all [Nn]
def Xg : Option Ex → Option Ex → Bool
 |none,none=>true
 |some .normal,some .normal=>true
 |some (.exit a),some (.exit b)=>Nat.beq a b
 |some .ret,some .ret=>true
 |_,_=>false
theorem RH {a b:Option Ex} (h:Xg a b=true):a=b:=by
 rcases a with _|(_|_|_)<;>rcases b with _|(_|_|_)<;>simp only [Xg,Bool.false_eq_true] at h<;>try rfl
 rw [Nat.eq_of_beq_eq_true h]
def BP.rd (π:List Nat) (nx:Nat) (bl:ai) (id:Nat) (p:BP):Option (A→p.T A) :=
 match uH π id with
 |none=>none
 |some i=>match p with
  | .arr t fz=>match aq i bl with
   |some (.arr t' xs Wt)=>match jY t' t xs with
    |some ys=>match lY Wt fz with
     |true=>some fun a=>(ys,a)
     |false=>none
    |none=>none
   |none=>match Nat.ble nx i with
    |true=>some fun a=>(([]:List t.den),a)
    |false=>none
   |_=>none
  | .cells cs fz=>match aq i bl with
   |some (.cells vs Wt)=>match lY Wt fz with
    |true=>fk π cs vs
    |false=>none
   |_=>none
  | .loop st j d env ps as bd N=>match aq i bl with
   |some (.loop st' j' d' env' ps' as' Rh N')=>match an (Nn st' st) (an (Xg j' j)<|an (zf π d d') (an (DF ps' ps) (an (Nat.beq N' N) (an (jo as' as) (jo Rh bd))))) with
    |true=>Ae π env' env
    |false=>none
   |_=>none
  | .ig=>match aq i bl with
   |some .ig=>some fun a=>a
   |_=>none
  | .map kt kg vt vg=>match aq i bl with
   |some (.map Lz UE LA QH es)=>match an (lY UE kg) (lY QH vg) with
    |true=>match Hx Lz LA kt vt es with
     |some fs=>some fun a=>(fs,a)
     |none=>none
    |false=>none
   |_=>none
  | .mJ t k q c=>match aq i bl with
   |some (.mJ t' xs k' q' v)=>match an (Nat.beq k' k) (Ng q' q) with
    |true=>match jY t' t xs with
     |some ys=>match CP.rd π c v with
      |some f=>some fun a=>(ys,f a)
      |none=>none
     |none=>none
    |false=>none
   |_=>none
theorem BP.rF {nx:Nat} {bl:ai} {id:Nat} {p:BP} {f:A→p.T A} (h:p.rd π nx bl id=some f) (a:A):EBk π nx bl id (p.v (f a))∧p.r (f a)=a:=by
 unfold BP.rd at h
 split at h
 ·cases h
 ·rename_i i hi
  rw [pe] at hi
  cases p<;>simp only at h
  case arr t fz =>
   split at h
   ·rename_i t' xs Wt hb
    split at h<;>try (cases h;done)
    rename_i ys hc
    split at h<;>cases h
    rename_i hfz
    refine ⟨⟨i,hi,.inl ?_⟩,rfl⟩
    obtain ⟨e,he⟩:=dV hc
    subst e;subst he
    rw [hb,ei hfz]
   ·rename_i hb
    split at h<;>cases h
    rename_i hle
    exact ⟨⟨i,hi,.inr ⟨rfl,Nat.le_of_ble_eq_true hle⟩⟩,rfl⟩
   ·cases h
  case cells cs fz =>
   split at h<;>try (cases h;done)
   rename_i vs Wt hb
   split at h<;>try (cases h;done)
   rename_i hfz
   obtain ⟨h1,h2⟩:=ja h a
   refine ⟨⟨i,hi,vs,?_,h1⟩,h2⟩
   rw [hb,ei hfz]
  case loop st j d env ps as bd N =>
   split at h<;>try (cases h;done)
   rename_i st' j' d' env' ps' as' Rh N' hb
   split at h<;>try (cases h;done)
   rename_i hc
   simp only [aN] at hc
   obtain ⟨c1,cj,c2,c3,c4,c5,c6⟩:=hc
   obtain ⟨h1,h2⟩:=rG h a
   refine ⟨⟨i,hi,d',env',?_,lH c2,h1⟩,h2⟩
   rw [hb,Np c1,RH cj,rE c3,Nat.eq_of_beq_eq_true c4,vc c5,vc c6]
  case ig =>
   split at h<;>cases h
   rename_i hb
   exact ⟨⟨i,hi,hb⟩,rfl⟩
  case map kt kg vt vg =>
   split at h<;>try (cases h;done)
   rename_i Lz UE LA QH es hb
   split at h<;>try (cases h;done)
   rename_i hg
   split at h<;>try (cases h;done)
   rename_i fs hc
   cases h
   simp only [aN] at hg
   rw [ei hg.1,ei hg.2] at hb
   unfold Hx at hc
   split at hc<;>try (cases hc;done)
   rename_i he
   obtain ⟨rfl,rfl⟩:=he
   cases hc
   exact ⟨⟨i,hi,hb⟩,rfl⟩
  case mJ t k q c =>
   split at h<;>try (cases h;done)
   rename_i t' xs k' q' v hb
   split at h<;>try (cases h;done)
   rename_i hc
   simp only [aN] at hc
   split at h<;>try (cases h;done)
   rename_i ys hy
   split at h<;>try (cases h;done)
   rename_i f' hf
   cases h
   obtain ⟨e,he⟩:=dV hy
   subst e;subst he
   obtain ⟨h1,h2⟩:=CP.rF hf a
   refine ⟨⟨i,hi,v,?_,h1⟩,h2⟩
   rw [hb,Nat.eq_of_beq_eq_true hc.1,DE hc.2]
def Nq (π : List Nat) (nx : Nat) (bl : ai) : (ps : List (Nat × BP)) → Option (A → RA ps A)
 |[]=>some fun a=>a
 |(id,p)::r=>match BP.rd (A:=RA r A) π nx bl id p with
  |some f=>match Nq π nx bl r with
   |some g=>some fun a=>f (g a)
   |none=>none
  |none=>none
theorem BF {nx : Nat} {bl : ai} : ∀ {ps : List (Nat × BP)} {f : A → RA ps A}, Nq π nx bl ps = some f → ∀ a, (∀ p ∈ Qu ps (f a), EBk π nx bl p.1 p.2) ∧ (Qu ps (f a)).map (·.1) = ps.map (·.1)
 |[],f,h,a=>by cases h;exact ⟨fun p hp=>by simp [Qu] at hp,rfl⟩
 |(s,p)::r,f,h,a=>by
  simp only [Nq] at h
  split at h<;>try (cases h;done)
  rename_i f1 h1
  split at h<;>cases h
  rename_i g h2
  obtain ⟨q1,q2⟩:=BP.rF h1 (g a)
  obtain ⟨q3,q4⟩:=BF h2 a
  simp only [Qu,q2]
  refine ⟨fun x hx=>?_,by simp [q4]⟩
  rcases List.mem_cons.1 hx with rfl|hx
  ·exact q1
  ·exact q3 x hx
def Ki (nx b : Nat) : V → Option Nat
 | .sl i _ _ _=>some i
 | .ptr i _=>some i
 | .yl i=>some i
 | .mp i=>some i
 | .pa i _ _=>some i
 | .ep i _ _ _=>some i
 | .bW=>some (nx+b)
 | .cq _ (.ptr i _)=>some i
 |_=>none
def Nr : List V → Nat → Option V
 |[],_=>none
 |v::_,0=>some v
 |_::r,n+1=>Nr r n
def Xh (π : List Nat) (env : Env) (nx : Nat) (bl : ai) (ms : List Nat) (b : Nat) : Lc → Option Nat
 | .slot s=>Ki nx b (get s env)
 | .part s k=>match get s env with
  | .agg cs=>match Nr cs k with
   |some v=>Ki nx b v
   |none=>none
  | .fn _ a c=>match Nr (a++c) k with
   |some v=>Ki nx b v
   |none=>none
  | .cK cs=>match Nr cs k with
   |some v=>Ki nx b v
   |none=>none
  |_=>none
 | .cell b' k=>match uH π b' with
  |some i=>match aq i bl with
   |some (.cells cs _)=>match Nr cs k with
    |some v=>Ki nx b v
    |none=>none
   |some (.mJ _ _ _ _ v)=>Ki nx b v
   |_=>none
  |none=>none
 | .old i=>some i
 | .mark j=>uH ms j
def snoc {R : Type} : List Nat → Nat → (List Nat → R) → R
 |[],i,k=>k [i]
 |j::r,i,k=>snoc r i fun r'=>k (j::r')
theorem BG {R : Type} : ∀ (l : List Nat) (i : Nat) (k : List Nat → R), snoc l i k = k (l ++ [i])
 |[],_,_=>rfl
 |j::r,i,k=>by simp only [snoc,BG r];rfl
def rH {R : Type} (no : R) (env : Env) (nx : Nat) (bl : ai) (ms : List Nat) : List Lc → List Nat → Nat → (List Nat → R) → R
 |[],π,_,k=>k π
 |l::r,π,b,k=>match Xh π env nx bl ms b l with
  |some i=>fN i fun i=>snoc π i fun π=>fN (b+1) fun b=>rH no env nx bl ms r π b k
  |none=>no
theorem w9 {X:Type} {no:Option X} {env:Env} {nx:Nat} {bl:ai} {ms:List Nat}:∀{ls:List Lc} {π:List Nat} {b:Nat} {k:List Nat→Option X} {x:X},rH no env nx bl ms ls π b k=some x →
  no=some x∨∃r,r.length=ls.length∧k (π++r)=some x
 |[],π,b,k,x,h=>.inr ⟨[],rfl,by simpa [rH] using h⟩
 |l::ls,π,b,k,x,h=>by
  simp only [rH] at h
  split at h
  ·rename_i i hi
   rw [fO,BG,fO] at h
   rcases w9 h with h|⟨r,h1,h2⟩
   ·exact .inl h
   ·exact .inr ⟨i::r,by simp [h1],by simpa using h2⟩
  ·exact .inl h
def Ns (π:List Nat) (a b:Nat):Bool:=match uH π a with
 |some i=>match uH π b with
  |some j=>match Nat.beq i j with
   |true=>false
   |false=>true
  |none=>false
 |none=>false
def BH (π : List Nat) (a : Nat) : List (Nat × BP) → Bool
 |[]=>true
 |(b,_)::r=>match Ns π a b with
  |true=>BH π a r
  |false=>false
def xd (π : List Nat) : List (Nat × BP) → Bool
 |[]=>true
 |(a,_)::r=>match BH π a r with
  |true=>xd π r
  |false=>false
theorem Nt {a b:Nat} (h:Ns π a b=true):π[a]?≠π[b]?:=by
 unfold Ns at h
 split at h<;>try (cases h;done)
 rename_i i hi
 split at h<;>try (cases h;done)
 rename_i j hj
 split at h<;>try (cases h;done)
 rename_i hij
 rw [←pe,←pe,hi,hj]
 intro e;cases e
 rw [Nat.beq_refl] at hij;cases hij
theorem tu {a : Nat} : ∀ {r : List (Nat × BP)}, BH π a r = true → ∀ b ∈ r.map (·.1), π[a]? ≠ π[b]?
 |[],_,b,hb=>by simp at hb
 |(c,_)::r,h,b,hb=>by
  simp only [BH] at h
  split at h<;>try (cases h;done)
  rename_i hd
  simp only [List.map_cons,List.mem_cons] at hb
  rcases hb with rfl|hb
  ·exact Nt hd
  ·exact tu h b hb
theorem xe : ∀ {r : List (Nat × BP)}, xd π r = true → ∀ a ∈ r.map (·.1), ∀ b ∈ r.map (·.1), π[a]? = π[b]? → a = b
 |[],_,a,ha=>by simp at ha
 |(c,_)::r,h,a,ha=>by
  simp only [xd] at h
  split at h<;>try (cases h;done)
  rename_i hd
  intro b hb e
  simp only [List.map_cons,List.mem_cons] at ha hb
  rcases ha with rfl|ha<;>rcases hb with rfl|hb
  ·rfl
  ·exact absurd e (tu hd b hb)
  ·exact absurd e.symm (tu hd a ha)
  ·exact xe h a ha b hb e
def Kj (π : List Nat) : List Nat → List Nat → Bool
 |[],[]=>true
 |a::r,i::s=>match zf π a i with
  |true=>Kj π r s
  |false=>false
 |_,_=>false
theorem Ig : ∀ {ps ms : List Nat}, Kj π ps ms = true → ps.map (fun i => π[i]?) = ms.map some
 |[],[],_=>rfl
 |a::r,i::s,h=>by
  simp only [Kj] at h
  split at h<;>try (cases h;done)
  rename_i ha
  simp [lH ha,Ig h]
 |[],_::_,h=>by simp [Kj] at h
 |_::_,[],h=>by simp [Kj] at h
def az.rd {R:Type} (no:R) (pre:List Nat) (base:Nat) (p:az) (env:Env) (nx:Nat) (bl:ai) (ms:List Nat) (k:p.T→R):R :=
 rH no env nx bl ms p.gH pre base fun π=>match an (Kj π p.ms ms) (xd π p.bl) with
  |true=>match Ae (A:=RA p.bl Unit) π env p.env with
   |some f=>match Nq (A:=Unit) π nx bl p.bl with
    |some g=>k (f (g ()))
    |none=>no
   |none=>no
  |false=>no
theorem az.Ih {X:Type} {no:Option X} {base:Nat} {p:az} {env:Env} {nx:Nat} {bl:ai} {ms:List Nat} {k:p.T→Option X} {r:X} (h:p.rd no (List.range base) base env nx bl ms k=some r) :
  no=some r∨∃x π,k x=some r∧jm base π ⟨env,⟨nx,bl⟩,ms⟩ (p.st base x):=by
 rcases w9 h with h|⟨rr,hlen,h⟩
 ·exact .inl h
 split at h
 ·rename_i hc
  rw [aN] at hc
  split at h
  ·rename_i f hf
   split at h
   ·rename_i g hg
    obtain ⟨h1,h2⟩:=rG hf (g ())
    obtain ⟨h3,h4⟩:=BF hg ()
    refine .inr ⟨f (g ()),List.range base++rr,h,?_⟩
    constructor
    ·simp
    ·simp [az.st,hlen]
    ·exact Ig hc.1
    ·exact h1
    ·simp only [az.st,az.B,h2];exact h3
    ·simp only [az.st, az.B, h2]
     intro q hq s hs e
     refine xe hc.2 q.1 ?_ s.1 ?_ e
     ·rw [←h4];exact List.mem_map_of_mem hq
     ·rw [←h4];exact List.mem_map_of_mem hs
   ·exact .inl h
  ·exact .inl h
 ·exact .inl h
theorem az.dH {X:Type} {base:Nat} {p:az} {env:Env} {nx:Nat} {bl:ai} {ms:List Nat} {k:p.T→Option X} {r:X} (h:p.rd none (List.range base) base env nx bl ms k=some r) :
  ∃x π,k x=some r∧jm base π ⟨env,⟨nx,bl⟩,ms⟩ (p.st base x):=by
 rcases az.Ih h with h|h
 ·cases h
 ·exact h
end
end Go.AM
end
section
namespace Go.AM
@[reducible] def gG (k:IntKind) (z:Int):Bool:=k.min≤z&&z≤k.max
@[reducible] def fu (i n:Int):Bool:=decide (0≤i∧i<n)
@[reducible] def Wk (a b:Int):Int:=if b<a then b else a
@[reducible] def imax (a b:Int):Int:=if b > a then b else a
@[reducible] def seq (a b:ByteArray):Bool:=a.toList==b.toList
@[reducible] def slt (a b:ByteArray):Bool:=Op.bytesLess a.toList b.toList
@[reducible] def Fq (c a b:Bool):Bool:=if c then a else b
def Gg : Ex → Ex → Bool
 | .normal,.normal=>true
 | .exit a,.exit b=>Nat.beq a b
 | .ret,.ret=>true
 |_,_=>false
theorem Ii {a b:Ex} (h:Gg a b=true):a=b:=by
 cases a<;>cases b<;>simp only [Gg,Bool.false_eq_true] at h<;>try rfl
 rw [Nat.eq_of_beq_eq_true h]
abbrev aX:=List (Ex×az)
def aX.T : aX → Type
 |[]=>Empty
 |[(_,p)]=>p.T
 |(_,p)::q::r=>p.T ⊕ aX.T (q::r)
def aX.st (base : Nat) : (xs : aX) → xs.T → Ex × St
 |[],x=>nomatch x
 |[(e,p)],x=>(e,p.st base x)
 |(_,_)::q::r,.inr y=>aX.st base (q::r) y
 |(e,p)::_::_,.inl x=>(e,p.st base x)
section
variable {R:Type}
def RI : List V → (List V → R) → R
 |[],k=>k []
 |v::r,k=>fV v fun v=>RI r fun r=>k (v::r)
theorem nj : ∀ (l : List V) (k : List V → R), RI l k = k l
 |[],k=>rfl
 |v::r,k=>by simp only [RI,nE,nj r]
def Kk : Env → (Env → R) → R
 |[],k=>k []
 |(s,v)::r,k=>fV v fun v=>Kk r fun r=>k ((s,v)::r)
theorem rI : ∀ (l : Env) (k : Env → R), Kk l k = k l
 |[],k=>rfl
 |(s,v)::r,k=>by simp only [Kk,nE,rI r]
def Xi (b:k8) (k:k8→R):R:=match b with
 | .cells cs fz=>RI cs fun cs=>k (.cells cs fz)
 | .arr t xs fz=>k (.arr t xs fz)
 | .loop st j d env ps as bd N=>Kk env fun env=>k (.loop st j d env ps as bd N)
 | .ig=>k .ig
 | .map kt kg vt vg es=>k (.map kt kg vt vg es)
 | .mJ t xs i p v=>fV v fun v=>k (.mJ t xs i p v)
theorem RJ (b:k8) (k:k8→R):Xi b k=k b:=by cases b<;>simp only [Xi,nj,rI,nE]
def fBl : ai → (ai → R) → R
 |[],k=>k []
 |(s,b)::r,k=>Xi b fun b=>fBl r fun r=>k ((s,b)::r)
theorem BI : ∀ (l : ai) (k : ai → R), fBl l k = k l
 |[],k=>rfl
 |(s,b)::r,k=>by simp only [fBl,RJ,BI r]
def az.go (p:az) (nx:Nat) (x:p.T) (k:Env→Nat→ai→List Nat→R):R:=Kk (p.E x) fun env=>fBl (p.B x) fun bl=>k env nx bl p.ms
theorem az.go_eq (p:az) (nx:Nat) (x:p.T) (k:Env→Nat→ai→List Nat→R):p.go nx x k=k (p.E x) nx (p.B x) p.ms:=by
 unfold az.go;rw [rI,BI]
def aX.go (kz : Kz R) (base : Nat) : (xs : aX) → xs.T → Kc R → R
 |[],x,_=>nomatch x
 |[(e,p)],x,k=>fN (base+p.gH.length) fun nx=>p.go nx x (k e)
 |(e,p)::q::r,x,k=>kz.sm x (fun x=>fN (base+p.gH.length) fun nx=>p.go nx x (k e)) fun y=>aX.go kz base (q::r) y k
end
theorem aX.Af {X:Type} {base:Nat}:∀{xs:aX} {x:xs.T} {k:Kc (Option X)} {r:X},xs.go (jg X) base x k=some r →
  k (xs.st base x).1 (xs.st base x).2.env (xs.st base x).2.H.next (xs.st base x).2.H.bl (xs.st base x).2.ms=some r
 |[],x,_,_,_=>nomatch x
 |[(e,p)],x,k,r,h=>by
  simp only [aX.go,fO] at h
  exact (az.go_eq p _ (show p.T from x) (k e)).symm.trans h
 |(e,p)::q::s,x,k,r,h=>by
  simp only [aX.go,jg] at h
  cases x with
  |inl x =>
   simp only [fO] at h
   rw [az.go_eq] at h
   exact h
  |inr y=>exact aX.Af (xs:=q::s) (x:=y) h
def aX.rd {R : Type} (no : R) (pre : List Nat) (base : Nat) : (xs : aX) → Ex → Env → Nat → ai → List Nat → (xs.T → R) → R
 |[],_,_,_,_,_,_=>no
 |[(e',p)],e,env,nx,bl,ms,k=>match Gg e' e with
  |true=>p.rd no pre base env nx bl ms k
  |false=>no
 |(e',p)::q::r,e,env,nx,bl,ms,k=>match Gg e' e with
  |true=>p.rd (aX.rd no pre base (q::r) e env nx bl ms fun x=>k (.inr x)) pre base env nx bl ms fun x=>k (.inl x)
  |false=>aX.rd no pre base (q::r) e env nx bl ms fun x=>k (.inr x)
theorem aX.dH {X:Type} {base:Nat} {env:Env} {nx:Nat} {bl:ai} {ms:List Nat}:∀{xs:aX} {e:Ex} {k:xs.T→Option X} {r:X},xs.rd none (List.range base) base e env nx bl ms k=some r →
  ∃x π,k x=some r∧e=(xs.st base x).1∧jm base π ⟨env,⟨nx,bl⟩,ms⟩ (xs.st base x).2
 |[],_,_,_,h=>by simp [aX.rd] at h
 |[(e',p)],e,k,r,h=>by
  simp only [aX.rd] at h
  split at h<;>try (cases h;done)
  rename_i he
  obtain ⟨x,π,h1,h2⟩:=az.dH h
  exact ⟨x,π,h1,(Ii he).symm,h2⟩
 |(e',p)::q::s,e,k,r,h=>by
  simp only [aX.rd] at h
  split at h
  ·rename_i he
   rcases az.Ih h with h|⟨x,π,h1,h2⟩
   ·obtain ⟨x, π, h1, h2, h3⟩ := aX.dH (xs := q :: s) h
    exact ⟨.inr x,π,h1,h2,h3⟩
   ·exact ⟨.inl x,π,h1,(Ii he).symm,h2⟩
  ·obtain ⟨x, π, h1, h2, h3⟩ := aX.dH (xs := q :: s) h
   exact ⟨.inr x,π,h1,h2,h3⟩
def Nv {R:Type} (no:R) (pre:List Nat) (base:Nat) (p:az) (xs:aX) (inl:p.T→R) (inr:xs.T→R):Kc R:=fun e env nx bl ms=>match e with
 | .normal=>p.rd no pre base env nx bl ms inl
 | .exit i=>xs.rd no pre base (.exit i) env nx bl ms inr
 | .ret=>xs.rd no pre base .ret env nx bl ms inr
def BJ {P:Program} {N:Nat} {out:Option Nat} {base:Nat} {R:Type} (kz:Kz R) (cx:Cx) (ar:Ar) (pre:List Nat) (p:az) (xs:aX) (body:D P N out base) (inl:p.T→R) (inr:xs.T→R) (x:p.T):R :=
 fN (base+p.gH.length) fun nx=>p.go nx x fun env nx bl ms=>kE kz cx ar body env nx bl ms (Nv kz.no pre base p xs inl inr)
section
variable {P:Program} {N:Nat} {out:Option Nat} {base:Nat}
noncomputable def bR (mixed : P.follows .mixedOrders = true) (cx : Cx) (gp : cx.Ok P) (pre : List Nat) (hpre : pre = List.range base) (p : az) (xs : aX) (hxs : xs.all (fun p => !Gg p.1 .normal) = true) (body : D P N out base)
  (step:p.T→Option (p.T ⊕ xs.T)) (hstep:∀x,BJ (jg (p.T ⊕ xs.T)) cx ez pre p xs body (fun y=>some (.inl y)) (fun b=>some (.inr b)) x=step x):cn P N out base where
 c:=body.er
 run kz env nx bl ms K:=p.rd kz.no pre base env nx bl ms fun x=>kz.bd (iter step x) fun b=>xs.go kz base b K
 ok:=by
  intro X env nx bl ms K r h Q hQ
  subst hpre
  obtain ⟨x,π,h1,h2⟩:=az.dH h
  obtain ⟨b,h3,h4⟩:=o9 h1
  have h5:=aX.Af h4
  refine J7 (iD mixed) (I:=p.st base) (X:=xs.st base) (step:=step) (fun x r hx=>?_) h3 h2 (hQ _ _ _ _ _ h5)
  rw [←hstep x] at hx
  unfold BJ at hx
  rw [fO,az.go_eq] at hx
  refine lF gp hx fun e env nx bl ms hk=>?_
  unfold Nv at hk
  cases e with
  |normal =>
   obtain ⟨y,π,q1,q2⟩:=az.dH hk
   cases q1
   exact ⟨rfl,π,q2⟩
  |exit i =>
   obtain ⟨y,π,q1,q2,q3⟩:=aX.dH hk
   cases q1
   exact ⟨by simp,q2,π,q3⟩
  |ret =>
   obtain ⟨y,π,q1,q2,q3⟩:=aX.dH hk
   cases q1
   exact ⟨by simp,q2,π,q3⟩
def qu : List SP → Type → Type
 |[],A=>A
 |p::r,A=>p.T (qu r A)
def DJ {A : Type} : (ps : List SP) → qu ps A → List V
 |[],_=>[]
 |p::r,x=>p.v x::DJ r (p.r x)
def Xj {A : Type} : (ps : List SP) → qu ps A → A
 |[],x=>x
 |p::r,x=>Xj r (p.r x)
def Ag {A : Type} (π : List Nat) : (ps : List SP) → List V → Option (A → qu ps A)
 |[],[]=>some fun a=>a
 |p::r,v::vs=>match SP.rd (A:=qu r A) π p v with
  |some f=>match Ag π r vs with
   |some g=>some fun a=>f (g a)
   |none=>none
  |none=>none
 |_,_=>none
theorem DK {π : List Nat} {A : Type} : ∀ {ps : List SP} {vs : List V} {f : A → qu ps A}, Ag π ps vs = some f → ∀ a, CL π (DJ ps (f a)) vs ∧ Xj ps (f a) = a
 |[],[],f,h,a=>by cases h;exact ⟨.nil,rfl⟩
 |c::r,v::vs,f,h,a=>by
  simp only [Ag] at h
  split at h<;>try (cases h;done)
  rename_i f1 h1
  split at h<;>cases h
  rename_i g h2
  obtain ⟨q1,q2⟩:=SP.rF h1 (g a)
  obtain ⟨q3,q4⟩:=DK h2 a
  simp only [DJ,Xj,q2]
  exact ⟨.cons q1 q3,q4⟩
 |[],_::_,f,h,a=>by simp [Ag] at h
 |_::_,[],f,h,a=>by simp [Ag] at h
structure Ct where
 f:Nat
 ps:List SP
 res:SP
 fn:qu ps Unit→Option (res.T Unit)
def Ct.Ok (P:Program) (ct:Ct):Prop:=∀x y,ct.fn x=some y→gL P ct.f (DJ ct.ps x) (ct.res.v y)
theorem DL {π:List Nat}:Mu.eU (fun _=>none) π=fun _=>none:=by
 funext i;simp only [Mu.eU];cases π[i]?<;>rfl
theorem BK {f:Nat} {vs vs':List V} {v:V} {nx:Nat} {bl:ai} (h:gL P f vs' v) (hm:dh (fin ez bl 8) vs=some vs') (hs:CU v=true) {Q:V→aF→Prop} (hQ:Q v ⟨nx,bl⟩):gN P f vs ⟨nx,bl⟩ Q:=by
 refine ⟨h.1,fun Y ι μ w as hI hl=>?_⟩
 refine (h.2 (ι.all Y.own w) w as (hI.dz.mono (aj.Bg hI.rd)) (fun b o x hx=>?_) (iZ (fun v r x h hr=>uZ (fun _ _ _=>rfl) hI h hr) hm hl)).mono ?_
 ·exact aj.FN hI.rd hx
 ·rintro e w' ⟨x, ι', rfl, _, _, _, jK, FK⟩
  exact ⟨x,ι,μ,v,_,rfl,aj.le_refl _,Mu.le_refl _,hI.called (aj.le_refl _) (fun _ _ _=>rfl) (dn.kept (fun b o x hx=>hI.rd b o x hx) jK) jK,Dr hs FK,hQ⟩
def DM {R : Type} (kz : Kz R) (f : Nat) (vs : List V) (K : V → R) : List Ct → R
 |[]=>kz.no
 |ct::r=>match Nat.beq ct.f f with
  |true=>match Ag (A:=Unit) [] ct.ps vs with
   |some g=>kz.bd (ct.fn (g ())) fun y=>ct.res.kv kz y K
   |none=>DM kz f vs K r
  |false=>DM kz f vs K r
def Ij (P : Program) : List Ct → Prop
 |[]=>True
 |c::r=>c.Ok P∧Ij P r
theorem pn {X : Type} {f : Nat} {vs : List V} {K : V → Option X} {r : X} : ∀ {ve : List Ct}, Ij P ve → DM (jg X) f vs K ve = some r → ∃ v, gL P f vs v ∧ K v = some r
 |[],_,hk=>by cases hk
 |ct::ve,h,hk=>by
  simp only [DM] at hk
  split at hk
  ·rename_i hf
   have e:=Nat.eq_of_beq_eq_true hf
   subst e
   split at hk
   ·rename_i g hg
    obtain ⟨y,hy,hk⟩:=qq hk
    rw [SP.abC] at hk
    obtain ⟨q1,_⟩:=DK hg ()
    refine ⟨_,?_,hk⟩
    have hp:=h.1 _ _ hy
    exact ⟨hp.1, fun ι w as hgl hrd hl => hp.2 ι w as hgl hrd (by
     have:=aG.eU (π:=[]) q1.1 (fun i v u hv hu=>fun {x} hr=>(q1.2 i v u hv hu).rel hr) hl
     rwa [DL] at this)⟩
   ·exact pn h.2 hk
  ·exact pn h.2 hk
theorem Kl {f:Nat} {vs vs':List V} {v:V} {nx:Nat} {bl bJ:ai} (h:gL P f vs' v) (hm:dh (fin ez bl 8) vs=some vs') (hb:ug (jB bl vs) bl=some bJ) {Q:V→aF→Prop} (hQ:Q v ⟨nx,bJ⟩):gN P f vs ⟨nx,bl⟩ Q:=by
 refine ⟨h.1,fun Y ι μ w as hI hl=>?_⟩
 obtain ⟨ι',h1,h2,h3⟩:=u7 hI hb
 have hl':aG ι' (fun _=>none) vs' as.toList:=by
  have key:∀{vs vs':List V} {xs:List Value},dh (fin ez bl 8) vs=some vs'→(∀id∈jB bl vs,yU ι' μ id (aq id bl))→aG ι μ vs xs→aG ι' (fun _=>none) vs' xs:=by
   intro vs
   induction vs with
   |nil=>intro vs' xs hm _ hl;cases hm;rw [hl.of_nil];exact .nil
   |cons v r ih =>
    intro vs' xs hm hfz hl
    unfold dh at hm
    split at hm<;>try (cases hm;done)
    rename_i u hu
    split at hm<;>cases hm
    rename_i us HN
    obtain ⟨x,xs',rfl,r1,r2⟩:=hl.bA
    simp only [jB,List.flatMap_cons,List.mem_append] at hfz
    exact .cons (Bk hu (fun id hid=>hfz id (.inl hid)) (r1.mono h1 (Mu.le_refl _))) (ih HN (fun id hid=>hfz id (.inr hid)) r2)
  exact key hm h3 hl
 refine (h.2 ι' w as h2.dz (fun b o x hx=>h2.rd b o x hx) hl').mono ?_
 rintro e w' ⟨x,ι2,rfl,hi,hib,hrd,jK,FK⟩
 exact ⟨x,ι2,μ,v,_,rfl,aj.le_trans h1 hi,Mu.le_refl _,h2.called hi hib hrd jK,FK.mono (aj.le_refl _) (fun _ _ h=>by cases h),hQ⟩
def Xk {R:Type} (ve:List Ct) (kz:Kz R) (f:Nat) (vs:List V) (nx:Nat) (bl:ai) (K:V→Nat→ai→R):R:=match vs.all (dK 8) with
 |true=>DM kz f vs (fun v=>K v nx bl) ve
 |false=>match dh (fin ez bl 8) vs with
  |some vs'=>DM kz f vs' (fun v=>match CU v with
   |true=>K v nx bl
   |false=>match ug (jB bl vs) bl with
    |some bJ=>fBl bJ fun bJ=>K v nx bJ
    |none=>kz.no) ve
  |none=>kz.no
def mkCx (ve:List Ct):Cx where
 pc kz f vs K:=DM kz f vs K ve
 ca kz f vs nx bl K:=Xk ve kz f vs nx bl K
 rd kz _ _ _ _ _:=kz.no
theorem RK {ve:List Ct} (h:Ij P ve):(mkCx ve).Ok P where
 UX hk:=pn h hk
 Rz:=by
  intro X f vs nx bl K r hk Q hQ
  simp only [mkCx,Xk] at hk
  split at hk
  ·rename_i hd
   obtain ⟨v,hp,hk⟩:=pn h hk
   exact FT hp hd (hQ _ _ _ hk)
  ·split at hk <;> try (cases hk; done)
   rename_i vs' hm
   obtain ⟨v,hp,hk⟩:=pn h hk
   split at hk
   ·rename_i hs
    exact BK hp hm hs (hQ _ _ _ hk)
   ·split at hk <;> try (cases hk; done)
    rename_i bJ hb
    rw [BI] at hk
    exact Kl hp hm hb (hQ _ _ _ hk)
 Xb hk:=by cases hk
def Xl {R:Type} (kz:Kz R) (ar:Ar) (rs:List RV) (tys:List (Option Ty)) (res:SP) (k:res.T Unit→R):Kc R:=fun e env nx bl ms=>match e with
 | .exit _=>kz.no
 | .normal=>go env nx bl ms
 | .ret=>go env nx bl ms
where go (env:Env) (nx:Nat) (bl:ai) (ms:List Nat):R:=match eH ms bl with
 |some bl=>match uE ar ⟨env,⟨nx,bl⟩,[]⟩ rs with
  |some vs=>match fin ar bl 8 (ua (cO tys vs)) with
   |some v=>match SP.rd (A:=Unit) [] res v with
    |some f=>k (f ())
    |none=>kz.no
   |none=>kz.no
  |none=>kz.no
 |none=>kz.no
def fnE {R:Type} (kz:Kz R) (cx:Cx) (ar:Ar) (rs:List RV) (tys:List (Option Ty)) (ps:List SP) (res:SP) (body:D P N none 0) (k:res.T Unit→R) (x:qu ps Unit):R :=
 RI (DJ ps x) fun vs=>kE kz cx ar body (args 0 vs) 0 [] [] (Xl kz ar rs tys res k)
theorem Km {f : Nat} {func : Func} {fn : Fn} (hf : P.funcs[f]? = some func) (htr : cM P func = some fn) (cD : Enters P f) (gP : mV P fn.N none 0) {vs : List V} {r : V} (hlen : vs.length ≤ fn.np)
  (h:qS (fI P fn.N none 0) fn.body ⟨args 0 vs,⟨0,[]⟩,[]⟩ (JT (fI P fn.N none 0) fn.res fn.tys (fun r'=>EV [] r r'))):gL P f vs r:=by
 refine ⟨cD,fun ι w as hgl hrd hr=>?_⟩
 let Y:Ctx:=⟨w,ι,fun _=>none,none,fun _=>False,[]⟩
 have hI:Inv P Y ι (fun _=>none) ⟨0,[]⟩ w:=⟨HH.refl _ _,aj.le_refl _,fun _ _ _ _=>rfl,hrd,fun id L h=>h,fun _ _=>rfl,fun id B h=>by simp [aq] at h,fun id id' B B' L L' h=>by simp [aq] at h,fun id B h=>by simp [aq] at h,hgl⟩
 have hres:Ma P func.results.toList=some fn.res:=by
  unfold cM at htr
  split at htr<;>try (cases htr;done)
  split at htr<;>try (cases htr;done)
  rename_i Qo
  split at htr<;>try (cases htr;done)
  cases htr;exact Qo
 refine HS (Y:=Y) hf htr gP hlen h rfl rfl (fun _ _=>rfl) hI hr fun Y1 ι' μ' S' a' w' e' hY hR hq=>?_
 have key:JT.qh (fI P fn.N none 0) fn.res fn.tys (fun r'=>EV [] r r') S'→LeavesInM Fence.wide 0 P func a'.tmps (fun e w'=>∃v ι',e = .returned v∧ι.le ι'∧(∀b o,b<w.heap.size→ι' b o=ι b o)∧dn ι' w' ∧
   Dw w w'∧Rel ι' (fun _=>none) r v) a'.defers .returning w':=by
  intro hs
  unfold JT.qh at hs
  split at hs<;>try (exact hs.elim)
  rename_i bl qH
  split at hs<;>try (exact hs.elim)
  rename_i vs' hvs
  split at hs<;>try (exact hs.elim)
  rename_i r' Gi
  refine sU hres (n:=S'.H.next) (bl:=S'.H.bl) hY rfl hR.inv hR.env hR.ms qH hvs fun x w2 nT hx=>?_
  refine ⟨x,ι'.all Y.own w2,rfl,aj.le_trans nT.i0 (aj.Bg nT.rd),fun b o hb=>?_,fun b o y hy=>?_,nT.below.to (fun _ h=>h),?_⟩
  ·rw [aj.Q9 (fun h=>by rcases h with h|h;exact absurd hb (Nat.not_lt.2 h);exact h)];exact nT.iB b o hb (fun h=>h)
  ·exact aj.FN nT.rd hy
  ·have := hs.rel (uZ (Y := Y) (ar := fI P fn.N none 0) (fun _ _ _ => rfl) nT Gi (hx fn.tys))
   rwa [DL] at this
 cases e' with
 |exit id=>exact hq.elim
 |normal=>exact ⟨.inl rfl,key hq⟩
 |ret=>exact ⟨.inr rfl,key hq⟩
theorem cT (mixed : P.follows .mixedOrders = true) {cx : Cx} (gp : cx.Ok P) {func : Func} {fn : Fn} {ct : Ct} (hf : P.funcs[ct.f]? = some func) (htr : cM P func = some fn) (cD : Enters P ct.f)
  (body:D P fn.N none 0) (hbody:body.er=fn.body) (hnp:Nat.ble ct.ps.length fn.np=true) (hfn:∀x,fnE (jg (ct.res.T Unit)) cx ez fn.res fn.tys ct.ps ct.res body some x=ct.fn x):ct.Ok P:=by
 intro x y hxy
 rw [←hfn x] at hxy
 unfold fnE at hxy
 rw [nj] at hxy
 have hlen:∀(ps:List SP) (x:qu ps Unit),(DJ ps x).length=ps.length:=by
  intro ps
  induction ps with
  |nil=>intro x;rfl
  |cons p r ih=>intro x;simp [DJ,ih]
 have hwp:=lF (Q:=JT (fI P fn.N none 0) fn.res fn.tys (fun r=>EV [] (ct.res.v y) r)) gp hxy (fun e env nx bl ms hk=>by
  have key:Xl.go (jg (ct.res.T Unit)) ez fn.res fn.tys ct.res some env nx bl ms=some y→JT.qh (fI P fn.N none 0) fn.res fn.tys (fun r=>EV [] (ct.res.v y) r) ⟨env,⟨nx,bl⟩,ms⟩:=by
   intro hg
   unfold Xl.go at hg
   unfold JT.qh
   split at hg<;>try (cases hg;done)
   rename_i bJ h1
   rw [h1]
   simp only
   split at hg<;>try (cases hg;done)
   rename_i vs h2
   rw [h2]
   simp only
   have e:fin (fI P fn.N none 0) bJ 8 (ua (cO fn.tys vs))=fin ez bJ 8 (ua (cO fn.tys vs)):=by unfold fI;exact wP
   rw [e]
   split at hg<;>try (cases hg;done)
   rename_i v h3
   rw [h3]
   simp only
   split at hg<;>try (cases hg;done)
   rename_i f h4
   cases hg
   exact (SP.rF h4 ()).1
  cases e with
  |exit i=>cases hk
  |normal=>exact key hk
  |ret=>exact key hk)
 rw [hbody] at hwp
 exact Km hf htr cD (iD mixed) (by rw [hlen];exact Nat.le_of_ble_eq_true hnp) hwp
end
end Go.AM
end
