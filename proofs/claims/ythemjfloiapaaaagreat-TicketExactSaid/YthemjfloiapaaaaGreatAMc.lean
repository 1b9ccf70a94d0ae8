/- A region whose order is drawn: whatever the order, it ends as the canonical one. Calls in the caller's heap, loops unrolled, loops over functions. A call of yield: a round of the loop. The small machine, run. The way in: what an argument reads as is data of the machine. States that stand for as much, in general: names may change, nil slices may stand for empty lists, blocks that nobody reads are forgotten. The small machine's code as a function: tests, needs and calls stay open, all else is reckoned. Patterns: what stands in slots and blocks, with places for data; read out of a state, and laid again. Code that is the same, as a test. What is read by a pattern stands for what was there. Loops and functions, as functions of their data. -/
import Derived.Test.YthemjfloiapaaaaGreatAMb
import Derived.OrdersIn
import Derived.ProofKit
import Derived.OpenShut
import Derived.Maps.RangeRun
set_option linter.unusedSectionVars false
set_option linter.unusedVariables false
set_option linter.unusedSimpArgs false
section
namespace Go.AM
section
variable {P:Program} {N:Nat} {Y:Ctx} {ι ι':aj} {μ μ':Mu} {H:aF} {w w':World} {out:Option Nat} {base:Nat} {ops:Array Oper}
def l5 (acc:Array Nat) (o:Oper):Array Nat:=acc.push (o.after.foldl (fun s e=>if Region.binds .any e then s ||| 2 ^ e.on ||| acc.getD e.on 0 else s) 0)
theorem zX:Region.before ops=ops.toList.foldl l5 #[]:=by
 unfold Region.before
 rw [←Array.foldl_toList];rfl
theorem wX {acc:Array Nat} {j:Nat}:∀{l:List Edge} {s:Nat},(l.foldl (fun s e=>if Region.binds .any e then s ||| 2 ^ e.on ||| acc.getD e.on 0 else s) s).testBit j=true →
  s.testBit j=true∨∃e∈l,Region.binds .any e=true∧(j=e.on∨(acc.getD e.on 0).testBit j=true)
 |[],s,h=>.inl h
 |e::r,s,h=>by
  simp only [List.foldl_cons] at h
  rcases wX h with h1|⟨e',he',h2⟩
  ·split at h1
   ·rename_i hb
    simp only [Nat.testBit_or,Bool.or_eq_true,Nat.testBit_two_pow,decide_eq_true_eq] at h1
    rcases h1 with (h1|h1)|h1
    ·exact .inl h1
    ·exact .inr ⟨e,List.mem_cons_self ..,hb,.inl h1.symm⟩
    ·exact .inr ⟨e,List.mem_cons_self ..,hb,.inr h1⟩
   ·exact .inl h1
  ·exact .inr ⟨e',List.mem_cons_of_mem _ he',h2⟩
theorem wY : ∀ (l : List Oper) (acc : Array Nat), (l.foldl l5 acc).size = acc.size + l.length
 |[],acc=>by simp
 |o::r,acc=>by simp only [List.foldl_cons,wY r,l5,Array.size_push,List.length_cons];omega
theorem wZ {j:Nat}:∀(l:List Oper) (acc:Array Nat) (pre:List Oper),acc.size=pre.length →
  (∀i,(acc.getD i 0).testBit j=true→∃o,pre[i]?=some o∧∃e∈o.after,Region.binds .any e=true∧(j=e.on∨(acc.getD e.on 0).testBit j=true)) →
  ∀i,((l.foldl l5 acc).getD i 0).testBit j=true→∃o,(pre++l)[i]?=some o∧∃e∈o.after,Region.binds .any e=true∧(j=e.on∨((l.foldl l5 acc).getD e.on 0).testBit j=true)
 |[],acc,pre,hs,h,i,hi=>by simpa using h i hi
 |o::r,acc,pre,hs,h,i,hi=>by
  have:=wZ r (l5 acc o) (pre++[o]) (by simp [l5,hs]) (fun i hi=>?_) i hi
  ·simpa using this
  ·have keep:∀k,(acc.getD k 0).testBit j=true→((l5 acc o).getD k 0).testBit j=true:=fun k hk=>by
    have hlt:k<acc.size:=by
     rcases Nat.lt_or_ge k acc.size with h|h
     ·exact h
     ·simp [Array.getD,Nat.not_lt.2 h] at hk
    simpa [l5,Array.getD,hlt,Array.getElem_push,Nat.lt_succ_of_lt hlt] using (by simpa [Array.getD,hlt] using hk:acc[k].testBit j=true)
   by_cases hlt:i<acc.size
   ·have hi':(acc.getD i 0).testBit j=true:=by
     simpa [l5,Array.getD,hlt,Array.getElem_push,Nat.lt_succ_of_lt hlt] using hi
    obtain ⟨o',ho',e,he,hb,hj⟩:=h i hi'
    exact ⟨o',by rw [List.getElem?_append_left (List.getElem?_eq_some_iff.1 ho').1];exact ho',e,he,hb,hj.imp id (keep _)⟩
   ·by_cases heq : i = acc.size
    ·subst heq
     have hi':(o.after.foldl (fun s e=>if Region.binds .any e then s ||| 2 ^ e.on ||| acc.getD e.on 0 else s) 0).testBit j=true:=by
      simpa [l5,Array.getD,Array.getElem_push] using hi
     rw [←Array.foldl_toList] at hi'
     rcases wX hi' with h1|⟨e,he,hb,hj⟩
     ·simp at h1
     ·exact ⟨o,by rw [hs];simp,e,by simpa using he,hb,hj.imp id (keep _)⟩
    ·have : ¬ i < (l5 acc o).size := by simp [l5]; omega
     simp [Array.getD,this] at hi
theorem ou {i j:Nat} (h:((Region.before ops).getD i 0).testBit j=true) :
  ∃o,ops[i]?=some o∧∃e∈o.after,Region.binds .any e=true∧(j=e.on∨((Region.before ops).getD e.on 0).testBit j=true):=by
 rw [zX] at h ⊢
 obtain ⟨o,ho,h⟩:=wZ (j:=j) ops.toList #[] [] rfl (fun i hi=>by simp at hi) i h
 exact ⟨o,by simpa using ho,h⟩
theorem ov:(Region.before ops).size=ops.size:=by rw [zX,wY];simp
theorem jP {i j:Nat}:j∈(bL ops).getD i []↔j<ops.size∧((Region.before ops).getD i 0).testBit j=true:=by
 unfold bL
 simp only [List.getD,List.getElem?_map]
 by_cases hi:i<ops.size
 ·have h:(Region.before ops).toList[i]?=some ((Region.before ops).getD i 0):=by
   have:i<(Region.before ops).size:=by rw [ov];exact hi
   simp [Array.getD,this]
  simp [h,List.mem_filter,List.mem_range]
 ·have h1 : (Region.before ops).toList[i]? = none := List.getElem?_eq_none (by simp [ov]; omega)
  have h2:(Region.before ops).getD i 0=0:=by simp [Array.getD,ov,hi]
  simp [h1,h2]
theorem gj : ∀ {os : List Oper} {is : List eM}, dV P N ops os = some is → is.length = os.length ∧ ∀ (k : Nat) o it, os[k]? = some o → is[k]? = some it → pT P N ops o = some it
 |[],is,h=>by cases h;exact ⟨rfl,fun k o it h=>by simp at h⟩
 |o::os,is,h=>by
  unfold dV at h
  split at h<;>try (cases h;done)
  rename_i it its hit Mo
  cases h
  obtain ⟨h1,h2⟩:=gj Mo
  refine ⟨by simp [h1],fun k o' it' ho hi=>?_⟩
  cases k with
  |zero=>simp at ho hi;subst ho;subst hi;exact hit
  |succ k=>exact h2 k o' it' (by simpa using ho) (by simpa using hi)
theorem Inv.tA (h:Inv P Y ι μ H w) {n:Nat} (hn:H.next≤n):Inv P Y ι μ ⟨n,H.bl⟩ w :=
 ⟨h.below,h.i0,h.iB,h.rd,h.m0,fun id hid=>h.nx id (Nat.le_trans hn hid),h.live,h.inj,fun id B hB=>Nat.lt_of_lt_of_le (h.lt id B hB) hn,h.gl⟩
theorem Inv.eqB (h:Inv P Y ι μ H w) {bl:ai} (he:UT bl H.bl):Inv P Y ι μ ⟨H.next,bl⟩ w :=
 ⟨h.below,h.i0,h.iB,h.rd,h.m0,h.nx,fun id B hB=>h.live id B (by rw [←he id];exact hB),fun id id' B B' L L' hb hb'=>h.inj id id' B B' L L' (by rw [←he id];exact hb) (by rw [←he id'];exact hb'),
  fun id B hB=>h.lt id B (by rw [←he id];exact hB),h.gl⟩
theorem dK.Mt {B:Nat→Prop} {id:Nat} {b:kP} (h:dK P B ι μ id w b) (hw:w'.heap=w.heap):dK P B ι μ id w' b:=by
 cases b with
 |cells cs fz=>obtain ⟨L,vs,hM,h⟩:=h;exact ⟨L,vs,⟨hM.mu,hM.old,by rw [hw];exact hM.row,hM.fits,hM.one,hM.C5,hM.pU⟩,h⟩
 |arr t xs fz =>
  rcases h with h|⟨L,vs,hM,h⟩
  ·exact .inl h
  ·exact .inr ⟨L,vs,⟨hM.mu,hM.old,by rw [hw];exact hM.row,hM.fits,hM.one,hM.C5,hM.pU⟩,h⟩
 |loop st j d env ps as bd N=>unfold dK at h ⊢;rw [hw];exact h
 |gX=>unfold dK at h ⊢;rw [hw];exact h
 |map kt kg vt vg es=>unfold dK at h ⊢;rw [hw];exact h
 |mE t xs i p v =>
  obtain ⟨L,us,vs,c,hM,h⟩:=h
  exact ⟨L,us,vs,c,⟨hM.mu,hM.old,by rw [hw];exact hM.row,hM.fits,hM.one,hM.C5,hM.pU⟩,h⟩
theorem Inv.drawn (h:Inv P Y ι μ H w):Inv P Y ι μ H { w with drawn:=w.drawn+1 } :=
 ⟨⟨h.below.os,h.below.tape,h.below.output,h.below.size,h.below.block,Nat.le_succ_of_le h.below.dr,h.below.maps⟩,h.i0,h.iB,h.rd,h.m0,h.nx,fun id B hB=>(h.live id B hB).Mt rfl,h.inj,h.lt,h.gl⟩
theorem Inv.called (hI:Inv P Y ι μ H w) (hi:ι.le ι') (hib:∀b o,b<w.heap.size→ι' b o=ι b o) (hrd:dm ι' w') (jG:Dw w w'):Inv P Y ι' μ H w':=by
 have hsz:=hI.below.size
 refine ⟨hI.below.then jG,aj.le_trans hI.i0 hi,fun b o hb hx=>by rw [hib b o (by omega)];exact hI.iB b o hb hx,hrd,hI.m0,hI.nx,fun id B hB=>?_,hI.inj,hI.lt,hI.gl⟩
 have kY:=hI.live id B hB
 refine kY.mono hi (Mu.le_refl _) (fun h=>h) (fun L hL=>jG.b.block _ (kY.loc hL).2) (fun L hL ho o=>?_)
 rw [hib _ _ (kY.loc hL).2];exact ho o
theorem dm.kept (h:dm ι w) (jG:Dw w w'):dm ι w':=fun b o x hx=>by
 have h1:=h b o x hx
 have hlt:b<w.heap.size:=by
  rcases Nat.lt_or_ge b w.heap.size with h'|h'
  ·exact h'
  ·simp [World.cell?,Array.getElem?_eq_none h'] at h1
 unfold World.cell? at h1 ⊢
 simp only at h1 ⊢
 rw [jG.b.block b hlt];exact h1
theorem zY {v:V} {x:Value} (h:HN v=true) (hr:Rel ι μ v x):Rel ι' μ' v x:=by
 cases hr<;>simp only [HN] at h<;>try (cases h;done)
 case tf=>exact .tf _
 case bool=>exact .bool _
 case int=>exact .int _ _
 case str=>exact .str _
theorem JX {v:V} {x:Value} (h:LU v=true) (hr:Rel ι μ v x):Rel ι' μ' v x:=by
 cases hr<;>simp only [LU] at h<;>try (cases h;done)
 case tf=>exact .tf _
 case bool=>exact .bool _
 case int=>exact .int _ _
 case str=>exact .str _
 case agg cs xs h1 h2 h3=>exact .agg cs xs h1 (fun i v x hv hx=>zY (List.all_eq_true.1 h _ (List.mem_of_getElem? hv)) (h2 i v x hv hx)) h3
theorem DA {v:V} {x:Value} (h:C3 v=true) (hr:Rel ι μ v x):Rel ι' μ' v x:=by
 cases hr<;>simp only [C3] at h<;>try (cases h;done)
 case tf=>exact .tf _
 case bool=>exact .bool _
 case int=>exact .int _ _
 case str=>exact .str _
 case agg cs xs h1 h2 h3=>exact .agg cs xs h1 (fun i v x hv hx=>zY (List.all_eq_true.1 h _ (List.mem_of_getElem? hv)) (h2 i v x hv hx)) h3
 case cG cs xs h1 h2=>exact .cG cs xs h1 fun i v x hv hx=>JX (List.all_eq_true.1 h _ (List.mem_of_getElem? hv)) (h2 i v x hv hx)
theorem Bt {g : V → Option V} : ∀ {vs : List V}, (∀ v ∈ vs, g v = some v) → dg g vs = some vs
 |[],_=>rfl
 |v::r,h=>by simp only [dg,h v (List.mem_cons_self ..),Bt (vs:=r) (fun v hv=>h v (List.mem_cons_of_mem _ hv))]
theorem w5 {ar : Ar} {bl : ai} : ∀ {n : Nat} {v : V}, dJ n v = true → fin ar bl n v = some v
 |0,v,h=>by cases h
 |n+1,v,h=>by
  have all:∀{cs:List V},cs.all (dJ n)=true→dg (fin ar bl n) cs=some cs:=fun h=>Bt fun v hv=>w5 (List.all_eq_true.1 h v hv)
  cases v<;>simp only [dJ] at h<;>try (cases h;done)
  case fc cs=>simp only [fin,h,if_true]
  case fn f a b=>simp only [Bool.and_eq_true] at h;simp only [fin,all h.1,all h.2]
  case agg cs=>simp only [fin,all h]
  case cG cs=>simp only [fin,all h]
  case cq t v=>simp only [fin,w5 h]
  all_goals rfl
theorem vo {v0 v:V} {x:Value} (h:vOk v0 v) (hr:Rel ι μ v0 x):Rel ι μ v x:=by
 rcases h with rfl|⟨c,rfl,rfl⟩
 ·exact hr
 ·cases hr;exact .tf _
theorem tB {S:List (Nat×V)} {a:Act} (he:ei ι μ S a.tmps) {o:Oper} {g:Option (Nat×Bool)} (hg:ZT ops o.guard=some g) {c:Bool} (h:HO g S=some c):Region.wanted o (yielded ops a.tmps)=c:=by
 cases Mn:o.guard with
 |none=>rw [Mn] at hg;cases hg;cases h;simp [Region.wanted,Mn]
 |some jb =>
  obtain ⟨j,b⟩:=jb
  rw [Mn] at hg
  simp only [ZT] at hg
  split at hg<;>try (cases hg;done)
  rename_i oj hoj
  split at hg<;>try (cases hg;done)
  rename_i d hdj
  cases hg
  simp only [HO] at h
  split at h<;>try (cases h;done)
  rotate_left
  ·rename_i vs hc
   cases h
   simp only [Region.wanted,Mn,uh he hoj hdj hc]
   rfl
  rename_i c' hc
  simp only [Region.wanted,Mn,wG he hoj hdj (.inl hc)]
  revert h
  cases c'<;>cases b<;>intro h<;>cases h<;>rfl
theorem Ia {b n : Nat} {t : TR} {env : List (Nat × V)} {bl : ai} {ms : List Nat} {a : Act} (hn : t.k < n) {o : Oper} (ho : ops[t.k]? = some o) (hit : pT P N ops o = some t.it)
  (Mv:En (gb P N out base) b t env bl) (hR:eF P N Y ι μ ⟨env,⟨b+n,bl⟩,ms⟩ a w) (hfree:μ (b+t.k)=none) {Q:Exit→Act→World→Prop} {K:Act→World→Prop}
  (hK:∀ι' μ' a' w',eF P N Y ι' μ' ⟨t.Mr env,⟨b+n,t.JV bl⟩,ms⟩ a' w'→(∀id,id≠b+t.k→μ' id=μ id)→K a' w'):wpOpIn Y.F 0 P ops Q t.k K a w:=by
 obtain ⟨k,it,ac,rd⟩:=t
 simp only at hn ho hit hfree hK
 unfold pT at hit
 split at hit<;>try (cases hit;done)
 rename_i hd
 split at hit<;>try (cases hit;done)
 rename_i g hg
 have hgrd:it.Wo=g∧it.dst=o.dst:=by
  split at hit<;>(split at hit<;>try (cases hit;done))<;>(cases hit;exact ⟨rfl,rfl⟩)
 unfold wpOpIn
 simp only [ho]
 unfold En at Mv
 cases ac with
 |skip =>
  simp only at Mv
  rw [hgrd.1] at Mv
  rw [if_neg (by rw [tB hR.env hg Mv.1];simp)]
  refine ⟨fun _ _=>trivial,hK ι μ _ _ ?_ fun _ _=>rfl⟩
  have:=hR.put hd (aj.le_refl _) (Mu.le_refl _) hR.inv Rel.und
  simpa [TR.Mr,TR.JV,hgrd.2,Ac.val,Ac.Qe,bx] using this
 |op v u =>
  split at hit
  ·split at hit <;> try (cases hit; done)
   cases hit;exact Mv.elim
  ·split at hit <;> try (cases hit; done)
   cases hit;exact Mv.elim
  ·rename_i op _ _
   split at hit<;>try (cases hit;done)
   rename_i i hi
   cases hit
   obtain ⟨HU,ob,v0,ag,cT,hv,_⟩:=Mv
   have hw:=tB hR.env hg HU
   rw [if_pos hw]
   have hop:LZ P Y ι μ ⟨b+n,bl⟩ w (b+k) (execOp a.eval o) v0 u i.lays:=by
    rcases ag with ag|ag
    ·exact zT hR.inv hfree hR.env hi ag cT
    ·exact zU hR.inv hfree hR.env hi ag cT
   obtain ⟨ι',μ',x,w',hx,hi',hm,hne,hinv,FV⟩:=hop
   refine ⟨fun _ _=>trivial,?_⟩
   rw [Oper.semAt_eq _ _ _ (lZ hi)]
   have Ib:fB i.lays (b+n) (b+k)=b+n:=by unfold fB;cases i.lays<;>simp<;>omega
   have lJ:eF P N Y ι' μ' ⟨AM.put o.dst v env,⟨b+n,bx u bl⟩,ms⟩ (a.put o.dst x) w':=by
    refine hR.put hd hi' hm ?_ (vo hv FV)
    have:=hinv;simp only [Ib] at this;exact this
   rcases hx with h|⟨h,rfl⟩<;>rw [h]<;>exact hK _ _ _ _ lJ hne
 |call v u =>
  obtain ⟨c,args,tys,fo,as,hop,hf,ha,rfl⟩:∃(c:Callee) (args:Array Operand) (tys:Array TypeId) (fo:O) (as:List O),o.op = .call { callee:=c,args:=args,argTypes:=tys }∧mH P c=some fo∧vV args.toList=some as∧it = .call o.dst g fo as (iL P fo tys):=by
   split at hit
   ·rename_i f args tys hop
    split at hit<;>try (cases hit;done)
    rename_i fo as hf ha
    cases hit
    exact ⟨.value f,args,tys,fo,as,hop,hf,ha,rfl⟩
   ·rename_i r name args tys hop
    split at hit<;>try (cases hit;done)
    rename_i fo as hf ha
    cases hit
    exact ⟨.invoke r name,args,tys,fo,as,hop,hf,ha,rfl⟩
   ·split at hit <;> try (cases hit; done)
    cases hit;exact Mv.elim
  obtain ⟨HU,fid,fs,cs,vs',v0,o9,hmo,hp,hs,hv,_⟩:=Mv
  have hw:=tB hR.env hg HU
  rw [if_pos hw]
  refine ⟨fun _ _=>trivial,?_⟩
  rw [Oper.semAt_eq _ _ _ (by rw [hop];simp)]
  have ra:=jV hR.env ha
  obtain ⟨cC,gO⟩:=hp
  obtain ⟨xs,ys,r1,r2,hrun⟩:=Dt hop hf hR.env o9 cC
  rw [hrun]
  have rl:aG ι μ (fs++cO (iL P fo tys) (as.map (·.ev env))++cs) (xs++args.map a.eval++ys).toList:=by
   have:=(r1.append (lV (ts:=iL P fo tys) ra)).append r2
   simpa using this
  refine ⟨fun h=>by simp [Ctx.F,Fence.wide] at h,?_⟩
  rcases Bool.eq_false_or_eq_true (C3 v0||(fs++cO (iL P fo tys) (as.map (·.ev env))++cs).all (dJ 8)) with hb|hb
  rotate_left
  ·rw [hb] at hs
   obtain ⟨ι2,i1,i2,i3⟩:=vn hR.inv (Bs hs)
   have hmo':dg (fin ek bl 8) (fs++cO (iL P fo tys) (as.map (·.ev env))++cs)=some vs':=(mT (fun v=>by unfold gb;exact wW.symm) _).trans hmo
   refine CallsIn.mono (F:=Y.F) (gO ι2 w _ i2.dy (fun b o x hx=>i2.rd b o x hx) (QV i1 hmo' i3 rl)) ?_
   rintro e w' ⟨v',ι',rfl,hi,hib,hrd,jG,FV⟩
   have hinv':Inv P Y ι' μ ⟨b+n,bx u bl⟩ w':=i2.called hi hib hrd jG
   exact hK _ _ _ _ (hR.put hd (aj.le_trans i1 hi) (Mu.le_refl _) hinv' (vo hv (FV.mono (aj.le_refl _) (fun _ _ h=>by cases h)))) fun _ _=>rfl
  rw [hb] at hs
  cases hs
  replace hs:=hb
  rw [Bool.or_eq_true] at hs
  rcases hs with hs|hs
  ·refine CallsIn.mono (F := Y.F) (gO (ι.all Y.own w) w _ (hR.inv.dy.mono (aj.Bn hR.inv.rd)) (fun b o x hx => ?_) (iW (fun v r x h hr => vl (fun _ _ _ => rfl) hR.inv h hr) hmo rl)) ?_
   ·exact aj.FY hR.inv.rd hx
   ·rintro e w' ⟨v', ι', rfl, _, _, _, jG, FV⟩
    have hinv':Inv P Y ι μ ⟨b+n,bl⟩ w':=hR.inv.called (aj.le_refl _) (fun _ _ _=>rfl) (dm.kept (fun b o x hx=>hR.inv.rd b o x hx) jG) jG
    exact hK _ _ _ _ (hR.put hd (aj.le_refl _) (Mu.le_refl _) hinv' (vo hv (DA hs FV))) fun _ _=>rfl
  ·have hid:dg (fin (gb P N out base) bl 8) (fs++cO (iL P fo tys) (as.map (·.ev env))++cs)=some (fs++cO (iL P fo tys) (as.map (·.ev env))++cs) :=
    Bt fun v hv=>w5 (List.all_eq_true.1 hs v hv)
   rw [hid] at hmo;cases hmo
   have rl':aG ι (fun _=>none) (fs++cO (iL P fo tys) (as.map (·.ev env))++cs) (xs++args.map a.eval++ys).toList :=
    ⟨rl.1,fun i v x hv hx=>dD (List.all_eq_true.1 hs _ (List.mem_of_getElem? hv)) (rl.2 i v x hv hx)⟩
   refine CallsIn.mono (F:=Y.F) (gO ι w _ hR.inv.dy (fun b o x hx=>hR.inv.rd b o x hx) rl') ?_
   rintro e w' ⟨v',ι',rfl,hi,hib,hrd,jG,FV⟩
   have hinv':Inv P Y ι' μ ⟨b+n,bl⟩ w':=hR.inv.called hi hib hrd jG
   exact hK _ _ _ _ (hR.put hd hi (Mu.le_refl _) hinv' (vo hv (FV.mono (aj.le_refl _) (fun _ _ h=>by cases h)))) fun _ _=>rfl
structure Good (ops:Array Oper) (m:Nat) (is:List eM) (R:List TR) (listed:Array Bool):Prop where
 sz:listed.size=ops.size
 mem:∀t∈R,t.k<m∧is[t.k]?=some t.it∧listed.getD t.k true=false
 cov:∀i,i<m→listed.getD i true=false→∃t∈R,t.k=i
 Z4:R.Pairwise (fun a b=>a.k<b.k)
 dr:R.Pairwise (DrP (bL ops))
 Z5:∀i,listed.getD i false=true→∀j∈(bL ops).getD i [],listed.getD j false=true
 le:m≤ops.size
 tl:∀i,m≤i→i<ops.size→listed.getD i true=false
theorem Bu {l:Array Bool} {i:Nat} (h:l.getD i true=false):l.getD i false=false∧i<l.size:=by
 rcases Nat.lt_or_ge i l.size with h'|h'
 ·simp [h'] at h ⊢;exact h
 ·simp [Array.getElem?_eq_none h'] at h
theorem mU {l:Array Bool} {i:Nat} (h:i<l.size) (d d':Bool):l.getD i d=l.getD i d':=by simp [h]
theorem Bv {cR:List (List Nat)} {is:List eM} (h:qU cR is=true) {i j:Nat} (hij:i<j) {a b:eM} (ha:is[i]?=some a) (hb:is[j]?=some b):i∈cR.getD j []∨mI a b=true:=by
 unfold qU at h
 have hj:j<is.length:=(List.getElem?_eq_some_iff.1 hb).1
 have:=List.all_eq_true.1 (List.all_eq_true.1 h j (List.mem_range.2 hj)) i (List.mem_range.2 hij)
 simp only [ha,hb,Bool.or_eq_true] at this
 rcases this with h|h
 ·exact .inl (by simpa using h)
 ·exact .inr h
theorem ow {m:Nat} {is:List eM} {R:List TR} {listed:Array Bool} (hG:Good ops m is R listed) {i:Nat} (hi:i∈Region.ready .any ops listed):∀j∈(bL ops).getD i [],listed.getD j false=true:=by
 intro j hj
 obtain ⟨_,o,ho,hall⟩:=mem_ready.1 hi
 obtain ⟨hjs,ht⟩:=jP.1 hj
 obtain ⟨o',ho',e,he,hb,h⟩:=ou ht
 rw [ho] at ho';cases ho'
 have hl:=hall e he hb
 rcases h with rfl|h
 ·exact hl
 ·exact hG.Z5 _ hl j (jP.2 ⟨hjs,h⟩)
theorem Mw {m:Nat} {is:List eM} {R:List TR} {listed:Array Bool} (hG:Good ops m is R listed) (dY:gM ops=true) {k:Nat} (h1:k<ops.size) (h3:listed.getD k true=false) (ox:∀i,i<k→listed.getD i true=true):k∈Region.ready .any ops listed:=by
 refine mem_ready.2 ⟨h3,ops[k],by simp [h1],fun e he hb=>?_⟩
 have hlt:e.on<k:=by
  unfold gM at dY
  have hmem:(ops[k],k)∈ops.toList.zipIdx:=by
   rw [List.mem_zipIdx_iff_getElem?];simp [h1]
  have:=List.all_eq_true.1 dY _ hmem
  simp only at this
  have:=Array.all_eq_true_iff_forall_mem.1 this e he
  simpa [hb] using this
 have hlt':e.on<listed.size:=by rw [hG.sz];omega
 rw [mU hlt' false true];exact ox _ hlt
theorem Gg {m:Nat} {is:List eM} {t:TR} {R:List TR} {listed:Array Bool} (hG:Good ops m is (t::R) listed) (dY:gM ops=true):t.k∈Region.ready .any ops listed:=by
 obtain ⟨h1,_,h3⟩:=hG.mem t (List.mem_cons_self ..)
 refine Mw hG dY (by have:=hG.le;omega) h3 fun i hi=>?_
 rcases Bool.eq_false_or_eq_true (listed.getD i true) with h|h
 ·exact h
 ·obtain ⟨t', ht', hk⟩ := hG.cov i (by omega) h
  rcases List.mem_cons.1 ht' with rfl|ht'
  ·omega
  ·have := (List.pairwise_cons.1 hG.Z4).1 t' ht'
   omega
theorem Good.step {m:Nat} {is:List eM} {L1 L2:List TR} {t:TR} {listed:Array Bool} (hG:Good ops m is (L1++t::L2) listed) (hr:t.k∈Region.ready .any ops listed):Good ops m is (L1++L2) (listed.setIfInBounds t.k true):=by
 have hsub:(L1++L2).Sublist (L1++t::L2):=(List.Sublist.refl L1).append (List.sublist_cons_self t L2)
 have hne:∀x∈L1++L2,x.k≠t.k:=fun x hx=>by
  have:=List.pairwise_append.1 hG.Z4
  rcases List.mem_append.1 hx with h|h
  ·exact Nat.ne_of_lt (this.2.2 x h t (List.mem_cons_self ..))
  ·exact Nat.ne_of_gt ((List.pairwise_cons.1 this.2.1).1 x h)
 refine ⟨by simp [hG.sz],fun x hx=>?_,fun i hi QW=>?_,hG.Z4.sublist hsub,hG.dr.sublist hsub,fun i hi j hj=>?_,hG.le,fun i hi hi2=>?_⟩
 ·obtain ⟨h1, h2, h3⟩ := hG.mem x (hsub.subset hx)
  exact ⟨h1,h2,by rw [getD_set_ne true (Ne.symm (hne x hx))];exact h3⟩
 ·have hki:t.k≠i:=fun e=>by
   subst e
   have:t.k<listed.size:=by rw [hG.sz];exact Nat.lt_of_lt_of_le hi hG.le
   simp [this] at QW
  rw [getD_set_ne true hki] at QW
  obtain ⟨x,hx,hk⟩:=hG.cov i hi QW
  refine ⟨x,?_,hk⟩
  rcases List.mem_append.1 hx with h|h
  ·exact List.mem_append_left _ h
  ·rcases List.mem_cons.1 h with rfl | h
   ·exact absurd hk hki
   ·exact List.mem_append_right _ h
 ·refine getD_set_true ?_
  by_cases hki:t.k=i
  ·subst hki;exact ow hG hr j hj
  ·rw [getD_set_ne false hki] at hi
   exact hG.Z5 i hi j hj
 ·have hk := (hG.mem t (List.mem_append_right _ (List.mem_cons_self ..))).1
  rw [getD_set_ne true (by omega)]
  exact hG.tl i hi hi2
theorem DB {os:List Oper} {is:List eM} {k:Nat} (h:dV P N ops os=some is):dV P N ops (os.drop k)=some (is.drop k):=by
 induction k generalizing os is with
 |zero=>simpa using h
 |succ k ih =>
  cases os with
  |nil=>cases h;rfl
  |cons o os =>
   unfold dV at h
   split at h<;>try (cases h;done)
   rename_i it its hit Mo
   cases h
   simpa using ih Mo
theorem DC {m:Nat} (dY:gM ops=true) (zZ:∀i,m≤i→i<ops.size→∀j,j<i→j∈(bL ops).getD i []) {Q:Exit→Act→World→Prop}:∀(n k:Nat) {listed:Array Bool} {a:Act} {w:World},
  m≤k→k+n=ops.size→listed.size=ops.size→(∀i,i<k→listed.getD i true=true)→(∀i,k≤i→i<ops.size→listed.getD i true=false) →
  (∀i,listed.getD i false=true→∀j∈(bL ops).getD i [],listed.getD j false=true)→wpOpsIn Y.F 0 P ops Q (List.range' k n) a w→wpAnyIn Y.F 0 P .any ops Q n listed a w
 |0,k,listed,a,w,hm,hk,hsz,ox,Ic,tC,h=>by
  refine ⟨?_,h⟩
  cases hr:Region.ready .any ops listed with
  |nil=>rfl
  |cons i r =>
   have hi:i∈Region.ready .any ops listed:=by rw [hr];exact List.mem_cons_self ..
   obtain ⟨h0,o,ho,_⟩:=mem_ready.1 hi
   have:=(Array.getElem?_eq_some_iff.1 ho).1
   rw [ox i (by omega)] at h0;cases h0
 |n+1,k,listed,a,w,hm,hk,hsz,ox,Ic,tC,h=>by
  have hks:k<ops.size:=by omega
  have hrk:k∈Region.ready .any ops listed:=by
   refine mem_ready.2 ⟨Ic k (Nat.le_refl _) hks,ops[k],by simp [hks],fun e he hb=>?_⟩
   have hlt:e.on<k:=by
    unfold gM at dY
    have hmem:(ops[k],k)∈ops.toList.zipIdx:=by
     rw [List.mem_zipIdx_iff_getElem?];simp [hks]
    have:=List.all_eq_true.1 dY _ hmem
    simp only at this
    have:=Array.all_eq_true_iff_forall_mem.1 this e he
    simpa [hb] using this
   have hlt':e.on<listed.size:=by rw [hsz];omega
   rw [mU hlt' false true];exact ox _ hlt
  have hrp:∀i,i∈Region.ready .any ops listed→∀j∈(bL ops).getD i [],listed.getD j false=true:=by
   intro i hi j hj
   obtain ⟨_,o,ho,hall⟩:=mem_ready.1 hi
   obtain ⟨hjs,ht⟩:=jP.1 hj
   obtain ⟨o',ho',e,he,hb,h⟩:=ou ht
   rw [ho] at ho';cases ho'
   have hl:=hall e he hb
   rcases h with rfl|h
   ·exact hl
   ·exact tC _ hl j (jP.2 ⟨hjs,h⟩)
  refine ⟨fun h0=>(by rw [h0] at hrk;cases hrk),fun i hi=>?_⟩
  obtain ⟨h0,o,ho,_⟩:=mem_ready.1 hi
  have mR:=(Array.getElem?_eq_some_iff.1 ho).1
  have hik:i=k:=by
   rcases Nat.lt_trichotomy i k with h1|h1|h1
   ·rw [ox i h1] at h0;cases h0
   ·exact h1
   ·have := hrp i hi k (zZ i (by omega) mR k h1)
    rw [(Bu (Ic k (Nat.le_refl _) hks)).1] at this;cases this
  subst hik
  rw [List.range'_succ,wpOpsIn_cons] at h
  refine wpOpIn_mono (fun a' w' h'=>DC dY zZ n (i+1) (by omega) (by omega) (by simpa using hsz) (fun j hj=>?_) (fun j hj hj2=>?_) (fun x hx j hj=>?_) h') h
  ·by_cases e : i = j
   ·subst e;simp [hsz,hks]
   ·rw [getD_set_ne true e];exact ox j (by omega)
  ·rw [getD_set_ne true (by omega)];exact Ic j (by omega) hj2
  ·refine getD_set_true ?_
   by_cases e:i=x
   ·subst e;exact hrp i hi j hj
   ·rw [getD_set_ne false e] at hx
    exact tC x hx j hj
theorem Mx {is : List eM} {m : Nat} (zZ : ∀ i, m ≤ i → i < ops.size → ∀ j, j < i → j ∈ (bL ops).getD i []) (mR : dV P N ops ops.toList = some is) (qo : qU (bL ops) is = true) (dY : gM ops = true) {b : Nat} {ms : List Nat} {F : List (Nat × V) → ai → Prop} (hF : Bp F)
  {Q:Exit→Act→World→Prop} (hend:∀ι μ env bl a w,eF P N Y ι μ ⟨env,⟨b+m,bl⟩,ms⟩ a w→F env bl→wpOpsIn Y.F 0 P ops Q (List.range' m (ops.size - m)) a w) :
  ∀(fuel:Nat) {R:List TR} {listed:Array Bool} {a:Act} {w:World} {ι:aj} {μ:Mu} {env:List (Nat×V)} {bl:ai},fuel=R.length+(ops.size - m)→Good ops m is R listed→uN (gb P N out base) b R env bl F →
   eF P N Y ι μ ⟨env,⟨b+m,bl⟩,ms⟩ a w→(∀t∈R,μ (b+t.k)=none)→wpAnyIn Y.F 0 P .any ops Q fuel listed a w
 |fuel,R,listed,a,w,ι,μ,env,bl,hl,hG,hrun,hR,hfr=>by
  rcases Decidable.em (R=[]) with tD|tD
  ·subst tD
   have hle:=hG.le
   have hf:fuel=ops.size - m:=by simpa using hl
   rw [hf]
   refine DC dY zZ (ops.size - m) m (Nat.le_refl _) (by omega) hG.sz (fun i hi=>?_) hG.tl hG.Z5 (hend _ _ _ _ _ _ hR hrun)
   rcases Bool.eq_false_or_eq_true (listed.getD i true) with h|h
   ·exact h
   ·obtain ⟨t,ht,_⟩:=hG.cov i hi h;simp at ht
  obtain ⟨fuel,rfl⟩:∃f,fuel=f+1:=⟨fuel - 1,by have:=List.length_pos_iff.2 tD;omega⟩
  ·refine ⟨fun h0 => ?_, fun i hi => ?_⟩
   ·cases R with
    |nil=>exact absurd rfl tD
    |cons t R=>have:=Gg hG dY;rw [h0] at this;simp at this
   ·obtain ⟨h0, o, ho, _⟩ := mem_ready.1 hi
    have him:i<m:=by
     rcases Nat.lt_or_ge i m with h|h
     ·exact h
     ·exfalso
      have wk:=(Array.getElem?_eq_some_iff.1 ho).1
      cases R with
      |nil=>exact tD rfl
      |cons t R =>
       have Qf:=hG.mem t (List.mem_cons_self ..)
       have:=ow hG hi _ (zZ i h wk t.k (by omega))
       rw [(Bu Qf.2.2).1] at this;cases this
    obtain ⟨t,ht,hk⟩:=hG.cov i him h0
    subst hk
    obtain ⟨L1,L2,rfl⟩:=List.append_of_mem ht
    have hAp:∀x∈L1,UU x t:=fun x hx=>by
     have hp:=(List.pairwise_append.1 hG.Z4).2.2 x hx t (List.mem_cons_self ..)
     have hd:=(List.pairwise_append.1 hG.dr).2.2 x hx t (List.mem_cons_self ..)
     have WB:=hG.mem x (List.mem_append_left _ hx)
     have Qf:=hG.mem t ht
     have hnot:x.k∉(bL ops).getD t.k []:=fun h=>by
      have:=ow hG hi _ h
      rw [(Bu WB.2.2).1] at this;cases this
     rcases Bv qo hp WB.2.1 Qf.2.1 with h|h
     ·exact absurd h hnot
     ·rcases hd with h' | h'
      ·exact absurd h' hnot
      ·exact ⟨h,h'.1,h'.2⟩
    obtain ⟨Mv,aaK⟩:=pull hF hAp hrun
    have Qf:=hG.mem t ht
    have hit:=(gj mR).2 t.k o t.it (by simpa using ho) Qf.2.1
    refine Ia Qf.1 ho hit Mv hR (hfr t ht) fun ι' μ' a' w' gJ hne=>?_
    have hG':=hG.step hi
    refine Mx zZ mR qo dY hF hend fuel (R:=L1++L2) (by simp at hl ⊢;omega) hG' aaK gJ fun x hx=>?_
    have hx':x∈L1++t::L2:=((List.Sublist.refl L1).append (List.sublist_cons_self t L2)).subset hx
    have h1:=(hG'.mem x hx).2.2
    have hnk:x.k≠t.k:=fun e=>by
     rw [e] at h1
     have:t.k<listed.size:=by rw [hG.sz];have:=hG.le;omega
     simp [this] at h1
    rw [hne _ (by omega)];exact hfr x hx'
theorem Aa {ar : Ar} {b : Nat} {F G : List (Nat × V) → ai → Prop} (h : ∀ e bl, F e bl → G e bl) : ∀ {ts : List TR} {env : List (Nat × V)} {bl : ai}, uN ar b ts env bl F → uN ar b ts env bl G
 |[],_,_,hr=>h _ _ hr
 |_::_,_,_,hr=>⟨hr.1,Aa h hr.2⟩
theorem DD {ar : Ar} {b : Nat} {p : Prop} {F : List (Nat × V) → ai → Prop} : ∀ {ts : List TR} {env : List (Nat × V)} {bl : ai}, uN ar b ts env bl (fun e bl => p ∧ F e bl) → p ∧ uN ar b ts env bl F
 |[],_,_,hr=>hr
 |_::_,_,_,hr=>let ⟨h1,h2⟩:=DD hr.2;⟨h1,hr.1,h2⟩
theorem iu (hm:P.follows .mixedOrders=true):mQ P N out base:=by
 intro id ops CU QM mR qo dY hl S K hK Y ι μ a w ho hb hR
 refine wpIn_region_any hm ?_
 obtain ⟨ts,h1,h2,h3⟩:=ot hK
 simp only [List.nil_append] at h3
 obtain ⟨hdr,hrun⟩:=DD h3
 have hlen:CU.length+QM.length=ops.size:=by simpa using (gj mR).1
 have htl:ts.length=CU.length:=by rw [←h1];simp
 have hk:∀(j:Nat) t,ts[j]?=some t→t.k=j∧(CU++QM)[j]?=some t.it∧j<CU.length:=fun j t ht=>by
  have hj:=(List.getElem?_eq_some_iff.1 ht).1
  refine ⟨?_,?_,by omega⟩
  ·have : (ts.map (·.k))[j]? = some t.k := by simp [ht]
   rw [h2,List.getElem?_range' (by omega)] at this
   simpa using this.symm
  ·rw [List.getElem?_append_left (by omega),←h1];simp [ht]
 let F:List (Nat×V)→ai→Prop:=fun env bl=>∃jH Ie,Gf jH env∧UT Ie bl∧fk (gb P N out base) QM ⟨jH,⟨S.H.next+CU.length,Ie⟩,S.ms⟩ K
 have hF:Bp F:=fun env env' bl bI he qM ⟨e0,b0,q1,q2,q3⟩=>⟨e0,b0,q1.trans he,fun i=>(q2 i).trans (qM i),q3⟩
 have lJ:∀{ι' μ' env bl jH Ie a' w'},eF P N Y ι' μ' ⟨env,⟨S.H.next+CU.length,bl⟩,S.ms⟩ a' w'→Gf jH env→UT Ie bl→eF P N Y ι' μ' ⟨jH,⟨S.H.next+CU.length,Ie⟩,S.ms⟩ a' w':=fun gJ q1 q2 =>
  ⟨fun t=>by rw [q1 t];exact gJ.env t,gJ.sz,gJ.inv.eqB q2,gJ.ms⟩
 have hfl:ops.size=ts.length+(ops.size - CU.length):=by omega
 have htr2:dV P N ops (ops.toList.drop CU.length)=some QM:=by
  have:=DB (k:=CU.length) mR
  rwa [List.drop_left' rfl] at this
 refine Mx (out:=out) (base:=base) (b:=S.H.next) (ms:=S.ms) (F:=F) (fun i hi hi2=>hl i hi (by omega)) mR qo dY hF (fun ι' μ' env bl a' w' gJ hf=>?_) ops.size (R:=ts) (ι:=ι) (μ:=μ) (env:=S.env) (bl:=S.H.bl) hfl ?_ ?_ ?_ ?_
 ·obtain ⟨e0, b0, q1, q2, q3⟩ := hf
  have h:=wL (Y:=Y) (os:=ops.toList.drop CU.length) (Q:=Post P N Y fun e S=>match e with | .normal=>K S|_=>False) (K:=K) (out:=out) (base:=base) (fun ι μ S a w hR hK=>Post.of (e':=.normal) hR rfl hK) (k:=CU.length) htr2 (fun j=>by
   rw [List.getElem?_drop];simp) (lJ gJ q1 q2) q3
  rwa [List.length_drop,Array.length_toList] at h
 ·refine ⟨by simp, fun t ht => ?_, fun i hi QW => ?_, ?_, qn hdr, fun i hi => ?_, by omega, fun i hi hi2 => by simp [hi2]⟩
  ·obtain ⟨j, hj⟩ := List.getElem?_of_mem ht
   obtain ⟨e1,e2,e3⟩:=hk j t hj
   subst e1
   exact ⟨e3,e2,by simp [show t.k<ops.size by omega]⟩
  ·have : i < ts.length := by omega
   refine ⟨ts[i],List.getElem_mem this,(hk i _ (by simp)).1⟩
  ·have h4 : (ts.map (·.k)).Pairwise (· < ·) := by rw [h2]; exact List.pairwise_lt_range'
   exact List.pairwise_map.1 h4
  ·exfalso
   rcases Nat.lt_or_ge i ops.size with h|h<;>simp [h] at hi
 ·refine Aa (fun e bl h => ?_) hrun
  exact ⟨e,bl,fun _=>rfl,fun _=>rfl,h⟩
 ·exact ⟨hR.env,hR.sz,(hR.inv.tA (by omega)).drawn,hR.ms⟩
 ·intro t ht
  exact hR.inv.nx _ (by omega)
end
end Go.AM
end
section
namespace Go.AM
section
variable {P:Program} {N:Nat} {Y:Ctx} {ι ι':aj} {μ μ':Mu} {H:aF} {w w':World} {out:Option Nat} {base:Nat}
theorem QX {func:Func} {fn:Fn} (htr:cL P func=some fn):LQ P func.results.toList=some fn.res:=by
 unfold cL at htr
 split at htr<;>try (cases htr;done)
 split at htr<;>try (cases htr;done)
 rename_i Qd
 split at htr<;>try (cases htr;done)
 cases htr;exact Qd
theorem Inv.down (h:Inv P Y ι μ H w) (ro:Option Nat):Inv P ⟨Y.w0,ι,μ,ro,Y.x,[]⟩ ι μ H w :=
 ⟨h.below,aj.le_refl _,fun _ _ _ _=>rfl,h.rd,Mu.le_refl _,h.nx,h.live,h.inj,h.lt,h.dy⟩
theorem Inv.up {ro:Option Nat} {H':aF} (h0:Inv P Y ι μ H w) (h:Inv P ⟨Y.w0,ι,μ,ro,Y.x,[]⟩ ι' μ' H' w'):Inv P Y ι' μ' H' w'∧ι.le ι'∧μ.le μ' :=
 ⟨⟨h.below,aj.le_trans h0.i0 h.i0,fun b o hb hx=>(h.iB b o hb hx).trans (h0.iB b o hb hx),h.rd,Mu.le_trans h0.m0 h.m0,h.nx,h.live,h.inj,h.lt,h0.gl⟩,h.i0,h.m0⟩
theorem j6 {f : Nat} {func : Func} {fn : Fn} (hf : P.funcs[f]? = some func) (htr : cL P func = some fn) (cC : Enters P f) (gP : mQ P fn.N none H.next) {vs : List V} {Q : V → aF → Prop} (hlen : vs.length ≤ fn.np)
  (h:qX (gb P fn.N none H.next) fn.body ⟨args 0 vs,H,[]⟩ (Bm fn.res fn.tys Q)):gN P f vs H Q:=by
 refine ⟨cC,fun Y ι μ w as hI hr=>?_⟩
 refine H7 (Y:=⟨Y.w0,ι,μ,none,Y.x,[]⟩) hf htr gP hlen h rfl rfl (fun id hid=>hI.nx id hid) (hI.down none) hr fun Y1 ι' μ' S' a' w' e' hY hR hq=>?_
 have key:Bm.ql fn.res fn.tys Q S'→LeavesInM Fence.wide 0 P func a'.tmps (Ml P Y ι μ Q) a'.defers .returning w':=by
  intro hs
  unfold Bm.ql at hs
  split at hs<;>try (exact hs.elim)
  rename_i bl qM
  split at hs<;>try (exact hs.elim)
  rename_i vs' hvs
  refine tr (QX htr) (n:=S'.H.next) (bl:=S'.H.bl) hY rfl hR.inv hR.env hR.ms qM hvs fun x w2 nW hx=>?_
  obtain ⟨h1,h2,h3⟩:=hI.up nW
  exact ⟨x,ι',μ',_,_,rfl,h2,h3,h1,hx (hTs fn.tys),hs⟩
 cases e' with
 |exit id=>exact hq.elim
 |normal=>exact ⟨.inl rfl,key hq⟩
 |ret=>exact ⟨.inr rfl,key hq⟩
def unr (ar : Ar) (c : C) : Nat → St → (Ex → St → Prop) → Prop
 |0,_,_=>False
 |n+1,S,K=>qX ar c S fun e S'=>match e with
  | .normal=>unr ar c n S' K
  | .exit id=>K (.exit id) S'
  | .ret=>K .ret S'
theorem Inv.JY {bl:ai} {n id:Nat} {L:Loc} {B:kP} (h:Inv P Y ι μ ⟨n,bl⟩ w) (hb:au id bl=some B) (hL:μ id=some L) {o o':Obj} (ho:w.heap[L.b]?=some o) (hnc:∀c e f,o ≠ .cells c e f) (hnm:∀ms c,o ≠ .map ms c) :
  Inv P Y ι μ ⟨n,bt id bl⟩ (w.putObj L.b o'):=by
 have hold:Y.own L.b:=((h.live id _ hb).loc hL).1
 have bT:∀k,k≠L.b→(w.putObj L.b o').heap[k]?=w.heap[k]?:=fun k hk=>World.putObj_heap_other hk
 have hsub:=h.del id
 refine ⟨⟨h.below.os, h.below.tape, h.below.output, by rw [World.putObj_size]; exact h.below.size, fun k hk hx => ?_, h.below.dr, fun k hk => (h.below.maps k hk).trans (by
   by_cases e:k=L.b
   ·subst e;exact .no (fun ms c e=>by rw [ho] at e;cases e;exact hnm _ _ rfl)
   ·exact .eq (bT k e))⟩,h.i0,h.iB,fun b o2 x hx=>?_,h.m0,h.nx,fun i B2 hB=>?_,hsub.inj,hsub.lt,h.gl⟩
 ·rw [bT k (Ctx.lG hold hk hx)];exact h.below.block k hk hx
 ·have := h.rd b o2 x hx
  have hne:b≠L.b:=fun e=>by
   subst e
   cases o<;>simp [World.cell?,ho] at this
   exact hnc _ _ _ rfl
  unfold World.cell? at this ⊢
  simp only at this ⊢
  rw [bT b hne];exact this
 ·simp only at hB
  rw [bg] at hB
  split at hB
  ·cases hB
  ·rename_i e
   refine (h.live i B2 hB).mono (aj.le_refl _) (Mu.le_refl _) (fun h=>h) (fun L' hL'=>bT _ (fun e'=>e (h.inj i id B2 _ L' L hB hb hL' hL e'))) (fun _ _ h=>h)
def Ig (j:Option Ex) (S:St) (K:Ex→St→Prop):Prop:=match j with
 |none=>K .normal S
 |some e=>match e with
  | .normal=>False
  | .exit i=>K (.exit i) S
  | .ret=>K .ret S
def jQ (id:Nat) (sh:List Nat) (S:St) (K:Ex→St→Prop) (H:aF):Prop:=match au id H.bl with
 |some (.loop st j _ _ _ _ _ _)=>match st with
  | .busy=>False
  |_=>match eG sh (bt id H.bl) with
   |some bl=>Ig j ⟨S.env,⟨H.next,bl⟩,S.ms⟩ K
   |none=>False
 |_=>False
def WL (ar:Ar) (N:Nat) (out:Option Nat) (f:O) (ps:List Nat) (as bd:C) (S:St) (K:Ex→St→Prop):Prop :=
 ps.all (Nat.blt · N)=true ∧
 match f.ev S.env with
 | .fn fid first cap=>match out with
  | none => S.ms = [] ∧ ar.call fid (first ++ [.yl (S.H.next + 1)] ++ cap) ⟨S.H.next + 2, (S.H.next + 1, .loop .ready none S.H.next S.env ps as bd N) :: (S.H.next, .gX) :: S.H.bl⟩
    fun _ H=>jQ (S.H.next+1) [S.H.next] S K H
  |some UW=>match au UW S.H.bl with
   | some (.loop _ _ d _ _ _ _ _) => ar.call fid (first ++ [.yl S.H.next] ++ cap) ⟨S.H.next + 1, (S.H.next, .loop .ready none d S.env ps as bd N) :: S.H.bl⟩
     fun _ H=>jQ S.H.next [] S K H
   |_=>False
 |_=>False
theorem uv {f:O} {ps:List Nat} {as bd:C} {S:St} {K:Ex→St→Prop} (h:WL (gb P N out base) N out f ps as bd S K):(gb P N out base).bD f ps as bd S K:=by
 intro fo CS ao bo hfo hps hao hbo Y ι μ a w ho hb hR
 obtain ⟨hpN,h⟩:=h
 have rf:=aB hR.env hfo
 have hnc:∀(r:Loop) c e f,Obj.loop r ≠ .cells c e f:=fun r c e f=>by intro h;cases h
 split at h
 ·rename_i fid fs cs o9
  rw [o9] at rf
  generalize hg:a.eval fo=fv at rf
  cases rf with
  |fn _ _ _ xs ys h1 h2 h3 h4 =>
   have r1:aG ι μ fs xs.toList:=⟨by simpa using h1,fun i v x hv hx=>h2 i v x hv (by simpa using hx)⟩
   have r2:aG ι μ cs ys.toList:=⟨by simpa using h3,fun i v x hv hx=>h4 i v x hv (by simpa using hx)⟩
   -- behind the call
   have fin:∀{aC:Nat} {L:Loc} {sh ms':List Nat} {ds':List Deferred} {μ1:Mu},μ.le μ1→μ1 aC=some L→jk Y.hid μ1 ms' ds'→((sh=[]∧ms'=S.ms)∨∃i,sh=[i]∧ms'=[i]∧S.ms=[]∧Y.ro=none) →
     ∀e w',Ml P Y ι μ1 (fun _ H=>jQ aC sh S K H) e w' →
     rangePost Y.F 0 P L.b (Post P N Y K) { a with defers:=ds' } e w':=fun {aC L sh ms' ds' μ1} fH hL hmk hsh e w' he=>by
    obtain ⟨v,ι',μ',r,H',rfl,hi,hm,hinv,hv,hq⟩:=he
    unfold jQ at hq
    split at hq<;>try (exact hq.elim)
    rename_i st j d env' ps' as' QY N' qM
    obtain ⟨L',r',Ld,q1,q2,q3,q4,q5,q6,q7,q8,q9,q10,q11,q12,q13⟩:=hinv.live _ _ qM
    rw [hm _ _ hL] at q1;cases q1
    have hst:r'.state ≠ .busy:=by rw [q4];cases st<;>simp [stR] at hq ⊢
    have hinv':=hinv.JY (o':=.loop { r' with state:=.exhausted }) qM (hm _ _ hL) q3 (hnc r') (fun _ _ e=>by cases e)
    have UX:eF P N Y ι' μ' ⟨S.env,⟨H'.next,bt aC H'.bl⟩,ms'⟩ { a with defers:=ds' } (w'.putObj L.b (.loop { r' with state:=.exhausted })) :=
     ⟨hR.env.mono hi (Mu.le_trans fH hm),hR.sz,hinv',hmk.mono hm⟩
    have hq1:∃bl,eG sh (bt aC H'.bl)=some bl∧Ig j ⟨S.env,⟨H'.next,bl⟩,S.ms⟩ K:=by
     cases hsh2:eG sh (bt aC H'.bl) with
     |none=>rw [hsh2] at hq;cases st<;>exact hq.elim
     |some bl=>rw [hsh2] at hq;exact ⟨bl,rfl,by cases st<;>first|exact hq.elim|exact hq⟩
    obtain ⟨bl,My,WM⟩:=hq1
    obtain ⟨Y1,Mz,lJ⟩:∃Y1,Ext P Y Y1∧eF P N Y1 ι' μ' ⟨S.env,⟨H'.next,bl⟩,S.ms⟩ { a with defers:=ds' } (w'.putObj L.b (.loop { r' with state:=.exhausted })):=by
     rcases hsh with ⟨rfl,rfl⟩|⟨i,rfl,rfl,hS,hro⟩
     ·cases My;exact ⟨Y,.refl Y,UX⟩
     ·simp only [eG] at My
      split at My<;>try (cases My;done)
      rename_i hb
      cases My
      rw [hS]
      exact UX.uL rfl hb hro
    have hend:=run_endLoop (P:=P) q3 hst
    generalize w'.putObj L.b (.loop { r' with state:=.exhausted })=w4 at lJ hend
    refine ⟨r'.pending,w4,hend,?_⟩
    unfold Ig at WM
    cases j with
    |none=>simp only [C6] at q5;rw [q5];exact .of1 (e':=.normal) Mz lJ rfl WM
    |some e =>
     cases e with
     |normal=>exact WM.elim
     |exit i=>simp only [C6] at q5;rw [q5];exact wpIn_exit (.of1 (e':=.exit i) Mz lJ rfl WM)
     |ret=>simp only [C6] at q5;rw [q5];exact wpIn_ret (.of1 (e':=.ret) Mz lJ rfl WM)
   have hpN':∀p∈ps,p<N:=fun p hp=>by have:=List.all_eq_true.1 hpN p hp;simpa using this
   cases out with
   |none =>
    simp only at h
    have hro:Y.ro=none:=ho
    obtain ⟨hms0,cC,gO⟩:=h
    let Ld:Loc:=⟨w.heap.size,0,0,0⟩
    let L:Loc:=⟨w.heap.size+1,0,0,0⟩
    have hn0:=hR.inv.nx S.H.next (Nat.le_refl _)
    have zf:=Mu.fu (L:=Ld) hn0
    have Fp:=hR.inv.lay hn0 (L:=Ld) (o:=.deferred (some [])) (b:=.gX) rfl ⟨Ld,by simp [Mu.set],.inl hR.inv.below.size,by show (w.heap.push _)[w.heap.size]?=_;simp⟩
    have JZ:(w.alloc (.deferred (some []))).heap.size=w.heap.size+1:=World.size_alloc _ _
    have US:(μ.set S.H.next Ld) (S.H.next+1)=none:=by simp only [Mu.set];rw [if_neg (by omega)];exact hR.inv.nx _ (by omega)
    have hle1:=Mu.fu (L:=L) US
    have Gi : ∀ fn : Nat, Inv P Y ι ((μ.set S.H.next Ld).set (S.H.next + 1) L) ⟨S.H.next + 2, (S.H.next + 1, .loop .ready none S.H.next S.env ps as bd N) :: (S.H.next, .gX) :: S.H.bl⟩
      ((w.alloc (.deferred (some []))).alloc (.loop { state:=.ready,pending:=none,fn:=fn,tmps:=a.tmps,params:=CS,assign:=ao,body:=bo,defers:=w.heap.size })):=fun fn=>by
     have nW := Fp.lay US (L := L) (o := .loop { state := .ready, pending := none, fn := fn, tmps := a.tmps, params := CS, assign := ao, body := bo, defers := w.heap.size })
      (b:=.loop .ready none S.H.next S.env ps as bd N) (by simp [L,JZ]) ⟨L,{ state:=.ready,pending:=none,fn:=fn,tmps:=a.tmps,params:=CS,assign:=ao,body:=bo,defers:=w.heap.size },Ld,by simp [Mu.set],.inl (by have:=hR.inv.below.size;simp only [L];omega),by
       have:=World.alloc_heap_new (w.alloc (.deferred (some []))) (.loop { state:=.ready,pending:=none,fn:=fn,tmps:=a.tmps,params:=CS,assign:=ao,body:=bo,defers:=w.heap.size })
       rw [JZ] at this;exact this,rfl,rfl,hR.env.mono (aj.le_refl _) (Mu.le_trans zf hle1),hps,hR.sz,hpN',hao,hbo,by simp [Mu.set],rfl⟩
     refine nW.congr (fun id=>?_) (by simp only;omega)
     rw [aD,bp]
     by_cases e:S.H.next+1=id
     ·subst e;simp
     ·rw [if_neg e, if_neg (fun e' => e e'.symm), aD, bp]
      by_cases e2:S.H.next=id
      ·subst e2;simp
      ·rw [if_neg e2,if_neg (fun e'=>e2 e'.symm)]
    have zg:=Mu.le_trans zf hle1
    have hLd:((μ.set S.H.next Ld).set (S.H.next+1) L) S.H.next=some Ld:=by simp [Mu.set]
    have hL:((μ.set S.H.next Ld).set (S.H.next+1) L) (S.H.next+1)=some L:=by simp [Mu.set]
    refine wpIn_rangeFunc fun fn _=>?_
    have DE:=Gi fn
    obtain ⟨W,hW⟩:∃W,W=(w.alloc (.deferred (some []))).alloc (.loop { state:=.ready,pending:=none,fn:=fn,tmps:=a.tmps,params:=CS,assign:=ao,body:=bo,defers:=w.heap.size }):=⟨_,rfl⟩
    rw [←hW] at DE
    refine ⟨w.heap.size+1,[{ target:=.collected w.heap.size,args:=#[] }],W,{ target:=.fn (.func fid) ys,args:=xs++#[.func (.yield (w.heap.size+1)) #[] #[]] },W,fid,
     (xs++#[.func (.yield (w.heap.size+1)) #[] #[]])++ys,W,?_,?_,fun _ _=>trivial,?_,fun h=>by simp [Ctx.F,Fence.wide] at h,?_⟩
    ·show (Instr.enterLoop fn a.tmps CS ao bo Y.ro).run P w = _
     rw [hro,hW];exact run_enterLoop_outer _ _ _ _ _
    ·have e1 : ∀ v, a.eval (.const v) = v := fun _ => rfl
     simp [resolve,hg,Deferred.ofValue,e1]
    ·have := cC ((xs ++ #[Value.func (Fn.yield (w.heap.size + 1)) #[] #[]]) ++ ys) W
     simpa [invoke] using this
    ·have rl:aG ι ((μ.set S.H.next Ld).set (S.H.next+1) L) (fs++[.yl (S.H.next+1)]++cs) ((xs++#[Value.func (Fn.yield (w.heap.size+1)) #[] #[]])++ys).toList:=by
      have q1:=r1.mono (aj.le_refl _) zg
      have q2:=r2.mono (aj.le_refl _) zg
      have:=(q1.append (.cons (.yl _ L hL) .nil)).append q2
      simpa using this
     refine CallsIn.mono (F:=Y.F) (gO Y ι _ _ _ DE rl) fun e w' he=>?_
     exact fin (L:=L) (aC:=S.H.next+1) (sh:=[S.H.next]) (ms':=[S.H.next]) (ds':={ target:=.collected w.heap.size,args:=#[] }::a.defers) zg hL ⟨Ld,_,a.defers,rfl,hLd,rfl,by have:=hR.ms;rw [hms0] at this;exact this⟩ (.inr ⟨_,rfl,rfl,hms0,hro⟩) e w' he
   |some UW =>
    simp only at h
    obtain ⟨L0,hm0,hro⟩:=ho
    split at h<;>try (exact h.elim)
    rename_i st0 j0 d0 jH ps0 as0 bd0 N0 hb0
    obtain ⟨cC,gO⟩:=h
    obtain ⟨L0',r0,Ld,q1,q2,q3,q4,q5,q6,q7,q8,q9,q10,q11,q12,q13⟩:=hR.inv.live _ _ hb0
    rw [hR.inv.m0 _ _ hm0] at q1;cases q1
    let L:Loc:=⟨w.heap.size,0,0,0⟩
    have hn0:=hR.inv.nx S.H.next (Nat.le_refl _)
    have zg:=Mu.fu (L:=L) hn0
    have Gi : ∀ fn : Nat, Inv P Y ι (μ.set S.H.next L) ⟨S.H.next + 1, (S.H.next, .loop .ready none d0 S.env ps as bd N) :: S.H.bl⟩
      (w.alloc (.loop { state:=.ready,pending:=none,fn:=fn,tmps:=a.tmps,params:=CS,assign:=ao,body:=bo,defers:=r0.defers })):=fun fn=>by
     have nW := hR.inv.lay hn0 (L := L) (o := .loop { state := .ready, pending := none, fn := fn, tmps := a.tmps, params := CS, assign := ao, body := bo, defers := r0.defers })
      (b:=.loop .ready none d0 S.env ps as bd N) rfl ⟨L,{ state:=.ready,pending:=none,fn:=fn,tmps:=a.tmps,params:=CS,assign:=ao,body:=bo,defers:=r0.defers },Ld,by simp [Mu.set],.inl hR.inv.below.size,by
       show (w.heap.push _)[w.heap.size]?=_
       simp,rfl,rfl,hR.env.mono (aj.le_refl _) zg,hps,hR.sz,hpN',hao,hbo,zg _ _ q12,q13⟩
     refine nW.congr (fun id=>?_) (by simp only;omega)
     rw [aD,bp]
     by_cases e:S.H.next=id
     ·subst e;simp
     ·rw [if_neg e,if_neg (fun e'=>e e'.symm)]
    have hL:(μ.set S.H.next L) S.H.next=some L:=by simp [Mu.set]
    refine wpIn_rangeFunc fun fn _=>?_
    have DE:=Gi fn
    obtain ⟨W,hW⟩:∃W,W=w.alloc (.loop { state:=.ready,pending:=none,fn:=fn,tmps:=a.tmps,params:=CS,assign:=ao,body:=bo,defers:=r0.defers }):=⟨_,rfl⟩
    rw [←hW] at DE
    refine ⟨w.heap.size,[],W,{ target:=.fn (.func fid) ys,args:=xs++#[.func (.yield w.heap.size) #[] #[]] },W,fid,
     (xs++#[.func (.yield w.heap.size) #[] #[]])++ys,W,?_,?_,fun _ _=>trivial,?_,fun h=>by simp [Ctx.F,Fence.wide] at h,?_⟩
    ·show (Instr.enterLoop fn a.tmps CS ao bo Y.ro).run P w = _
     rw [hro,hW];exact run_enterLoop_inner q3 _ _ _ _ _
    ·have e1 : ∀ v, a.eval (.const v) = v := fun _ => rfl
     simp [resolve,hg,Deferred.ofValue,e1]
    ·have := cC ((xs ++ #[Value.func (Fn.yield w.heap.size) #[] #[]]) ++ ys) W
     simpa [invoke] using this
    ·have rl:aG ι (μ.set S.H.next L) (fs++[.yl S.H.next]++cs) ((xs++#[Value.func (Fn.yield w.heap.size) #[] #[]])++ys).toList:=by
      have q1:=r1.mono (aj.le_refl _) zg
      have q2:=r2.mono (aj.le_refl _) zg
      have:=(q1.append (.cons (.yl _ L hL) .nil)).append q2
      simpa using this
     refine CallsIn.mono (F:=Y.F) (gO Y ι _ _ _ DE rl) fun e w' he=>?_
     exact fin (L:=L) (aC:=S.H.next) (sh:=[]) zg hL (hR.ms.mono zg) (.inl ⟨rfl,rfl⟩) e w' he
 ·exact h.elim
end
end Go.AM
end
section
namespace Go.AM
def uw : List Nat → List V → List (Nat × V) → List (Nat × V)
  |p::ps,v::vs,env=>uw ps vs (A5 p v env)
  |_,_,env=>env
def rC (id:Nat) (Q:V→aF→Prop) (e:Ex) (S:St):Prop:=match au id S.H.bl with
  |some (.loop .busy _ d env ps as bd N)=>match e with
    | .normal=>Q (.tf true) ⟨S.H.next,(id,.loop .ready none d env ps as bd N)::bt id S.H.bl⟩
    | .exit i=>Q (.tf false) ⟨S.H.next,(id,.loop .done (some (.exit i)) d env ps as bd N)::bt id S.H.bl⟩
    | .ret=>Q (.tf false) ⟨S.H.next,(id,.loop .done (some .ret) d env ps as bd N)::bt id S.H.bl⟩
  |_=>False
def Gj (ar:Nat→Ar) (id:Nat) (vs:List V) (H:aF) (Q:V→aF→Prop):Prop:=match au id H.bl with
  |some (.loop .ready none d env ps as bd N)=>vs.length=ps.length∧qX (ar N) as ⟨uw ps vs env,H,[]⟩ fun e S=>match e with
    | .normal=>match au id S.H.bl with
      |some (.loop .ready none d' env' ps' as' QY N')=>qX (ar N) bd ⟨S.env,⟨S.H.next,(id,.loop .busy none d' env' ps' as' QY N')::bt id S.H.bl⟩,S.ms⟩ (rC id Q)
      |_=>False
    |_=>False
  |_=>False
section
variable {P:Program} {N:Nat} {Y:Ctx} {ι ι':aj} {μ μ':Mu} {H:aF} {w w':World} {out:Option Nat} {base:Nat}
theorem Ab:∀{ps:List Nat} {vs:List V} {args:List Value} {env:List (Nat×V)} {tmps:Array Value},aG ι μ vs args→(∀p∈ps,p<N)→tmps.size=N→ei ι μ env tmps →
    ei ι μ (uw ps vs env) ((ps.zip args).foldl (fun t (p,v)=>t.setIfInBounds p v) tmps)∧((ps.zip args).foldl (fun (t:Array Value) (p,v)=>t.setIfInBounds p v) tmps).size=N
  |[],vs,args,env,tmps,hr,hp,hs,he=>by simp only [uw,List.zip_nil_left,List.foldl_nil];exact ⟨he,hs⟩
  |p::ps,[],args,env,tmps,hr,hp,hs,he=>by rw [hr.of_nil];simp only [uw,List.zip_nil_right,List.foldl_nil];exact ⟨he,hs⟩
  |p::ps,v::vs,args,env,tmps,hr,hp,hs,he=>by
    obtain ⟨x,r,rfl,h1,h2⟩:=hr.bA
    simp only [uw,List.zip_cons_cons,List.foldl_cons]
    refine Ab h2 (fun q hq=>hp q (List.mem_cons_of_mem _ hq)) (by simp [hs]) fun t=>?_
    have hd':p<N:=hp p (List.mem_cons_self ..)
    rw [lX]
    by_cases h:p=t
    · subst h
      rw [if_pos rfl]
      have:(tmps.setIfInBounds p x).getD p undef=x:=by simp [Array.getD,hs,hd']
      rw [this];exact h1
    · rw [if_neg h]
      have:(tmps.setIfInBounds p x).getD t undef=tmps.getD t undef:=by
        simp only [Array.getD_eq_getD_getElem?]
        rw [Array.getElem?_setIfInBounds_ne h]
      rw [this];exact he t
theorem J1 {id:Nat} {vs:List V} {Q:V→aF→Prop} (gP:∀N,mQ P N (some id) H.next) (h:Gj (fun N=>gb P N (some id) H.next) id vs H Q):around P id vs H Q:=by
  intro Y ι μ w args L hI hr hL
  unfold Gj at h
  split at h<;>try (exact h.elim)
  rename_i d env ps as bd N hb
  obtain ⟨hlen,h⟩:=h
  obtain ⟨L',r,Ld,q1,q2,q3,q4,q5,q6,q7,q8,q9,q10,q11,q12,q13⟩:=hI.live _ _ hb
  rw [hL] at q1;cases q1
  have hnc:∀(r:Loop) c e f,Obj.loop r ≠ .cells c e f:=fun r c e f=>by intro h;cases h
  have hsize : args.size = r.params.size := by have h1 := hr.1; have h2 : r.params.toList.length = ps.length := by rw [q7]
                                               simp at h1 h2;omega
  refine ⟨r.fn,_,r.assign,r.body,w,run_yield q3 hsize,roundIn_of_wpIn trivial ?_⟩
  let Y':Ctx:=⟨Y.w0,ι,μ,some L.b,Y.x,[]⟩
  obtain ⟨he1,he2⟩:=Ab (env:=env) hr q9 q8 q6
  have hzip:(r.params.zip args).foldl (fun tmps (x:Tmp×Value)=>tmps.setIfInBounds x.1 x.2) r.tmps=(ps.zip args.toList).foldl (fun (t:Array Value) (p,v)=>t.setIfInBounds p v) r.tmps:=by
    rw [←Array.foldl_toList,Array.toList_zip,q7]
  have hR:eF P N Y' ι μ ⟨uw ps vs env,H,[]⟩ { tmps:=(r.params.zip args).foldl (fun tmps (x:Tmp×Value)=>tmps.setIfInBounds x.1 x.2) r.tmps,defers:=[] } w :=
    ⟨by rw [hzip];exact he1,by rw [hzip];exact he2,hI.down _,rfl⟩
  have hbase:Y'.base H.next:=fun id hid=>hI.nx id hid
  have hout:jZ Y' (some id):=⟨L,hL,rfl⟩
  refine wpIn_mono (gz (gP N) r.assign q10 h Y' ι μ _ w hout hbase hR) fun e a1 w1 hp=>?_
  obtain ⟨Y1,Mz,ι1,μ1,S1,e1,qN,hx1,hq1⟩:=hp
  have:=Mz.same (by simp [Y'])
  subst this
  cases e1 with
  |exit i=>exact hq1.elim
  |ret=>exact hq1.elim
  |normal =>
    cases hx1
    simp only at hq1
    split at hq1<;>try (exact hq1.elim)
    rename_i d1 env1 ps1 as1 bd1 N1 iU
    obtain ⟨L1,r1,Ld1,p1,p2,p3,p4,p5,p6,p7,p8,p9,p10,p11,p12,p13⟩:=qN.inv.live _ _ iU
    have Wz:μ1 id=some L:=qN.inv.m0 _ _ hL
    rw [Wz] at p1;cases p1
    refine ⟨_,run_beginRound p3 p4,?_⟩
    have hlt1:L.b<w1.heap.size:=(Array.getElem?_eq_some_iff.1 p3).1
    have nW := qN.inv.HV (o' := .loop { r1 with state := .busy }) (B' := .loop .busy none d1 env1 ps1 as1 bd1 N1) iU Wz p3 (hnc _) (fun _ _ e => by cases e)
      ⟨L,{ r1 with state:=.busy },Ld1,Wz,p2,World.putObj_heap_same hlt1,rfl,p5,p6,p7,p8,p9,p10,p11,p12,p13⟩
    have nC:eF P N Y' ι1 μ1 ⟨S1.env,⟨S1.H.next,(id,.loop .busy none d1 env1 ps1 as1 bd1 N1)::bt id S1.H.bl⟩,S1.ms⟩ a1 (w1.putObj L.b (.loop { r1 with state:=.busy })):=⟨qN.env,qN.sz,nW,qN.ms⟩
    refine wpIn_mono (gz (gP N) r.body q11 hq1 Y' ι1 μ1 _ _ hout hbase nC) fun e a3 w3 hp=>?_
    obtain ⟨Y3,hY3,ι3,μ3,S3,e3,Lu,Ih,QZ⟩:=hp
    have:=hY3.same (by simp [Y'])
    subst this
    unfold rC at QZ
    split at QZ<;>try (exact QZ.elim)
    rename_i j3 d3 env3 ps3 as3 bd3 N3 CQ
    obtain ⟨L3,r3,Ld3,s1,s2,s3,s4,s5,s6,s7,s8,s9,s10,s11,s12,s13⟩:=Lu.inv.live _ _ CQ
    have hL3:μ3 id=some L:=Lu.inv.m0 _ _ hL
    rw [hL3] at s1;cases s1
    have hlt3:L.b<w3.heap.size:=(Array.getElem?_eq_some_iff.1 s3).1
    have fin:∀(jump:Option Code) (st:qh) (j:Option Ex) (v:V),stR st=(if jump.isNone then .ready else .done)→C6 j jump→v = .tf jump.isNone→Q v ⟨S3.H.next,(id,.loop st j d3 env3 ps3 as3 bd3 N3)::bt id S3.H.bl⟩ →
        ∃v w',(Instr.endRound L.b jump).run P w3 = .ok v w'∧Ml P Y ι μ Q (.returned v) w':=fun jump st j v h1 h2 h3 h4=>by
      have hI4 := Lu.inv.HV (o' := .loop { r3 with state := if jump.isNone then .ready else .done, pending := jump }) (B' := .loop st j d3 env3 ps3 as3 bd3 N3) CQ hL3 s3 (hnc _) (fun _ _ e => by cases e)
        ⟨L,{ r3 with state:=if jump.isNone then .ready else .done,pending:=jump },Ld3,hL3,s2,World.putObj_heap_same hlt3,h1.symm,h2,s6,s7,s8,s9,s10,s11,s12,s13⟩
      obtain ⟨u1,u2,u3⟩:=hI.up hI4
      subst h3
      exact ⟨_,_,run_endRound jump s3,_,ι3,μ3,_,_,rfl,u2,u3,u1,.tf _,h4⟩
    cases e3 with
    |normal=>cases Ih;exact fin none .ready none _ rfl rfl rfl QZ
    |exit i=>cases Ih;exact fin (some (.exit i)) .done (some (.exit i)) _ rfl rfl rfl QZ
    |ret=>cases Ih;exact fin (some .ret) .done (some .ret) _ rfl rfl rfl QZ
end
end Go.AM
end
section
namespace Go.AM
section
variable {c1 : Nat → List V → aF → (V → aF → Prop) → Prop} {c2 : Nat → List V → V → Prop} {c3 : C → St → (Ex → St → Prop) → Prop}
 {c4:Nat→List V→aF→(V→aF→Prop)→Prop} {c5:O→List Nat→C→C→St→(Ex→St→Prop)→Prop} {c6:C→St→(Ex→St→Prop)→Prop} {bl:ai}
theorem jI : ∀ {t : Ty} {bl : ai} {vs : List V}, bq (bn c1 c2 c3 c4 c5 c6) bl t vs = bq ek bl t vs
 | .unit,bl,vs=>by simp only [bq]
 | .prod a b,bl,vs=>by simp only [bq,jI (t:=a),jI (t:=b)]
 | .bool,_,[]=>rfl
 | .str,_,[]=>rfl
 | .int _,_,[]=>rfl
 | .list _,_,[]=>rfl
 | .cq _ _ _,_,[]=>rfl
 | .bool,_,c::cs=>by cases c<;>rfl
 | .str,_,c::cs=>by cases c<;>rfl
 | .int k,_,c::cs=>by cases c<;>rfl
 | .list t,_,c::cs=>by cases c<;>rfl
 | .cq d g t,_,c::cs=>by cases c<;>first|rfl|(simp only [bq,jI (t:=t)])
theorem rD {t : Ty} {bl : ai} : ∀ {n : Nat} {vs : List V}, lT (bn c1 c2 c3 c4 c5 c6) bl t n vs = lT ek bl t n vs
 |0,[]=>rfl
 |0,_::_=>rfl
 |n+1,vs=>by simp only [lT,jI,rD (n:=n)]
theorem Bx {t : Ty} {xs : List t.den} : ∀ {n i : Nat}, CX (bn c1 c2 c3 c4 c5 c6) t xs n i = CX ek t xs n i
 |0,_=>rfl
 |n+1,i=>by simp only [CX,Bx (n:=n)];rfl
theorem DF {t:Ty} {g:Bool} {v:V}:keyOf (bn c1 c2 c3 c4 c5 c6) t g v=keyOf ek t g v:=by simp only [keyOf,jI]
theorem Bz {t : Ty} : ∀ {vs : List V}, qO (bn c1 c2 c3 c4 c5 c6) bl t vs = qO ek bl t vs
 |[]=>rfl
 |v::r=>by simp only [qO,jI,Bz (vs:=r)]
theorem mV : ∀ {t : Ty} {x : t.den} {p : List Bool} {vs : List V}, cI (bn c1 c2 c3 c4 c5 c6) bl t x p vs = cI ek bl t x p vs
 |t,x,[],vs=>by cases t<;>simp only [cI,jI]
 | .prod a b,x,false::p,vs=>by simp only [cI,mV (t:=a)]
 | .prod a b,x,true::p,vs=>by simp only [cI,mV (t:=b)]
 | .unit,_,_::_,_=>by simp [cI]
 | .bool,_,_::_,_=>by simp [cI]
 | .str,_,_::_,_=>by simp [cI]
 | .int _,_,_::_,_=>by simp [cI]
 | .list _,_,_::_,_=>by simp [cI]
 | .cq _ _ _,_,_::_,_=>by simp [cI]
theorem rE {t:Ty} {v:V}:elems (bn c1 c2 c3 c4 c5 c6) bl t v=elems ek bl t v:=by cases v<;>rfl
theorem w6:∀{ks:List Kd} {xs ys:List V},aI (bn c1 c2 c3 c4 c5 c6) ks xs ys=aI ek ks xs ys:=by
 intro ks
 induction ks with
 |nil=>intro xs ys;cases xs<;>cases ys<;>rfl
 |cons k ks ih =>
  intro xs ys
  cases xs with
  |nil=>cases k<;>rfl
  |cons x xs =>
   cases ys with
   |nil=>cases k<;>cases x<;>rfl
   |cons y ys=>cases k<;>cases x<;>cases y<;>first|rfl|(simp only [aI,ih];rfl)
theorem w8 {mx:Bool} {k:IntKind}:∀{ys:List V} {a:Int},iK (bn c1 c2 c3 c4 c5 c6) mx k a ys=iK ek mx k a ys:=by
 intro ys
 induction ys with
 |nil=>intro a;rfl
 |cons y ys ih=>intro a;cases y<;>first|rfl|(simp only [iK,ih];rfl)
theorem MA {e:gw} {vs:List V} {aC:Nat}:iQ (bn c1 c2 c3 c4 c5 c6) e vs bl aC=iQ ek e vs bl aC:=by
 cases e<;>first|rfl|(simp only [iQ,rE,DF,rD];done)|(simp only [iQ,rE,DF,rD];rfl)
theorem w9 {f g : Nat → Option V} (h : ∀ n, f n = g n) : ∀ ns, A3 f ns = A3 g ns
 |[]=>rfl
 |n::r=>by simp only [A3,h n,w9 h r]
theorem Q2 {vs:List V} {j:Int}:LI (bn c1 c2 c3 c4 c5 c6) vs j=LI ek vs j:=rfl
theorem BA {cs : List V} : ∀ {l : List (Nat × Nat × Int)} {o : Nat}, CY (bn c1 c2 c3 c4 c5 c6) cs l o = CY ek cs l o
 |[],o=>rfl
 |(eE,len,j)::r,o=>by simp only [CY,w9 (fun n=>BA (l:=r) (o:=o+n * eE)),Q2]
theorem MB {i:I} {env:List (Nat×V)} {aC:Nat}:bX (bn c1 c2 c3 c4 c5 c6) i env bl aC=bX ek i env bl aC:=by
 cases i<;>first|rfl|(simp only [bX,Bz,mV,rE,w6,w8,MA,rD,Bx,BA];done)|(simp only [bX,Bz,mV,rE,w6,w8,MA,rD,Bx,BA];rfl)
theorem MC {i:I} {env:List (Nat×V)} {aC:Nat}:yW (bn c1 c2 c3 c4 c5 c6) i env bl aC=yW ek i env bl aC:=by
 cases i<;>first|rfl|(simp only [yW,mV,jI];done)|(simp only [yW,mV,jI];rfl)
theorem WN {id:Nat}:ZR (bn c1 c2 c3 c4 c5 c6) id bl=ZR ek id bl:=by
 unfold ZR
 split
 ·simp only [mV];rfl
 ·rfl
end
theorem MD {c1 : Nat → List V → aF → (V → aF → Prop) → Prop} {c2 : Nat → List V → V → Prop} {c3 : C → St → (Ex → St → Prop) → Prop}
  {c4:Nat→List V→aF→(V→aF→Prop)→Prop} {c5:O→List Nat→C→C→St→(Ex→St→Prop)→Prop} {c6:C→St→(Ex→St→Prop)→Prop}:∀{ids:List Nat} {bl:ai},Lr (bn c1 c2 c3 c4 c5 c6) ids bl=Lr ek ids bl
 |[],_=>rfl
 |id::r,bl=>by simp only [Lr,WN,MD (ids:=r)]
def aaV (ar:Ar) (x:O) (env:List (Nat×V)) (bl:ai) (aC:Nat):Out:=some ([],x.ev env,[])
def Q3 (ar:Ar) (c:O) (a:O) (b:O) (env:List (Nat×V)) (bl:ai) (aC:Nat):Out :=
  match c.ev env with
  | .tf true=>some ([],a.ev env,[])
  | .tf false=>some ([],b.ev env,[])
  | .bool c=>match JL (a.ev env),JL (b.ev env) with
   |some x,some y=>some ([],.bool (ar.FC c x y),[])
   |_,_=>none
  |_=>none
def ME (ar:Ar) (z:List V) (env:List (Nat×V)) (bl:ai) (aC:Nat):Out:=some ([],.ptr aC 0,[(aC,some (.cells z false))])
def WO (ar:Ar) (x:O) (env:List (Nat×V)) (bl:ai) (aC:Nat):Out:=match (x.ev env).cells? with
  |some cs=>some ([],.ptr aC 0,[(aC,some (.cells cs false))])
  |none=>none
def MF (ar:Ar) (z:List V) (parts:List (Nat×Nat×O)) (env:List (Nat×V)) (bl:ai) (aC:Nat):Out:=match tZ parts env z with
  |some cs=>some ([],.agg cs,[])
  |none=>none
def J2 (ar:Ar) (t:Ty) (xs:List O) (env:List (Nat×V)) (bl:ai) (aC:Nat):Out:=match qO ar bl t (xs.map (·.ev env)) with
  |some (ys,u)=>some ([],.sl aC t 0 xs.length,u++[(aC,some (.arr t ys false))])
  |none=>none
def Q4 (ar:Ar) (agg:Bool) (k:Nat) (x:O) (env:List (Nat×V)) (bl:ai) (aC:Nat):Out :=
  match x.ev env with
  | .ptr id off=>match au id bl with
   |some (.cells cs _)=>match cut off k cs with
    |some vs=>match cn agg vs with
     |some v=>some ([],v,[])
     |none=>none
    |none=>none
   |_=>none
  | .fc cs=>match cut 0 k cs with
   |some vs=>match cn agg vs with
    |some v=>some ([],v,[])
    |none=>none
   |none=>none
  | .ep id t i p=>match au id bl with
   |some (.arr t' xs _)=>if t=t' then
     match pM t' (ar.get t'.zero xs i) p with
     |some ⟨t2,y⟩=>match cw t2 y with
      |vs=>if vs.length=k then (match cn agg vs with
       |some v=>some ([ar.Ln i (ar.len xs)],v,[])
       |none=>none) else none
     |none=>none
    else none
   |some (.mE t' xs i' p' v)=>if t=t'∧p=p'∧k=1 then (match agg with
    |false=>some ([ar.eq (Int.ofNat i) (Int.ofNat i')],v,[])
    |true=>none) else none
   |_=>none
  | .ip t y=>match cw t y with
   |vs=>if vs.length=k then (match cn agg vs with
    |some v=>some ([],v,[])
    |none=>none) else none
  | .pa id t m=>match au id bl with
   |some (.arr t' xs _)=>if t=t' then (match CX ar t' xs m 0 with
    |vs=>if vs.length=k then (match cn agg vs with
     |some v=>some ([],v,[])
     |none=>none) else none) else none
   |_=>none
  | .sp id o l=>match au id bl with
   |some (.cells cs _)=>match k with
    |1=>match CY ar cs l o with
     |some v=>match cn agg [v] with
      |some v=>some ([],v,[])
      |none=>none
     |none=>none
    |_=>none
   |_=>none
  |_=>none
def MG (ar:Ar) (k:Nat) (a:O) (x:O) (env:List (Nat×V)) (bl:ai) (aC:Nat):Out :=
  match (x.ev env).cells? with
  |none=>none
  |some vs=>if vs.length=k then
   (match a.ev env with
   | .ptr id off=>match au id bl with
    |some (.cells cs false)=>match qP off vs cs with
     |some cs'=>some ([],.any,[(id,some (.cells cs' false))])
     |none=>none
    |_=>none
   | .ep id t i p=>match au id bl with
    |some (.arr t' xs false)=>if t=t' then
      match cI ar bl t' (ar.get t'.zero xs i) p vs with
      |some (y,u)=>match ua id u with
       |true=>some ([ar.Ln i (ar.len xs)],.any,u++[(id,some (.arr t' (ar.set xs i y) false))])
       |false=>none
      |none=>none
     else none
    |_=>none
   | .pa id t m=>match au id bl with
    |some (.arr t' xs false)=>if t=t' then
      match lT ar bl t' m vs with
      |some (ys,u)=>match ua id u with
       |true=>some ([],.any,u++[(id,some (.arr t' ys false))])
       |false=>none
      |none=>none
     else none
    |_=>none
   |_=>none) else none
def WQ (ar:Ar) (op:yT) (x:O) (y:O) (env:List (Nat×V)) (bl:ai) (aC:Nat):Out :=
  match x.ev env,y.ev env with
  | .int k a,.int k' b=>match op with
   | .shl=>zC ar .shl k a b
   | .shr=>zC ar .shr k a b
   |_=>if k=k' then FE ar op k a b else none
  | .str a,.str b=>FF ar op a b
  |_,_=>none
def WR (ar:Ar) (neg:Bool) (x:O) (y:O) (env:List (Nat×V)) (bl:ai) (aC:Nat):Out:=match JL (x.ev env),JL (y.ev env) with
  |some a,some b=>some ([],.bool (match neg with|true=>ar.sM (ar.beq a b)|false=>ar.beq a b),[])
  |_,_=>none
def WS (ar:Ar) (neg:Bool) (ks:List Kd) (x:O) (y:O) (env:List (Nat×V)) (bl:ai) (aC:Nat):Out :=
  match x.ev env,y.ev env with
  | .agg xs,.agg ys=>match aI ar ks xs ys with
   |some c=>some ([],.bool (match neg with|true=>ar.sM c|false=>c),[])
   |none=>none
  |_,_=>none
def WT (ar:Ar) (x:O) (env:List (Nat×V)) (bl:ai) (aC:Nat):Out:=match x.ev env with
  | .int k a=>match k.signed with
   |true=>match ar.sub 0 a with|z=>some ([ar.eN k z],.int k z,[])
   |false=>some ([],.int k (ar.wr k (ar.sub 0 a)),[])
  |_=>none
def WU (ar:Ar) (x:O) (env:List (Nat×V)) (bl:ai) (aC:Nat):Out:=match x.ev env with
  | .tf b=>some ([],.tf (!b),[])
  | .bool b=>some ([],.bool (ar.sM b),[])
  |_=>none
def Q5 (ar:Ar) (k:IntKind) (x:O) (env:List (Nat×V)) (bl:ai) (aC:Nat):Out:=match x.ev env with
  | .int _ n=>some ([ar.eN k n],.int k n,[])
  |_=>none
def WV (ar:Ar) (off:Nat) (path:List Bool) (x:O) (env:List (Nat×V)) (bl:ai) (aC:Nat):Out:=match x.ev env with
  | .ptr id o=>some ([],.ptr id (o+off),[])
  | .fc cs=>if off≤cs.length then some ([],.fc (cs.drop off),[]) else none
  | .ep id t i p=>match t.qL p with
   |some t1=>if t1.bB path=off then (match t1.qL path with
    |some _=>some ([],.ep id t i (p++path),[])
    |none=>none) else none
   |none=>none
  | .ip t y=>if t.bB path=off then (match pM t y path with
   |some ⟨t2,z⟩=>some ([],.ip t2 z,[])
   |none=>none) else none
  | .pa id t m=>if (off / t.sz) * t.sz=off∧off / t.sz<m then some ([],.ep id t (off / t.sz) [],[]) else none
  | .kQ t xs=>if (off / t.sz) * t.sz=off then some ([ar.Ln (off / t.sz) (ar.len xs)],.ip t (ar.get t.zero xs (off / t.sz)),[]) else none
  | .sp id o l=>some ([],.sp id (o+off) l,[])
  |_=>none
def MH (ar:Ar) (agg:Bool) (off:Nat) (k:Nat) (x:O) (env:List (Nat×V)) (bl:ai) (aC:Nat):Out:=match x.ev env with
  | .agg cs=>match cut off k cs with
   |some vs=>match cn agg vs with
    |some v=>some ([],v,[])
    |none=>none
   |none=>none
  |_=>none
def WW (ar:Ar) (eE:Nat) (x:O) (i:O) (env:List (Nat×V)) (bl:ai) (aC:Nat):Out :=
  match i.ev env with
  | .int _ n=>match x.ev env with
   | .sl id t lo m=>if t.sz=eE then some ([ar.ew n (Int.ofNat m)],.ep id t (ar.FD lo (ar.sN n)) [],[]) else none
   | .eH t xs=>if t.sz=eE then some ([ar.ew n (Int.ofNat (ar.len xs))],.ip t (ar.get t.zero xs (ar.sN n)),[]) else none
   |_=>none
  |_=>none
def Q6 (ar:Ar) (len:Nat) (eE:Nat) (x:O) (i:O) (env:List (Nat×V)) (bl:ai) (aC:Nat):Out :=
  match x.ev env with
  | .pa id t m=>match i.ev env with
   | .int _ j=>if t.sz=eE∧m=len then some ([ar.ew j (Int.ofNat len)],.ep id t (ar.sN j) [],[]) else none
   |_=>none
  | .kQ t xs=>match i.ev env with
   | .int _ j=>if t.sz=eE then some ([ar.ew j (Int.ofNat len),ar.ew j (Int.ofNat (ar.len xs))],.ip t (ar.get t.zero xs (ar.sN j)),[]) else none
   |_=>none
  | .ptr id o=>match i.ev env with
   | .int _ j=>some ([ar.ew j (Int.ofNat len)],.sp id o [(eE,len,j)],[])
   |_=>none
  | .sp id o l=>match i.ev env with
   | .int _ j=>some ([ar.ew j (Int.ofNat len)],.sp id o ((eE,len,j)::l),[])
   |_=>none
  | .fc cs=>match i.ev env with
   | .int _ (.ofNat n)=>if n<len then (if n * eE≤cs.length then some ([],.fc (cs.drop (n * eE)),[]) else none) else none
   |_=>none
  |_=>none
def WX (ar:Ar) (k:Nat) (x:O) (env:List (Nat×V)) (bl:ai) (aC:Nat):Out:=match x.ev env with
  | .cG vs=>match vs[k]? with
   |some v=>some ([],v,[])
   |none=>none
  |_=>none
def WY (ar:Ar) (x:O) (env:List (Nat×V)) (bl:ai) (aC:Nat):Out:=match x.ev env with
  | .sl _ _ _ n=>some ([],.int .i64 (Int.ofNat n),[])
  | .eH _ xs=>some ([],.int .i64 (Int.ofNat (ar.len xs)),[])
  | .bW=>some ([],.int .i64 0,[])
  |_=>none
def Q7 (ar:Ar) (x:O) (env:List (Nat×V)) (bl:ai) (aC:Nat):Out:=match x.ev env with
  | .str s=>some ([],.int .i64 (ar.JK s),[])
  |_=>none
def Q8 (ar:Ar) (n:Nat) (env:List (Nat×V)) (bl:ai) (aC:Nat):Out:=some ([],.int .i64 (Int.ofNat n),[])
def J3 (ar:Ar) (eE:Nat) (x:O) (y:O) (env:List (Nat×V)) (bl:ai) (aC:Nat):Out :=
  match x.ev env with
  | .bW=>match FG (y.ev env) with
   |some t=>if t.sz=eE then
     (match elems ar bl t (y.ev env) with
     |some ys=>match ar.len ys with
      |m=>some ([ar.Ln m cg],.sl aC t 0 m,[(aC,some (.arr t ys false))])
     |none=>none) else none
   |none=>none
  | .sl id t lo n=>if t.sz=eE then
   (match au id bl with
   |some (.arr t' xs false)=>if t'=t then
    (match jR t' t xs with
    |some xs'=>match elems ar bl t (y.ev env) with
     |some ys=>match ar.FD n (ar.len ys) with
      |m=>some ([ar.Ln m cg],.sl aC t 0 m,[(id,none),(aC,some (.arr t (ar.app (ar.sub' xs' lo n) ys) false))])
     |none=>none
    |none=>none) else none
   |_=>none) else none
  |_=>none
def Gk (ar:Ar) (t:Ty) (n:O) (env:List (Nat×V)) (bl:ai) (aC:Nat):Out:=match n.ev env with
  | .int _ z=>match ar.sN z with
   |m=>some ([ar.ew z (Int.ofNat cg)],.sl aC t 0 m,[(aC,some (.arr t (ar.rep m t.zero) false))])
  |_=>none
def Q9 (ar:Ar) (f:Nat) (a:List O) (b:List O) (env:List (Nat×V)) (bl:ai) (aC:Nat):Out:=some ([],.fn f (a.map (·.ev env)) (b.map (·.ev env)),[])
def MJ (ar:Ar) (eE:Nat) (x:O) (lo:Option O) (hi:Option O) (mx:Option O) (env:List (Nat×V)) (bl:ai) (aC:Nat):Out :=
  match mx with
  |some m=>match hi with
   |some h=>match qi (m.ev env),qi (h.ev env),cz env 0 lo with
    |some a,some b,some c=>match x.ev env with
     | .sl _ _ _ _=>some ([ar.eq a 0,ar.eq b 0,ar.eq c 0],.bW,[])
     | .eH _ _=>some ([ar.eq a 0,ar.eq b 0,ar.eq c 0],.bW,[])
     | .bW=>some ([ar.eq a 0,ar.eq b 0,ar.eq c 0],.bW,[])
     |_=>none
    |_,_,_=>none
   |none=>none
  |none =>
   match x.ev env with
   | .sl id t l n=>if t.sz=eE then
    (match cz env 0 lo,cz env (Int.ofNat n) hi with
    |some a,some b=>some ([ar.le 0 a,ar.le a b,ar.le b (Int.ofNat n)],.sl id t (ar.FD l (ar.sN a)) (ar.LH (ar.sN b) (ar.sN a)),[])
    |_,_=>none) else none
   | .eH t xs=>if t.sz=eE then
    (match cz env 0 lo,cz env (Int.ofNat (ar.len xs)) hi with
    |some a,some b=>some ([ar.le 0 a,ar.le a b,ar.le b (Int.ofNat (ar.len xs))],.eH t (ar.sub' xs (ar.sN a) (ar.LH (ar.sN b) (ar.sN a))),[])
    |_,_=>none) else none
   | .bW=>(match cz env 0 lo,cz env 0 hi with
    |some a,some b=>some ([ar.eq a 0,ar.eq b 0],.bW,[])
    |_,_=>none)
   |_=>none
def J4 (ar:Ar) (mx:Bool) (x:O) (ys:List O) (env:List (Nat×V)) (bl:ai) (aC:Nat):Out:=match x.ev env with
  | .int k a=>match iK ar mx k a (ys.map (·.ev env)) with
   |some z=>some ([],.int k z,[])
   |none=>none
  |_=>none
def UY (ar:Ar) (i:I) (env:List (Nat×V)) (bl:ai) (aC:Nat):Out:=match i with
 | .mv x=>aaV ar x env bl aC
 | .pick c a b=>Q3 ar c a b env bl aC
 | .alloc z=>ME ar z env bl aC
 | .box x=>WO ar x env bl aC
 | .build z parts=>MF ar z parts env bl aC
 | .dR t xs=>J2 ar t xs env bl aC
 | .load agg k x=>Q4 ar agg k x env bl aC
 | .store k a x=>MG ar k a x env bl aC
 | .bin op x y=>WQ ar op x y env bl aC
 | .Qq neg x y=>WR ar neg x y env bl aC
 | .eqs neg ks x y=>WS ar neg ks x y env bl aC
 | .neg x=>WT ar x env bl aC
 | .not x=>WU ar x env bl aC
 | .conv k x=>Q5 ar k x env bl aC
 | .mG off path x=>WV ar off path x env bl aC
 | .field agg off k x=>MH ar agg off k x env bl aC
 | .idx eE x i=>WW ar eE x i env bl aC
 | .yU len eE x i=>Q6 ar len eE x i env bl aC
 | .ext k x=>WX ar k x env bl aC
 | .len x=>WY ar x env bl aC
 | .lens x=>Q7 ar x env bl aC
 | .yV n=>Q8 ar n env bl aC
 | .append eE x y=>J3 ar eE x y env bl aC
 | .iJ t n=>Gk ar t n env bl aC
 | .AY f a b=>Q9 ar f a b env bl aC
 | .slice eE x lo hi mx=>MJ ar eE x lo hi mx env bl aC
 | .lE mx x ys=>J4 ar mx x ys env bl aC
 | .ex e xs=>iQ ar e (xs.map (·.ev env)) bl aC
theorem MK {ar:Ar} {i:I} {env:List (Nat×V)} {bl:ai} {aC:Nat}:UY ar i env bl aC=bX ar i env bl aC:=by cases i<;>rfl
structure Rn where
 call:Nat→List V→aF→Option (V×aF)
 round:Nat→List V→aF→Option (V×aF)
 gL:Nat→List V→Option V
 loop:Nat→Option Nat→C→St→Option (Ex×St)
section
variable {P:Program} {N:Nat} {Y:Ctx} {ι ι':aj} {μ μ':Mu} {H:aF} {w w':World} {out:Option Nat} {base:Nat}
structure RnOk (P:Program) (rn:Rn):Prop where
 call:∀{f vs H v H'},rn.call f vs H=some (v,H')→gN P f vs H fun v2 H2=>v2=v∧H2=H'
 round:∀{id vs H v H'},rn.round id vs H=some (v,H')→around P id vs H fun v2 H2=>v2=v∧H2=H'
 gL:∀{f vs v},rn.gL f vs=some v→gL P f vs v
 loop:∀{N out base c S e S' K},rn.loop N out c S=some (e,S')→K e S'→∃n,unr (gb P N out base) c n S K
 mixed:P.follows .mixedOrders=true
theorem BC {ar : Ar} {d : Option Nat} {i : I} {S : St} {K : St → Prop} {ob : List Bool} {v : V} {u : eA} (ag : bX ar i S.env S.H.bl S.H.next = some (ob, v, u)) (cT : uJ ob)
  (hk:K ⟨put d v S.env,⟨Ls i.lays S.H.next,bx u S.H.bl⟩,S.ms⟩):wpOp ar d i S K:=by
 refine .inl ?_
 unfold qQ
 rw [ag]
 cases ob with
 |nil=>exact hk
 |cons b r=>exact ⟨cT,hk⟩
theorem WZ {ar : Ar} {d : Option Nat} {i : I} {S : St} {K : St → Prop} {ob : List Bool} {v : V} {u : eA} (ag : yW ar i S.env S.H.bl S.H.next = some (ob, v, u)) (cT : uJ ob)
  (hk:K ⟨put d v S.env,⟨Ls i.lays S.H.next,bx u S.H.bl⟩,S.ms⟩):wpOp ar d i S K:=by
 refine .inr (.inl ?_)
 unfold qQ
 rw [ag]
 cases ob with
 |nil=>exact hk
 |cons b r=>exact ⟨cT,hk⟩
theorem W0 {ar : Ar} {d : Option Nat} {i : I} {S : St} {K : St → Prop} {ob : List Bool} {v : V} {u u' : eA} {ids : List Nat} (hu : Lr ar ids S.H.bl = some u') (ag : bX ar i S.env (bx u' S.H.bl) S.H.next = some (ob, v, u)) (cT : uJ ob)
  (hk:K ⟨put d v S.env,⟨Ls i.lays S.H.next,bx u (bx u' S.H.bl)⟩,S.ms⟩):wpOp ar d i S K:=by
 refine .inr (.inr ⟨ids,u',hu,?_⟩)
 unfold qQ
 rw [ag]
 cases ob with
 |nil=>exact hk
 |cons b r=>exact ⟨cT,hk⟩
end
end Go.AM
end
section
namespace Go.AM
open Go.RowKit
def j7 (P : Program) (g : TypeId → Ty → Bool) : Nat → List Field → Ty → Bool
 |_,[],.unit=>true
 |off,[f],ty=>Nat.beq f.offset off&&Nat.beq (P.cellsOf f.type) ty.sz&&g f.type ty
 |off,f::f2::r,.prod a b=>Nat.beq f.offset off&&Nat.beq (P.cellsOf f.type) a.sz&&g f.type a&&j7 P g (off+a.sz) (f2::r) b
 |_,_,_=>false
def Ad (P:Program) (g:TypeId→Ty→Bool) (fs:List Field) (ty:Ty):Bool:=match fs with
 |[f]=>match ty with
  | .prod a .unit=>j7 P g 0 [f] a
  |_=>false
 |fs=>j7 P g 0 fs ty
def Ae (P : Program) (g : TypeId → Ty → Bool) : Nat → TypeId → Ty → Bool
 |0,_,.unit=>true
 |1,e,ty=>Nat.beq (P.cellsOf e) ty.sz&&g e ty
 |n+2,e,.prod a b=>Nat.beq (P.cellsOf e) a.sz&&g e a&&Ae P g (n+1) e b
 |_,_,_=>false
def fI (P : Program) : Nat → TypeId → Ty → Bool
 |0,_,_=>false
 |n+1,t,ty=>match P.underlying t with
  |some .bool=>match ty with | .bool=>true|_=>false
  |some (.int k)=>match ty with | .int k'=>decide (k=k')|_=>false
  |some .string=>match ty with | .str=>true|_=>false
  |some (.slice e)=>match ty with | .list te=>Nat.beq (P.cellsOf e) te.sz&&Nat.blt 0 te.sz&&fI P n e te|_=>false
  |some (.struct fs)=>Nat.beq (P.cellsOf t) ty.sz&&Ad P (fI P n) fs.toList ty
  |some (.array m e)=>Nat.beq (P.cellsOf t) ty.sz&&Ae P (fI P n) m e ty
  |_=>false
def Wf : (t : Ty) → t.den → Prop
 | .unit,_=>True
 | .bool,_=>True
 | .str,s=>s.size≤maxLen
 | .int k,n=>k.min≤n∧n≤k.max
 | .list t,xs=>xs.length≤maxLen∧∀x∈xs,Wf t x
 | .prod a b,x=>Wf a x.1∧Wf b x.2
 | .cq _ _ a,x=>Wf a x
def jy (w:World):aj:=fun b o=>w.cell? ⟨b,o,none⟩
section
variable {H:Type} {enc:TypeId×Value→H} {P:Program} {w:World} {sp:Nat→Bool} {held:Bool}
theorem BD {b o:Nat} {a:Addr} {n:Nat} {cs:List Value} (ha:a=⟨b,o,none⟩∨0<n) (hb:a.block=b) (ho:a.off=o) (h:w.cells? 0 a n=some cs):cs.length=n∧Reads (jy w) b o cs∧(0<n→a.spot=none):=by
 unfold World.cells? at h
 rw [if_pos (Nat.zero_le _)] at h
 have key:∀(m:Nat) (xs:List Nat) (cs:List Value),xs.mapM (fun i=>w.cell? (a.add i))=some cs→cs.length=xs.length∧∀(j i:Nat),xs[j]?=some i→w.cell? (a.add i)=cs[j]?:=by
  intro m xs
  induction xs with
  |nil=>intro cs h;simp at h;subst h;exact ⟨rfl,fun j i hj=>by simp at hj⟩
  |cons x xs ih =>
   intro cs h
   rw [List.mapM_cons] at h
   cases hx:w.cell? (a.add x) with
   |none=>simp [hx] at h
   |some v =>
    cases hr:xs.mapM (fun i=>w.cell? (a.add i)) with
    |none=>simp [hx,hr] at h
    |some vs =>
     simp [hx,hr] at h
     subst h
     obtain ⟨h1,h2⟩:=ih vs hr
     refine ⟨by simp [h1],fun j i hj=>?_⟩
     cases j with
     |zero=>simp at hj;subst hj;simpa using hx
     |succ j=>simpa using h2 j i (by simpa using hj)
 obtain ⟨h1,h2⟩:=key 0 _ _ h
 have hlen:cs.length=n:=by simpa using h1
 have ML:0<n→a.spot=none:=fun hn=>by
  have:=h2 0 0 (by simp [hn])
  simp only [Addr.add,if_true] at this
  have hc:∃v,w.cell? a=some v:=⟨cs[0]'(by omega),by rw [this];simp⟩
  obtain ⟨v,hv⟩:=hc
  unfold World.cell? at hv
  cases hs:a.spot with
  |none=>rfl
  |some s=>rw [hs] at hv;split at hv<;>simp at hv
 refine ⟨hlen,fun j v hv=>?_,ML⟩
 have hj:j<cs.length:=(List.getElem?_eq_some_iff.1 hv).1
 have:=h2 j j (by rw [List.getElem?_range (by omega)])
 rw [hv] at this
 unfold jy
 have e:a.add j=⟨b,o+j,none⟩:=by
  have hs:=ML (by omega)
  unfold Addr.add
  subst hb;subst ho
  split
  ·rename_i h0;subst h0;cases a;simp_all
  ·rfl
 rw [e] at this
 exact this
theorem Ii {α : Type} {D : α → List Value → Prop} : ∀ (n : Nat) (f : Nat → α) (g : Nat → List Value), (∀ i, i < n → D (f i) (g i)) → bu D ((List.range n).map f) ((List.range n).flatMap g)
 |0,_,_,_=>rfl
 |n+1,f,g,h=>by
  rw [List.range_succ,List.map_append,List.flatMap_append]
  exact (Ii n f g fun i hi=>h i (by omega)).append ⟨g n,[],by simp,h n (by omega),rfl⟩
theorem Ra {k:IntKind} {n:Int} (h:(Lit.int k n).wf=true):k.min≤n∧n≤k.max:=by
 simpa [Lit.wf] using h
theorem qp {n : Nat} (ih : ∀ {t : TypeId} {ty : Ty}, fI P n t ty = true → ∀ {fuel : Nat} {cs : List Value} {x : DataW H × List MemPlace}, DataW.trod enc P w 0 sp held fuel t cs = some x → ∃ y : ty.den, af (jy w) ty y cs ∧ Wf ty y)
  {fuel:Nat} {cs:List Value}:∀{fs:List Field} {off:Nat} {ty:Ty},j7 P (fI P n) off fs ty=true→cs.length=off+ty.sz →
   (∀f∈fs,∃x,DataW.trod enc P w 0 sp held fuel f.type ((cs.drop f.offset).take (P.cellsOf f.type))=some x)→∃y:ty.den,af (jy w) ty y (cs.drop off)∧Wf ty y
 |[],off,ty,h,hl,_=>by
  cases ty<;>simp [j7] at h
  exact ⟨(),by simp [af];simp [Ty.sz] at hl;omega,trivial⟩
 |[f],off,ty,h,hl,hf=>by
  have h':(Nat.beq f.offset off&&Nat.beq (P.cellsOf f.type) ty.sz&&fI P n f.type ty)=true:=by
   cases ty<;>simpa [j7] using h
  simp only [Bool.and_eq_true] at h'
  obtain ⟨⟨h1,h2⟩,h3⟩:=h'
  have e1:=Nat.eq_of_beq_eq_true h1
  have e2:=Nat.eq_of_beq_eq_true h2
  obtain ⟨x,hx⟩:=hf f (List.mem_singleton_self _)
  rw [e1,e2,List.take_of_length_le (by simp;omega)] at hx
  exact ih h3 hx
 |f::f2::r,off,ty,h,hl,hf=>by
  cases ty<;>simp only [j7,Bool.false_eq_true] at h
  rename_i a b
  simp only [Bool.and_eq_true] at h
  obtain ⟨⟨⟨h1,h2⟩,h3⟩,h4⟩:=h
  have e1:=Nat.eq_of_beq_eq_true h1
  have e2:=Nat.eq_of_beq_eq_true h2
  obtain ⟨x,hx⟩:=hf f (List.mem_cons_self ..)
  rw [e1,e2] at hx
  obtain ⟨y,hy,wy⟩:=ih h3 hx
  simp only [Ty.sz] at hl
  obtain ⟨z,hz,wz⟩:=qp ih h4 (by omega) (fun g hg=>hf g (List.mem_cons_of_mem _ hg))
  refine ⟨(y,z),⟨_,_,?_,hy,hz⟩,wy,wz⟩
  rw [←List.drop_drop,List.take_append_drop]
theorem Ij {n : Nat} (ih : ∀ {t : TypeId} {ty : Ty}, fI P n t ty = true → ∀ {fuel : Nat} {cs : List Value} {x : DataW H × List MemPlace}, DataW.trod enc P w 0 sp held fuel t cs = some x → ∃ y : ty.den, af (jy w) ty y cs ∧ Wf ty y)
  {fuel:Nat} {cs:List Value} {e:TypeId}:∀{m i:Nat} {ty:Ty},Ae P (fI P n) m e ty=true→cs.length=i * P.cellsOf e+ty.sz →
   (∀j,i≤j→j<i+m→∃x,DataW.trod enc P w 0 sp held fuel e ((cs.drop (j * P.cellsOf e)).take (P.cellsOf e))=some x)→∃y:ty.den,af (jy w) ty y (cs.drop (i * P.cellsOf e))∧Wf ty y
 |0,i,ty,h,hl,_=>by
  cases ty<;>simp [Ae] at h
  exact ⟨(),by simp [af];simp [Ty.sz] at hl;omega,trivial⟩
 |1,i,ty,h,hl,hf=>by
  have h':(Nat.beq (P.cellsOf e) ty.sz&&fI P n e ty)=true:=by
   cases ty<;>simpa [Ae] using h
  simp only [Bool.and_eq_true] at h'
  have e2:=Nat.eq_of_beq_eq_true h'.1
  obtain ⟨x,hx⟩:=hf i (Nat.le_refl _) (by omega)
  rw [List.take_of_length_le (by rw [List.length_drop];omega)] at hx
  exact ih h'.2 hx
 |m+2,i,ty,h,hl,hf=>by
  cases ty<;>simp only [Ae,Bool.false_eq_true] at h
  rename_i a b
  simp only [Bool.and_eq_true] at h
  obtain ⟨⟨h1,h3⟩,h4⟩:=h
  have e2:=Nat.eq_of_beq_eq_true h1
  obtain ⟨x,hx⟩:=hf i (Nat.le_refl _) (by omega)
  obtain ⟨y,hy,wy⟩:=ih h3 hx
  simp only [Ty.sz] at hl
  obtain ⟨z,hz,wz⟩:=Ij ih h4 (i:=i+1) (by rw [Nat.add_mul];omega) (fun j h1 h2=>hf j (by omega) (by omega))
  refine ⟨(y,z),⟨_,_,?_,hy,hz⟩,wy,wz⟩
  rw [show (i+1) * P.cellsOf e=i * P.cellsOf e+P.cellsOf e by rw [Nat.add_mul];omega,←List.drop_drop,List.take_append_drop]
theorem MM {n:Nat}:∀{t:TypeId} {ty:Ty},fI P n t ty=true→∀{fuel:Nat} {cs:List Value} {x:DataW H×List MemPlace},DataW.trod enc P w 0 sp held fuel t cs=some x→∃y:ty.den,af (jy w) ty y cs∧Wf ty y:=by
 induction n with
 |zero=>intro t ty h;cases h
 |succ n ih =>
  intro t ty h fuel cs x hx
  have hx0:=hx
  unfold fI at h
  split at h
  ·rename_i hu
   cases ty<;>simp at h
   cases fuel with
   |zero=>simp [DataW.trod] at hx
   |succ fuel =>
    rcases cs with _|⟨c,_|⟨c2,r⟩⟩
    ·simp [DataW.trod,hu] at hx
    ·cases c <;> simp [DataW.trod, hu] at hx
     exact ⟨_,rfl,trivial⟩
    ·simp [DataW.trod,hu] at hx
  ·rename_i k hu
   cases ty<;>simp at h
   subst h
   cases fuel with
   |zero=>simp [DataW.trod] at hx
   |succ fuel =>
    rcases cs with _|⟨c,_|⟨c2,r⟩⟩
    ·simp [DataW.trod,hu] at hx
    ·cases c <;> simp [DataW.trod, hu] at hx
     obtain ⟨⟨rfl,h2⟩,_⟩:=hx
     exact ⟨_,rfl,Ra h2⟩
    ·simp [DataW.trod,hu] at hx
  ·rename_i hu
   cases ty<;>simp at h
   cases fuel with
   |zero=>simp [DataW.trod] at hx
   |succ fuel =>
    rcases cs with _|⟨c,_|⟨c2,r⟩⟩
    ·simp [DataW.trod,hu] at hx
    ·cases c <;> simp [DataW.trod, hu] at hx
     exact ⟨_,rfl,hx.1⟩
    ·simp [DataW.trod,hu] at hx
  ·rename_i e hu
   cases ty<;>simp only [Bool.false_eq_true] at h
   rename_i te
   simp only [Bool.and_eq_true] at h
   obtain ⟨⟨h1,h2⟩,h3⟩:=h
   have e1:=Nat.eq_of_beq_eq_true h1
   have hpos:0<te.sz:=by simpa using h2
   rcases DataW.trod_slice hu hx with ⟨rfl,rfl⟩|⟨a,len,cap,elems,rest,m,_,rfl,rfl,_,hlc,hm,hel,hE,_,_⟩
   ·exact ⟨[],⟨none,0,by simp,by simp,.inl rfl⟩,by simp,by simp⟩
   ·have each:∀i,i<len→∃(y:te.den) (us:List Value),af (jy w) te y us∧Wf te y∧us.length=te.sz∧Reads (jy w) a.block (a.off+i * te.sz) us∧(i=0→a.spot=none):=fun i hi=>by
     have:=hE i hi
     have hlt:i<elems.length:=by omega
     rw [List.getElem?_eq_getElem hlt,e1] at this
     cases hc:w.cells? 0 (a.add (i * te.sz)) te.sz with
     |none=>rw [hc] at this;simp at this
     |some us =>
      rw [hc,Option.bind_some] at this
      obtain ⟨y,hy,wy⟩:=ih h3 this
      have hb:(a.add (i * te.sz)).block=a.block:=by unfold Addr.add;split<;>rfl
      have ho:(a.add (i * te.sz)).off=a.off+i * te.sz:=by unfold Addr.add;split<;>simp_all
      obtain ⟨q1,q2,q3⟩:=BD (.inr hpos) hb ho hc
      refine ⟨y,us,hy,wy,q1,q2,fun h0=>?_⟩
      subst h0
      have:=q3 hpos
      simpa [Addr.add] using this
    by_cases hl0:len=0
    ·subst hl0
     exact ⟨[],⟨some a,cap,rfl,by simp,.inl rfl⟩,by simp,by simp⟩
    ·obtain ⟨f,hf⟩:∃f:Nat→te.den×List Value,∀i,i<len→af (jy w) te (f i).1 (f i).2∧Wf te (f i).1∧(f i).2.length=te.sz∧Reads (jy w) a.block (a.off+i * te.sz) (f i).2∧(i=0→a.spot=none) :=
      ⟨fun i=>if h:i<len then ((each i h).choose,(each i h).choose_spec.choose) else (te.zero,[]),fun i hi=>by simp only [hi,dif_pos];exact (each i hi).choose_spec.choose_spec⟩
     have ML:=(hf 0 (by omega)).2.2.2.2 rfl
     have hrd:∀n,n≤len→((List.range n).flatMap fun i=>(f i).2).length=n * te.sz∧Reads (jy w) a.block a.off ((List.range n).flatMap fun i=>(f i).2):=fun n=>by
      induction n with
      |zero=>intro _;exact ⟨by simp,fun j v hv=>by simp at hv⟩
      |succ n ih2 =>
       intro hn
       obtain ⟨l1,l2⟩:=ih2 (by omega)
       obtain ⟨_,_,l3,l4,_⟩:=hf n (by omega)
       rw [List.range_succ,List.flatMap_append]
       simp only [List.flatMap_cons,List.flatMap_nil,List.append_nil]
       refine ⟨by rw [List.length_append,l1,l3,Nat.add_mul];simp,fun j v hv=>?_⟩
       rw [List.getElem?_append] at hv
       split at hv
       ·exact l2 j v hv
       ·rename_i hj
        have:=l4 _ _ hv
        rw [l1] at this hj
        rw [show a.off+n * te.sz+(j - n * te.sz)=a.off+j by omega] at this
        exact this
     refine ⟨(List.range len).map fun i=>(f i).1,⟨some a,cap,by simp,by simpa using hlc,.inr ⟨a.block,a.off,(List.range len).flatMap fun i=>(f i).2,by cases a;simp_all,(hrd len (Nat.le_refl _)).2,Ii _ _ _ fun i hi=>(hf i hi).1⟩⟩,by simp;omega,fun x hx=>?_⟩
     obtain ⟨i,hi,rfl⟩:=List.mem_map.1 hx
     exact (hf i (List.mem_range.1 hi)).2.1
  ·rename_i fs hu
   simp only [Bool.and_eq_true] at h
   obtain ⟨h1,h2⟩:=h
   obtain ⟨xs,m,_,_,hl,ZX,hf⟩:=DataW.trod_struct hu hx
   have Z1:∀f∈fs.toList,∃y,DataW.trod enc P w 0 sp held m f.type ((cs.drop f.offset).take (P.cellsOf f.type))=some y:=fun f Z1=>by
    obtain ⟨i,hi⟩:=List.getElem?_of_mem Z1
    have hi':fs[i]?=some f:=by simpa using hi
    have hlt:i<xs.length:=by rw [ZX];exact (Array.getElem?_eq_some_iff.1 hi').1
    exact ⟨xs[i],by rw [hf i f hi'];simp⟩
   have hlen:cs.length=ty.sz:=by rw [hl,Nat.eq_of_beq_eq_true h1]
   unfold Ad at h2
   split at h2
   ·rename_i f hfs
    split at h2<;>try (cases h2;done)
    rename_i a
    have:=qp ih (fuel:=m) (cs:=cs) h2 (by simpa [Ty.sz] using hlen) (fun f' hf'=>by rw [←hfs] at hf';exact Z1 f' hf')
    obtain ⟨y,hy,wy⟩:=this
    exact ⟨(y,()),⟨cs,[],by simp,by simpa using hy,rfl⟩,wy,trivial⟩
   ·have := qp ih (fuel := m) (cs := cs) h2 (by simpa using hlen) Z1
    simpa using this
  ·rename_i m e hu
   simp only [Bool.and_eq_true] at h
   obtain ⟨h1,h2⟩:=h
   obtain ⟨xs,k,_,_,hl,ZX,hf⟩:=DataW.trod_array hu hx
   have:=Ij ih (fuel:=k) (cs:=cs) (i:=0) h2 (by rw [hl,Nat.eq_of_beq_eq_true h1];simp) (fun j _ hj=>⟨xs[j]'(by omega),by rw [hf j (by omega)];simp⟩)
   simpa using this
  ·cases h
end
end Go.AM
end
section
namespace Go.AM
inductive EV (π : List Nat) : V → V → Prop
 |any (v):EV π .any v
 |tf (b):EV π (.tf b) (.tf b)
 |bool (b):EV π (.bool b) (.bool b)
 |tfb (b):EV π (.bool b) (.tf b)
 |int (k n):EV π (.int k n) (.int k n)
 |str (s):EV π (.str s) (.str s)
 |ez:EV π .ez .ez
 |cE:EV π .cE .cE
 |eW:EV π .eW .eW
 |eH (t xs):EV π (.eH t xs) (.eH t xs)
 |W1 (t):EV π (.eH t []) .bW
 |bW:EV π .bW .bW
 |sl (id i t lo n) (h:π[id]?=some i):EV π (.sl id t lo n) (.sl i t lo n)
 |W2 (id t lo):EV π (.sl id t lo 0) .bW
 |ptr (id i o) (h:π[id]?=some i):EV π (.ptr id o) (.ptr i o)
 |ep (id i t j p) (h:π[id]?=some i):EV π (.ep id t j p) (.ep i t j p)
 |yl (id i) (h:π[id]?=some i):EV π (.yl id) (.yl i)
 |ip (t x):EV π (.ip t x) (.ip t x)
 |fc (cs ds) (h:cs.length=ds.length) (h2:∀(i:Nat) v u,cs[i]?=some v→ds[i]?=some u→EV π v u):EV π (.fc cs) (.fc ds)
 | fn (f as as' cs cs') (h : as.length = as'.length) (h2 : ∀ (i : Nat) v u, as[i]? = some v → as'[i]? = some u → EV π v u)
   (h3:cs.length=cs'.length) (h4:∀(i:Nat) v u,cs[i]?=some v→cs'[i]?=some u→EV π v u):EV π (.fn f as cs) (.fn f as' cs')
 |agg (cs ds) (h:cs.length=ds.length) (h2:∀(i:Nat) v u,cs[i]?=some v→ds[i]?=some u→EV π v u):EV π (.agg cs) (.agg ds)
 |cG (cs ds) (h:cs.length=ds.length) (h2:∀(i:Nat) v u,cs[i]?=some v→ds[i]?=some u→EV π v u):EV π (.cG cs) (.cG ds)
 |cq (t v u) (h:EV π v u):EV π (.cq t v) (.cq t u)
 |cb (c):EV π (.cb c) (.cb c)
 |mp (id i) (h:π[id]?=some i):EV π (.mp id) (.mp i)
 |cB:EV π .cB .cB
 |pa (id i t n) (h:π[id]?=some i):EV π (.pa id t n) (.pa i t n)
 |kQ (t xs):EV π (.kQ t xs) (.kQ t xs)
def CV (π:List Nat) (cs ds:List V):Prop:=cs.length=ds.length∧∀(i:Nat) v u,cs[i]?=some v→ds[i]?=some u→EV π v u
theorem CV.nil {π:List Nat}:CV π [] []:=⟨rfl,fun i v u h=>by simp at h⟩
theorem CV.cons {π:List Nat} {v u:V} {cs ds:List V} (h:EV π v u) (hl:CV π cs ds):CV π (v::cs) (u::ds) :=
 ⟨by simp [hl.1],fun i w y hw hy=>by
  cases i with
  |zero=>simp at hw hy;subst hw;subst hy;exact h
  |succ i=>exact hl.2 i w y (by simpa using hw) (by simpa using hy)⟩
def EE (π:List Nat) (env' env:List (Nat×V)):Prop:=∀p∈env',EV π p.2 (get p.1 env)
def Z6 (π:List Nat) (nx:Nat) (bl:ai) (id:Nat) (B:kP):Prop:=∃i,π[id]?=some i∧match B with
 | .cells cs fz=>∃ds,au i bl=some (.cells ds fz)∧CV π cs ds
 | .arr t xs fz=>au i bl=some (.arr t xs fz)∨(xs=[]∧nx≤i)
 | .loop st j d env ps as bd N=>∃d0 jH,au i bl=some (.loop st j d0 jH ps as bd N)∧π[d]?=some d0∧EE π env jH
 | .gX=>au i bl=some .gX
 | .map kt kg vt vg es=>au i bl=some (.map kt kg vt vg es)
 | .mE t xs k p v=>∃u,au i bl=some (.mE t xs k p u)∧EV π v u
structure jl (base:Nat) (π:List Nat) (S S':St):Prop where
 pre:π.take base=List.range base
 nx:S'.H.next=π.length
 ms:S'.ms.map (fun i=>π[i]?)=S.ms.map some
 env:EE π S'.env S.env
 bl:∀p∈S'.H.bl,Z6 π S.H.next S.H.bl p.1 p.2
 inj:∀p∈S'.H.bl,∀q∈S'.H.bl,π[p.1]?=π[q.1]?→p.1=q.1
section
variable {P:Program} {N:Nat} {Y:Ctx} {ι ι':aj} {μ μ':Mu} {H:aF} {w w':World} {out:Option Nat} {base:Nat} {π:List Nat}
theorem aG.eU {cs ds:List V} {xs:List Value} (h:cs.length=ds.length) (ih:∀(i:Nat) v u,cs[i]?=some v→ds[i]?=some u→∀{x:Value},Rel ι μ u x→Rel ι (μ.eU π) v x) (hr:aG ι μ ds xs):aG ι (μ.eU π) cs xs :=
 ⟨h.trans hr.1,fun i v x hv hx=>by
  have hi:i<ds.length:=by have:=(List.getElem?_eq_some_iff.1 hv).1;omega
  exact ih i v ds[i] hv (by simp [hi]) (hr.2 i ds[i] x (by simp [hi]) hx)⟩
theorem EV.rel {v' v:V} (h:EV π v' v):∀{x:Value},Rel ι μ v x→Rel ι (μ.eU π) v' x:=by
 induction h with
 |any v=>intro x _;exact .any _
 |tf b=>intro x hr;cases hr;exact .tf _
 |bool b=>intro x hr;cases hr;exact .bool _
 |tfb b=>intro x hr;cases hr;exact .bool _
 |int k n=>intro x hr;cases hr;exact .int _ _
 |str s=>intro x hr;cases hr;exact .str _
 |ez=>intro x hr;cases hr;exact .ez
 |cE=>intro x hr;cases hr;exact .cE
 |eW=>intro x hr;cases hr;exact .eW
 |eH t xs=>intro x hr;cases hr with|eH _ _ _ hd=>exact .eH t xs _ hd
 |W1 t=>intro x hr;cases hr;exact .eH _ _ _ ⟨_,0,rfl,Nat.le_refl _,.inl rfl⟩
 |bW=>intro x hr;cases hr;exact .bW _
 |sl id i t lo n hi =>
  intro x hr
  cases hr with
  |sl _ _ _ _ cap L hL h1 h2 h3=>exact .sl id t lo n cap L (by simp [Mu.eU,hi,hL]) h1 h2 h3
  |b7=>exact .b7 _ _ _ _
 |W2 id t lo=>intro x hr;cases hr;exact .b7 _ _ _ _
 |ptr id i o hi=>intro x hr;cases hr with|ptr _ _ L hL=>exact .ptr id o L (by simp [Mu.eU,hi,hL])
 |ep id i t j p hi=>intro x hr;cases hr with|ep _ _ _ _ L hL=>exact .ep id t j p L (by simp [Mu.eU,hi,hL])
 |yl id i hi=>intro x hr;cases hr with|yl _ L hL=>exact .yl id L (by simp [Mu.eU,hi,hL])
 |ip t y=>intro x hr;cases hr with|ip _ _ b o us h1 h2=>exact .ip t y b o us h1 h2
 |fc cs ds h h2 ih =>
  intro x hr
  cases hr with
  |fc _ b o gf h1 h3 h4 =>
   have hR:aG ι μ ds ((List.range ds.length).map gf):=⟨by simp,fun i v x hv hx=>by
    have hi:=(List.getElem?_eq_some_iff.1 hv).1
    simp [hi] at hx;subst hx;exact h3 i v hv⟩
   have gJ:=aG.eU h ih hR
   exact .fc cs b o gf (fun i hi => h1 i (by omega)) (fun i v hv => gJ.2 i v (gf i) hv (by
    have hi:=(List.getElem?_eq_some_iff.1 hv).1
    simp [show i<ds.length by omega])) h4
 |fn f as as' cs cs' h h2 h3 h4 ih1 ih2 =>
  intro x hr
  cases hr with
  |fn _ _ _ xs ys q1 q2 q3 q4 =>
   have r1:=aG.eU h ih1 (xs:=xs.toList) ⟨by simpa using q1,fun i v x hv hx=>q2 i v x hv (by simpa using hx)⟩
   have r2:=aG.eU h3 ih2 (xs:=ys.toList) ⟨by simpa using q3,fun i v x hv hx=>q4 i v x hv (by simpa using hx)⟩
   exact .fn f as cs xs ys (by simpa using r1.1) (fun i v x hv hx=>r1.2 i v x hv (by simpa using hx)) (by simpa using r2.1) (fun i v x hv hx=>r2.2 i v x hv (by simpa using hx))
 |agg cs ds h h2 ih =>
  intro x hr
  cases hr with
  |agg _ xs q1 q2 q3 =>
   have r1:=aG.eU h ih (xs:=xs.toList) ⟨by simpa using q1,fun i v x hv hx=>q2 i v x hv (by simpa using hx)⟩
   exact .agg cs xs (by simpa using r1.1) (fun i v x hv hx=>r1.2 i v x hv (by simpa using hx)) q3
 |cG cs ds h h2 ih =>
  intro x hr
  cases hr with
  |cG _ xs q1 q2 =>
   have r1:=aG.eU h ih (xs:=xs.toList) ⟨by simpa using q1,fun i v x hv hx=>q2 i v x hv (by simpa using hx)⟩
   exact .cG cs xs (by simpa using r1.1) (fun i v x hv hx=>r1.2 i v x hv (by simpa using hx))
 |cq t v u h ih=>intro x hr;cases hr with|cq _ _ x hx=>exact .cq t v x (ih hx)
 |cb c=>intro x hr;cases hr with|cb _ b hc=>exact .cb c b hc
 |mp id i hi=>intro x hr;cases hr with|mp _ L hL=>exact .mp id L (by simp [Mu.eU,hi,hL])
 |cB=>intro x hr;cases hr;exact .cB
 |pa id i t n hi=>intro x hr;cases hr with|pa _ _ _ L hL hm=>exact .pa id t n L (by simp [Mu.eU,hi,hL]) hm
 |kQ t xs=>intro x hr;cases hr with|kQ _ _ b o us h1 h2=>exact .kQ t xs b o us h1 h2
theorem EE.rel {tmps : Array Value} {env : List (Nat × V)} (he : ei ι μ env tmps) : ∀ {env' : List (Nat × V)}, EE π env' env → ei ι (μ.eU π) env' tmps
 |[],_=>fun t=>.any _
 |(t,v)::r,h=>fun i=>by
  rw [bV];split
  ·rename_i e;subst e;exact (h _ (List.mem_cons_self ..)).rel (he _)
  ·exact EE.rel he (fun p hp=>h p (List.mem_cons_of_mem _ hp)) i
theorem dn : ∀ {bl : ai} {id : Nat} {b : kP}, au id bl = some b → (id, b) ∈ bl
 |[],id,b,h=>by simp [au] at h
 |(s,c)::r,id,b,h=>by
  rw [bp] at h
  split at h
  ·rename_i e;subst e;cases h;exact List.mem_cons_self ..
  ·exact List.mem_cons_of_mem _ (dn h)
theorem jl.rep {S S':St} (h:jl base π S S') (hbase:Y.base base) {a:Act} (hR:eF P N Y ι μ S a w):eF P N Y ι (μ.eU π) S' a w:=by
 have hI:=hR.inv
 have hle:Y.m0.le (μ.eU π):=fun id L hL=>by
  have hlt:id<base:=by
   rcases Nat.lt_or_ge id base with h|h
   ·exact h
   ·rw [hbase id h] at hL;cases hL
  have:π[id]?=some id:=by
   have e1:(π.take base)[id]?=(List.range base)[id]?:=by rw [h.pre]
   rw [List.getElem?_take,if_pos hlt,List.getElem?_range hlt] at e1
   exact e1
  simp [Mu.eU,this,hI.m0 id L hL]
 refine ⟨h.env.rel hR.env,hR.sz,⟨hI.below,hI.i0,hI.iB,hI.rd,hle,fun id hid=>?_,fun id B hB=>?_,?_,fun id B hB=>?_,hI.gl⟩,?_⟩
 ·have : π[id]? = none := List.getElem?_eq_none (by rw [← h.nx]; exact hid)
  simp [Mu.eU,this]
 ·obtain ⟨i, e1, hb⟩ := h.bl _ (dn hB)
  have fE:(μ.eU π) id=μ i:=by simp only [Mu.eU];rw [e1];rfl
  cases B with
  |cells cs fz =>
   obtain ⟨ds,e2,ag⟩:=hb
   obtain ⟨L,vs,hM,H8⟩:=hI.live i _ e2
   exact ⟨L,vs,⟨by rw [fE];exact hM.mu,hM.old,hM.row,hM.fits,hM.one,hM.C5,hM.pU⟩,aG.eU ag.1 (fun i v u hv hu=>fun {x} hr=>(ag.2 i v u hv hu).rel hr) H8⟩
  |arr t xs fz =>
   rcases hb with e2|⟨rfl,hge⟩
   ·rcases hI.live i _ e2 with ⟨e, hn⟩ | ⟨L, vs, hM, hc, hl⟩
    ·exact .inl ⟨e,by rw [fE];exact hn⟩
    ·exact .inr ⟨L,vs,⟨by rw [fE];exact hM.mu,hM.old,hM.row,hM.fits,hM.one,hM.C5,hM.pU⟩,hc,hl⟩
   ·exact .inl ⟨rfl,by rw [fE];exact hI.nx i hge⟩
  |loop st j d env ps as bd N =>
   obtain ⟨d0,jH,e2,e3,hee⟩:=hb
   obtain ⟨L,r,Ld,q1,q2,q3,q4,q5,q6,q7,q8,q9,q10,q11,q12,q13⟩:=hI.live i _ e2
   exact ⟨L,r,Ld,by rw [fE];exact q1,q2,q3,q4,q5,hee.rel q6,q7,q8,q9,q10,q11,by simp only [Mu.eU];rw [e3];exact q12,q13⟩
  |gX =>
   obtain ⟨L,q1,q2,q3⟩:=hI.live i _ hb
   exact ⟨L,by rw [fE];exact q1,q2,q3⟩
  |map kt kg vt vg es =>
   obtain ⟨L,ms,clock,dA,q1,q2,q3⟩:=hI.live i _ hb
   exact ⟨L,ms,clock,dA,by rw [fE];exact q1,q2,q3⟩
  |mE t xs k p v =>
   obtain ⟨u,e2,ag⟩:=hb
   obtain ⟨L,us,vs,c,hM,hc,hl,q1,q2,q3,q4⟩:=hI.live i _ e2
   exact ⟨L,us,vs,c,⟨by rw [fE];exact hM.mu,hM.old,hM.row,hM.fits,hM.one,hM.C5,hM.pU⟩,hc,hl,q1,q2,q3,ag.rel q4⟩
 ·intro id id' B B' L L' hb hb' hm hm' e
  obtain ⟨i,e1,hbk⟩:=h.bl _ (dn hb)
  obtain ⟨i',Fs,hbk'⟩:=h.bl _ (dn hb')
  simp only at e1 Fs
  have fE:(μ.eU π) id=μ i:=by simp only [Mu.eU];rw [e1];rfl
  have WK:(μ.eU π) id'=μ i':=by simp only [Mu.eU];rw [Fs];rfl
  rw [fE] at hm;rw [WK] at hm'
  have live:∀{i:Nat} {B:kP} {id:Nat} {L:Loc},Z6 π S.H.next S.H.bl id B→π[id]?=some i→μ i=some L→∃C,au i S.H.bl=some C:=by
   intro i B id L hbk e hm
   obtain ⟨i2,e2,eL⟩:=hbk
   rw [e] at e2;cases e2
   cases B with
   |cells cs fz=>obtain ⟨ds,e2,_⟩:=eL;exact ⟨_,e2⟩
   |arr t xs fz =>
    rcases eL with e2|⟨_,hge⟩
    ·exact ⟨_,e2⟩
    ·rw [hI.nx i hge] at hm;cases hm
   |loop st j d env ps as bd N=>obtain ⟨d0,jH,e2,_⟩:=eL;exact ⟨_,e2⟩
   |gX=>exact ⟨_,eL⟩
   |map kt kg vt vg es=>exact ⟨_,eL⟩
   |mE t xs k p v=>obtain ⟨u,e2,_⟩:=eL;exact ⟨_,e2⟩
  obtain ⟨C,hC⟩:=live (h.bl _ (dn hb)) e1 hm
  obtain ⟨C',Qz⟩:=live (h.bl _ (dn hb')) Fs hm'
  have:=hI.inj i i' C C' L L' hC Qz hm hm' e
  subst this
  exact h.inj _ (dn hb) _ (dn hb') (e1.trans Fs.symm)
 ·obtain ⟨i, e1, _⟩ := h.bl _ (dn hB)
  have:=(List.getElem?_eq_some_iff.1 e1).1
  rw [h.nx];exact this
 ·have key:∀{ms ms':List Nat} {ds:List Deferred},ms'.map (fun i=>π[i]?)=ms.map some→jk Y.hid μ ms ds→jk Y.hid (μ.eU π) ms' ds:=by
   intro ms
   induction ms with
   |nil=>intro ms' ds e hm;cases ms'<;>simp at e;exact hm
   |cons i ms ih =>
    intro ms' ds e hm
    cases ms' with
    |nil=>simp at e
    |cons i' ms' =>
     simp only [List.map_cons,List.cons.injEq] at e
     obtain ⟨L,d,ds',q1,q2,q3,q4⟩:=hm
     exact ⟨L,d,ds',q1,by simp [Mu.eU,e.1,q2],q3,ih e.2 q4⟩
  exact key h.ms hR.ms
def jA {α β : Type} (step : α → Option (α ⊕ β)) : Nat → α → Option β
 |0,_=>none
 |n+1,x=>match step x with
  |none=>none
  |some (.inl y)=>jA step n y
  |some (.inr b)=>some b
noncomputable def iter {α β:Type} (step:α→Option (α ⊕ β)) (x:α):Option β:=by
 classical exact if h:∃n b,jA step n x=some b then some h.choose_spec.choose else none
theorem Af {α β : Type} {step : α → Option (α ⊕ β)} : ∀ {n m : Nat} {x : α} {b c : β}, jA step n x = some b → jA step m x = some c → b = c
 |0,_,_,_,_,h,_=>by cases h
 |_+1,0,_,_,_,_,h=>by cases h
 |n+1,m+1,x,b,c,h,h'=>by
  simp only [jA] at h h'
  split at h
  ·cases h
  ·rename_i y e;rw [e] at h';exact Af h h'
  ·rename_i b' e;rw [e] at h';cases h;cases h';rfl
theorem BE {α β:Type} {step:α→Option (α ⊕ β)} {n:Nat} {x:α} {b:β} (h:jA step n x=some b):iter step x=some b:=by
 unfold iter
 have h':∃n b,jA step n x=some b:=⟨n,b,h⟩
 rw [dif_pos h']
 exact congrArg some (Af h'.choose_spec.choose_spec h)
theorem tE {α β:Type} {step:α→Option (α ⊕ β)} {x:α} {b:β} (h:iter step x=some b):∃n,jA step n x=some b:=by
 unfold iter at h
 split at h
 ·rename_i h';cases h;exact ⟨_,h'.choose_spec.choose_spec⟩
 ·cases h
theorem j8 {α β:Type} {step:α→Option (α ⊕ β)} {x y:α} {b:β} (h:step x=some (.inl y)) (h':iter step y=some b):iter step x=some b:=by
 obtain ⟨n,hn⟩:=tE h'
 exact BE (n:=n+1) (by simp [jA,h,hn])
theorem fJ {α β:Type} {step:α→Option (α ⊕ β)} {x:α} {b:β} (h:step x=some (.inr b)):iter step x=some b :=
 BE (n:=1) (by simp [jA,h])
theorem J5 (gP : mQ P N out base) {α β : Type} {I : α → St} {X : β → Ex × St} {step : α → Option (α ⊕ β)} {c : C}
  (hstep:∀x r,step x=some r→qX (gb P N out base) c (I x) fun e S'=>match r with
   | .inl y=>e = .normal∧∃π,jl base π S' (I y)
   | .inr b=>e ≠ .normal∧e=(X b).1∧∃π,jl base π S' (X b).2)
  {x:α} {b:β} (hx:iter step x=some b) {S:St} {π:List Nat} (hS:jl base π S (I x)) {K:Ex→St→Prop} (hK:K (X b).1 (X b).2):(gb P N out base).loop c S K:=by
 obtain ⟨n,hn⟩:=tE hx
 intro body hbody Y ι μ a w ho hb hR
 refine wpIn_loop_ghost (fun (n:Nat) a w=>∃Y1,Ext P Y Y1∧∃x ι μ,eF P N Y1 ι μ (I x) a w∧jA step n x=some b) id (x:=n) ⟨Y,.refl Y,x,ι,_,hS.rep hb hR,hn⟩ ?_
 rintro n a w ⟨Y0,Qg,x,ι,μ,hR,hx⟩
 cases n with
 |zero=>cases hx
 |succ n =>
  simp only [jA] at hx
  split at hx
  ·cases hx
  ·rename_i y e
   refine wpIn_mono (FW (gz gP body hbody (hstep x _ e)) Qg ho hb hR) fun e a' w' hp=>?_
   obtain ⟨Y1,hY,ι',μ',S',e',h1,h2,rfl,π',h3⟩:=hp
   cases h2
   exact ⟨n,⟨Y1,hY,y,ι',_,h3.rep (hY.ug hb) h1,hx⟩,Nat.lt_succ_self n⟩
  ·rename_i b' e
   cases hx
   refine wpIn_mono (FW (gz gP body hbody (hstep x _ e)) Qg ho hb hR) fun e a' w' hp=>?_
   obtain ⟨Y1,hY,ι',μ',S',e',h1,h2,hne,h3,π',h4⟩:=hp
   have hp:Post P N Y K e a' w':=⟨Y1,hY,ι',_,_,_,h4.rep (hY.ug hb) h1,by rw [←h3];exact h2,hK⟩
   cases e' with
   |normal=>exact absurd rfl hne
   |exit id=>cases h2;exact hp
   |ret=>cases h2;exact hp
end
abbrev Env:=List (Nat×V)
section
variable {P:Program} {N:Nat} {Y:Ctx} {ι ι':aj} {μ μ':Mu} {H H':aF} {w w':World} {out:Option Nat} {base:Nat}
theorem Inv.junk (h:Inv P Y ι μ H w) (o:Obj):Inv P Y ι μ H (w.alloc o):=by
 have heap:∀k,k<w.heap.size→(w.alloc o).heap[k]?=w.heap[k]?:=fun k hk=>by
  show (w.heap.push o)[k]?=_
  rw [Array.getElem?_push];split
  ·omega
  ·rfl
 refine ⟨⟨h.below.os,h.below.tape,h.below.output,by have:=h.below.size;simp;omega,fun k hk hx=>?_,h.below.dr,fun k hk=>(h.below.maps k hk).trans (.eq (heap k (Nat.lt_of_lt_of_le hk h.below.size)))⟩,h.i0,h.iB,fun b o x hx=>?_,h.m0,h.nx,fun id B hB=>?_,h.inj,h.lt,h.gl⟩
 ·have := h.below.size
  rw [heap k (by omega)];exact h.below.block k hk hx
 ·have := h.rd b o x hx
  rw [World.cell?_alloc_lt _ _ _ (World.block_lt_of_cell? _ _ this)];exact this
 ·exact (h.live id B hB).mono (aj.le_refl _) (Mu.le_refl _) (fun h=>h) (fun L' hL'=>heap _ ((h.live id B hB).loc hL').2) (fun _ _ h=>h)
theorem dK.UZ {B:Nat→Prop} {id:Nat} {b:kP} (h:dK P B ι μ id w b) {L:Loc} (hL:μ id=some L) {r:Nat} {m:Option Nat} {s c:Nat} {seen:Array Nat} (hr:w.heap[r]?=some (.mapIter m s seen c)):L.b≠r:=by
 intro e
 subst e
 cases b with
 |cells cs fz =>
  obtain ⟨L',vs,hM,_⟩:=h
  have:=hM.mu;rw [hL] at this;cases this
  obtain ⟨c,e,h1,_⟩:=hM.row
  rw [hr] at h1;cases h1
 |arr t xs fz =>
  rcases h with ⟨_,h⟩|⟨L',vs,hM,_⟩
  ·rw [h] at hL;cases hL
  ·have := hM.mu; rw [hL] at this; cases this
   obtain ⟨c,e,h1,_⟩:=hM.row
   rw [hr] at h1;cases h1
 |loop st j d env ps as bd N =>
  obtain ⟨L',r,Ld,h1,h2,h3,_⟩:=h
  rw [hL] at h1;cases h1
  rw [hr] at h3;cases h3
 |gX =>
  obtain ⟨L',h1,h2,h3⟩:=h
  rw [hL] at h1;cases h1
  rw [hr] at h3;cases h3
 |map kt kg vt vg es =>
  obtain ⟨L',ms,clock,dA,h1,h2,h3,_⟩:=h
  rw [hL] at h1;cases h1
  rw [hr] at h3;cases h3
 |mE t xs i p v =>
  obtain ⟨L',us,vs,c,hM,_⟩:=h
  have:=hM.mu;rw [hL] at this;cases this
  obtain ⟨c,e,h1,_⟩:=hM.row
  rw [hr] at h1;cases h1
theorem Inv.side (h:Inv P Y ι μ H w) {r:Nat} {m:Option Nat} {s c:Nat} {seen:Array Nat} (hr:w.heap[r]?=some (.mapIter m s seen c)) (hown:Y.own r) (o:Obj):Inv P Y ι μ H (w.putObj r o):=by
 have bT:∀k,k≠r→(w.putObj r o).heap[k]?=w.heap[k]?:=fun k hk=>World.putObj_heap_other hk
 refine ⟨⟨h.below.os,h.below.tape,h.below.output,by rw [World.putObj_size];exact h.below.size,fun k hk hx=>?_,h.below.dr,fun k hk=>(h.below.maps k hk).trans ?_⟩,h.i0,h.iB,fun b o2 x hx=>?_,h.m0,h.nx,fun i B hB=>?_,h.inj,h.lt,h.gl⟩
 ·rw [bT k (Ctx.lG hown hk hx)];exact h.below.block k hk hx
 ·by_cases e : k = r
  ·subst e;rw [hr];exact .no fun _ _ e=>by cases e
  ·exact .eq (bT k e)
 ·have := h.rd b o2 x hx
  have hne:b≠r:=fun e=>by subst e;simp [World.cell?,hr] at this
  unfold World.cell? at this ⊢
  simp only at this ⊢
  rw [bT b hne];exact this
 ·exact (h.live i B hB).mono (aj.le_refl _) (Mu.le_refl _) (fun h=>h) (fun L' hL'=>bT _ ((h.live i B hB).UZ hL' hr)) (fun _ _ h=>h)
def Ctx.side (Y:Ctx) (w:World) (ι:aj) (μ:Mu) (r:Nat):Ctx:=⟨w,ι,μ,Y.ro,fun b=>Y.own b∧b≠r,Y.hid⟩
theorem Inv.into (h:Inv P Y ι μ H w) {r:Nat} {m:Option Nat} {s c:Nat} {seen:Array Nat} (hr:w.heap[r]?=some (.mapIter m s seen c)):Inv P (Y.side w ι μ r) ι μ H w :=
 ⟨HQ.refl _ _,aj.le_refl _,fun _ _ _ _=>rfl,h.rd,Mu.le_refl _,h.nx,fun id B hB=>(h.live id B hB).owns fun L hL ho=>.inr ⟨ho,(h.live id B hB).UZ hL hr⟩,h.inj,h.lt,h.dy⟩
theorem Inv.aaX (h:Inv P Y ι μ H w) {r:Nat} (h2:Inv P (Y.side w ι μ r) ι' μ' H' w'):Inv P Y ι' μ' H' w':=by
 have hs:=h.below.size
 have hx2:∀k,k<Y.w0.heap.size→¬Y.x k→¬(Y.side w ι μ r).x k:=fun k hk hx hX=>by
  rcases hX.1 with h|h
  ·omega
  ·exact hx h
 have b2:=h2.below
 refine ⟨⟨b2.os.trans h.below.os,b2.tape.trans h.below.tape,b2.output.trans h.below.output,Nat.le_trans hs b2.size,fun k hk hx=>?_,Nat.le_trans h.below.dr b2.dr,fun k hk=>(h.below.maps k hk).trans (b2.maps k (Nat.lt_of_lt_of_le hk hs))⟩,
  aj.le_trans h.i0 h2.i0,fun b o hb hx=>?_,h2.rd,Mu.le_trans h.m0 h2.m0,h2.nx,fun id B hB=>(h2.live id B hB).owns fun L _ ho=>?_,h2.inj,h2.lt,h.gl⟩
 ·exact (b2.block k (Nat.lt_of_lt_of_le hk hs) (hx2 k hk hx)).trans (h.below.block k hk hx)
 ·exact (h2.iB b o (Nat.lt_of_lt_of_le hb hs) (hx2 b hb hx)).trans (h.iB b o hb hx)
 ·rcases ho with ho | ho
  ·exact .inl (Nat.le_trans hs ho)
  ·exact ho.1
end
def zi {E α β : Type} (step : E → α → Option (α ⊕ β)) : List E → α → Option (α ⊕ β)
 |[],x=>some (.inl x)
 |e::r,x=>match step e x with
  |none=>none
  |some (.inl y)=>zi step r y
  |some (.inr b)=>some (.inr b)
def Ag {E α : Type} (step : E → α → Option α) : List E → α → Option α
 |[],x=>some x
 |e::r,x=>match step e x with
  |none=>none
  |some y=>Ag step r y
noncomputable def iw {E B:Type} (f:List E→Option B) (es:List E):Option B:=by
 classical exact if h:∃b,∀l:List E,l.Perm es→f l=some b then some h.choose else none
theorem oy {E B:Type} {f:List E→Option B} {es:List E} {b:B} (h:iw f es=some b):∀l:List E,l.Perm es→f l=some b:=by
 unfold iw at h
 split at h
 ·rename_i h';cases h;exact h'.choose_spec
 ·cases h
theorem gA {E B:Type} {f:List E→Option B} {es:List E} {b:B} (h:∀l:List E,l.Perm es→f l=some b):iw f es=some b:=by
 have h':∃b,∀l:List E,l.Perm es→f l=some b:=⟨b,h⟩
 unfold iw
 rw [dif_pos h']
 have h1:=h'.choose_spec es (.refl _)
 rw [h es (.refl _)] at h1
 exact h1.symm▸rfl
noncomputable def jB {α:Type} (a b:α):Bool:=@decide (a=b) (Classical.propDecidable _)
theorem DG {α:Type} {a b:α} (h:jB a b=true):a=b:=by simpa [jB] using h
@[simp] theorem dF {α:Type} (a:α):jB a a=true:=by simp [jB]
def dZ : List Nat → Env → Env
 |[],env=>env
 |t::r,env=>(t,.any)::dZ r env
def Rb (e:Option Nat) (kt:Ty) (kg:Bool) (vt:Ty) (vg:Bool) (x:kt.den×vt.den) (env:Env):Env:=match e with
 |none=>env
 |some s=>(s,.cG [cw.iP kg (cw kt x.1),cw.iP vg (cw vt x.2)])::env
section
variable {P:Program} {N:Nat} {Y:Ctx} {ι ι':aj} {μ μ':Mu} {H H':aF} {w w':World} {out:Option Nat} {base:Nat}
theorem qq : ∀ {cl : List Nat} {env : Env} {t : Nat}, get t (dZ cl env) = .any ∨ get t (dZ cl env) = get t env
 |[],env,t=>.inr rfl
 |s::r,env,t=>by
  rw [dZ,bV]
  split
  ·exact .inl rfl
  ·exact qq
theorem ei.forget {env:Env} {tmps:Array Value} (h:ei ι μ env tmps) (cl:List Nat):ei ι μ (dZ cl env) tmps:=fun t=>by
 rcases qq (cl:=cl) (env:=env) (t:=t) with e|e<;>rw [e]
 ·exact .any _
 ·exact h t
theorem ei.over {env:Env} {a:Act} (h:ei ι μ env a.tmps) {d:Nat} (hd:get d env = .any) (v:Value):ei ι μ env (a.put (some d) v).tmps:=fun t=>by
 by_cases e:d=t
 ·subst e;rw [hd];exact .any _
 ·have:(a.tmps.setIfInBounds d v).getD t undef=a.tmps.getD t undef:=by
   simp only [Array.getD_eq_getD_getElem?]
   rw [Array.getElem?_setIfInBounds_ne e]
  simp only [Act.put]
  rw [this];exact h t
theorem eF.over {S:St} {a:Act} (h:eF P N Y ι μ S a w) {d:Nat} (hd:get d S.env = .any) (v:Value):eF P N Y ι μ S (a.put (some d) v) w :=
 ⟨h.env.over hd v,by simp [Act.put,h.sz],h.inv,h.ms⟩
theorem BF {a:Act} {d:Nat} {v:Value} (hd:d<a.tmps.size):(a.put (some d) v).tmps.getD d undef=v:=by simp [Act.put,Array.getD,hd]
theorem MN {a:Act} {d t:Nat} {v:Value} (h:d≠t):(a.put (some d) v).tmps.getD t undef=a.tmps.getD t undef:=by
 simp only [Act.put,Array.getD_eq_getD_getElem?]
 rw [Array.getElem?_setIfInBounds_ne h]
theorem Inv.name (h:Inv P Y ι μ H w) (L:Loc):Inv P Y ι (μ.set H.next L) ⟨H.next+1,H.bl⟩ w:=by
 have hn:=h.nx H.next (Nat.le_refl _)
 have hle:=Mu.fu (L:=L) hn
 have hne:∀id B,au id H.bl=some B→id≠H.next:=fun id B hB=>Nat.ne_of_lt (h.lt id B hB)
 refine ⟨h.below,h.i0,h.iB,h.rd,Mu.le_trans h.m0 hle,fun id hid=>?_,fun id B hB=>?_,fun id id' B B' L1 L2 h1 h2 fH hm2 e=>?_,fun id B hB=>Nat.lt_succ_of_lt (h.lt id B hB),h.gl⟩
 ·simp only at hid
  unfold Mu.set;rw [if_neg (by omega)];exact h.nx id (by omega)
 ·exact (h.live id B hB).mono (aj.le_refl _) hle (fun hm=>by unfold Mu.set;rw [if_neg (hne id B hB)];exact hm) (fun _ _=>rfl) (fun _ _ h=>h)
 ·unfold Mu.set at fH hm2
  rw [if_neg (hne id B h1)] at fH
  rw [if_neg (hne id' B' h2)] at hm2
  exact h.inj id id' B B' L1 L2 h1 h2 fH hm2 e
theorem gB {o:Oper} (h:o.guard=none) (f:Nat→Option Bool):Region.wanted o f=true:=by
 unfold Region.wanted;rw [h]
theorem Gl {a b:Code} {hd:UM} (h:vY P N a b=some hd):∃(ia:Nat) (zj:Array Oper) (o:Oper) (rr:List Oper) (t:TypeId) (x:Operand) (b3 i2:Nat) (tF:Array Oper) (o1 o2:Oper) (n ok:Nat) (y:Code),
  a = .region ia zj false∧zj.toList=rr++[o]∧o.op = .range t x∧o.dst=some hd.it∧o.guard=none∧hd.it<N∧jT P t=some (hd.kt,hd.kg,hd.vt,hd.vg)∧dz x=some hd.m∧dV P N zj rr=some hd.pre ∧
  b = .block hd.pR (.loop (.seq (.region i2 tF false) (.seq (.cond (.tmp ok) .skip (.exit hd.pR)) (.block b3 y))))∧tF.toList=[o1,o2]∧o1.op = .next (.tmp hd.it) false∧o1.dst=some n∧o1.guard=none ∧
  o2.op = .extract (.tmp n) 0∧o2.dst=some ok∧o2.guard=none∧n<N∧ok<N∧n≠hd.it∧ok≠hd.it∧hd.cl=[n,ok]∧hd.e=sR N hd.it y:=by
 unfold vY at h
 split at h<;>try (cases h;done)
 rename_i b1 x2 t b2 b3 y
 split at h<;>try (cases h;done)
 rename_i is m it kt vt vg h1
 split at h<;>try (cases h;done)
 rename_i n ok h2
 split at h<;>try (cases h;done)
 rename_i hc
 obtain ⟨e1,e2⟩:=hc
 subst e1;subst e2
 cases h
 unfold LO at h1
 split at h1<;>try (cases h1;done)
 rename_i ia zj
 split at h1<;>try (cases h1;done)
 rename_i o rr hrev
 split at h1<;>try (cases h1;done)
 rename_i t x hop
 split at h1<;>try (cases h1;done)
 rename_i it' Rc
 split at h1<;>try (cases h1;done)
 rename_i hg
 split at h1<;>try (cases h1;done)
 rename_i Lp Lq Qt m' is' Dh hx mR
 cases h1
 unfold LP at h2
 split at h2<;>try (cases h2;done)
 rename_i i2 tF
 split at h2<;>try (cases h2;done)
 rename_i o1 o2 hl
 split at h2<;>try (cases h2;done)
 rename_i i Gm
 split at h2<;>try (cases h2;done)
 rename_i n' MO
 split at h2<;>try (cases h2;done)
 rename_i n2 J6
 split at h2<;>try (cases h2;done)
 rename_i ok' hd2
 split at h2<;>try (cases h2;done)
 rename_i UQ
 obtain ⟨g1,g2,e1,e2,l1,l2,l3,l4⟩:=UQ
 subst e1;subst e2
 cases h2
 have Fq:zj.toList=rr.reverse++[o]:=by
  have:=congrArg List.reverse hrev
  simpa using this
 exact ⟨ia,zj,o,rr.reverse,t,x,b3,i2,tF,o1,o2,_,_,y,rfl,Fq,hop,Rc,hg.1,hg.2,Dh,hx,mR,rfl,hl,Gm,MO,g1,J6,hd2,g2,l1,l2,l3,l4,rfl,rfl⟩
end
section
variable {P:Program} {N:Nat} {Y:Ctx} {ι ι':aj} {μ μ':Mu} {H H':aF} {w w':World} {out:Option Nat} {base:Nat}
theorem Re {b1 i2 b3 ok:Nat} {tF:Array Oper} {y:Code} {cb:C} (h:fe P N (.block b1 (.loop (.seq (.region i2 tF false) (.seq (.cond (.tmp ok) .skip (.exit b1)) (.block b3 y)))))=some cb) :
  ∃cx cc cy,fe P N y=some cy∧cb = .block b1 (.loop (.seq cx (.seq cc (.block b3 cy)))):=by
 have h1:∀z,vY P N (.cond (.tmp ok) .skip (.exit b1)) z=none:=fun z=>by
  unfold vY
  split
  ·split
   ·rename_i h1;cases h1
   ·rfl
  ·rfl
 have h2:∀z u v,vY P N z (.seq u v)=none:=fun z u v=>rfl
 simp only [fe] at h
 cases hx:dV P N tF tF.toList with
 |none=>simp [hx] at h
 |some is =>
  simp only [hx] at h
  cases hy:fe P N y with
  |none=>simp [hy] at h
  |some cy =>
   simp only [hy,dz,Option.map_some,h1,h2] at h
   cases h
   exact ⟨_,_,cy,rfl,rfl⟩
theorem xd {id:Nat} {K:Ex→St→Prop} {e:Exit} {a:Act} {w:World} (hp:Post P N Y (fun e S=>match e with
  | .normal=>K .normal S
  | .exit id'=>match Nat.beq id' id with
   |true=>K .normal S
   |false=>K (.exit id') S
  | .ret=>K .ret S) e a w):Exit.inBlock id (Post P N Y K) e a w:=by
 obtain ⟨Y1,hY,ι',μ',S',e',h1,h2,h3⟩:=hp
 cases e' with
 |normal=>cases h2;exact ⟨Y1,hY,ι',μ',S',.normal,h1,rfl,h3⟩
 |exit id' =>
  cases h2
  simp only [Exit.inBlock]
  simp only at h3
  split at h3
  ·rename_i Bk
   rw [if_pos (Nat.eq_of_beq_eq_true Bk)]
   exact ⟨Y1,hY,ι',μ',S',.normal,h1,rfl,h3⟩
  ·rename_i Bk
   rw [if_neg (fun e=>by subst e;rw [Nat.beq_refl] at Bk;cases Bk)]
   exact ⟨Y1,hY,ι',μ',S',.exit id',h1,rfl,h3⟩
 |ret=>cases h2;exact ⟨Y1,hY,ι',μ',S',.ret,h1,rfl,h3⟩
theorem MP (gP : mQ P N out base) {it b1 b3 : Nat} {y : Code} {cx cc cy bd : C} (J7 : fe P N y = some cy) (hbd : HL (sR N it y) (.block b1 (.loop (.seq cx (.seq cc (.block b3 cy))))) = some bd) {S0 : St} {a : Act}
  (ho:jZ Y out) (hb:Y.base base) (hR:eF P N Y ι μ S0 a w) {r:Nat} (hit:a.tmps.getD it undef = .pointer (some ⟨r,0,none⟩)) {kv vv:Value} (cC:(Instr.entry (.pointer (some ⟨r,0,none⟩))).run P w = .ok (.tuple #[kv,vv]) w)
  {kt vt:Ty} {kg vg:Bool} {x:kt.den×vt.den} (hk:Rel ι μ (cw.iP kg (cw kt x.1)) kv) (hv:Rel ι μ (cw.iP vg (cw vt x.2)) vv) {Q:Ex→St→Prop}
  (h:qX (gb P N out base) bd ⟨Rb (sR N it y) kt kg vt vg x S0.env,S0.H,S0.ms⟩ Q):(Code.block b3 y).wpIn Y.F 0 P (Post P N Y Q) a w:=by
 cases he:sR N it y with
 |none =>
  rw [he] at hbd h
  cases hbd
  exact gz gP (.block b3 y) (c:=.block b3 cy) (by simp [fe,J7]) h Y ι μ a w ho hb hR
 |some s =>
  rw [he] at hbd h
  unfold sR at he
  split at he<;>try (cases he;done)
  rename_i ri ops rest
  split at he<;>try (cases he;done)
  rename_i o os hl
  split at he<;>try (cases he;done)
  rename_i i hop
  split at he<;>try (cases he;done)
  rename_i s' Rc
  split at he<;>try (cases he;done)
  rename_i hc
  obtain ⟨hg,hi,hs,hne⟩:=hc
  cases he
  subst hi
  -- the code
  simp only [fe] at J7
  cases mR:dV P N ops ops.toList with
  |none=>simp [mR] at J7
  |some is0 =>
   simp only [mR] at J7
   cases hcr:fe P N rest with
   |none=>simp [hcr] at J7
   |some cr =>
    simp only [hcr] at J7
    split at J7
    rotate_left
    ·rename_i hd2 _
     split at J7<;>try (cases J7;done)
     cases J7
     simp [HL] at hbd
    cases J7
    rw [hl] at mR
    unfold dV at mR
    split at mR<;>try (cases mR;done)
    rename_i i0 is hi0 mR
    cases mR
    simp only [HL] at hbd
    cases hbd
    simp only [qX] at h
    refine wpIn_block (wpIn_mono ?_ fun e a w hp=>xd hp)
    refine wpIn_seq (wpIn_region ?_)
    have hsz:ops.size=os.length+1:=by rw [←Array.length_toList,hl];rfl
    rw [List.range_eq_range',hsz,List.range'_succ]
    have ho0:ops[0]?=some o:=by rw [←Array.getElem?_toList,hl];rfl
    have ag:a.eval (.tmp i) = .pointer (some ⟨r,0,none⟩):=hit
    have hN:qT N o.dst=true:=by rw [Rc];simpa [qT] using hs
    refine uj (x := .tuple #[kv, vv]) (w' := w) (fun _ => trivial) rfl ho0 (gB hg _) (by rw [hop]; intro c; simp) (.inl (by
     unfold execOp;rw [hop];simp only [ag,Sem.run_bind,cC];rfl)) ?_
    have nC:eF P N Y ι μ ⟨Rb (some s) kt kg vt vg x S0.env,S0.H,S0.ms⟩ (a.put o.dst (.tuple #[kv,vv])) w:=by
     have := hR.put hN (aj.le_refl _) (Mu.le_refl _) hR.inv (v := .cG [cw.iP kg (cw kt x.1), cw.iP vg (cw vt x.2)]) (x := .tuple #[kv, vv])
      (.cG _ _ rfl (fun i v x pe hx=>by
       match i with
       |0=>simp at pe hx;subst pe;subst hx;exact hk
       |1=>simp at pe hx;subst pe;subst hx;exact hv
       |i+2=>simp at pe))
     rw [Rc] at this ⊢
     exact this
    exact wL (Y:=Y) (out:=out) (base:=base) (k:=1) (Q:=Exit.then (rest.wpIn Y.F 0 P _) _) (fun ι μ S a w hR hK=>gz gP rest hcr hK Y ι μ a w ho hb hR) mR (fun j=>by rw [←Array.getElem?_toList,hl,Nat.add_comm];simp) nC h
end
section
variable {P:Program} {N:Nat} {Y:Ctx} {ι ι':aj} {μ μ':Mu} {H H':aF} {w w':World} {out:Option Nat} {base:Nat}
theorem eO.at {kt vt : Ty} {kg vg : Bool} : ∀ {es : List (kt.den × vt.den)} {ms : List MapEntry}, eO ι kt kg vt vg es ms → ∀ {i : Nat} {m : MapEntry}, ms[i]? = some m → ∃ e, es[i]? = some e ∧ fG ι kg kt e.1 m.key ∧ fG ι vg vt e.2 m.val
 |[],_,h,i,m,hm=>by simp [eO] at h;subst h;simp at hm
 |e::es,_,⟨m0,r,rfl,h1,h2,h3⟩,i,m,hm=>by
  cases i with
  |zero=>simp at hm;subst hm;exact ⟨e,rfl,h1,h2⟩
  |succ i=>simpa using h3.at (i:=i) (by simpa using hm)
theorem DH {E α β:Type} {step:E→α→Option (α ⊕ β)} {e:E} {r:List E} {x:α} {res:α ⊕ β} (h:zi step (e::r) x=some res) :
  (∃y,step e x=some (.inl y))∨∃b,step e x=some (.inr b)∧res = .inr b:=by
 simp only [zi] at h
 split at h
 ·cases h
 ·rename_i y e;exact .inl ⟨y,e⟩
 ·rename_i b e;cases h;exact .inr ⟨b,e,rfl⟩
theorem get_mem : ∀ {env : Env} {t : Nat} {v : V}, get t env = v → v ≠ .any → (t, v) ∈ env
 |[],t,v,h,hv=>absurd h.symm hv
 |(s,u)::r,t,v,h,hv=>by
  rw [bV] at h
  split at h
  ·rename_i e;subst e;subst h;exact List.mem_cons_self ..
  ·exact List.mem_cons_of_mem _ (get_mem h hv)
theorem Ik {π : List Nat} {cl : List Nat} {env : Env} {Hh : aF} {mss : List Nat} {S' : St} (h : jl base π ⟨dZ cl env, Hh, mss⟩ S') {mn id bm : Nat} (hid : get mn env = .mp id) {kt vt : Ty} {kg vg : Bool} {es : List (kt.den × vt.den)}
  (CR:js Hh.bl kt kg vt vg id=some es) {L:Loc} (hL:μ id=some L) (Wy:L.b=bm) (yO:Nat) (h2:get mn S'.env = .mp yO) :
  (∃L,(μ.eU π) yO=some L∧L.b=bm)∧∀es',js S'.H.bl kt kg vt vg yO=some es'→es'=es:=by
 have ag:=h.env _ (get_mem h2 (by simp))
 try simp only at ag
 have hπ:π[yO]?=some id:=by
  rcases qq (cl:=cl) (env:=env) (t:=mn) with e|e<;>rw [e] at ag
  ·cases ag
  ·rw [hid] at ag;cases ag with|mp _ _ hi=>exact hi
 refine ⟨⟨L,by simp [Mu.eU,hπ,hL],Wy⟩,fun es' he'=>?_⟩
 obtain ⟨i,e1,hb⟩:=h.bl _ (dn (dX he'))
 try simp only at e1 hb
 rw [hπ] at e1;cases e1
 have J8:=dX CR
 try simp only at J8
 rw [J8] at hb
 simp only [Option.some.injEq,kP.map.injEq,heq_eq_eq,true_and] at hb
 exact hb.symm
theorem jZ.up {w:World} {ι:aj} {r:Nat} (h:jZ Y out) (hm:Y.m0.le μ):jZ (Y.side w ι μ r) out:=by
 cases out with
 |none=>exact h
 |some o=>obtain ⟨Lo,h1,h2⟩:=h;exact ⟨Lo,hm _ _ h1,h2⟩
theorem Ext.lift {Ya Yb : Ctx} {r : Nat} (hinv : ∀ {ι : aj} {μ : Mu} {H : aF} {w : World}, Inv P Ya ι μ H w → Inv P Yb ι μ H w) (hown : ∀ b, Ya.own b → Yb.own b) (hro : Yb.ro = Ya.ro) (hm0 : Yb.m0.le Ya.m0) (Bo : Yb.hid = Ya.hid)
  (hr:r<Ya.w0.heap.size∧¬Ya.own r) (hrb:Yb.own r) {Y1:Ctx} (h:Ext P Ya Y1) :
  ∃Y2,Ext P Yb Y2∧(∀{ι:aj} {μ:Mu} {H:aF} {w:World},Inv P Y1 ι μ H w→Inv P Y2 ι μ H w)∧(∀b,Y1.own b→Y2.own b)∧Y2.ro=Y1.ro∧Y2.m0.le Y1.m0∧Y2.hid=Y1.hid∧(r<Y1.w0.heap.size∧¬Y1.own r)∧Y2.own r:=by
 induction h with
 |refl=>exact ⟨Yb,.refl Yb,hinv,hown,hro,hm0,Bo,hr,hrb⟩
 |step h ro hI hr' own ih =>
  rename_i Y1 ι1 μ1 H1 w1 r'
  obtain ⟨Y2,e1,e2,e3,e4,e5,e6,e7,e8⟩:=ih
  have hlt:=(Array.getElem?_eq_some_iff.1 hr').1
  have hne:r≠r':=fun e=>by subst e;exact e7.2 own
  have hs:=hI.below.size
  refine ⟨Y2.uL w1 ι1 r',.step e1 (e4.trans ro) (e2 hI) hr' (e3 _ own),fun {ι μ H w} h=>?_,fun b hb=>?_,e4,e5,?_,⟨?_,fun hX=>?_⟩,.inr ⟨e8,hne⟩⟩
  ·have hx : ∀ b, (Y1.uL w1 ι1 r').x b → (Y2.uL w1 ι1 r').x b := fun b hb => ⟨e3 _ hb.1, hb.2⟩
   exact ⟨⟨h.below.os,h.below.tape,h.below.output,h.below.size,fun k hk hx'=>h.below.block k hk (fun hh=>hx' (hx _ hh)),h.below.dr,h.below.maps⟩,h.i0,fun b o hb hx'=>h.iB b o hb (fun hh=>hx' (hx _ hh)),h.rd,Mu.le_trans e5 h.m0,h.nx,
    fun id B hB=>(h.live id B hB).owns fun L _ ho=>ho.imp (fun h=>h) (hx _),h.inj,h.lt,h.gl⟩
  ·exact hb.imp (fun h=>h) fun h=>⟨e3 _ h.1,h.2⟩
  ·show r' :: Y2.hid = r' :: Y1.hid
   rw [e6]
  ·exact Nat.lt_of_lt_of_le e7.1 hs
  ·rcases hX with hX | hX
   ·have : w1.heap.size ≤ r := hX
    omega
   ·exact e7.2 hX.1
theorem KD.inj {t:Ty} {β:Type} {es:List (t.den×β)} (h:KD t es) {a b:t.den×β} (ha:a∈es) (hb:b∈es) (hab:dI t a.1 b.1=true):a=b:=by
 have haa:dI t a.1 a.1=true:=by
  have:=bH hab
  rw [←this] at hab;exact hab
 have h1:=mM (d:=a.2) h ha haa
 have h2:=mM (d:=a.2) h hb hab
 exact Prod.ext (bH hab) (h1.symm.trans h2)
theorem tH {ι ι' : aj} : ∀ {t : Ty} {ks : List Kd} {x y : t.den} {vs : List Value}, bC t = some ks → af ι t x vs → af ι' t y vs → dI t x y = true
 | .unit,ks,x,y,vs,h,hx,hy=>rfl
 | .bool,ks,x,y,vs,h,hx,hy=>by simp only [af] at hx hy;subst hx;simpa [dI] using hy
 | .str,ks,x,y,vs,h,hx,hy=>by
  simp only [af] at hx hy;subst hx
  simp only [List.cons.injEq,Value.string.injEq,and_true] at hy
  subst hy;simp [dI]
 | .int k,ks,x,y,vs,h,hx,hy=>by simp only [af] at hx hy;subst hx;simpa [dI] using hy
 | .list _,ks,x,y,vs,h,hx,hy=>by cases h
 | .cq _ _ _,ks,x,y,vs,h,hx,hy=>by cases h
 | .prod a b,ks,x,y,vs,h,hx,hy=>by
  simp only [bC] at h
  split at h<;>try (cases h;done)
  rename_i k1 k2 h1 h2
  obtain ⟨us,ws,e1,d1,d2⟩:=hx
  obtain ⟨us',ws',e2,d1',d2'⟩:=hy
  rw [e1] at e2
  obtain ⟨rfl,rfl⟩:=List.append_inj e2 (by rw [d1.length,d1'.length])
  simp only [dI,tH h1 d1 d1',tH h2 d2 d2',Bool.and_self]
theorem MQ {k:TypeId} {kt:Ty} {kg:Bool} (h:vX P k=some (kt,kg)):∃ks,bC kt=some ks:=by
 unfold vX at h
 split at h<;>try (cases h;done)
 ·cases h;exact ⟨_,rfl⟩
 ·cases h;exact ⟨_,rfl⟩
 ·split at h <;> try (cases h; done)
  split at h<;>try (cases h;done)
  rename_i hc
  cases h
  exact ⟨_,hc.1⟩
theorem J9 {g:Bool} {xs ys:List Value} {v:Value} (h1:gY g xs=some v) (h2:gY g ys=some v):xs=ys:=by
 cases g with
 |true =>
  simp only [gY,Option.some.injEq] at h1 h2
  subst h1
  simp only [Value.agg.injEq] at h2
  have:=congrArg Array.toList h2
  simpa using this.symm
 |false =>
  match xs,ys,h1,h2 with
  |[x],[y],h1,h2 =>
   simp only [gY,Option.some.injEq] at h1 h2
   rw [h1,h2]
  |[],_,h1,_=>simp [gY] at h1
  |_::_::_,_,h1,_=>simp [gY] at h1
  |[_],[],_,h2=>simp [gY] at h2
  |[_],_::_::_,_,h2=>simp [gY] at h2
theorem Rf {k:TypeId} {kt:Ty} {kg:Bool} (h:vX P k=some (kt,kg)) {x y:kt.den} {z:Value} (hx:fG ι kg kt x z) (hy:fG ι' kg kt y z):dI kt x y=true:=by
 obtain ⟨ks,hks⟩:=MQ h
 obtain ⟨xs,h1,h2⟩:=hx
 obtain ⟨ys,h3,h4⟩:=hy
 have:=J9 h2 h4
 subst this
 exact tH hks h1 h3
structure MI {α:Type} (P:Program) (N:Nat) (Y:Ctx) (I:α→St) (mn it:Nat) (kt:Ty) (kg:Bool) (vt:Ty) (vg:Bool) (es dA:List (kt.den×vt.den)) (kz:List Value) (bm r since:Nat) (bs todo:List Nat) (x:α) (a:Act) (w:World) (ι:aj) (μ:Mu) (seen:Array Nat) (c0:Nat) (ms:Array MapEntry) (clock:Nat):Prop where
 rep:eF P N Y ι μ (I x) a w
 it:a.tmps.getD it undef = .pointer (some ⟨r,0,none⟩)
 own:Y.own r
 hr:w.heap[r]?=some (.mapIter (some bm) since seen c0)
 sc:since≤c0
 ck:since≤clock
 hm:w.heap[bm]?=some (.map ms clock)
 U0:ms.toList.map (·.born)=bs
 hkz:ms.toList.map (·.key)=kz
 hke:∀(i:Nat) e z,dA[i]?=some e→kz[i]?=some z→fG ι kg kt e.1 z
 old:∀b∈bs,b<since
 nd:bs.Nodup
 len:dA.length=bs.length
 td:todo.Nodup
 left:∀i,i∈todo↔∃b,bs[i]?=some b∧b∉seen.toList
 here:∀id,get mn (I x).env = .mp id→(∃L,μ id=some L∧L.b=bm)∧∀es',js (I x).H.bl kt kg vt vg id=some es'→es'=es
def DI (pR : Nat) : Ex → Ex
 | .exit i=>match Nat.beq i pR with
  |true=>.normal
  |false=>.exit i
 |e=>e
theorem MR {α:Type} (es:List α) (d:α):(List.range es.length).map (fun i=>es.getD i d)=es:=by
 apply List.ext_getElem
 ·simp
 ·intro i h1 h2;simp at h1;simp [List.getD,h1]
theorem DJ (gP : ∀ base, mQ P N out base) {α β : Type} {I : α → St} {X : β → Ex × St} {pre : List eM} {mn it : Nat} {cl : List Nat} {e : Option Nat} {kt vt : Ty} {kg vg : Bool} {pR : Nat} {bd : C}
  {step:kt.den×vt.den→α→Option (α ⊕ β)} {aC:Nat} (hI:∀x s,s∈it::cl→get s (I x).env = .any) (Ib:∀x,(I x).H.next=aC)
  (hstep:∀kZ x r,step kZ x=some r→∃id es',get mn (I x).env = .mp id∧js (I x).H.bl kt kg vt vg id=some es' ∧
   qX (gb P N out (aC+1)) bd ⟨Rb e kt kg vt vg kZ ((it,.ptr aC 0)::(I x).env),⟨aC+1,(I x).H.bl⟩,(I x).ms⟩ fun ex S'=>match r with
    | .inl y=>ex = .normal∧get it S'.env = .ptr aC 0∧get mn S'.env = .mp id∧js S'.H.bl kt kg vt vg id=some es'∧∃π,jl base π ⟨dZ (it::cl) S'.env,S'.H,S'.ms⟩ (I y)
    | .inr b=>ex ≠ .normal∧ex=(X b).1∧∃π,jl base π S' (X b).2)
  {S:St} {K:Ex→St→Prop}
  (hpre:fk (gb P N out base) pre S fun S1=>∃id es x π,get mn S1.env = .mp id∧js S1.H.bl kt kg vt vg id=some es∧jl base π ⟨dZ (it::cl) S1.env,S1.H,S1.ms⟩ (I x) ∧
   ∀l:List (kt.den×vt.den),l.Perm es→∃res,zi step l x=some res∧(match res with | .inl y=>K .normal (I y) | .inr b=>K (DI pR (X b).1) (X b).2)) :
  (gb P N out base).gH (.gH pre (.t mn) it cl e kt kg vt vg pR bd) S K:=by
 intro ca cb htr hsome
 have htr0:=htr
 simp only [fe] at htr
 split at htr<;>try (cases htr;done)
 rename_i xa xb htra htrb
 split at htr
 ·rename_i hn;rw [hn] at hsome;cases hsome
 rename_i hd hmh
 split at htr<;>try (cases htr;done)
 rename_i QY hbd
 obtain ⟨hpre',hm',qs,hcl',he',xe,W4,zk,W5,Ah⟩:=hd
 simp only [Option.some.injEq,C.gH.injEq] at htr
 obtain ⟨rfl,rfl,rfl,rfl,rfl,rfl,rfl,rfl,rfl,rfl,rfl⟩:=htr
 obtain ⟨ia,zj,oA,rr,t,xo,b3,i2,tF,o1,o2,n,ok,y,rfl,hlA,W6,hdA,hgA,hitN,Dh,Lv,mR,rfl,Fq,Gm,MO,hg1,J6,hd2,hg2,hnN,hokN,hnit,U1,yQ,he⟩:=Gl hmh
 simp only at W6 hdA hgA hitN Dh Lv mR Gm hnit U1 yQ he hbd
 subst yQ
 obtain ⟨cx,cc,cy,J7,rfl⟩:=Re htrb
 subst he
 intro Y ι μ a w hout hbase hR
 refine wpIn_seq (wpIn_region ?_)
 have hszA:zj.size=rr.length+1:=by rw [←Array.length_toList,hlA];simp
 have W7:List.range zj.size=List.range' 0 rr.length++[rr.length]:=by
  rw [hszA,List.range_succ,List.range_eq_range']
 rw [W7]
 refine tq (Y:=Y) (out:=out) (base:=base) (k:=0) (K:=fun S1=>∃id es x π,get mn S1.env = .mp id∧js S1.H.bl xe W4 zk W5 id=some es∧jl base π ⟨dZ (qs::[n,ok]) S1.env,S1.H,S1.ms⟩ (I x) ∧
   ∀l:List (xe.den×zk.den),l.Perm es→∃res,zi step l x=some res∧(match res with | .inl y=>K .normal (I y) | .inr b=>K (DI Ah (X b).1) (X b).2)) ?_ mR (fun j hj=>?_) hR hpre
 rotate_left
 ·rw [←Array.getElem?_toList,hlA,Nat.zero_add,List.getElem?_append_left (by assumption)]
 clear hR hpre
 intro ι μ S1 a w hR hK1
 obtain ⟨id,es,x,π,hmid,qt,cC,hres⟩:=hK1
 -- the iterator is made
 have hv:=hR.env mn
 rw [hmid] at hv
 generalize hav:a.tmps.getD mn undef=mv at hv
 cases hv with
 |mp _ L hL =>
 have hb:=dX qt
 obtain ⟨L',ms,clock,dA,q1,q2,q3,q4,q5,q6,hp0,hd0⟩:=hR.inv.live _ _ hb
 rw [hL] at q1;cases q1
 obtain ⟨kT,eT,huT,hkT,_⟩:=jY Dh
 have dB:a.eval xo = .map (some L.b):=by
  have:xo = .tmp mn:=by
   cases xo<;>simp only [dz] at Lv
   ·cases Lv;rfl
   ·split at Lv<;>cases Lv
   ·cases Lv
   ·cases Lv
  rw [this];exact hav
 have hoA:zj[rr.length]?=some oA:=by rw [←Array.getElem?_toList,hlA];simp
 refine uj (x := .pointer (some ⟨w.heap.size, 0, none⟩)) (w' := w.alloc (.mapIter (some L.b) clock #[] clock)) (fun _ => trivial) rfl hoA (gB hgA _) (by rw [W6]; intro c; simp) (.inl (by
  unfold execOp;rw [W6];simp only [dB,Sem.run_bind,run_range_map w t kT eT L.b ms clock huT q3];rfl)) ?_
 simp only [wpOpsIn]
 rw [hdA]
 have qN:eF P N Y ι μ ⟨dZ (qs::[n,ok]) S1.env,S1.H,S1.ms⟩ (a.put (some qs) (.pointer (some ⟨w.heap.size,0,none⟩))) (w.alloc (.mapIter (some L.b) clock #[] clock)):=by
  have h1:eF P N Y ι μ ⟨dZ (qs::[n,ok]) S1.env,S1.H,S1.ms⟩ a w:=⟨hR.env.forget _,hR.sz,hR.inv,hR.ms⟩
  have h2:=h1.over (d:=qs) (by simp [dZ,get]) (.pointer (some ⟨w.heap.size,0,none⟩))
  exact ⟨h2.env,h2.sz,h2.inv.junk _,h2.ms⟩
 have nC:=cC.rep hbase qN
 have hlt:L.b<w.heap.size:=(Array.getElem?_eq_some_iff.1 q3).1
 have Rg:MI P N Y I mn qs xe W4 zk W5 es dA (ms.toList.map (·.key)) L.b w.heap.size clock (ms.toList.map (·.born)) (List.range dA.length) x (a.put (some qs) (.pointer (some ⟨w.heap.size,0,none⟩))) (w.alloc (.mapIter (some L.b) clock #[] clock)) ι (μ.eU π) #[] clock ms clock:=by
  refine ⟨nC,BF (by rw [hR.sz];exact hitN),.inl hR.inv.below.size,heap_alloc_new _ _,Nat.le_refl _,Nat.le_refl _,(heap_alloc_old _ _ hlt).trans q3,rfl,rfl,fun i e z he hz=>?_,fun b hb=>?_,q6,?_,List.nodup_range,fun i=>?_,fun yO h2=>?_⟩
  ·rw [List.getElem?_map] at hz
   cases hm:ms.toList[i]? with
   |none=>rw [hm] at hz;cases hz
   |some m =>
    rw [hm] at hz;cases hz
    obtain ⟨e',he',hk,_⟩:=q4.at hm
    rw [he] at he';cases he'
    exact hk
  ·obtain ⟨m, hm, rfl⟩ := List.mem_map.1 hb
   exact q5 m hm
  ·rw [List.length_map,eO.length q4]
  ·have hlen := eO.length q4
   simp only [List.mem_range,List.not_mem_nil,not_false_eq_true,and_true]
   constructor
   ·intro hi
    exact ⟨_,List.getElem?_eq_getElem (show i<(ms.toList.map (·.born)).length by simp at hlen ⊢;omega)⟩
   ·rintro ⟨b, hb⟩
    have:=(List.getElem?_eq_some_iff.1 hb).1
    simp at this hlen;omega
  ·exact Ik cC hmid qt hL rfl yO h2
 have hat0:∀J:List Nat,J.Perm (List.range dA.length)→∃res,zi step (J.map fun i=>dA.getD i (xe.zero,zk.zero)) x=some res∧(match res with | .inl y=>K .normal (I y) | .inr b=>K (DI Ah (X b).1) (X b).2):=fun J hJ =>
  hres _ (((hJ.map _).trans (by rw [MR])).trans hp0)
 have hdE:KD xe es:=hd0.perm hp0
 clear hres qN nC qt hmid cC q3 q5 q6 dB hoA hav hb hR hL hlt
 generalize (a.put (some qs) (.pointer (some ⟨w.heap.size,0,none⟩)))=a1 at Rg ⊢
 generalize hw1:w.alloc (.mapIter (some L.b) clock #[] clock)=w1 at Rg ⊢
 generalize w.heap.size=r at Rg
 generalize U0:ms.toList.map (·.born)=bs at Rg
 generalize hkz:ms.toList.map (·.key)=kz at Rg
 generalize L.b=bm at Rg
 have hlen:dA.length=bs.length:=Rg.len
 clear hw1 U0 hkz
 show Code.wpIn _ _ _ (.block Ah _) _ _ _
 refine wpIn_block (wpIn_mono ?_ fun e a w hp=>xd hp)
 refine wpIn_loop_ghost (fun (g:List Nat×α) a w=>(∃Y1,Ext P Y Y1∧∃ι μ seen c0 ms clock',MI P N Y1 I mn qs xe W4 zk W5 es dA kz bm r clock bs g.1 g.2 a w ι μ seen c0 ms clock') ∧
  ∀J:List Nat,J.Perm g.1→∃res,zi step (J.map fun i=>dA.getD i (xe.zero,zk.zero)) g.2=some res∧(match res with | .inl y=>K .normal (I y) | .inr b=>K (DI Ah (X b).1) (X b).2)) (fun g=>g.1.length) (x:=(List.range dA.length,x)) ⟨⟨Y,.refl Y,_,_,_,_,_,_,Rg⟩,hat0⟩ ?_
 clear Rg hat0
 rintro ⟨todo,x⟩ a w ⟨⟨Y0,Qg,ι,μ,seen,c0,ms,clock',M⟩,HU⟩
 simp only at M HU
 refine wpIn_seq (wpIn_region ?_)
 have hsz2:tF.size=2:=by rw [←Array.length_toList,Fq];rfl
 rw [show List.range tF.size=[0,1] by rw [hsz2];rfl]
 have hO0:tF[0]?=some o1:=by rw [←Array.getElem?_toList,Fq];rfl
 have hO1:tF[1]?=some o2:=by rw [←Array.getElem?_toList,Fq];rfl
 have W8:=M.rep.sz
 have U2:a.eval (.tmp qs) = .pointer (some ⟨r,0,none⟩):=M.it
 have hold:∀m∈ms.toList,m.born<clock:=fun m hm=>M.old _ (by rw [←M.U0];exact List.mem_map.2 ⟨m,hm,rfl⟩)
 have ej:∀v,get n (I x).env = .any∧get ok (I x).env = .any∧(a.put (some n) v).eval (.tmp n)=v:=fun v=>⟨hI x n (by simp),hI x ok (by simp),BF (by rw [W8];exact hnN)⟩
 rcases run_next_at (P:=P) w o1.type r bm clock c0 seen ms clock' M.hr M.hm hold M.sc with ⟨h0,hrun⟩|⟨en,hel,w1,hw1,hrun⟩
 ·refine uj (x := .tuple #[.bool false]) (w' := w) (fun _ => trivial) rfl hO0 (gB hg1 _) (by rw [Gm]; intro c; simp) (.inl (by
   unfold execOp;rw [Gm];simp only [U2,Sem.run_bind,hrun];rfl)) ?_
  rw [MO]
  refine uj (x := .bool false) (w' := w) (fun _ => trivial) rfl hO1 (gB hg2 _) (by rw [J6]; intro c; simp) (.inl (by
   unfold execOp;rw [J6];simp only [(ej _).2.2];simp [Instr.extract])) ?_
  rw [hd2]
  simp only [wpOpsIn]
  show Code.wpIn _ _ _ (.seq _ _) _ _ _
  refine wpIn_seq (wpIn_cond_false (BF (by simpa [Act.put,W8] using hokN)) (wpIn_exit ?_))
  have aa2:todo=[]:=by
   cases htd:todo with
   |nil=>rfl
   |cons i _ =>
    exfalso
    obtain ⟨b,iU,eL⟩:=(M.left i).1 (by rw [htd];exact List.mem_cons_self ..)
    rw [←M.U0,List.getElem?_map] at iU
    cases W9:ms.toList[i]? with
    |none=>rw [W9] at iU;cases iU
    |some m =>
     rw [W9] at iU;cases iU
     have:m∈leftOf ms seen:=by
      simp only [leftOf,Array.mem_filter]
      exact ⟨by simpa using List.mem_of_getElem? W9,by simpa using eL⟩
     have hp:=Array.size_pos_of_mem this
     omega
  subst aa2
  obtain ⟨res,hr,hK⟩:=HU [] (.refl _)
  simp only [List.map_nil,zi,Option.some.injEq] at hr
  subst hr
  refine ⟨Y0,Qg,ι,μ,I x,.exit Ah,?_,rfl,?_⟩
  ·have h1 := (M.rep.over (ej .nilFunc).1 (.tuple #[.bool false])).over (ej .nilFunc).2.1 (.bool false)
   exact h1
  ·simp only [Nat.beq_refl];exact hK
 ·-- an entry
  have Xa:w1.heap=w.heap:=by rcases hw1 with rfl|rfl<;>rfl
  have qN:eF P N Y0 ι μ (I x) a w1:=by
   rcases hw1 with rfl|rfl
   ·exact M.rep
   ·exact ⟨M.rep.env,M.rep.sz,M.rep.inv.drew,M.rep.ms⟩
  have Da:w1.heap[r]?=some (.mapIter (some bm) clock seen c0):=by rw [Xa];exact M.hr
  have fH:w1.heap[bm]?=some (.map ms clock'):=by rw [Xa];exact M.hm
  have hne:bm≠r:=fun e=>by subst e;rw [Da] at fH;cases fH
  have hrlt:r<w1.heap.size:=(Array.getElem?_eq_some_iff.1 Da).1
  change (Instr.next _ _ _).run P w = .ok _ (w1.putObj r (.mapIter (some bm) clock (seen.push en.born) clock')) at hrun
  generalize hw2:w1.putObj r (.mapIter (some bm) clock (seen.push en.born) clock')=w2 at hrun
  have Db:w2.heap[r]?=some (.mapIter (some bm) clock (seen.push en.born) clock'):=by rw [←hw2];exact World.putObj_heap_same hrlt
  have hm2:w2.heap[bm]?=some (.map ms clock'):=by rw [←hw2,World.putObj_heap_other hne];exact fH
  have ux:Inv P Y0 ι μ (I x).H w2:=by rw [←hw2];exact qN.inv.side Da M.own _
  have aa4:Y0.w0.heap.size≤w2.heap.size:=ux.below.size
  clear hw2 fH Da qN hw1 Xa hrlt
  refine uj (x := .tuple #[.bool true, en.key, en.val]) (w' := w2) (fun _ => trivial) rfl hO0 (gB hg1 _) (by rw [Gm]; intro c; simp) (.inl (by
   unfold execOp;rw [Gm];simp only [U2,Sem.run_bind,hrun];rfl)) ?_
  rw [MO]
  refine uj (x := .bool true) (w' := w2) (fun _ => trivial) rfl hO1 (gB hg2 _) (by rw [J6]; intro c; simp) (.inl (by
   unfold execOp;rw [J6];simp only [(ej _).2.2];simp [Instr.extract])) ?_
  rw [hd2]
  simp only [wpOpsIn]
  show Code.wpIn _ _ _ (.seq _ _) _ _ _
  refine wpIn_seq (wpIn_cond_true (BF (by simpa [Act.put,W8] using hokN)) (wpIn_skip ?_))
  have hRa:eF P N Y0 ι μ (I x) ((a.put (some n) (.tuple #[.bool true,en.key,en.val])).put (some ok) (.bool true)) w2:=by
   have h1:=(M.rep.over (ej .nilFunc).1 (.tuple #[.bool true,en.key,en.val])).over (ej .nilFunc).2.1 (.bool true)
   exact ⟨h1.env,h1.sz,ux,h1.ms⟩
  have Xb:((a.put (some n) (.tuple #[.bool true,en.key,en.val])).put (some ok) (.bool true)).tmps.getD qs undef = .pointer (some ⟨r,0,none⟩):=by
   rw [MN U1,MN hnit];exact M.it
  show Code.wpIn _ _ _ (.block b3 y) _ _ _
  generalize ((a.put (some n) (.tuple #[.bool true,en.key,en.val])).put (some ok) (.bool true))=a2 at hRa Xb
  -- which one
  have Xc:en∈ms.toList∧en.born∉seen.toList:=by
   have:en∈leftOf ms seen:=by simpa using hel
   simp only [leftOf,Array.mem_filter] at this
   exact ⟨by simpa using this.1,by simpa using this.2⟩
  obtain ⟨i,hi⟩:=List.getElem?_of_mem Xc.1
  have hbi:bs[i]?=some en.born:=by rw [←M.U0,List.getElem?_map,hi];rfl
  have Gn:i∈todo:=(M.left i).2 ⟨_,hbi,Xc.2⟩
  have Il:∀J:List Nat,J.Perm (todo.erase i)→∃res,zi step (dA.getD i (xe.zero,zk.zero)::J.map fun i=>dA.getD i (xe.zero,zk.zero)) x=some res∧(match res with | .inl y=>K .normal (I y) | .inr b=>K (DI Ah (X b).1) (X b).2):=fun J hJ =>
   HU (i::J) ((hJ.cons i).trans (List.perm_cons_erase Gn).symm)
  have hs1:∃q,step (dA.getD i (xe.zero,zk.zero)) x=some q:=by
   obtain ⟨res,hr,_⟩:=Il _ (.refl _)
   rcases DH hr with ⟨y,hy⟩|⟨b,hb,_⟩
   ·exact ⟨_,hy⟩
   ·exact ⟨_,hb⟩
  obtain ⟨q,hq⟩:=hs1
  obtain ⟨id,es',hmid,qt,hwp⟩:=hstep _ _ _ hq
  obtain ⟨⟨L,hL,Wy⟩,CR⟩:=M.here id hmid
  have:=CR es' qt
  subst this
  obtain ⟨L',ms2,ck2,Ft,z1,z2,z3,z4,z5,z6,z7,z8⟩:=ux.live id _ (dX qt)
  rw [hL] at z1;cases z1
  rw [Wy,hm2] at z3;cases z3
  obtain ⟨e0,he0,hk,hv⟩:=z4.at hi
  have UP:dA.getD i (xe.zero,zk.zero)=e0:=by
   have hil:i<dA.length:=by
    have:=(List.getElem?_eq_some_iff.1 hbi).1
    rw [M.len];exact this
   have h1:dA[i]?=some dA[i]:=List.getElem?_eq_getElem hil
   have h2:=M.hke i _ en.key h1 (by rw [←M.hkz,List.getElem?_map,hi];rfl)
   have h3:=hdE.inj (hp0.mem_iff.1 (List.getElem_mem hil)) (z7.mem_iff.1 (List.mem_of_getElem? he0)) (Rf hkT h2 hk)
   rw [List.getD_eq_getElem?_getD,h1]
   exact h3
  rw [UP] at hq hwp Il
  have hx0:=Ib x
  let L0:Loc:=⟨r,0,0,0⟩
  have MS:Inv P Y0 ι (μ.set aC L0) ⟨aC+1,(I x).H.bl⟩ w2:=by rw [←hx0];exact ux.name L0
  have hnone:μ aC=none:=by rw [←hx0];exact ux.nx _ (Nat.le_refl _)
  have hle:=Mu.fu (L:=L0) hnone
  have hRs:eF P N (Y0.side w2 ι (μ.set aC L0) r) ι (μ.set aC L0) ⟨(qs,.ptr aC 0)::(I x).env,⟨aC+1,(I x).H.bl⟩,(I x).ms⟩ a2 w2:=by
   refine ⟨fun t=>?_,hRa.sz,MS.into Db,hRa.ms.mono hle⟩
   rw [bV]
   split
   ·rename_i e; subst e
    rw [Xb]
    have:=Rel.ptr (ι:=ι) (μ:=μ.set aC L0) aC 0 L0 (by simp [Mu.set])
    exact this
   ·exact (hRa.env t).mono (aj.le_refl _) hle
  have cC:=run_entry_at (P:=P) w2 r bm clock seen ms clock' en Db hm2 Xc.1 (by rw [M.U0];exact M.nd)
  have MT:jZ (Y0.side w2 ι (μ.set aC L0) r) out:=(Qg.WG hout).up (Mu.le_trans M.rep.inv.m0 hle)
  have iy:(Y0.side w2 ι (μ.set aC L0) r).base (aC+1):=fun id hid=>MS.nx id hid
  have hF:(Y0.side w2 ι (μ.set aC L0) r).F=Y.F:=Qg.F
  rw [←hF]
  refine wpIn_mono (MP (Y:=Y0.side w2 ι (μ.set aC L0) r) (gP (aC+1)) J7 hbd MT iy hRs Xb cC (hk.rel) (hv.rel) hwp) fun e3 a3 w3 hp=>?_
  obtain ⟨Y1,Mz,ι3,μ3,S3,ex,Lu,Ih,QZ⟩:=hp
  have pX:Inv P (Y0.side w2 ι (μ.set aC L0) r) ι3 μ3 S3.H w3:=Mz.inv Lu.inv
  have Rh:(μ.set aC L0).le μ3:=pX.m0
  have aa6:=(Array.getElem?_eq_some_iff.1 Db).1
  obtain ⟨Y2,hY2,MU,-,-,-,Bo,-,MV⟩:=Mz.lift (Yb:=Y0) (r:=r) (fun h=>MS.aaX h) (fun b hb=>by
   rcases hb with hb|hb
   ·exact .inl (Nat.le_trans aa4 hb)
   ·exact hb.1) rfl (Mu.le_trans M.rep.inv.m0 hle) rfl ⟨aa6,fun h=>by
    rcases h with h|h
    ·have : w2.heap.size ≤ r := h
     omega
    ·exact h.2 rfl⟩ M.own
  have hYt:=Qg.trans hY2
  have Im:Inv P Y2 ι3 μ3 S3.H w3:=MU Lu.inv
  have hms3:jk Y2.hid μ3 S3.ms a3.defers:=by rw [Bo];exact Lu.ms
  cases q with
  |inr b =>
   obtain ⟨hne3,hex,π3,Io⟩:=QZ
   obtain ⟨res,hr,hK⟩:=Il _ (.refl _)
   have hres:res = .inr b:=by
    rcases DH hr with ⟨y,hy⟩|⟨b',hb,h⟩
    ·rw [hq] at hy;cases hy
    ·rw [hq] at hb;cases hb;exact h
   subst hres
   have hRb:=Io.rep (hYt.ug hbase) (⟨Lu.env,Lu.sz,Im,hms3⟩:eF P N Y2 ι3 μ3 S3 a3 w3)
   subst hex
   simp only at hK
   generalize hxb:(X b).1=xb at hK Ih hne3
   cases xb with
   |normal=>exact absurd rfl hne3
   |exit i' =>
    cases Ih
    refine ⟨Y2,hYt,ι3,_,_,.exit i',hRb,rfl,?_⟩
    simp only [DI] at hK
    split at hK
    ·rename_i hb;simp only [hb];exact hK
    ·rename_i hb;simp only [hb];exact hK
   |ret=>cases Ih;exact ⟨Y2,hYt,ι3,_,_,.ret,hRb,rfl,hK⟩
  |inl y =>
   obtain ⟨rfl,hit3,hmn3,BG,π3,Io⟩:=QZ
   cases Ih
   have hRf:eF P N Y2 ι3 μ3 ⟨dZ (qs::[n,ok]) S3.env,S3.H,S3.ms⟩ a3 w3:=⟨Lu.env.forget _,Lu.sz,Im,hms3⟩
   have hRy:=Io.rep (hYt.ug hbase) hRf
   have hbm3 : w3.heap[bm]? = some (.map ms clock') ∨ ∃ U3 ck3, w3.heap[bm]? = some (.map U3 ck3) := .inr (by
    obtain ⟨L3,U3,ck3,es3,y1,y2,y3,_⟩:=Im.live id _ (dX BG)
    rw [Rh _ _ (hle _ _ hL)] at y1;cases y1
    exact ⟨U3,ck3,by rw [←Wy];exact y3⟩)
   obtain ⟨L3,U3,ck3,es3,y1,y2,y3,y4,y5,y6,y7,_⟩:=Im.live id _ (dX BG)
   rw [Rh _ _ (hle _ _ hL)] at y1;cases y1
   rw [Wy] at y3
   have abb:bm<w2.heap.size:=(Array.getElem?_eq_some_iff.1 hm2).1
   have hgrow:=pX.below.maps bm abb ms clock' hm2
   obtain ⟨ms4,ck4,g1,g2,g3⟩:=hgrow
   rw [y3] at g1;cases g1
   have hbk:(U3.toList.map fun m=>(m.born,m.key))=ms.toList.map fun m=>(m.born,m.key):=by
    refine (g2.eq_of_length ?_).symm
    have h1:=ux.live id _ (dX qt)
    have h2:ms.toList.length=bs.length:=by rw [←M.U0,List.length_map]
    rw [List.length_map,List.length_map,eO.length y4,y7.length_eq,←hp0.length_eq,hlen,h2]
   have wF:U3.toList.map (·.born)=bs:=by
    have:=congrArg (List.map Prod.fst) hbk
    rw [←M.U0];simpa [List.map_map,Function.comp_def] using this
   have hkeys:U3.toList.map (·.key)=kz:=by
    have:=congrArg (List.map Prod.snd) hbk
    rw [←M.hkz];simpa [List.map_map,Function.comp_def] using this
   refine ⟨⟨todo.erase i,y⟩,⟨⟨Y2,hYt,ι3,_,seen.push en.born,clock',U3,ck3,hRy,?_,MV,?_,M.ck,Nat.le_trans M.ck g3,y3,wF,hkeys,fun i e z he hz=>(M.hke i e z he hz).mono (fun b o x hx=>pX.i0 b o x hx),M.old,M.nd,M.len,M.td.erase i,fun j=>?_,?_⟩,fun J hJ=>?_⟩,?_⟩
   ·have := Lu.env qs
    rw [hit3] at this
    generalize a3.tmps.getD qs undef=tv at this ⊢
    cases this with
    |ptr _ _ L4 h4 =>
     rw [Rh aC L0 (by simp [Mu.set])] at h4
     cases h4
     rfl
   ·have := pX.below.block r (Array.getElem?_eq_some_iff.1 Db).1 (fun h => h.2 rfl)
    rw [this];exact Db
   ·rw [List.Nodup.mem_erase_iff M.td, M.left j]
    simp only [Array.toList_push,List.mem_append,List.mem_singleton]
    constructor
    ·rintro ⟨hj, b, hb, hs⟩
     refine ⟨b,hb,fun h=>?_⟩
     rcases h with h|h
     ·exact hs h
     ·subst h
      exact hj ((List.getElem?_inj (List.getElem?_eq_some_iff.1 hb).1 M.nd).1 (hb.trans hbi.symm))
    ·rintro ⟨b, hb, hs⟩
     refine ⟨fun e=>?_,b,hb,fun h=>hs (.inl h)⟩
     subst e
     rw [hbi] at hb;cases hb
     exact hs (.inr rfl)
   ·exact fun yO h2=>Ik Io hmn3 BG (Rh _ _ (hle _ _ hL)) Wy yO h2
   ·obtain ⟨res, h, hK⟩ := Il J hJ
    simp only [zi,hq] at h
    exact ⟨res,h,hK⟩
   ·rw [List.length_erase_of_mem Gn]
    have:=List.length_pos_of_mem Gn
    show todo.length - 1<todo.length
    omega
end
end Go.AM
end
section
namespace Go.AM
structure Kz (R:Type) where
 br:Bool→R→R→R
 am:R→R→R
 nd:Bool→R→R
 no:R
 bd:{A:Type}→Option A→(A→R)→R
 sm:{A B:Type}→A ⊕ B→(A→R)→(B→R)→R
 an:{E:Type}→List E→(List E→R)→R
noncomputable def need {X:Type} (c:Bool) (x:Option X):Option X:=@ite _ (c=true) (Classical.propDecidable _) x none
noncomputable def vp {X:Type} (c:Bool) (x y:Option X):Option X:=@ite _ (c=true) (Classical.propDecidable _) x y
noncomputable def DK {X:Type} (x y:Option X):Option X:=@ite _ (x=y) (Classical.propDecidable _) x none
noncomputable def ic {A X:Type} (o:Option A) (f:A→Option X):Option X:=@dite _ (∃a,o=some a) (Classical.propDecidable _) (fun h=>f h.choose) (fun _=>none)
@[reducible] noncomputable def jf (X:Type):Kz (Option X) where
 br c a b:=vp c a b
 am a b:=DK a b
 nd c a:=need c a
 no:=none
 bd o f:=ic o f
 sm s f g:=match s with
  | .inl a=>f a
  | .inr b=>g b
 an es f:=iw f es
theorem Ka {X:Type} {x y:Option X} {r:X} (h:DK x y=some r):x=some r∧y=some r:=by
 unfold DK at h
 split at h
 ·rename_i e;exact ⟨h,e▸h⟩
 ·cases h
@[simp] theorem Ai {X:Type} {x:Option X}:DK x x=x:=by unfold DK;rw [if_pos rfl]
theorem c8 {X:Type} {c:Bool} {x:Option X} (h:c=true):need c x=x:=by unfold need;rw [if_pos h]
@[simp] theorem ah {X:Type} {x:Option X}:need true x=x:=c8 rfl
@[simp] theorem Xd {X:Type} {x:Option X}:need false x=none:=by unfold need;rw [if_neg (by simp)]
@[simp] theorem bO {X:Type} {x y:Option X}:vp true x y=x:=by unfold vp;rw [if_pos rfl]
@[simp] theorem bK {X:Type} {x y:Option X}:vp false x y=y:=by unfold vp;rw [if_neg (by simp)]
@[simp] theorem aP {A X:Type} {a:A} {f:A→Option X}:ic (some a) f=f a:=by
 have h:∃b,some a=some b:=⟨a,rfl⟩
 unfold ic;rw [dif_pos h]
 have:=h.choose_spec
 rw [←Option.some.inj this]
@[simp] theorem afl {A X:Type} {f:A→Option X}:ic none f=none:=by
 unfold ic;rw [dif_neg];rintro ⟨a,h⟩;cases h
theorem de {X:Type} {c:Bool} {x:Option X} {r:X} (h:need c x=some r):c=true∧x=some r:=by
 cases c<;>simp at h ⊢;exact h
theorem qu {A X:Type} {o:Option A} {f:A→Option X} {r:X} (h:ic o f=some r):∃a,o=some a∧f a=some r:=by
 cases o<;>simp at h ⊢;exact h
theorem pn {X A:Type} {o:Option A} {f:A→Option X} {r:X} (h:(jf X).bd o f=some r):∃a,o=some a∧f a=some r:=qu h
theorem iz {X:Type} {c:Bool} {x y:Option X} {r:X} (h:vp c x y=some r):(c=true∧x=some r)∨(c=false∧y=some r):=by
 cases c<;>simp at h ⊢<;>exact h
section
variable {R:Type}
def fV (v:V) (k:V→R):R:=match v with
 | .any=>k .any
 | .tf b=>match b with
  |true=>k (.tf true)
  |false=>k (.tf false)
 | .bool b=>k (.bool b)
 | .int ik n=>k (.int ik n)
 | .str s=>k (.str s)
 | .ez=>k .ez
 | .cE=>k .cE
 | .eW=>k .eW
 | .eH t xs=>k (.eH t xs)
 | .bW=>k .bW
 | .sl id t lo n=>k (.sl id t lo n)
 | .ptr id off=>k (.ptr id off)
 | .fc cs=>k (.fc cs)
 | .ep id t i p=>k (.ep id t i p)
 | .ip t x=>k (.ip t x)
 | .fn f a b=>k (.fn f a b)
 | .yl id=>k (.yl id)
 | .agg cs=>k (.agg cs)
 | .cG vs=>k (.cG vs)
 | .cq t v=>k (.cq t v)
 | .cb c=>k (.cb c)
 | .mp id=>k (.mp id)
 | .cB=>k .cB
 | .pa id t n=>k (.pa id t n)
 | .kQ t xs=>k (.kQ t xs)
 | .sp id o l=>k (.sp id o l)
theorem nD (v:V) (k:V→R):fV v k=k v:=by
 cases v<;>try rfl
 rename_i b;cases b<;>rfl
def fN (n:Nat) (k:Nat→R):R:=match n with
 |0=>k 0
 |n+1=>k (n+1)
theorem fK (n:Nat) (k:Nat→R):fN n k=k n:=by cases n<;>rfl
def uO (d:Option Nat) (v:V) (env:Env) (k:Env→R):R:=match d with
 |some t=>k ((t,v)::env)
 |none=>k env
theorem k8 (d:Option Nat) (v:V) (env:Env) (k:Env→R):uO d v env k=k (put d v env):=by cases d<;>rfl
def pY (id : Nat) : ai → (ai → R) → R
 |[],k=>k []
 |(s,b)::r,k=>match Nat.beq s id with
  |true=>pY id r k
  |false=>pY id r fun r'=>k ((s,b)::r')
theorem j9 (id : Nat) : ∀ (bl : ai) (k : ai → R), pY id bl k = k (bt id bl)
 |[],k=>rfl
 |(s,b)::r,k=>by
  simp only [pY,bt]
  split<;>rename_i h<;>simp only [h]<;>exact j9 id r _
def gQ : eA → ai → (ai → R) → R
 |[],bl,k=>k bl
 |(id,none)::r,bl,k=>pY id bl fun bl=>gQ r bl k
 |(id,some b)::r,bl,k=>pY id bl fun bl=>gQ r ((id,b)::bl) k
theorem fL : ∀ (u : eA) (bl : ai) (k : ai → R), gQ u bl k = k (bx u bl)
 |[],_,_=>rfl
 |(id,none)::r,bl,k=>by simp only [gQ,j9,bx];exact fL r _ k
 |(id,some b)::r,bl,k=>by simp only [gQ,j9,bx];exact fL r _ k
def rF (kz : Kz R) : List Bool → R → R
 |[],k=>k
 |b::r,k=>kz.nd b (rF kz r k)
structure Cx where
 pc:{R:Type}→Kz R→Nat→List V→(V→R)→R
 ca:{R:Type}→Kz R→Nat→List V→Nat→ai→(V→Nat→ai→R)→R
 rd:{R:Type}→Kz R→Nat→List V→Nat→ai→(V→Nat→ai→R)→R
 op:Nat:=0
structure Cx.Ok (P:Program) (cx:Cx):Prop where
 U4:∀{X:Type} {f:Nat} {vs:List V} {K:V→Option X} {r:X},cx.pc (jf X) f vs K=some r→∃v,gL P f vs v∧K v=some r
 Ri:∀{X:Type} {f:Nat} {vs:List V} {nx:Nat} {bl:ai} {K:V→Nat→ai→Option X} {r:X},cx.ca (jf X) f vs nx bl K=some r →
  ∀{Q:V→aF→Prop},(∀v nx bl,K v nx bl=some r→Q v ⟨nx,bl⟩)→gN P f vs ⟨nx,bl⟩ Q
 Xe:∀{X:Type} {id:Nat} {vs:List V} {nx:Nat} {bl:ai} {K:V→Nat→ai→Option X} {r:X},cx.rd (jf X) id vs nx bl K=some r →
  ∀{Q:V→aF→Prop},(∀v nx bl,K v nx bl=some r→Q v ⟨nx,bl⟩)→around P id vs ⟨nx,bl⟩ Q
def Cx.mE (cx:Cx) (n:Nat):Cx:={ cx with op:=n }
def BH (kz:Kz R) (g:Option (Nat×Bool)) (env:Env) (skip run:Env→R):R:=match g with
 |none=>run env
 |some (s,b)=>match get s env with
  | .tf c=>match c,b with
   |true,true=>run env
   |false,false=>run env
   |true,false=>skip env
   |false,true=>skip env
  | .bool c => kz.br c
   (match b with
    |true=>run ((s,.tf true)::env)
    |false=>skip ((s,.tf true)::env))
   (match b with
    |false=>run ((s,.tf false)::env)
    |true=>skip ((s,.tf false)::env))
  | .cG _=>skip env
  |_=>kz.no
def U5 (kz:Kz R) (op:Nat) (ar:Ar) (bl:ai) (k:ai→R):R:=match op with
 |0=>k bl
 |n+1=>match (match n with
   |0=>LJ bl
   |_+1=>A4 bl) with
  |[]=>k bl
  |ids=>match Lr ar ids bl with
   |some u=>gQ u bl k
   |none=>kz.no
def dmOp : Nat → Nat
 |0=>0
 |_+1=>1
def kI (kz : Kz R) (cx : Cx) (ar : Ar) : List eM → Env → Nat → ai → (Env → Nat → ai → R) → R
 |[],env,nx,bl,K=>K env nx bl
 | .op d g i::r,env,nx,bl,K=>BH kz g env (fun env=>uO d (.cG []) env fun env=>kI kz cx ar r env nx bl K) fun env =>
   match cx.op with
   |0=>(match UY ar i env bl nx with
    |some (ob,v,u)=>rF kz ob (fV v fun v=>uO d v env fun env=>match i.lays with
     |true=>fN (nx+1) fun nx=>gQ u bl fun bl=>kI kz cx ar r env nx bl K
     |false=>gQ u bl fun bl=>kI kz cx ar r env nx bl K)
    |none=>kz.no)
   |_+1=>match yW ar i env bl nx with
    |some (ob,v,u)=>rF kz ob (fV v fun v=>uO d v env fun env=>match i.lays with
     |true=>fN (nx+1) fun nx=>gQ u bl fun bl=>kI kz cx ar r env nx bl K
     |false=>gQ u bl fun bl=>kI kz cx ar r env nx bl K)
    |none=>match UY ar i env bl nx with
     |some (ob,v,u)=>rF kz ob (fV v fun v=>uO d v env fun env=>match i.lays with
      |true=>fN (nx+1) fun nx=>gQ u bl fun bl=>kI kz cx ar r env nx bl K
      |false=>gQ u bl fun bl=>kI kz cx ar r env nx bl K)
     |none=>U5 kz 1 ar bl fun bl=>match UY ar i env bl nx with
      |some (ob,v,u)=>rF kz ob (fV v fun v=>uO d v env fun env=>match i.lays with
       |true=>fN (nx+1) fun nx=>gQ u bl fun bl=>kI kz cx ar r env nx bl K
       |false=>gQ u bl fun bl=>kI kz cx ar r env nx bl K)
      |none=>kz.no
 | .call d g f a tys::r,env,nx,bl,K=>BH kz g env (fun env=>uO d (.cG []) env fun env=>kI kz cx ar r env nx bl K) fun env=>U5 kz (dmOp cx.op) ar bl fun bl =>
   match f.ev env with
   | .fn f fs cs=>cx.ca kz f (fs++cO tys (a.map (·.ev env))++cs) nx bl fun v nx bl=>fV v fun v=>uO d v env fun env=>kI kz cx ar r env nx bl K
   | .yl id=>cx.rd kz id (cO tys (a.map (·.ev env))) nx bl fun v nx bl=>fV v fun v=>uO d v env fun env=>kI kz cx ar r env nx bl K
   |_=>kz.no
def Aj (kz:Kz R) (gs:List Nat) (d:Option Nat) (v:V) (env:Env) (K:Env→R):R:=match d with
 |none=>K env
 |some t=>match Ba t gs with
  |false=>K ((t,v)::env)
  |true=>match v with
   | .bool c=>kz.br c (K ((t,.tf true)::env)) (K ((t,.tf false)::env))
   |v=>K ((t,v)::env)
def Qh (kz : Kz R) (cx : Cx) (ar : Ar) (gs : List Nat) (b : Nat) : List eM → Nat → Env → ai → List DR → (Env → ai → List DR → R) → R
 |[],_,env,bl,c7,K=>K env bl c7
 | .op d g i::r,k,env,bl,c7,K=>match HO g env with
  |some true=>match (match cx.op with
    |0=>none
    |_+1=>yW ar i env bl (b+k)) with
   |some (ob,v,u)=>rF kz ob (fV v fun v=>Aj kz gs d v env fun env'=>gQ u bl fun bl=>Qh kz cx ar gs b r (k+1) env' bl (vZ k (mJ i env) (u.map (·.1)) c7) K)
   |none=>match UY ar i env bl (b+k) with
    |some (ob,v,u)=>rF kz ob (fV v fun v=>Aj kz gs d v env fun env'=>gQ u bl fun bl=>Qh kz cx ar gs b r (k+1) env' bl (vZ k (mJ i env) (u.map (·.1)) c7) K)
    |none=>kz.no
  |some false=>uO d (.cG []) env fun env=>Qh kz cx ar gs b r (k+1) env bl c7 K
  |none=>kz.no
 | .call d g f a tys::r,k,env,bl,c7,K=>match HO g env with
  |some true=>match f.ev env with
   | .fn f fs cs=>match fs++cO tys (a.map (·.ev env))++cs with
    |vs=>match dg (fin ar bl 8) vs with
     |some vs'=>cx.pc kz f vs' fun x=>fV x fun x=>match C3 x||vs.all (dJ 8) with
      |true=>Aj kz gs d x env fun env'=>Qh kz cx ar gs b r (k+1) env' bl (vZ k (jt bl vs) [] c7) K
      |false=>match we (jt bl vs) bl with
       |some u=>Aj kz gs d x env fun env'=>gQ u bl fun bI=>Qh kz cx ar gs b r (k+1) env' bI (vZ k (jt bl vs) (u.map (·.1)) c7) K
       |none=>kz.no
     |none=>kz.no
   |_=>kz.no
  |some false=>uO d (.cG []) env fun env=>Qh kz cx ar gs b r (k+1) env bl c7 K
  |none=>kz.no
end
abbrev Kc (R:Type):=Ex→Env→Nat→ai→List Nat→R
structure bS (P:Program) (N:Nat) (out:Option Nat) (base:Nat):Type 1 where
 c:C
 run:{R:Type}→Kz R→Env→Nat→ai→List Nat→Kc R→R
 ok:∀{X:Type} {env:Env} {nx:Nat} {bl:ai} {ms:List Nat} {K:Kc (Option X)} {r:X},run (jf X) env nx bl ms K=some r →
  ∀{Q:Ex→St→Prop},(∀e env nx bl ms,K e env nx bl ms=some r→Q e ⟨env,⟨nx,bl⟩,ms⟩)→(gb P N out base).loop c ⟨env,⟨nx,bl⟩,ms⟩ Q
structure gm (P:Program) (N:Nat) (out:Option Nat) (base:Nat):Type 1 where
 f:O
 ps:List Nat
 a:C
 b:C
 run:{R:Type}→Kz R→Env→Nat→ai→List Nat→Kc R→R
 ok:∀{X:Type} {env:Env} {nx:Nat} {bl:ai} {ms:List Nat} {K:Kc (Option X)} {r:X},run (jf X) env nx bl ms K=some r →
  ∀{Q:Ex→St→Prop},(∀e env nx bl ms,K e env nx bl ms=some r→Q e ⟨env,⟨nx,bl⟩,ms⟩)→(gb P N out base).bD f ps a b ⟨env,⟨nx,bl⟩,ms⟩ Q
structure rG (P:Program) (N:Nat) (out:Option Nat) (base:Nat):Type 1 where
 pre:List eM
 m:O
 it:Nat
 cl:List Nat
 e:Option Nat
 kt:Ty
 kg:Bool
 vt:Ty
 vg:Bool
 pR:Nat
 b:C
 run:{R:Type}→Kz R→Env→Nat→ai→List Nat→Kc R→R
 ok:∀{X:Type} {env:Env} {nx:Nat} {bl:ai} {ms:List Nat} {K:Kc (Option X)} {r:X},run (jf X) env nx bl ms K=some r →
  ∀{Q:Ex→St→Prop},(∀e env nx bl ms,K e env nx bl ms=some r→Q e ⟨env,⟨nx,bl⟩,ms⟩)→(gb P N out base).gH (.gH pre m it cl e kt kg vt vg pR b) ⟨env,⟨nx,bl⟩,ms⟩ Q
structure Gp (P:Program) (N:Nat) (out:Option Nat) (base:Nat) (f:O) (ps:List Nat) (a b:C):Type 1 where
 run:{R:Type}→Kz R→Env→Nat→ai→List Nat→Kc R→R
 ok:∀{X:Type} {env:Env} {nx:Nat} {bl:ai} {ms:List Nat} {K:Kc (Option X)} {r:X},run (jf X) env nx bl ms K=some r →
  ∀{Q:Ex→St→Prop},(∀e env nx bl ms,K e env nx bl ms=some r→Q e ⟨env,⟨nx,bl⟩,ms⟩)→(gb P N out base).bD f ps a b ⟨env,⟨nx,bl⟩,ms⟩ Q
def Gp.s {P:Program} {N:Nat} {out:Option Nat} {base:Nat} {f:O} {ps:List Nat} {a b:C} (T:Gp P N out base f ps a b):gm P N out base:=⟨f,ps,a,b,T.run,T.ok⟩
inductive D (P:Program) (N:Nat) (out:Option Nat) (base:Nat):Type 1 where
 |skip
 |aS (items:List eM)
 |draw (cR:List (List Nat)) (items:List eM)
 |seq (a b:D P N out base)
 |cond (c:O) (a b:D P N out base)
 |block (id:Nat) (c:D P N out base)
 |loop (l:bS P N out base)
 |exit (id:Nat)
 |ret
 |bD (l:gm P N out base)
 |gH (l:rG P N out base)
section
variable {P:Program} {N:Nat} {out:Option Nat} {base:Nat} {R:Type}
def D.er : D P N out base → C
 | .skip=>.skip
 | .aS is=>.aS is
 | .draw ps is=>.draw ps is
 | .seq a b=>.seq a.er b.er
 | .cond c a b=>.cond c a.er b.er
 | .block id c=>.block id c.er
 | .loop l=>.loop l.c
 | .exit id=>.exit id
 | .ret=>.ret
 | .bD l=>.bD l.f l.ps l.a l.b
 | .gH l=>.gH l.pre l.m l.it l.cl l.e l.kt l.kg l.vt l.vg l.pR l.b
def Z7 (c:O) (b:Bool) (env:Env):Env:=match c with
 | .t n=>(n,.tf b)::env
 | .c _=>env
 | .m _ _=>env
def kE (kz : Kz R) (cx : Cx) (ar : Ar) : D P N out base → Env → Nat → ai → List Nat → Kc R → R
 | .skip,env,nx,bl,ms,K=>K .normal env nx bl ms
 | .aS is,env,nx,bl,ms,K=>kI kz cx ar is env nx bl fun env nx bl=>K .normal env nx bl ms
 | .draw ps is,env,nx,bl,ms,K=>Qh kz cx ar (wj is) nx is 0 env bl [] fun env bl c7=>match LS ps c7 with
  |true=>fN (nx+is.length) fun nx=>K .normal env nx bl ms
  |false=>kz.no
 | .seq a b,env,nx,bl,ms,K=>kE kz cx ar a env nx bl ms fun e env nx bl ms=>match e with
  | .normal=>kE kz cx ar b env nx bl ms K
  | .exit id=>K (.exit id) env nx bl ms
  | .ret=>K .ret env nx bl ms
 | .cond c a b,env,nx,bl,ms,K=>match c.ev env with
  | .tf true=>kE kz cx ar a env nx bl ms K
  | .tf false=>kE kz cx ar b env nx bl ms K
  | .bool x=>kz.br x (kE kz cx ar a (Z7 c true env) nx bl ms K) (kE kz cx ar b (Z7 c false env) nx bl ms K)
  | .cb x=>kz.br x (kz.am (kE kz cx ar a (Z7 c true env) nx bl ms K) (kE kz cx ar b (Z7 c false env) nx bl ms K)) (kE kz cx ar b (Z7 c false env) nx bl ms K)
  |_=>kz.no
 | .block id c,env,nx,bl,ms,K=>kE kz cx ar c env nx bl ms fun e env nx bl ms=>match e with
  | .normal=>K .normal env nx bl ms
  | .exit id'=>match Nat.beq id' id with
   |true=>K .normal env nx bl ms
   |false=>K (.exit id') env nx bl ms
  | .ret=>K .ret env nx bl ms
 | .loop l,env,nx,bl,ms,K=>U5 kz cx.op ar bl fun bl=>l.run kz env nx bl ms K
 | .exit id,env,nx,bl,ms,K=>K (.exit id) env nx bl ms
 | .ret,env,nx,bl,ms,K=>K .ret env nx bl ms
 | .bD l,env,nx,bl,ms,K=>U5 kz cx.op ar bl fun bl=>l.run kz env nx bl ms K
 | .gH l,env,nx,bl,ms,K=>U5 kz cx.op ar bl fun bl=>l.run kz env nx bl ms K
variable {X:Type} {cx:Cx}
theorem mW {ob:List Bool} {x:Option X} {r:X} (h:rF (jf X) ob x=some r):uJ ob∧x=some r:=by
 induction ob with
 |nil=>exact ⟨trivial,h⟩
 |cons b l ih =>
  obtain ⟨h1,h2⟩:=de h
  obtain ⟨h3,h4⟩:=ih h2
  cases l with
  |nil=>exact ⟨h1,h4⟩
  |cons c l=>exact ⟨⟨h1,h3⟩,h4⟩
theorem Ak {g : Option (Nat × Bool)} {env : Env} {nx : Nat} {bl : ai} {ms : List Nat} {skip run : Env → Option X} {r : X} (h : BH (jf X) g env skip run = some r) {d : Option Nat} {K run' : St → Prop}
  (hs:∀env,skip env=some r→K ⟨put d (.cG []) env,⟨nx,bl⟩,ms⟩) (hr:∀env,run env=some r→run' ⟨env,⟨nx,bl⟩,ms⟩):oV g d ⟨env,⟨nx,bl⟩,ms⟩ K run':=by
 unfold BH at h
 unfold oV
 split at h
 ·exact hr _ h
 ·rename_i s b
  simp only
  split at h
  ·rename_i c hc
   rw [hc]
   cases c<;>cases b<;>simp only at h ⊢
   ·exact hr _ h
   ·exact hs _ h
   ·exact hs _ h
   ·exact hr _ h
  ·rename_i c hc
   rw [hc]
   rcases iz h with ⟨e,h⟩|⟨e,h⟩
   ·refine ⟨fun _ => ?_, fun e' => by rw [e] at e'; cases e'⟩
    cases b<;>simp only at h ⊢
    ·exact hs _ h
    ·exact hr _ h
   ·refine ⟨fun e' => (by rw [e] at e'; cases e'), fun _ => ?_⟩
    cases b<;>simp only at h ⊢
    ·exact hr _ h
    ·exact hs _ h
  ·rename_i hc
   rw [hc]
   exact hs _ h
  ·cases h
theorem MW {op:Nat} {bl:ai} {k:ai→Option X} {r:X} (h:U5 (jf X) op ek bl k=some r):k bl=some r∨∃ids u,Lr (gb P N out base) ids bl=some u∧k (bx u bl)=some r:=by
 unfold U5 at h
 split at h
 ·exact .inl h
 ·split at h
  ·exact .inl h
  ·split at h <;> try (cases h; done)
   rename_i u hu
   rw [fL] at h
   exact .inr ⟨_,u,by unfold gb;rw [MD];exact hu,h⟩
theorem BI {op:Nat} {env:Env} {nx:Nat} {bl:ai} {ms:List Nat} {k:ai→Option X} {r:X} (h:U5 (jf X) op ek bl k=some r) {K:St→Prop} (hK:∀bl,k bl=some r→K ⟨env,⟨nx,bl⟩,ms⟩):LK (gb P N out base) ⟨env,⟨nx,bl⟩,ms⟩ K:=by
 rcases MW (P:=P) (N:=N) (out:=out) (base:=base) h with h|⟨ids,u,hu,h⟩
 ·exact .inl (hK _ h)
 ·exact .inr ⟨ids,u,hu,hK _ h⟩
theorem oz (gn:cx.Ok P):∀{is:List eM} {env:Env} {nx:Nat} {bl:ai} {ms:List Nat} {K:Env→Nat→ai→Option X} {r:X} {Q:St→Prop},kI (jf X) cx ek is env nx bl K=some r →
  (∀env nx bl,K env nx bl=some r→Q ⟨env,⟨nx,bl⟩,ms⟩)→fk (gb P N out base) is ⟨env,⟨nx,bl⟩,ms⟩ Q
 |[],env,nx,bl,ms,K,r,Q,h,hK=>hK _ _ _ h
 | .op d g i::is,env,nx,bl,ms,K,r,Q,h,hK=>by
  simp only [kI] at h
  simp only [fk]
  have body:∀{env:Env} {bl:ai} {ob:List Bool} {v:V} {u:eA},UY ek i env bl nx=some (ob,v,u) →
    rF (jf X) ob (fV v fun v=>uO d v env fun env=>match i.lays with
     |true=>fN (nx+1) fun nx=>gQ u bl fun bl=>kI (jf X) cx ek is env nx bl K
     |false=>gQ u bl fun bl=>kI (jf X) cx ek is env nx bl K)=some r →
    bX (gb P N out base) i env bl nx=some (ob,v,u)∧uJ ob∧fk (gb P N out base) is ⟨put d v env,⟨Ls i.lays nx,bx u bl⟩,ms⟩ Q:=by
   intro env bl ob v u ag h
   obtain ⟨cT,h⟩:=mW h
   rw [nD,k8] at h
   rw [MK] at ag
   refine ⟨by unfold gb;rw [MB];exact ag,cT,?_⟩
   split at h
   ·rename_i hl
    rw [fK,fL] at h
    simp only [hl,Ls]
    exact oz gn h hK
   ·rename_i hl
    rw [fL] at h
    simp only [hl,Ls]
    exact oz gn h hK
  refine Ak h (fun env h=>?_) (fun env h=>?_)
  ·rw [k8] at h;exact oz gn h hK
  ·split at h
   ·split at h
    ·rename_i ob v u ag
     obtain ⟨h1,h2,h3⟩:=body ag h
     exact BC h1 h2 h3
    ·cases h
   ·split at h
    ·rename_i ob v u ag
     obtain ⟨cT,h⟩:=mW h
     rw [nD,k8] at h
     refine WZ (by unfold gb;rw [MC];exact ag) cT ?_
     split at h
     ·rename_i hl
      rw [fK,fL] at h
      simp only [hl,Ls]
      exact oz gn h hK
     ·rename_i hl
      rw [fL] at h
      simp only [hl,Ls]
      exact oz gn h hK
    ·split at h
     ·rename_i ob v u ag
      obtain ⟨h1,h2,h3⟩:=body ag h
      exact BC h1 h2 h3
     ·rcases MW (P := P) (N := N) (out := out) (base := base) h with h | ⟨ids, u', hu, h⟩
      ·split at h
       ·rename_i ob v u ag
        obtain ⟨h1,h2,h3⟩:=body ag h
        exact BC h1 h2 h3
       ·cases h
      ·split at h
       ·rename_i ob v u ag
        obtain ⟨h1,h2,h3⟩:=body ag h
        exact W0 hu h1 h2 h3
       ·cases h
 | .call d g f a tys::is,env,nx,bl,ms,K,r,Q,h,hK=>by
  simp only [kI] at h
  simp only [fk]
  refine Ak h (fun env h=>?_) (fun env h=>?_)
  ·rw [k8] at h;exact oz gn h hK
  ·simp only [FH]
   refine BI h fun bl h=>?_
   simp only [vf]
   split at h
   ·rename_i f' fs cs hf
    rw [hf]
    refine gn.Ri h fun v nx bl h=>?_
    rw [nD,k8] at h
    exact oz gn h hK
   ·rename_i id hf
    rw [hf]
    refine gn.Xe h fun v nx bl h=>?_
    rw [nD,k8] at h
    exact oz gn h hK
   ·cases h
theorem rH {gs:List Nat} {d:Option Nat} {v:V} {env:Env} {K:Env→Option X} {r:X} (h:Aj (jf X) gs d v env K=some r) {K':Env→Prop} (hK:∀env,K env=some r→K' env):C4 gs d v env K':=by
 unfold Aj at h
 unfold C4
 cases d with
 |none=>exact hK _ h
 |some t =>
  simp only at h ⊢
  split at h
  ·rename_i hm;rw [hm];exact hK _ h
  ·rename_i hm
   rw [hm]
   simp only
   split at h
   ·rename_i c
    simp only
    rcases iz h with ⟨e,h⟩|⟨e,h⟩
    ·exact ⟨fun _=>hK _ h,fun e'=>by rw [e] at e';cases e'⟩
    ·exact ⟨fun e'=>(by rw [e] at e';cases e'),fun _=>hK _ h⟩
   ·rename_i hv
    have:=hK _ h
    cases v<;>first|exact this|exact (hv _ rfl).elim
theorem qv (gn:cx.Ok P) {gs:List Nat} {b:Nat}:∀{is:List eM} {k:Nat} {env:Env} {bl:ai} {c7:List DR} {K:Env→ai→List DR→Option X} {r:X} {Q:Env→ai→List DR→Prop},
  Qh (jf X) cx ek gs b is k env bl c7 K=some r→(∀env bl c7,K env bl c7=some r→Q env bl c7)→qW (gb P N out base) gs b is k env bl c7 Q
 |[],k,env,bl,c7,K,r,Q,h,hK=>hK _ _ _ h
 | .op d g i::is,k,env,bl,c7,K,r,Q,h,hK=>by
  simp only [Qh] at h
  simp only [qW]
  split at h
  ·rename_i hg
   rw [hg]
   split at h
   ·rename_i ob v u ag
    obtain ⟨cT,h⟩:=mW h
    rw [nD] at h
    have Xf:yW (gb P N out base) i env bl (b+k)=some (ob,v,u):=by
     unfold gb;rw [MC]
     split at ag
     ·cases ag
     ·exact ag
    refine .inr (zJ Xf cT (rH h fun env h=>?_))
    rw [fL] at h
    exact qv gn h hK
   ·split at h
    ·rename_i ob v u ag
     obtain ⟨cT,h⟩:=mW h
     rw [nD] at h
     rw [MK] at ag
     have Xf:bX (gb P N out base) i env bl (b+k)=some (ob,v,u):=by unfold gb;rw [MB];exact ag
     refine .inl (zJ Xf cT (rH h fun env h=>?_))
     rw [fL] at h
     exact qv gn h hK
    ·cases h
  ·rename_i hg
   rw [hg]
   rw [k8] at h
   exact qv gn h hK
  ·cases h
 | .call d g f a tys::is,k,env,bl,c7,K,r,Q,h,hK=>by
  simp only [Qh] at h
  simp only [qW]
  split at h
  ·rename_i hg
   rw [hg]
   split at h
   ·rename_i f' fs cs hf
    rw [hf]
    split at h
    ·rename_i vs' hm
     obtain ⟨v,hp,h⟩:=gn.U4 h
     rw [nD] at h
     have e:dg (fin (gb P N out base) bl 8)=dg (fin ek bl 8):=funext fun vs=>mT (fun v=>by unfold gb;exact wW) vs
     simp only [e,hm]
     split at h
     ·rename_i hsc
      exact ⟨v,[],hp,by rw [hsc];rfl,rH h fun env h=>qv gn h hK⟩
     ·rename_i hsc
      split at h
      ·rename_i u hu
       exact ⟨v,u,hp,by rw [hsc];exact hu,rH h fun env h=>qv gn (by rw [fL] at h;exact h) hK⟩
      ·cases h
    ·cases h
   ·cases h
  ·rename_i hg
   rw [hg]
   rw [k8] at h
   exact qv gn h hK
  ·cases h
theorem k9 (gn:cx.Ok P):∀{d:D P N out base} {env:Env} {nx:Nat} {bl:ai} {ms:List Nat} {K:Kc (Option X)} {r:X} {Q:Ex→St→Prop},kE (jf X) cx ek d env nx bl ms K=some r →
  (∀e env nx bl ms,K e env nx bl ms=some r→Q e ⟨env,⟨nx,bl⟩,ms⟩)→qX (gb P N out base) d.er ⟨env,⟨nx,bl⟩,ms⟩ Q:=by
 intro d
 induction d with
 |skip=>intro env nx bl ms K r Q h hK;exact hK _ _ _ _ _ h
 |aS is=>intro env nx bl ms K r Q h hK;exact oz gn h fun env nx bl h=>hK _ _ _ _ _ h
 |draw ps is =>
  intro env nx bl ms K r Q h hK
  refine qv gn h fun env bl c7 h=>?_
  split at h
  ·rename_i hd
   rw [fK] at h
   exact ⟨hd,hK _ _ _ _ _ h⟩
  ·cases h
 |seq a b Gq Fu =>
  intro env nx bl ms K r Q h hK
  refine Gq h fun e env nx bl ms h=>?_
  cases e with
  |normal=>exact Fu h hK
  |exit id=>exact hK _ _ _ _ _ h
  |ret=>exact hK _ _ _ _ _ h
 |cond c a b Gq Fu =>
  intro env nx bl ms K r Q h hK
  simp only [kE] at h
  simp only [D.er,qX]
  have hrw:∀x env,Qy c x ⟨env,⟨nx,bl⟩,ms⟩=⟨Z7 c x env,⟨nx,bl⟩,ms⟩:=fun x env=>by cases c<;>rfl
  split at h
  ·rename_i hc;rw [hc];exact Gq h hK
  ·rename_i hc;rw [hc];exact Fu h hK
  ·rename_i x hc
   rw [hc]
   rcases iz h with ⟨e,h⟩|⟨e,h⟩
   ·refine ⟨fun _ => ?_, fun e' => by rw [e] at e'; cases e'⟩
    rw [hrw];exact Gq h hK
   ·refine ⟨fun e' => (by rw [e] at e'; cases e'), fun _ => ?_⟩
    rw [hrw];exact Fu h hK
  ·rename_i x hc
   rw [hc]
   rcases iz h with ⟨e,h⟩|⟨e,h⟩
   ·obtain ⟨h1, h2⟩ := Ka h
    exact ⟨fun _=>by rw [hrw];exact Gq h1 hK,by rw [hrw];exact Fu h2 hK⟩
   ·exact ⟨fun e'=>(by rw [e] at e';cases e'),by rw [hrw];exact Fu h hK⟩
  ·cases h
 |block id c ih =>
  intro env nx bl ms K r Q h hK
  refine ih h fun e env nx bl ms h=>?_
  cases e with
  |normal=>exact hK _ _ _ _ _ h
  |exit id' =>
   simp only at h ⊢
   split at h
   ·rename_i e;rw [e];exact hK _ _ _ _ _ h
   ·rename_i e;rw [e];exact hK _ _ _ _ _ h
  |ret=>exact hK _ _ _ _ _ h
 |loop l=>intro env nx bl ms K r Q h hK;exact BI h fun bl h=>l.ok h hK
 |exit id=>intro env nx bl ms K r Q h hK;exact hK _ _ _ _ _ h
 |ret=>intro env nx bl ms K r Q h hK;exact hK _ _ _ _ _ h
 |bD l=>intro env nx bl ms K r Q h hK;exact BI h fun bl h=>l.ok h hK
 |gH l=>intro env nx bl ms K r Q h hK;exact BI h fun bl h=>l.ok h hK
end
end Go.AM
end
section
namespace Go.AM
inductive CP where
 |any
 |tf (b:Bool)
 |ez
 |cE
 |eW
 |bW
 |hole (t:Ty)
 |b7 (b:Nat) (t:Ty)
 |Qi (b:Nat) (t:Ty)
 |ptr (b off:Nat)
 |yl (b:Nat)
 |fc (t:Ty)
 |fn0 (f:Nat)
 |Kb (l:CP)
 |Ke (l:CP)
 |fn (f:Nat) (a b:CP)
 |Gr (t:Nat) (g:Bool) (l:CP)
 |mp (b:Nat)
 |cB
 |pa (b:Nat) (t:Ty) (n:Nat)
 |kQ (t:Ty)
 |nil
 |cons (c l:CP)
inductive SP where
 |c (c:CP)
 |agg (cs:List CP)
 |cG (cs:List CP)
 |fn (f:Nat) (a b:List CP)
 |alt (a b:List CP)
def CP.T : CP → Type → Type
 | .hole t,A=>t.den×A
 | .b7 _ _,A=>Nat×A
 | .Qi _ _,A=>Nat×Nat×A
 | .fc t,A=>t.den×A
 | .kQ t,A=>List t.den×A
 | .Gr _ _ l,A=>l.T A
 | .mp _,A=>A
 | .cB,A=>A
 | .pa _ _ _,A=>A
 | .Kb l,A=>l.T A
 | .Ke l,A=>l.T A
 | .fn _ a b,A=>a.T (b.T A)
 | .cons c l,A=>c.T (l.T A)
 | .any,A=>A
 | .tf _,A=>A
 | .ez,A=>A
 | .cE,A=>A
 | .eW,A=>A
 | .bW,A=>A
 | .ptr _ _,A=>A
 | .yl _,A=>A
 | .fn0 _,A=>A
 | .nil,A=>A
def tyV : (t : Ty) → t.den → V
 | .unit,_=>.agg []
 | .bool,b=>.bool b
 | .str,s=>.str s
 | .int k,n=>.int k n
 | .list t,xs=>.eH t xs
 | .prod a b,x=>.agg (cw (.prod a b) x)
 | .cq d g t,x=>.cq d (cw.iP g (cw t x))
def CP.r : (c : CP) → {A : Type} → c.T A → A
 | .any,_,x=>x
 | .tf _,_,x=>x
 | .ez,_,x=>x
 | .cE,_,x=>x
 | .eW,_,x=>x
 | .bW,_,x=>x
 | .hole _,_,x=>x.2
 | .b7 _ _,_,x=>x.2
 | .Qi _ _,_,x=>x.2.2
 | .ptr _ _,_,x=>x
 | .yl _,_,x=>x
 | .fc _,_,x=>x.2
 | .kQ _,_,x=>x.2
 | .Gr _ _ l,_,x=>l.r x
 | .mp _,_,x=>x
 | .cB,_,x=>x
 | .pa _ _ _,_,x=>x
 | .fn0 _,_,x=>x
 | .Kb l,_,x=>l.r x
 | .Ke l,_,x=>l.r x
 | .fn _ a b,_,x=>b.r (a.r x)
 | .nil,_,x=>x
 | .cons c l,_,x=>l.r (c.r x)
def CP.vs : (c : CP) → {A : Type} → c.T A → List V
 | .any,_,_=>[.any]
 | .tf b,_,_=>[.tf b]
 | .ez,_,_=>[.ez]
 | .cE,_,_=>[.cE]
 | .eW,_,_=>[.eW]
 | .bW,_,_=>[.bW]
 | .hole t,_,x=>[tyV t x.1]
 | .b7 b t,_,x=>[.sl b t 0 x.1]
 | .Qi b t,_,x=>[.sl b t x.1 x.2.1]
 | .ptr b off,_,_=>[.ptr b off]
 | .yl b,_,_=>[.yl b]
 | .fc t,_,x=>[.fc (cw t x.1)]
 | .fn0 f,_,_=>[.fn f [] []]
 | .Kb l,_,x=>[.fc (l.vs x)]
 | .Ke l,_,x=>[.agg (l.vs x)]
 | .Gr t g l,_,x=>[.cq t (cw.iP g (l.vs x))]
 | .mp b,_,_=>[.mp b]
 | .cB,_,_=>[.cB]
 | .pa b t n,_,_=>[.pa b t n]
 | .kQ t,_,x=>[.kQ t x.1]
 | .fn f a b,_,x=>[.fn f (a.vs x) (b.vs (a.r x))]
 | .nil,_,_=>[]
 | .cons c l,_,x=>c.vs x++l.vs (c.r x)
def MO : List V → V
 |v::_=>v
 |[]=>.any
def CP.v {A:Type} (c:CP) (x:c.T A):V:=MO (c.vs x)
def l6 : List CP → Type → Type
 |[],A=>A
 |c::r,A=>c.T (l6 r A)
def qw {A : Type} : (cs : List CP) → l6 cs A → List V
 |[],_=>[]
 |c::r,x=>c.v x::qw r (c.r x)
def rI {A : Type} : (cs : List CP) → l6 cs A → A
 |[],x=>x
 |c::r,x=>rI r (c.r x)
def SP.T : SP → Type → Type
 | .c q,A=>q.T A
 | .agg cs,A=>l6 cs A
 | .cG cs,A=>l6 cs A
 | .fn _ a b,A=>l6 a (l6 b A)
 | .alt a b,A=>l6 a A ⊕ l6 b A
def SP.v {A : Type} : (p : SP) → p.T A → V
 | .c q,x=>q.v x
 | .agg cs,x=>.agg (qw cs x)
 | .cG cs,x=>.cG (qw cs x)
 | .fn f a b,x=>.fn f (qw a x) (qw b (rI a x))
 | .alt a b,x=>match x with
  | .inl y=>.cG (qw a y)
  | .inr y=>.cG (qw b y)
def SP.r {A : Type} : (p : SP) → p.T A → A
 | .c q,x=>q.r x
 | .agg cs,x=>rI cs x
 | .cG cs,x=>rI cs x
 | .fn _ a b,x=>rI b (rI a x)
 | .alt a b,x=>match x with
  | .inl y=>rI a y
  | .inr y=>rI b y
def zm : List (Nat × SP) → Type → Type
 |[],A=>A
 |(_,p)::r,A=>p.T (zm r A)
def xg {A : Type} : (ps : List (Nat × SP)) → zm ps A → Env
 |[],_=>[]
 |(s,p)::r,x=>(s,p.v x)::xg r (p.r x)
def MX {A : Type} : (ps : List (Nat × SP)) → zm ps A → A
 |[],x=>x
 |(_,p)::r,x=>MX r (p.r x)
inductive BP where
 |arr (t:Ty) (fz:Bool)
 |cells (cs:List CP) (fz:Bool)
 |loop (st:qh) (j:Option Ex) (d:Nat) (env:List (Nat×SP)) (ps:List Nat) (as bd:C) (N:Nat)
 |gX
 |map (kt:Ty) (kg:Bool) (vt:Ty) (vg:Bool)
 |mE (t:Ty) (i:Nat) (p:List Bool) (c:CP)
def BP.T : BP → Type → Type
 | .arr t _,A=>List t.den×A
 | .cells cs _,A=>l6 cs A
 | .loop _ _ _ env _ _ _ _,A=>zm env A
 | .gX,A=>A
 | .map kt _ vt _,A=>List (kt.den×vt.den)×A
 | .mE t _ _ c,A=>List t.den×c.T A
def BP.v {A : Type} : (p : BP) → p.T A → kP
 | .arr t fz,x=>.arr t x.1 fz
 | .cells cs fz,x=>.cells (qw cs x) fz
 | .loop st j d env ps as bd N,x=>.loop st j d (xg env x) ps as bd N
 | .gX,_=>.gX
 | .map kt kg vt vg,x=>.map kt kg vt vg x.1
 | .mE t i p c,x=>.mE t x.1 i p (c.v x.2)
def BP.r {A : Type} : (p : BP) → p.T A → A
 | .arr _ _,x=>x.2
 | .cells cs _,x=>rI cs x
 | .loop _ _ _ env _ _ _ _,x=>MX env x
 | .gX,x=>x
 | .map _ _ _ _,x=>x.2
 | .mE _ _ _ c,x=>c.r x.2
def Rj : List (Nat × BP) → Type → Type
 |[],A=>A
 |(_,p)::r,A=>p.T (Rj r A)
def Qj {A : Type} : (ps : List (Nat × BP)) → Rj ps A → ai
 |[],_=>[]
 |(s,p)::r,x=>(s,p.v x)::Qj r (p.r x)
inductive Lc where
 |slot (s:Nat)
 |part (s k:Nat)
 |cell (b k:Nat)
 |old (i:Nat)
 |mark (j:Nat)
structure az where
 env:List (Nat×SP)
 bl:List (Nat×BP)
 gI:List Lc
 ms:List Nat
def az.T (p:az):Type:=zm p.env (Rj p.bl Unit)
def az.E (p:az) (x:p.T):Env:=xg p.env x
def az.B (p:az) (x:p.T):ai:=Qj p.bl (MX p.env x)
def az.st (base:Nat) (p:az) (x:p.T):St:=⟨p.E x,⟨base+p.gI.length,p.B x⟩,p.ms⟩
def uP : List Nat → Nat → Option Nat
 |[],_=>none
 |i::_,0=>some i
 |_::r,n+1=>uP r n
def lK : Bool → Bool → Bool
 |true,true=>true
 |false,false=>true
 |_,_=>false
def l7 : (t t' : Ty) → Bool
 | .unit,.unit=>true
 | .bool,.bool=>true
 | .str,.str=>true
 | .int k,.int k'=>decide (k=k')
 | .list t,.list t'=>l7 t t'
 | .prod a b,.prod a' b'=>match l7 a a' with
  |true=>l7 b b'
  |false=>false
 | .cq d g a,.cq d' g' a'=>match Nat.beq d d' with
  |true=>match lK g g' with
   |true=>l7 a a'
   |false=>false
  |false=>false
 |_,_=>false
def zn (π:List Nat) (b i:Nat):Bool:=match uP π b with
 |some j=>Nat.beq j i
 |none=>false
def BJ : (t : Ty) → V → Option t.den
 | .bool,.bool b=>some b
 | .bool,.tf b=>some b
 | .str,.str s=>some s
 | .int k,.int k' n=>match decide (k=k') with
  |true=>some n
  |false=>none
 | .list t,.eH t' xs=>jR t' t xs
 | .list _,.bW=>some []
 | .prod a b,.agg cs=>match bq ek [] (.prod a b) cs with
  |some (x,_,[])=>some x
  |_=>none
 | .cq d g a,v=>match bq ek [] (.cq d g a) [v] with
  |some (x,_,[])=>some x
  |_=>none
 |_,_=>none
def CP.rd1 {A:Type} (π:List Nat) (c:CP) (v:V):Option (A→c.T A) :=
 match c with
 | .any=>some fun a=>a
 | .tf b=>match v with
  | .tf b'=>match lK b b' with
   |true=>some fun a=>a
   |false=>none
  |_=>none
 | .ez=>match v with
  | .ez=>some fun a=>a
  |_=>none
 | .cE=>match v with
  | .cE=>some fun a=>a
  |_=>none
 | .eW=>match v with
  | .eW=>some fun a=>a
  |_=>none
 | .bW=>match v with
  | .bW=>some fun a=>a
  |_=>none
 | .hole t=>match BJ t v with
  |some x=>some fun a=>(x,a)
  |none=>none
 | .b7 b t=>match v with
  | .sl i t' lo n=>match zn π b i with
   |true=>match l7 t' t with
    |true=>match Nat.beq lo 0 with
     |true=>some fun a=>(n,a)
     |false=>none
    |false=>none
   |false=>none
  | .bW=>some fun a=>((0:Nat),a)
  |_=>none
 | .Qi b t=>match v with
  | .sl i t' lo n=>match zn π b i with
   |true=>match l7 t' t with
    |true=>some fun a=>(lo,n,a)
    |false=>none
   |false=>none
  | .bW=>some fun a=>((0:Nat),(0:Nat),a)
  |_=>none
 | .ptr b off=>match v with
  | .ptr i o=>match zn π b i with
   |true=>match Nat.beq o off with
    |true=>some fun a=>a
    |false=>none
   |false=>none
  |_=>none
 | .yl b=>match v with
  | .yl i=>match zn π b i with
   |true=>some fun a=>a
   |false=>none
  |_=>none
 | .fc t=>match v with
  | .fc cs=>match bq ek [] t cs with
   |some (x,_,[])=>some fun a=>(x,a)
   |_=>none
  |_=>none
 | .mp b=>match v with
  | .mp i=>match zn π b i with
   |true=>some fun a=>a
   |false=>none
  |_=>none
 | .cB=>match v with
  | .cB=>some fun a=>a
  |_=>none
 | .pa b t n=>match v with
  | .pa i t' n'=>match zn π b i with
   |true=>match l7 t' t with
    |true=>match Nat.beq n' n with
     |true=>some fun a=>a
     |false=>none
    |false=>none
   |false=>none
  |_=>none
 | .kQ t=>match v with
  | .kQ t' xs=>match jR t' t xs with
   |some ys=>some fun a=>(ys,a)
   |none=>none
  |_=>none
 | .fn0 f=>match v with
  | .fn f' [] []=>match Nat.beq f' f with
   |true=>some fun a=>a
   |false=>none
  |_=>none
 |_=>none
def CP.Fv (π : List Nat) : (c : CP) → {A : Type} → List V → Option ((A → c.T A) × List V)
 | .nil,_,vs=>some (fun a=>a,vs)
 | .cons c l,A,vs=>match c.Fv π (A:=l.T A) vs with
  |some (f,vs')=>match l.Fv π (A:=A) vs' with
   |some (g,vs'')=>some (fun a=>f (g a),vs'')
   |none=>none
  |none=>none
 | .Kb l,A,vs=>match vs with
  | .fc cs::r=>match l.Fv π (A:=A) cs with
   |some (f,[])=>some (f,r)
   |_=>none
  |_=>none
 | .Ke l,A,vs=>match vs with
  | .agg cs::r=>match l.Fv π (A:=A) cs with
   |some (f,[])=>some (f,r)
   |_=>none
  |_=>none
 | .Gr t g l,A,vs=>match vs with
  | .cq t' v::r=>match Nat.beq t' t with
   |true=>match A2 g v with
    |some cs=>match l.Fv π (A:=A) cs with
     |some (f,[])=>some (f,r)
     |_=>none
    |none=>none
   |false=>none
  |_=>none
 | .fn f a b,A,vs=>match vs with
  | .fn f' va vb::r=>match Nat.beq f' f with
   |true=>match a.Fv π (A:=b.T A) va with
    |some (g,[])=>match b.Fv π (A:=A) vb with
     |some (h,[])=>some (fun x=>g (h x),r)
     |_=>none
    |_=>none
   |false=>none
  |_=>none
 |c,_,vs=>match vs with
  |v::r=>match c.rd1 π v with
   |some f=>some (f,r)
   |none=>none
  |[]=>none
def CP.rd {A:Type} (π:List Nat) (c:CP) (v:V):Option (A→c.T A):=match c.Fv π (A:=A) [v] with
 |some (f,[])=>some f
 |_=>none
def ff {A : Type} (π : List Nat) : (cs : List CP) → List V → Option (A → l6 cs A)
 |[],[]=>some fun a=>a
 |c::r,v::vs=>match CP.rd (A:=l6 r A) π c v with
  |some f=>match ff (A:=A) π r vs with
   |some g=>some fun a=>f (g a)
   |none=>none
  |none=>none
 |_,_=>none
def SP.rd {A:Type} (π:List Nat) (p:SP) (v:V):Option (A→p.T A) :=
 match p with
 | .c q=>q.rd π v
 | .agg cs=>match v with
  | .agg vs=>ff π cs vs
  |_=>none
 | .cG cs=>match v with
  | .cG vs=>ff π cs vs
  |_=>none
 | .fn f a b=>match v with
  | .fn f' va vb=>match Nat.beq f' f with
   |true=>match ff (A:=l6 b A) π a va with
    |some g=>match ff (A:=A) π b vb with
     |some h=>some fun x=>g (h x)
     |none=>none
    |none=>none
   |false=>none
  |_=>none
 | .alt a b=>match v with
  | .cG vs=>match ff (A:=A) π a vs with
   |some f=>some fun x=>.inl (f x)
   |none=>match ff (A:=A) π b vs with
    |some f=>some fun x=>.inr (f x)
    |none=>none
  |_=>none
def SP.kv {R : Type} (kz : Kz R) : (p : SP) → p.T Unit → (V → R) → R
 | .alt a b,y,K=>kz.sm (A:=l6 a Unit) (B:=l6 b Unit) y (fun x=>K (.cG (qw a x))) (fun x=>K (.cG (qw b x)))
 | .c q,y,K=>K (SP.v (.c q) y)
 | .agg cs,y,K=>K (SP.v (.agg cs) y)
 | .cG cs,y,K=>K (SP.v (.cG cs) y)
 | .fn f a b,y,K=>K (SP.v (.fn f a b) y)
theorem SP.abd {X : Type} : ∀ (p : SP) (y : p.T Unit) (K : V → Option X), p.kv (jf X) y K = K (p.v y)
 | .alt _ _,.inl _,_=>rfl
 | .alt _ _,.inr _,_=>rfl
 | .c _,_,_=>rfl
 | .agg _,_,_=>rfl
 | .cG _,_,_=>rfl
 | .fn _ _ _,_,_=>rfl
def Al {A : Type} (π : List Nat) (env : Env) : (ps : List (Nat × SP)) → Option (A → zm ps A)
 |[]=>some fun a=>a
 |(s,p)::r=>match SP.rd (A:=zm r A) π p (get s env) with
  |some f=>match Al (A:=A) π env r with
   |some g=>some fun a=>f (g a)
   |none=>none
  |none=>none
mutual
def Rk : V → V → Bool
 | .any,.any=>true
 | .tf a,.tf b=>lK a b
 | .bool a,.bool b=>lK a b
 | .int k n,.int k' m=>match decide (k=k') with
  |true=>decide (n=m)
  |false=>false
 | .ez,.ez=>true
 | .cE,.cE=>true
 | .eW,.eW=>true
 | .cB,.cB=>true
 | .bW,.bW=>true
 | .str s,.str s'=>decide (s=s')
 | .fn f a b,.fn f' a' b'=>match Nat.beq f f' with
  |true=>match pZ a a' with
   |true=>pZ b b'
   |false=>false
  |false=>false
 | .agg a,.agg b=>pZ a b
 |_,_=>false
def pZ : List V → List V → Bool
 |[],[]=>true
 |a::r,b::s=>match Rk a b with
  |true=>pZ r s
  |false=>false
 |_,_=>false
end
mutual
theorem Ip : ∀ {a b : V}, Rk a b = true → a = b
 |a,b,h=>by
  cases a<;>cases b<;>simp only [Rk,Bool.false_eq_true] at h<;>try rfl
  case tf.tf x y=>cases x<;>cases y<;>simp_all [lK]
  case bool.bool x y=>cases x<;>cases y<;>simp_all [lK]
  case int.int=>split at h<;>simp_all
  case str.str=>simp_all
  case fn.fn =>
   split at h<;>try (cases h;done)
   rename_i h1
   split at h<;>try (cases h;done)
   rename_i h2
   rw [Nat.eq_of_beq_eq_true h1,l8 h2,l8 h]
  case agg.agg=>rw [l8 h]
theorem l8 : ∀ {a b : List V}, pZ a b = true → a = b
 |[],[],_=>rfl
 |a::r,b::s,h=>by
  simp only [pZ] at h
  split at h<;>try (cases h;done)
  rename_i h1
  rw [Ip h1,l8 h]
 |[],_::_,h=>by simp [pZ] at h
 |_::_,[],h=>by simp [pZ] at h
end
end Go.AM
end
section
namespace Go.AM
def an (a b:Bool):Bool:=match a with
 |true=>b
 |false=>false
theorem aO {a b:Bool}:an a b=true↔a=true∧b=true:=by cases a<;>simp [an]
theorem ee {a b:Bool} (h:lK a b=true):a=b:=by cases a<;>cases b<;>simp_all [lK]
theorem lg:∀{t t':Ty},l7 t t'=true→t=t':=by
 intro t
 induction t with
 |unit=>intro t' h;cases t'<;>simp [l7] at h ⊢
 |bool=>intro t' h;cases t'<;>simp [l7] at h ⊢
 |str=>intro t' h;cases t'<;>simp [l7] at h ⊢
 |int k=>intro t' h;cases t'<;>simp [l7] at h ⊢;exact h
 |list t ih=>intro t' h;cases t'<;>simp [l7] at h ⊢;exact ih h
 |prod a b Gq Fu =>
  intro t' h
  cases t'<;>simp only [l7,Bool.false_eq_true] at h
  split at h<;>try (cases h;done)
  rename_i h1
  rw [Gq h1,Fu h]
 |cq d g a ih =>
  intro t' h
  cases t'<;>simp only [l7,Bool.false_eq_true] at h
  split at h<;>try (cases h;done)
  rename_i h1
  split at h<;>try (cases h;done)
  rename_i h2
  rw [Nat.eq_of_beq_eq_true h1,ee h2,ih h]
def MY (a b:IntKind):Bool:=decide (a=b)
theorem MZ {a b:IntKind} (h:MY a b=true):a=b:=by simpa [MY] using h
def M0 (a b:yT):Bool:=decide (a=b)
theorem M1 {a b:yT} (h:M0 a b=true):a=b:=by simpa [M0] using h
def M3 : Kd → Kd → Bool
 | .b,.b=>true
 | .i,.i=>true
 | .s,.s=>true
 |_,_=>false
theorem M4 {x y:Kd} (h:M3 x y=true):x=y:=by cases x<;>cases y<;>simp_all [M3]
def kf {α : Type} (f : α → α → Bool) : List α → List α → Bool
 |[],[]=>true
 |a::r,b::s=>match f a b with
  |true=>kf f r s
  |false=>false
 |_,_=>false
theorem eV {α : Type} {f : α → α → Bool} (hf : ∀ {a b}, f a b = true → a = b) : ∀ {a b : List α}, kf f a b = true → a = b
 |[],[],_=>rfl
 |a::r,b::s,h=>by
  simp only [kf] at h
  split at h<;>try (cases h;done)
  rename_i h1
  rw [hf h1,eV hf h]
 |[],_::_,h=>by simp [kf] at h
 |_::_,[],h=>by simp [kf] at h
def U6:=kf M3
theorem M5 {a b:List Kd} (h:U6 a b=true):a=b:=eV M4 h
def M6:=kf lK
theorem DL {a b:List Bool} (h:M6 a b=true):a=b:=eV ee h
def DM:=kf Nat.beq
theorem rJ {a b:List Nat} (h:DM a b=true):a=b:=eV Nat.eq_of_beq_eq_true h
def M7:=kf DM
theorem Kf {a b:List (List Nat)} (h:M7 a b=true):a=b:=eV rJ h
def dM : O → O → Bool
 | .t n,.t m=>Nat.beq n m
 | .c v,.c u=>Rk v u
 | .m n l,.m m k=>an (Nat.beq n m) (decide (l=k))
 |_,_=>false
theorem aV {a b:O} (h:dM a b=true):a=b:=by
 cases a<;>cases b<;>simp only [dM,Bool.false_eq_true] at h
 ·rw [Nat.eq_of_beq_eq_true h]
 ·rw [Ip h]
 ·rw [aO] at h;rw [Nat.eq_of_beq_eq_true h.1,of_decide_eq_true h.2]
def xk:=kf dM
theorem l9 {a b:List O} (h:xk a b=true):a=b:=eV aV h
def DN : Option O → Option O → Bool
 |none,none=>true
 |some a,some b=>dM a b
 |_,_=>false
theorem xq {a b:Option O} (h:DN a b=true):a=b:=by
 cases a<;>cases b<;>simp only [DN,Bool.false_eq_true] at h
 ·rfl
 ·rw [aV h]
def Xg : Nat × Nat × O → Nat × Nat × O → Bool
 |(a,b,x),(a',b',x')=>an (Nat.beq a a') (an (Nat.beq b b') (dM x x'))
theorem Rl {p q:Nat×Nat×O} (h:Xg p q=true):p=q:=by
 obtain ⟨a,b,c⟩:=p
 obtain ⟨a',b',c'⟩:=q
 simp only [Xg,aO] at h
 rw [Nat.eq_of_beq_eq_true h.1,Nat.eq_of_beq_eq_true h.2.1,aV h.2.2]
def U7:=kf Xg
theorem M8 {a b:List (Nat×Nat×O)} (h:U7 a b=true):a=b:=eV Rl h
def gp : I → I → Bool
 | .mv x0,.mv y0=>dM x0 y0
 | .pick x0 x1 x2,.pick y0 y1 y2=>an (dM x0 y0) (an (dM x1 y1) (dM x2 y2))
 | .alloc x0,.alloc y0=>pZ x0 y0
 | .box x0,.box y0=>dM x0 y0
 | .build x0 x1,.build y0 y1=>an (pZ x0 y0) (U7 x1 y1)
 | .dR x0 x1,.dR y0 y1=>an (l7 x0 y0) (xk x1 y1)
 | .load x0 x1 x2,.load y0 y1 y2=>an (lK x0 y0) (an (Nat.beq x1 y1) (dM x2 y2))
 | .store x0 x1 x2,.store y0 y1 y2=>an (Nat.beq x0 y0) (an (dM x1 y1) (dM x2 y2))
 | .bin x0 x1 x2,.bin y0 y1 y2=>an (M0 x0 y0) (an (dM x1 y1) (dM x2 y2))
 | .Qq x0 x1 x2,.Qq y0 y1 y2=>an (lK x0 y0) (an (dM x1 y1) (dM x2 y2))
 | .eqs x0 x1 x2 x3,.eqs y0 y1 y2 y3=>an (lK x0 y0) (an (U6 x1 y1) (an (dM x2 y2) (dM x3 y3)))
 | .neg x0,.neg y0=>dM x0 y0
 | .not x0,.not y0=>dM x0 y0
 | .conv x0 x1,.conv y0 y1=>an (MY x0 y0) (dM x1 y1)
 | .mG x0 x1 x2,.mG y0 y1 y2=>an (Nat.beq x0 y0) (an (M6 x1 y1) (dM x2 y2))
 | .field x0 x1 x2 x3,.field y0 y1 y2 y3=>an (lK x0 y0) (an (Nat.beq x1 y1) (an (Nat.beq x2 y2) (dM x3 y3)))
 | .idx x0 x1 x2,.idx y0 y1 y2=>an (Nat.beq x0 y0) (an (dM x1 y1) (dM x2 y2))
 | .yU x0 x1 x2 x3,.yU y0 y1 y2 y3=>an (Nat.beq x0 y0) (an (Nat.beq x1 y1) (an (dM x2 y2) (dM x3 y3)))
 | .ext x0 x1,.ext y0 y1=>an (Nat.beq x0 y0) (dM x1 y1)
 | .len x0,.len y0=>dM x0 y0
 | .lens x0,.lens y0=>dM x0 y0
 | .yV x0,.yV y0=>Nat.beq x0 y0
 | .append x0 x1 x2,.append y0 y1 y2=>an (Nat.beq x0 y0) (an (dM x1 y1) (dM x2 y2))
 | .iJ x0 x1,.iJ y0 y1=>an (l7 x0 y0) (dM x1 y1)
 | .AY x0 x1 x2,.AY y0 y1 y2=>an (Nat.beq x0 y0) (an (xk x1 y1) (xk x2 y2))
 | .slice x0 x1 x2 x3 x4,.slice y0 y1 y2 y3 y4=>an (Nat.beq x0 y0) (an (dM x1 y1) (an (DN x2 y2) (an (DN x3 y3) (DN x4 y4))))
 | .lE x0 x1 x2,.lE y0 y1 y2=>an (lK x0 y0) (an (dM x1 y1) (xk x2 y2))
 | .ex x0 x1,.ex y0 y1=>an (decide (x0=y0)) (xk x1 y1)
 |_,_=>false
theorem Rm {a b:I} (h:gp a b=true):a=b:=by
 cases a<;>cases b<;>first|(simp only [gp,Bool.false_eq_true] at h;done)|skip
 case mv.mv=>simp only [gp,aO] at h;rw [aV h]
 case pick.pick=>simp only [gp,aO] at h;rw [aV h.1,aV h.2.1,aV h.2.2]
 case alloc.alloc=>simp only [gp,aO] at h;rw [l8 h]
 case box.box=>simp only [gp,aO] at h;rw [aV h]
 case build.build=>simp only [gp,aO] at h;rw [l8 h.1,M8 h.2]
 case dR.dR=>simp only [gp,aO] at h;rw [lg h.1,l9 h.2]
 case load.load=>simp only [gp,aO] at h;rw [ee h.1,Nat.eq_of_beq_eq_true h.2.1,aV h.2.2]
 case store.store=>simp only [gp,aO] at h;rw [Nat.eq_of_beq_eq_true h.1,aV h.2.1,aV h.2.2]
 case bin.bin=>simp only [gp,aO] at h;rw [M1 h.1,aV h.2.1,aV h.2.2]
 case Qq.Qq=>simp only [gp,aO] at h;rw [ee h.1,aV h.2.1,aV h.2.2]
 case eqs.eqs=>simp only [gp,aO] at h;rw [ee h.1,M5 h.2.1,aV h.2.2.1,aV h.2.2.2]
 case neg.neg=>simp only [gp,aO] at h;rw [aV h]
 case not.not=>simp only [gp,aO] at h;rw [aV h]
 case conv.conv=>simp only [gp,aO] at h;rw [MZ h.1,aV h.2]
 case mG.mG=>simp only [gp,aO] at h;rw [Nat.eq_of_beq_eq_true h.1,DL h.2.1,aV h.2.2]
 case field.field=>simp only [gp,aO] at h;rw [ee h.1,Nat.eq_of_beq_eq_true h.2.1,Nat.eq_of_beq_eq_true h.2.2.1,aV h.2.2.2]
 case idx.idx=>simp only [gp,aO] at h;rw [Nat.eq_of_beq_eq_true h.1,aV h.2.1,aV h.2.2]
 case yU.yU=>simp only [gp,aO] at h;rw [Nat.eq_of_beq_eq_true h.1,Nat.eq_of_beq_eq_true h.2.1,aV h.2.2.1,aV h.2.2.2]
 case ext.ext=>simp only [gp,aO] at h;rw [Nat.eq_of_beq_eq_true h.1,aV h.2]
 case len.len=>simp only [gp,aO] at h;rw [aV h]
 case lens.lens=>simp only [gp,aO] at h;rw [aV h]
 case yV.yV=>simp only [gp,aO] at h;rw [Nat.eq_of_beq_eq_true h]
 case append.append=>simp only [gp,aO] at h;rw [Nat.eq_of_beq_eq_true h.1,aV h.2.1,aV h.2.2]
 case iJ.iJ=>simp only [gp,aO] at h;rw [lg h.1,aV h.2]
 case AY.AY=>simp only [gp,aO] at h;rw [Nat.eq_of_beq_eq_true h.1,l9 h.2.1,l9 h.2.2]
 case slice.slice=>simp only [gp,aO] at h;rw [Nat.eq_of_beq_eq_true h.1,aV h.2.1,xq h.2.2.1,xq h.2.2.2.1,xq h.2.2.2.2]
 case lE.lE=>simp only [gp,aO] at h;rw [ee h.1,aV h.2.1,l9 h.2.2]
 case ex.ex=>simp only [gp,aO] at h;rw [of_decide_eq_true h.1,l9 h.2]
def Ro : Option (Nat × Bool) → Option (Nat × Bool) → Bool
 |none,none=>true
 |some (s,b),some (s',b')=>an (Nat.beq s s') (lK b b')
 |_,_=>false
theorem Iq {p q:Option (Nat×Bool)} (h:Ro p q=true):p=q:=by
 rcases p with _|⟨a,b⟩<;>rcases q with _|⟨a',b'⟩<;>simp only [Ro,Bool.false_eq_true,aO] at h
 ·rfl
 ·rw [Nat.eq_of_beq_eq_true h.1,ee h.2]
def M9 : Option Nat → Option Nat → Bool
 |none,none=>true
 |some a,some b=>Nat.beq a b
 |_,_=>false
theorem BK {a b:Option Nat} (h:M9 a b=true):a=b:=by
 cases a<;>cases b<;>simp only [M9,Bool.false_eq_true] at h
 ·rfl
 ·rw [Nat.eq_of_beq_eq_true h]
def Na : Option Ty → Option Ty → Bool
 |none,none=>true
 |some a,some b=>l7 a b
 |_,_=>false
theorem Nb {a b:Option Ty} (h:Na a b=true):a=b:=by
 cases a<;>cases b<;>simp only [Na,Bool.false_eq_true] at h
 ·rfl
 ·rw [lg h]
def xu : eM → eM → Bool
 | .op d g i,.op d' g' i'=>an (M9 d d') (an (Ro g g') (gp i i'))
 | .call d g f a t,.call d' g' f' a' t'=>an (M9 d d') (an (Ro g g') (an (dM f f') (an (xk a a') (kf Na t t'))))
 |_,_=>false
theorem tJ {a b:eM} (h:xu a b=true):a=b:=by
 cases a<;>cases b<;>simp only [xu,Bool.false_eq_true,aO] at h
 ·rw [BK h.1,Iq h.2.1,Rm h.2.2]
 ·rw [BK h.1,Iq h.2.1,aV h.2.2.1,l9 h.2.2.2.1,eV Nb h.2.2.2.2]
def jm : C → C → Bool
 | .skip,.skip=>true
 | .aS is,.aS is'=>kf xu is is'
 | .draw ps is,.draw ps' is'=>an (M7 ps ps') (kf xu is is')
 | .seq a b,.seq a' b'=>an (jm a a') (jm b b')
 | .cond c a b,.cond c' a' b'=>an (dM c c') (an (jm a a') (jm b b'))
 | .block id c,.block id' c'=>an (Nat.beq id id') (jm c c')
 | .loop c,.loop c'=>jm c c'
 | .exit id,.exit id'=>Nat.beq id id'
 | .ret,.ret=>true
 | .bD f ps a b,.bD f' ps' a' b'=>an (dM f f') (an (DM ps ps') (an (jm a a') (jm b b')))
 | .gH p m i cl e kt kg vt vg d b,.gH p' m' i' cl' e' Lp UI Lq Qt d' b'=>an (kf xu p p') (an (dM m m') (an (Nat.beq i i') (an (DM cl cl') (an (M9 e e') (an (l7 kt Lp) (an (lK kg UI) (an (l7 vt Lq) (an (lK vg Qt) (an (Nat.beq d d') (jm b b'))))))))))
 |_,_=>false
theorem vq:∀{a b:C},jm a b=true→a=b:=by
 intro a
 induction a with
 |skip=>intro b h;cases b<;>simp [jm] at h ⊢
 |ret=>intro b h;cases b<;>simp [jm] at h ⊢
 |exit id=>intro b h;cases b<;>simp only [jm,Bool.false_eq_true] at h;rw [Nat.eq_of_beq_eq_true h]
 |aS is=>intro b h;cases b<;>simp only [jm,Bool.false_eq_true] at h;rw [eV tJ h]
 |draw ps is=>intro b h;cases b<;>simp only [jm,Bool.false_eq_true,aO] at h;rw [Kf h.1,eV tJ h.2]
 |seq a b Gq Fu=>intro b h;cases b<;>simp only [jm,Bool.false_eq_true,aO] at h;rw [Gq h.1,Fu h.2]
 |cond c a b Gq Fu=>intro b h;cases b<;>simp only [jm,Bool.false_eq_true,aO] at h;rw [aV h.1,Gq h.2.1,Fu h.2.2]
 |block id c ih=>intro b h;cases b<;>simp only [jm,Bool.false_eq_true,aO] at h;rw [Nat.eq_of_beq_eq_true h.1,ih h.2]
 |loop c ih=>intro b h;cases b<;>simp only [jm,Bool.false_eq_true] at h;rw [ih h]
 |gH p m i cl e kt kg vt vg d b ih =>
  intro b h
  cases b<;>simp only [jm,Bool.false_eq_true,aO] at h
  obtain ⟨h1,h2,h3,h4,h5,h6,h7,h8,h9,ZU,h10⟩:=h
  rw [eV tJ h1,aV h2,Nat.eq_of_beq_eq_true h3,rJ h4,BK h5,lg h6,ee h7,lg h8,ee h9,Nat.eq_of_beq_eq_true ZU,ih h10]
 |bD f ps a b Gq Fu=>intro b h;cases b<;>simp only [jm,Bool.false_eq_true,aO] at h;rw [aV h.1,rJ h.2.1,Gq h.2.2.1,Fu h.2.2.2]
end Go.AM
end
section
namespace Go.AM
section
variable {π:List Nat}
theorem pq : ∀ (π : List Nat) (b : Nat), uP π b = π[b]?
 |[],_=>by simp [uP]
 |i::r,0=>by simp [uP]
 |i::r,n+1=>by simp [uP,pq r n]
theorem lp {b i:Nat} (h:zn π b i=true):π[b]?=some i:=by
 unfold zn at h
 split at h
 ·rename_i j e;rw [←pq,e,Nat.eq_of_beq_eq_true h]
 ·cases h
theorem CV.append {as bs cs ds:List V} (h:CV π as bs) (h':CV π cs ds):CV π (as++cs) (bs++ds):=by
 induction as generalizing bs with
 |nil =>
  have:bs=[]:=List.eq_nil_of_length_eq_zero h.1.symm
  subst this;simpa using h'
 |cons a as ih =>
  cases bs with
  |nil=>exact absurd h.1 (by simp)
  |cons b bs=>exact .cons (h.2 0 a b rfl rfl) (ih ⟨by have:=h.1;simpa using this,fun i v u hv hu=>h.2 (i+1) v u (by simpa using hv) (by simpa using hu)⟩)
theorem DO {t t':Ty} {xs:List t.den} {ys:List t'.den} (h:jR t t' xs=some ys):V.eH t' ys=V.eH t xs:=by
 obtain ⟨e,he⟩:=dS h
 subst e;subst he;rfl
theorem DP {g:Bool} {v:V} {ds cs:List V} (h:A2 g v=some cs) (ag:CV π ds cs):EV π (cw.iP g ds) v:=by
 cases g with
 |true =>
  cases v<;>simp [A2] at h
  subst h
  exact .agg _ _ ag.1 ag.2
 |false =>
  have:cs=[v]:=by cases v<;>simp_all [A2,V.cells?]
  subst this
  match ds,ag with
  |[w],ag=>exact ag.2 0 w v rfl rfl
  |[],ag=>exact absurd ag.1 (by simp)
  |_::_::_,ag=>exact absurd ag.1 (by simp)
theorem pz {ar : Ar} : ∀ {t : Ty} {vs : List V} {x : t.den} {u : eA} {r : List V}, bq ar [] t vs = some (x, u, r) → ∃ us, vs = us ++ r ∧ CV π (cw t x) us
 | .unit,vs,x,u,r,h=>by
  simp [bq] at h;obtain ⟨_,_,rfl⟩:=h;exact ⟨[],rfl,.nil⟩
 | .bool,vs,x,u,r,h=>by
  rcases vs with _|⟨v,r'⟩
  ·simp [bq] at h
  ·cases v <;> simp [bq] at h
   ·obtain ⟨rfl,_,rfl⟩:=h;exact ⟨[_],rfl,.cons (.tfb _) .nil⟩
   ·obtain ⟨rfl,_,rfl⟩:=h;exact ⟨[_],rfl,.cons (.bool _) .nil⟩
 | .str,vs,x,u,r,h=>by
  rcases vs with _|⟨v,r'⟩
  ·simp [bq] at h
  ·cases v <;> simp [bq] at h
   obtain ⟨rfl,_,rfl⟩:=h;exact ⟨[_],rfl,.cons (.str _) .nil⟩
 | .int k,vs,x,u,r,h=>by
  rcases vs with _|⟨v,r'⟩
  ·simp [bq] at h
  ·cases v <;> simp [bq] at h
   obtain ⟨rfl,rfl,_,rfl⟩:=h;exact ⟨[_],rfl,.cons (.int _ _) .nil⟩
 | .list t,vs,x,u,r,h=>by
  rcases vs with _|⟨v,r'⟩
  ·simp [bq] at h
  ·cases v <;> simp only [bq] at h <;> try (cases h; done)
   ·split at h <;> try (cases h; done)
    rename_i hc
    cases h
    exact ⟨[_],rfl,.cons (by rw [DO hc];exact .eH _ _) .nil⟩
   ·cases h;exact ⟨[.bW],rfl,.cons (.W1 _) .nil⟩
 | .prod a b,vs,x,u,r,h=>by
  simp only [bq] at h
  split at h<;>try (cases h;done)
  rename_i x1 u1 r1 h1
  split at h<;>try (cases h;done)
  rename_i y1 u2 r2 h2
  cases h
  obtain ⟨us,rfl,e1⟩:=pz h1
  obtain ⟨Wu,rfl,e2⟩:=pz h2
  exact ⟨us++Wu,by simp,e1.append e2⟩
 | .cq d g t,vs,x,u,r,h=>by
  cases vs with
  |nil=>simp [bq] at h
  |cons v vs =>
   cases v<;>simp only [bq] at h<;>try (cases h;done)
   rename_i d' v'
   split at h<;>try (cases h;done)
   rename_i e;subst e
   split at h<;>try (cases h;done)
   rename_i cs hun
   split at h<;>try (cases h;done)
   rename_i x0 ho
   cases h
   obtain ⟨us,e1,ag⟩:=pz ho
   rw [List.append_nil] at e1
   exact ⟨[.cq d v'],rfl,.cons (.cq _ _ _ (DP hun (by rw [e1];exact ag))) .nil⟩
theorem Rp : ∀ {t : Ty} {v : V} {x : t.den}, BJ t v = some x → EV π (tyV t x) v
 | .unit,v,x,h=>by simp [BJ] at h
 | .bool,v,x,h=>by
  cases v<;>simp [BJ] at h
  ·subst h;exact .tfb _
  ·subst h;exact .bool _
 | .str,v,x,h=>by
  cases v<;>simp [BJ] at h
  subst h;exact .str _
 | .int k,v,x,h=>by
  cases v<;>simp only [BJ] at h<;>try (cases h;done)
  split at h<;>try (cases h;done)
  rename_i hk
  cases h
  have:=of_decide_eq_true hk
  subst this;exact .int _ _
 | .list t,v,x,h=>by
  cases v<;>simp only [BJ] at h<;>try (cases h;done)
  ·show EV π (.eH t x) _
   rw [DO h];exact .eH _ _
  ·cases h;exact .W1 _
 | .prod a b,v,x,h=>by
  cases v<;>simp only [BJ] at h<;>try (cases h;done)
  split at h<;>try (cases h;done)
  rename_i hc
  cases h
  obtain ⟨us,e,ag⟩:=pz (π:=π) hc
  rw [List.append_nil] at e
  subst e
  exact .agg _ _ ag.1 ag.2
 | .cq d g t,v,x,h=>by
  simp only [BJ] at h
  split at h<;>try (cases h;done)
  rename_i hc
  cases h
  obtain ⟨us,e,ag⟩:=pz (π:=π) hc
  rw [List.append_nil] at e
  subst e
  exact ag.2 0 _ _ rfl rfl
variable {A:Type}
theorem CP.Xh {c:CP} {v:V} {f:A→c.T A} (h:c.rd1 π v=some f) (a:A):CV π (c.vs (f a)) [v]∧c.r (f a)=a:=by
 cases c<;>simp only [CP.rd1] at h
 case any=>cases h;exact ⟨.cons (.any _) .nil,rfl⟩
 case tf b =>
  split at h<;>try (cases h;done)
  split at h<;>try (cases h;done)
  rename_i hb
  cases h
  rw [←ee hb]
  exact ⟨.cons (.tf _) .nil,rfl⟩
 case ez=>split at h<;>cases h;exact ⟨.cons (.ez) .nil,rfl⟩
 case cE=>split at h<;>cases h;exact ⟨.cons (.cE) .nil,rfl⟩
 case eW=>split at h<;>cases h;exact ⟨.cons (.eW) .nil,rfl⟩
 case bW=>split at h<;>cases h;exact ⟨.cons (.bW) .nil,rfl⟩
 case hole t =>
  split at h<;>cases h
  rename_i hx
  exact ⟨.cons (Rp hx) .nil,rfl⟩
 case b7 b t =>
  split at h<;>try (cases h;done)
  ·rename_i i t' lo n
   split at h<;>try (cases h;done)
   rename_i h1
   split at h<;>try (cases h;done)
   rename_i h2
   split at h<;>try (cases h;done)
   rename_i h3
   cases h
   have e:=Nat.eq_of_beq_eq_true h3
   rw [lg h2,e]
   exact ⟨.cons (.sl _ _ _ _ _ (lp h1)) .nil,rfl⟩
  ·cases h;exact ⟨.cons (.W2 _ _ _) .nil,rfl⟩
 case Qi b t =>
  split at h<;>try (cases h;done)
  ·rename_i i t' lo n
   split at h<;>try (cases h;done)
   rename_i h1
   split at h<;>try (cases h;done)
   rename_i h2
   cases h
   rw [lg h2]
   exact ⟨.cons (.sl _ _ _ _ _ (lp h1)) .nil,rfl⟩
  ·cases h;exact ⟨.cons (.W2 _ _ _) .nil,rfl⟩
 case ptr b off =>
  split at h<;>try (cases h;done)
  split at h<;>try (cases h;done)
  rename_i h1
  split at h<;>try (cases h;done)
  rename_i h2
  cases h
  rw [Nat.eq_of_beq_eq_true h2]
  exact ⟨.cons (.ptr _ _ _ (lp h1)) .nil,rfl⟩
 case yl b =>
  split at h<;>try (cases h;done)
  split at h<;>try (cases h;done)
  rename_i h1
  cases h
  exact ⟨.cons (.yl _ _ (lp h1)) .nil,rfl⟩
 case fc t =>
  split at h<;>try (cases h;done)
  split at h<;>try (cases h;done)
  rename_i hc
  cases h
  obtain ⟨us,e,ag⟩:=pz (π:=π) hc
  rw [List.append_nil] at e
  subst e
  exact ⟨.cons (.fc _ _ ag.1 ag.2) .nil,rfl⟩
 case mp b =>
  split at h<;>try (cases h;done)
  split at h<;>try (cases h;done)
  rename_i h1
  cases h
  exact ⟨.cons (.mp _ _ (lp h1)) .nil,rfl⟩
 case cB=>split at h<;>cases h;exact ⟨.cons (.cB) .nil,rfl⟩
 case pa b t n =>
  split at h<;>try (cases h;done)
  split at h<;>try (cases h;done)
  rename_i h1
  split at h<;>try (cases h;done)
  rename_i h2
  split at h<;>try (cases h;done)
  rename_i h3
  cases h
  rw [lg h2,Nat.eq_of_beq_eq_true h3]
  exact ⟨.cons (.pa _ _ _ _ (lp h1)) .nil,rfl⟩
 case kQ t =>
  split at h<;>try (cases h;done)
  split at h<;>try (cases h;done)
  rename_i ys hc
  cases h
  obtain ⟨e,he⟩:=dS hc
  subst e;subst he
  exact ⟨.cons (.kQ _ _) .nil,rfl⟩
 case Gr=>cases h
 case fn0 f' =>
  split at h<;>try (cases h;done)
  split at h<;>try (cases h;done)
  rename_i h1
  cases h
  rw [Nat.eq_of_beq_eq_true h1]
  exact ⟨.cons (.fn _ _ _ _ _ rfl (fun i v u hv=>by simp at hv) rfl (fun i v u hv=>by simp at hv)) .nil,rfl⟩
 case Kb=>cases h
 case Ke=>cases h
 case fn=>cases h
 case nil=>cases h
 case cons=>cases h
theorem CP.Xi:∀{c:CP} {A:Type} {vs r:List V} {f:A→c.T A},c.Fv π vs=some (f,r)→∃us,vs=us++r∧∀a,CV π (c.vs (f a)) us∧c.r (f a)=a:=by
 intro c
 induction c with
 |nil=>intro A vs r f h;simp only [CP.Fv] at h;cases h;exact ⟨[],rfl,fun a=>⟨.nil,rfl⟩⟩
 |cons c l ihc ihl =>
  intro A vs r f h
  simp only [CP.Fv] at h
  split at h<;>try (cases h;done)
  rename_i f1 vs' h1
  split at h<;>try (cases h;done)
  rename_i g vs'' h2
  cases h
  obtain ⟨us,rfl,e1⟩:=ihc h1
  obtain ⟨Wu,rfl,e2⟩:=ihl h2
  refine ⟨us++Wu,by simp,fun a=>?_⟩
  obtain ⟨q1,q2⟩:=e1 (g a)
  obtain ⟨q3,q4⟩:=e2 a
  simp only [CP.vs,CP.r,q2]
  exact ⟨q1.append q3,q4⟩
 |Kb l ih =>
  intro A vs r f h
  simp only [CP.Fv] at h
  split at h<;>try (cases h;done)
  rename_i cs r'
  split at h<;>try (cases h;done)
  rename_i f1 h1
  cases h
  obtain ⟨us,e,e1⟩:=ih h1
  rw [List.append_nil] at e
  subst e
  refine ⟨[.fc cs],rfl,fun a=>?_⟩
  obtain ⟨q1,q2⟩:=e1 a
  exact ⟨.cons (.fc _ _ q1.1 q1.2) .nil,q2⟩
 |Ke l ih =>
  intro A vs r f h
  simp only [CP.Fv] at h
  split at h<;>try (cases h;done)
  rename_i cs r'
  split at h<;>try (cases h;done)
  rename_i f1 h1
  cases h
  obtain ⟨us,e,e1⟩:=ih h1
  rw [List.append_nil] at e
  subst e
  refine ⟨[.agg cs],rfl,fun a=>?_⟩
  obtain ⟨q1,q2⟩:=e1 a
  exact ⟨.cons (.agg _ _ q1.1 q1.2) .nil,q2⟩
 |Gr t g l ih =>
  intro A vs r f h
  simp only [CP.Fv] at h
  split at h<;>try (cases h;done)
  rename_i t' v r'
  split at h<;>try (cases h;done)
  rename_i ht
  split at h<;>try (cases h;done)
  rename_i cs hun
  split at h<;>try (cases h;done)
  rename_i f1 h1
  cases h
  obtain ⟨us,e,e1⟩:=ih h1
  rw [List.append_nil] at e
  subst e
  have e0:=Nat.eq_of_beq_eq_true ht
  subst e0
  refine ⟨[.cq t' v],rfl,fun a=>?_⟩
  obtain ⟨q1,q2⟩:=e1 a
  exact ⟨.cons (.cq _ _ _ (DP hun q1)) .nil,q2⟩
 |fn f0 a b Gq Fu =>
  intro A vs r f h
  simp only [CP.Fv] at h
  split at h<;>try (cases h;done)
  rename_i f' va vb r'
  split at h<;>try (cases h;done)
  rename_i hf
  split at h<;>try (cases h;done)
  rename_i g hg
  split at h<;>try (cases h;done)
  rename_i k hk
  cases h
  obtain ⟨us,e,e1⟩:=Gq hg
  rw [List.append_nil] at e
  subst e
  obtain ⟨Wu,e',e2⟩:=Fu hk
  rw [List.append_nil] at e'
  subst e'
  have e0:=Nat.eq_of_beq_eq_true hf
  subst e0
  refine ⟨[.fn f' va vb],rfl,fun x=>?_⟩
  obtain ⟨q1,q2⟩:=e1 (k x)
  obtain ⟨q3,q4⟩:=e2 x
  simp only [CP.vs,CP.r,q2]
  exact ⟨.cons (.fn _ _ _ _ _ q1.1 q1.2 q3.1 q3.2) .nil,q4⟩
 |_ =>
  intro A vs r f h
  simp only [CP.Fv] at h
  split at h<;>try (cases h;done)
  rename_i v r'
  split at h<;>try (cases h;done)
  rename_i f1 h1
  cases h
  exact ⟨[v],rfl,fun a=>CP.Xh h1 a⟩
theorem CP.rK {c:CP} {v:V} {f:A→c.T A} (h:c.rd π v=some f) (a:A):EV π (c.v (f a)) v∧c.r (f a)=a:=by
 unfold CP.rd at h
 split at h<;>try (cases h;done)
 rename_i f1 h1
 cases h
 obtain ⟨us,e,e1⟩:=CP.Xi h1
 rw [List.append_nil] at e
 subst e
 obtain ⟨q1,q2⟩:=e1 a
 refine ⟨?_,q2⟩
 unfold CP.v
 have hl:=q1.1
 cases hc:c.vs (f a) with
 |nil=>rw [hc] at hl;simp at hl
 |cons u r=>exact q1.2 0 u v (by rw [hc];rfl) rfl
theorem iX : ∀ {cs : List CP} {vs : List V} {f : A → l6 cs A}, ff π cs vs = some f → ∀ a, CV π (qw cs (f a)) vs ∧ rI cs (f a) = a
 |[],[],f,h,a=>by cases h;exact ⟨.nil,rfl⟩
 |c::r,v::vs,f,h,a=>by
  simp only [ff] at h
  split at h<;>try (cases h;done)
  rename_i f1 h1
  split at h<;>cases h
  rename_i g h2
  obtain ⟨q1,q2⟩:=CP.rK h1 (g a)
  obtain ⟨q3,q4⟩:=iX h2 a
  simp only [qw,rI,q2]
  exact ⟨.cons q1 q3,q4⟩
 |[],_::_,f,h,a=>by simp [ff] at h
 |_::_,[],f,h,a=>by simp [ff] at h
theorem SP.rK : ∀ {p : SP} {v : V} {f : A → p.T A}, p.rd π v = some f → ∀ (a : A), EV π (p.v (f a)) v ∧ p.r (f a) = a
 | .c q,v,f,h,a=>CP.rK (c:=q) h a
 | .agg cs,v,f,h,a=>by
  cases v<;>try (cases h;done)
  rename_i vs
  have h':ff π cs vs=some f:=h
  obtain ⟨h1,h2⟩:=iX h' a
  exact ⟨.agg _ _ h1.1 h1.2,h2⟩
 | .cG cs,v,f,h,a=>by
  cases v<;>try (cases h;done)
  rename_i vs
  have h':ff π cs vs=some f:=h
  obtain ⟨h1,h2⟩:=iX h' a
  exact ⟨.cG _ _ h1.1 h1.2,h2⟩
 | .fn f' x y,v,f,h,a=>by
  cases v with
  |fn f2 va vb =>
   have h':(match Nat.beq f2 f' with
    |true=>match ff (A:=l6 y A) π x va with
     |some g=>match ff (A:=A) π y vb with
      |some h=>some fun z=>g (h z)
      |none=>none
     |none=>none
    |false=>none)=some f:=h
   clear h
   cases hf:Nat.beq f2 f' with
   |false=>rw [hf] at h';cases h'
   |true =>
    rw [hf] at h'
    simp only at h'
    cases hg:ff (A:=l6 y A) π x va with
    |none=>rw [hg] at h';cases h'
    |some g =>
     rw [hg] at h'
     simp only at h'
     cases hk:ff (A:=A) π y vb with
     |none=>rw [hk] at h';cases h'
     |some k =>
      rw [hk] at h'
      have h2:(fun z=>g (k z))=f:=Option.some.inj h'
      obtain ⟨q1,q2⟩:=iX hg (k a)
      obtain ⟨q3,q4⟩:=iX hk a
      have e:=Nat.eq_of_beq_eq_true hf
      subst e
      have e2:SP.v (A:=A) (.fn f2 x y) (g (k a)) = .fn f2 (qw x (g (k a))) (qw y (k a)):=by
       show V.fn f2 _ (qw y (rI x (g (k a))))=_
       rw [q2]
      have e3:SP.r (A:=A) (.fn f2 x y) (g (k a))=a:=by
       show rI y (rI x (g (k a)))=a
       rw [q2,q4]
      have e4:f a=g (k a):=by rw [←h2]
      rw [e4]
      exact ⟨by rw [e2];exact .fn _ _ _ _ _ q1.1 q1.2 q3.1 q3.2,e3⟩
  |_=>cases h
 | .alt x y,v,f,h,a=>by
  cases v with
  |cG vs =>
   have h':(match ff (A:=A) π x vs with
    |some f=>some fun z=>(Sum.inl (f z):l6 x A ⊕ l6 y A)
    |none=>match ff (A:=A) π y vs with
     |some f=>some fun z=>Sum.inr (f z)
     |none=>none)=some f:=h
   clear h
   cases hx:ff (A:=A) π x vs with
   |some g =>
    rw [hx] at h'
    have h2:=Option.some.inj h'
    subst h2
    obtain ⟨h1,h2⟩:=iX hx a
    exact ⟨.cG _ _ h1.1 h1.2,h2⟩
   |none =>
    rw [hx] at h'
    simp only at h'
    cases hy:ff (A:=A) π y vs with
    |none=>rw [hy] at h';cases h'
    |some g =>
     rw [hy] at h'
     have h2:=Option.some.inj h'
     subst h2
     obtain ⟨h1,h2⟩:=iX hy a
     exact ⟨.cG _ _ h1.1 h1.2,h2⟩
  |_=>cases h
theorem rL {env : Env} : ∀ {ps : List (Nat × SP)} {f : A → zm ps A}, Al π env ps = some f → ∀ a, EE π (xg ps (f a)) env ∧ MX ps (f a) = a
 |[],f,h,a=>by cases h;exact ⟨fun p hp=>by simp [xg] at hp,rfl⟩
 |(s,p)::r,f,h,a=>by
  simp only [Al] at h
  split at h<;>try (cases h;done)
  rename_i f1 h1
  split at h<;>cases h
  rename_i g h2
  obtain ⟨q1,q2⟩:=SP.rK h1 (g a)
  obtain ⟨q3,q4⟩:=rL h2 a
  simp only [xg,MX,q2]
  refine ⟨fun x hx=>?_,q4⟩
  rcases List.mem_cons.1 hx with rfl|hx
  ·exact q1
  ·exact q3 x hx
def Nc : qh → qh → Bool
 | .ready,.ready=>true
 | .busy,.busy=>true
 | .done,.done=>true
 | .exhausted,.exhausted=>true
 |_,_=>false
theorem Nd {a b:qh} (h:Nc a b=true):a=b:=by cases a<;>cases b<;>simp_all [Nc]
def Xj : Option Ex → Option Ex → Bool
 |none,none=>true
 |some .normal,some .normal=>true
 |some (.exit a),some (.exit b)=>Nat.beq a b
 |some .ret,some .ret=>true
 |_,_=>false
theorem Rq {a b:Option Ex} (h:Xj a b=true):a=b:=by
 rcases a with _|(_|_|_)<;>rcases b with _|(_|_|_)<;>simp only [Xj,Bool.false_eq_true] at h<;>try rfl
 rw [Nat.eq_of_beq_eq_true h]
def BP.rd (π:List Nat) (nx:Nat) (bl:ai) (id:Nat) (p:BP):Option (A→p.T A) :=
 match uP π id with
 |none=>none
 |some i=>match p with
  | .arr t fz=>match au i bl with
   |some (.arr t' xs Wv)=>match jR t' t xs with
    |some ys=>match lK Wv fz with
     |true=>some fun a=>(ys,a)
     |false=>none
    |none=>none
   |none=>match Nat.ble nx i with
    |true=>some fun a=>(([]:List t.den),a)
    |false=>none
   |_=>none
  | .cells cs fz=>match au i bl with
   |some (.cells vs Wv)=>match lK Wv fz with
    |true=>ff π cs vs
    |false=>none
   |_=>none
  | .loop st j d env ps as bd N=>match au i bl with
   |some (.loop st' j' d' env' ps' as' QY N')=>match an (Nc st' st) (an (Xj j' j)<|an (zn π d d') (an (DM ps' ps) (an (Nat.beq N' N) (an (jm as' as) (jm QY bd))))) with
    |true=>Al π env' env
    |false=>none
   |_=>none
  | .gX=>match au i bl with
   |some .gX=>some fun a=>a
   |_=>none
  | .map kt kg vt vg=>match au i bl with
   |some (.map Lp UI Lq Qt es)=>match an (lK UI kg) (lK Qt vg) with
    |true=>match HG Lp Lq kt vt es with
     |some fs=>some fun a=>(fs,a)
     |none=>none
    |false=>none
   |_=>none
  | .mE t k q c=>match au i bl with
   |some (.mE t' xs k' q' v)=>match an (Nat.beq k' k) (M6 q' q) with
    |true=>match jR t' t xs with
     |some ys=>match CP.rd π c v with
      |some f=>some fun a=>(ys,f a)
      |none=>none
     |none=>none
    |false=>none
   |_=>none
theorem BP.rK {nx:Nat} {bl:ai} {id:Nat} {p:BP} {f:A→p.T A} (h:p.rd π nx bl id=some f) (a:A):Z6 π nx bl id (p.v (f a))∧p.r (f a)=a:=by
 unfold BP.rd at h
 split at h
 ·cases h
 ·rename_i i hi
  rw [pq] at hi
  cases p<;>simp only at h
  case arr t fz =>
   split at h
   ·rename_i t' xs Wv hb
    split at h<;>try (cases h;done)
    rename_i ys hc
    split at h<;>cases h
    rename_i hfz
    refine ⟨⟨i,hi,.inl ?_⟩,rfl⟩
    obtain ⟨e,he⟩:=dS hc
    subst e;subst he
    rw [hb,ee hfz]
   ·rename_i hb
    split at h<;>cases h
    rename_i hle
    exact ⟨⟨i,hi,.inr ⟨rfl,Nat.le_of_ble_eq_true hle⟩⟩,rfl⟩
   ·cases h
  case cells cs fz =>
   split at h<;>try (cases h;done)
   rename_i vs Wv hb
   split at h<;>try (cases h;done)
   rename_i hfz
   obtain ⟨h1,h2⟩:=iX h a
   refine ⟨⟨i,hi,vs,?_,h1⟩,h2⟩
   rw [hb,ee hfz]
  case loop st j d env ps as bd N =>
   split at h<;>try (cases h;done)
   rename_i st' j' d' env' ps' as' QY N' hb
   split at h<;>try (cases h;done)
   rename_i hc
   simp only [aO] at hc
   obtain ⟨c1,cj,c2,c3,c4,c5,c6⟩:=hc
   obtain ⟨h1,h2⟩:=rL h a
   refine ⟨⟨i,hi,d',env',?_,lp c2,h1⟩,h2⟩
   rw [hb,Nd c1,Rq cj,rJ c3,Nat.eq_of_beq_eq_true c4,vq c5,vq c6]
  case gX =>
   split at h<;>cases h
   rename_i hb
   exact ⟨⟨i,hi,hb⟩,rfl⟩
  case map kt kg vt vg =>
   split at h<;>try (cases h;done)
   rename_i Lp UI Lq Qt es hb
   split at h<;>try (cases h;done)
   rename_i hg
   split at h<;>try (cases h;done)
   rename_i fs hc
   cases h
   simp only [aO] at hg
   rw [ee hg.1,ee hg.2] at hb
   unfold HG at hc
   split at hc<;>try (cases hc;done)
   rename_i he
   obtain ⟨rfl,rfl⟩:=he
   cases hc
   exact ⟨⟨i,hi,hb⟩,rfl⟩
  case mE t k q c =>
   split at h<;>try (cases h;done)
   rename_i t' xs k' q' v hb
   split at h<;>try (cases h;done)
   rename_i hc
   simp only [aO] at hc
   split at h<;>try (cases h;done)
   rename_i ys hy
   split at h<;>try (cases h;done)
   rename_i f' hf
   cases h
   obtain ⟨e,he⟩:=dS hy
   subst e;subst he
   obtain ⟨h1,h2⟩:=CP.rK hf a
   refine ⟨⟨i,hi,v,?_,h1⟩,h2⟩
   rw [hb,Nat.eq_of_beq_eq_true hc.1,DL hc.2]
def Nf (π : List Nat) (nx : Nat) (bl : ai) : (ps : List (Nat × BP)) → Option (A → Rj ps A)
 |[]=>some fun a=>a
 |(id,p)::r=>match BP.rd (A:=Rj r A) π nx bl id p with
  |some f=>match Nf π nx bl r with
   |some g=>some fun a=>f (g a)
   |none=>none
  |none=>none
theorem BL {nx : Nat} {bl : ai} : ∀ {ps : List (Nat × BP)} {f : A → Rj ps A}, Nf π nx bl ps = some f → ∀ a, (∀ p ∈ Qj ps (f a), Z6 π nx bl p.1 p.2) ∧ (Qj ps (f a)).map (·.1) = ps.map (·.1)
 |[],f,h,a=>by cases h;exact ⟨fun p hp=>by simp [Qj] at hp,rfl⟩
 |(s,p)::r,f,h,a=>by
  simp only [Nf] at h
  split at h<;>try (cases h;done)
  rename_i f1 h1
  split at h<;>cases h
  rename_i g h2
  obtain ⟨q1,q2⟩:=BP.rK h1 (g a)
  obtain ⟨q3,q4⟩:=BL h2 a
  simp only [Qj,q2]
  refine ⟨fun x hx=>?_,by simp [q4]⟩
  rcases List.mem_cons.1 hx with rfl|hx
  ·exact q1
  ·exact q3 x hx
def Kg (nx b : Nat) : V → Option Nat
 | .sl i _ _ _=>some i
 | .ptr i _=>some i
 | .yl i=>some i
 | .mp i=>some i
 | .pa i _ _=>some i
 | .ep i _ _ _=>some i
 | .bW=>some (nx+b)
 | .cq _ (.ptr i _)=>some i
 |_=>none
def Ng : List V → Nat → Option V
 |[],_=>none
 |v::_,0=>some v
 |_::r,n+1=>Ng r n
def Xk (π : List Nat) (env : Env) (nx : Nat) (bl : ai) (ms : List Nat) (b : Nat) : Lc → Option Nat
 | .slot s=>Kg nx b (get s env)
 | .part s k=>match get s env with
  | .agg cs=>match Ng cs k with
   |some v=>Kg nx b v
   |none=>none
  | .fn _ a c=>match Ng (a++c) k with
   |some v=>Kg nx b v
   |none=>none
  | .cG cs=>match Ng cs k with
   |some v=>Kg nx b v
   |none=>none
  |_=>none
 | .cell b' k=>match uP π b' with
  |some i=>match au i bl with
   |some (.cells cs _)=>match Ng cs k with
    |some v=>Kg nx b v
    |none=>none
   |some (.mE _ _ _ _ v)=>Kg nx b v
   |_=>none
  |none=>none
 | .old i=>some i
 | .mark j=>uP ms j
def snoc {R : Type} : List Nat → Nat → (List Nat → R) → R
 |[],i,k=>k [i]
 |j::r,i,k=>snoc r i fun r'=>k (j::r')
theorem BM {R : Type} : ∀ (l : List Nat) (i : Nat) (k : List Nat → R), snoc l i k = k (l ++ [i])
 |[],_,_=>rfl
 |j::r,i,k=>by simp only [snoc,BM r];rfl
def rM {R : Type} (no : R) (env : Env) (nx : Nat) (bl : ai) (ms : List Nat) : List Lc → List Nat → Nat → (List Nat → R) → R
 |[],π,_,k=>k π
 |l::r,π,b,k=>match Xk π env nx bl ms b l with
  |some i=>fN i fun i=>snoc π i fun π=>fN (b+1) fun b=>rM no env nx bl ms r π b k
  |none=>no
theorem xw {X:Type} {no:Option X} {env:Env} {nx:Nat} {bl:ai} {ms:List Nat}:∀{ls:List Lc} {π:List Nat} {b:Nat} {k:List Nat→Option X} {x:X},rM no env nx bl ms ls π b k=some x →
  no=some x∨∃r,r.length=ls.length∧k (π++r)=some x
 |[],π,b,k,x,h=>.inr ⟨[],rfl,by simpa [rM] using h⟩
 |l::ls,π,b,k,x,h=>by
  simp only [rM] at h
  split at h
  ·rename_i i hi
   rw [fK,BM,fK] at h
   rcases xw h with h|⟨r,h1,h2⟩
   ·exact .inl h
   ·exact .inr ⟨i::r,by simp [h1],by simpa using h2⟩
  ·exact .inl h
def Nh (π:List Nat) (a b:Nat):Bool:=match uP π a with
 |some i=>match uP π b with
  |some j=>match Nat.beq i j with
   |true=>false
   |false=>true
  |none=>false
 |none=>false
def BN (π : List Nat) (a : Nat) : List (Nat × BP) → Bool
 |[]=>true
 |(b,_)::r=>match Nh π a b with
  |true=>BN π a r
  |false=>false
def xy (π : List Nat) : List (Nat × BP) → Bool
 |[]=>true
 |(a,_)::r=>match BN π a r with
  |true=>xy π r
  |false=>false
theorem Ni {a b:Nat} (h:Nh π a b=true):π[a]?≠π[b]?:=by
 unfold Nh at h
 split at h<;>try (cases h;done)
 rename_i i hi
 split at h<;>try (cases h;done)
 rename_i j hj
 split at h<;>try (cases h;done)
 rename_i hij
 rw [←pq,←pq,hi,hj]
 intro e;cases e
 rw [Nat.beq_refl] at hij;cases hij
theorem tK {a : Nat} : ∀ {r : List (Nat × BP)}, BN π a r = true → ∀ b ∈ r.map (·.1), π[a]? ≠ π[b]?
 |[],_,b,hb=>by simp at hb
 |(c,_)::r,h,b,hb=>by
  simp only [BN] at h
  split at h<;>try (cases h;done)
  rename_i hd
  simp only [List.map_cons,List.mem_cons] at hb
  rcases hb with rfl|hb
  ·exact Ni hd
  ·exact tK h b hb
theorem xz : ∀ {r : List (Nat × BP)}, xy π r = true → ∀ a ∈ r.map (·.1), ∀ b ∈ r.map (·.1), π[a]? = π[b]? → a = b
 |[],_,a,ha=>by simp at ha
 |(c,_)::r,h,a,ha=>by
  simp only [xy] at h
  split at h<;>try (cases h;done)
  rename_i hd
  intro b hb e
  simp only [List.map_cons,List.mem_cons] at ha hb
  rcases ha with rfl|ha<;>rcases hb with rfl|hb
  ·rfl
  ·exact absurd e (tK hd b hb)
  ·exact absurd e.symm (tK hd a ha)
  ·exact xz h a ha b hb e
def Kh (π : List Nat) : List Nat → List Nat → Bool
 |[],[]=>true
 |a::r,i::s=>match zn π a i with
  |true=>Kh π r s
  |false=>false
 |_,_=>false
theorem Ir : ∀ {ps ms : List Nat}, Kh π ps ms = true → ps.map (fun i => π[i]?) = ms.map some
 |[],[],_=>rfl
 |a::r,i::s,h=>by
  simp only [Kh] at h
  split at h<;>try (cases h;done)
  rename_i ha
  simp [lp ha,Ir h]
 |[],_::_,h=>by simp [Kh] at h
 |_::_,[],h=>by simp [Kh] at h
def az.rd {R:Type} (no:R) (pre:List Nat) (base:Nat) (p:az) (env:Env) (nx:Nat) (bl:ai) (ms:List Nat) (k:p.T→R):R :=
 rM no env nx bl ms p.gI pre base fun π=>match an (Kh π p.ms ms) (xy π p.bl) with
  |true=>match Al (A:=Rj p.bl Unit) π env p.env with
   |some f=>match Nf (A:=Unit) π nx bl p.bl with
    |some g=>k (f (g ()))
    |none=>no
   |none=>no
  |false=>no
theorem az.Is {X:Type} {no:Option X} {base:Nat} {p:az} {env:Env} {nx:Nat} {bl:ai} {ms:List Nat} {k:p.T→Option X} {r:X} (h:p.rd no (List.range base) base env nx bl ms k=some r) :
  no=some r∨∃x π,k x=some r∧jl base π ⟨env,⟨nx,bl⟩,ms⟩ (p.st base x):=by
 rcases xw h with h|⟨rr,hlen,h⟩
 ·exact .inl h
 split at h
 ·rename_i hc
  rw [aO] at hc
  split at h
  ·rename_i f hf
   split at h
   ·rename_i g hg
    obtain ⟨h1,h2⟩:=rL hf (g ())
    obtain ⟨h3,h4⟩:=BL hg ()
    refine .inr ⟨f (g ()),List.range base++rr,h,?_⟩
    constructor
    ·simp
    ·simp [az.st,hlen]
    ·exact Ir hc.1
    ·exact h1
    ·simp only [az.st,az.B,h2];exact h3
    ·simp only [az.st, az.B, h2]
     intro q hq s hs e
     refine xz hc.2 q.1 ?_ s.1 ?_ e
     ·rw [←h4];exact List.mem_map_of_mem hq
     ·rw [←h4];exact List.mem_map_of_mem hs
   ·exact .inl h
  ·exact .inl h
 ·exact .inl h
theorem az.dG {X:Type} {base:Nat} {p:az} {env:Env} {nx:Nat} {bl:ai} {ms:List Nat} {k:p.T→Option X} {r:X} (h:p.rd none (List.range base) base env nx bl ms k=some r) :
  ∃x π,k x=some r∧jl base π ⟨env,⟨nx,bl⟩,ms⟩ (p.st base x):=by
 rcases az.Is h with h|h
 ·cases h
 ·exact h
end
end Go.AM
end
section
namespace Go.AM
@[reducible] def eN (k:IntKind) (z:Int):Bool:=k.min≤z&&z≤k.max
@[reducible] def ew (i n:Int):Bool:=decide (0≤i∧i<n)
@[reducible] def nO (a b:Int):Int:=if b<a then b else a
@[reducible] def imax (a b:Int):Int:=if b > a then b else a
@[reducible] def seq (a b:ByteArray):Bool:=a.toList==b.toList
@[reducible] def slt (a b:ByteArray):Bool:=Op.bytesLess a.toList b.toList
@[reducible] def FC (c a b:Bool):Bool:=if c then a else b
def Gs : Ex → Ex → Bool
 | .normal,.normal=>true
 | .exit a,.exit b=>Nat.beq a b
 | .ret,.ret=>true
 |_,_=>false
theorem It {a b:Ex} (h:Gs a b=true):a=b:=by
 cases a<;>cases b<;>simp only [Gs,Bool.false_eq_true] at h<;>try rfl
 rw [Nat.eq_of_beq_eq_true h]
abbrev aW:=List (Ex×az)
def aW.T : aW → Type
 |[]=>Empty
 |[(_,p)]=>p.T
 |(_,p)::q::r=>p.T ⊕ aW.T (q::r)
def aW.st (base : Nat) : (xs : aW) → xs.T → Ex × St
 |[],x=>nomatch x
 |[(e,p)],x=>(e,p.st base x)
 |(_,_)::q::r,.inr y=>aW.st base (q::r) y
 |(e,p)::_::_,.inl x=>(e,p.st base x)
section
variable {R:Type}
def Rr : List V → (List V → R) → R
 |[],k=>k []
 |v::r,k=>fV v fun v=>Rr r fun r=>k (v::r)
theorem mX : ∀ (l : List V) (k : List V → R), Rr l k = k l
 |[],k=>rfl
 |v::r,k=>by simp only [Rr,nD,mX r]
def Ki : Env → (Env → R) → R
 |[],k=>k []
 |(s,v)::r,k=>fV v fun v=>Ki r fun r=>k ((s,v)::r)
theorem rN : ∀ (l : Env) (k : Env → R), Ki l k = k l
 |[],k=>rfl
 |(s,v)::r,k=>by simp only [Ki,nD,rN r]
def Xl (b:kP) (k:kP→R):R:=match b with
 | .cells cs fz=>Rr cs fun cs=>k (.cells cs fz)
 | .arr t xs fz=>k (.arr t xs fz)
 | .loop st j d env ps as bd N=>Ki env fun env=>k (.loop st j d env ps as bd N)
 | .gX=>k .gX
 | .map kt kg vt vg es=>k (.map kt kg vt vg es)
 | .mE t xs i p v=>fV v fun v=>k (.mE t xs i p v)
theorem Rs (b:kP) (k:kP→R):Xl b k=k b:=by cases b<;>simp only [Xl,mX,rN,nD]
def Z8 : ai → (ai → R) → R
 |[],k=>k []
 |(s,b)::r,k=>Xl b fun b=>Z8 r fun r=>k ((s,b)::r)
theorem BO : ∀ (l : ai) (k : ai → R), Z8 l k = k l
 |[],k=>rfl
 |(s,b)::r,k=>by simp only [Z8,Rs,BO r]
def az.go (p:az) (nx:Nat) (x:p.T) (k:Env→Nat→ai→List Nat→R):R:=Ki (p.E x) fun env=>Z8 (p.B x) fun bl=>k env nx bl p.ms
theorem az.go_eq (p:az) (nx:Nat) (x:p.T) (k:Env→Nat→ai→List Nat→R):p.go nx x k=k (p.E x) nx (p.B x) p.ms:=by
 unfold az.go;rw [rN,BO]
def aW.go (kz : Kz R) (base : Nat) : (xs : aW) → xs.T → Kc R → R
 |[],x,_=>nomatch x
 |[(e,p)],x,k=>fN (base+p.gI.length) fun nx=>p.go nx x (k e)
 |(e,p)::q::r,x,k=>kz.sm x (fun x=>fN (base+p.gI.length) fun nx=>p.go nx x (k e)) fun y=>aW.go kz base (q::r) y k
end
theorem aW.Am {X:Type} {base:Nat}:∀{xs:aW} {x:xs.T} {k:Kc (Option X)} {r:X},xs.go (jf X) base x k=some r →
  k (xs.st base x).1 (xs.st base x).2.env (xs.st base x).2.H.next (xs.st base x).2.H.bl (xs.st base x).2.ms=some r
 |[],x,_,_,_=>nomatch x
 |[(e,p)],x,k,r,h=>by
  simp only [aW.go,fK] at h
  exact (az.go_eq p _ (show p.T from x) (k e)).symm.trans h
 |(e,p)::q::s,x,k,r,h=>by
  simp only [aW.go,jf] at h
  cases x with
  |inl x =>
   simp only [fK] at h
   rw [az.go_eq] at h
   exact h
  |inr y=>exact aW.Am (xs:=q::s) (x:=y) h
def aW.rd {R : Type} (no : R) (pre : List Nat) (base : Nat) : (xs : aW) → Ex → Env → Nat → ai → List Nat → (xs.T → R) → R
 |[],_,_,_,_,_,_=>no
 |[(e',p)],e,env,nx,bl,ms,k=>match Gs e' e with
  |true=>p.rd no pre base env nx bl ms k
  |false=>no
 |(e',p)::q::r,e,env,nx,bl,ms,k=>match Gs e' e with
  |true=>p.rd (aW.rd no pre base (q::r) e env nx bl ms fun x=>k (.inr x)) pre base env nx bl ms fun x=>k (.inl x)
  |false=>aW.rd no pre base (q::r) e env nx bl ms fun x=>k (.inr x)
theorem aW.dG {X:Type} {base:Nat} {env:Env} {nx:Nat} {bl:ai} {ms:List Nat}:∀{xs:aW} {e:Ex} {k:xs.T→Option X} {r:X},xs.rd none (List.range base) base e env nx bl ms k=some r →
  ∃x π,k x=some r∧e=(xs.st base x).1∧jl base π ⟨env,⟨nx,bl⟩,ms⟩ (xs.st base x).2
 |[],_,_,_,h=>by simp [aW.rd] at h
 |[(e',p)],e,k,r,h=>by
  simp only [aW.rd] at h
  split at h<;>try (cases h;done)
  rename_i he
  obtain ⟨x,π,h1,h2⟩:=az.dG h
  exact ⟨x,π,h1,(It he).symm,h2⟩
 |(e',p)::q::s,e,k,r,h=>by
  simp only [aW.rd] at h
  split at h
  ·rename_i he
   rcases az.Is h with h|⟨x,π,h1,h2⟩
   ·obtain ⟨x, π, h1, h2, h3⟩ := aW.dG (xs := q :: s) h
    exact ⟨.inr x,π,h1,h2,h3⟩
   ·exact ⟨.inl x,π,h1,(It he).symm,h2⟩
  ·obtain ⟨x, π, h1, h2, h3⟩ := aW.dG (xs := q :: s) h
   exact ⟨.inr x,π,h1,h2,h3⟩
def Nj {R:Type} (no:R) (pre:List Nat) (base:Nat) (p:az) (xs:aW) (inl:p.T→R) (inr:xs.T→R):Kc R:=fun e env nx bl ms=>match e with
 | .normal=>p.rd no pre base env nx bl ms inl
 | .exit i=>xs.rd no pre base (.exit i) env nx bl ms inr
 | .ret=>xs.rd no pre base .ret env nx bl ms inr
def BQ {P:Program} {N:Nat} {out:Option Nat} {base:Nat} {R:Type} (kz:Kz R) (cx:Cx) (ar:Ar) (pre:List Nat) (p:az) (xs:aW) (body:D P N out base) (inl:p.T→R) (inr:xs.T→R) (x:p.T):R :=
 fN (base+p.gI.length) fun nx=>p.go nx x fun env nx bl ms=>kE kz cx ar body env nx bl ms (Nj kz.no pre base p xs inl inr)
section
variable {P:Program} {N:Nat} {out:Option Nat} {base:Nat}
noncomputable def bE (mixed : P.follows .mixedOrders = true) (cx : Cx) (gn : cx.Ok P) (pre : List Nat) (hpre : pre = List.range base) (p : az) (xs : aW) (hxs : xs.all (fun p => !Gs p.1 .normal) = true) (body : D P N out base)
  (step:p.T→Option (p.T ⊕ xs.T)) (hstep:∀x,BQ (jf (p.T ⊕ xs.T)) cx ek pre p xs body (fun y=>some (.inl y)) (fun b=>some (.inr b)) x=step x):bS P N out base where
 c:=body.er
 run kz env nx bl ms K:=p.rd kz.no pre base env nx bl ms fun x=>kz.bd (iter step x) fun b=>xs.go kz base b K
 ok:=by
  intro X env nx bl ms K r h Q hQ
  subst hpre
  obtain ⟨x,π,h1,h2⟩:=az.dG h
  obtain ⟨b,h3,h4⟩:=pn h1
  have h5:=aW.Am h4
  refine J5 (iu mixed) (I:=p.st base) (X:=xs.st base) (step:=step) (fun x r hx=>?_) h3 h2 (hQ _ _ _ _ _ h5)
  rw [←hstep x] at hx
  unfold BQ at hx
  rw [fK,az.go_eq] at hx
  refine k9 gn hx fun e env nx bl ms hk=>?_
  unfold Nj at hk
  cases e with
  |normal =>
   obtain ⟨y,π,q1,q2⟩:=az.dG hk
   cases q1
   exact ⟨rfl,π,q2⟩
  |exit i =>
   obtain ⟨y,π,q1,q2,q3⟩:=aW.dG hk
   cases q1
   exact ⟨by simp,q2,π,q3⟩
  |ret =>
   obtain ⟨y,π,q1,q2,q3⟩:=aW.dG hk
   cases q1
   exact ⟨by simp,q2,π,q3⟩
def qx : List SP → Type → Type
 |[],A=>A
 |p::r,A=>p.T (qx r A)
def DQ {A : Type} : (ps : List SP) → qx ps A → List V
 |[],_=>[]
 |p::r,x=>p.v x::DQ r (p.r x)
def Xm {A : Type} : (ps : List SP) → qx ps A → A
 |[],x=>x
 |p::r,x=>Xm r (p.r x)
def An {A : Type} (π : List Nat) : (ps : List SP) → List V → Option (A → qx ps A)
 |[],[]=>some fun a=>a
 |p::r,v::vs=>match SP.rd (A:=qx r A) π p v with
  |some f=>match An π r vs with
   |some g=>some fun a=>f (g a)
   |none=>none
  |none=>none
 |_,_=>none
theorem DS {π : List Nat} {A : Type} : ∀ {ps : List SP} {vs : List V} {f : A → qx ps A}, An π ps vs = some f → ∀ a, CV π (DQ ps (f a)) vs ∧ Xm ps (f a) = a
 |[],[],f,h,a=>by cases h;exact ⟨.nil,rfl⟩
 |c::r,v::vs,f,h,a=>by
  simp only [An] at h
  split at h<;>try (cases h;done)
  rename_i f1 h1
  split at h<;>cases h
  rename_i g h2
  obtain ⟨q1,q2⟩:=SP.rK h1 (g a)
  obtain ⟨q3,q4⟩:=DS h2 a
  simp only [DQ,Xm,q2]
  exact ⟨.cons q1 q3,q4⟩
 |[],_::_,f,h,a=>by simp [An] at h
 |_::_,[],f,h,a=>by simp [An] at h
structure Ct where
 f:Nat
 ps:List SP
 res:SP
 fn:qx ps Unit→Option (res.T Unit)
def Ct.Ok (P:Program) (ct:Ct):Prop:=∀x y,ct.fn x=some y→gL P ct.f (DQ ct.ps x) (ct.res.v y)
theorem DT {π:List Nat}:Mu.eU (fun _=>none) π=fun _=>none:=by
 funext i;simp only [Mu.eU];cases π[i]?<;>rfl
theorem BR {f:Nat} {vs vs':List V} {v:V} {nx:Nat} {bl:ai} (h:gL P f vs' v) (hm:dg (fin ek bl 8) vs=some vs') (hs:C3 v=true) {Q:V→aF→Prop} (hQ:Q v ⟨nx,bl⟩):gN P f vs ⟨nx,bl⟩ Q:=by
 refine ⟨h.1,fun Y ι μ w as hI hl=>?_⟩
 refine (h.2 (ι.all Y.own w) w as (hI.dy.mono (aj.Bn hI.rd)) (fun b o x hx=>?_) (iW (fun v r x h hr=>vl (fun _ _ _=>rfl) hI h hr) hm hl)).mono ?_
 ·exact aj.FY hI.rd hx
 ·rintro e w' ⟨x, ι', rfl, _, _, _, jG, FV⟩
  exact ⟨x,ι,μ,v,_,rfl,aj.le_refl _,Mu.le_refl _,hI.called (aj.le_refl _) (fun _ _ _=>rfl) (dm.kept (fun b o x hx=>hI.rd b o x hx) jG) jG,DA hs FV,hQ⟩
def DU {R : Type} (kz : Kz R) (f : Nat) (vs : List V) (K : V → R) : List Ct → R
 |[]=>kz.no
 |ct::r=>match Nat.beq ct.f f with
  |true=>match An (A:=Unit) [] ct.ps vs with
   |some g=>kz.bd (ct.fn (g ())) fun y=>ct.res.kv kz y K
   |none=>DU kz f vs K r
  |false=>DU kz f vs K r
def Iu (P : Program) : List Ct → Prop
 |[]=>True
 |c::r=>c.Ok P∧Iu P r
theorem pE {X : Type} {f : Nat} {vs : List V} {K : V → Option X} {r : X} : ∀ {vr : List Ct}, Iu P vr → DU (jf X) f vs K vr = some r → ∃ v, gL P f vs v ∧ K v = some r
 |[],_,hk=>by cases hk
 |ct::vr,h,hk=>by
  simp only [DU] at hk
  split at hk
  ·rename_i hf
   have e:=Nat.eq_of_beq_eq_true hf
   subst e
   split at hk
   ·rename_i g hg
    obtain ⟨y,hy,hk⟩:=qu hk
    rw [SP.abd] at hk
    obtain ⟨q1,_⟩:=DS hg ()
    refine ⟨_,?_,hk⟩
    have hp:=h.1 _ _ hy
    exact ⟨hp.1, fun ι w as hgl hrd hl => hp.2 ι w as hgl hrd (by
     have:=aG.eU (π:=[]) q1.1 (fun i v u hv hu=>fun {x} hr=>(q1.2 i v u hv hu).rel hr) hl
     rwa [DT] at this)⟩
   ·exact pE h.2 hk
  ·exact pE h.2 hk
theorem Kj {f:Nat} {vs vs':List V} {v:V} {nx:Nat} {bl bI:ai} (h:gL P f vs' v) (hm:dg (fin ek bl 8) vs=some vs') (hb:uu (jt bl vs) bl=some bI) {Q:V→aF→Prop} (hQ:Q v ⟨nx,bI⟩):gN P f vs ⟨nx,bl⟩ Q:=by
 refine ⟨h.1,fun Y ι μ w as hI hl=>?_⟩
 obtain ⟨ι',h1,h2,h3⟩:=vn hI hb
 have hl':aG ι' (fun _=>none) vs' as.toList:=by
  have key:∀{vs vs':List V} {xs:List Value},dg (fin ek bl 8) vs=some vs'→(∀id∈jt bl vs,ze ι' μ id (au id bl))→aG ι μ vs xs→aG ι' (fun _=>none) vs' xs:=by
   intro vs
   induction vs with
   |nil=>intro vs' xs hm _ hl;cases hm;rw [hl.of_nil];exact .nil
   |cons v r ih =>
    intro vs' xs hm hfz hl
    unfold dg at hm
    split at hm<;>try (cases hm;done)
    rename_i u hu
    split at hm<;>cases hm
    rename_i us HW
    obtain ⟨x,xs',rfl,r1,r2⟩:=hl.bA
    simp only [jt,List.flatMap_cons,List.mem_append] at hfz
    exact .cons (Bq hu (fun id hid=>hfz id (.inl hid)) (r1.mono h1 (Mu.le_refl _))) (ih HW (fun id hid=>hfz id (.inr hid)) r2)
  exact key hm h3 hl
 refine (h.2 ι' w as h2.dy (fun b o x hx=>h2.rd b o x hx) hl').mono ?_
 rintro e w' ⟨x,ι2,rfl,hi,hib,hrd,jG,FV⟩
 exact ⟨x,ι2,μ,v,_,rfl,aj.le_trans h1 hi,Mu.le_refl _,h2.called hi hib hrd jG,FV.mono (aj.le_refl _) (fun _ _ h=>by cases h),hQ⟩
def Xn {R:Type} (vr:List Ct) (kz:Kz R) (f:Nat) (vs:List V) (nx:Nat) (bl:ai) (K:V→Nat→ai→R):R:=match vs.all (dJ 8) with
 |true=>DU kz f vs (fun v=>K v nx bl) vr
 |false=>match dg (fin ek bl 8) vs with
  |some vs'=>DU kz f vs' (fun v=>match C3 v with
   |true=>K v nx bl
   |false=>match uu (jt bl vs) bl with
    |some bI=>Z8 bI fun bI=>K v nx bI
    |none=>kz.no) vr
  |none=>kz.no
def mkCx (vr:List Ct):Cx where
 pc kz f vs K:=DU kz f vs K vr
 ca kz f vs nx bl K:=Xn vr kz f vs nx bl K
 rd kz _ _ _ _ _:=kz.no
theorem Rt {vr:List Ct} (h:Iu P vr):(mkCx vr).Ok P where
 U4 hk:=pE h hk
 Ri:=by
  intro X f vs nx bl K r hk Q hQ
  simp only [mkCx,Xn] at hk
  split at hk
  ·rename_i hd
   obtain ⟨v,hp,hk⟩:=pE h hk
   exact Ge hp hd (hQ _ _ _ hk)
  ·split at hk <;> try (cases hk; done)
   rename_i vs' hm
   obtain ⟨v,hp,hk⟩:=pE h hk
   split at hk
   ·rename_i hs
    exact BR hp hm hs (hQ _ _ _ hk)
   ·split at hk <;> try (cases hk; done)
    rename_i bI hb
    rw [BO] at hk
    exact Kj hp hm hb (hQ _ _ _ hk)
 Xe hk:=by cases hk
def Xo {R:Type} (kz:Kz R) (ar:Ar) (rs:List RV) (tys:List (Option Ty)) (res:SP) (k:res.T Unit→R):Kc R:=fun e env nx bl ms=>match e with
 | .exit _=>kz.no
 | .normal=>go env nx bl ms
 | .ret=>go env nx bl ms
where go (env:Env) (nx:Nat) (bl:ai) (ms:List Nat):R:=match eG ms bl with
 |some bl=>match uM ar ⟨env,⟨nx,bl⟩,[]⟩ rs with
  |some vs=>match fin ar bl 8 (uk (cO tys vs)) with
   |some v=>match SP.rd (A:=Unit) [] res v with
    |some f=>k (f ())
    |none=>kz.no
   |none=>kz.no
  |none=>kz.no
 |none=>kz.no
def fnE {R:Type} (kz:Kz R) (cx:Cx) (ar:Ar) (rs:List RV) (tys:List (Option Ty)) (ps:List SP) (res:SP) (body:D P N none 0) (k:res.T Unit→R) (x:qx ps Unit):R :=
 Rr (DQ ps x) fun vs=>kE kz cx ar body (args 0 vs) 0 [] [] (Xo kz ar rs tys res k)
theorem Kk {f : Nat} {func : Func} {fn : Fn} (hf : P.funcs[f]? = some func) (htr : cL P func = some fn) (cC : Enters P f) (gP : mQ P fn.N none 0) {vs : List V} {r : V} (hlen : vs.length ≤ fn.np)
  (h:qX (gb P fn.N none 0) fn.body ⟨args 0 vs,⟨0,[]⟩,[]⟩ (JR (gb P fn.N none 0) fn.res fn.tys (fun r'=>EV [] r r'))):gL P f vs r:=by
 refine ⟨cC,fun ι w as hgl hrd hr=>?_⟩
 let Y:Ctx:=⟨w,ι,fun _=>none,none,fun _=>False,[]⟩
 have hI:Inv P Y ι (fun _=>none) ⟨0,[]⟩ w:=⟨HQ.refl _ _,aj.le_refl _,fun _ _ _ _=>rfl,hrd,fun id L h=>h,fun _ _=>rfl,fun id B h=>by simp [au] at h,fun id id' B B' L L' h=>by simp [au] at h,fun id B h=>by simp [au] at h,hgl⟩
 have hres:LQ P func.results.toList=some fn.res:=by
  unfold cL at htr
  split at htr<;>try (cases htr;done)
  split at htr<;>try (cases htr;done)
  rename_i Qd
  split at htr<;>try (cases htr;done)
  cases htr;exact Qd
 refine H7 (Y:=Y) hf htr gP hlen h rfl rfl (fun _ _=>rfl) hI hr fun Y1 ι' μ' S' a' w' e' hY hR hq=>?_
 have key:JR.ql (gb P fn.N none 0) fn.res fn.tys (fun r'=>EV [] r r') S'→LeavesInM Fence.wide 0 P func a'.tmps (fun e w'=>∃v ι',e = .returned v∧ι.le ι'∧(∀b o,b<w.heap.size→ι' b o=ι b o)∧dm ι' w' ∧
   Dw w w'∧Rel ι' (fun _=>none) r v) a'.defers .returning w':=by
  intro hs
  unfold JR.ql at hs
  split at hs<;>try (exact hs.elim)
  rename_i bl qM
  split at hs<;>try (exact hs.elim)
  rename_i vs' hvs
  split at hs<;>try (exact hs.elim)
  rename_i r' Ru
  refine tr hres (n:=S'.H.next) (bl:=S'.H.bl) hY rfl hR.inv hR.env hR.ms qM hvs fun x w2 nW hx=>?_
  refine ⟨x,ι'.all Y.own w2,rfl,aj.le_trans nW.i0 (aj.Bn nW.rd),fun b o hb=>?_,fun b o y hy=>?_,nW.below.to (fun _ h=>h),?_⟩
  ·rw [aj.QO (fun h=>by rcases h with h|h;exact absurd hb (Nat.not_lt.2 h);exact h)];exact nW.iB b o hb (fun h=>h)
  ·exact aj.FY nW.rd hy
  ·have := hs.rel (vl (Y := Y) (ar := gb P fn.N none 0) (fun _ _ _ => rfl) nW Ru (hx fn.tys))
   rwa [DT] at this
 cases e' with
 |exit id=>exact hq.elim
 |normal=>exact ⟨.inl rfl,key hq⟩
 |ret=>exact ⟨.inr rfl,key hq⟩
theorem cK (mixed : P.follows .mixedOrders = true) {cx : Cx} (gn : cx.Ok P) {func : Func} {fn : Fn} {ct : Ct} (hf : P.funcs[ct.f]? = some func) (htr : cL P func = some fn) (cC : Enters P ct.f)
  (body:D P fn.N none 0) (hbody:body.er=fn.body) (hnp:Nat.ble ct.ps.length fn.np=true) (hfn:∀x,fnE (jf (ct.res.T Unit)) cx ek fn.res fn.tys ct.ps ct.res body some x=ct.fn x):ct.Ok P:=by
 intro x y hxy
 rw [←hfn x] at hxy
 unfold fnE at hxy
 rw [mX] at hxy
 have hlen:∀(ps:List SP) (x:qx ps Unit),(DQ ps x).length=ps.length:=by
  intro ps
  induction ps with
  |nil=>intro x;rfl
  |cons p r ih=>intro x;simp [DQ,ih]
 have hwp:=k9 (Q:=JR (gb P fn.N none 0) fn.res fn.tys (fun r=>EV [] (ct.res.v y) r)) gn hxy (fun e env nx bl ms hk=>by
  have key:Xo.go (jf (ct.res.T Unit)) ek fn.res fn.tys ct.res some env nx bl ms=some y→JR.ql (gb P fn.N none 0) fn.res fn.tys (fun r=>EV [] (ct.res.v y) r) ⟨env,⟨nx,bl⟩,ms⟩:=by
   intro hg
   unfold Xo.go at hg
   unfold JR.ql
   split at hg<;>try (cases hg;done)
   rename_i bI h1
   rw [h1]
   simp only
   split at hg<;>try (cases hg;done)
   rename_i vs h2
   rw [h2]
   simp only
   have e:fin (gb P fn.N none 0) bI 8 (uk (cO fn.tys vs))=fin ek bI 8 (uk (cO fn.tys vs)):=by unfold gb;exact wW
   rw [e]
   split at hg<;>try (cases hg;done)
   rename_i v h3
   rw [h3]
   simp only
   split at hg<;>try (cases hg;done)
   rename_i f h4
   cases hg
   exact (SP.rK h4 ()).1
  cases e with
  |exit i=>cases hk
  |normal=>exact key hk
  |ret=>exact key hk)
 rw [hbody] at hwp
 exact Kk hf htr cC (iu mixed) (by rw [hlen];exact Nat.le_of_ble_eq_true hnp) hwp
end
end Go.AM
end
