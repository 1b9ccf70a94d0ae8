/- A region whose order is drawn: whatever the order, it ends as the canonical one. Calls in the caller's heap, loops unrolled, loops over functions. A call of yield: a round of the loop. The small machine, run. The way in: what an argument reads as is data of the machine. States that stand for as much, in general: names may change, nil slices may stand for empty lists, blocks that nobody reads are forgotten. The small machine's code as a function: tests, needs and calls stay open, all else is reckoned. Patterns: what stands in slots and blocks, with places for data; read out of a state, and laid again. Code that is the same, as a test. -/
import Derived.Test.YthemjfloiapaaaaGreatAMb
import Derived.OrdersIn
import Derived.ProofKit
import Derived.OpenShut
import Derived.Maps.RangeRun
set_option linter.unusedSectionVars false
set_option linter.unusedVariables false
set_option linter.unusedSimpArgs false
section
namespace Go.AM
section
variable {P:Program} {N:Nat} {Y:Ctx} {ι ι':ax} {μ μ':Mu} {H:aG} {w w':World} {out:Option Nat} {base:Nat} {ops:Array Oper}
def mK (acc:Array Nat) (o:Oper):Array Nat:=acc.push (o.after.foldl (fun s e=>if Region.binds .any e then s ||| 2 ^ e.on ||| acc.getD e.on 0 else s) 0)
theorem AN:Region.before ops=ops.toList.foldl mK #[]:=by
 unfold Region.before
 rw [<-Array.foldl_toList];rfl
theorem xS {acc:Array Nat} {j:Nat}:∀{l:List Edge} {s:Nat},(l.foldl (fun s e=>if Region.binds .any e then s ||| 2 ^ e.on ||| acc.getD e.on 0 else s) s).testBit j=true ->
  s.testBit j=true\/∃e∈l,Region.binds .any e=true/\(j=e.on\/(acc.getD e.on 0).testBit j=true)
 |[],s,h=>.inl h
 |e::r,s,h=>by
  simp only [List.foldl_cons] at h
  rcases xS h with h1|⟨e',he',h2⟩
  ·split at h1
   ·rename_i hb
    simp only [Nat.testBit_or,Bool.or_eq_true,Nat.testBit_two_pow,decide_eq_true_eq] at h1
    rcases h1 with (h1|h1)|h1
    ·exact .inl h1
    ·exact .inr ⟨e,List.mem_cons_self ..,hb,.inl h1.symm⟩
    ·exact .inr ⟨e,List.mem_cons_self ..,hb,.inr h1⟩
   ·exact .inl h1
  ·exact .inr ⟨e',List.mem_cons_of_mem _ he',h2⟩
theorem xU : ∀ (l : List Oper) (acc : Array Nat), (l.foldl mK acc).size = acc.size + l.length
 |[],acc=>by simp
 |o::r,acc=>by simp only [List.foldl_cons,xU r,mK,Array.size_push,List.length_cons];omega
theorem xV {j:Nat}:∀(l:List Oper) (acc:Array Nat) (pre:List Oper),acc.size=pre.length ->
  (∀i,(acc.getD i 0).testBit j=true->∃o,pre[i]?=some o/\∃e∈o.after,Region.binds .any e=true/\(j=e.on\/(acc.getD e.on 0).testBit j=true)) ->
  ∀i,((l.foldl mK acc).getD i 0).testBit j=true->∃o,(pre++l)[i]?=some o/\∃e∈o.after,Region.binds .any e=true/\(j=e.on\/((l.foldl mK acc).getD e.on 0).testBit j=true)
 |[],acc,pre,hs,h,i,hi=>by simpa using h i hi
 |o::r,acc,pre,hs,h,i,hi=>by
  have:=xV r (mK acc o) (pre++[o]) (by simp [mK,hs]) (fun i hi=>?_) i hi
  ·simpa using this
  ·have keep:∀k,(acc.getD k 0).testBit j=true->((mK acc o).getD k 0).testBit j=true:=fun k hk=>by
    have hlt:k<acc.size:=by
     rcases Nat.lt_or_ge k acc.size with h|h
     ·exact h
     ·simp [Array.getD,Nat.not_lt.2 h] at hk
    simpa [mK,Array.getD,hlt,Array.getElem_push,Nat.lt_succ_of_lt hlt] using (by simpa [Array.getD,hlt] using hk:acc[k].testBit j=true)
   by_cases hlt:i<acc.size
   ·have hi':(acc.getD i 0).testBit j=true:=by
     simpa [mK,Array.getD,hlt,Array.getElem_push,Nat.lt_succ_of_lt hlt] using hi
    obtain ⟨o',ho',e,he,hb,hj⟩:=h i hi'
    exact ⟨o',by rw [List.getElem?_append_left (List.getElem?_eq_some_iff.1 ho').1];exact ho',e,he,hb,hj.imp id (keep _)⟩
   ·by_cases heq : i = acc.size
    ·subst heq
     have hi':(o.after.foldl (fun s e=>if Region.binds .any e then s ||| 2 ^ e.on ||| acc.getD e.on 0 else s) 0).testBit j=true:=by
      simpa [mK,Array.getD,Array.getElem_push] using hi
     rw [<-Array.foldl_toList] at hi'
     rcases xS hi' with h1|⟨e,he,hb,hj⟩
     ·simp at h1
     ·exact ⟨o,by rw [hs];simp,e,by simpa using he,hb,hj.imp id (keep _)⟩
    ·have : ¬ i < (mK acc o).size := by simp [mK]; omega
     simp [Array.getD,this] at hi
theorem oP {i j:Nat} (h:((Region.before ops).getD i 0).testBit j=true) :
  ∃o,ops[i]?=some o/\∃e∈o.after,Region.binds .any e=true/\(j=e.on\/((Region.before ops).getD e.on 0).testBit j=true):=by
 rw [AN] at h ⊢
 obtain ⟨o,ho,h⟩:=xV (j:=j) ops.toList #[] [] rfl (fun i hi=>by simp at hi) i h
 exact ⟨o,by simpa using ho,h⟩
theorem oQ:(Region.before ops).size=ops.size:=by rw [AN,xU];simp
theorem kr {i j:Nat}:j∈(aX ops).getD i []↔j<ops.size/\((Region.before ops).getD i 0).testBit j=true:=by
 unfold aX
 simp only [List.getD,List.getElem?_map]
 by_cases hi:i<ops.size
 ·have h:(Region.before ops).toList[i]?=some ((Region.before ops).getD i 0):=by
   have:i<(Region.before ops).size:=by rw [oQ];exact hi
   simp [Array.getD,this]
  simp [h,List.mem_filter,List.mem_range]
 ·have h1 : (Region.before ops).toList[i]? = none := List.getElem?_eq_none (by simp [oQ]; omega)
  have h2:(Region.before ops).getD i 0=0:=by simp [Array.getD,oQ,hi]
  simp [h1,h2]
theorem dP : ∀ {os : List Oper} {is : List dw}, dh P N ops os = some is → is.length = os.length ∧ ∀ (k : Nat) o it, os[k]? = some o → is[k]? = some it → lJ P N ops o = some it
 |[],is,h=>by cases h;exact ⟨rfl,fun k o it h=>by simp at h⟩
 |o::os,is,h=>by
  unfold dh at h
  split at h<;>try (cases h;done)
  rename_i it its hit Ov
  cases h
  obtain ⟨h1,h2⟩:=dP Ov
  refine ⟨by simp [h1],fun k o' it' ho hi=>?_⟩
  cases k with
  |zero=>simp at ho hi;subst ho;subst hi;exact hit
  |succ k=>exact h2 k o' it' (by simpa using ho) (by simpa using hi)
theorem Inv.pX (h:Inv P Y ι μ H w) {n:Nat} (hn:H.next<=n):Inv P Y ι μ ⟨n,H.bl⟩ w :=
 ⟨h.below,h.i0,h.iB,h.rd,h.m0,fun id hid=>h.nx id (Nat.le_trans hn hid),h.live,h.inj,fun id B hB=>Nat.lt_of_lt_of_le (h.lt id B hB) hn,h.gl⟩
theorem Inv.eqB (h:Inv P Y ι μ H w) {bl:aq} (he:EqB bl H.bl):Inv P Y ι μ ⟨H.next,bl⟩ w :=
 ⟨h.below,h.i0,h.iB,h.rd,h.m0,h.nx,fun id B hB=>h.live id B (by rw [<-he id];exact hB),fun id id' B B' L L' hb hb'=>h.inj id id' B B' L L' (by rw [<-he id];exact hb) (by rw [<-he id'];exact hb'),
  fun id B hB=>h.lt id B (by rw [<-he id];exact hB),h.gl⟩
theorem ef.Oz {B:Nat->Prop} {id:Nat} {b:lD} (h:ef P B ι μ id w b) (hw:w'.heap=w.heap):ef P B ι μ id w' b:=by
 cases b with
 |cells cs fz=>obtain ⟨L,vs,hM,h⟩:=h;exact ⟨L,vs,⟨hM.mu,hM.old,by rw [hw];exact hM.row,hM.fits,hM.one,hM.GH,hM.rI⟩,h⟩
 |arr t xs fz =>
  rcases h with h|⟨L,vs,hM,h⟩
  ·exact .inl h
  ·exact .inr ⟨L,vs,⟨hM.mu,hM.old,by rw [hw];exact hM.row,hM.fits,hM.one,hM.GH,hM.rI⟩,h⟩
 |loop st j d env ps as bd N=>unfold ef at h ⊢;rw [hw];exact h
 |iH=>unfold ef at h ⊢;rw [hw];exact h
 |map kt kg vt vg es=>unfold ef at h ⊢;rw [hw];exact h
 |oa t xs i p v =>
  obtain ⟨L,us,vs,c,hM,h⟩:=h
  exact ⟨L,us,vs,c,⟨hM.mu,hM.old,by rw [hw];exact hM.row,hM.fits,hM.one,hM.GH,hM.rI⟩,h⟩
theorem Inv.drawn (h:Inv P Y ι μ H w):Inv P Y ι μ H { w with drawn:=w.drawn+1 } :=
 ⟨⟨h.below.os,h.below.tape,h.below.output,h.below.size,h.below.block,Nat.le_succ_of_le h.below.dr,h.below.maps⟩,h.i0,h.iB,h.rd,h.m0,h.nx,fun id B hB=>(h.live id B hB).Oz rfl,h.inj,h.lt,h.gl⟩
theorem Inv.called (hI:Inv P Y ι μ H w) (hi:ι.le ι') (hib:∀b o,b<w.heap.size->ι' b o=ι b o) (hrd:dF ι' w') (jW:Dw w w'):Inv P Y ι' μ H w':=by
 have hsz:=hI.below.size
 refine ⟨hI.below.then jW,ax.le_trans hI.i0 hi,fun b o hb hx=>by rw [hib b o (by omega)];exact hI.iB b o hb hx,hrd,hI.m0,hI.nx,fun id B hB=>?_,hI.inj,hI.lt,hI.gl⟩
 have lN:=hI.live id B hB
 refine lN.mono hi (Mu.le_refl _) (fun h=>h) (fun L hL=>jW.b.block _ (lN.loc hL).2) (fun L hL ho o=>?_)
 rw [hib _ _ (lN.loc hL).2];exact ho o
theorem dF.kept (h:dF ι w) (jW:Dw w w'):dF ι w':=fun b o x hx=>by
 have h1:=h b o x hx
 have hlt:b<w.heap.size:=by
  rcases Nat.lt_or_ge b w.heap.size with h'|h'
  ·exact h'
  ·simp [World.cell?,Array.getElem?_eq_none h'] at h1
 unfold World.cell? at h1 ⊢
 simp only at h1 ⊢
 rw [jW.b.block b hlt];exact h1
theorem AO {v:V} {x:Value} (h:I2 v=true) (hr:Rel ι μ v x):Rel ι' μ' v x:=by
 cases hr<;>simp only [I2] at h<;>try (cases h;done)
 case tf=>exact .tf _
 case bool=>exact .bool _
 case int=>exact .int _ _
 case str=>exact .str _
theorem Lq {v:V} {x:Value} (h:N7 v=true) (hr:Rel ι μ v x):Rel ι' μ' v x:=by
 cases hr<;>simp only [N7] at h<;>try (cases h;done)
 case tf=>exact .tf _
 case bool=>exact .bool _
 case int=>exact .int _ _
 case str=>exact .str _
 case agg cs xs h1 h2 h3=>exact .agg cs xs h1 (fun i v x hv hx=>AO (List.all_eq_true.1 h _ (List.mem_of_getElem? hv)) (h2 i v x hv hx)) h3
theorem Ec {v:V} {x:Value} (h:DH v=true) (hr:Rel ι μ v x):Rel ι' μ' v x:=by
 cases hr<;>simp only [DH] at h<;>try (cases h;done)
 case tf=>exact .tf _
 case bool=>exact .bool _
 case int=>exact .int _ _
 case str=>exact .str _
 case agg cs xs h1 h2 h3=>exact .agg cs xs h1 (fun i v x hv hx=>AO (List.all_eq_true.1 h _ (List.mem_of_getElem? hv)) (h2 i v x hv hx)) h3
 case cS cs xs h1 h2=>exact .cS cs xs h1 fun i v x hv hx=>Lq (List.all_eq_true.1 h _ (List.mem_of_getElem? hv)) (h2 i v x hv hx)
theorem Cc {g : V → Option V} : ∀ {vs : List V}, (∀ v ∈ vs, g v = some v) → ee g vs = some vs
 |[],_=>rfl
 |v::r,h=>by simp only [ee,h v (List.mem_cons_self ..),Cc (vs:=r) (fun v hv=>h v (List.mem_cons_of_mem _ hv))]
theorem xW {ar : Ar} {bl : aq} : ∀ {n : Nat} {v : V}, dZ n v = true → fin ar bl n v = some v
 |0,v,h=>by cases h
 |n+1,v,h=>by
  have all:∀{cs:List V},cs.all (dZ n)=true->ee (fin ar bl n) cs=some cs:=fun h=>Cc fun v hv=>xW (List.all_eq_true.1 h v hv)
  cases v<;>simp only [dZ] at h<;>try (cases h;done)
  case gx cs=>simp only [fin,h,if_true]
  case fn f a b=>simp only [Bool.and_eq_true] at h;simp only [fin,all h.1,all h.2]
  case agg cs=>simp only [fin,all h]
  case cS cs=>simp only [fin,all h]
  case cL t v=>simp only [fin,xW h]
  all_goals rfl
theorem sk {v0 v:V} {x:Value} (h:vOk v0 v) (hr:Rel ι μ v0 x):Rel ι μ v x:=by
 rcases h with rfl|⟨c,rfl,rfl⟩
 ·exact hr
 ·cases hr;exact .tf _
theorem mL {S:List (Nat×V)} {a:Act} (he:fu ι μ S a.tmps) {o:Oper} {g:Option (Nat×Bool)} (hg:trG ops o.guard=some g) {c:Bool} (h:GF g S=some c):Region.wanted o (yielded ops a.tmps)=c:=by
 cases Ou:o.guard with
 |none=>rw [Ou] at hg;cases hg;cases h;simp [Region.wanted,Ou]
 |some jb =>
  obtain ⟨j,b⟩:=jb
  rw [Ou] at hg
  simp only [trG] at hg
  split at hg<;>try (cases hg;done)
  rename_i oj hoj
  split at hg<;>try (cases hg;done)
  rename_i d hdj
  cases hg
  simp only [GF] at h
  split at h<;>try (cases h;done)
  rotate_left
  ·rename_i vs hc
   cases h
   simp only [Region.wanted,Ou,uW he hoj hdj hc]
   rfl
  rename_i c' hc
  simp only [Region.wanted,Ou,xD he hoj hdj (.inl hc)]
  revert h
  cases c'<;>cases b<;>intro h<;>cases h<;>rfl
theorem Jj {b n : Nat} {t : TR} {env : List (Nat × V)} {bl : aq} {ms : List Nat} {a : Act} (hn : t.k < n) {o : Oper} (ho : ops[t.k]? = some o) (hit : lJ P N ops o = some t.it)
  (Cd:En (eW P N out base) b t env bl) (hR:dX P N Y ι μ ⟨env,⟨b+n,bl⟩,ms⟩ a w) (hfree:μ (b+t.k)=none) {Q:Exit->Act->World->Prop} {K:Act->World->Prop}
  (hK:∀ι' μ' a' w',dX P N Y ι' μ' ⟨t.D9 env,⟨b+n,t.oN bl⟩,ms⟩ a' w'->(∀id,id≠b+t.k->μ' id=μ id)->K a' w'):wpOpIn Y.F 0 P ops Q t.k K a w:=by
 obtain ⟨k,it,ac,rd⟩:=t
 simp only at hn ho hit hfree hK
 unfold lJ at hit
 split at hit<;>try (cases hit;done)
 rename_i hd
 split at hit<;>try (cases hit;done)
 rename_i g hg
 have hgrd:it.Xm=g/\it.dst=o.dst:=by
  split at hit<;>(split at hit<;>try (cases hit;done))<;>(cases hit;exact ⟨rfl,rfl⟩)
 unfold wpOpIn
 simp only [ho]
 unfold En at Cd
 cases ac with
 |skip =>
  simp only at Cd
  rw [hgrd.1] at Cd
  rw [if_neg (by rw [mL hR.env hg Cd.1];simp)]
  refine ⟨fun _ _=>trivial,hK ι μ _ _ ?_ fun _ _=>rfl⟩
  have:=hR.put hd (ax.le_refl _) (Mu.le_refl _) hR.inv Rel.und
  simpa [TR.D9,TR.oN,hgrd.2,Ac.val,Ac.Ln,bI] using this
 |op v u =>
  split at hit
  ·split at hit <;> try (cases hit; done)
   cases hit;exact Cd.elim
  ·split at hit <;> try (cases hit; done)
   cases hit;exact Cd.elim
  ·rename_i op _ _
   split at hit<;>try (cases hit;done)
   rename_i i hi
   cases hit
   obtain ⟨Dr,ob,v0,ak,cW,hv,_⟩:=Cd
   have hw:=mL hR.env hg Dr
   rw [if_pos hw]
   have hop:K8 P Y ι μ ⟨b+n,bl⟩ w (b+k) (execOp a.eval o) v0 u i.lays:=by
    rcases ak with ak|ak
    ·exact uf hR.inv hfree hR.env hi ak cW
    ·exact ug hR.inv hfree hR.env hi ak cW
   obtain ⟨ι',μ',x,w',hx,hi',hm,hne,hinv,D5⟩:=hop
   refine ⟨fun _ _=>trivial,?_⟩
   rw [Oper.semAt_eq _ _ _ (ko hi)]
   have Gl:gp i.lays (b+n) (b+k)=b+n:=by unfold gp;cases i.lays<;>simp<;>omega
   have kL:dX P N Y ι' μ' ⟨AM.put o.dst v env,⟨b+n,bI u bl⟩,ms⟩ (a.put o.dst x) w':=by
    refine hR.put hd hi' hm ?_ (sk hv D5)
    have:=hinv;simp only [Gl] at this;exact this
   rcases hx with h|⟨h,rfl⟩<;>rw [h]<;>exact hK _ _ _ _ kL hne
 |call v u =>
  obtain ⟨c,args,tys,fo,as,hop,hf,ha,rfl⟩:∃(c:Callee) (args:Array Operand) (tys:Array TypeId) (fo:O) (as:List O),o.op = .call { callee:=c,args:=args,argTypes:=tys }/\lI P c=some fo/\vF args.toList=some as/\it = .call o.dst g fo as (fW P fo tys):=by
   split at hit
   ·rename_i f args tys hop
    split at hit<;>try (cases hit;done)
    rename_i fo as hf ha
    cases hit
    exact ⟨.value f,args,tys,fo,as,hop,hf,ha,rfl⟩
   ·rename_i r name args tys hop
    split at hit<;>try (cases hit;done)
    rename_i fo as hf ha
    cases hit
    exact ⟨.invoke r name,args,tys,fo,as,hop,hf,ha,rfl⟩
   ·split at hit <;> try (cases hit; done)
    cases hit;exact Cd.elim
  obtain ⟨Dr,fid,fs,cs,vs',v0,nt,hmo,hp,hs,hv,_⟩:=Cd
  have hw:=mL hR.env hg Dr
  rw [if_pos hw]
  refine ⟨fun _ _=>trivial,?_⟩
  rw [Oper.semAt_eq _ _ _ (by rw [hop];simp)]
  have ra:=jk hR.env ha
  obtain ⟨cF,ez⟩:=hp
  obtain ⟨xs,ys,r1,r2,hrun⟩:=xH hop hf hR.env nt cF
  rw [hrun]
  have rl:aM ι μ (fs++cu (fW P fo tys) (as.map (·.ev env))++cs) (xs++args.map a.eval++ys).toList:=by
   have:=(r1.append (j8 (ts:=fW P fo tys) ra)).append r2
   simpa using this
  refine ⟨fun h=>by simp [Ctx.F,Fence.wide] at h,?_⟩
  rcases Bool.eq_false_or_eq_true (DH v0||(fs++cu (fW P fo tys) (as.map (·.ev env))++cs).all (dZ 8)) with hb|hb
  rotate_left
  ·rw [hb] at hs
   obtain ⟨ι2,i1,i2,i3⟩:=wm hR.inv (Cb hs)
   have hmo':ee (fin eu bl 8) (fs++cu (fW P fo tys) (as.map (·.ev env))++cs)=some vs':=(nJ (fun v=>by unfold eW;exact xR.symm) _).trans hmo
   refine CallsIn.mono (F:=Y.F) (ez ι2 w _ i2.dK (fun b o x hx=>i2.rd b o x hx) (Tx i1 hmo' i3 rl)) ?_
   rintro e w' ⟨v',ι',rfl,hi,hib,hrd,jW,D5⟩
   have hinv':Inv P Y ι' μ ⟨b+n,bI u bl⟩ w':=i2.called hi hib hrd jW
   exact hK _ _ _ _ (hR.put hd (ax.le_trans i1 hi) (Mu.le_refl _) hinv' (sk hv (D5.mono (ax.le_refl _) (fun _ _ h=>by cases h)))) fun _ _=>rfl
  rw [hb] at hs
  cases hs
  replace hs:=hb
  rw [Bool.or_eq_true] at hs
  rcases hs with hs|hs
  ·refine CallsIn.mono (F := Y.F) (ez (ι.all Y.own w) w _ (hR.inv.dK.mono (ax.B8 hR.inv.rd)) (fun b o x hx => ?_) (jq (fun v r x h hr => wk (fun _ _ _ => rfl) hR.inv h hr) hmo rl)) ?_
   ·exact ax.GV hR.inv.rd hx
   ·rintro e w' ⟨v', ι', rfl, _, _, _, jW, D5⟩
    have hinv':Inv P Y ι μ ⟨b+n,bl⟩ w':=hR.inv.called (ax.le_refl _) (fun _ _ _=>rfl) (dF.kept (fun b o x hx=>hR.inv.rd b o x hx) jW) jW
    exact hK _ _ _ _ (hR.put hd (ax.le_refl _) (Mu.le_refl _) hinv' (sk hv (Ec hs D5))) fun _ _=>rfl
  ·have hid:ee (fin (eW P N out base) bl 8) (fs++cu (fW P fo tys) (as.map (·.ev env))++cs)=some (fs++cu (fW P fo tys) (as.map (·.ev env))++cs) :=
    Cc fun v hv=>xW (List.all_eq_true.1 hs v hv)
   rw [hid] at hmo;cases hmo
   have rl':aM ι (fun _=>none) (fs++cu (fW P fo tys) (as.map (·.ev env))++cs) (xs++args.map a.eval++ys).toList :=
    ⟨rl.1,fun i v x hv hx=>dN (List.all_eq_true.1 hs _ (List.mem_of_getElem? hv)) (rl.2 i v x hv hx)⟩
   refine CallsIn.mono (F:=Y.F) (ez ι w _ hR.inv.dK (fun b o x hx=>hR.inv.rd b o x hx) rl') ?_
   rintro e w' ⟨v',ι',rfl,hi,hib,hrd,jW,D5⟩
   have hinv':Inv P Y ι' μ ⟨b+n,bl⟩ w':=hR.inv.called hi hib hrd jW
   exact hK _ _ _ _ (hR.put hd hi (Mu.le_refl _) hinv' (sk hv (D5.mono (ax.le_refl _) (fun _ _ h=>by cases h)))) fun _ _=>rfl
structure Good (ops:Array Oper) (m:Nat) (is:List dw) (R:List TR) (listed:Array Bool):Prop where
 sz:listed.size=ops.size
 mem:∀t∈R,t.k<m/\is[t.k]?=some t.it/\listed.getD t.k true=false
 cov:∀i,i<m->listed.getD i true=false->∃t∈R,t.k=i
 Xr:R.Pairwise (fun a b=>a.k<b.k)
 dr:R.Pairwise (DrP (aX ops))
 Zo:∀i,listed.getD i false=true->∀j∈(aX ops).getD i [],listed.getD j false=true
 le:m<=ops.size
 tl:∀i,m<=i->i<ops.size->listed.getD i true=false
theorem sn {l:Array Bool} {i:Nat} (h:l.getD i true=false):l.getD i false=false/\i<l.size:=by
 rcases Nat.lt_or_ge i l.size with h'|h'
 ·simp [h'] at h ⊢;exact h
 ·simp [Array.getElem?_eq_none h'] at h
theorem nK {l:Array Bool} {i:Nat} (h:i<l.size) (d d':Bool):l.getD i d=l.getD i d':=by simp [h]
theorem nL {b8:List (List Nat)} {is:List dw} (h:jV b8 is=true) {i j:Nat} (hij:i<j) {a b:dw} (ha:is[i]?=some a) (hb:is[j]?=some b):i∈b8.getD j []\/iN a b=true:=by
 unfold jV at h
 have hj:j<is.length:=(List.getElem?_eq_some_iff.1 hb).1
 have:=List.all_eq_true.1 (List.all_eq_true.1 h j (List.mem_range.2 hj)) i (List.mem_range.2 hij)
 simp only [ha,hb,Bool.or_eq_true] at this
 rcases this with h|h
 ·exact .inl (by simpa using h)
 ·exact .inr h
theorem jr {m:Nat} {is:List dw} {R:List TR} {listed:Array Bool} (hG:Good ops m is R listed) {i:Nat} (hi:i∈Region.ready .any ops listed):∀j∈(aX ops).getD i [],listed.getD j false=true:=by
 intro j hj
 obtain ⟨_,o,ho,hall⟩:=mem_ready.1 hi
 obtain ⟨hjs,ht⟩:=kr.1 hj
 obtain ⟨o',ho',e,he,hb,h⟩:=oP ht
 rw [ho] at ho';cases ho'
 have hl:=hall e he hb
 rcases h with rfl|h
 ·exact hl
 ·exact hG.Zo _ hl j (kr.2 ⟨hjs,h⟩)
theorem OA {m:Nat} {is:List dw} {R:List TR} {listed:Array Bool} (hG:Good ops m is R listed) (bY:fh ops=true) {k:Nat} (h1:k<ops.size) (h3:listed.getD k true=false) (oR:∀i,i<k->listed.getD i true=true):k∈Region.ready .any ops listed:=by
 refine mem_ready.2 ⟨h3,ops[k],by simp [h1],fun e he hb=>?_⟩
 have hlt:e.on<k:=by
  unfold fh at bY
  have hmem:(ops[k],k)∈ops.toList.zipIdx:=by
   rw [List.mem_zipIdx_iff_getElem?];simp [h1]
  have:=List.all_eq_true.1 bY _ hmem
  simp only at this
  have:=Array.all_eq_true_iff_forall_mem.1 this e he
  simpa [hb] using this
 have hlt':e.on<listed.size:=by rw [hG.sz];omega
 rw [nK hlt' false true];exact oR _ hlt
theorem nM {m:Nat} {is:List dw} {t:TR} {R:List TR} {listed:Array Bool} (hG:Good ops m is (t::R) listed) (bY:fh ops=true):t.k∈Region.ready .any ops listed:=by
 obtain ⟨h1,_,h3⟩:=hG.mem t (List.mem_cons_self ..)
 refine OA hG bY (by have:=hG.le;omega) h3 fun i hi=>?_
 rcases Bool.eq_false_or_eq_true (listed.getD i true) with h|h
 ·exact h
 ·obtain ⟨t', ht', hk⟩ := hG.cov i (by omega) h
  rcases List.mem_cons.1 ht' with rfl|ht'
  ·omega
  ·have := (List.pairwise_cons.1 hG.Xr).1 t' ht'
   omega
theorem Good.step {m:Nat} {is:List dw} {L1 L2:List TR} {t:TR} {listed:Array Bool} (hG:Good ops m is (L1++t::L2) listed) (hr:t.k∈Region.ready .any ops listed):Good ops m is (L1++L2) (listed.setIfInBounds t.k true):=by
 have hsub:(L1++L2).Sublist (L1++t::L2):=(List.Sublist.refl L1).append (List.sublist_cons_self t L2)
 have hne:∀x∈L1++L2,x.k≠t.k:=fun x hx=>by
  have:=List.pairwise_append.1 hG.Xr
  rcases List.mem_append.1 hx with h|h
  ·exact Nat.ne_of_lt (this.2.2 x h t (List.mem_cons_self ..))
  ·exact Nat.ne_of_gt ((List.pairwise_cons.1 this.2.1).1 x h)
 refine ⟨by simp [hG.sz],fun x hx=>?_,fun i hi SD=>?_,hG.Xr.sublist hsub,hG.dr.sublist hsub,fun i hi j hj=>?_,hG.le,fun i hi hi2=>?_⟩
 ·obtain ⟨h1, h2, h3⟩ := hG.mem x (hsub.subset hx)
  exact ⟨h1,h2,by rw [getD_set_ne true (Ne.symm (hne x hx))];exact h3⟩
 ·have hki:t.k≠i:=fun e=>by
   subst e
   have:t.k<listed.size:=by rw [hG.sz];exact Nat.lt_of_lt_of_le hi hG.le
   simp [this] at SD
  rw [getD_set_ne true hki] at SD
  obtain ⟨x,hx,hk⟩:=hG.cov i hi SD
  refine ⟨x,?_,hk⟩
  rcases List.mem_append.1 hx with h|h
  ·exact List.mem_append_left _ h
  ·rcases List.mem_cons.1 h with rfl | h
   ·exact absurd hk hki
   ·exact List.mem_append_right _ h
 ·refine getD_set_true ?_
  by_cases hki:t.k=i
  ·subst hki;exact jr hG hr j hj
  ·rw [getD_set_ne false hki] at hi
   exact hG.Zo i hi j hj
 ·have hk := (hG.mem t (List.mem_append_right _ (List.mem_cons_self ..))).1
  rw [getD_set_ne true (by omega)]
  exact hG.tl i hi hi2
theorem u9 {os:List Oper} {is:List dw} {k:Nat} (h:dh P N ops os=some is):dh P N ops (os.drop k)=some (is.drop k):=by
 induction k generalizing os is with
 |zero=>simpa using h
 |succ k ih =>
  cases os with
  |nil=>cases h;rfl
  |cons o os =>
   unfold dh at h
   split at h<;>try (cases h;done)
   rename_i it its hit Ov
   cases h
   simpa using ih Ov
theorem xX {m:Nat} (bY:fh ops=true) (js:∀i,m<=i->i<ops.size->∀j,j<i->j∈(aX ops).getD i []) {Q:Exit->Act->World->Prop}:∀(n k:Nat) {listed:Array Bool} {a:Act} {w:World},
  m<=k->k+n=ops.size->listed.size=ops.size->(∀i,i<k->listed.getD i true=true)->(∀i,k<=i->i<ops.size->listed.getD i true=false) ->
  (∀i,listed.getD i false=true->∀j∈(aX ops).getD i [],listed.getD j false=true)->wpOpsIn Y.F 0 P ops Q (List.range' k n) a w->wpAnyIn Y.F 0 P .any ops Q n listed a w
 |0,k,listed,a,w,hm,hk,hsz,oR,Jk,uq,h=>by
  refine ⟨?_,h⟩
  cases hr:Region.ready .any ops listed with
  |nil=>rfl
  |cons i r =>
   have hi:i∈Region.ready .any ops listed:=by rw [hr];exact List.mem_cons_self ..
   obtain ⟨h0,o,ho,_⟩:=mem_ready.1 hi
   have:=(Array.getElem?_eq_some_iff.1 ho).1
   rw [oR i (by omega)] at h0;cases h0
 |n+1,k,listed,a,w,hm,hk,hsz,oR,Jk,uq,h=>by
  have hks:k<ops.size:=by omega
  have hrk:k∈Region.ready .any ops listed:=by
   refine mem_ready.2 ⟨Jk k (Nat.le_refl _) hks,ops[k],by simp [hks],fun e he hb=>?_⟩
   have hlt:e.on<k:=by
    unfold fh at bY
    have hmem:(ops[k],k)∈ops.toList.zipIdx:=by
     rw [List.mem_zipIdx_iff_getElem?];simp [hks]
    have:=List.all_eq_true.1 bY _ hmem
    simp only at this
    have:=Array.all_eq_true_iff_forall_mem.1 this e he
    simpa [hb] using this
   have hlt':e.on<listed.size:=by rw [hsz];omega
   rw [nK hlt' false true];exact oR _ hlt
  have hrp:∀i,i∈Region.ready .any ops listed->∀j∈(aX ops).getD i [],listed.getD j false=true:=by
   intro i hi j hj
   obtain ⟨_,o,ho,hall⟩:=mem_ready.1 hi
   obtain ⟨hjs,ht⟩:=kr.1 hj
   obtain ⟨o',ho',e,he,hb,h⟩:=oP ht
   rw [ho] at ho';cases ho'
   have hl:=hall e he hb
   rcases h with rfl|h
   ·exact hl
   ·exact uq _ hl j (kr.2 ⟨hjs,h⟩)
  refine ⟨fun h0=>(by rw [h0] at hrk;cases hrk),fun i hi=>?_⟩
  obtain ⟨h0,o,ho,_⟩:=mem_ready.1 hi
  have jy:=(Array.getElem?_eq_some_iff.1 ho).1
  have hik:i=k:=by
   rcases Nat.lt_trichotomy i k with h1|h1|h1
   ·rw [oR i h1] at h0;cases h0
   ·exact h1
   ·have := hrp i hi k (js i (by omega) jy k h1)
    rw [(sn (Jk k (Nat.le_refl _) hks)).1] at this;cases this
  subst hik
  rw [List.range'_succ,wpOpsIn_cons] at h
  refine wpOpIn_mono (fun a' w' h'=>xX bY js n (i+1) (by omega) (by omega) (by simpa using hsz) (fun j hj=>?_) (fun j hj hj2=>?_) (fun x hx j hj=>?_) h') h
  ·by_cases e : i = j
   ·subst e;simp [hsz,hks]
   ·rw [getD_set_ne true e];exact oR j (by omega)
  ·rw [getD_set_ne true (by omega)];exact Jk j (by omega) hj2
  ·refine getD_set_true ?_
   by_cases e:i=x
   ·subst e;exact hrp i hi j hj
   ·rw [getD_set_ne false e] at hx
    exact uq x hx j hj
theorem OB {is : List dw} {m : Nat} (js : ∀ i, m ≤ i → i < ops.size → ∀ j, j < i → j ∈ (aX ops).getD i []) (jy : dh P N ops ops.toList = some is) (dA : jV (aX ops) is = true) (bY : fh ops = true) {b : Nat} {ms : List Nat} {F : List (Nat × V) → aq → Prop} (hF : xP F)
  {Q:Exit->Act->World->Prop} (hend:∀ι μ env bl a w,dX P N Y ι μ ⟨env,⟨b+m,bl⟩,ms⟩ a w->F env bl->wpOpsIn Y.F 0 P ops Q (List.range' m (ops.size - m)) a w) :
  ∀(fuel:Nat) {R:List TR} {listed:Array Bool} {a:Act} {w:World} {ι:ax} {μ:Mu} {env:List (Nat×V)} {bl:aq},fuel=R.length+(ops.size - m)->Good ops m is R listed->jX (eW P N out base) b R env bl F ->
   dX P N Y ι μ ⟨env,⟨b+m,bl⟩,ms⟩ a w->(∀t∈R,μ (b+t.k)=none)->wpAnyIn Y.F 0 P .any ops Q fuel listed a w
 |fuel,R,listed,a,w,ι,μ,env,bl,hl,hG,hrun,hR,hfr=>by
  rcases Decidable.em (R=[]) with mc|mc
  ·subst mc
   have hle:=hG.le
   have hf:fuel=ops.size - m:=by simpa using hl
   rw [hf]
   refine xX bY js (ops.size - m) m (Nat.le_refl _) (by omega) hG.sz (fun i hi=>?_) hG.tl hG.Zo (hend _ _ _ _ _ _ hR hrun)
   rcases Bool.eq_false_or_eq_true (listed.getD i true) with h|h
   ·exact h
   ·obtain ⟨t,ht,_⟩:=hG.cov i hi h;simp at ht
  obtain ⟨fuel,rfl⟩:∃f,fuel=f+1:=⟨fuel - 1,by have:=List.length_pos_iff.2 mc;omega⟩
  ·refine ⟨fun h0 => ?_, fun i hi => ?_⟩
   ·cases R with
    |nil=>exact absurd rfl mc
    |cons t R=>have:=nM hG bY;rw [h0] at this;simp at this
   ·obtain ⟨h0, o, ho, _⟩ := mem_ready.1 hi
    have him:i<m:=by
     rcases Nat.lt_or_ge i m with h|h
     ·exact h
     ·exfalso
      have vH:=(Array.getElem?_eq_some_iff.1 ho).1
      cases R with
      |nil=>exact mc rfl
      |cons t R =>
       have Jl:=hG.mem t (List.mem_cons_self ..)
       have:=jr hG hi _ (js i h vH t.k (by omega))
       rw [(sn Jl.2.2).1] at this;cases this
    obtain ⟨t,ht,hk⟩:=hG.cov i him h0
    subst hk
    obtain ⟨L1,L2,rfl⟩:=List.append_of_mem ht
    have hAp:∀x∈L1,Ox x t:=fun x hx=>by
     have hp:=(List.pairwise_append.1 hG.Xr).2.2 x hx t (List.mem_cons_self ..)
     have hd:=(List.pairwise_append.1 hG.dr).2.2 x hx t (List.mem_cons_self ..)
     have Le:=hG.mem x (List.mem_append_left _ hx)
     have Jl:=hG.mem t ht
     have hnot:x.k∉(aX ops).getD t.k []:=fun h=>by
      have:=jr hG hi _ h
      rw [(sn Le.2.2).1] at this;cases this
     rcases nL dA hp Le.2.1 Jl.2.1 with h|h
     ·exact absurd h hnot
     ·rcases hd with h' | h'
      ·exact absurd h' hnot
      ·exact ⟨h,h'.1,h'.2⟩
    obtain ⟨Cd,qw⟩:=pull hF hAp hrun
    have Jl:=hG.mem t ht
    have hit:=(dP jy).2 t.k o t.it (by simpa using ho) Jl.2.1
    refine Jj Jl.1 ho hit Cd hR (hfr t ht) fun ι' μ' a' w' fU hne=>?_
    have hG':=hG.step hi
    refine OB js jy dA bY hF hend fuel (R:=L1++L2) (by simp at hl ⊢;omega) hG' qw fU fun x hx=>?_
    have hx':x∈L1++t::L2:=((List.Sublist.refl L1).append (List.sublist_cons_self t L2)).subset hx
    have h1:=(hG'.mem x hx).2.2
    have hnk:x.k≠t.k:=fun e=>by
     rw [e] at h1
     have:t.k<listed.size:=by rw [hG.sz];have:=hG.le;omega
     simp [this] at h1
    rw [hne _ (by omega)];exact hfr x hx'
theorem ur {ar : Ar} {b : Nat} {F G : List (Nat × V) → aq → Prop} (h : ∀ e bl, F e bl → G e bl) : ∀ {ts : List TR} {env : List (Nat × V)} {bl : aq}, jX ar b ts env bl F → jX ar b ts env bl G
 |[],_,_,hr=>h _ _ hr
 |_::_,_,_,hr=>⟨hr.1,ur h hr.2⟩
theorem xY {ar : Ar} {b : Nat} {p : Prop} {F : List (Nat × V) → aq → Prop} : ∀ {ts : List TR} {env : List (Nat × V)} {bl : aq}, jX ar b ts env bl (fun e bl => p ∧ F e bl) → p ∧ jX ar b ts env bl F
 |[],_,_,hr=>hr
 |_::_,_,_,hr=>let ⟨h1,h2⟩:=xY hr.2;⟨h1,hr.1,h2⟩
theorem Tz {ar:Ar} {e:gI} {vs:List V} {bl:aq} {n n':Nat} (h:e.lays=false):iL ar e vs bl n=iL ar e vs bl n':=by
 cases e<;>first|rfl|(cases h;done)
theorem Jm {ar:Ar} {i:I} {env:List (Nat×V)} {bl:aq} {n n':Nat} (h:i.lays=false):b7 ar i env bl n=b7 ar i env bl n':=by
 cases i<;>first|rfl|exact Tz h|(cases h;done)
theorem Jn {ar:Ar} {i:I} {env:List (Nat×V)} {bl:aq} {n n':Nat} (h:i.lays=false):wW ar i env bl n=wW ar i env bl n':=by
 cases i<;>first|rfl|(cases h;done)
structure Pu (t:TR):Prop where
 rd:t.rd=[]
 up:t.ac.Ln=[]
 it:hpure t.it=true
theorem Pu.oN {t:TR} (h:Pu t) {bl:aq}:t.oN bl=bl:=by unfold TR.oN;rw [h.up];rfl
theorem vc {it:dw} (h:hpure it=true):∃d i,it = .op d none i/\i.lays=false:=by
 cases it with
 |call=>cases h
 |op d g i =>
  cases g with
  |some=>cases h
  |none=>exact ⟨d,i,rfl,by simpa [hpure] using h⟩
theorem Pu.en {ar:Ar} {b b':Nat} {t:TR} (h:Pu t) {env:List (Nat×V)} {bl bP:aq} {k':Nat} (he:En ar b t env bl):En ar b' { t with k:=k' } env bP:=by
 have he2:En ar b t env bP:=mI (fun _ _=>rfl) (fun id hid=>by rw [h.rd] at hid;cases hid) he
 obtain ⟨k,it,ac,rd⟩:=t
 obtain ⟨d,i,rfl,hl⟩:=vc h.it
 unfold En at he2 ⊢
 cases ac with
 |skip=>exact he2
 |call=>exact he2.elim
 |op v u =>
  obtain ⟨Dr,ob,v0,ak,cW,hv,hrd⟩:=he2
  exact ⟨Dr,ob,v0,ak.imp (fun h=>by rw [Jm (n':=b+k) hl];exact h) (fun h=>by rw [Jn (n':=b+k) hl];exact h),cW,hv,hrd⟩
theorem Jo {ar : Ar} {b b' : Nat} {bP : aq} (f : TR → Nat) : ∀ {ts : List TR} {env : List (Nat × V)} {bl : aq} {F : List (Nat × V) → aq → Prop}, (∀ t ∈ ts, Pu t) → jX ar b ts env bl F → jX ar b' (ts.map fun t => { t with k := f t }) env bP fun e _ => F e bl
 |[],_,_,_,_,h=>h
 |t::ts,env,bl,F,hp,h=>by
  have ht:=hp t (List.mem_cons_self ..)
  obtain ⟨h1,h2⟩:=h
  rw [ht.oN] at h2
  have h3:=Jo (b':=b') (bP:=bP) f (fun x hx=>hp x (List.mem_cons_of_mem _ hx)) h2
  refine ⟨ht.en h1,?_⟩
  have e:TR.oN { t with k:=f t } bP=bP:=ht.oN
  rw [e];exact h3
theorem OC {t : TR} (hp : Pu t) {o : Oper} (ho : ops[t.k]? = some o) (hit : lJ P N ops o = some t.it) {b : Nat} {env : List (Nat × V)} {Gm : aq} (Cd : En (eW P N out base) b t env Gm) {ms : List Nat} {a : Act}
  (hR:dX P N Y ι μ ⟨env,H,ms⟩ a w) {Q:Exit->Act->World->Prop} {K:Act->World->Prop}
  (hK:∀ι' μ' a' w',dX P N Y ι' μ' ⟨t.D9 env,H,ms⟩ a' w'->K a' w'):wpOpIn Y.F 0 P ops Q t.k K a w:=by
 have TA:En (eW P N out base) b t env H.bl:=mI (fun _ _=>rfl) (fun id hid=>by rw [hp.rd] at hid;cases hid) Cd
 obtain ⟨k,it,ac,rd⟩:=t
 obtain ⟨d,i,rfl,hl⟩:=vc hp.it
 have hu:=hp.up
 simp only at ho hit hK hu
 unfold lJ at hit
 split at hit<;>try (cases hit;done)
 rename_i hd
 split at hit<;>try (cases hit;done)
 rename_i g hg
 split at hit
 ·split at hit<;>cases hit
 ·split at hit<;>cases hit
 ·split at hit <;> try (cases hit; done)
  rename_i i' hi
  cases hit
  unfold En at TA
  cases ac with
  |skip=>exact absurd TA.1 (by simp [dw.Xm,GF])
  |call=>exact TA.elim
  |op v u =>
   simp only [Ac.Ln] at hu
   subst hu
   obtain ⟨Dr,ob,v0,ak,cW,hv,hrd⟩:=TA
   have hw:=mL hR.env hg Dr
   unfold wpOpIn
   simp only [ho]
   rw [if_pos hw]
   have hop:K8 P Y ι μ H w H.next (execOp a.eval o) v0 [] i.lays:=by
    rcases ak with ak|ak
    ·rw [Jm (n' := H.next) hl] at ak
     exact uf hR.inv (hR.inv.nx _ (Nat.le_refl _)) hR.env hi ak cW
    ·rw [Jn (n' := H.next) hl] at ak
     exact ug hR.inv (hR.inv.nx _ (Nat.le_refl _)) hR.env hi ak cW
   obtain ⟨ι',μ',x,w',hx,hi',hm,hne,hinv,D5⟩:=hop
   refine ⟨fun _ _=>trivial,?_⟩
   rw [Oper.semAt_eq _ _ _ (ko hi)]
   have kL:dX P N Y ι' μ' ⟨AM.put o.dst v env,H,ms⟩ (a.put o.dst x) w':=by
    refine hR.put hd hi' hm ?_ (sk hv D5)
    rw [hl] at hinv
    exact hinv
   rcases hx with h|⟨h,rfl⟩<;>rw [h]<;>exact hK _ _ _ _ kL
theorem adL {k : Nat} {o : Oper} (ho : ops[k]? = some o) {d : Option Nat} {fid : Nat} {fs cs : List V} {as : List O} {tys : List (Option Ty)} (hit : lJ P N ops o = some (.call d none (.c (.fn fid fs cs)) as tys))
  {env:List (Nat×V)} {ms:List Nat} {a:Act} (hR:dX P N Y ι μ ⟨env,H,ms⟩ a w) {Qc:V->aG->Prop} (ez:eV P fid (fs++cu tys (as.map (·.ev env))++cs) H Qc) {Q:Exit->Act->World->Prop} {K:Act->World->Prop}
  (hK:∀ι' μ' v H' a' w',dX P N Y ι' μ' ⟨put d v env,H',ms⟩ a' w'->Qc v H'->K a' w'):wpOpIn Y.F 0 P ops Q k K a w:=by
 unfold lJ at hit
 split at hit<;>try (cases hit;done)
 rename_i hd
 split at hit<;>try (cases hit;done)
 rename_i g hg
 obtain ⟨cl,args,OD,fo,as0,hop,hf,ha,heq⟩:∃(c:Callee) (args:Array Operand) (OD:Array TypeId) (fo:O) (as0:List O),o.op = .call { callee:=c,args:=args,argTypes:=OD }/\lI P c=some fo/\vF args.toList=some as0/\(.call d none (.c (.fn fid fs cs)) as tys:dw) = .call o.dst g fo as0 (fW P fo OD):=by
  split at hit
  ·rename_i f args tys hop
   split at hit<;>try (cases hit;done)
   rename_i fo as hf ha
   exact ⟨.value f,args,tys,fo,as,hop,hf,ha,(Option.some.inj hit).symm⟩
  ·rename_i r name args tys hop
   split at hit<;>try (cases hit;done)
   rename_i fo as hf ha
   exact ⟨.invoke r name,args,tys,fo,as,hop,hf,ha,(Option.some.inj hit).symm⟩
  ·split at hit<;>try (cases hit;done)
 obtain ⟨rfl,rfl,rfl,rfl,rfl⟩:=dw.call.inj heq
 have hw:=mL (c:=true) hR.env hg rfl
 have ra:=jk hR.env ha
 unfold wpOpIn
 simp only [ho]
 rw [if_pos hw]
 obtain ⟨cF,ez⟩:=ez
 obtain ⟨xs,ys,r1,r2,hrun⟩:=xH hop hf hR.env rfl cF
 refine ⟨fun _ _=>trivial,?_⟩
 rw [Oper.semAt_eq _ _ _ (by rw [hop];simp),hrun]
 have rl:aM ι μ (fs++cu (fW P (.c (.fn fid fs cs)) OD) (as.map (·.ev env))++cs) (xs++args.map a.eval++ys).toList:=by
  have:=(r1.append (j8 (ts:=fW P (.c (.fn fid fs cs)) OD) ra)).append r2
  simpa using this
 refine ⟨fun h=>by simp [Ctx.F,Fence.wide] at h,?_⟩
 refine CallsIn.mono (F:=Y.F) (ez Y ι μ w _ hR.inv rl) ?_
 rintro e w' ⟨v,ι',μ',r,H',rfl,hi,hm,hinv,hv,hq⟩
 exact hK _ _ _ _ _ _ (hR.put hd hi hm hinv hv) hq
theorem sq {is:List dw} {m:Nat} (dA:jV (aX ops) is=true) {L1 L2:List TR} {t:TR} {listed:Array Bool} (hG:Good ops m is (L1++t::L2) listed) (hi:t.k∈Region.ready .any ops listed):∀x∈L1,Ox x t:=fun x hx=>by
 have hp:=(List.pairwise_append.1 hG.Xr).2.2 x hx t (List.mem_cons_self ..)
 have hd:=(List.pairwise_append.1 hG.dr).2.2 x hx t (List.mem_cons_self ..)
 have Le:=hG.mem x (List.mem_append_left _ hx)
 have Jl:=hG.mem t (List.mem_append_right _ (List.mem_cons_self ..))
 have hnot:x.k∉(aX ops).getD t.k []:=fun h=>by
  have:=jr hG hi _ h
  rw [(sn Le.2.2).1] at this;cases this
 rcases nL dA hp Le.2.1 Jl.2.1 with h|h
 ·exact absurd h hnot
 ·rcases hd with h' | h'
  ·exact absurd h' hnot
  ·exact ⟨h,h'.1,h'.2⟩
theorem Ed {is:List dw} {m:Nat} (js:∀i,m<=i->i<ops.size->∀j,j<i->j∈(aX ops).getD i []) {R:List TR} {listed:Array Bool} (hG:Good ops m is R listed) (mc:R≠[]) {i:Nat} (hi:i∈Region.ready .any ops listed):∃t∈R,t.k=i:=by
 obtain ⟨h0,o,ho,_⟩:=mem_ready.1 hi
 have him:i<m:=by
  rcases Nat.lt_or_ge i m with h|h
  ·exact h
  ·exfalso
   have vH:=(Array.getElem?_eq_some_iff.1 ho).1
   cases R with
   |nil=>exact mc rfl
   |cons t R =>
    have Jl:=hG.mem t (List.mem_cons_self ..)
    have:=jr hG hi _ (js i h vH t.k (by omega))
    rw [(sn Jl.2.2).1] at this;cases this
 exact hG.cov i him h0
theorem Xs {is : List dw} {m : Nat} (js : ∀ i, m ≤ i → i < ops.size → ∀ j, j < i → j ∈ (aX ops).getD i []) (jy : dh P N ops ops.toList = some is) (dA : jV (aX ops) is = true) (bY : fh ops = true) {ms : List Nat} {F : List (Nat × V) → aG → Prop} (hF : ∀ {e e' : List (Nat × V)} {H : aG}, AK e e' → F e H → F e' H)
  {Q:Exit->Act->World->Prop} (hend:∀ι μ env H a w,dX P N Y ι μ ⟨env,H,ms⟩ a w->F env H->wpOpsIn Y.F 0 P ops Q (List.range' m (ops.size - m)) a w) :
  ∀(fuel:Nat) {R:List TR} {listed:Array Bool} {a:Act} {w:World} {ι:ax} {μ:Mu} {env:List (Nat×V)} {H:aG},fuel=R.length+(ops.size - m)->Good ops m is R listed->(∀t∈R,Pu t)->jX (eW P N out base) 0 R env [] (fun e _=>F e H) ->
   dX P N Y ι μ ⟨env,H,ms⟩ a w->wpAnyIn Y.F 0 P .any ops Q fuel listed a w
 |fuel,R,listed,a,w,ι,μ,env,H,hl,hG,hp,hrun,hR=>by
  rcases Decidable.em (R=[]) with mc|mc
  ·subst mc
   have hle:=hG.le
   have hf:fuel=ops.size - m:=by simpa using hl
   rw [hf]
   refine xX bY js (ops.size - m) m (Nat.le_refl _) (by omega) hG.sz (fun i hi=>?_) hG.tl hG.Zo (hend _ _ _ _ _ _ hR hrun)
   rcases Bool.eq_false_or_eq_true (listed.getD i true) with h|h
   ·exact h
   ·obtain ⟨t,ht,_⟩:=hG.cov i hi h;simp at ht
  obtain ⟨fuel,rfl⟩:∃f,fuel=f+1:=⟨fuel - 1,by have:=List.length_pos_iff.2 mc;omega⟩
  refine ⟨fun h0=>?_,fun i hi=>?_⟩
  ·cases R with
   |nil=>exact absurd rfl mc
   |cons t R=>have:=nM hG bY;rw [h0] at this;simp at this
  ·obtain ⟨t, ht, rfl⟩ := Ed js hG mc hi
   obtain ⟨h0,o,ho,_⟩:=mem_ready.1 hi
   obtain ⟨L1,L2,rfl⟩:=List.append_of_mem ht
   obtain ⟨Cd,qw⟩:=pull (F:=fun e _=>F e H) (fun _ _ _ _ he _ h=>hF he h) (sq dA hG hi) hrun
   have hpt:=hp t ht
   rw [hpt.oN] at qw
   have hit:=(dP jy).2 t.k o t.it (by simpa using ho) (hG.mem t ht).2.1
   refine OC hpt ho hit Cd hR fun ι' μ' a' w' fU=>?_
   refine Xs (F:=F) js jy dA bY hF hend fuel (R:=L1++L2) (by simp at hl ⊢;omega) (hG.step hi) (fun x hx=>hp x ?_) qw fU
   exact ((List.Sublist.refl L1).append (List.sublist_cons_self t L2)).subset hx
theorem Lr {it:dw} {d:Option Nat} {v:V} {env:List (Nat×V)} (h:ny d it.uses=true):(∀x∈it.os,x.ev (put d v env)=x.ev env):=(Jh fun t ht=>nI h t ht).1
theorem xZ {f:Nat} {vs:List V} {Q Q':V->aG->Prop} (h:eV P f vs H Q) (hq:∀v H,Q v H->Q' v H):eV P f vs H Q' :=
 ⟨h.1,fun Y ι μ w as hI hr=>(h.2 Y ι μ w as hI hr).mono fun e w' ⟨v,ι',μ',r,H',h1,h2,h3,h4,h5,h6⟩=>⟨v,ι',μ',r,H',h1,h2,h3,h4,h5,hq _ _ h6⟩⟩
theorem AP {c:TR} {d:Option Nat} {fid:Nat} {fs cs:List V} {as:List O} {tys:List (Option Ty)} (hc:c.it = .call d none (.c (.fn fid fs cs)) as tys) {b:Nat} {G:List (Nat×V)->aG->Prop} {bl:aq}:∀{R:List TR} {env:List (Nat×V)},
  (∀x∈R,Pu x/\ny x.it.dst c.it.uses=true/\ny d x.it.uses=true/\(∀s,d=some s->x.it.dst≠some s)) ->
  jX (eW P N out base) b R env bl (fun e _=>∃e0,AK e0 e/\eV P fid (fs++cu tys (as.map (·.ev e0))++cs) H fun v H'=>G (put d v e0) H') ->
  eV P fid (fs++cu tys (as.map (·.ev env))++cs) H fun v H'=>jX (eW P N out base) b R (put d v env) bl fun e _=>∃e0,AK e0 e/\G e0 H'
 |[],env,_,⟨e0,he,h⟩=>by
  have e1:as.map (·.ev e0)=as.map (·.ev env):=dG fun x _=>D8 fun t _=>he t
  rw [e1] at h
  exact xZ h fun v H' hg=>⟨_,AK.put he,hg⟩
 |x::R,env,hx,h=>by
  obtain ⟨hp,n1,n2,n3⟩:=hx x (List.mem_cons_self ..)
  obtain ⟨h1,h2⟩:=h
  rw [hp.oN] at h2
  have h3:=AP hc (fun y hy=>hx y (List.mem_cons_of_mem _ hy)) h2
  have e1:as.map (·.ev (x.D9 env))=as.map (·.ev env):=dG fun y hy=>Lr n1 y (by rw [hc];simp [dw.os,hy])
  rw [e1] at h3
  refine xZ h3 fun v H' hg=>⟨mI (fun s hs=>(nI n2 s hs).symm) (fun _ _=>rfl) h1,?_⟩
  rw [hp.oN]
  refine qP (fun e e' _ _ he _ ⟨e0,q1,q2⟩=>⟨e0,q1.trans he,q2⟩) (fun s=>?_) (fun _=>rfl) hg
  simp only [TR.D9,r9]
  by_cases q1:d=some s
  ·by_cases q2 : x.it.dst = some s
   ·exact absurd q2 (n3 s q1)
   ·simp [q1,q2]
  ·simp [q1]
theorem OE {is : List dw} {m : Nat} (js : ∀ i, m ≤ i → i < ops.size → ∀ j, j < i → j ∈ (aX ops).getD i []) (jy : dh P N ops ops.toList = some is) (dA : jV (aX ops) is = true) (bY : fh ops = true) {ms : List Nat} {G : List (Nat × V) → aG → Prop}
  {Q:Exit->Act->World->Prop} (hend:∀ι μ env H a w,dX P N Y ι μ ⟨env,H,ms⟩ a w->(∃e0,AK e0 env/\G e0 H)->wpOpsIn Y.F 0 P ops Q (List.range' m (ops.size - m)) a w)
  {c:TR} {d:Option Nat} {fid:Nat} {fs cs:List V} {as:List O} {tys:List (Option Ty)} (hc:c.it = .call d none (.c (.fn fid fs cs)) as tys) (Zp:∀k,k<m->c.k<k->c.k∉(aX ops).getD k []) {H:aG} :
  ∀(fuel:Nat) {La Lb:List TR} {listed:Array Bool} {a:Act} {w:World} {ι:ax} {μ:Mu} {env:List (Nat×V)},fuel=(La++c::Lb).length+(ops.size - m)->Good ops m is (La++c::Lb) listed->(∀t∈La++Lb,Pu t) ->
   jX (eW P N out base) 0 (La++Lb) env [] (fun e _=>∃e0,AK e0 e/\eV P fid (fs++cu tys (as.map (·.ev e0))++cs) H fun v H'=>G (put d v e0) H') ->
   dX P N Y ι μ ⟨env,H,ms⟩ a w->wpAnyIn Y.F 0 P .any ops Q fuel listed a w
 |fuel,La,Lb,listed,a,w,ι,μ,env,hl,hG,hp,hrun,hR=>by
  obtain ⟨fuel,rfl⟩:∃f,fuel=f+1:=⟨fuel - 1,by simp at hl;omega⟩
  have tY:xP fun e (_:aq)=>∃e0,AK e0 e/\eV P fid (fs++cu tys (as.map (·.ev e0))++cs) H fun v H'=>G (put d v e0) H':=fun e e' _ _ he _ ⟨e0,q1,q2⟩=>⟨e0,q1.trans he,q2⟩
  refine ⟨fun h0=>?_,fun i hi=>?_⟩
  ·cases La with
   |nil=>have:=nM hG bY;rw [h0] at this;simp at this
   |cons t R=>have:=nM (R:=R++c::Lb) hG bY;rw [h0] at this;simp at this
  ·obtain ⟨t, ht, rfl⟩ := Ed js hG (by simp) hi
   obtain ⟨h0,o,ho,_⟩:=mem_ready.1 hi
   have hit:=(dP jy).2 t.k o t.it (by simpa using ho) (hG.mem t ht).2.1
   rcases List.mem_append.1 ht with hta|htb
   ·obtain ⟨P1, P2, rfl⟩ := List.append_of_mem hta
    have hG1:Good ops m is (P1++t::(P2++c::Lb)) listed:=by simpa using hG
    have hpt:=hp t (by simp)
    obtain ⟨Cd,qw⟩:=pull tY (sq dA hG1 hi) (show jX (eW P N out base) 0 (P1++t::(P2++Lb)) env [] _ by simpa using hrun)
    rw [hpt.oN] at qw
    refine OC hpt ho hit Cd hR fun ι' μ' a' w' fU=>?_
    refine OE js jy dA bY hend hc Zp fuel (La:=P1++P2) (Lb:=Lb) (by simp at hl ⊢;omega) (by simpa using hG1.step hi) (fun x hx=>hp x (by simp at hx ⊢;rcases hx with h|h|h<;>simp [h])) (by simpa using qw) fU
   rcases List.mem_cons.1 htb with rfl|htb
   ·rw [hc] at hit
    have hap:=sq dA hG hi
    have hsy:∀x∈La++Lb,Pu x/\ny x.it.dst t.it.uses=true/\ny d x.it.uses=true/\(∀s,d=some s->x.it.dst≠some s):=fun x hx=>by
     have hd:t.it.dst=d:=by rw [hc];rfl
     refine ⟨hp x hx,?_⟩
     rcases List.mem_append.1 hx with h|h
     ·have hs := (hap x h).slots
      simp only [iN,Bool.and_eq_true] at hs
      obtain ⟨⟨s1,s2⟩,s3⟩:=hs
      rw [hd] at s2 s3
      refine ⟨s1,s2,fun s hs e=>?_⟩
      rw [e,hs] at s3;simp at s3
     ·have hlt := (List.pairwise_cons.1 (List.pairwise_append.1 hG.Xr).2.1).1 x h
      have Le:=hG.mem x (by simp [h])
      rcases nL dA hlt (hG.mem t ht).2.1 Le.2.1 with h'|hs
      ·exact absurd h' (Zp _ Le.1 hlt)
      ·simp only [iN, Bool.and_eq_true] at hs
       obtain ⟨⟨s1,s2⟩,s3⟩:=hs
       rw [hd] at s1 s3
       refine ⟨s2,s1,fun s hs e=>?_⟩
       rw [hs,e] at s3;simp at s3
    refine adL ho hit hR (AP hc hsy hrun) fun ι' μ' v H' a' w' fU hq=>?_
    exact Xs js jy dA bY (F:=fun e H=>∃e0,AK e0 e/\G e0 H) (fun he ⟨e0,q1,q2⟩=>⟨e0,q1.trans he,q2⟩) hend fuel (R:=La++Lb) (by simp at hl ⊢;omega) (hG.step hi) hp hq fU
   ·obtain ⟨P1, P2, rfl⟩ := List.append_of_mem htb
    have hG1:Good ops m is ((La++c::P1)++t::P2) listed:=by simpa using hG
    have hpt:=hp t (by simp)
    have hap:=sq dA hG1 hi
    obtain ⟨Cd,qw⟩:=pull (L1:=La++P1) tY (fun x hx=>hap x (by simp at hx ⊢;rcases hx with h|h<;>simp [h])) (show jX (eW P N out base) 0 ((La++P1)++t::P2) env [] _ by simpa using hrun)
    rw [hpt.oN] at qw
    refine OC hpt ho hit Cd hR fun ι' μ' a' w' fU=>?_
    refine OE js jy dA bY hend hc Zp fuel (La:=La) (Lb:=P1++P2) (by simp at hl ⊢;omega) (by simpa using hG1.step hi) (fun x hx=>hp x (by simp at hx ⊢;rcases hx with h|h|h<;>simp [h])) (by simpa using qw) fU
theorem TB (hm:P.follows .mixedOrders=true):Jd P N out base:=by
 intro id ops Dx Tq jy dA bY hl S K hK Y ι μ a w ho hb hR
 refine wpIn_region_any hm ?_
 obtain ⟨ts,h1,h2,h3⟩:=mJ hK
 simp only [List.nil_append] at h3
 obtain ⟨GI,hrun⟩:=xY h3
 replace GI:=N6 GI
 have hlen:Dx.length+Tq.length=ops.size:=by simpa using (dP jy).1
 have htl:ts.length=Dx.length:=by rw [<-h1];simp
 have hk:∀(j:Nat) t,ts[j]?=some t->t.k=j/\(Dx++Tq)[j]?=some t.it/\j<Dx.length:=fun j t ht=>by
  have hj:=(List.getElem?_eq_some_iff.1 ht).1
  refine ⟨?_,?_,by omega⟩
  ·have : (ts.map (·.k))[j]? = some t.k := by simp [ht]
   rw [h2,List.getElem?_range' (by omega)] at this
   simpa using this.symm
  ·rw [List.getElem?_append_left (by omega),<-h1];simp [ht]
 let F:List (Nat×V)->aq->Prop:=fun env bl=>∃jY Gm,AK jY env/\EqB Gm bl/\dY (eW P N out base) Tq ⟨jY,⟨S.H.next+Dx.length,Gm⟩,S.ms⟩ K
 have hF:xP F:=fun env env' bl bP he rJ ⟨e0,b0,q1,q2,q3⟩=>⟨e0,b0,q1.trans he,fun i=>(q2 i).trans (rJ i),q3⟩
 have kL:∀{ι' μ' env bl jY Gm a' w'},dX P N Y ι' μ' ⟨env,⟨S.H.next+Dx.length,bl⟩,S.ms⟩ a' w'->AK jY env->EqB Gm bl->dX P N Y ι' μ' ⟨jY,⟨S.H.next+Dx.length,Gm⟩,S.ms⟩ a' w':=fun fU q1 q2 =>
  ⟨fun t=>by rw [q1 t];exact fU.env t,fU.sz,fU.inv.eqB q2,fU.ms⟩
 have hfl:ops.size=ts.length+(ops.size - Dx.length):=by omega
 have Zq:dh P N ops (ops.toList.drop Dx.length)=some Tq:=by
  have:=u9 (k:=Dx.length) jy
  rwa [List.drop_left' rfl] at this
 refine OB (out:=out) (base:=base) (b:=S.H.next) (ms:=S.ms) (F:=F) (fun i hi hi2=>hl i hi (by omega)) jy dA bY hF (fun ι' μ' env bl a' w' fU hf=>?_) ops.size (R:=ts) (ι:=ι) (μ:=μ) (env:=S.env) (bl:=S.H.bl) hfl ?_ ?_ ?_ ?_
 ·obtain ⟨e0, b0, q1, q2, q3⟩ := hf
  have h:=rZ (Y:=Y) (os:=ops.toList.drop Dx.length) (Q:=Post P N Y fun e S=>match e with | .normal=>K S|_=>False) (K:=K) (out:=out) (base:=base) (fun ι μ S a w hR hK=>Post.of (e':=.normal) hR rfl hK) (k:=Dx.length) Zq (fun j=>by
   rw [List.getElem?_drop];simp) (kL fU q1 q2) q3
  rwa [List.length_drop,Array.length_toList] at h
 ·refine ⟨by simp, fun t ht => ?_, fun i hi SD => ?_, ?_, qQ GI, fun i hi => ?_, by omega, fun i hi hi2 => by simp [hi2]⟩
  ·obtain ⟨j, hj⟩ := List.getElem?_of_mem ht
   obtain ⟨e1,e2,e3⟩:=hk j t hj
   subst e1
   exact ⟨e3,e2,by simp [show t.k<ops.size by omega]⟩
  ·have : i < ts.length := by omega
   refine ⟨ts[i],List.getElem_mem this,(hk i _ (by simp)).1⟩
  ·have h4 : (ts.map (·.k)).Pairwise (· < ·) := by rw [h2]; exact List.pairwise_lt_range'
   exact List.pairwise_map.1 h4
  ·exfalso
   rcases Nat.lt_or_ge i ops.size with h|h<;>simp [h] at hi
 ·refine ur (fun e bl h => ?_) hrun
  exact ⟨e,bl,fun _=>rfl,fun _=>rfl,h⟩
 ·exact ⟨hR.env,hR.sz,(hR.inv.pX (by omega)).drawn,hR.ms⟩
 ·intro t ht
  exact hR.inv.nx _ (by omega)
theorem Jp {ar:Ar} {b:Nat} {q:List Nat->eY->Prop} {p:List (Nat×V)->aq->Prop} {r:eY->List (Nat×V)->aq->Prop}:∀{ts:List TR} {env:List (Nat×V)} {bl:aq},jX ar b ts env bl (fun e bl=>p e bl\/∃ids u,q ids u/\r u e bl) ->
  jX ar b ts env bl p\/∃ids u,q ids u/\jX ar b ts env bl (r u)
 |[],_,_,h=>h
 |_::_,_,_,⟨h1,h2⟩=>(Jp h2).imp (fun h=>⟨h1,h⟩) fun ⟨ids,u,h,h'⟩=>⟨ids,u,h,h1,h'⟩
theorem TC (hm:P.follows .mixedOrders=true):Je P N out base:=by
 intro id ops is c e jy dA bY lE S K hK Y ι μ a w ho hb hR
 refine wpIn_region_any hm ?_
 unfold NX at lE
 split at lE<;>try (cases lE;done)
 rename_i e0 uu
 split at lE<;>try (cases lE;done)
 rename_i c0 hfind
 split at lE<;>try (cases lE;done)
 rename_i hq
 cases lE
 simp only [Bool.and_eq_true] at hq
 obtain ⟨⟨⟨q1,q2⟩,q3⟩,q4⟩:=hq
 have hce:c<e:=by
  have:c+1<=e:=by simpa [Nat.blt] using q3
  omega
 have hel:e<=is.length:=Nat.le_of_ble_eq_true q4
 have hlen:is.length=ops.size:=by simpa using (dP jy).1
 have hord:∀i,e<=i->i<ops.size->∀j,j<i->j∈(aX ops).getD i []:=by
  unfold Av at uu
  split at uu<;>try (cases uu;done)
  split at uu<;>try (cases uu;done)
  rename_i hq
  cases uu
  rw [Bool.and_eq_true,decide_eq_true_eq] at hq
  intro i hi hi2 j hj
  have:=List.all_eq_true.1 hq.1 i (List.mem_range.2 (by omega))
  rw [Bool.or_eq_true,decide_eq_true_eq] at this
  rcases this with h|h
  ·omega
  ·simpa using List.all_eq_true.1 h j (List.mem_range.2 hj)
 obtain ⟨d,fid,fs,cs,as,tys,hic⟩:∃d fid fs cs as tys,is[c]?=some (.call d none (.c (.fn fid fs cs)) as tys):=by
  unfold NW at q1
  split at q1<;>try (cases q1;done)
  rename_i it hit
  unfold ez at q1
  split at q1<;>try (cases q1;done)
  exact ⟨_,_,_,_,_,_,hit⟩
 have hall:∀k,k<e->k≠c->(∃it,is[k]?=some it/\hpure it=true)/\c∉(aX ops).getD k []:=fun k hk hkc=>by
  have:=List.all_eq_true.1 q2 k (List.mem_range.2 hk)
  simp only [Bool.or_eq_true,Bool.and_eq_true,Bool.not_eq_true'] at this
  rcases this with h|⟨h1,h2⟩
  ·exact absurd (Nat.eq_of_beq_eq_true h) hkc
  ·refine ⟨?_, by simpa using h2⟩
   unfold NW at h1
   split at h1<;>try (cases h1;done)
   rename_i it hit
   exact ⟨it,hit,h1⟩
 unfold BS at hK
 obtain ⟨ts,h1,h2,h3⟩:=mJ hK
 simp only [List.nil_append] at h3
 obtain ⟨GI,hrun⟩:=xY h3
 have Tn:=K7 GI
 have hLn:(jD is c e).length=e - 1:=by unfold jD;simp;omega
 have htl:ts.length=e - 1:=by rw [<-hLn,<-h1];simp
 have hH1:∀j,j<c->(jD is c e)[j]?=is[j]?:=fun j hj=>by
  unfold jD
  rw [List.getElem?_append_left (by simp;omega),List.getElem?_take_of_lt hj]
 have hH2:∀j,c<=j->j+1<e->(jD is c e)[j]?=is[j+1]?:=fun j hj hj2=>by
  unfold jD
  rw [List.getElem?_append_right (by simp;omega),List.length_take,Nat.min_eq_left (by omega),List.getElem?_take_of_lt (by omega),List.getElem?_drop]
  congr 1;omega
 have htj:∀(j:Nat) t,ts[j]?=some t->t.k=j/\(jD is c e)[j]?=some t.it/\j<e - 1:=fun j t ht=>by
  have hj:=(List.getElem?_eq_some_iff.1 ht).1
  refine ⟨?_,?_,by omega⟩
  ·have : (ts.map (·.k))[j]? = some t.k := by simp [ht]
   rw [h2,List.getElem?_range' (by omega)] at this
   simpa using this.symm
  ·rw [<-h1];simp [ht]
 have hP:∀t∈ts,Pu t:=fun t ht=>by
  obtain ⟨j,hj⟩:=List.getElem?_of_mem ht
  obtain ⟨e1,e2,e3⟩:=htj j t hj
  rcases oO t with ⟨r1,r2,_⟩|r3
  ·refine ⟨r1, by simpa [TR.wr] using r2, ?_⟩
   by_cases hjc:j<c
   ·rw [hH1 j hjc] at e2
    obtain ⟨⟨it,h,h'⟩,_⟩:=hall j (by omega) (by omega)
    rw [h] at e2;cases e2;exact h'
   ·rw [hH2 j (by omega) (by omega)] at e2
    obtain ⟨⟨it,h,h'⟩,_⟩:=hall (j+1) (by omega) (by omega)
    rw [h] at e2;cases e2;exact h'
  ·exfalso
   have:t.dr∈ts.filterMap sg:=List.mem_filterMap.2 ⟨t,ht,r3⟩
   rw [Tn] at this;cases this
 have adN:BO is c e = .call d none (.c (.fn fid fs cs)) as tys::is.drop e:=by
  have hc:=(List.getElem?_eq_some_iff.1 hic)
  unfold BO
  rw [List.drop_eq_getElem_cons hc.1,hc.2]
  rfl
 rw [adN] at hrun
 simp only [dY,nw,BL,K5] at hrun
 have Xt:=Jo (b':=0) (bP:=[]) (fun t=>if t.k<c then t.k else t.k+1) hP hrun
 have hu:∀(j:Nat) u,(ts.map fun t=>({ t with k:=if t.k<c then t.k else t.k+1 }:TR))[j]?=some u->u.k=(if j<c then j else j+1)/\is[u.k]?=some u.it/\u.k<e/\Pu u:=fun j u hu=>by
  rw [List.getElem?_map] at hu
  cases ht:ts[j]? with
  |none=>rw [ht] at hu;cases hu
  |some t =>
   rw [ht] at hu;cases hu
   obtain ⟨e1,e2,e3⟩:=htj j t ht
   have hp:=hP t (List.mem_of_getElem? ht)
   refine ⟨by simp only [e1],?_,?_,⟨hp.rd,hp.up,hp.it⟩⟩
   ·simp only [e1]
    split
    ·rename_i h;rw [<-hH1 j h];exact e2
    ·rename_i h;rw [<-hH2 j (by omega) (by omega)];exact e2
   ·simp only [e1];split<;>omega
 generalize Gk:(ts.map fun t=>({ t with k:=if t.k<c then t.k else t.k+1 }:TR))=us at Xt hu
 have hul:us.length=e - 1:=by rw [<-Gk,List.length_map,htl]
 have hsplit:us.take c++us.drop c=us:=List.take_append_drop ..
 have hpu:∀t∈us.take c++us.drop c,Pu t:=fun t ht=>by
  rw [hsplit] at ht
  obtain ⟨j,hj⟩:=List.getElem?_of_mem ht
  exact (hu j t hj).2.2.2
 have hRl:(us.take c++(⟨c,.call d none (.c (.fn fid fs cs)) as tys,.skip,[]⟩:TR)::us.drop c).length=e:=by simp;omega
 have hRj:∀(j:Nat) u,(us.take c++(⟨c,.call d none (.c (.fn fid fs cs)) as tys,.skip,[]⟩:TR)::us.drop c)[j]?=some u->u.k=j/\is[j]?=some u.it/\j<e/\u.rd=[]/\u.ac.Ln=[]:=fun j u h=>by
  have hje:j<e:=by rw [<-hRl];exact (List.getElem?_eq_some_iff.1 h).1
  rcases Nat.lt_trichotomy j c with hj|hj|hj
  ·rw [List.getElem?_append_left (by simp; omega), List.getElem?_take_of_lt hj] at h
   obtain ⟨e1,e2,e3,e4⟩:=hu j u h
   rw [if_pos hj] at e1
   exact ⟨e1,by rw [<-e1];exact e2,hje,e4.rd,e4.up⟩
  ·subst hj
   rw [List.getElem?_append_right (by simp;omega),List.length_take,Nat.min_eq_left (by omega),Nat.sub_self] at h
   cases h
   exact ⟨rfl,hic,hje,rfl,rfl⟩
  ·rw [List.getElem?_append_right (by simp; omega), List.length_take, Nat.min_eq_left (by omega), show j - c = (j - c - 1) + 1 by omega, List.getElem?_cons_succ, List.getElem?_drop, show c + (j - c - 1) = j - 1 by omega] at h
   obtain ⟨e1,e2,e3,e4⟩:=hu (j - 1) u h
   rw [if_neg (by omega)] at e1
   have:u.k=j:=by omega
   exact ⟨this,by rw [<-this];exact e2,hje,e4.rd,e4.up⟩
 have Zq:dh P N ops (ops.toList.drop e)=some (is.drop e):=u9 jy
 have main:∀{ι2:ax} {H2:aG},dX P N Y ι2 μ ⟨S.env,H2,S.ms⟩ a { w with drawn:=w.drawn+1 } ->
   jX (eW P N out base) 0 us S.env [] (fun e' _=>rN (eW P N out base) d (.c (.fn fid fs cs)) as tys ⟨e',H2,S.ms⟩ fun S=>dY (eW P N out base) (is.drop e) S K) ->
   wpAnyIn Y.F 0 P .any ops (Post P N Y fun e S=>match e with | .normal=>K S|_=>False) ops.size (Array.replicate ops.size false) a { w with drawn:=w.drawn+1 }:=by
  intro ι2 H2 mz hr
  refine OE (out:=out) (base:=base) (m:=e) (c:=⟨c,.call d none (.c (.fn fid fs cs)) as tys,.skip,[]⟩) (La:=us.take c) (Lb:=us.drop c) (G:=fun env H=>dY (eW P N out base) (is.drop e) ⟨env,H,S.ms⟩ K) (ms:=S.ms) hord jy dA bY (fun ι' μ' env H a' w' fU ⟨e0,q1,q2⟩=>?_) rfl (fun k hk hck=>(hall k hk (by simp at hck;omega)).2) (H:=H2) ops.size ?_ ?_ hpu ?_ mz
  ·have hR0 : dX P N Y ι' μ' ⟨e0, H, S.ms⟩ a' w' := ⟨fun t => by rw [q1 t]; exact fU.env t, fU.sz, fU.inv, fU.ms⟩
   have h:=rZ (Y:=Y) (os:=ops.toList.drop e) (Q:=Post P N Y fun e S=>match e with | .normal=>K S|_=>False) (K:=K) (out:=out) (base:=base) (fun ι μ S a w hR hK=>Post.of (e':=.normal) hR rfl hK) (k:=e) Zq (fun j=>by
    rw [List.getElem?_drop];simp) hR0 q2
   rwa [List.length_drop,Array.length_toList] at h
  ·rw [hRl];omega
  ·refine ⟨by simp, fun t ht => ?_, fun i hi SD => ?_, ?_, ?_, fun i hi => ?_, by omega, fun i hi hi2 => by simp [hi2]⟩
   ·obtain ⟨j, hj⟩ := List.getElem?_of_mem ht
    obtain ⟨e1,e2,e3,_⟩:=hRj j t hj
    rw [e1]
    exact ⟨e3,e2,by simp [show j<ops.size by omega]⟩
   ·have hi' := hi
    rw [<-hRl] at hi'
    exact ⟨_,List.getElem_mem hi',(hRj i _ (List.getElem?_eq_getElem hi')).1⟩
   ·rw [List.pairwise_iff_getElem]
    intro i j hi hj hij
    rw [(hRj i _ (List.getElem?_eq_getElem hi)).1,(hRj j _ (List.getElem?_eq_getElem hj)).1]
    exact hij
   ·refine List.pairwise_of_forall_mem_list fun x hx y hy => .inr ?_
    obtain ⟨i,hi⟩:=List.getElem?_of_mem hx
    obtain ⟨j,hj⟩:=List.getElem?_of_mem hy
    have hx':=(hRj i x hi).2.2.2
    have hy':=(hRj j y hj).2.2.2
    refine ⟨fun id hid=>?_,fun id hid=>?_⟩
    ·unfold TR.wr at hid;rw [hx'.2] at hid;cases hid
    ·unfold TR.wr at hid;rw [hy'.2] at hid;cases hid
   ·exfalso
    rcases Nat.lt_or_ge i ops.size with h|h<;>simp [h] at hi
  ·rw [hsplit]
   exact ur (fun e' _ h=>⟨e',fun _=>rfl,h⟩) hr
 have hI:=(hR.inv.pX (n:=S.H.next+(jD is c e).length) (by omega)).drawn
 rcases Jp Xt with h|⟨ids,u,tY,h⟩
 ·exact main (ι2:=ι) (H2:=⟨S.H.next+(jD is c e).length,S.H.bl⟩) ⟨hR.env,hR.sz,hI,hR.ms⟩ h
 ·have qx : dX P N Y ι μ ⟨S.env, ⟨S.H.next + (jD is c e).length, S.H.bl⟩, S.ms⟩ a { w with drawn := w.drawn + 1 } := ⟨hR.env, hR.sz, hI, hR.ms⟩
  obtain ⟨ι2,mz⟩:=qx.cl tY
  exact main mz h
theorem iQ (hm:P.follows .mixedOrders=true):nG P N out base:=⟨TB hm,TC hm⟩
end
end Go.AM
end
section
namespace Go.AM
section
variable {P:Program} {N:Nat} {Y:Ctx} {ι ι':ax} {μ μ':Mu} {H:aG} {w w':World} {out:Option Nat} {base:Nat}
theorem TD {func:Func} {fn:Fn} (htr:cw P func=some fn):N4 P func.results.toList=some fn.res:=by
 unfold cw at htr
 split at htr<;>try (cases htr;done)
 split at htr<;>try (cases htr;done)
 rename_i SC
 split at htr<;>try (cases htr;done)
 cases htr;exact SC
theorem Inv.down (h:Inv P Y ι μ H w) (ro:Option Nat):Inv P ⟨Y.w0,ι,μ,ro,Y.x,[]⟩ ι μ H w :=
 ⟨h.below,ax.le_refl _,fun _ _ _ _=>rfl,h.rd,Mu.le_refl _,h.nx,h.live,h.inj,h.lt,h.dK⟩
theorem Inv.up {ro:Option Nat} {H':aG} (h0:Inv P Y ι μ H w) (h:Inv P ⟨Y.w0,ι,μ,ro,Y.x,[]⟩ ι' μ' H' w'):Inv P Y ι' μ' H' w'/\ι.le ι'/\μ.le μ' :=
 ⟨⟨h.below,ax.le_trans h0.i0 h.i0,fun b o hb hx=>(h.iB b o hb hx).trans (h0.iB b o hb hx),h.rd,Mu.le_trans h0.m0 h.m0,h.nx,h.live,h.inj,h.lt,h0.gl⟩,h.i0,h.m0⟩
theorem kQ {f : Nat} {func : Func} {fn : Fn} (hf : P.funcs[f]? = some func) (htr : cw P func = some fn) (cF : Enters P f) (gU : nG P fn.N none H.next) {vs : List V} {Q : V → aG → Prop} (hlen : vs.length ≤ fn.np)
  (h:rT (eW P fn.N none H.next) fn.body ⟨args 0 vs,H,[]⟩ (B7 fn.res fn.tys Q)):eV P f vs H Q:=by
 refine ⟨cF,fun Y ι μ w as hI hr=>?_⟩
 refine Jg (Y:=⟨Y.w0,ι,μ,none,Y.x,[]⟩) hf htr gU hlen h rfl rfl (fun id hid=>hI.nx id hid) (hI.down none) hr fun Y1 ι' μ' S' a' w' e' hY hR hq=>?_
 have key:B7.qM fn.res fn.tys Q S'->LeavesInM Fence.wide 0 P func a'.tmps (Oo P Y ι μ Q) a'.defers .returning w':=by
  intro hs
  unfold B7.qM at hs
  split at hs<;>try (exact hs.elim)
  rename_i bl rJ
  split at hs<;>try (exact hs.elim)
  rename_i vs' hvs
  refine uj (TD htr) (n:=S'.H.next) (bl:=S'.H.bl) hY rfl hR.inv hR.env hR.ms rJ hvs fun x w2 oD hx=>?_
  obtain ⟨h1,h2,h3⟩:=hI.up oD
  exact ⟨x,ι',μ',_,_,rfl,h2,h3,h1,hx (hTs fn.tys),hs⟩
 cases e' with
 |exit id=>exact hq.elim
 |normal=>exact ⟨.inl rfl,key hq⟩
 |ret=>exact ⟨.inr rfl,key hq⟩
theorem Inv.Ls {bl:aq} {n id:Nat} {L:Loc} {B:lD} (h:Inv P Y ι μ ⟨n,bl⟩ w) (hb:ay id bl=some B) (hL:μ id=some L) {o o':Obj} (ho:w.heap[L.b]?=some o) (hnc:∀c e f,o ≠ .cells c e f) (hnm:∀ms c,o ≠ .map ms c) :
  Inv P Y ι μ ⟨n,bD id bl⟩ (w.putObj L.b o'):=by
 have hold:Y.own L.b:=((h.live id _ hb).loc hL).1
 have bX:∀k,k≠L.b->(w.putObj L.b o').heap[k]?=w.heap[k]?:=fun k hk=>World.putObj_heap_other hk
 have hsub:=h.del id
 refine ⟨⟨h.below.os, h.below.tape, h.below.output, by rw [World.putObj_size]; exact h.below.size, fun k hk hx => ?_, h.below.dr, fun k hk => (h.below.maps k hk).trans (by
   by_cases e:k=L.b
   ·subst e;exact .no (fun ms c e=>by rw [ho] at e;cases e;exact hnm _ _ rfl)
   ·exact .eq (bX k e))⟩,h.i0,h.iB,fun b o2 x hx=>?_,h.m0,h.nx,fun i B2 hB=>?_,hsub.inj,hsub.lt,h.gl⟩
 ·rw [bX k (Ctx.l7 hold hk hx)];exact h.below.block k hk hx
 ·have := h.rd b o2 x hx
  have hne:b≠L.b:=fun e=>by
   subst e
   cases o<;>simp [World.cell?,ho] at this
   exact hnc _ _ _ rfl
  unfold World.cell? at this ⊢
  simp only at this ⊢
  rw [bX b hne];exact this
 ·simp only at hB
  rw [bt] at hB
  split at hB
  ·cases hB
  ·rename_i e
   refine (h.live i B2 hB).mono (ax.le_refl _) (Mu.le_refl _) (fun h=>h) (fun L' hL'=>bX _ (fun e'=>e (h.inj i id B2 _ L' L hB hb hL' hL e'))) (fun _ _ h=>h)
def Jq (j:Option Ex) (S:St) (K:Ex->St->Prop):Prop:=match j with
 |none=>K .normal S
 |some e=>match e with
  | .normal=>False
  | .exit i=>K (.exit i) S
  | .ret=>K .ret S
def ku (id:Nat) (sh:List Nat) (S:St) (K:Ex->St->Prop) (H:aG):Prop:=match ay id H.bl with
 |some (.loop st j _ _ _ _ _ _)=>match st with
  | .busy=>False
  |_=>match fk sh (bD id H.bl) with
   |some bl=>Jq j ⟨S.env,⟨H.next,bl⟩,S.ms⟩ K
   |none=>False
 |_=>False
def Zr (ar:Ar) (N:Nat) (out:Option Nat) (f:O) (ps:List Nat) (as bd:C) (S:St) (K:Ex->St->Prop):Prop :=
 ps.all (Nat.blt · N)=true /\
 match f.ev S.env with
 | .fn fid first cap=>match out with
  | none => S.ms = [] ∧ ar.call fid (first ++ [.yl (S.H.next + 1)] ++ cap) ⟨S.H.next + 2, (S.H.next + 1, .loop .ready none S.H.next S.env ps as bd N) :: (S.H.next, .iH) :: S.H.bl⟩
    fun _ H=>ku (S.H.next+1) [S.H.next] S K H
  |some Xu=>match ay Xu S.H.bl with
   | some (.loop _ _ d _ _ _ _ _) => ar.call fid (first ++ [.yl S.H.next] ++ cap) ⟨S.H.next + 1, (S.H.next, .loop .ready none d S.env ps as bd N) :: S.H.bl⟩
     fun _ H=>ku S.H.next [] S K H
   |_=>False
 |_=>False
theorem ve {f:O} {ps:List Nat} {as bd:C} {S:St} {K:Ex->St->Prop} (h:Zr (eW P N out base) N out f ps as bd S K):(eW P N out base).bM f ps as bd S K:=by
 intro fo Du ao bo hfo hps hao hbo Y ι μ a w ho hb hR
 obtain ⟨hpN,h⟩:=h
 have rf:=aB hR.env hfo
 have hnc:∀(r:Loop) c e f,Obj.loop r ≠ .cells c e f:=fun r c e f=>by intro h;cases h
 split at h
 ·rename_i fid fs cs nt
  rw [nt] at rf
  generalize hg:a.eval fo=fv at rf
  cases rf with
  |fn _ _ _ xs ys h1 h2 h3 h4 =>
   have r1:aM ι μ fs xs.toList:=⟨by simpa using h1,fun i v x hv hx=>h2 i v x hv (by simpa using hx)⟩
   have r2:aM ι μ cs ys.toList:=⟨by simpa using h3,fun i v x hv hx=>h4 i v x hv (by simpa using hx)⟩
   -- behind the call
   have fin:∀{aC:Nat} {L:Loc} {sh ms':List Nat} {ds':List Deferred} {μ1:Mu},μ.le μ1->μ1 aC=some L->mb Y.hid μ1 ms' ds'->((sh=[]/\ms'=S.ms)\/∃i,sh=[i]/\ms'=[i]/\S.ms=[]/\Y.ro=none) ->
     ∀e w',Oo P Y ι μ1 (fun _ H=>ku aC sh S K H) e w' ->
     rangePost Y.F 0 P L.b (Post P N Y K) { a with defers:=ds' } e w':=fun {aC L sh ms' ds' μ1} gz hL hmk hsh e w' he=>by
    obtain ⟨v,ι',μ',r,H',rfl,hi,hm,hinv,hv,hq⟩:=he
    unfold ku at hq
    split at hq<;>try (exact hq.elim)
    rename_i st j d env' ps' as' TE N' rJ
    obtain ⟨L',r',Ld,q1,q2,q3,q4,q5,q6,q7,q8,q9,q10,q11,q12,q13⟩:=hinv.live _ _ rJ
    rw [hm _ _ hL] at q1;cases q1
    have hst:r'.state ≠ .busy:=by rw [q4];cases st<;>simp [stR] at hq ⊢
    have hinv':=hinv.Ls (o':=.loop { r' with state:=.exhausted }) rJ (hm _ _ hL) q3 (hnc r') (fun _ _ e=>by cases e)
    have Xv:dX P N Y ι' μ' ⟨S.env,⟨H'.next,bD aC H'.bl⟩,ms'⟩ { a with defers:=ds' } (w'.putObj L.b (.loop { r' with state:=.exhausted })) :=
     ⟨hR.env.mono hi (Mu.le_trans gz hm),hR.sz,hinv',hmk.mono hm⟩
    have hq1:∃bl,fk sh (bD aC H'.bl)=some bl/\Jq j ⟨S.env,⟨H'.next,bl⟩,S.ms⟩ K:=by
     cases hsh2:fk sh (bD aC H'.bl) with
     |none=>rw [hsh2] at hq;cases st<;>exact hq.elim
     |some bl=>rw [hsh2] at hq;exact ⟨bl,rfl,by cases st<;>first|exact hq.elim|exact hq⟩
    obtain ⟨bl,OG,Zt⟩:=hq1
    obtain ⟨Y1,OH,kL⟩:∃Y1,Ext P Y Y1/\dX P N Y1 ι' μ' ⟨S.env,⟨H'.next,bl⟩,S.ms⟩ { a with defers:=ds' } (w'.putObj L.b (.loop { r' with state:=.exhausted })):=by
     rcases hsh with ⟨rfl,rfl⟩|⟨i,rfl,rfl,hS,hro⟩
     ·cases OG;exact ⟨Y,.refl Y,Xv⟩
     ·simp only [fk] at OG
      split at OG<;>try (cases OG;done)
      rename_i hb
      cases OG
      rw [hS]
      exact Xv.vI rfl hb hro
    have hend:=run_endLoop (P:=P) q3 hst
    generalize w'.putObj L.b (.loop { r' with state:=.exhausted })=w4 at kL hend
    refine ⟨r'.pending,w4,hend,?_⟩
    unfold Jq at Zt
    cases j with
    |none=>simp only [DJ] at q5;rw [q5];exact .of1 (e':=.normal) OH kL rfl Zt
    |some e =>
     cases e with
     |normal=>exact Zt.elim
     |exit i=>simp only [DJ] at q5;rw [q5];exact wpIn_exit (.of1 (e':=.exit i) OH kL rfl Zt)
     |ret=>simp only [DJ] at q5;rw [q5];exact wpIn_ret (.of1 (e':=.ret) OH kL rfl Zt)
   have hpN':∀p∈ps,p<N:=fun p hp=>by have:=List.all_eq_true.1 hpN p hp;simpa using this
   cases out with
   |none =>
    simp only at h
    have hro:Y.ro=none:=ho
    obtain ⟨hms0,cF,ez⟩:=h
    let Ld:Loc:=⟨w.heap.size,0,0,0⟩
    let L:Loc:=⟨w.heap.size+1,0,0,0⟩
    have hn0:=hR.inv.nx S.H.next (Nat.le_refl _)
    have zW:=Mu.gn (L:=Ld) hn0
    have Gj:=hR.inv.lay hn0 (L:=Ld) (o:=.deferred (some [])) (b:=.iH) rfl ⟨Ld,by simp [Mu.set],.inl hR.inv.below.size,by show (w.heap.push _)[w.heap.size]?=_;simp⟩
    have Lt:(w.alloc (.deferred (some []))).heap.size=w.heap.size+1:=World.size_alloc _ _
    have Xq:(μ.set S.H.next Ld) (S.H.next+1)=none:=by simp only [Mu.set];rw [if_neg (by omega)];exact hR.inv.nx _ (by omega)
    have hle1:=Mu.gn (L:=L) Xq
    have He : ∀ fn : Nat, Inv P Y ι ((μ.set S.H.next Ld).set (S.H.next + 1) L) ⟨S.H.next + 2, (S.H.next + 1, .loop .ready none S.H.next S.env ps as bd N) :: (S.H.next, .iH) :: S.H.bl⟩
      ((w.alloc (.deferred (some []))).alloc (.loop { state:=.ready,pending:=none,fn:=fn,tmps:=a.tmps,params:=Du,assign:=ao,body:=bo,defers:=w.heap.size })):=fun fn=>by
     have oD := Gj.lay Xq (L := L) (o := .loop { state := .ready, pending := none, fn := fn, tmps := a.tmps, params := Du, assign := ao, body := bo, defers := w.heap.size })
      (b:=.loop .ready none S.H.next S.env ps as bd N) (by simp [L,Lt]) ⟨L,{ state:=.ready,pending:=none,fn:=fn,tmps:=a.tmps,params:=Du,assign:=ao,body:=bo,defers:=w.heap.size },Ld,by simp [Mu.set],.inl (by have:=hR.inv.below.size;simp only [L];omega),by
       have:=World.alloc_heap_new (w.alloc (.deferred (some []))) (.loop { state:=.ready,pending:=none,fn:=fn,tmps:=a.tmps,params:=Du,assign:=ao,body:=bo,defers:=w.heap.size })
       rw [Lt] at this;exact this,rfl,rfl,hR.env.mono (ax.le_refl _) (Mu.le_trans zW hle1),hps,hR.sz,hpN',hao,hbo,by simp [Mu.set],rfl⟩
     refine oD.congr (fun id=>?_) (by simp only;omega)
     rw [aH,bC]
     by_cases e:S.H.next+1=id
     ·subst e;simp
     ·rw [if_neg e, if_neg (fun e' => e e'.symm), aH, bC]
      by_cases e2:S.H.next=id
      ·subst e2;simp
      ·rw [if_neg e2,if_neg (fun e'=>e2 e'.symm)]
    have zX:=Mu.le_trans zW hle1
    have hLd:((μ.set S.H.next Ld).set (S.H.next+1) L) S.H.next=some Ld:=by simp [Mu.set]
    have hL:((μ.set S.H.next Ld).set (S.H.next+1) L) (S.H.next+1)=some L:=by simp [Mu.set]
    refine wpIn_rangeFunc fun fn _=>?_
    have Ee:=He fn
    obtain ⟨W,hW⟩:∃W,W=(w.alloc (.deferred (some []))).alloc (.loop { state:=.ready,pending:=none,fn:=fn,tmps:=a.tmps,params:=Du,assign:=ao,body:=bo,defers:=w.heap.size }):=⟨_,rfl⟩
    rw [<-hW] at Ee
    refine ⟨w.heap.size+1,[{ target:=.collected w.heap.size,args:=#[] }],W,{ target:=.fn (.func fid) ys,args:=xs++#[.func (.yield (w.heap.size+1)) #[] #[]] },W,fid,
     (xs++#[.func (.yield (w.heap.size+1)) #[] #[]])++ys,W,?_,?_,fun _ _=>trivial,?_,fun h=>by simp [Ctx.F,Fence.wide] at h,?_⟩
    ·show (Instr.enterLoop fn a.tmps Du ao bo Y.ro).run P w = _
     rw [hro,hW];exact run_enterLoop_outer _ _ _ _ _
    ·have e1 : ∀ v, a.eval (.const v) = v := fun _ => rfl
     simp [resolve,hg,Deferred.ofValue,e1]
    ·have := cF ((xs ++ #[Value.func (Fn.yield (w.heap.size + 1)) #[] #[]]) ++ ys) W
     simpa [invoke] using this
    ·have rl:aM ι ((μ.set S.H.next Ld).set (S.H.next+1) L) (fs++[.yl (S.H.next+1)]++cs) ((xs++#[Value.func (Fn.yield (w.heap.size+1)) #[] #[]])++ys).toList:=by
      have q1:=r1.mono (ax.le_refl _) zX
      have q2:=r2.mono (ax.le_refl _) zX
      have:=(q1.append (.cons (.yl _ L hL) .nil)).append q2
      simpa using this
     refine CallsIn.mono (F:=Y.F) (ez Y ι _ _ _ Ee rl) fun e w' he=>?_
     exact fin (L:=L) (aC:=S.H.next+1) (sh:=[S.H.next]) (ms':=[S.H.next]) (ds':={ target:=.collected w.heap.size,args:=#[] }::a.defers) zX hL ⟨Ld,_,a.defers,rfl,hLd,rfl,by have:=hR.ms;rw [hms0] at this;exact this⟩ (.inr ⟨_,rfl,rfl,hms0,hro⟩) e w' he
   |some Xu =>
    simp only at h
    obtain ⟨L0,hm0,hro⟩:=ho
    split at h<;>try (exact h.elim)
    rename_i st0 j0 d0 jY ps0 as0 bd0 N0 hb0
    obtain ⟨cF,ez⟩:=h
    obtain ⟨L0',r0,Ld,q1,q2,q3,q4,q5,q6,q7,q8,q9,q10,q11,q12,q13⟩:=hR.inv.live _ _ hb0
    rw [hR.inv.m0 _ _ hm0] at q1;cases q1
    let L:Loc:=⟨w.heap.size,0,0,0⟩
    have hn0:=hR.inv.nx S.H.next (Nat.le_refl _)
    have zX:=Mu.gn (L:=L) hn0
    have He : ∀ fn : Nat, Inv P Y ι (μ.set S.H.next L) ⟨S.H.next + 1, (S.H.next, .loop .ready none d0 S.env ps as bd N) :: S.H.bl⟩
      (w.alloc (.loop { state:=.ready,pending:=none,fn:=fn,tmps:=a.tmps,params:=Du,assign:=ao,body:=bo,defers:=r0.defers })):=fun fn=>by
     have oD := hR.inv.lay hn0 (L := L) (o := .loop { state := .ready, pending := none, fn := fn, tmps := a.tmps, params := Du, assign := ao, body := bo, defers := r0.defers })
      (b:=.loop .ready none d0 S.env ps as bd N) rfl ⟨L,{ state:=.ready,pending:=none,fn:=fn,tmps:=a.tmps,params:=Du,assign:=ao,body:=bo,defers:=r0.defers },Ld,by simp [Mu.set],.inl hR.inv.below.size,by
       show (w.heap.push _)[w.heap.size]?=_
       simp,rfl,rfl,hR.env.mono (ax.le_refl _) zX,hps,hR.sz,hpN',hao,hbo,zX _ _ q12,q13⟩
     refine oD.congr (fun id=>?_) (by simp only;omega)
     rw [aH,bC]
     by_cases e:S.H.next=id
     ·subst e;simp
     ·rw [if_neg e,if_neg (fun e'=>e e'.symm)]
    have hL:(μ.set S.H.next L) S.H.next=some L:=by simp [Mu.set]
    refine wpIn_rangeFunc fun fn _=>?_
    have Ee:=He fn
    obtain ⟨W,hW⟩:∃W,W=w.alloc (.loop { state:=.ready,pending:=none,fn:=fn,tmps:=a.tmps,params:=Du,assign:=ao,body:=bo,defers:=r0.defers }):=⟨_,rfl⟩
    rw [<-hW] at Ee
    refine ⟨w.heap.size,[],W,{ target:=.fn (.func fid) ys,args:=xs++#[.func (.yield w.heap.size) #[] #[]] },W,fid,
     (xs++#[.func (.yield w.heap.size) #[] #[]])++ys,W,?_,?_,fun _ _=>trivial,?_,fun h=>by simp [Ctx.F,Fence.wide] at h,?_⟩
    ·show (Instr.enterLoop fn a.tmps Du ao bo Y.ro).run P w = _
     rw [hro,hW];exact run_enterLoop_inner q3 _ _ _ _ _
    ·have e1 : ∀ v, a.eval (.const v) = v := fun _ => rfl
     simp [resolve,hg,Deferred.ofValue,e1]
    ·have := cF ((xs ++ #[Value.func (Fn.yield w.heap.size) #[] #[]]) ++ ys) W
     simpa [invoke] using this
    ·have rl:aM ι (μ.set S.H.next L) (fs++[.yl S.H.next]++cs) ((xs++#[Value.func (Fn.yield w.heap.size) #[] #[]])++ys).toList:=by
      have q1:=r1.mono (ax.le_refl _) zX
      have q2:=r2.mono (ax.le_refl _) zX
      have:=(q1.append (.cons (.yl _ L hL) .nil)).append q2
      simpa using this
     refine CallsIn.mono (F:=Y.F) (ez Y ι _ _ _ Ee rl) fun e w' he=>?_
     exact fin (L:=L) (aC:=S.H.next) (sh:=[]) zX hL (hR.ms.mono zX) (.inl ⟨rfl,rfl⟩) e w' he
 ·exact h.elim
end
end Go.AM
end
section
namespace Go.AM
def vf : List Nat → List V → List (Nat × V) → List (Nat × V)
  |p::ps,v::vs,env=>vf ps vs (BJ p v env)
  |_,_,env=>env
def sr (id:Nat) (Q:V->aG->Prop) (e:Ex) (S:St):Prop:=match ay id S.H.bl with
  |some (.loop .busy _ d env ps as bd N)=>match e with
    | .normal=>Q (.tf true) ⟨S.H.next,(id,.loop .ready none d env ps as bd N)::bD id S.H.bl⟩
    | .exit i=>Q (.tf false) ⟨S.H.next,(id,.loop .done (some (.exit i)) d env ps as bd N)::bD id S.H.bl⟩
    | .ret=>Q (.tf false) ⟨S.H.next,(id,.loop .done (some .ret) d env ps as bd N)::bD id S.H.bl⟩
  |_=>False
def Hf (ar:Nat->Ar) (id:Nat) (vs:List V) (H:aG) (Q:V->aG->Prop):Prop:=match ay id H.bl with
  |some (.loop .ready none d env ps as bd N)=>vs.length=ps.length/\rT (ar N) as ⟨vf ps vs env,H,[]⟩ fun e S=>match e with
    | .normal=>match ay id S.H.bl with
      |some (.loop .ready none d' env' ps' as' TE N')=>rT (ar N) bd ⟨S.env,⟨S.H.next,(id,.loop .busy none d' env' ps' as' TE N')::bD id S.H.bl⟩,S.ms⟩ (sr id Q)
      |_=>False
    |_=>False
  |_=>False
section
variable {P:Program} {N:Nat} {Y:Ctx} {ι ι':ax} {μ μ':Mu} {H:aG} {w w':World} {out:Option Nat} {base:Nat}
theorem AQ:∀{ps:List Nat} {vs:List V} {args:List Value} {env:List (Nat×V)} {tmps:Array Value},aM ι μ vs args->(∀p∈ps,p<N)->tmps.size=N->fu ι μ env tmps ->
    fu ι μ (vf ps vs env) ((ps.zip args).foldl (fun t (p,v)=>t.setIfInBounds p v) tmps)/\((ps.zip args).foldl (fun (t:Array Value) (p,v)=>t.setIfInBounds p v) tmps).size=N
  |[],vs,args,env,tmps,hr,hp,hs,he=>by simp only [vf,List.zip_nil_left,List.foldl_nil];exact ⟨he,hs⟩
  |p::ps,[],args,env,tmps,hr,hp,hs,he=>by rw [hr.of_nil];simp only [vf,List.zip_nil_right,List.foldl_nil];exact ⟨he,hs⟩
  |p::ps,v::vs,args,env,tmps,hr,hp,hs,he=>by
    obtain ⟨x,r,rfl,h1,h2⟩:=hr.bN
    simp only [vf,List.zip_cons_cons,List.foldl_cons]
    refine AQ h2 (fun q hq=>hp q (List.mem_cons_of_mem _ hq)) (by simp [hs]) fun t=>?_
    have hd':p<N:=hp p (List.mem_cons_self ..)
    rw [mF]
    by_cases h:p=t
    · subst h
      rw [if_pos rfl]
      have:(tmps.setIfInBounds p x).getD p undef=x:=by simp [Array.getD,hs,hd']
      rw [this];exact h1
    · rw [if_neg h]
      have:(tmps.setIfInBounds p x).getD t undef=tmps.getD t undef:=by
        simp only [Array.getD_eq_getD_getElem?]
        rw [Array.getElem?_setIfInBounds_ne h]
      rw [this];exact he t
theorem Lu {id:Nat} {vs:List V} {Q:V->aG->Prop} (gU:∀N,nG P N (some id) H.next) (h:Hf (fun N=>eW P N (some id) H.next) id vs H Q):around P id vs H Q:=by
  intro Y ι μ w args L hI hr hL
  unfold Hf at h
  split at h<;>try (exact h.elim)
  rename_i d env ps as bd N hb
  obtain ⟨hlen,h⟩:=h
  obtain ⟨L',r,Ld,q1,q2,q3,q4,q5,q6,q7,q8,q9,q10,q11,q12,q13⟩:=hI.live _ _ hb
  rw [hL] at q1;cases q1
  have hnc:∀(r:Loop) c e f,Obj.loop r ≠ .cells c e f:=fun r c e f=>by intro h;cases h
  have hsize : args.size = r.params.size := by have h1 := hr.1; have h2 : r.params.toList.length = ps.length := by rw [q7]
                                               simp at h1 h2;omega
  refine ⟨r.fn,_,r.assign,r.body,w,run_yield q3 hsize,roundIn_of_wpIn trivial ?_⟩
  let Y':Ctx:=⟨Y.w0,ι,μ,some L.b,Y.x,[]⟩
  obtain ⟨he1,he2⟩:=AQ (env:=env) hr q9 q8 q6
  have hzip:(r.params.zip args).foldl (fun tmps (x:Tmp×Value)=>tmps.setIfInBounds x.1 x.2) r.tmps=(ps.zip args.toList).foldl (fun (t:Array Value) (p,v)=>t.setIfInBounds p v) r.tmps:=by
    rw [<-Array.foldl_toList,Array.toList_zip,q7]
  have hR:dX P N Y' ι μ ⟨vf ps vs env,H,[]⟩ { tmps:=(r.params.zip args).foldl (fun tmps (x:Tmp×Value)=>tmps.setIfInBounds x.1 x.2) r.tmps,defers:=[] } w :=
    ⟨by rw [hzip];exact he1,by rw [hzip];exact he2,hI.down _,rfl⟩
  have hbase:Y'.base H.next:=fun id hid=>hI.nx id hid
  have hout:kN Y' (some id):=⟨L,hL,rfl⟩
  refine wpIn_mono (gT (gU N) r.assign q10 h Y' ι μ _ w hout hbase hR) fun e a1 w1 hp=>?_
  obtain ⟨Y1,OH,ι1,μ1,S1,e1,qx,hx1,hq1⟩:=hp
  have:=OH.same (by simp [Y'])
  subst this
  cases e1 with
  |exit i=>exact hq1.elim
  |ret=>exact hq1.elim
  |normal =>
    cases hx1
    simp only at hq1
    split at hq1<;>try (exact hq1.elim)
    rename_i d1 env1 ps1 as1 bd1 N1 iP
    obtain ⟨L1,r1,Ld1,p1,p2,p3,p4,p5,p6,p7,p8,p9,p10,p11,p12,p13⟩:=qx.inv.live _ _ iP
    have Zh:μ1 id=some L:=qx.inv.m0 _ _ hL
    rw [Zh] at p1;cases p1
    refine ⟨_,run_beginRound p3 p4,?_⟩
    have hlt1:L.b<w1.heap.size:=(Array.getElem?_eq_some_iff.1 p3).1
    have oD := qx.inv.I9 (o' := .loop { r1 with state := .busy }) (B' := .loop .busy none d1 env1 ps1 as1 bd1 N1) iP Zh p3 (hnc _) (fun _ _ e => by cases e)
      ⟨L,{ r1 with state:=.busy },Ld1,Zh,p2,World.putObj_heap_same hlt1,rfl,p5,p6,p7,p8,p9,p10,p11,p12,p13⟩
    have mz:dX P N Y' ι1 μ1 ⟨S1.env,⟨S1.H.next,(id,.loop .busy none d1 env1 ps1 as1 bd1 N1)::bD id S1.H.bl⟩,S1.ms⟩ a1 (w1.putObj L.b (.loop { r1 with state:=.busy })):=⟨qx.env,qx.sz,oD,qx.ms⟩
    refine wpIn_mono (gT (gU N) r.body q11 hq1 Y' ι1 μ1 _ _ hout hbase mz) fun e a3 w3 hp=>?_
    obtain ⟨Y3,hY3,ι3,μ3,S3,e3,Nz,Xw,TF⟩:=hp
    have:=hY3.same (by simp [Y'])
    subst this
    unfold sr at TF
    split at TF<;>try (exact TF.elim)
    rename_i j3 d3 env3 ps3 as3 bd3 N3 AB
    obtain ⟨L3,r3,Ld3,s1,s2,s3,s4,s5,s6,s7,s8,s9,s10,s11,s12,s13⟩:=Nz.inv.live _ _ AB
    have hL3:μ3 id=some L:=Nz.inv.m0 _ _ hL
    rw [hL3] at s1;cases s1
    have hlt3:L.b<w3.heap.size:=(Array.getElem?_eq_some_iff.1 s3).1
    have fin:∀(jump:Option Code) (st:qJ) (j:Option Ex) (v:V),stR st=(if jump.isNone then .ready else .done)->DJ j jump->v = .tf jump.isNone->Q v ⟨S3.H.next,(id,.loop st j d3 env3 ps3 as3 bd3 N3)::bD id S3.H.bl⟩ ->
        ∃v w',(Instr.endRound L.b jump).run P w3 = .ok v w'/\Oo P Y ι μ Q (.returned v) w':=fun jump st j v h1 h2 h3 h4=>by
      have hI4 := Nz.inv.I9 (o' := .loop { r3 with state := if jump.isNone then .ready else .done, pending := jump }) (B' := .loop st j d3 env3 ps3 as3 bd3 N3) AB hL3 s3 (hnc _) (fun _ _ e => by cases e)
        ⟨L,{ r3 with state:=if jump.isNone then .ready else .done,pending:=jump },Ld3,hL3,s2,World.putObj_heap_same hlt3,h1.symm,h2,s6,s7,s8,s9,s10,s11,s12,s13⟩
      obtain ⟨u1,u2,u3⟩:=hI.up hI4
      subst h3
      exact ⟨_,_,run_endRound jump s3,_,ι3,μ3,_,_,rfl,u2,u3,u1,.tf _,h4⟩
    cases e3 with
    |normal=>cases Xw;exact fin none .ready none _ rfl rfl rfl TF
    |exit i=>cases Xw;exact fin (some (.exit i)) .done (some (.exit i)) _ rfl rfl rfl TF
    |ret=>cases Xw;exact fin (some .ret) .done (some .ret) _ rfl rfl rfl TF
end
end Go.AM
end
section
namespace Go.AM
section
variable {c1 : Nat → List V → aG → (V → aG → Prop) → Prop} {c2 : Nat → List V → V → Prop} {c3 : C → St → (Ex → St → Prop) → Prop}
 {c4:Nat->List V->aG->(V->aG->Prop)->Prop} {c5:O->List Nat->C->C->St->(Ex->St->Prop)->Prop} {c6:C->St->(Ex->St->Prop)->Prop} {bl:aq}
theorem jZ : ∀ {t : Ty} {bl : aq} {vs : List V}, bA (bu c1 c2 c3 c4 c5 c6) bl t vs = bA eu bl t vs
 | .unit,bl,vs=>by simp only [bA]
 | .prod a b,bl,vs=>by simp only [bA,jZ (t:=a),jZ (t:=b)]
 | .bool,_,[]=>rfl
 | .str,_,[]=>rfl
 | .int _,_,[]=>rfl
 | .list _,_,[]=>rfl
 | .cL _ _ _,_,[]=>rfl
 | .bool,_,c::cs=>by cases c<;>rfl
 | .str,_,c::cs=>by cases c<;>rfl
 | .int k,_,c::cs=>by cases c<;>rfl
 | .list t,_,c::cs=>by cases c<;>rfl
 | .cL d g t,_,c::cs=>by cases c<;>first|rfl|(simp only [bA,jZ (t:=t)])
theorem su {t : Ty} {bl : aq} : ∀ {n : Nat} {vs : List V}, mB (bu c1 c2 c3 c4 c5 c6) bl t n vs = mB eu bl t n vs
 |0,[]=>rfl
 |0,_::_=>rfl
 |n+1,vs=>by simp only [mB,jZ,su (n:=n)]
theorem Ce {t : Ty} {xs : List t.den} : ∀ {n i : Nat}, DB (bu c1 c2 c3 c4 c5 c6) t xs n i = DB eu t xs n i
 |0,_=>rfl
 |n+1,i=>by simp only [DB,Ce (n:=n)];rfl
theorem Ef {t:Ty} {g:Bool} {v:V}:keyOf (bu c1 c2 c3 c4 c5 c6) t g v=keyOf eu t g v:=by simp only [keyOf,jZ]
theorem Cf {t : Ty} : ∀ {vs : List V}, rK (bu c1 c2 c3 c4 c5 c6) bl t vs = rK eu bl t vs
 |[]=>rfl
 |v::r=>by simp only [rK,jZ,Cf (vs:=r)]
theorem nN : ∀ {t : Ty} {x : t.den} {p : List Bool} {vs : List V}, cU (bu c1 c2 c3 c4 c5 c6) bl t x p vs = cU eu bl t x p vs
 |t,x,[],vs=>by cases t<;>simp only [cU,jZ]
 | .prod a b,x,false::p,vs=>by simp only [cU,nN (t:=a)]
 | .prod a b,x,true::p,vs=>by simp only [cU,nN (t:=b)]
 | .unit,_,_::_,_=>by simp [cU]
 | .bool,_,_::_,_=>by simp [cU]
 | .str,_,_::_,_=>by simp [cU]
 | .int _,_,_::_,_=>by simp [cU]
 | .list _,_,_::_,_=>by simp [cU]
 | .cL _ _ _,_,_::_,_=>by simp [cU]
theorem sv {t:Ty} {v:V}:elems (bu c1 c2 c3 c4 c5 c6) bl t v=elems eu bl t v:=by cases v<;>rfl
theorem yb:∀{ks:List Kd} {xs ys:List V},aN (bu c1 c2 c3 c4 c5 c6) ks xs ys=aN eu ks xs ys:=by
 intro ks
 induction ks with
 |nil=>intro xs ys;cases xs<;>cases ys<;>rfl
 |cons k ks ih =>
  intro xs ys
  cases xs with
  |nil=>cases k<;>rfl
  |cons x xs =>
   cases ys with
   |nil=>cases k<;>cases x<;>rfl
   |cons y ys=>cases k<;>cases x<;>cases y<;>first|rfl|(simp only [aN,ih];rfl)
theorem yc {mx:Bool} {k:IntKind}:∀{ys:List V} {a:Int},jd (bu c1 c2 c3 c4 c5 c6) mx k a ys=jd eu mx k a ys:=by
 intro ys
 induction ys with
 |nil=>intro a;rfl
 |cons y ys ih=>intro a;cases y<;>first|rfl|(simp only [jd,ih];rfl)
theorem OI {e:gI} {vs:List V} {aC:Nat}:iL (bu c1 c2 c3 c4 c5 c6) e vs bl aC=iL eu e vs bl aC:=by
 cases e<;>first|rfl|(simp only [iL,sv,Ef,su];done)|(simp only [iL,sv,Ef,su];rfl)
theorem yd {f g : Nat → Option V} (h : ∀ n, f n = g n) : ∀ ns, BH f ns = BH g ns
 |[]=>rfl
 |n::r=>by simp only [BH,h n,yd h r]
theorem TG {vs:List V} {j:Int}:NP (bu c1 c2 c3 c4 c5 c6) vs j=NP eu vs j:=rfl
theorem Cg {cs : List V} : ∀ {l : List (Nat × Nat × Int)} {o : Nat}, DC (bu c1 c2 c3 c4 c5 c6) cs l o = DC eu cs l o
 |[],o=>rfl
 |(ff,len,j)::r,o=>by simp only [DC,yd (fun n=>Cg (l:=r) (o:=o+n * ff)),TG]
theorem OJ {i:I} {env:List (Nat×V)} {aC:Nat}:b7 (bu c1 c2 c3 c4 c5 c6) i env bl aC=b7 eu i env bl aC:=by
 cases i<;>first|rfl|(simp only [b7,Cf,nN,sv,yb,yc,OI,su,Ce,Cg];done)|(simp only [b7,Cf,nN,sv,yb,yc,OI,su,Ce,Cg];rfl)
theorem OK {i:I} {env:List (Nat×V)} {aC:Nat}:wW (bu c1 c2 c3 c4 c5 c6) i env bl aC=wW eu i env bl aC:=by
 cases i<;>first|rfl|(simp only [wW,nN,jZ];done)|(simp only [wW,nN,jZ];rfl)
theorem Zu {id:Nat}:clU (bu c1 c2 c3 c4 c5 c6) id bl=clU eu id bl:=by
 unfold clU
 split
 ·simp only [nN];rfl
 ·rfl
end
theorem OL {c1 : Nat → List V → aG → (V → aG → Prop) → Prop} {c2 : Nat → List V → V → Prop} {c3 : C → St → (Ex → St → Prop) → Prop}
  {c4:Nat->List V->aG->(V->aG->Prop)->Prop} {c5:O->List Nat->C->C->St->(Ex->St->Prop)->Prop} {c6:C->St->(Ex->St->Prop)->Prop}:∀{ids:List Nat} {bl:aq},Nw (bu c1 c2 c3 c4 c5 c6) ids bl=Nw eu ids bl
 |[],_=>rfl
 |id::r,bl=>by simp only [Nw,Zu,OL (ids:=r)]
def adY (ar:Ar) (x:O) (env:List (Nat×V)) (bl:aq) (aC:Nat):Out:=some ([],x.ev env,[])
def TH (ar:Ar) (c:O) (a:O) (b:O) (env:List (Nat×V)) (bl:aq) (aC:Nat):Out :=
  match c.ev env with
  | .tf true=>some ([],a.ev env,[])
  | .tf false=>some ([],b.ev env,[])
  | .bool c=>match K4 (a.ev env),K4 (b.ev env) with
   |some x,some y=>some ([],.bool (ar.Gx c x y),[])
   |_,_=>none
  |_=>none
def OM (ar:Ar) (z:List V) (env:List (Nat×V)) (bl:aq) (aC:Nat):Out:=some ([],.ptr aC 0,[(aC,some (.cells z false))])
def Zv (ar:Ar) (x:O) (env:List (Nat×V)) (bl:aq) (aC:Nat):Out:=match (x.ev env).cells? with
  |some cs=>some ([],.ptr aC 0,[(aC,some (.cells cs false))])
  |none=>none
def ON (ar:Ar) (z:List V) (parts:List (Nat×Nat×O)) (env:List (Nat×V)) (bl:aq) (aC:Nat):Out:=match uP parts env z with
  |some cs=>some ([],.agg cs,[])
  |none=>none
def Lv (ar:Ar) (t:Ty) (xs:List O) (env:List (Nat×V)) (bl:aq) (aC:Nat):Out:=match rK ar bl t (xs.map (·.ev env)) with
  |some (ys,u)=>some ([],.sl aC t 0 xs.length,u++[(aC,some (.arr t ys false))])
  |none=>none
def TI (ar:Ar) (agg:Bool) (k:Nat) (x:O) (env:List (Nat×V)) (bl:aq) (aC:Nat):Out :=
  match x.ev env with
  | .ptr id off=>match ay id bl with
   |some (.cells cs _)=>match cut off k cs with
    |some vs=>match cD agg vs with
     |some v=>some ([],v,[])
     |none=>none
    |none=>none
   |_=>none
  | .gx cs=>match cut 0 k cs with
   |some vs=>match cD agg vs with
    |some v=>some ([],v,[])
    |none=>none
   |none=>none
  | .ep id t i p=>match ay id bl with
   |some (.arr t' xs _)=>if t=t' then
     match qk t' (ar.get t'.zero xs i) p with
     |some ⟨t2,y⟩=>match cG t2 y with
      |vs=>if vs.length=k then (match cD agg vs with
       |some v=>some ([ar.Nt i (ar.len xs)],v,[])
       |none=>none) else none
     |none=>none
    else none
   |some (.oa t' xs i' p' v)=>if t=t'/\p=p'/\k=1 then (match agg with
    |false=>some ([ar.eq (Int.ofNat i) (Int.ofNat i')],v,[])
    |true=>none) else none
   |_=>none
  | .ip t y=>match cG t y with
   |vs=>if vs.length=k then (match cD agg vs with
    |some v=>some ([],v,[])
    |none=>none) else none
  | .pa id t m=>match ay id bl with
   |some (.arr t' xs _)=>if t=t' then (match DB ar t' xs m 0 with
    |vs=>if vs.length=k then (match cD agg vs with
     |some v=>some ([],v,[])
     |none=>none) else none) else none
   |_=>none
  | .sp id o l=>match ay id bl with
   |some (.cells cs _)=>match k with
    |1=>match DC ar cs l o with
     |some v=>match cD agg [v] with
      |some v=>some ([],v,[])
      |none=>none
     |none=>none
    |_=>none
   |_=>none
  |_=>none
def OO (ar:Ar) (k:Nat) (a:O) (x:O) (env:List (Nat×V)) (bl:aq) (aC:Nat):Out :=
  match (x.ev env).cells? with
  |none=>none
  |some vs=>if vs.length=k then
   (match a.ev env with
   | .ptr id off=>match ay id bl with
    |some (.cells cs false)=>match rL off vs cs with
     |some cs'=>some ([],.any,[(id,some (.cells cs' false))])
     |none=>none
    |_=>none
   | .ep id t i p=>match ay id bl with
    |some (.arr t' xs false)=>if t=t' then
      match cU ar bl t' (ar.get t'.zero xs i) p vs with
      |some (y,u)=>match uQ id u with
       |true=>some ([ar.Nt i (ar.len xs)],.any,u++[(id,some (.arr t' (ar.set xs i y) false))])
       |false=>none
      |none=>none
     else none
    |_=>none
   | .pa id t m=>match ay id bl with
    |some (.arr t' xs false)=>if t=t' then
      match mB ar bl t' m vs with
      |some (ys,u)=>match uQ id u with
       |true=>some ([],.any,u++[(id,some (.arr t' ys false))])
       |false=>none
      |none=>none
     else none
    |_=>none
   |_=>none) else none
def Zw (ar:Ar) (op:zP) (x:O) (y:O) (env:List (Nat×V)) (bl:aq) (aC:Nat):Out :=
  match x.ev env,y.ev env with
  | .int k a,.int k' b=>match op with
   | .shl=>Ao ar .shl k a b
   | .shr=>Ao ar .shr k a b
   |_=>if k=k' then Gz ar op k a b else none
  | .str a,.str b=>GA ar op a b
  |_,_=>none
def Zx (ar:Ar) (neg:Bool) (x:O) (y:O) (env:List (Nat×V)) (bl:aq) (aC:Nat):Out:=match K4 (x.ev env),K4 (y.ev env) with
  |some a,some b=>some ([],.bool (match neg with|true=>ar.tO (ar.beq a b)|false=>ar.beq a b),[])
  |_,_=>none
def Zy (ar:Ar) (neg:Bool) (ks:List Kd) (x:O) (y:O) (env:List (Nat×V)) (bl:aq) (aC:Nat):Out :=
  match x.ev env,y.ev env with
  | .agg xs,.agg ys=>match aN ar ks xs ys with
   |some c=>some ([],.bool (match neg with|true=>ar.tO c|false=>c),[])
   |none=>none
  |_,_=>none
def Zz (ar:Ar) (x:O) (env:List (Nat×V)) (bl:aq) (aC:Nat):Out:=match x.ev env with
  | .int k a=>match k.signed with
   |true=>match ar.sub 0 a with|z=>some ([ar.dc k z],.int k z,[])
   |false=>some ([],.int k (ar.wr k (ar.sub 0 a)),[])
  |_=>none
def ZA (ar:Ar) (x:O) (env:List (Nat×V)) (bl:aq) (aC:Nat):Out:=match x.ev env with
  | .tf b=>some ([],.tf (!b),[])
  | .bool b=>some ([],.bool (ar.tO b),[])
  |_=>none
def TJ (ar:Ar) (k:IntKind) (x:O) (env:List (Nat×V)) (bl:aq) (aC:Nat):Out:=match x.ev env with
  | .int _ n=>some ([ar.dc k n],.int k n,[])
  |_=>none
def ZB (ar:Ar) (off:Nat) (path:List Bool) (x:O) (env:List (Nat×V)) (bl:aq) (aC:Nat):Out:=match x.ev env with
  | .ptr id o=>some ([],.ptr id (o+off),[])
  | .gx cs=>if off<=cs.length then some ([],.gx (cs.drop off),[]) else none
  | .ep id t i p=>match t.rH p with
   |some t1=>if t1.bK path=off then (match t1.rH path with
    |some _=>some ([],.ep id t i (p++path),[])
    |none=>none) else none
   |none=>none
  | .ip t y=>if t.bK path=off then (match qk t y path with
   |some ⟨t2,z⟩=>some ([],.ip t2 z,[])
   |none=>none) else none
  | .pa id t m=>if (off / t.sz) * t.sz=off/\off / t.sz<m then some ([],.ep id t (off / t.sz) [],[]) else none
  | .mw t xs=>if (off / t.sz) * t.sz=off then some ([ar.Nt (off / t.sz) (ar.len xs)],.ip t (ar.get t.zero xs (off / t.sz)),[]) else none
  | .sp id o l=>some ([],.sp id (o+off) l,[])
  |_=>none
def OP (ar:Ar) (agg:Bool) (off:Nat) (k:Nat) (x:O) (env:List (Nat×V)) (bl:aq) (aC:Nat):Out:=match x.ev env with
  | .agg cs=>match cut off k cs with
   |some vs=>match cD agg vs with
    |some v=>some ([],v,[])
    |none=>none
   |none=>none
  |_=>none
def ZC (ar:Ar) (ff:Nat) (x:O) (i:O) (env:List (Nat×V)) (bl:aq) (aC:Nat):Out :=
  match i.ev env with
  | .int _ n=>match x.ev env with
   | .sl id t lo m=>if t.sz=ff then some ([ar.bT n (Int.ofNat m)],.ep id t (ar.Gy lo (ar.tP n)) [],[]) else none
   | .fS t xs=>if t.sz=ff then some ([ar.bT n (Int.ofNat (ar.len xs))],.ip t (ar.get t.zero xs (ar.tP n)),[]) else none
   |_=>none
  |_=>none
def TK (ar:Ar) (len:Nat) (ff:Nat) (x:O) (i:O) (env:List (Nat×V)) (bl:aq) (aC:Nat):Out :=
  match x.ev env with
  | .pa id t m=>match i.ev env with
   | .int _ j=>if t.sz=ff/\m=len then some ([ar.bT j (Int.ofNat len)],.ep id t (ar.tP j) [],[]) else none
   |_=>none
  | .mw t xs=>match i.ev env with
   | .int _ j=>if t.sz=ff then some ([ar.bT j (Int.ofNat len),ar.bT j (Int.ofNat (ar.len xs))],.ip t (ar.get t.zero xs (ar.tP j)),[]) else none
   |_=>none
  | .ptr id o=>match i.ev env with
   | .int _ j=>some ([ar.bT j (Int.ofNat len)],.sp id o [(ff,len,j)],[])
   |_=>none
  | .sp id o l=>match i.ev env with
   | .int _ j=>some ([ar.bT j (Int.ofNat len)],.sp id o ((ff,len,j)::l),[])
   |_=>none
  | .gx cs=>match i.ev env with
   | .int _ (.ofNat n)=>if n<len then (if n * ff<=cs.length then some ([],.gx (cs.drop (n * ff)),[]) else none) else none
   |_=>none
  |_=>none
def ZD (ar:Ar) (k:Nat) (x:O) (env:List (Nat×V)) (bl:aq) (aC:Nat):Out:=match x.ev env with
  | .cS vs=>match vs[k]? with
   |some v=>some ([],v,[])
   |none=>none
  |_=>none
def ZE (ar:Ar) (x:O) (env:List (Nat×V)) (bl:aq) (aC:Nat):Out:=match x.ev env with
  | .sl _ _ _ n=>some ([],.int .i64 (Int.ofNat n),[])
  | .fS _ xs=>some ([],.int .i64 (Int.ofNat (ar.len xs)),[])
  | .cg=>some ([],.int .i64 0,[])
  |_=>none
def TL (ar:Ar) (x:O) (env:List (Nat×V)) (bl:aq) (aC:Nat):Out:=match x.ev env with
  | .str s=>some ([],.int .i64 (ar.K3 s),[])
  |_=>none
def TM (ar:Ar) (n:Nat) (env:List (Nat×V)) (bl:aq) (aC:Nat):Out:=some ([],.int .i64 (Int.ofNat n),[])
def Lw (ar:Ar) (ff:Nat) (x:O) (y:O) (env:List (Nat×V)) (bl:aq) (aC:Nat):Out :=
  match x.ev env with
  | .cg=>match GB (y.ev env) with
   |some t=>if t.sz=ff then
     (match elems ar bl t (y.ev env) with
     |some ys=>match ar.len ys with
      |m=>some ([ar.Nt m bp],.sl aC t 0 m,[(aC,some (.arr t ys false))])
     |none=>none) else none
   |none=>none
  | .sl id t lo n=>if t.sz=ff then
   (match ay id bl with
   |some (.arr t' xs false)=>if t'=t then
    (match kC t' t xs with
    |some xs'=>match elems ar bl t (y.ev env) with
     |some ys=>match ar.Gy n (ar.len ys) with
      |m=>some ([ar.Nt m bp],.sl aC t 0 m,[(id,none),(aC,some (.arr t (ar.app (ar.sub' xs' lo n) ys) false))])
     |none=>none
    |none=>none) else none
   |_=>none) else none
  |_=>none
def Hg (ar:Ar) (t:Ty) (n:O) (env:List (Nat×V)) (bl:aq) (aC:Nat):Out:=match n.ev env with
  | .int _ z=>match ar.tP z with
   |m=>some ([ar.bT z (Int.ofNat bp)],.sl aC t 0 m,[(aC,some (.arr t (ar.rep m t.zero) false))])
  |_=>none
def TN (ar:Ar) (f:Nat) (a:List O) (b:List O) (env:List (Nat×V)) (bl:aq) (aC:Nat):Out:=some ([],.fn f (a.map (·.ev env)) (b.map (·.ev env)),[])
def OQ (ar:Ar) (ff:Nat) (x:O) (lo:Option O) (hi:Option O) (mx:Option O) (env:List (Nat×V)) (bl:aq) (aC:Nat):Out :=
  match mx with
  |some m=>match hi with
   |some h=>match qK (m.ev env),qK (h.ev env),cH env 0 lo with
    |some a,some b,some c=>match x.ev env with
     | .sl _ _ _ _=>some ([ar.eq a 0,ar.eq b 0,ar.eq c 0],.cg,[])
     | .fS _ _=>some ([ar.eq a 0,ar.eq b 0,ar.eq c 0],.cg,[])
     | .cg=>some ([ar.eq a 0,ar.eq b 0,ar.eq c 0],.cg,[])
     |_=>none
    |_,_,_=>none
   |none=>none
  |none =>
   match x.ev env with
   | .sl id t l n=>if t.sz=ff then
    (match cH env 0 lo,cH env (Int.ofNat n) hi with
    |some a,some b=>some ([ar.le 0 a,ar.le a b,ar.le b (Int.ofNat n)],.sl id t (ar.Gy l (ar.tP a)) (ar.NO (ar.tP b) (ar.tP a)),[])
    |_,_=>none) else none
   | .fS t xs=>if t.sz=ff then
    (match cH env 0 lo,cH env (Int.ofNat (ar.len xs)) hi with
    |some a,some b=>some ([ar.le 0 a,ar.le a b,ar.le b (Int.ofNat (ar.len xs))],.fS t (ar.sub' xs (ar.tP a) (ar.NO (ar.tP b) (ar.tP a))),[])
    |_,_=>none) else none
   | .cg=>(match cH env 0 lo,cH env 0 hi with
    |some a,some b=>some ([ar.eq a 0,ar.eq b 0],.cg,[])
    |_,_=>none)
   |_=>none
def Lx (ar:Ar) (mx:Bool) (x:O) (ys:List O) (env:List (Nat×V)) (bl:aq) (aC:Nat):Out:=match x.ev env with
  | .int k a=>match jd ar mx k a (ys.map (·.ev env)) with
   |some z=>some ([],.int k z,[])
   |none=>none
  |_=>none
def Xx (ar:Ar) (i:I) (env:List (Nat×V)) (bl:aq) (aC:Nat):Out:=match i with
 | .mv x=>adY ar x env bl aC
 | .pick c a b=>TH ar c a b env bl aC
 | .alloc z=>OM ar z env bl aC
 | .box x=>Zv ar x env bl aC
 | .build z parts=>ON ar z parts env bl aC
 | .eG t xs=>Lv ar t xs env bl aC
 | .load agg k x=>TI ar agg k x env bl aC
 | .store k a x=>OO ar k a x env bl aC
 | .bin op x y=>Zw ar op x y env bl aC
 | .SZ neg x y=>Zx ar neg x y env bl aC
 | .eqs neg ks x y=>Zy ar neg ks x y env bl aC
 | .neg x=>Zz ar x env bl aC
 | .not x=>ZA ar x env bl aC
 | .conv k x=>TJ ar k x env bl aC
 | .nu off path x=>ZB ar off path x env bl aC
 | .field agg off k x=>OP ar agg off k x env bl aC
 | .idx ff x i=>ZC ar ff x i env bl aC
 | .zQ len ff x i=>TK ar len ff x i env bl aC
 | .ext k x=>ZD ar k x env bl aC
 | .len x=>ZE ar x env bl aC
 | .lens x=>TL ar x env bl aC
 | .zR n=>TM ar n env bl aC
 | .append ff x y=>Lw ar ff x y env bl aC
 | .jc t n=>Hg ar t n env bl aC
 | .BD f a b=>TN ar f a b env bl aC
 | .slice ff x lo hi mx=>OQ ar ff x lo hi mx env bl aC
 | .l5 mx x ys=>Lx ar mx x ys env bl aC
 | .ex e xs=>iL ar e (xs.map (·.ev env)) bl aC
theorem OR {ar:Ar} {i:I} {env:List (Nat×V)} {bl:aq} {aC:Nat}:Xx ar i env bl aC=b7 ar i env bl aC:=by cases i<;>rfl
section
variable {P:Program} {N:Nat} {Y:Ctx} {ι ι':ax} {μ μ':Mu} {H:aG} {w w':World} {out:Option Nat} {base:Nat}
theorem Ch {ar : Ar} {d : Option Nat} {i : I} {S : St} {K : St → Prop} {ob : List Bool} {v : V} {u : eY} (ak : b7 ar i S.env S.H.bl S.H.next = some (ob, v, u)) (cW : vE ob)
  (hk:K ⟨put d v S.env,⟨Nx i.lays S.H.next,bI u S.H.bl⟩,S.ms⟩):wpOp ar d i S K:=by
 refine .inl ?_
 unfold rM
 rw [ak]
 cases ob with
 |nil=>exact hk
 |cons b r=>exact ⟨cW,hk⟩
theorem ZF {ar : Ar} {d : Option Nat} {i : I} {S : St} {K : St → Prop} {ob : List Bool} {v : V} {u : eY} (ak : wW ar i S.env S.H.bl S.H.next = some (ob, v, u)) (cW : vE ob)
  (hk:K ⟨put d v S.env,⟨Nx i.lays S.H.next,bI u S.H.bl⟩,S.ms⟩):wpOp ar d i S K:=by
 refine .inr (.inl ?_)
 unfold rM
 rw [ak]
 cases ob with
 |nil=>exact hk
 |cons b r=>exact ⟨cW,hk⟩
theorem ZG {ar : Ar} {d : Option Nat} {i : I} {S : St} {K : St → Prop} {ob : List Bool} {v : V} {u u' : eY} {ids : List Nat} (hu : Nw ar ids S.H.bl = some u') (ak : b7 ar i S.env (bI u' S.H.bl) S.H.next = some (ob, v, u)) (cW : vE ob)
  (hk:K ⟨put d v S.env,⟨Nx i.lays S.H.next,bI u (bI u' S.H.bl)⟩,S.ms⟩):wpOp ar d i S K:=by
 refine .inr (.inr ⟨ids,u',hu,?_⟩)
 unfold rM
 rw [ak]
 cases ob with
 |nil=>exact hk
 |cons b r=>exact ⟨cW,hk⟩
end
end Go.AM
end
section
namespace Go.AM
open Go.RowKit
def kR (P : Program) (g : TypeId → Ty → Bool) : Nat → List Field → Ty → Bool
 |_,[],.unit=>true
 |off,[f],ty=>Nat.beq f.offset off&&Nat.beq (P.cellsOf f.type) ty.sz&&g f.type ty
 |off,f::f2::r,.prod a b=>Nat.beq f.offset off&&Nat.beq (P.cellsOf f.type) a.sz&&g f.type a&&kR P g (off+a.sz) (f2::r) b
 |_,_,_=>false
def AR (P:Program) (g:TypeId->Ty->Bool) (fs:List Field) (ty:Ty):Bool:=match fs with
 |[f]=>match ty with
  | .prod a .unit=>kR P g 0 [f] a
  |_=>false
 |fs=>kR P g 0 fs ty
def AS (P : Program) (g : TypeId → Ty → Bool) : Nat → TypeId → Ty → Bool
 |0,_,.unit=>true
 |1,e,ty=>Nat.beq (P.cellsOf e) ty.sz&&g e ty
 |n+2,e,.prod a b=>Nat.beq (P.cellsOf e) a.sz&&g e a&&AS P g (n+1) e b
 |_,_,_=>false
def gA (P : Program) : Nat → TypeId → Ty → Bool
 |0,_,_=>false
 |n+1,t,ty=>match P.underlying t with
  |some .bool=>match ty with | .bool=>true|_=>false
  |some (.int k)=>match ty with | .int k'=>decide (k=k')|_=>false
  |some .string=>match ty with | .str=>true|_=>false
  |some (.slice e)=>match ty with | .list te=>Nat.beq (P.cellsOf e) te.sz&&Nat.blt 0 te.sz&&gA P n e te|_=>false
  |some (.struct fs)=>Nat.beq (P.cellsOf t) ty.sz&&AR P (gA P n) fs.toList ty
  |some (.array m e)=>Nat.beq (P.cellsOf t) ty.sz&&AS P (gA P n) m e ty
  |_=>false
def Wf : (t : Ty) → t.den → Prop
 | .unit,_=>True
 | .bool,_=>True
 | .str,s=>s.size<=maxLen
 | .int k,n=>k.min<=n/\n<=k.max
 | .list t,xs=>xs.length<=maxLen/\∀x∈xs,Wf t x
 | .prod a b,x=>Wf a x.1/\Wf b x.2
 | .cL _ _ a,x=>Wf a x
def jO (w:World):ax:=fun b o=>w.cell? ⟨b,o,none⟩
section
variable {H:Type} {enc:TypeId×Value->H} {P:Program} {w:World} {sp:Nat->Bool} {held:Bool}
theorem Ci {b o:Nat} {a:Addr} {n:Nat} {cs:List Value} (ha:a=⟨b,o,none⟩\/0<n) (hb:a.block=b) (ho:a.off=o) (h:w.cells? 0 a n=some cs):cs.length=n/\Reads (jO w) b o cs/\(0<n->a.spot=none):=by
 unfold World.cells? at h
 rw [if_pos (Nat.zero_le _)] at h
 have key:∀(m:Nat) (xs:List Nat) (cs:List Value),xs.mapM (fun i=>w.cell? (a.add i))=some cs->cs.length=xs.length/\∀(j i:Nat),xs[j]?=some i->w.cell? (a.add i)=cs[j]?:=by
  intro m xs
  induction xs with
  |nil=>intro cs h;simp at h;subst h;exact ⟨rfl,fun j i hj=>by simp at hj⟩
  |cons x xs ih =>
   intro cs h
   rw [List.mapM_cons] at h
   cases hx:w.cell? (a.add x) with
   |none=>simp [hx] at h
   |some v =>
    cases hr:xs.mapM (fun i=>w.cell? (a.add i)) with
    |none=>simp [hx,hr] at h
    |some vs =>
     simp [hx,hr] at h
     subst h
     obtain ⟨h1,h2⟩:=ih vs hr
     refine ⟨by simp [h1],fun j i hj=>?_⟩
     cases j with
     |zero=>simp at hj;subst hj;simpa using hx
     |succ j=>simpa using h2 j i (by simpa using hj)
 obtain ⟨h1,h2⟩:=key 0 _ _ h
 have hlen:cs.length=n:=by simpa using h1
 have OS:0<n->a.spot=none:=fun hn=>by
  have:=h2 0 0 (by simp [hn])
  simp only [Addr.add,if_true] at this
  have hc:∃v,w.cell? a=some v:=⟨cs[0]'(by omega),by rw [this];simp⟩
  obtain ⟨v,hv⟩:=hc
  unfold World.cell? at hv
  cases hs:a.spot with
  |none=>rfl
  |some s=>rw [hs] at hv;split at hv<;>simp at hv
 refine ⟨hlen,fun j v hv=>?_,OS⟩
 have hj:j<cs.length:=(List.getElem?_eq_some_iff.1 hv).1
 have:=h2 j j (by rw [List.getElem?_range (by omega)])
 rw [hv] at this
 unfold jO
 have e:a.add j=⟨b,o+j,none⟩:=by
  have hs:=OS (by omega)
  unfold Addr.add
  subst hb;subst ho
  split
  ·rename_i h0;subst h0;cases a;simp_all
  ·rfl
 rw [e] at this
 exact this
theorem Jr {α : Type} {D : α → List Value → Prop} : ∀ (n : Nat) (f : Nat → α) (g : Nat → List Value), (∀ i, i < n → D (f i) (g i)) → bB D ((List.range n).map f) ((List.range n).flatMap g)
 |0,_,_,_=>rfl
 |n+1,f,g,h=>by
  rw [List.range_succ,List.map_append,List.flatMap_append]
  exact (Jr n f g fun i hi=>h i (by omega)).append ⟨g n,[],by simp,h n (by omega),rfl⟩
theorem TO {k:IntKind} {n:Int} (h:(Lit.int k n).wf=true):k.min<=n/\n<=k.max:=by
 simpa [Lit.wf] using h
theorem qR {n : Nat} (ih : ∀ {t : TypeId} {ty : Ty}, gA P n t ty = true → ∀ {fuel : Nat} {cs : List Value} {x : DataW H × List MemPlace}, DataW.trod enc P w 0 sp held fuel t cs = some x → ∃ y : ty.den, ah (jO w) ty y cs ∧ Wf ty y)
  {fuel:Nat} {cs:List Value}:∀{fs:List Field} {off:Nat} {ty:Ty},kR P (gA P n) off fs ty=true->cs.length=off+ty.sz ->
   (∀f∈fs,∃x,DataW.trod enc P w 0 sp held fuel f.type ((cs.drop f.offset).take (P.cellsOf f.type))=some x)->∃y:ty.den,ah (jO w) ty y (cs.drop off)/\Wf ty y
 |[],off,ty,h,hl,_=>by
  cases ty<;>simp [kR] at h
  exact ⟨(),by simp [ah];simp [Ty.sz] at hl;omega,trivial⟩
 |[f],off,ty,h,hl,hf=>by
  have h':(Nat.beq f.offset off&&Nat.beq (P.cellsOf f.type) ty.sz&&gA P n f.type ty)=true:=by
   cases ty<;>simpa [kR] using h
  simp only [Bool.and_eq_true] at h'
  obtain ⟨⟨h1,h2⟩,h3⟩:=h'
  have e1:=Nat.eq_of_beq_eq_true h1
  have e2:=Nat.eq_of_beq_eq_true h2
  obtain ⟨x,hx⟩:=hf f (List.mem_singleton_self _)
  rw [e1,e2,List.take_of_length_le (by simp;omega)] at hx
  exact ih h3 hx
 |f::f2::r,off,ty,h,hl,hf=>by
  cases ty<;>simp only [kR,Bool.false_eq_true] at h
  rename_i a b
  simp only [Bool.and_eq_true] at h
  obtain ⟨⟨⟨h1,h2⟩,h3⟩,h4⟩:=h
  have e1:=Nat.eq_of_beq_eq_true h1
  have e2:=Nat.eq_of_beq_eq_true h2
  obtain ⟨x,hx⟩:=hf f (List.mem_cons_self ..)
  rw [e1,e2] at hx
  obtain ⟨y,hy,wy⟩:=ih h3 hx
  simp only [Ty.sz] at hl
  obtain ⟨z,hz,wz⟩:=qR ih h4 (by omega) (fun g hg=>hf g (List.mem_cons_of_mem _ hg))
  refine ⟨(y,z),⟨_,_,?_,hy,hz⟩,wy,wz⟩
  rw [<-List.drop_drop,List.take_append_drop]
theorem Js {n : Nat} (ih : ∀ {t : TypeId} {ty : Ty}, gA P n t ty = true → ∀ {fuel : Nat} {cs : List Value} {x : DataW H × List MemPlace}, DataW.trod enc P w 0 sp held fuel t cs = some x → ∃ y : ty.den, ah (jO w) ty y cs ∧ Wf ty y)
  {fuel:Nat} {cs:List Value} {e:TypeId}:∀{m i:Nat} {ty:Ty},AS P (gA P n) m e ty=true->cs.length=i * P.cellsOf e+ty.sz ->
   (∀j,i<=j->j<i+m->∃x,DataW.trod enc P w 0 sp held fuel e ((cs.drop (j * P.cellsOf e)).take (P.cellsOf e))=some x)->∃y:ty.den,ah (jO w) ty y (cs.drop (i * P.cellsOf e))/\Wf ty y
 |0,i,ty,h,hl,_=>by
  cases ty<;>simp [AS] at h
  exact ⟨(),by simp [ah];simp [Ty.sz] at hl;omega,trivial⟩
 |1,i,ty,h,hl,hf=>by
  have h':(Nat.beq (P.cellsOf e) ty.sz&&gA P n e ty)=true:=by
   cases ty<;>simpa [AS] using h
  simp only [Bool.and_eq_true] at h'
  have e2:=Nat.eq_of_beq_eq_true h'.1
  obtain ⟨x,hx⟩:=hf i (Nat.le_refl _) (by omega)
  rw [List.take_of_length_le (by rw [List.length_drop];omega)] at hx
  exact ih h'.2 hx
 |m+2,i,ty,h,hl,hf=>by
  cases ty<;>simp only [AS,Bool.false_eq_true] at h
  rename_i a b
  simp only [Bool.and_eq_true] at h
  obtain ⟨⟨h1,h3⟩,h4⟩:=h
  have e2:=Nat.eq_of_beq_eq_true h1
  obtain ⟨x,hx⟩:=hf i (Nat.le_refl _) (by omega)
  obtain ⟨y,hy,wy⟩:=ih h3 hx
  simp only [Ty.sz] at hl
  obtain ⟨z,hz,wz⟩:=Js ih h4 (i:=i+1) (by rw [Nat.add_mul];omega) (fun j h1 h2=>hf j (by omega) (by omega))
  refine ⟨(y,z),⟨_,_,?_,hy,hz⟩,wy,wz⟩
  rw [show (i+1) * P.cellsOf e=i * P.cellsOf e+P.cellsOf e by rw [Nat.add_mul];omega,<-List.drop_drop,List.take_append_drop]
theorem OT {n:Nat}:∀{t:TypeId} {ty:Ty},gA P n t ty=true->∀{fuel:Nat} {cs:List Value} {x:DataW H×List MemPlace},DataW.trod enc P w 0 sp held fuel t cs=some x->∃y:ty.den,ah (jO w) ty y cs/\Wf ty y:=by
 induction n with
 |zero=>intro t ty h;cases h
 |succ n ih =>
  intro t ty h fuel cs x hx
  have hx0:=hx
  unfold gA at h
  split at h
  ·rename_i hu
   cases ty<;>simp at h
   cases fuel with
   |zero=>simp [DataW.trod] at hx
   |succ fuel =>
    rcases cs with _|⟨c,_|⟨c2,r⟩⟩
    ·simp [DataW.trod,hu] at hx
    ·cases c <;> simp [DataW.trod, hu] at hx
     exact ⟨_,rfl,trivial⟩
    ·simp [DataW.trod,hu] at hx
  ·rename_i k hu
   cases ty<;>simp at h
   subst h
   cases fuel with
   |zero=>simp [DataW.trod] at hx
   |succ fuel =>
    rcases cs with _|⟨c,_|⟨c2,r⟩⟩
    ·simp [DataW.trod,hu] at hx
    ·cases c <;> simp [DataW.trod, hu] at hx
     obtain ⟨⟨rfl,h2⟩,_⟩:=hx
     exact ⟨_,rfl,TO h2⟩
    ·simp [DataW.trod,hu] at hx
  ·rename_i hu
   cases ty<;>simp at h
   cases fuel with
   |zero=>simp [DataW.trod] at hx
   |succ fuel =>
    rcases cs with _|⟨c,_|⟨c2,r⟩⟩
    ·simp [DataW.trod,hu] at hx
    ·cases c <;> simp [DataW.trod, hu] at hx
     exact ⟨_,rfl,hx.1⟩
    ·simp [DataW.trod,hu] at hx
  ·rename_i e hu
   cases ty<;>simp only [Bool.false_eq_true] at h
   rename_i te
   simp only [Bool.and_eq_true] at h
   obtain ⟨⟨h1,h2⟩,h3⟩:=h
   have e1:=Nat.eq_of_beq_eq_true h1
   have hpos:0<te.sz:=by simpa using h2
   rcases DataW.trod_slice hu hx with ⟨rfl,rfl⟩|⟨a,len,cap,elems,rest,m,_,rfl,rfl,_,hlc,hm,hel,hE,_,_⟩
   ·exact ⟨[],⟨none,0,by simp,by simp,.inl rfl⟩,by simp,by simp⟩
   ·have each:∀i,i<len->∃(y:te.den) (us:List Value),ah (jO w) te y us/\Wf te y/\us.length=te.sz/\Reads (jO w) a.block (a.off+i * te.sz) us/\(i=0->a.spot=none):=fun i hi=>by
     have:=hE i hi
     have hlt:i<elems.length:=by omega
     rw [List.getElem?_eq_getElem hlt,e1] at this
     cases hc:w.cells? 0 (a.add (i * te.sz)) te.sz with
     |none=>rw [hc] at this;simp at this
     |some us =>
      rw [hc,Option.bind_some] at this
      obtain ⟨y,hy,wy⟩:=ih h3 this
      have hb:(a.add (i * te.sz)).block=a.block:=by unfold Addr.add;split<;>rfl
      have ho:(a.add (i * te.sz)).off=a.off+i * te.sz:=by unfold Addr.add;split<;>simp_all
      obtain ⟨q1,q2,q3⟩:=Ci (.inr hpos) hb ho hc
      refine ⟨y,us,hy,wy,q1,q2,fun h0=>?_⟩
      subst h0
      have:=q3 hpos
      simpa [Addr.add] using this
    by_cases hl0:len=0
    ·subst hl0
     exact ⟨[],⟨some a,cap,rfl,by simp,.inl rfl⟩,by simp,by simp⟩
    ·obtain ⟨f,hf⟩:∃f:Nat->te.den×List Value,∀i,i<len->ah (jO w) te (f i).1 (f i).2/\Wf te (f i).1/\(f i).2.length=te.sz/\Reads (jO w) a.block (a.off+i * te.sz) (f i).2/\(i=0->a.spot=none) :=
      ⟨fun i=>if h:i<len then ((each i h).choose,(each i h).choose_spec.choose) else (te.zero,[]),fun i hi=>by simp only [hi,dif_pos];exact (each i hi).choose_spec.choose_spec⟩
     have OS:=(hf 0 (by omega)).2.2.2.2 rfl
     have hrd:∀n,n<=len->((List.range n).flatMap fun i=>(f i).2).length=n * te.sz/\Reads (jO w) a.block a.off ((List.range n).flatMap fun i=>(f i).2):=fun n=>by
      induction n with
      |zero=>intro _;exact ⟨by simp,fun j v hv=>by simp at hv⟩
      |succ n ih2 =>
       intro hn
       obtain ⟨l1,l2⟩:=ih2 (by omega)
       obtain ⟨_,_,l3,l4,_⟩:=hf n (by omega)
       rw [List.range_succ,List.flatMap_append]
       simp only [List.flatMap_cons,List.flatMap_nil,List.append_nil]
       refine ⟨by rw [List.length_append,l1,l3,Nat.add_mul];simp,fun j v hv=>?_⟩
       rw [List.getElem?_append] at hv
       split at hv
       ·exact l2 j v hv
       ·rename_i hj
        have:=l4 _ _ hv
        rw [l1] at this hj
        rw [show a.off+n * te.sz+(j - n * te.sz)=a.off+j by omega] at this
        exact this
     refine ⟨(List.range len).map fun i=>(f i).1,⟨some a,cap,by simp,by simpa using hlc,.inr ⟨a.block,a.off,(List.range len).flatMap fun i=>(f i).2,by cases a;simp_all,(hrd len (Nat.le_refl _)).2,Jr _ _ _ fun i hi=>(hf i hi).1⟩⟩,by simp;omega,fun x hx=>?_⟩
     obtain ⟨i,hi,rfl⟩:=List.mem_map.1 hx
     exact (hf i (List.mem_range.1 hi)).2.1
  ·rename_i fs hu
   simp only [Bool.and_eq_true] at h
   obtain ⟨h1,h2⟩:=h
   obtain ⟨xs,m,_,_,hl,hxl,hf⟩:=DataW.trod_struct hu hx
   have hfm:∀f∈fs.toList,∃y,DataW.trod enc P w 0 sp held m f.type ((cs.drop f.offset).take (P.cellsOf f.type))=some y:=fun f hfm=>by
    obtain ⟨i,hi⟩:=List.getElem?_of_mem hfm
    have hi':fs[i]?=some f:=by simpa using hi
    have hlt:i<xs.length:=by rw [hxl];exact (Array.getElem?_eq_some_iff.1 hi').1
    exact ⟨xs[i],by rw [hf i f hi'];simp⟩
   have hlen:cs.length=ty.sz:=by rw [hl,Nat.eq_of_beq_eq_true h1]
   unfold AR at h2
   split at h2
   ·rename_i f hfs
    split at h2<;>try (cases h2;done)
    rename_i a
    have:=qR ih (fuel:=m) (cs:=cs) h2 (by simpa [Ty.sz] using hlen) (fun f' hf'=>by rw [<-hfs] at hf';exact hfm f' hf')
    obtain ⟨y,hy,wy⟩:=this
    exact ⟨(y,()),⟨cs,[],by simp,by simpa using hy,rfl⟩,wy,trivial⟩
   ·have := qR ih (fuel := m) (cs := cs) h2 (by simpa using hlen) hfm
    simpa using this
  ·rename_i m e hu
   simp only [Bool.and_eq_true] at h
   obtain ⟨h1,h2⟩:=h
   obtain ⟨xs,k,_,_,hl,hxl,hf⟩:=DataW.trod_array hu hx
   have:=Js ih (fuel:=k) (cs:=cs) (i:=0) h2 (by rw [hl,Nat.eq_of_beq_eq_true h1];simp) (fun j _ hj=>⟨xs[j]'(by omega),by rw [hf j (by omega)];simp⟩)
   simpa using this
  ·cases h
end
end Go.AM
end
section
namespace Go.AM
inductive EV (π : List Nat) : V → V → Prop
 |any (v):EV π .any v
 |tf (b):EV π (.tf b) (.tf b)
 |bool (b):EV π (.bool b) (.bool b)
 |tfb (b):EV π (.bool b) (.tf b)
 |int (k n):EV π (.int k n) (.int k n)
 |str (s):EV π (.str s) (.str s)
 |fG:EV π .fG .fG
 |cZ:EV π .cZ .cZ
 |gw:EV π .gw .gw
 |fS (t xs):EV π (.fS t xs) (.fS t xs)
 |ZH (t):EV π (.fS t []) .cg
 |cg:EV π .cg .cg
 |sl (id i t lo n) (h:π[id]?=some i):EV π (.sl id t lo n) (.sl i t lo n)
 |ZI (id t lo):EV π (.sl id t lo 0) .cg
 |ptr (id i o) (h:π[id]?=some i):EV π (.ptr id o) (.ptr i o)
 |ep (id i t j p) (h:π[id]?=some i):EV π (.ep id t j p) (.ep i t j p)
 |yl (id i) (h:π[id]?=some i):EV π (.yl id) (.yl i)
 |ip (t x):EV π (.ip t x) (.ip t x)
 |gx (cs ds) (h:cs.length=ds.length) (h2:∀(i:Nat) v u,cs[i]?=some v->ds[i]?=some u->EV π v u):EV π (.gx cs) (.gx ds)
 | fn (f as as' cs cs') (h : as.length = as'.length) (h2 : ∀ (i : Nat) v u, as[i]? = some v → as'[i]? = some u → EV π v u)
   (h3:cs.length=cs'.length) (h4:∀(i:Nat) v u,cs[i]?=some v->cs'[i]?=some u->EV π v u):EV π (.fn f as cs) (.fn f as' cs')
 |agg (cs ds) (h:cs.length=ds.length) (h2:∀(i:Nat) v u,cs[i]?=some v->ds[i]?=some u->EV π v u):EV π (.agg cs) (.agg ds)
 |cS (cs ds) (h:cs.length=ds.length) (h2:∀(i:Nat) v u,cs[i]?=some v->ds[i]?=some u->EV π v u):EV π (.cS cs) (.cS ds)
 |cL (t v u) (h:EV π v u):EV π (.cL t v) (.cL t u)
 |cb (c):EV π (.cb c) (.cb c)
 |mp (id i) (h:π[id]?=some i):EV π (.mp id) (.mp i)
 |cT:EV π .cT .cT
 |pa (id i t n) (h:π[id]?=some i):EV π (.pa id t n) (.pa i t n)
 |mw (t xs):EV π (.mw t xs) (.mw t xs)
def Dy (π:List Nat) (cs ds:List V):Prop:=cs.length=ds.length/\∀(i:Nat) v u,cs[i]?=some v->ds[i]?=some u->EV π v u
theorem Dy.nil {π:List Nat}:Dy π [] []:=⟨rfl,fun i v u h=>by simp at h⟩
theorem Dy.cons {π:List Nat} {v u:V} {cs ds:List V} (h:EV π v u) (hl:Dy π cs ds):Dy π (v::cs) (u::ds) :=
 ⟨by simp [hl.1],fun i w y hw hy=>by
  cases i with
  |zero=>simp at hw hy;subst hw;subst hy;exact h
  |succ i=>exact hl.2 i w y (by simpa using hw) (by simpa using hy)⟩
def EE (π:List Nat) (env' env:List (Nat×V)):Prop:=∀p∈env',EV π p.2 (get p.1 env)
def EBk (π:List Nat) (nx:Nat) (bl:aq) (id:Nat) (B:lD):Prop:=∃i,π[id]?=some i/\match B with
 | .cells cs fz=>∃ds,ay i bl=some (.cells ds fz)/\Dy π cs ds
 | .arr t xs fz=>ay i bl=some (.arr t xs fz)\/(xs=[]/\nx<=i)
 | .loop st j d env ps as bd N=>∃d0 jY,ay i bl=some (.loop st j d0 jY ps as bd N)/\π[d]?=some d0/\EE π env jY
 | .iH=>ay i bl=some .iH
 | .map kt kg vt vg es=>ay i bl=some (.map kt kg vt vg es)
 | .oa t xs k p v=>∃u,ay i bl=some (.oa t xs k p u)/\EV π v u
structure jE (base:Nat) (π:List Nat) (S S':St):Prop where
 pre:π.take base=List.range base
 nx:S'.H.next=π.length
 ms:S'.ms.map (fun i=>π[i]?)=S.ms.map some
 env:EE π S'.env S.env
 bl:∀p∈S'.H.bl,EBk π S.H.next S.H.bl p.1 p.2
 inj:∀p∈S'.H.bl,∀q∈S'.H.bl,π[p.1]?=π[q.1]?->p.1=q.1
section
variable {P:Program} {N:Nat} {Y:Ctx} {ι ι':ax} {μ μ':Mu} {H:aG} {w w':World} {out:Option Nat} {base:Nat} {π:List Nat}
theorem aM.kq {cs ds:List V} {xs:List Value} (h:cs.length=ds.length) (ih:∀(i:Nat) v u,cs[i]?=some v->ds[i]?=some u->∀{x:Value},Rel ι μ u x->Rel ι (μ.kq π) v x) (hr:aM ι μ ds xs):aM ι (μ.kq π) cs xs :=
 ⟨h.trans hr.1,fun i v x hv hx=>by
  have hi:i<ds.length:=by have:=(List.getElem?_eq_some_iff.1 hv).1;omega
  exact ih i v ds[i] hv (by simp [hi]) (hr.2 i ds[i] x (by simp [hi]) hx)⟩
theorem EV.rel {v' v:V} (h:EV π v' v):∀{x:Value},Rel ι μ v x->Rel ι (μ.kq π) v' x:=by
 induction h with
 |any v=>intro x _;exact .any _
 |tf b=>intro x hr;cases hr;exact .tf _
 |bool b=>intro x hr;cases hr;exact .bool _
 |tfb b=>intro x hr;cases hr;exact .bool _
 |int k n=>intro x hr;cases hr;exact .int _ _
 |str s=>intro x hr;cases hr;exact .str _
 |fG=>intro x hr;cases hr;exact .fG
 |cZ=>intro x hr;cases hr;exact .cZ
 |gw=>intro x hr;cases hr;exact .gw
 |fS t xs=>intro x hr;cases hr with|fS _ _ _ hd=>exact .fS t xs _ hd
 |ZH t=>intro x hr;cases hr;exact .fS _ _ _ ⟨_,0,rfl,Nat.le_refl _,.inl rfl⟩
 |cg=>intro x hr;cases hr;exact .cg _
 |sl id i t lo n hi =>
  intro x hr
  cases hr with
  |sl _ _ _ _ cap L hL h1 h2 h3=>exact .sl id t lo n cap L (by simp [Mu.kq,hi,hL]) h1 h2 h3
  |bH=>exact .bH _ _ _ _
 |ZI id t lo=>intro x hr;cases hr;exact .bH _ _ _ _
 |ptr id i o hi=>intro x hr;cases hr with|ptr _ _ L hL=>exact .ptr id o L (by simp [Mu.kq,hi,hL])
 |ep id i t j p hi=>intro x hr;cases hr with|ep _ _ _ _ L hL=>exact .ep id t j p L (by simp [Mu.kq,hi,hL])
 |yl id i hi=>intro x hr;cases hr with|yl _ L hL=>exact .yl id L (by simp [Mu.kq,hi,hL])
 |ip t y=>intro x hr;cases hr with|ip _ _ b o us h1 h2=>exact .ip t y b o us h1 h2
 |gx cs ds h h2 ih =>
  intro x hr
  cases hr with
  |gx _ b o gf h1 h3 h4 =>
   have hR:aM ι μ ds ((List.range ds.length).map gf):=⟨by simp,fun i v x hv hx=>by
    have hi:=(List.getElem?_eq_some_iff.1 hv).1
    simp [hi] at hx;subst hx;exact h3 i v hv⟩
   have fU:=aM.kq h ih hR
   exact .gx cs b o gf (fun i hi => h1 i (by omega)) (fun i v hv => fU.2 i v (gf i) hv (by
    have hi:=(List.getElem?_eq_some_iff.1 hv).1
    simp [show i<ds.length by omega])) h4
 |fn f as as' cs cs' h h2 h3 h4 ih1 ih2 =>
  intro x hr
  cases hr with
  |fn _ _ _ xs ys q1 q2 q3 q4 =>
   have r1:=aM.kq h ih1 (xs:=xs.toList) ⟨by simpa using q1,fun i v x hv hx=>q2 i v x hv (by simpa using hx)⟩
   have r2:=aM.kq h3 ih2 (xs:=ys.toList) ⟨by simpa using q3,fun i v x hv hx=>q4 i v x hv (by simpa using hx)⟩
   exact .fn f as cs xs ys (by simpa using r1.1) (fun i v x hv hx=>r1.2 i v x hv (by simpa using hx)) (by simpa using r2.1) (fun i v x hv hx=>r2.2 i v x hv (by simpa using hx))
 |agg cs ds h h2 ih =>
  intro x hr
  cases hr with
  |agg _ xs q1 q2 q3 =>
   have r1:=aM.kq h ih (xs:=xs.toList) ⟨by simpa using q1,fun i v x hv hx=>q2 i v x hv (by simpa using hx)⟩
   exact .agg cs xs (by simpa using r1.1) (fun i v x hv hx=>r1.2 i v x hv (by simpa using hx)) q3
 |cS cs ds h h2 ih =>
  intro x hr
  cases hr with
  |cS _ xs q1 q2 =>
   have r1:=aM.kq h ih (xs:=xs.toList) ⟨by simpa using q1,fun i v x hv hx=>q2 i v x hv (by simpa using hx)⟩
   exact .cS cs xs (by simpa using r1.1) (fun i v x hv hx=>r1.2 i v x hv (by simpa using hx))
 |cL t v u h ih=>intro x hr;cases hr with|cL _ _ x hx=>exact .cL t v x (ih hx)
 |cb c=>intro x hr;cases hr with|cb _ b hc=>exact .cb c b hc
 |mp id i hi=>intro x hr;cases hr with|mp _ L hL=>exact .mp id L (by simp [Mu.kq,hi,hL])
 |cT=>intro x hr;cases hr;exact .cT
 |pa id i t n hi=>intro x hr;cases hr with|pa _ _ _ L hL hm=>exact .pa id t n L (by simp [Mu.kq,hi,hL]) hm
 |mw t xs=>intro x hr;cases hr with|mw _ _ b o us h1 h2=>exact .mw t xs b o us h1 h2
theorem EE.rel {tmps : Array Value} {env : List (Nat × V)} (he : fu ι μ env tmps) : ∀ {env' : List (Nat × V)}, EE π env' env → fu ι (μ.kq π) env' tmps
 |[],_=>fun t=>.any _
 |(t,v)::r,h=>fun i=>by
  rw [cz];split
  ·rename_i e;subst e;exact (h _ (List.mem_cons_self ..)).rel (he _)
  ·exact EE.rel he (fun p hp=>h p (List.mem_cons_of_mem _ hp)) i
theorem dH : ∀ {bl : aq} {id : Nat} {b : lD}, ay id bl = some b → (id, b) ∈ bl
 |[],id,b,h=>by simp [ay] at h
 |(s,c)::r,id,b,h=>by
  rw [bC] at h
  split at h
  ·rename_i e;subst e;cases h;exact List.mem_cons_self ..
  ·exact List.mem_cons_of_mem _ (dH h)
theorem jE.rep {S S':St} (h:jE base π S S') (hbase:Y.base base) {a:Act} (hR:dX P N Y ι μ S a w):dX P N Y ι (μ.kq π) S' a w:=by
 have hI:=hR.inv
 have hle:Y.m0.le (μ.kq π):=fun id L hL=>by
  have hlt:id<base:=by
   rcases Nat.lt_or_ge id base with h|h
   ·exact h
   ·rw [hbase id h] at hL;cases hL
  have:π[id]?=some id:=by
   have e1:(π.take base)[id]?=(List.range base)[id]?:=by rw [h.pre]
   rw [List.getElem?_take,if_pos hlt,List.getElem?_range hlt] at e1
   exact e1
  simp [Mu.kq,this,hI.m0 id L hL]
 refine ⟨h.env.rel hR.env,hR.sz,⟨hI.below,hI.i0,hI.iB,hI.rd,hle,fun id hid=>?_,fun id B hB=>?_,?_,fun id B hB=>?_,hI.gl⟩,?_⟩
 ·have : π[id]? = none := List.getElem?_eq_none (by rw [← h.nx]; exact hid)
  simp [Mu.kq,this]
 ·obtain ⟨i, e1, hb⟩ := h.bl _ (dH hB)
  have iF:(μ.kq π) id=μ i:=by simp only [Mu.kq];rw [e1];rfl
  cases B with
  |cells cs fz =>
   obtain ⟨ds,e2,ak⟩:=hb
   obtain ⟨L,vs,hM,NA⟩:=hI.live i _ e2
   exact ⟨L,vs,⟨by rw [iF];exact hM.mu,hM.old,hM.row,hM.fits,hM.one,hM.GH,hM.rI⟩,aM.kq ak.1 (fun i v u hv hu=>fun {x} hr=>(ak.2 i v u hv hu).rel hr) NA⟩
  |arr t xs fz =>
   rcases hb with e2|⟨rfl,hge⟩
   ·rcases hI.live i _ e2 with ⟨e, hn⟩ | ⟨L, vs, hM, hc, hl⟩
    ·exact .inl ⟨e,by rw [iF];exact hn⟩
    ·exact .inr ⟨L,vs,⟨by rw [iF];exact hM.mu,hM.old,hM.row,hM.fits,hM.one,hM.GH,hM.rI⟩,hc,hl⟩
   ·exact .inl ⟨rfl,by rw [iF];exact hI.nx i hge⟩
  |loop st j d env ps as bd N =>
   obtain ⟨d0,jY,e2,e3,hee⟩:=hb
   obtain ⟨L,r,Ld,q1,q2,q3,q4,q5,q6,q7,q8,q9,q10,q11,q12,q13⟩:=hI.live i _ e2
   exact ⟨L,r,Ld,by rw [iF];exact q1,q2,q3,q4,q5,hee.rel q6,q7,q8,q9,q10,q11,by simp only [Mu.kq];rw [e3];exact q12,q13⟩
  |iH =>
   obtain ⟨L,q1,q2,q3⟩:=hI.live i _ hb
   exact ⟨L,by rw [iF];exact q1,q2,q3⟩
  |map kt kg vt vg es =>
   obtain ⟨L,ms,clock,dW,q1,q2,q3⟩:=hI.live i _ hb
   exact ⟨L,ms,clock,dW,by rw [iF];exact q1,q2,q3⟩
  |oa t xs k p v =>
   obtain ⟨u,e2,ak⟩:=hb
   obtain ⟨L,us,vs,c,hM,hc,hl,q1,q2,q3,q4⟩:=hI.live i _ e2
   exact ⟨L,us,vs,c,⟨by rw [iF];exact hM.mu,hM.old,hM.row,hM.fits,hM.one,hM.GH,hM.rI⟩,hc,hl,q1,q2,q3,ak.rel q4⟩
 ·intro id id' B B' L L' hb hb' hm hm' e
  obtain ⟨i,e1,hbk⟩:=h.bl _ (dH hb)
  obtain ⟨i',Lf,hbk'⟩:=h.bl _ (dH hb')
  simp only at e1 Lf
  have iF:(μ.kq π) id=μ i:=by simp only [Mu.kq];rw [e1];rfl
  have hmu':(μ.kq π) id'=μ i':=by simp only [Mu.kq];rw [Lf];rfl
  rw [iF] at hm;rw [hmu'] at hm'
  have live:∀{i:Nat} {B:lD} {id:Nat} {L:Loc},EBk π S.H.next S.H.bl id B->π[id]?=some i->μ i=some L->∃C,ay i S.H.bl=some C:=by
   intro i B id L hbk e hm
   obtain ⟨i2,e2,fF⟩:=hbk
   rw [e] at e2;cases e2
   cases B with
   |cells cs fz=>obtain ⟨ds,e2,_⟩:=fF;exact ⟨_,e2⟩
   |arr t xs fz =>
    rcases fF with e2|⟨_,hge⟩
    ·exact ⟨_,e2⟩
    ·rw [hI.nx i hge] at hm;cases hm
   |loop st j d env ps as bd N=>obtain ⟨d0,jY,e2,_⟩:=fF;exact ⟨_,e2⟩
   |iH=>exact ⟨_,fF⟩
   |map kt kg vt vg es=>exact ⟨_,fF⟩
   |oa t xs k p v=>obtain ⟨u,e2,_⟩:=fF;exact ⟨_,e2⟩
  obtain ⟨C,hC⟩:=live (h.bl _ (dH hb)) e1 hm
  obtain ⟨C',Tb⟩:=live (h.bl _ (dH hb')) Lf hm'
  have:=hI.inj i i' C C' L L' hC Tb hm hm' e
  subst this
  exact h.inj _ (dH hb) _ (dH hb') (e1.trans Lf.symm)
 ·obtain ⟨i, e1, _⟩ := h.bl _ (dH hB)
  have:=(List.getElem?_eq_some_iff.1 e1).1
  rw [h.nx];exact this
 ·have key:∀{ms ms':List Nat} {ds:List Deferred},ms'.map (fun i=>π[i]?)=ms.map some->mb Y.hid μ ms ds->mb Y.hid (μ.kq π) ms' ds:=by
   intro ms
   induction ms with
   |nil=>intro ms' ds e hm;cases ms'<;>simp at e;exact hm
   |cons i ms ih =>
    intro ms' ds e hm
    cases ms' with
    |nil=>simp at e
    |cons i' ms' =>
     simp only [List.map_cons,List.cons.injEq] at e
     obtain ⟨L,d,ds',q1,q2,q3,q4⟩:=hm
     exact ⟨L,d,ds',q1,by simp [Mu.kq,e.1,q2],q3,ih e.2 q4⟩
  exact key h.ms hR.ms
def lP {α β : Type} (step : α → Option (α ⊕ β)) : Nat → α → Option β
 |0,_=>none
 |n+1,x=>match step x with
  |none=>none
  |some (.inl y)=>lP step n y
  |some (.inr b)=>some b
noncomputable def iter {α β:Type} (step:α->Option (α ⊕ β)) (x:α):Option β:=by
 classical exact if h:∃n b,lP step n x=some b then some h.choose_spec.choose else none
theorem AU {α β : Type} {step : α → Option (α ⊕ β)} : ∀ {n m : Nat} {x : α} {b c : β}, lP step n x = some b → lP step m x = some c → b = c
 |0,_,_,_,_,h,_=>by cases h
 |_+1,0,_,_,_,_,h=>by cases h
 |n+1,m+1,x,b,c,h,h'=>by
  simp only [lP] at h h'
  split at h
  ·cases h
  ·rename_i y e;rw [e] at h';exact AU h h'
  ·rename_i b' e;rw [e] at h';cases h;cases h';rfl
theorem Jt {α β:Type} {step:α->Option (α ⊕ β)} {n:Nat} {x:α} {b:β} (h:lP step n x=some b):iter step x=some b:=by
 unfold iter
 have h':∃n b,lP step n x=some b:=⟨n,b,h⟩
 rw [dif_pos h']
 exact congrArg some (AU h'.choose_spec.choose_spec h)
theorem uv {α β:Type} {step:α->Option (α ⊕ β)} {x:α} {b:β} (h:iter step x=some b):∃n,lP step n x=some b:=by
 unfold iter at h
 split at h
 ·rename_i h';cases h;exact ⟨_,h'.choose_spec.choose_spec⟩
 ·cases h
theorem oS {α β:Type} {step:α->Option (α ⊕ β)} {x y:α} {b:β} (h:step x=some (.inl y)) (h':iter step y=some b):iter step x=some b:=by
 obtain ⟨n,hn⟩:=uv h'
 exact Jt (n:=n+1) (by simp [lP,h,hn])
theorem jt {α β:Type} {step:α->Option (α ⊕ β)} {x:α} {b:β} (h:step x=some (.inr b)):iter step x=some b :=
 Jt (n:=1) (by simp [lP,h])
theorem Lz (gU : nG P N out base) {α β : Type} {I : α → St} {X : β → Ex × St} {step : α → Option (α ⊕ β)} {c : C}
  (hstep:∀x r,step x=some r->rT (eW P N out base) c (I x) fun e S'=>match r with
   | .inl y=>e = .normal/\∃π,jE base π S' (I y)
   | .inr b=>e ≠ .normal/\e=(X b).1/\∃π,jE base π S' (X b).2)
  {x:α} {b:β} (hx:iter step x=some b) {S:St} {π:List Nat} (hS:jE base π S (I x)) {K:Ex->St->Prop} (hK:K (X b).1 (X b).2):(eW P N out base).loop c S K:=by
 obtain ⟨n,hn⟩:=uv hx
 intro body hbody Y ι μ a w ho hb hR
 refine wpIn_loop_ghost (fun (n:Nat) a w=>∃Y1,Ext P Y Y1/\∃x ι μ,dX P N Y1 ι μ (I x) a w/\lP step n x=some b) id (x:=n) ⟨Y,.refl Y,x,ι,_,hS.rep hb hR,hn⟩ ?_
 rintro n a w ⟨Y0,SE,x,ι,μ,hR,hx⟩
 cases n with
 |zero=>cases hx
 |succ n =>
  simp only [lP] at hx
  split at hx
  ·cases hx
  ·rename_i y e
   refine wpIn_mono (GU (gT gU body hbody (hstep x _ e)) SE ho hb hR) fun e a' w' hp=>?_
   obtain ⟨Y1,hY,ι',μ',S',e',h1,h2,rfl,π',h3⟩:=hp
   cases h2
   exact ⟨n,⟨Y1,hY,y,ι',_,h3.rep (hY.uV hb) h1,hx⟩,Nat.lt_succ_self n⟩
  ·rename_i b' e
   cases hx
   refine wpIn_mono (GU (gT gU body hbody (hstep x _ e)) SE ho hb hR) fun e a' w' hp=>?_
   obtain ⟨Y1,hY,ι',μ',S',e',h1,h2,hne,h3,π',h4⟩:=hp
   have hp:Post P N Y K e a' w':=⟨Y1,hY,ι',_,_,_,h4.rep (hY.uV hb) h1,by rw [<-h3];exact h2,hK⟩
   cases e' with
   |normal=>exact absurd rfl hne
   |exit id=>cases h2;exact hp
   |ret=>cases h2;exact hp
end
abbrev Env:=List (Nat×V)
section
variable {P:Program} {N:Nat} {Y:Ctx} {ι ι':ax} {μ μ':Mu} {H H':aG} {w w':World} {out:Option Nat} {base:Nat}
theorem Inv.junk (h:Inv P Y ι μ H w) (o:Obj):Inv P Y ι μ H (w.alloc o):=by
 have heap:∀k,k<w.heap.size->(w.alloc o).heap[k]?=w.heap[k]?:=fun k hk=>by
  show (w.heap.push o)[k]?=_
  rw [Array.getElem?_push];split
  ·omega
  ·rfl
 refine ⟨⟨h.below.os,h.below.tape,h.below.output,by have:=h.below.size;simp;omega,fun k hk hx=>?_,h.below.dr,fun k hk=>(h.below.maps k hk).trans (.eq (heap k (Nat.lt_of_lt_of_le hk h.below.size)))⟩,h.i0,h.iB,fun b o x hx=>?_,h.m0,h.nx,fun id B hB=>?_,h.inj,h.lt,h.gl⟩
 ·have := h.below.size
  rw [heap k (by omega)];exact h.below.block k hk hx
 ·have := h.rd b o x hx
  rw [World.cell?_alloc_lt _ _ _ (World.block_lt_of_cell? _ _ this)];exact this
 ·exact (h.live id B hB).mono (ax.le_refl _) (Mu.le_refl _) (fun h=>h) (fun L' hL'=>heap _ ((h.live id B hB).loc hL').2) (fun _ _ h=>h)
theorem ef.Xy {B:Nat->Prop} {id:Nat} {b:lD} (h:ef P B ι μ id w b) {L:Loc} (hL:μ id=some L) {r:Nat} {m:Option Nat} {s c:Nat} {seen:Array Nat} (hr:w.heap[r]?=some (.mapIter m s seen c)):L.b≠r:=by
 intro e
 subst e
 cases b with
 |cells cs fz =>
  obtain ⟨L',vs,hM,_⟩:=h
  have:=hM.mu;rw [hL] at this;cases this
  obtain ⟨c,e,h1,_⟩:=hM.row
  rw [hr] at h1;cases h1
 |arr t xs fz =>
  rcases h with ⟨_,h⟩|⟨L',vs,hM,_⟩
  ·rw [h] at hL;cases hL
  ·have := hM.mu; rw [hL] at this; cases this
   obtain ⟨c,e,h1,_⟩:=hM.row
   rw [hr] at h1;cases h1
 |loop st j d env ps as bd N =>
  obtain ⟨L',r,Ld,h1,h2,h3,_⟩:=h
  rw [hL] at h1;cases h1
  rw [hr] at h3;cases h3
 |iH =>
  obtain ⟨L',h1,h2,h3⟩:=h
  rw [hL] at h1;cases h1
  rw [hr] at h3;cases h3
 |map kt kg vt vg es =>
  obtain ⟨L',ms,clock,dW,h1,h2,h3,_⟩:=h
  rw [hL] at h1;cases h1
  rw [hr] at h3;cases h3
 |oa t xs i p v =>
  obtain ⟨L',us,vs,c,hM,_⟩:=h
  have:=hM.mu;rw [hL] at this;cases this
  obtain ⟨c,e,h1,_⟩:=hM.row
  rw [hr] at h1;cases h1
theorem Inv.side (h:Inv P Y ι μ H w) {r:Nat} {m:Option Nat} {s c:Nat} {seen:Array Nat} (hr:w.heap[r]?=some (.mapIter m s seen c)) (hown:Y.own r) (o:Obj):Inv P Y ι μ H (w.putObj r o):=by
 have bX:∀k,k≠r->(w.putObj r o).heap[k]?=w.heap[k]?:=fun k hk=>World.putObj_heap_other hk
 refine ⟨⟨h.below.os,h.below.tape,h.below.output,by rw [World.putObj_size];exact h.below.size,fun k hk hx=>?_,h.below.dr,fun k hk=>(h.below.maps k hk).trans ?_⟩,h.i0,h.iB,fun b o2 x hx=>?_,h.m0,h.nx,fun i B hB=>?_,h.inj,h.lt,h.gl⟩
 ·rw [bX k (Ctx.l7 hown hk hx)];exact h.below.block k hk hx
 ·by_cases e : k = r
  ·subst e;rw [hr];exact .no fun _ _ e=>by cases e
  ·exact .eq (bX k e)
 ·have := h.rd b o2 x hx
  have hne:b≠r:=fun e=>by subst e;simp [World.cell?,hr] at this
  unfold World.cell? at this ⊢
  simp only at this ⊢
  rw [bX b hne];exact this
 ·exact (h.live i B hB).mono (ax.le_refl _) (Mu.le_refl _) (fun h=>h) (fun L' hL'=>bX _ ((h.live i B hB).Xy hL' hr)) (fun _ _ h=>h)
def Ctx.side (Y:Ctx) (w:World) (ι:ax) (μ:Mu) (r:Nat):Ctx:=⟨w,ι,μ,Y.ro,fun b=>Y.own b/\b≠r,Y.hid⟩
theorem Inv.into (h:Inv P Y ι μ H w) {r:Nat} {m:Option Nat} {s c:Nat} {seen:Array Nat} (hr:w.heap[r]?=some (.mapIter m s seen c)):Inv P (Y.side w ι μ r) ι μ H w :=
 ⟨I4.refl _ _,ax.le_refl _,fun _ _ _ _=>rfl,h.rd,Mu.le_refl _,h.nx,fun id B hB=>(h.live id B hB).owns fun L hL ho=>.inr ⟨ho,(h.live id B hB).Xy hL hr⟩,h.inj,h.lt,h.dK⟩
theorem Inv.ad0 (h:Inv P Y ι μ H w) {r:Nat} (h2:Inv P (Y.side w ι μ r) ι' μ' H' w'):Inv P Y ι' μ' H' w':=by
 have hs:=h.below.size
 have hx2:∀k,k<Y.w0.heap.size->¬Y.x k->¬(Y.side w ι μ r).x k:=fun k hk hx hX=>by
  rcases hX.1 with h|h
  ·omega
  ·exact hx h
 have b2:=h2.below
 refine ⟨⟨b2.os.trans h.below.os,b2.tape.trans h.below.tape,b2.output.trans h.below.output,Nat.le_trans hs b2.size,fun k hk hx=>?_,Nat.le_trans h.below.dr b2.dr,fun k hk=>(h.below.maps k hk).trans (b2.maps k (Nat.lt_of_lt_of_le hk hs))⟩,
  ax.le_trans h.i0 h2.i0,fun b o hb hx=>?_,h2.rd,Mu.le_trans h.m0 h2.m0,h2.nx,fun id B hB=>(h2.live id B hB).owns fun L _ ho=>?_,h2.inj,h2.lt,h.gl⟩
 ·exact (b2.block k (Nat.lt_of_lt_of_le hk hs) (hx2 k hk hx)).trans (h.below.block k hk hx)
 ·exact (h2.iB b o (Nat.lt_of_lt_of_le hb hs) (hx2 b hb hx)).trans (h.iB b o hb hx)
 ·rcases ho with ho | ho
  ·exact .inl (Nat.le_trans hs ho)
  ·exact ho.1
end
def zY {E α β : Type} (step : E → α → Option (α ⊕ β)) : List E → α → Option (α ⊕ β)
 |[],x=>some (.inl x)
 |e::r,x=>match step e x with
  |none=>none
  |some (.inl y)=>zY step r y
  |some (.inr b)=>some (.inr b)
def AV {E α : Type} (step : E → α → Option α) : List E → α → Option α
 |[],x=>some x
 |e::r,x=>match step e x with
  |none=>none
  |some y=>AV step r y
noncomputable def iR {E B:Type} (f:List E->Option B) (es:List E):Option B:=by
 classical exact if h:∃b,∀l:List E,l.Perm es->f l=some b then some h.choose else none
theorem oT {E B:Type} {f:List E->Option B} {es:List E} {b:B} (h:iR f es=some b):∀l:List E,l.Perm es->f l=some b:=by
 unfold iR at h
 split at h
 ·rename_i h';cases h;exact h'.choose_spec
 ·cases h
theorem gV {E B:Type} {f:List E->Option B} {es:List E} {b:B} (h:∀l:List E,l.Perm es->f l=some b):iR f es=some b:=by
 have h':∃b,∀l:List E,l.Perm es->f l=some b:=⟨b,h⟩
 unfold iR
 rw [dif_pos h']
 have h1:=h'.choose_spec es (.refl _)
 rw [h es (.refl _)] at h1
 exact h1.symm▸rfl
noncomputable def jP {α:Type} (a b:α):Bool:=@decide (a=b) (Classical.propDecidable _)
theorem Eg {α:Type} {a b:α} (h:jP a b=true):a=b:=by simpa [jP] using h
@[simp] theorem dQ {α:Type} (a:α):jP a a=true:=by simp [jP]
def eO : List Nat → Env → Env
 |[],env=>env
 |t::r,env=>(t,.any)::eO r env
def TP (e:Option Nat) (kt:Ty) (kg:Bool) (vt:Ty) (vg:Bool) (x:kt.den×vt.den) (env:Env):Env:=match e with
 |none=>env
 |some s=>(s,.cS [cG.ji kg (cG kt x.1),cG.ji vg (cG vt x.2)])::env
section
variable {P:Program} {N:Nat} {Y:Ctx} {ι ι':ax} {μ μ':Mu} {H H':aG} {w w':World} {out:Option Nat} {base:Nat}
theorem qS : ∀ {cl : List Nat} {env : Env} {t : Nat}, get t (eO cl env) = .any ∨ get t (eO cl env) = get t env
 |[],env,t=>.inr rfl
 |s::r,env,t=>by
  rw [eO,cz]
  split
  ·exact .inl rfl
  ·exact qS
theorem fu.forget {env:Env} {tmps:Array Value} (h:fu ι μ env tmps) (cl:List Nat):fu ι μ (eO cl env) tmps:=fun t=>by
 rcases qS (cl:=cl) (env:=env) (t:=t) with e|e<;>rw [e]
 ·exact .any _
 ·exact h t
theorem fu.over {env:Env} {a:Act} (h:fu ι μ env a.tmps) {d:Nat} (hd:get d env = .any) (v:Value):fu ι μ env (a.put (some d) v).tmps:=fun t=>by
 by_cases e:d=t
 ·subst e;rw [hd];exact .any _
 ·have:(a.tmps.setIfInBounds d v).getD t undef=a.tmps.getD t undef:=by
   simp only [Array.getD_eq_getD_getElem?]
   rw [Array.getElem?_setIfInBounds_ne e]
  simp only [Act.put]
  rw [this];exact h t
theorem dX.over {S:St} {a:Act} (h:dX P N Y ι μ S a w) {d:Nat} (hd:get d S.env = .any) (v:Value):dX P N Y ι μ S (a.put (some d) v) w :=
 ⟨h.env.over hd v,by simp [Act.put,h.sz],h.inv,h.ms⟩
theorem Cj {a:Act} {d:Nat} {v:Value} (hd:d<a.tmps.size):(a.put (some d) v).tmps.getD d undef=v:=by simp [Act.put,Array.getD,hd]
theorem OU {a:Act} {d t:Nat} {v:Value} (h:d≠t):(a.put (some d) v).tmps.getD t undef=a.tmps.getD t undef:=by
 simp only [Act.put,Array.getD_eq_getD_getElem?]
 rw [Array.getElem?_setIfInBounds_ne h]
theorem Inv.name (h:Inv P Y ι μ H w) (L:Loc):Inv P Y ι (μ.set H.next L) ⟨H.next+1,H.bl⟩ w:=by
 have hn:=h.nx H.next (Nat.le_refl _)
 have hle:=Mu.gn (L:=L) hn
 have hne:∀id B,ay id H.bl=some B->id≠H.next:=fun id B hB=>Nat.ne_of_lt (h.lt id B hB)
 refine ⟨h.below,h.i0,h.iB,h.rd,Mu.le_trans h.m0 hle,fun id hid=>?_,fun id B hB=>?_,fun id id' B B' L1 L2 h1 h2 gz hm2 e=>?_,fun id B hB=>Nat.lt_succ_of_lt (h.lt id B hB),h.gl⟩
 ·simp only at hid
  unfold Mu.set;rw [if_neg (by omega)];exact h.nx id (by omega)
 ·exact (h.live id B hB).mono (ax.le_refl _) hle (fun hm=>by unfold Mu.set;rw [if_neg (hne id B hB)];exact hm) (fun _ _=>rfl) (fun _ _ h=>h)
 ·unfold Mu.set at gz hm2
  rw [if_neg (hne id B h1)] at gz
  rw [if_neg (hne id' B' h2)] at hm2
  exact h.inj id id' B B' L1 L2 h1 h2 gz hm2 e
theorem gW {o:Oper} (h:o.guard=none) (f:Nat->Option Bool):Region.wanted o f=true:=by
 unfold Region.wanted;rw [h]
theorem Hi {a b:Code} {hd:Xn} (h:wZ P N a b=some hd):∃(ia:Nat) (zZ:Array Oper) (o:Oper) (rr:List Oper) (t:TypeId) (x:Operand) (b3 i2:Nat) (uw:Array Oper) (o1 o2:Oper) (n ok:Nat) (y:Code),
  a = .region ia zZ false/\zZ.toList=rr++[o]/\o.op = .range t x/\o.dst=some hd.it/\o.guard=none/\hd.it<N/\kF P t=some (hd.kt,hd.kg,hd.vt,hd.vg)/\dL x=some hd.m/\dh P N zZ rr=some hd.pre /\
  b = .block hd.qq (.loop (.seq (.region i2 uw false) (.seq (.cond (.tmp ok) .skip (.exit hd.qq)) (.block b3 y))))/\uw.toList=[o1,o2]/\o1.op = .next (.tmp hd.it) false/\o1.dst=some n/\o1.guard=none /\
  o2.op = .extract (.tmp n) 0/\o2.dst=some ok/\o2.guard=none/\n<N/\ok<N/\n≠hd.it/\ok≠hd.it/\hd.cl=[n,ok]/\hd.e=tT N hd.it y:=by
 unfold wZ at h
 split at h<;>try (cases h;done)
 rename_i b1 x2 t b2 b3 y
 split at h<;>try (cases h;done)
 rename_i is m it kt vt vg h1
 split at h<;>try (cases h;done)
 rename_i n ok h2
 split at h<;>try (cases h;done)
 rename_i hc
 obtain ⟨e1,e2⟩:=hc
 subst e1;subst e2
 cases h
 unfold NY at h1
 split at h1<;>try (cases h1;done)
 rename_i ia zZ
 split at h1<;>try (cases h1;done)
 rename_i o rr hrev
 split at h1<;>try (cases h1;done)
 rename_i t x hop
 split at h1<;>try (cases h1;done)
 rename_i it' TQ
 split at h1<;>try (cases h1;done)
 rename_i hg
 split at h1<;>try (cases h1;done)
 rename_i Nu Nv S5 m' is' DV hx jy
 cases h1
 unfold NZ at h2
 split at h2<;>try (cases h2;done)
 rename_i i2 uw
 split at h2<;>try (cases h2;done)
 rename_i o1 o2 hl
 split at h2<;>try (cases h2;done)
 rename_i i Hj
 split at h2<;>try (cases h2;done)
 rename_i n' OV
 split at h2<;>try (cases h2;done)
 rename_i n2 LA
 split at h2<;>try (cases h2;done)
 rename_i ok' hd2
 split at h2<;>try (cases h2;done)
 rename_i Xo
 obtain ⟨g1,g2,e1,e2,l1,l2,l3,l4⟩:=Xo
 subst e1;subst e2
 cases h2
 have Ds:zZ.toList=rr.reverse++[o]:=by
  have:=congrArg List.reverse hrev
  simpa using this
 exact ⟨ia,zZ,o,rr.reverse,t,x,b3,i2,uw,o1,o2,_,_,y,rfl,Ds,hop,TQ,hg.1,hg.2,DV,hx,jy,rfl,hl,Hj,OV,g1,LA,hd2,g2,l1,l2,l3,l4,rfl,rfl⟩
end
section
variable {P:Program} {N:Nat} {Y:Ctx} {ι ι':ax} {μ μ':Mu} {H H':aG} {w w':World} {out:Option Nat} {base:Nat}
theorem TS {b1 i2 b3 ok:Nat} {uw:Array Oper} {y:Code} {cb:C} (h:gh P N (.block b1 (.loop (.seq (.region i2 uw false) (.seq (.cond (.tmp ok) .skip (.exit b1)) (.block b3 y)))))=some cb) :
  ∃cx cc cy,gh P N y=some cy/\cb = .block b1 (.loop (.seq cx (.seq cc (.block b3 cy)))):=by
 have h1:∀z,wZ P N (.cond (.tmp ok) .skip (.exit b1)) z=none:=fun z=>by
  unfold wZ
  split
  ·split
   ·rename_i h1;cases h1
   ·rfl
  ·rfl
 have h2:∀z u v,wZ P N z (.seq u v)=none:=fun z u v=>rfl
 simp only [gh] at h
 cases hx:dh P N uw uw.toList with
 |none=>simp [hx] at h
 |some is =>
  simp only [hx] at h
  cases hy:gh P N y with
  |none=>simp [hy] at h
  |some cy =>
   simp only [hy,dL,Option.map_some,h1,h2] at h
   cases h
   exact ⟨_,_,cy,rfl,rfl⟩
theorem ye {id:Nat} {K:Ex->St->Prop} {e:Exit} {a:Act} {w:World} (hp:Post P N Y (fun e S=>match e with
  | .normal=>K .normal S
  | .exit id'=>match Nat.beq id' id with
   |true=>K .normal S
   |false=>K (.exit id') S
  | .ret=>K .ret S) e a w):Exit.inBlock id (Post P N Y K) e a w:=by
 obtain ⟨Y1,hY,ι',μ',S',e',h1,h2,h3⟩:=hp
 cases e' with
 |normal=>cases h2;exact ⟨Y1,hY,ι',μ',S',.normal,h1,rfl,h3⟩
 |exit id' =>
  cases h2
  simp only [Exit.inBlock]
  simp only at h3
  split at h3
  ·rename_i B6
   rw [if_pos (Nat.eq_of_beq_eq_true B6)]
   exact ⟨Y1,hY,ι',μ',S',.normal,h1,rfl,h3⟩
  ·rename_i B6
   rw [if_neg (fun e=>by subst e;rw [Nat.beq_refl] at B6;cases B6)]
   exact ⟨Y1,hY,ι',μ',S',.exit id',h1,rfl,h3⟩
 |ret=>cases h2;exact ⟨Y1,hY,ι',μ',S',.ret,h1,rfl,h3⟩
theorem OW (gU : nG P N out base) {it b1 b3 : Nat} {y : Code} {cx cc cy bd : C} (LB : gh P N y = some cy) (hbd : IZ (tT N it y) (.block b1 (.loop (.seq cx (.seq cc (.block b3 cy))))) = some bd) {S0 : St} {a : Act}
  (ho:kN Y out) (hb:Y.base base) (hR:dX P N Y ι μ S0 a w) {r:Nat} (hit:a.tmps.getD it undef = .pointer (some ⟨r,0,none⟩)) {kv vv:Value} (cF:(Instr.entry (.pointer (some ⟨r,0,none⟩))).run P w = .ok (.tuple #[kv,vv]) w)
  {kt vt:Ty} {kg vg:Bool} {x:kt.den×vt.den} (hk:Rel ι μ (cG.ji kg (cG kt x.1)) kv) (hv:Rel ι μ (cG.ji vg (cG vt x.2)) vv) {Q:Ex->St->Prop}
  (h:rT (eW P N out base) bd ⟨TP (tT N it y) kt kg vt vg x S0.env,S0.H,S0.ms⟩ Q):(Code.block b3 y).wpIn Y.F 0 P (Post P N Y Q) a w:=by
 cases he:tT N it y with
 |none =>
  rw [he] at hbd h
  cases hbd
  exact gT gU (.block b3 y) (c:=.block b3 cy) (by simp [gh,LB]) h Y ι μ a w ho hb hR
 |some s =>
  rw [he] at hbd h
  unfold tT at he
  split at he<;>try (cases he;done)
  rename_i ri ops rest
  split at he<;>try (cases he;done)
  rename_i o os hl
  split at he<;>try (cases he;done)
  rename_i i hop
  split at he<;>try (cases he;done)
  rename_i s' TQ
  split at he<;>try (cases he;done)
  rename_i hc
  obtain ⟨hg,hi,hs,hne⟩:=hc
  cases he
  subst hi
  -- the code
  simp only [gh] at LB
  cases jy:dh P N ops ops.toList with
  |none=>simp [jy] at LB
  |some is0 =>
   simp only [jy] at LB
   cases hcr:gh P N rest with
   |none=>simp [hcr] at LB
   |some cr =>
    simp only [hcr] at LB
    split at LB
    rotate_left
    ·rename_i hd2 _
     split at LB<;>try (cases LB;done)
     cases LB
     simp [IZ] at hbd
    cases LB
    rw [hl] at jy
    unfold dh at jy
    split at jy<;>try (cases jy;done)
    rename_i i0 is hi0 jy
    cases jy
    simp only [IZ] at hbd
    cases hbd
    simp only [rT] at h
    refine wpIn_block (wpIn_mono ?_ fun e a w hp=>ye hp)
    refine wpIn_seq (wpIn_region ?_)
    have hsz:ops.size=os.length+1:=by rw [<-Array.length_toList,hl];rfl
    rw [List.range_eq_range',hsz,List.range'_succ]
    have ho0:ops[0]?=some o:=by rw [<-Array.getElem?_toList,hl];rfl
    have ak:a.eval (.tmp i) = .pointer (some ⟨r,0,none⟩):=hit
    have hN:rQ N o.dst=true:=by rw [TQ];simpa [rQ] using hs
    refine uX (x := .tuple #[kv, vv]) (w' := w) (fun _ => trivial) rfl ho0 (gW hg _) (by rw [hop]; intro c; simp) (.inl (by
     unfold execOp;rw [hop];simp only [ak,Sem.run_bind,cF];rfl)) ?_
    have mz:dX P N Y ι μ ⟨TP (some s) kt kg vt vg x S0.env,S0.H,S0.ms⟩ (a.put o.dst (.tuple #[kv,vv])) w:=by
     have := hR.put hN (ax.le_refl _) (Mu.le_refl _) hR.inv (v := .cS [cG.ji kg (cG kt x.1), cG.ji vg (cG vt x.2)]) (x := .tuple #[kv, vv])
      (.cS _ _ rfl (fun i v x qN hx=>by
       match i with
       |0=>simp at qN hx;subst qN;subst hx;exact hk
       |1=>simp at qN hx;subst qN;subst hx;exact hv
       |i+2=>simp at qN))
     rw [TQ] at this ⊢
     exact this
    exact rZ (Y:=Y) (out:=out) (base:=base) (k:=1) (Q:=Exit.then (rest.wpIn Y.F 0 P _) _) (fun ι μ S a w hR hK=>gT gU rest hcr hK Y ι μ a w ho hb hR) jy (fun j=>by rw [<-Array.getElem?_toList,hl,Nat.add_comm];simp) mz h
end
section
variable {P:Program} {N:Nat} {Y:Ctx} {ι ι':ax} {μ μ':Mu} {H H':aG} {w w':World} {out:Option Nat} {base:Nat}
theorem fI.at {kt vt : Ty} {kg vg : Bool} : ∀ {es : List (kt.den × vt.den)} {ms : List MapEntry}, fI ι kt kg vt vg es ms → ∀ {i : Nat} {m : MapEntry}, ms[i]? = some m → ∃ e, es[i]? = some e ∧ gy ι kg kt e.1 m.key ∧ gy ι vg vt e.2 m.val
 |[],_,h,i,m,hm=>by simp [fI] at h;subst h;simp at hm
 |e::es,_,⟨m0,r,rfl,h1,h2,h3⟩,i,m,hm=>by
  cases i with
  |zero=>simp at hm;subst hm;exact ⟨e,rfl,h1,h2⟩
  |succ i=>simpa using h3.at (i:=i) (by simpa using hm)
theorem Eh {E α β:Type} {step:E->α->Option (α ⊕ β)} {e:E} {r:List E} {x:α} {res:α ⊕ β} (h:zY step (e::r) x=some res) :
  (∃y,step e x=some (.inl y))\/∃b,step e x=some (.inr b)/\res = .inr b:=by
 simp only [zY] at h
 split at h
 ·cases h
 ·rename_i y e;exact .inl ⟨y,e⟩
 ·rename_i b e;cases h;exact .inr ⟨b,e,rfl⟩
theorem get_mem : ∀ {env : Env} {t : Nat} {v : V}, get t env = v → v ≠ .any → (t, v) ∈ env
 |[],t,v,h,hv=>absurd h.symm hv
 |(s,u)::r,t,v,h,hv=>by
  rw [cz] at h
  split at h
  ·rename_i e;subst e;subst h;exact List.mem_cons_self ..
  ·exact List.mem_cons_of_mem _ (get_mem h hv)
theorem Ju {π : List Nat} {cl : List Nat} {env : Env} {Hh : aG} {mss : List Nat} {S' : St} (h : jE base π ⟨eO cl env, Hh, mss⟩ S') {mn id bm : Nat} (hid : get mn env = .mp id) {kt vt : Ty} {kg vg : Bool} {es : List (kt.den × vt.den)}
  (Dt:jK Hh.bl kt kg vt vg id=some es) {L:Loc} (hL:μ id=some L) (Zg:L.b=bm) (Dq:Nat) (h2:get mn S'.env = .mp Dq) :
  (∃L,(μ.kq π) Dq=some L/\L.b=bm)/\∀es',jK S'.H.bl kt kg vt vg Dq=some es'->es'=es:=by
 have ak:=h.env _ (get_mem h2 (by simp))
 try simp only at ak
 have hπ:π[Dq]?=some id:=by
  rcases qS (cl:=cl) (env:=env) (t:=mn) with e|e<;>rw [e] at ak
  ·cases ak
  ·rw [hid] at ak;cases ak with|mp _ _ hi=>exact hi
 refine ⟨⟨L,by simp [Mu.kq,hπ,hL],Zg⟩,fun es' he'=>?_⟩
 obtain ⟨i,e1,hb⟩:=h.bl _ (dH (eN he'))
 try simp only at e1 hb
 rw [hπ] at e1;cases e1
 have LC:=eN Dt
 try simp only at LC
 rw [LC] at hb
 simp only [Option.some.injEq,lD.map.injEq,heq_eq_eq,true_and] at hb
 exact hb.symm
theorem kN.up {w:World} {ι:ax} {r:Nat} (h:kN Y out) (hm:Y.m0.le μ):kN (Y.side w ι μ r) out:=by
 cases out with
 |none=>exact h
 |some o=>obtain ⟨Lo,h1,h2⟩:=h;exact ⟨Lo,hm _ _ h1,h2⟩
theorem Ext.lift {Ya Yb : Ctx} {r : Nat} (hinv : ∀ {ι : ax} {μ : Mu} {H : aG} {w : World}, Inv P Ya ι μ H w → Inv P Yb ι μ H w) (hown : ∀ b, Ya.own b → Yb.own b) (hro : Yb.ro = Ya.ro) (hm0 : Yb.m0.le Ya.m0) (B9 : Yb.hid = Ya.hid)
  (hr:r<Ya.w0.heap.size/\¬Ya.own r) (hrb:Yb.own r) {Y1:Ctx} (h:Ext P Ya Y1) :
  ∃Y2,Ext P Yb Y2/\(∀{ι:ax} {μ:Mu} {H:aG} {w:World},Inv P Y1 ι μ H w->Inv P Y2 ι μ H w)/\(∀b,Y1.own b->Y2.own b)/\Y2.ro=Y1.ro/\Y2.m0.le Y1.m0/\Y2.hid=Y1.hid/\(r<Y1.w0.heap.size/\¬Y1.own r)/\Y2.own r:=by
 induction h with
 |refl=>exact ⟨Yb,.refl Yb,hinv,hown,hro,hm0,B9,hr,hrb⟩
 |step h ro hI hr' own ih =>
  rename_i Y1 ι1 μ1 H1 w1 r'
  obtain ⟨Y2,e1,e2,e3,e4,e5,e6,e7,e8⟩:=ih
  have hlt:=(Array.getElem?_eq_some_iff.1 hr').1
  have hne:r≠r':=fun e=>by subst e;exact e7.2 own
  have hs:=hI.below.size
  refine ⟨Y2.vI w1 ι1 r',.step e1 (e4.trans ro) (e2 hI) hr' (e3 _ own),fun {ι μ H w} h=>?_,fun b hb=>?_,e4,e5,?_,⟨?_,fun hX=>?_⟩,.inr ⟨e8,hne⟩⟩
  ·have hx : ∀ b, (Y1.vI w1 ι1 r').x b → (Y2.vI w1 ι1 r').x b := fun b hb => ⟨e3 _ hb.1, hb.2⟩
   exact ⟨⟨h.below.os,h.below.tape,h.below.output,h.below.size,fun k hk hx'=>h.below.block k hk (fun hh=>hx' (hx _ hh)),h.below.dr,h.below.maps⟩,h.i0,fun b o hb hx'=>h.iB b o hb (fun hh=>hx' (hx _ hh)),h.rd,Mu.le_trans e5 h.m0,h.nx,
    fun id B hB=>(h.live id B hB).owns fun L _ ho=>ho.imp (fun h=>h) (hx _),h.inj,h.lt,h.gl⟩
  ·exact hb.imp (fun h=>h) fun h=>⟨e3 _ h.1,h.2⟩
  ·show r' :: Y2.hid = r' :: Y1.hid
   rw [e6]
  ·exact Nat.lt_of_lt_of_le e7.1 hs
  ·rcases hX with hX | hX
   ·have : w1.heap.size ≤ r := hX
    omega
   ·exact e7.2 hX.1
theorem KD.inj {t:Ty} {β:Type} {es:List (t.den×β)} (h:KD t es) {a b:t.den×β} (ha:a∈es) (hb:b∈es) (hab:dV t a.1 b.1=true):a=b:=by
 have haa:dV t a.1 a.1=true:=by
  have:=bS hab
  rw [<-this] at hab;exact hab
 have h1:=nD (d:=a.2) h ha haa
 have h2:=nD (d:=a.2) h hb hab
 exact Prod.ext (bS hab) (h1.symm.trans h2)
theorem ux {ι ι' : ax} : ∀ {t : Ty} {ks : List Kd} {x y : t.den} {vs : List Value}, bL t = some ks → ah ι t x vs → ah ι' t y vs → dV t x y = true
 | .unit,ks,x,y,vs,h,hx,hy=>rfl
 | .bool,ks,x,y,vs,h,hx,hy=>by simp only [ah] at hx hy;subst hx;simpa [dV] using hy
 | .str,ks,x,y,vs,h,hx,hy=>by
  simp only [ah] at hx hy;subst hx
  simp only [List.cons.injEq,Value.string.injEq,and_true] at hy
  subst hy;simp [dV]
 | .int k,ks,x,y,vs,h,hx,hy=>by simp only [ah] at hx hy;subst hx;simpa [dV] using hy
 | .list _,ks,x,y,vs,h,hx,hy=>by cases h
 | .cL _ _ _,ks,x,y,vs,h,hx,hy=>by cases h
 | .prod a b,ks,x,y,vs,h,hx,hy=>by
  simp only [bL] at h
  split at h<;>try (cases h;done)
  rename_i k1 k2 h1 h2
  obtain ⟨us,ws,e1,d1,d2⟩:=hx
  obtain ⟨us',ws',e2,d1',d2'⟩:=hy
  rw [e1] at e2
  obtain ⟨rfl,rfl⟩:=List.append_inj e2 (by rw [d1.length,d1'.length])
  simp only [dV,ux h1 d1 d1',ux h2 d2 d2',Bool.and_self]
theorem OX {k:TypeId} {kt:Ty} {kg:Bool} (h:wY P k=some (kt,kg)):∃ks,bL kt=some ks:=by
 unfold wY at h
 split at h<;>try (cases h;done)
 ·cases h;exact ⟨_,rfl⟩
 ·cases h;exact ⟨_,rfl⟩
 ·split at h <;> try (cases h; done)
  split at h<;>try (cases h;done)
  rename_i hc
  cases h
  exact ⟨_,hc.1⟩
theorem LD {g:Bool} {xs ys:List Value} {v:Value} (h1:iI g xs=some v) (h2:iI g ys=some v):xs=ys:=by
 cases g with
 |true =>
  simp only [iI,Option.some.injEq] at h1 h2
  subst h1
  simp only [Value.agg.injEq] at h2
  have:=congrArg Array.toList h2
  simpa using this.symm
 |false =>
  match xs,ys,h1,h2 with
  |[x],[y],h1,h2 =>
   simp only [iI,Option.some.injEq] at h1 h2
   rw [h1,h2]
  |[],_,h1,_=>simp [iI] at h1
  |_::_::_,_,h1,_=>simp [iI] at h1
  |[_],[],_,h2=>simp [iI] at h2
  |[_],_::_::_,_,h2=>simp [iI] at h2
theorem TT {k:TypeId} {kt:Ty} {kg:Bool} (h:wY P k=some (kt,kg)) {x y:kt.den} {z:Value} (hx:gy ι kg kt x z) (hy:gy ι' kg kt y z):dV kt x y=true:=by
 obtain ⟨ks,hks⟩:=OX h
 obtain ⟨xs,h1,h2⟩:=hx
 obtain ⟨ys,h3,h4⟩:=hy
 have:=LD h2 h4
 subst this
 exact ux hks h1 h3
structure MI {α:Type} (P:Program) (N:Nat) (Y:Ctx) (I:α->St) (mn it:Nat) (kt:Ty) (kg:Bool) (vt:Ty) (vg:Bool) (es dW:List (kt.den×vt.den)) (kz:List Value) (bm r since:Nat) (bs todo:List Nat) (x:α) (a:Act) (w:World) (ι:ax) (μ:Mu) (seen:Array Nat) (c0:Nat) (ms:Array MapEntry) (clock:Nat):Prop where
 rep:dX P N Y ι μ (I x) a w
 it:a.tmps.getD it undef = .pointer (some ⟨r,0,none⟩)
 own:Y.own r
 hr:w.heap[r]?=some (.mapIter (some bm) since seen c0)
 sc:since<=c0
 ck:since<=clock
 hm:w.heap[bm]?=some (.map ms clock)
 Xz:ms.toList.map (·.born)=bs
 hkz:ms.toList.map (·.key)=kz
 hke:∀(i:Nat) e z,dW[i]?=some e->kz[i]?=some z->gy ι kg kt e.1 z
 old:∀b∈bs,b<since
 nd:bs.Nodup
 len:dW.length=bs.length
 td:todo.Nodup
 left:∀i,i∈todo↔∃b,bs[i]?=some b/\b∉seen.toList
 here:∀id,get mn (I x).env = .mp id->(∃L,μ id=some L/\L.b=bm)/\∀es',jK (I x).H.bl kt kg vt vg id=some es'->es'=es
def Ei (qq : Nat) : Ex → Ex
 | .exit i=>match Nat.beq i qq with
  |true=>.normal
  |false=>.exit i
 |e=>e
theorem OY {α:Type} (es:List α) (d:α):(List.range es.length).map (fun i=>es.getD i d)=es:=by
 apply List.ext_getElem
 ·simp
 ·intro i h1 h2;simp at h1;simp [List.getD,h1]
theorem Ej (gU : ∀ base, nG P N out base) {α β : Type} {I : α → St} {X : β → Ex × St} {pre : List dw} {mn it : Nat} {cl : List Nat} {e : Option Nat} {kt vt : Ty} {kg vg : Bool} {qq : Nat} {bd : C}
  {step:kt.den×vt.den->α->Option (α ⊕ β)} {aC:Nat} (hI:∀x s,s∈it::cl->get s (I x).env = .any) (Gl:∀x,(I x).H.next=aC)
  (hstep:∀lQ x r,step lQ x=some r->∃id es',get mn (I x).env = .mp id/\jK (I x).H.bl kt kg vt vg id=some es' /\
   rT (eW P N out (aC+1)) bd ⟨TP e kt kg vt vg lQ ((it,.ptr aC 0)::(I x).env),⟨aC+1,(I x).H.bl⟩,(I x).ms⟩ fun ex S'=>match r with
    | .inl y=>ex = .normal/\get it S'.env = .ptr aC 0/\get mn S'.env = .mp id/\jK S'.H.bl kt kg vt vg id=some es'/\∃π,jE base π ⟨eO (it::cl) S'.env,S'.H,S'.ms⟩ (I y)
    | .inr b=>ex ≠ .normal/\ex=(X b).1/\∃π,jE base π S' (X b).2)
  {S:St} {K:Ex->St->Prop}
  (hpre:dY (eW P N out base) pre S fun S1=>∃id es x π,get mn S1.env = .mp id/\jK S1.H.bl kt kg vt vg id=some es/\jE base π ⟨eO (it::cl) S1.env,S1.H,S1.ms⟩ (I x) /\
   ∀l:List (kt.den×vt.den),l.Perm es->∃res,zY step l x=some res/\(match res with | .inl y=>K .normal (I y) | .inr b=>K (Ei qq (X b).1) (X b).2)) :
  (eW P N out base).ic (.ic pre (.t mn) it cl e kt kg vt vg qq bd) S K:=by
 intro ca cb htr hsome
 have htr0:=htr
 simp only [gh] at htr
 split at htr<;>try (cases htr;done)
 rename_i xa xb htra htrb
 split at htr
 ·rename_i hn;rw [hn] at hsome;cases hsome
 rename_i hd hmh
 split at htr<;>try (cases htr;done)
 rename_i TE hbd
 obtain ⟨hpre',hm',qT,hcl',he',yf,ZJ,Aa,ZK,AW⟩:=hd
 simp only [Option.some.injEq,C.ic.injEq] at htr
 obtain ⟨rfl,rfl,rfl,rfl,rfl,rfl,rfl,rfl,rfl,rfl,rfl⟩:=htr
 obtain ⟨ia,zZ,oA,rr,t,xo,b3,i2,uw,o1,o2,n,ok,y,rfl,hlA,ZL,hdA,hgA,hitN,DV,NB,jy,rfl,Ds,Hj,OV,hg1,LA,hd2,hg2,hnN,hokN,hnit,XA,tY,he⟩:=Hi hmh
 simp only at ZL hdA hgA hitN DV NB jy Hj hnit XA tY he hbd
 subst tY
 obtain ⟨cx,cc,cy,LB,rfl⟩:=TS htrb
 subst he
 intro Y ι μ a w hout hbase hR
 refine wpIn_seq (wpIn_region ?_)
 have hszA:zZ.size=rr.length+1:=by rw [<-Array.length_toList,hlA];simp
 have ZM:List.range zZ.size=List.range' 0 rr.length++[rr.length]:=by
  rw [hszA,List.range_succ,List.range_eq_range']
 rw [ZM]
 refine uh (Y:=Y) (out:=out) (base:=base) (k:=0) (K:=fun S1=>∃id es x π,get mn S1.env = .mp id/\jK S1.H.bl yf ZJ Aa ZK id=some es/\jE base π ⟨eO (qT::[n,ok]) S1.env,S1.H,S1.ms⟩ (I x) /\
   ∀l:List (yf.den×Aa.den),l.Perm es->∃res,zY step l x=some res/\(match res with | .inl y=>K .normal (I y) | .inr b=>K (Ei AW (X b).1) (X b).2)) ?_ jy (fun j hj=>?_) hR hpre
 rotate_left
 ·rw [<-Array.getElem?_toList,hlA,Nat.zero_add,List.getElem?_append_left (by assumption)]
 clear hR hpre
 intro ι μ S1 a w hR hK1
 obtain ⟨id,es,x,π,hmid,qU,cF,hres⟩:=hK1
 -- the iterator is made
 have hv:=hR.env mn
 rw [hmid] at hv
 generalize hav:a.tmps.getD mn undef=mv at hv
 cases hv with
 |mp _ L hL =>
 have hb:=eN qU
 obtain ⟨L',ms,clock,dW,q1,q2,q3,q4,q5,q6,hp0,hd0⟩:=hR.inv.live _ _ hb
 rw [hL] at q1;cases q1
 obtain ⟨kT,eT,huT,hkT,_⟩:=kK DV
 have dM:a.eval xo = .map (some L.b):=by
  have:xo = .tmp mn:=by
   cases xo<;>simp only [dL] at NB
   ·cases NB;rfl
   ·split at NB<;>cases NB
   ·cases NB
   ·cases NB
  rw [this];exact hav
 have hoA:zZ[rr.length]?=some oA:=by rw [<-Array.getElem?_toList,hlA];simp
 refine uX (x := .pointer (some ⟨w.heap.size, 0, none⟩)) (w' := w.alloc (.mapIter (some L.b) clock #[] clock)) (fun _ => trivial) rfl hoA (gW hgA _) (by rw [ZL]; intro c; simp) (.inl (by
  unfold execOp;rw [ZL];simp only [dM,Sem.run_bind,run_range_map w t kT eT L.b ms clock huT q3];rfl)) ?_
 simp only [wpOpsIn]
 rw [hdA]
 have qx:dX P N Y ι μ ⟨eO (qT::[n,ok]) S1.env,S1.H,S1.ms⟩ (a.put (some qT) (.pointer (some ⟨w.heap.size,0,none⟩))) (w.alloc (.mapIter (some L.b) clock #[] clock)):=by
  have h1:dX P N Y ι μ ⟨eO (qT::[n,ok]) S1.env,S1.H,S1.ms⟩ a w:=⟨hR.env.forget _,hR.sz,hR.inv,hR.ms⟩
  have h2:=h1.over (d:=qT) (by simp [eO,get]) (.pointer (some ⟨w.heap.size,0,none⟩))
  exact ⟨h2.env,h2.sz,h2.inv.junk _,h2.ms⟩
 have mz:=cF.rep hbase qx
 have hlt:L.b<w.heap.size:=(Array.getElem?_eq_some_iff.1 q3).1
 have TU:MI P N Y I mn qT yf ZJ Aa ZK es dW (ms.toList.map (·.key)) L.b w.heap.size clock (ms.toList.map (·.born)) (List.range dW.length) x (a.put (some qT) (.pointer (some ⟨w.heap.size,0,none⟩))) (w.alloc (.mapIter (some L.b) clock #[] clock)) ι (μ.kq π) #[] clock ms clock:=by
  refine ⟨mz,Cj (by rw [hR.sz];exact hitN),.inl hR.inv.below.size,heap_alloc_new _ _,Nat.le_refl _,Nat.le_refl _,(heap_alloc_old _ _ hlt).trans q3,rfl,rfl,fun i e z he hz=>?_,fun b hb=>?_,q6,?_,List.nodup_range,fun i=>?_,fun Dq h2=>?_⟩
  ·rw [List.getElem?_map] at hz
   cases hm:ms.toList[i]? with
   |none=>rw [hm] at hz;cases hz
   |some m =>
    rw [hm] at hz;cases hz
    obtain ⟨e',he',hk,_⟩:=q4.at hm
    rw [he] at he';cases he'
    exact hk
  ·obtain ⟨m, hm, rfl⟩ := List.mem_map.1 hb
   exact q5 m hm
  ·rw [List.length_map,fI.length q4]
  ·have hlen := fI.length q4
   simp only [List.mem_range,List.not_mem_nil,not_false_eq_true,and_true]
   constructor
   ·intro hi
    exact ⟨_,List.getElem?_eq_getElem (show i<(ms.toList.map (·.born)).length by simp at hlen ⊢;omega)⟩
   ·rintro ⟨b, hb⟩
    have:=(List.getElem?_eq_some_iff.1 hb).1
    simp at this hlen;omega
  ·exact Ju cF hmid qU hL rfl Dq h2
 have hat0:∀J:List Nat,J.Perm (List.range dW.length)->∃res,zY step (J.map fun i=>dW.getD i (yf.zero,Aa.zero)) x=some res/\(match res with | .inl y=>K .normal (I y) | .inr b=>K (Ei AW (X b).1) (X b).2):=fun J hJ =>
  hres _ (((hJ.map _).trans (by rw [OY])).trans hp0)
 have hdE:KD yf es:=hd0.perm hp0
 clear hres qx mz qU hmid cF q3 q5 q6 dM hoA hav hb hR hL hlt
 generalize (a.put (some qT) (.pointer (some ⟨w.heap.size,0,none⟩)))=a1 at TU ⊢
 generalize hw1:w.alloc (.mapIter (some L.b) clock #[] clock)=w1 at TU ⊢
 generalize w.heap.size=r at TU
 generalize Xz:ms.toList.map (·.born)=bs at TU
 generalize hkz:ms.toList.map (·.key)=kz at TU
 generalize L.b=bm at TU
 have hlen:dW.length=bs.length:=TU.len
 clear hw1 Xz hkz
 show Code.wpIn _ _ _ (.block AW _) _ _ _
 refine wpIn_block (wpIn_mono ?_ fun e a w hp=>ye hp)
 refine wpIn_loop_ghost (fun (g:List Nat×α) a w=>(∃Y1,Ext P Y Y1/\∃ι μ seen c0 ms clock',MI P N Y1 I mn qT yf ZJ Aa ZK es dW kz bm r clock bs g.1 g.2 a w ι μ seen c0 ms clock') /\
  ∀J:List Nat,J.Perm g.1->∃res,zY step (J.map fun i=>dW.getD i (yf.zero,Aa.zero)) g.2=some res/\(match res with | .inl y=>K .normal (I y) | .inr b=>K (Ei AW (X b).1) (X b).2)) (fun g=>g.1.length) (x:=(List.range dW.length,x)) ⟨⟨Y,.refl Y,_,_,_,_,_,_,TU⟩,hat0⟩ ?_
 clear TU hat0
 rintro ⟨todo,x⟩ a w ⟨⟨Y0,SE,ι,μ,seen,c0,ms,clock',M⟩,Dr⟩
 simp only at M Dr
 refine wpIn_seq (wpIn_region ?_)
 have hsz2:uw.size=2:=by rw [<-Array.length_toList,Ds];rfl
 rw [show List.range uw.size=[0,1] by rw [hsz2];rfl]
 have hO0:uw[0]?=some o1:=by rw [<-Array.getElem?_toList,Ds];rfl
 have hO1:uw[1]?=some o2:=by rw [<-Array.getElem?_toList,Ds];rfl
 have ZN:=M.rep.sz
 have XB:a.eval (.tmp qT) = .pointer (some ⟨r,0,none⟩):=M.it
 have hold:∀m∈ms.toList,m.born<clock:=fun m hm=>M.old _ (by rw [<-M.Xz];exact List.mem_map.2 ⟨m,hm,rfl⟩)
 have eU:∀v,get n (I x).env = .any/\get ok (I x).env = .any/\(a.put (some n) v).eval (.tmp n)=v:=fun v=>⟨hI x n (by simp),hI x ok (by simp),Cj (by rw [ZN];exact hnN)⟩
 rcases run_next_at (P:=P) w o1.type r bm clock c0 seen ms clock' M.hr M.hm hold M.sc with ⟨h0,hrun⟩|⟨en,hel,w1,hw1,hrun⟩
 ·refine uX (x := .tuple #[.bool false]) (w' := w) (fun _ => trivial) rfl hO0 (gW hg1 _) (by rw [Hj]; intro c; simp) (.inl (by
   unfold execOp;rw [Hj];simp only [XB,Sem.run_bind,hrun];rfl)) ?_
  rw [OV]
  refine uX (x := .bool false) (w' := w) (fun _ => trivial) rfl hO1 (gW hg2 _) (by rw [LA]; intro c; simp) (.inl (by
   unfold execOp;rw [LA];simp only [(eU _).2.2];simp [Instr.extract])) ?_
  rw [hd2]
  simp only [wpOpsIn]
  show Code.wpIn _ _ _ (.seq _ _) _ _ _
  refine wpIn_seq (wpIn_cond_false (Cj (by simpa [Act.put,ZN] using hokN)) (wpIn_exit ?_))
  have ad5:todo=[]:=by
   cases htd:todo with
   |nil=>rfl
   |cons i _ =>
    exfalso
    obtain ⟨b,iP,fF⟩:=(M.left i).1 (by rw [htd];exact List.mem_cons_self ..)
    rw [<-M.Xz,List.getElem?_map] at iP
    cases ZO:ms.toList[i]? with
    |none=>rw [ZO] at iP;cases iP
    |some m =>
     rw [ZO] at iP;cases iP
     have:m∈leftOf ms seen:=by
      simp only [leftOf,Array.mem_filter]
      exact ⟨by simpa using List.mem_of_getElem? ZO,by simpa using fF⟩
     have hp:=Array.size_pos_of_mem this
     omega
  subst ad5
  obtain ⟨res,hr,hK⟩:=Dr [] (.refl _)
  simp only [List.map_nil,zY,Option.some.injEq] at hr
  subst hr
  refine ⟨Y0,SE,ι,μ,I x,.exit AW,?_,rfl,?_⟩
  ·have h1 := (M.rep.over (eU .nilFunc).1 (.tuple #[.bool false])).over (eU .nilFunc).2.1 (.bool false)
   exact h1
  ·simp only [Nat.beq_refl];exact hK
 ·-- an entry
  have ZP:w1.heap=w.heap:=by rcases hw1 with rfl|rfl<;>rfl
  have qx:dX P N Y0 ι μ (I x) a w1:=by
   rcases hw1 with rfl|rfl
   ·exact M.rep
   ·exact ⟨M.rep.env,M.rep.sz,M.rep.inv.drew,M.rep.ms⟩
  have DN:w1.heap[r]?=some (.mapIter (some bm) clock seen c0):=by rw [ZP];exact M.hr
  have gz:w1.heap[bm]?=some (.map ms clock'):=by rw [ZP];exact M.hm
  have hne:bm≠r:=fun e=>by subst e;rw [DN] at gz;cases gz
  have hrlt:r<w1.heap.size:=(Array.getElem?_eq_some_iff.1 DN).1
  change (Instr.next _ _ _).run P w = .ok _ (w1.putObj r (.mapIter (some bm) clock (seen.push en.born) clock')) at hrun
  generalize hw2:w1.putObj r (.mapIter (some bm) clock (seen.push en.born) clock')=w2 at hrun
  have DO:w2.heap[r]?=some (.mapIter (some bm) clock (seen.push en.born) clock'):=by rw [<-hw2];exact World.putObj_heap_same hrlt
  have hm2:w2.heap[bm]?=some (.map ms clock'):=by rw [<-hw2,World.putObj_heap_other hne];exact gz
  have vh:Inv P Y0 ι μ (I x).H w2:=by rw [<-hw2];exact qx.inv.side DN M.own _
  have ad7:Y0.w0.heap.size<=w2.heap.size:=vh.below.size
  clear hw2 gz DN qx hw1 ZP hrlt
  refine uX (x := .tuple #[.bool true, en.key, en.val]) (w' := w2) (fun _ => trivial) rfl hO0 (gW hg1 _) (by rw [Hj]; intro c; simp) (.inl (by
   unfold execOp;rw [Hj];simp only [XB,Sem.run_bind,hrun];rfl)) ?_
  rw [OV]
  refine uX (x := .bool true) (w' := w2) (fun _ => trivial) rfl hO1 (gW hg2 _) (by rw [LA]; intro c; simp) (.inl (by
   unfold execOp;rw [LA];simp only [(eU _).2.2];simp [Instr.extract])) ?_
  rw [hd2]
  simp only [wpOpsIn]
  show Code.wpIn _ _ _ (.seq _ _) _ _ _
  refine wpIn_seq (wpIn_cond_true (Cj (by simpa [Act.put,ZN] using hokN)) (wpIn_skip ?_))
  have hRa:dX P N Y0 ι μ (I x) ((a.put (some n) (.tuple #[.bool true,en.key,en.val])).put (some ok) (.bool true)) w2:=by
   have h1:=(M.rep.over (eU .nilFunc).1 (.tuple #[.bool true,en.key,en.val])).over (eU .nilFunc).2.1 (.bool true)
   exact ⟨h1.env,h1.sz,vh,h1.ms⟩
  have ZQ:((a.put (some n) (.tuple #[.bool true,en.key,en.val])).put (some ok) (.bool true)).tmps.getD qT undef = .pointer (some ⟨r,0,none⟩):=by
   rw [OU XA,OU hnit];exact M.it
  show Code.wpIn _ _ _ (.block b3 y) _ _ _
  generalize ((a.put (some n) (.tuple #[.bool true,en.key,en.val])).put (some ok) (.bool true))=a2 at hRa ZQ
  -- which one
  have ZR:en∈ms.toList/\en.born∉seen.toList:=by
   have:en∈leftOf ms seen:=by simpa using hel
   simp only [leftOf,Array.mem_filter] at this
   exact ⟨by simpa using this.1,by simpa using this.2⟩
  obtain ⟨i,hi⟩:=List.getElem?_of_mem ZR.1
  have hbi:bs[i]?=some en.born:=by rw [<-M.Xz,List.getElem?_map,hi];rfl
  have Hl:i∈todo:=(M.left i).2 ⟨_,hbi,ZR.2⟩
  have vj:∀J:List Nat,J.Perm (todo.erase i)->∃res,zY step (dW.getD i (yf.zero,Aa.zero)::J.map fun i=>dW.getD i (yf.zero,Aa.zero)) x=some res/\(match res with | .inl y=>K .normal (I y) | .inr b=>K (Ei AW (X b).1) (X b).2):=fun J hJ =>
   Dr (i::J) ((hJ.cons i).trans (List.perm_cons_erase Hl).symm)
  have hs1:∃q,step (dW.getD i (yf.zero,Aa.zero)) x=some q:=by
   obtain ⟨res,hr,_⟩:=vj _ (.refl _)
   rcases Eh hr with ⟨y,hy⟩|⟨b,hb,_⟩
   ·exact ⟨_,hy⟩
   ·exact ⟨_,hb⟩
  obtain ⟨q,hq⟩:=hs1
  obtain ⟨id,es',hmid,qU,hwp⟩:=hstep _ _ _ hq
  obtain ⟨⟨L,hL,Zg⟩,Dt⟩:=M.here id hmid
  have:=Dt es' qU
  subst this
  obtain ⟨L',ms2,ck2,Gn,z1,z2,z3,z4,z5,z6,z7,z8⟩:=vh.live id _ (eN qU)
  rw [hL] at z1;cases z1
  rw [Zg,hm2] at z3;cases z3
  obtain ⟨e0,he0,hk,hv⟩:=z4.at hi
  have hat:dW.getD i (yf.zero,Aa.zero)=e0:=by
   have hil:i<dW.length:=by
    have:=(List.getElem?_eq_some_iff.1 hbi).1
    rw [M.len];exact this
   have h1:dW[i]?=some dW[i]:=List.getElem?_eq_getElem hil
   have h2:=M.hke i _ en.key h1 (by rw [<-M.hkz,List.getElem?_map,hi];rfl)
   have h3:=hdE.inj (hp0.mem_iff.1 (List.getElem_mem hil)) (z7.mem_iff.1 (List.mem_of_getElem? he0)) (TT hkT h2 hk)
   rw [List.getD_eq_getElem?_getD,h1]
   exact h3
  rw [hat] at hq hwp vj
  have hx0:=Gl x
  let L0:Loc:=⟨r,0,0,0⟩
  have OZ:Inv P Y0 ι (μ.set aC L0) ⟨aC+1,(I x).H.bl⟩ w2:=by rw [<-hx0];exact vh.name L0
  have hnone:μ aC=none:=by rw [<-hx0];exact vh.nx _ (Nat.le_refl _)
  have hle:=Mu.gn (L:=L0) hnone
  have hRs:dX P N (Y0.side w2 ι (μ.set aC L0) r) ι (μ.set aC L0) ⟨(qT,.ptr aC 0)::(I x).env,⟨aC+1,(I x).H.bl⟩,(I x).ms⟩ a2 w2:=by
   refine ⟨fun t=>?_,hRa.sz,OZ.into DO,hRa.ms.mono hle⟩
   rw [cz]
   split
   ·rename_i e; subst e
    rw [ZQ]
    have:=Rel.ptr (ι:=ι) (μ:=μ.set aC L0) aC 0 L0 (by simp [Mu.set])
    exact this
   ·exact (hRa.env t).mono (ax.le_refl _) hle
  have cF:=run_entry_at (P:=P) w2 r bm clock seen ms clock' en DO hm2 ZR.1 (by rw [M.Xz];exact M.nd)
  have O0:kN (Y0.side w2 ι (μ.set aC L0) r) out:=(SE.Zm hout).up (Mu.le_trans M.rep.inv.m0 hle)
  have iS:(Y0.side w2 ι (μ.set aC L0) r).base (aC+1):=fun id hid=>OZ.nx id hid
  have hF:(Y0.side w2 ι (μ.set aC L0) r).F=Y.F:=SE.F
  rw [<-hF]
  refine wpIn_mono (OW (Y:=Y0.side w2 ι (μ.set aC L0) r) (gU (aC+1)) LB hbd O0 iS hRs ZQ cF (hk.rel) (hv.rel) hwp) fun e3 a3 w3 hp=>?_
  obtain ⟨Y1,OH,ι3,μ3,S3,ex,Nz,Xw,TF⟩:=hp
  have qy:Inv P (Y0.side w2 ι (μ.set aC L0) r) ι3 μ3 S3.H w3:=OH.inv Nz.inv
  have TV:(μ.set aC L0).le μ3:=qy.m0
  have ad9:=(Array.getElem?_eq_some_iff.1 DO).1
  obtain ⟨Y2,hY2,O1,-,-,-,B9,-,O2⟩:=OH.lift (Yb:=Y0) (r:=r) (fun h=>OZ.ad0 h) (fun b hb=>by
   rcases hb with hb|hb
   ·exact .inl (Nat.le_trans ad7 hb)
   ·exact hb.1) rfl (Mu.le_trans M.rep.inv.m0 hle) rfl ⟨ad9,fun h=>by
    rcases h with h|h
    ·have : w2.heap.size ≤ r := h
     omega
    ·exact h.2 rfl⟩ M.own
  have hYt:=SE.trans hY2
  have Jv:Inv P Y2 ι3 μ3 S3.H w3:=O1 Nz.inv
  have hms3:mb Y2.hid μ3 S3.ms a3.defers:=by rw [B9];exact Nz.ms
  cases q with
  |inr b =>
   obtain ⟨hne3,hex,π3,Jw⟩:=TF
   obtain ⟨res,hr,hK⟩:=vj _ (.refl _)
   have hres:res = .inr b:=by
    rcases Eh hr with ⟨y,hy⟩|⟨b',hb,h⟩
    ·rw [hq] at hy;cases hy
    ·rw [hq] at hb;cases hb;exact h
   subst hres
   have hRb:=Jw.rep (hYt.uV hbase) (⟨Nz.env,Nz.sz,Jv,hms3⟩:dX P N Y2 ι3 μ3 S3 a3 w3)
   subst hex
   simp only at hK
   generalize hxb:(X b).1=xb at hK Xw hne3
   cases xb with
   |normal=>exact absurd rfl hne3
   |exit i' =>
    cases Xw
    refine ⟨Y2,hYt,ι3,_,_,.exit i',hRb,rfl,?_⟩
    simp only [Ei] at hK
    split at hK
    ·rename_i hb;simp only [hb];exact hK
    ·rename_i hb;simp only [hb];exact hK
   |ret=>cases Xw;exact ⟨Y2,hYt,ι3,_,_,.ret,hRb,rfl,hK⟩
  |inl y =>
   obtain ⟨rfl,hit3,hmn3,Ck,π3,Jw⟩:=TF
   cases Xw
   have hRf:dX P N Y2 ι3 μ3 ⟨eO (qT::[n,ok]) S3.env,S3.H,S3.ms⟩ a3 w3:=⟨Nz.env.forget _,Nz.sz,Jv,hms3⟩
   have hRy:=Jw.rep (hYt.uV hbase) hRf
   have hbm3 : w3.heap[bm]? = some (.map ms clock') ∨ ∃ XC ck3, w3.heap[bm]? = some (.map XC ck3) := .inr (by
    obtain ⟨L3,XC,ck3,es3,y1,y2,y3,_⟩:=Jv.live id _ (eN Ck)
    rw [TV _ _ (hle _ _ hL)] at y1;cases y1
    exact ⟨XC,ck3,by rw [<-Zg];exact y3⟩)
   obtain ⟨L3,XC,ck3,es3,y1,y2,y3,y4,y5,y6,y7,_⟩:=Jv.live id _ (eN Ck)
   rw [TV _ _ (hle _ _ hL)] at y1;cases y1
   rw [Zg] at y3
   have aee:bm<w2.heap.size:=(Array.getElem?_eq_some_iff.1 hm2).1
   have hgrow:=qy.below.maps bm aee ms clock' hm2
   obtain ⟨ms4,ck4,g1,g2,g3⟩:=hgrow
   rw [y3] at g1;cases g1
   have hbk:(XC.toList.map fun m=>(m.born,m.key))=ms.toList.map fun m=>(m.born,m.key):=by
    refine (g2.eq_of_length ?_).symm
    have h1:=vh.live id _ (eN qU)
    have h2:ms.toList.length=bs.length:=by rw [<-M.Xz,List.length_map]
    rw [List.length_map,List.length_map,fI.length y4,y7.length_eq,<-hp0.length_eq,hlen,h2]
   have xC:XC.toList.map (·.born)=bs:=by
    have:=congrArg (List.map Prod.fst) hbk
    rw [<-M.Xz];simpa [List.map_map,Function.comp_def] using this
   have hkeys:XC.toList.map (·.key)=kz:=by
    have:=congrArg (List.map Prod.snd) hbk
    rw [<-M.hkz];simpa [List.map_map,Function.comp_def] using this
   refine ⟨⟨todo.erase i,y⟩,⟨⟨Y2,hYt,ι3,_,seen.push en.born,clock',XC,ck3,hRy,?_,O2,?_,M.ck,Nat.le_trans M.ck g3,y3,xC,hkeys,fun i e z he hz=>(M.hke i e z he hz).mono (fun b o x hx=>qy.i0 b o x hx),M.old,M.nd,M.len,M.td.erase i,fun j=>?_,?_⟩,fun J hJ=>?_⟩,?_⟩
   ·have := Nz.env qT
    rw [hit3] at this
    generalize a3.tmps.getD qT undef=tv at this ⊢
    cases this with
    |ptr _ _ L4 h4 =>
     rw [TV aC L0 (by simp [Mu.set])] at h4
     cases h4
     rfl
   ·have := qy.below.block r (Array.getElem?_eq_some_iff.1 DO).1 (fun h => h.2 rfl)
    rw [this];exact DO
   ·rw [List.Nodup.mem_erase_iff M.td, M.left j]
    simp only [Array.toList_push,List.mem_append,List.mem_singleton]
    constructor
    ·rintro ⟨hj, b, hb, hs⟩
     refine ⟨b,hb,fun h=>?_⟩
     rcases h with h|h
     ·exact hs h
     ·subst h
      exact hj ((List.getElem?_inj (List.getElem?_eq_some_iff.1 hb).1 M.nd).1 (hb.trans hbi.symm))
    ·rintro ⟨b, hb, hs⟩
     refine ⟨fun e=>?_,b,hb,fun h=>hs (.inl h)⟩
     subst e
     rw [hbi] at hb;cases hb
     exact hs (.inr rfl)
   ·exact fun Dq h2=>Ju Jw hmn3 Ck (TV _ _ (hle _ _ hL)) Zg Dq h2
   ·obtain ⟨res, h, hK⟩ := vj J hJ
    simp only [zY,hq] at h
    exact ⟨res,h,hK⟩
   ·rw [List.length_erase_of_mem Hl]
    have:=List.length_pos_of_mem Hl
    show todo.length - 1<todo.length
    omega
end
end Go.AM
end
section
namespace Go.AM
structure Kz (R:Type) where
 br:Bool->R->R->R
 am:R->R->R
 nd:Bool->R->R
 no:R
 bd:{A:Type}->Option A->(A->R)->R
 sm:{A B:Type}->A ⊕ B->(A->R)->(B->R)->R
 an:{E:Type}->List E->(List E->R)->R
noncomputable def need {X:Type} (c:Bool) (x:Option X):Option X:=@ite _ (c=true) (Classical.propDecidable _) x none
noncomputable def lF {X:Type} (c:Bool) (x y:Option X):Option X:=@ite _ (c=true) (Classical.propDecidable _) x y
noncomputable def Ho {X:Type} (x y:Option X):Option X:=@ite _ (x=y) (Classical.propDecidable _) x none
noncomputable def cI {A X:Type} (o:Option A) (f:A->Option X):Option X:=@dite _ (∃a,o=some a) (Classical.propDecidable _) (fun h=>f h.choose) (fun _=>none)
@[reducible] noncomputable def iK (X:Type):Kz (Option X) where
 br c a b:=lF c a b
 am a b:=Ho a b
 nd c a:=need c a
 no:=none
 bd o f:=cI o f
 sm s f g:=match s with
  | .inl a=>f a
  | .inr b=>g b
 an es f:=iR f es
theorem LF {X:Type} {x y:Option X} {r:X} (h:Ho x y=some r):x=some r/\y=some r:=by
 unfold Ho at h
 split at h
 ·rename_i e;exact ⟨h,e▸h⟩
 ·cases h
@[simp] theorem LG {X:Type} {x:Option X}:Ho x x=x:=by unfold Ho;rw [if_pos rfl]
theorem iU {X:Type} {c:Bool} {x:Option X} (h:c=true):need c x=x:=by unfold need;rw [if_pos h]
@[simp] theorem af {X:Type} {x:Option X}:need true x=x:=iU rfl
@[simp] theorem ZS {X:Type} {x:Option X}:need false x=none:=by unfold need;rw [if_neg (by simp)]
@[simp] theorem bO {X:Type} {x y:Option X}:lF true x y=x:=by unfold lF;rw [if_pos rfl]
@[simp] theorem aO {X:Type} {x y:Option X}:lF false x y=y:=by unfold lF;rw [if_neg (by simp)]
@[simp] theorem aF {A X:Type} {a:A} {f:A->Option X}:cI (some a) f=f a:=by
 have h:∃b,some a=some b:=⟨a,rfl⟩
 unfold cI;rw [dif_pos h]
 have:=h.choose_spec
 rw [<-Option.some.inj this]
@[simp] theorem pY {A X:Type} {f:A->Option X}:cI none f=none:=by
 unfold cI;rw [dif_neg];rintro ⟨a,h⟩;cases h
theorem de {X:Type} {c:Bool} {x:Option X} {r:X} (h:need c x=some r):c=true/\x=some r:=by
 cases c<;>simp at h ⊢;exact h
theorem qV {A X:Type} {o:Option A} {f:A->Option X} {r:X} (h:cI o f=some r):∃a,o=some a/\f a=some r:=by
 cases o<;>simp at h ⊢;exact h
theorem pZ {X A:Type} {o:Option A} {f:A->Option X} {r:X} (h:(iK X).bd o f=some r):∃a,o=some a/\f a=some r:=qV h
theorem iV {X:Type} {c:Bool} {x y:Option X} {r:X} (h:lF c x y=some r):(c=true/\x=some r)\/(c=false/\y=some r):=by
 cases c<;>simp at h ⊢<;>exact h
section
variable {R:Type}
def fV (v:V) (k:V->R):R:=match v with
 | .any=>k .any
 | .tf b=>match b with
  |true=>k (.tf true)
  |false=>k (.tf false)
 | .bool b=>k (.bool b)
 | .int ik n=>k (.int ik n)
 | .str s=>k (.str s)
 | .fG=>k .fG
 | .cZ=>k .cZ
 | .gw=>k .gw
 | .fS t xs=>k (.fS t xs)
 | .cg=>k .cg
 | .sl id t lo n=>k (.sl id t lo n)
 | .ptr id off=>k (.ptr id off)
 | .gx cs=>k (.gx cs)
 | .ep id t i p=>k (.ep id t i p)
 | .ip t x=>k (.ip t x)
 | .fn f a b=>k (.fn f a b)
 | .yl id=>k (.yl id)
 | .agg cs=>k (.agg cs)
 | .cS vs=>k (.cS vs)
 | .cL t v=>k (.cL t v)
 | .cb c=>k (.cb c)
 | .mp id=>k (.mp id)
 | .cT=>k .cT
 | .pa id t n=>k (.pa id t n)
 | .mw t xs=>k (.mw t xs)
 | .sp id o l=>k (.sp id o l)
theorem oc (v:V) (k:V->R):fV v k=k v:=by
 cases v<;>try rfl
 rename_i b;cases b<;>rfl
def fN (n:Nat) (k:Nat->R):R:=match n with
 |0=>k 0
 |n+1=>k (n+1)
theorem gB (n:Nat) (k:Nat->R):fN n k=k n:=by cases n<;>rfl
def vK (d:Option Nat) (v:V) (env:Env) (k:Env->R):R:=match d with
 |some t=>k ((t,v)::env)
 |none=>k env
theorem lR (d:Option Nat) (v:V) (env:Env) (k:Env->R):vK d v env k=k (put d v env):=by cases d<;>rfl
def qz (id : Nat) : aq → (aq → R) → R
 |[],k=>k []
 |(s,b)::r,k=>match Nat.beq s id with
  |true=>qz id r k
  |false=>qz id r fun r'=>k ((s,b)::r')
theorem kU (id : Nat) : ∀ (bl : aq) (k : aq → R), qz id bl k = k (bD id bl)
 |[],k=>rfl
 |(s,b)::r,k=>by
  simp only [qz,bD]
  split<;>rename_i h<;>simp only [h]<;>exact kU id r _
def iu : eY → aq → (aq → R) → R
 |[],bl,k=>k bl
 |(id,none)::r,bl,k=>qz id bl fun bl=>iu r bl k
 |(id,some b)::r,bl,k=>qz id bl fun bl=>iu r ((id,b)::bl) k
theorem gD : ∀ (u : eY) (bl : aq) (k : aq → R), iu u bl k = k (bI u bl)
 |[],_,_=>rfl
 |(id,none)::r,bl,k=>by simp only [iu,kU,bI];exact gD r _ k
 |(id,some b)::r,bl,k=>by simp only [iu,kU,bI];exact gD r _ k
def sw (kz : Kz R) : List Bool → R → R
 |[],k=>k
 |b::r,k=>kz.nd b (sw kz r k)
structure Cx where
 pc:{R:Type}->Kz R->Nat->List V->(V->R)->R
 ca:{R:Type}->Kz R->Nat->List V->Nat->aq->(V->Nat->aq->R)->R
 rd:{R:Type}->Kz R->Nat->List V->Nat->aq->(V->Nat->aq->R)->R
 op:Nat:=0
structure Cx.Ok (P:Program) (cx:Cx):Prop where
 XD:∀{X:Type} {f:Nat} {vs:List V} {K:V->Option X} {r:X},cx.pc (iK X) f vs K=some r->∃v,kB P f vs v/\K v=some r
 TW:∀{X:Type} {f:Nat} {vs:List V} {nx:Nat} {bl:aq} {K:V->Nat->aq->Option X} {r:X},cx.ca (iK X) f vs nx bl K=some r ->
  ∀{Q:V->aG->Prop},(∀v nx bl,K v nx bl=some r->Q v ⟨nx,bl⟩)->eV P f vs ⟨nx,bl⟩ Q
 ZT:∀{X:Type} {id:Nat} {vs:List V} {nx:Nat} {bl:aq} {K:V->Nat->aq->Option X} {r:X},cx.rd (iK X) id vs nx bl K=some r ->
  ∀{Q:V->aG->Prop},(∀v nx bl,K v nx bl=some r->Q v ⟨nx,bl⟩)->around P id vs ⟨nx,bl⟩ Q
def Cl (kz:Kz R) (g:Option (Nat×Bool)) (env:Env) (skip run:Env->R):R:=match g with
 |none=>run env
 |some (s,b)=>match get s env with
  | .tf c=>match c,b with
   |true,true=>run env
   |false,false=>run env
   |true,false=>skip env
   |false,true=>skip env
  | .bool c => kz.br c
   (match b with
    |true=>run ((s,.tf true)::env)
    |false=>skip ((s,.tf true)::env))
   (match b with
    |false=>run ((s,.tf false)::env)
    |true=>skip ((s,.tf false)::env))
  | .cS _=>skip env
  |_=>kz.no
def XE (kz:Kz R) (op:Nat) (ar:Ar) (bl:aq) (k:aq->R):R:=match op with
 |0=>k bl
 |n+1=>match (match n with
   |0=>NQ bl
   |_+1=>BI bl) with
  |[]=>k bl
  |ids=>match Nw ar ids bl with
   |some u=>iu u bl k
   |none=>kz.no
def dmOp : Nat → Nat
 |0=>0
 |_+1=>1
def kI (kz : Kz R) (cx : Cx) (ar : Ar) : List dw → Env → Nat → aq → (Env → Nat → aq → R) → R
 |[],env,nx,bl,K=>K env nx bl
 | .op d g i::r,env,nx,bl,K=>Cl kz g env (fun env=>vK d (.cS []) env fun env=>kI kz cx ar r env nx bl K) fun env =>
   match cx.op with
   |0=>(match Xx ar i env bl nx with
    |some (ob,v,u)=>sw kz ob (fV v fun v=>vK d v env fun env=>match i.lays with
     |true=>fN (nx+1) fun nx=>iu u bl fun bl=>kI kz cx ar r env nx bl K
     |false=>iu u bl fun bl=>kI kz cx ar r env nx bl K)
    |none=>kz.no)
   |_+1=>match wW ar i env bl nx with
    |some (ob,v,u)=>sw kz ob (fV v fun v=>vK d v env fun env=>match i.lays with
     |true=>fN (nx+1) fun nx=>iu u bl fun bl=>kI kz cx ar r env nx bl K
     |false=>iu u bl fun bl=>kI kz cx ar r env nx bl K)
    |none=>match Xx ar i env bl nx with
     |some (ob,v,u)=>sw kz ob (fV v fun v=>vK d v env fun env=>match i.lays with
      |true=>fN (nx+1) fun nx=>iu u bl fun bl=>kI kz cx ar r env nx bl K
      |false=>iu u bl fun bl=>kI kz cx ar r env nx bl K)
     |none=>XE kz 1 ar bl fun bl=>match Xx ar i env bl nx with
      |some (ob,v,u)=>sw kz ob (fV v fun v=>vK d v env fun env=>match i.lays with
       |true=>fN (nx+1) fun nx=>iu u bl fun bl=>kI kz cx ar r env nx bl K
       |false=>iu u bl fun bl=>kI kz cx ar r env nx bl K)
      |none=>kz.no
 | .call d g f a tys::r,env,nx,bl,K=>Cl kz g env (fun env=>vK d (.cS []) env fun env=>kI kz cx ar r env nx bl K) fun env=>XE kz (dmOp cx.op) ar bl fun bl =>
   match f.ev env with
   | .fn f fs cs=>cx.ca kz f (fs++cu tys (a.map (·.ev env))++cs) nx bl fun v nx bl=>fV v fun v=>vK d v env fun env=>kI kz cx ar r env nx bl K
   | .yl id=>cx.rd kz id (cu tys (a.map (·.ev env))) nx bl fun v nx bl=>fV v fun v=>vK d v env fun env=>kI kz cx ar r env nx bl K
   |_=>kz.no
def AX (kz:Kz R) (gs:List Nat) (d:Option Nat) (v:V) (env:Env) (K:Env->R):R:=match d with
 |none=>K env
 |some t=>match BQ t gs with
  |false=>K ((t,v)::env)
  |true=>match v with
   | .bool c=>kz.br c (K ((t,.tf true)::env)) (K ((t,.tf false)::env))
   |v=>K ((t,v)::env)
def SF (kz : Kz R) (cx : Cx) (ar : Ar) (gs : List Nat) (b : Nat) : List dw → Nat → Env → aq → List DR → (Env → aq → List DR → R) → R
 |[],_,env,bl,cA,K=>K env bl cA
 | .op d g i::r,k,env,bl,cA,K=>match GF g env with
  |some true=>match (match cx.op with
    |0=>none
    |_+1=>wW ar i env bl (b+k)) with
   |some (ob,v,u)=>sw kz ob (fV v fun v=>AX kz gs d v env fun env'=>iu u bl fun bl=>SF kz cx ar gs b r (k+1) env' bl (w5 k (nA i env) (u.map (·.1)) cA) K)
   |none=>match Xx ar i env bl (b+k) with
    |some (ob,v,u)=>sw kz ob (fV v fun v=>AX kz gs d v env fun env'=>iu u bl fun bl=>SF kz cx ar gs b r (k+1) env' bl (w5 k (nA i env) (u.map (·.1)) cA) K)
    |none=>kz.no
  |some false=>vK d (.cS []) env fun env=>SF kz cx ar gs b r (k+1) env bl cA K
  |none=>kz.no
 | .call d g f a tys::r,k,env,bl,cA,K=>match GF g env with
  |some true=>match f.ev env with
   | .fn f fs cs=>match fs++cu tys (a.map (·.ev env))++cs with
    |vs=>match ee (fin ar bl 8) vs with
     |some vs'=>cx.pc kz f vs' fun x=>fV x fun x=>match DH x||vs.all (dZ 8) with
      |true=>AX kz gs d x env fun env'=>SF kz cx ar gs b r (k+1) env' bl (w5 k (jL bl vs) [] cA) K
      |false=>match w6 (jL bl vs) bl with
       |some u=>AX kz gs d x env fun env'=>iu u bl fun bP=>SF kz cx ar gs b r (k+1) env' bP (w5 k (jL bl vs) (u.map (·.1)) cA) K
       |none=>kz.no
     |none=>kz.no
   |_=>kz.no
  |some false=>vK d (.cS []) env fun env=>SF kz cx ar gs b r (k+1) env bl cA K
  |none=>kz.no
end
abbrev Kc (R:Type):=Ex->Env->Nat->aq->List Nat->R
structure bw (P:Program) (N:Nat) (out:Option Nat) (base:Nat):Type 1 where
 c:C
 run:{R:Type}->Kz R->Env->Nat->aq->List Nat->Kc R->R
 ok:∀{X:Type} {env:Env} {nx:Nat} {bl:aq} {ms:List Nat} {K:Kc (Option X)} {r:X},run (iK X) env nx bl ms K=some r ->
  ∀{Q:Ex->St->Prop},(∀e env nx bl ms,K e env nx bl ms=some r->Q e ⟨env,⟨nx,bl⟩,ms⟩)->(eW P N out base).loop c ⟨env,⟨nx,bl⟩,ms⟩ Q
structure gM (P:Program) (N:Nat) (out:Option Nat) (base:Nat):Type 1 where
 f:O
 ps:List Nat
 a:C
 b:C
 run:{R:Type}->Kz R->Env->Nat->aq->List Nat->Kc R->R
 ok:∀{X:Type} {env:Env} {nx:Nat} {bl:aq} {ms:List Nat} {K:Kc (Option X)} {r:X},run (iK X) env nx bl ms K=some r ->
  ∀{Q:Ex->St->Prop},(∀e env nx bl ms,K e env nx bl ms=some r->Q e ⟨env,⟨nx,bl⟩,ms⟩)->(eW P N out base).bM f ps a b ⟨env,⟨nx,bl⟩,ms⟩ Q
structure sx (P:Program) (N:Nat) (out:Option Nat) (base:Nat):Type 1 where
 pre:List dw
 m:O
 it:Nat
 cl:List Nat
 e:Option Nat
 kt:Ty
 kg:Bool
 vt:Ty
 vg:Bool
 qq:Nat
 b:C
 run:{R:Type}->Kz R->Env->Nat->aq->List Nat->Kc R->R
 ok:∀{X:Type} {env:Env} {nx:Nat} {bl:aq} {ms:List Nat} {K:Kc (Option X)} {r:X},run (iK X) env nx bl ms K=some r ->
  ∀{Q:Ex->St->Prop},(∀e env nx bl ms,K e env nx bl ms=some r->Q e ⟨env,⟨nx,bl⟩,ms⟩)->(eW P N out base).ic (.ic pre m it cl e kt kg vt vg qq b) ⟨env,⟨nx,bl⟩,ms⟩ Q
structure Hp (P:Program) (N:Nat) (out:Option Nat) (base:Nat) (f:O) (ps:List Nat) (a b:C):Type 1 where
 run:{R:Type}->Kz R->Env->Nat->aq->List Nat->Kc R->R
 ok:∀{X:Type} {env:Env} {nx:Nat} {bl:aq} {ms:List Nat} {K:Kc (Option X)} {r:X},run (iK X) env nx bl ms K=some r ->
  ∀{Q:Ex->St->Prop},(∀e env nx bl ms,K e env nx bl ms=some r->Q e ⟨env,⟨nx,bl⟩,ms⟩)->(eW P N out base).bM f ps a b ⟨env,⟨nx,bl⟩,ms⟩ Q
def Hp.s {P:Program} {N:Nat} {out:Option Nat} {base:Nat} {f:O} {ps:List Nat} {a b:C} (T:Hp P N out base f ps a b):gM P N out base:=⟨f,ps,a,b,T.run,T.ok⟩
inductive D (P:Program) (N:Nat) (out:Option Nat) (base:Nat):Type 1 where
 |skip
 |bf (items:List dw)
 |draw (b8:List (List Nat)) (items:List dw)
 |seq (a b:D P N out base)
 |cond (c:O) (a b:D P N out base)
 |block (id:Nat) (c:D P N out base)
 |loop (l:bw P N out base)
 |exit (id:Nat)
 |ret
 |bM (l:gM P N out base)
 |ic (l:sx P N out base)
section
variable {P:Program} {N:Nat} {out:Option Nat} {base:Nat} {R:Type}
def D.er : D P N out base → C
 | .skip=>.skip
 | .bf is=>.bf is
 | .draw ps is=>.draw ps is
 | .seq a b=>.seq a.er b.er
 | .cond c a b=>.cond c a.er b.er
 | .block id c=>.block id c.er
 | .loop l=>.loop l.c
 | .exit id=>.exit id
 | .ret=>.ret
 | .bM l=>.bM l.f l.ps l.a l.b
 | .ic l=>.ic l.pre l.m l.it l.cl l.e l.kt l.kg l.vt l.vg l.qq l.b
def rwK (c:O) (b:Bool) (env:Env):Env:=match c with
 | .t n=>(n,.tf b)::env
 | .c _=>env
 | .m _ _=>env
def kE (kz : Kz R) (cx : Cx) (ar : Ar) : D P N out base → Env → Nat → aq → List Nat → Kc R → R
 | .skip,env,nx,bl,ms,K=>K .normal env nx bl ms
 | .bf is,env,nx,bl,ms,K=>kI kz cx ar is env nx bl fun env nx bl=>K .normal env nx bl ms
 | .draw ps is,env,nx,bl,ms,K=>SF kz cx ar (xd is) nx is 0 env bl [] fun env bl cA=>match DG ps cA with
  |true=>fN (nx+is.length) fun nx=>K .normal env nx bl ms
  |false=>kz.no
 | .seq a b,env,nx,bl,ms,K=>kE kz cx ar a env nx bl ms fun e env nx bl ms=>match e with
  | .normal=>kE kz cx ar b env nx bl ms K
  | .exit id=>K (.exit id) env nx bl ms
  | .ret=>K .ret env nx bl ms
 | .cond c a b,env,nx,bl,ms,K=>match c.ev env with
  | .tf true=>kE kz cx ar a env nx bl ms K
  | .tf false=>kE kz cx ar b env nx bl ms K
  | .bool x=>kz.br x (kE kz cx ar a (rwK c true env) nx bl ms K) (kE kz cx ar b (rwK c false env) nx bl ms K)
  | .cb x=>kz.br x (kz.am (kE kz cx ar a (rwK c true env) nx bl ms K) (kE kz cx ar b (rwK c false env) nx bl ms K)) (kE kz cx ar b (rwK c false env) nx bl ms K)
  |_=>kz.no
 | .block id c,env,nx,bl,ms,K=>kE kz cx ar c env nx bl ms fun e env nx bl ms=>match e with
  | .normal=>K .normal env nx bl ms
  | .exit id'=>match Nat.beq id' id with
   |true=>K .normal env nx bl ms
   |false=>K (.exit id') env nx bl ms
  | .ret=>K .ret env nx bl ms
 | .loop l,env,nx,bl,ms,K=>XE kz cx.op ar bl fun bl=>l.run kz env nx bl ms K
 | .exit id,env,nx,bl,ms,K=>K (.exit id) env nx bl ms
 | .ret,env,nx,bl,ms,K=>K .ret env nx bl ms
 | .bM l,env,nx,bl,ms,K=>XE kz cx.op ar bl fun bl=>l.run kz env nx bl ms K
 | .ic l,env,nx,bl,ms,K=>XE kz cx.op ar bl fun bl=>l.run kz env nx bl ms K
variable {X:Type} {cx:Cx}
theorem nO {ob:List Bool} {x:Option X} {r:X} (h:sw (iK X) ob x=some r):vE ob/\x=some r:=by
 induction ob with
 |nil=>exact ⟨trivial,h⟩
 |cons b l ih =>
  obtain ⟨h1,h2⟩:=de h
  obtain ⟨h3,h4⟩:=ih h2
  cases l with
  |nil=>exact ⟨h1,h4⟩
  |cons c l=>exact ⟨⟨h1,h3⟩,h4⟩
theorem AY {g : Option (Nat × Bool)} {env : Env} {nx : Nat} {bl : aq} {ms : List Nat} {skip run : Env → Option X} {r : X} (h : Cl (iK X) g env skip run = some r) {d : Option Nat} {K run' : St → Prop}
  (hs:∀env,skip env=some r->K ⟨put d (.cS []) env,⟨nx,bl⟩,ms⟩) (hr:∀env,run env=some r->run' ⟨env,⟨nx,bl⟩,ms⟩):nw g d ⟨env,⟨nx,bl⟩,ms⟩ K run':=by
 unfold Cl at h
 unfold nw
 split at h
 ·exact hr _ h
 ·rename_i s b
  simp only
  split at h
  ·rename_i c hc
   rw [hc]
   cases c<;>cases b<;>simp only at h ⊢
   ·exact hr _ h
   ·exact hs _ h
   ·exact hs _ h
   ·exact hr _ h
  ·rename_i c hc
   rw [hc]
   rcases iV h with ⟨e,h⟩|⟨e,h⟩
   ·refine ⟨fun _ => ?_, fun e' => by rw [e] at e'; cases e'⟩
    cases b<;>simp only at h ⊢
    ·exact hs _ h
    ·exact hr _ h
   ·refine ⟨fun e' => (by rw [e] at e'; cases e'), fun _ => ?_⟩
    cases b<;>simp only at h ⊢
    ·exact hr _ h
    ·exact hs _ h
  ·rename_i hc
   rw [hc]
   exact hs _ h
  ·cases h
theorem O3 {op:Nat} {bl:aq} {k:aq->Option X} {r:X} (h:XE (iK X) op eu bl k=some r):k bl=some r\/∃ids u,Nw (eW P N out base) ids bl=some u/\k (bI u bl)=some r:=by
 unfold XE at h
 split at h
 ·exact .inl h
 ·split at h
  ·exact .inl h
  ·split at h <;> try (cases h; done)
   rename_i u hu
   rw [gD] at h
   exact .inr ⟨_,u,by unfold eW;rw [OL];exact hu,h⟩
theorem Cm {op:Nat} {env:Env} {nx:Nat} {bl:aq} {ms:List Nat} {k:aq->Option X} {r:X} (h:XE (iK X) op eu bl k=some r) {K:St->Prop} (hK:∀bl,k bl=some r->K ⟨env,⟨nx,bl⟩,ms⟩):K5 (eW P N out base) ⟨env,⟨nx,bl⟩,ms⟩ K:=by
 rcases O3 (P:=P) (N:=N) (out:=out) (base:=base) h with h|⟨ids,u,hu,h⟩
 ·exact .inl (hK _ h)
 ·exact .inr ⟨ids,u,hu,hK _ h⟩
theorem oU (gN:cx.Ok P):∀{is:List dw} {env:Env} {nx:Nat} {bl:aq} {ms:List Nat} {K:Env->Nat->aq->Option X} {r:X} {Q:St->Prop},kI (iK X) cx eu is env nx bl K=some r ->
  (∀env nx bl,K env nx bl=some r->Q ⟨env,⟨nx,bl⟩,ms⟩)->dY (eW P N out base) is ⟨env,⟨nx,bl⟩,ms⟩ Q
 |[],env,nx,bl,ms,K,r,Q,h,hK=>hK _ _ _ h
 | .op d g i::is,env,nx,bl,ms,K,r,Q,h,hK=>by
  simp only [kI] at h
  simp only [dY]
  have body:∀{env:Env} {bl:aq} {ob:List Bool} {v:V} {u:eY},Xx eu i env bl nx=some (ob,v,u) ->
    sw (iK X) ob (fV v fun v=>vK d v env fun env=>match i.lays with
     |true=>fN (nx+1) fun nx=>iu u bl fun bl=>kI (iK X) cx eu is env nx bl K
     |false=>iu u bl fun bl=>kI (iK X) cx eu is env nx bl K)=some r ->
    b7 (eW P N out base) i env bl nx=some (ob,v,u)/\vE ob/\dY (eW P N out base) is ⟨put d v env,⟨Nx i.lays nx,bI u bl⟩,ms⟩ Q:=by
   intro env bl ob v u ak h
   obtain ⟨cW,h⟩:=nO h
   rw [oc,lR] at h
   rw [OR] at ak
   refine ⟨by unfold eW;rw [OJ];exact ak,cW,?_⟩
   split at h
   ·rename_i hl
    rw [gB,gD] at h
    simp only [hl,Nx]
    exact oU gN h hK
   ·rename_i hl
    rw [gD] at h
    simp only [hl,Nx]
    exact oU gN h hK
  refine AY h (fun env h=>?_) (fun env h=>?_)
  ·rw [lR] at h;exact oU gN h hK
  ·split at h
   ·split at h
    ·rename_i ob v u ak
     obtain ⟨h1,h2,h3⟩:=body ak h
     exact Ch h1 h2 h3
    ·cases h
   ·split at h
    ·rename_i ob v u ak
     obtain ⟨cW,h⟩:=nO h
     rw [oc,lR] at h
     refine ZF (by unfold eW;rw [OK];exact ak) cW ?_
     split at h
     ·rename_i hl
      rw [gB,gD] at h
      simp only [hl,Nx]
      exact oU gN h hK
     ·rename_i hl
      rw [gD] at h
      simp only [hl,Nx]
      exact oU gN h hK
    ·split at h
     ·rename_i ob v u ak
      obtain ⟨h1,h2,h3⟩:=body ak h
      exact Ch h1 h2 h3
     ·rcases O3 (P := P) (N := N) (out := out) (base := base) h with h | ⟨ids, u', hu, h⟩
      ·split at h
       ·rename_i ob v u ak
        obtain ⟨h1,h2,h3⟩:=body ak h
        exact Ch h1 h2 h3
       ·cases h
      ·split at h
       ·rename_i ob v u ak
        obtain ⟨h1,h2,h3⟩:=body ak h
        exact ZG hu h1 h2 h3
       ·cases h
 | .call d g f a tys::is,env,nx,bl,ms,K,r,Q,h,hK=>by
  simp only [kI] at h
  simp only [dY]
  refine AY h (fun env h=>?_) (fun env h=>?_)
  ·rw [lR] at h;exact oU gN h hK
  ·simp only [BL]
   refine Cm h fun bl h=>?_
   simp only [rN]
   split at h
   ·rename_i f' fs cs hf
    rw [hf]
    refine gN.TW h fun v nx bl h=>?_
    rw [oc,lR] at h
    exact oU gN h hK
   ·rename_i id hf
    rw [hf]
    refine gN.ZT h fun v nx bl h=>?_
    rw [oc,lR] at h
    exact oU gN h hK
   ·cases h
theorem sy {gs:List Nat} {d:Option Nat} {v:V} {env:Env} {K:Env->Option X} {r:X} (h:AX (iK X) gs d v env K=some r) {K':Env->Prop} (hK:∀env,K env=some r->K' env):DI gs d v env K':=by
 unfold AX at h
 unfold DI
 cases d with
 |none=>exact hK _ h
 |some t =>
  simp only at h ⊢
  split at h
  ·rename_i hm;rw [hm];exact hK _ h
  ·rename_i hm
   rw [hm]
   simp only
   split at h
   ·rename_i c
    simp only
    rcases iV h with ⟨e,h⟩|⟨e,h⟩
    ·exact ⟨fun _=>hK _ h,fun e'=>by rw [e] at e';cases e'⟩
    ·exact ⟨fun e'=>(by rw [e] at e';cases e'),fun _=>hK _ h⟩
   ·rename_i hv
    have:=hK _ h
    cases v<;>first|exact this|exact (hv _ rfl).elim
theorem qW (gN:cx.Ok P) {gs:List Nat} {b:Nat}:∀{is:List dw} {k:Nat} {env:Env} {bl:aq} {cA:List DR} {K:Env->aq->List DR->Option X} {r:X} {Q:Env->aq->List DR->Prop},
  SF (iK X) cx eu gs b is k env bl cA K=some r->(∀env bl cA,K env bl cA=some r->Q env bl cA)->rS (eW P N out base) gs b is k env bl cA Q
 |[],k,env,bl,cA,K,r,Q,h,hK=>hK _ _ _ h
 | .op d g i::is,k,env,bl,cA,K,r,Q,h,hK=>by
  simp only [SF] at h
  simp only [rS]
  split at h
  ·rename_i hg
   rw [hg]
   split at h
   ·rename_i ob v u ak
    obtain ⟨cW,h⟩:=nO h
    rw [oc] at h
    have ZU:wW (eW P N out base) i env bl (b+k)=some (ob,v,u):=by
     unfold eW;rw [OK]
     split at ak
     ·cases ak
     ·exact ak
    refine .inr (Ay ZU cW (sy h fun env h=>?_))
    rw [gD] at h
    exact qW gN h hK
   ·split at h
    ·rename_i ob v u ak
     obtain ⟨cW,h⟩:=nO h
     rw [oc] at h
     rw [OR] at ak
     have ZU:b7 (eW P N out base) i env bl (b+k)=some (ob,v,u):=by unfold eW;rw [OJ];exact ak
     refine .inl (Ay ZU cW (sy h fun env h=>?_))
     rw [gD] at h
     exact qW gN h hK
    ·cases h
  ·rename_i hg
   rw [hg]
   rw [lR] at h
   exact qW gN h hK
  ·cases h
 | .call d g f a tys::is,k,env,bl,cA,K,r,Q,h,hK=>by
  simp only [SF] at h
  simp only [rS]
  split at h
  ·rename_i hg
   rw [hg]
   split at h
   ·rename_i f' fs cs hf
    rw [hf]
    split at h
    ·rename_i vs' hm
     obtain ⟨v,hp,h⟩:=gN.XD h
     rw [oc] at h
     have e:ee (fin (eW P N out base) bl 8)=ee (fin eu bl 8):=funext fun vs=>nJ (fun v=>by unfold eW;exact xR) vs
     simp only [e,hm]
     split at h
     ·rename_i hsc
      exact ⟨v,[],hp,by rw [hsc];rfl,sy h fun env h=>qW gN h hK⟩
     ·rename_i hsc
      split at h
      ·rename_i u hu
       exact ⟨v,u,hp,by rw [hsc];exact hu,sy h fun env h=>qW gN (by rw [gD] at h;exact h) hK⟩
      ·cases h
    ·cases h
   ·cases h
  ·rename_i hg
   rw [hg]
   rw [lR] at h
   exact qW gN h hK
  ·cases h
theorem lS (gN:cx.Ok P):∀{d:D P N out base} {env:Env} {nx:Nat} {bl:aq} {ms:List Nat} {K:Kc (Option X)} {r:X} {Q:Ex->St->Prop},kE (iK X) cx eu d env nx bl ms K=some r ->
  (∀e env nx bl ms,K e env nx bl ms=some r->Q e ⟨env,⟨nx,bl⟩,ms⟩)->rT (eW P N out base) d.er ⟨env,⟨nx,bl⟩,ms⟩ Q:=by
 intro d
 induction d with
 |skip=>intro env nx bl ms K r Q h hK;exact hK _ _ _ _ _ h
 |bf is=>intro env nx bl ms K r Q h hK;exact oU gN h fun env nx bl h=>hK _ _ _ _ _ h
 |draw ps is =>
  intro env nx bl ms K r Q h hK
  refine qW gN h fun env bl cA h=>?_
  split at h
  ·rename_i hd
   rw [gB] at h
   exact ⟨hd,hK _ _ _ _ _ h⟩
  ·cases h
 |seq a b Hq Gp =>
  intro env nx bl ms K r Q h hK
  refine Hq h fun e env nx bl ms h=>?_
  cases e with
  |normal=>exact Gp h hK
  |exit id=>exact hK _ _ _ _ _ h
  |ret=>exact hK _ _ _ _ _ h
 |cond c a b Hq Gp =>
  intro env nx bl ms K r Q h hK
  simp only [kE] at h
  simp only [D.er,rT]
  have hrw:∀x env,Ta c x ⟨env,⟨nx,bl⟩,ms⟩=⟨rwK c x env,⟨nx,bl⟩,ms⟩:=fun x env=>by cases c<;>rfl
  split at h
  ·rename_i hc;rw [hc];exact Hq h hK
  ·rename_i hc;rw [hc];exact Gp h hK
  ·rename_i x hc
   rw [hc]
   rcases iV h with ⟨e,h⟩|⟨e,h⟩
   ·refine ⟨fun _ => ?_, fun e' => by rw [e] at e'; cases e'⟩
    rw [hrw];exact Hq h hK
   ·refine ⟨fun e' => (by rw [e] at e'; cases e'), fun _ => ?_⟩
    rw [hrw];exact Gp h hK
  ·rename_i x hc
   rw [hc]
   rcases iV h with ⟨e,h⟩|⟨e,h⟩
   ·obtain ⟨h1, h2⟩ := LF h
    exact ⟨fun _=>by rw [hrw];exact Hq h1 hK,by rw [hrw];exact Gp h2 hK⟩
   ·exact ⟨fun e'=>(by rw [e] at e';cases e'),by rw [hrw];exact Gp h hK⟩
  ·cases h
 |block id c ih =>
  intro env nx bl ms K r Q h hK
  refine ih h fun e env nx bl ms h=>?_
  cases e with
  |normal=>exact hK _ _ _ _ _ h
  |exit id' =>
   simp only at h ⊢
   split at h
   ·rename_i e;rw [e];exact hK _ _ _ _ _ h
   ·rename_i e;rw [e];exact hK _ _ _ _ _ h
  |ret=>exact hK _ _ _ _ _ h
 |loop l=>intro env nx bl ms K r Q h hK;exact Cm h fun bl h=>l.ok h hK
 |exit id=>intro env nx bl ms K r Q h hK;exact hK _ _ _ _ _ h
 |ret=>intro env nx bl ms K r Q h hK;exact hK _ _ _ _ _ h
 |bM l=>intro env nx bl ms K r Q h hK;exact Cm h fun bl h=>l.ok h hK
 |ic l=>intro env nx bl ms K r Q h hK;exact Cm h fun bl h=>l.ok h hK
end
end Go.AM
end
section
namespace Go.AM
inductive CP where
 |any
 |tf (b:Bool)
 |fG
 |cZ
 |gw
 |cg
 |hole (t:Ty)
 |bH (b:Nat) (t:Ty)
 |SG (b:Nat) (t:Ty)
 |ptr (b off:Nat)
 |yl (b:Nat)
 |gx (t:Ty)
 |fn0 (f:Nat)
 |LH (l:CP)
 |LI (l:CP)
 |fn (f:Nat) (a b:CP)
 |Hr (t:Nat) (g:Bool) (l:CP)
 |mp (b:Nat)
 |cT
 |pa (b:Nat) (t:Ty) (n:Nat)
 |mw (t:Ty)
 |nil
 |cons (c l:CP)
inductive SP where
 |c (c:CP)
 |agg (cs:List CP)
 |cS (cs:List CP)
 |fn (f:Nat) (a b:List CP)
 |alt (a b:List CP)
def CP.T : CP → Type → Type
 | .hole t,A=>t.den×A
 | .bH _ _,A=>Nat×A
 | .SG _ _,A=>Nat×Nat×A
 | .gx t,A=>t.den×A
 | .mw t,A=>List t.den×A
 | .Hr _ _ l,A=>l.T A
 | .mp _,A=>A
 | .cT,A=>A
 | .pa _ _ _,A=>A
 | .LH l,A=>l.T A
 | .LI l,A=>l.T A
 | .fn _ a b,A=>a.T (b.T A)
 | .cons c l,A=>c.T (l.T A)
 | .any,A=>A
 | .tf _,A=>A
 | .fG,A=>A
 | .cZ,A=>A
 | .gw,A=>A
 | .cg,A=>A
 | .ptr _ _,A=>A
 | .yl _,A=>A
 | .fn0 _,A=>A
 | .nil,A=>A
def tyV : (t : Ty) → t.den → V
 | .unit,_=>.agg []
 | .bool,b=>.bool b
 | .str,s=>.str s
 | .int k,n=>.int k n
 | .list t,xs=>.fS t xs
 | .prod a b,x=>.agg (cG (.prod a b) x)
 | .cL d g t,x=>.cL d (cG.ji g (cG t x))
def CP.r : (c : CP) → {A : Type} → c.T A → A
 | .any,_,x=>x
 | .tf _,_,x=>x
 | .fG,_,x=>x
 | .cZ,_,x=>x
 | .gw,_,x=>x
 | .cg,_,x=>x
 | .hole _,_,x=>x.2
 | .bH _ _,_,x=>x.2
 | .SG _ _,_,x=>x.2.2
 | .ptr _ _,_,x=>x
 | .yl _,_,x=>x
 | .gx _,_,x=>x.2
 | .mw _,_,x=>x.2
 | .Hr _ _ l,_,x=>l.r x
 | .mp _,_,x=>x
 | .cT,_,x=>x
 | .pa _ _ _,_,x=>x
 | .fn0 _,_,x=>x
 | .LH l,_,x=>l.r x
 | .LI l,_,x=>l.r x
 | .fn _ a b,_,x=>b.r (a.r x)
 | .nil,_,x=>x
 | .cons c l,_,x=>l.r (c.r x)
def CP.vs : (c : CP) → {A : Type} → c.T A → List V
 | .any,_,_=>[.any]
 | .tf b,_,_=>[.tf b]
 | .fG,_,_=>[.fG]
 | .cZ,_,_=>[.cZ]
 | .gw,_,_=>[.gw]
 | .cg,_,_=>[.cg]
 | .hole t,_,x=>[tyV t x.1]
 | .bH b t,_,x=>[.sl b t 0 x.1]
 | .SG b t,_,x=>[.sl b t x.1 x.2.1]
 | .ptr b off,_,_=>[.ptr b off]
 | .yl b,_,_=>[.yl b]
 | .gx t,_,x=>[.gx (cG t x.1)]
 | .fn0 f,_,_=>[.fn f [] []]
 | .LH l,_,x=>[.gx (l.vs x)]
 | .LI l,_,x=>[.agg (l.vs x)]
 | .Hr t g l,_,x=>[.cL t (cG.ji g (l.vs x))]
 | .mp b,_,_=>[.mp b]
 | .cT,_,_=>[.cT]
 | .pa b t n,_,_=>[.pa b t n]
 | .mw t,_,x=>[.mw t x.1]
 | .fn f a b,_,x=>[.fn f (a.vs x) (b.vs (a.r x))]
 | .nil,_,_=>[]
 | .cons c l,_,x=>c.vs x++l.vs (c.r x)
def OV : List V → V
 |v::_=>v
 |[]=>.any
def CP.v {A:Type} (c:CP) (x:c.T A):V:=OV (c.vs x)
def mM : List CP → Type → Type
 |[],A=>A
 |c::r,A=>c.T (mM r A)
def qX {A : Type} : (cs : List CP) → mM cs A → List V
 |[],_=>[]
 |c::r,x=>c.v x::qX r (c.r x)
def sA {A : Type} : (cs : List CP) → mM cs A → A
 |[],x=>x
 |c::r,x=>sA r (c.r x)
def SP.T : SP → Type → Type
 | .c q,A=>q.T A
 | .agg cs,A=>mM cs A
 | .cS cs,A=>mM cs A
 | .fn _ a b,A=>mM a (mM b A)
 | .alt a b,A=>mM a A ⊕ mM b A
def SP.v {A : Type} : (p : SP) → p.T A → V
 | .c q,x=>q.v x
 | .agg cs,x=>.agg (qX cs x)
 | .cS cs,x=>.cS (qX cs x)
 | .fn f a b,x=>.fn f (qX a x) (qX b (sA a x))
 | .alt a b,x=>match x with
  | .inl y=>.cS (qX a y)
  | .inr y=>.cS (qX b y)
def SP.r {A : Type} : (p : SP) → p.T A → A
 | .c q,x=>q.r x
 | .agg cs,x=>sA cs x
 | .cS cs,x=>sA cs x
 | .fn _ a b,x=>sA b (sA a x)
 | .alt a b,x=>match x with
  | .inl y=>sA a y
  | .inr y=>sA b y
def Ab : List (Nat × SP) → Type → Type
 |[],A=>A
 |(_,p)::r,A=>p.T (Ab r A)
def yg {A : Type} : (ps : List (Nat × SP)) → Ab ps A → Env
 |[],_=>[]
 |(s,p)::r,x=>(s,p.v x)::yg r (p.r x)
def O4 {A : Type} : (ps : List (Nat × SP)) → Ab ps A → A
 |[],x=>x
 |(_,p)::r,x=>O4 r (p.r x)
inductive BP where
 |arr (t:Ty) (fz:Bool)
 |cells (cs:List CP) (fz:Bool)
 |loop (st:qJ) (j:Option Ex) (d:Nat) (env:List (Nat×SP)) (ps:List Nat) (as bd:C) (N:Nat)
 |iH
 |map (kt:Ty) (kg:Bool) (vt:Ty) (vg:Bool)
 |oa (t:Ty) (i:Nat) (p:List Bool) (c:CP)
def BP.T : BP → Type → Type
 | .arr t _,A=>List t.den×A
 | .cells cs _,A=>mM cs A
 | .loop _ _ _ env _ _ _ _,A=>Ab env A
 | .iH,A=>A
 | .map kt _ vt _,A=>List (kt.den×vt.den)×A
 | .oa t _ _ c,A=>List t.den×c.T A
def BP.v {A : Type} : (p : BP) → p.T A → lD
 | .arr t fz,x=>.arr t x.1 fz
 | .cells cs fz,x=>.cells (qX cs x) fz
 | .loop st j d env ps as bd N,x=>.loop st j d (yg env x) ps as bd N
 | .iH,_=>.iH
 | .map kt kg vt vg,x=>.map kt kg vt vg x.1
 | .oa t i p c,x=>.oa t x.1 i p (c.v x.2)
def BP.r {A : Type} : (p : BP) → p.T A → A
 | .arr _ _,x=>x.2
 | .cells cs _,x=>sA cs x
 | .loop _ _ _ env _ _ _ _,x=>O4 env x
 | .iH,x=>x
 | .map _ _ _ _,x=>x.2
 | .oa _ _ _ c,x=>c.r x.2
def TX : List (Nat × BP) → Type → Type
 |[],A=>A
 |(_,p)::r,A=>p.T (TX r A)
def SH {A : Type} : (ps : List (Nat × BP)) → TX ps A → aq
 |[],_=>[]
 |(s,p)::r,x=>(s,p.v x)::SH r (p.r x)
inductive Lc where
 |slot (s:Nat)
 |part (s k:Nat)
 |cell (b k:Nat)
 |old (i:Nat)
 |mark (j:Nat)
structure av where
 env:List (Nat×SP)
 bl:List (Nat×BP)
 ig:List Lc
 ms:List Nat
def av.T (p:av):Type:=Ab p.env (TX p.bl Unit)
def av.E (p:av) (x:p.T):Env:=yg p.env x
def av.B (p:av) (x:p.T):aq:=SH p.bl (O4 p.env x)
def av.st (base:Nat) (p:av) (x:p.T):St:=⟨p.E x,⟨base+p.ig.length,p.B x⟩,p.ms⟩
def vL : List Nat → Nat → Option Nat
 |[],_=>none
 |i::_,0=>some i
 |_::r,n+1=>vL r n
def me : Bool → Bool → Bool
 |true,true=>true
 |false,false=>true
 |_,_=>false
def mN : (t t' : Ty) → Bool
 | .unit,.unit=>true
 | .bool,.bool=>true
 | .str,.str=>true
 | .int k,.int k'=>decide (k=k')
 | .list t,.list t'=>mN t t'
 | .prod a b,.prod a' b'=>match mN a a' with
  |true=>mN b b'
  |false=>false
 | .cL d g a,.cL d' g' a'=>match Nat.beq d d' with
  |true=>match me g g' with
   |true=>mN a a'
   |false=>false
  |false=>false
 |_,_=>false
def Ad (π:List Nat) (b i:Nat):Bool:=match vL π b with
 |some j=>Nat.beq j i
 |none=>false
def Cn : (t : Ty) → V → Option t.den
 | .bool,.bool b=>some b
 | .bool,.tf b=>some b
 | .str,.str s=>some s
 | .int k,.int k' n=>match decide (k=k') with
  |true=>some n
  |false=>none
 | .list t,.fS t' xs=>kC t' t xs
 | .list _,.cg=>some []
 | .prod a b,.agg cs=>match bA eu [] (.prod a b) cs with
  |some (x,_,[])=>some x
  |_=>none
 | .cL d g a,v=>match bA eu [] (.cL d g a) [v] with
  |some (x,_,[])=>some x
  |_=>none
 |_,_=>none
def CP.rd1 {A:Type} (π:List Nat) (c:CP) (v:V):Option (A->c.T A) :=
 match c with
 | .any=>some fun a=>a
 | .tf b=>match v with
  | .tf b'=>match me b b' with
   |true=>some fun a=>a
   |false=>none
  |_=>none
 | .fG=>match v with
  | .fG=>some fun a=>a
  |_=>none
 | .cZ=>match v with
  | .cZ=>some fun a=>a
  |_=>none
 | .gw=>match v with
  | .gw=>some fun a=>a
  |_=>none
 | .cg=>match v with
  | .cg=>some fun a=>a
  |_=>none
 | .hole t=>match Cn t v with
  |some x=>some fun a=>(x,a)
  |none=>none
 | .bH b t=>match v with
  | .sl i t' lo n=>match Ad π b i with
   |true=>match mN t' t with
    |true=>match Nat.beq lo 0 with
     |true=>some fun a=>(n,a)
     |false=>none
    |false=>none
   |false=>none
  | .cg=>some fun a=>((0:Nat),a)
  |_=>none
 | .SG b t=>match v with
  | .sl i t' lo n=>match Ad π b i with
   |true=>match mN t' t with
    |true=>some fun a=>(lo,n,a)
    |false=>none
   |false=>none
  | .cg=>some fun a=>((0:Nat),(0:Nat),a)
  |_=>none
 | .ptr b off=>match v with
  | .ptr i o=>match Ad π b i with
   |true=>match Nat.beq o off with
    |true=>some fun a=>a
    |false=>none
   |false=>none
  |_=>none
 | .yl b=>match v with
  | .yl i=>match Ad π b i with
   |true=>some fun a=>a
   |false=>none
  |_=>none
 | .gx t=>match v with
  | .gx cs=>match bA eu [] t cs with
   |some (x,_,[])=>some fun a=>(x,a)
   |_=>none
  |_=>none
 | .mp b=>match v with
  | .mp i=>match Ad π b i with
   |true=>some fun a=>a
   |false=>none
  |_=>none
 | .cT=>match v with
  | .cT=>some fun a=>a
  |_=>none
 | .pa b t n=>match v with
  | .pa i t' n'=>match Ad π b i with
   |true=>match mN t' t with
    |true=>match Nat.beq n' n with
     |true=>some fun a=>a
     |false=>none
    |false=>none
   |false=>none
  |_=>none
 | .mw t=>match v with
  | .mw t' xs=>match kC t' t xs with
   |some ys=>some fun a=>(ys,a)
   |none=>none
  |_=>none
 | .fn0 f=>match v with
  | .fn f' [] []=>match Nat.beq f' f with
   |true=>some fun a=>a
   |false=>none
  |_=>none
 |_=>none
def CP.Gq (π : List Nat) : (c : CP) → {A : Type} → List V → Option ((A → c.T A) × List V)
 | .nil,_,vs=>some (fun a=>a,vs)
 | .cons c l,A,vs=>match c.Gq π (A:=l.T A) vs with
  |some (f,vs')=>match l.Gq π (A:=A) vs' with
   |some (g,vs'')=>some (fun a=>f (g a),vs'')
   |none=>none
  |none=>none
 | .LH l,A,vs=>match vs with
  | .gx cs::r=>match l.Gq π (A:=A) cs with
   |some (f,[])=>some (f,r)
   |_=>none
  |_=>none
 | .LI l,A,vs=>match vs with
  | .agg cs::r=>match l.Gq π (A:=A) cs with
   |some (f,[])=>some (f,r)
   |_=>none
  |_=>none
 | .Hr t g l,A,vs=>match vs with
  | .cL t' v::r=>match Nat.beq t' t with
   |true=>match BG g v with
    |some cs=>match l.Gq π (A:=A) cs with
     |some (f,[])=>some (f,r)
     |_=>none
    |none=>none
   |false=>none
  |_=>none
 | .fn f a b,A,vs=>match vs with
  | .fn f' va vb::r=>match Nat.beq f' f with
   |true=>match a.Gq π (A:=b.T A) va with
    |some (g,[])=>match b.Gq π (A:=A) vb with
     |some (h,[])=>some (fun x=>g (h x),r)
     |_=>none
    |_=>none
   |false=>none
  |_=>none
 |c,_,vs=>match vs with
  |v::r=>match c.rd1 π v with
   |some f=>some (f,r)
   |none=>none
  |[]=>none
def CP.rd {A:Type} (π:List Nat) (c:CP) (v:V):Option (A->c.T A):=match c.Gq π (A:=A) [v] with
 |some (f,[])=>some f
 |_=>none
def gj {A : Type} (π : List Nat) : (cs : List CP) → List V → Option (A → mM cs A)
 |[],[]=>some fun a=>a
 |c::r,v::vs=>match CP.rd (A:=mM r A) π c v with
  |some f=>match gj (A:=A) π r vs with
   |some g=>some fun a=>f (g a)
   |none=>none
  |none=>none
 |_,_=>none
def SP.rd {A:Type} (π:List Nat) (p:SP) (v:V):Option (A->p.T A) :=
 match p with
 | .c q=>q.rd π v
 | .agg cs=>match v with
  | .agg vs=>gj π cs vs
  |_=>none
 | .cS cs=>match v with
  | .cS vs=>gj π cs vs
  |_=>none
 | .fn f a b=>match v with
  | .fn f' va vb=>match Nat.beq f' f with
   |true=>match gj (A:=mM b A) π a va with
    |some g=>match gj (A:=A) π b vb with
     |some h=>some fun x=>g (h x)
     |none=>none
    |none=>none
   |false=>none
  |_=>none
 | .alt a b=>match v with
  | .cS vs=>match gj (A:=A) π a vs with
   |some f=>some fun x=>.inl (f x)
   |none=>match gj (A:=A) π b vs with
    |some f=>some fun x=>.inr (f x)
    |none=>none
  |_=>none
def SP.kv {R : Type} (kz : Kz R) : (p : SP) → p.T Unit → (V → R) → R
 | .alt a b,y,K=>kz.sm (A:=mM a Unit) (B:=mM b Unit) y (fun x=>K (.cS (qX a x))) (fun x=>K (.cS (qX b x)))
 | .c q,y,K=>K (SP.v (.c q) y)
 | .agg cs,y,K=>K (SP.v (.agg cs) y)
 | .cS cs,y,K=>K (SP.v (.cS cs) y)
 | .fn f a b,y,K=>K (SP.v (.fn f a b) y)
theorem SP.aeg {X : Type} : ∀ (p : SP) (y : p.T Unit) (K : V → Option X), p.kv (iK X) y K = K (p.v y)
 | .alt _ _,.inl _,_=>rfl
 | .alt _ _,.inr _,_=>rfl
 | .c _,_,_=>rfl
 | .agg _,_,_=>rfl
 | .cS _,_,_=>rfl
 | .fn _ _ _,_,_=>rfl
def AZ {A : Type} (π : List Nat) (env : Env) : (ps : List (Nat × SP)) → Option (A → Ab ps A)
 |[]=>some fun a=>a
 |(s,p)::r=>match SP.rd (A:=Ab r A) π p (get s env) with
  |some f=>match AZ (A:=A) π env r with
   |some g=>some fun a=>f (g a)
   |none=>none
  |none=>none
mutual
def TY : V → V → Bool
 | .any,.any=>true
 | .tf a,.tf b=>me a b
 | .bool a,.bool b=>me a b
 | .int k n,.int k' m=>match decide (k=k') with
  |true=>decide (n=m)
  |false=>false
 | .fG,.fG=>true
 | .cZ,.cZ=>true
 | .gw,.gw=>true
 | .cT,.cT=>true
 | .cg,.cg=>true
 | .str s,.str s'=>decide (s=s')
 | .fn f a b,.fn f' a' b'=>match Nat.beq f f' with
  |true=>match qA a a' with
   |true=>qA b b'
   |false=>false
  |false=>false
 | .agg a,.agg b=>qA a b
 |_,_=>false
def qA : List V → List V → Bool
 |[],[]=>true
 |a::r,b::s=>match TY a b with
  |true=>qA r s
  |false=>false
 |_,_=>false
end
mutual
theorem Jx : ∀ {a b : V}, TY a b = true → a = b
 |a,b,h=>by
  cases a<;>cases b<;>simp only [TY,Bool.false_eq_true] at h<;>try rfl
  case tf.tf x y=>cases x<;>cases y<;>simp_all [me]
  case bool.bool x y=>cases x<;>cases y<;>simp_all [me]
  case int.int=>split at h<;>simp_all
  case str.str=>simp_all
  case fn.fn =>
   split at h<;>try (cases h;done)
   rename_i h1
   split at h<;>try (cases h;done)
   rename_i h2
   rw [Nat.eq_of_beq_eq_true h1,mP h2,mP h]
  case agg.agg=>rw [mP h]
theorem mP : ∀ {a b : List V}, qA a b = true → a = b
 |[],[],_=>rfl
 |a::r,b::s,h=>by
  simp only [qA] at h
  split at h<;>try (cases h;done)
  rename_i h1
  rw [Jx h1,mP h]
 |[],_::_,h=>by simp [qA] at h
 |_::_,[],h=>by simp [qA] at h
end
end Go.AM
end
section
namespace Go.AM
def an (a b:Bool):Bool:=match a with
 |true=>b
 |false=>false
theorem aV {a b:Bool}:an a b=true↔a=true/\b=true:=by cases a<;>simp [an]
theorem eP {a b:Bool} (h:me a b=true):a=b:=by cases a<;>cases b<;>simp_all [me]
theorem lT:∀{t t':Ty},mN t t'=true->t=t':=by
 intro t
 induction t with
 |unit=>intro t' h;cases t'<;>simp [mN] at h ⊢
 |bool=>intro t' h;cases t'<;>simp [mN] at h ⊢
 |str=>intro t' h;cases t'<;>simp [mN] at h ⊢
 |int k=>intro t' h;cases t'<;>simp [mN] at h ⊢;exact h
 |list t ih=>intro t' h;cases t'<;>simp [mN] at h ⊢;exact ih h
 |prod a b Hq Gp =>
  intro t' h
  cases t'<;>simp only [mN,Bool.false_eq_true] at h
  split at h<;>try (cases h;done)
  rename_i h1
  rw [Hq h1,Gp h]
 |cL d g a ih =>
  intro t' h
  cases t'<;>simp only [mN,Bool.false_eq_true] at h
  split at h<;>try (cases h;done)
  rename_i h1
  split at h<;>try (cases h;done)
  rename_i h2
  rw [Nat.eq_of_beq_eq_true h1,eP h2,ih h]
def O5 (a b:IntKind):Bool:=decide (a=b)
theorem O6 {a b:IntKind} (h:O5 a b=true):a=b:=by simpa [O5] using h
def O7 (a b:zP):Bool:=decide (a=b)
theorem O8 {a b:zP} (h:O7 a b=true):a=b:=by simpa [O7] using h
def O9 : Kd → Kd → Bool
 | .b,.b=>true
 | .i,.i=>true
 | .s,.s=>true
 |_,_=>false
theorem Pa {x y:Kd} (h:O9 x y=true):x=y:=by cases x<;>cases y<;>simp_all [O9]
def kV {α : Type} (f : α → α → Bool) : List α → List α → Bool
 |[],[]=>true
 |a::r,b::s=>match f a b with
  |true=>kV f r s
  |false=>false
 |_,_=>false
theorem fM {α : Type} {f : α → α → Bool} (hf : ∀ {a b}, f a b = true → a = b) : ∀ {a b : List α}, kV f a b = true → a = b
 |[],[],_=>rfl
 |a::r,b::s,h=>by
  simp only [kV] at h
  split at h<;>try (cases h;done)
  rename_i h1
  rw [hf h1,fM hf h]
 |[],_::_,h=>by simp [kV] at h
 |_::_,[],h=>by simp [kV] at h
def XF:=kV O9
theorem Pb {a b:List Kd} (h:XF a b=true):a=b:=fM Pa h
def Pc:=kV me
theorem Ek {a b:List Bool} (h:Pc a b=true):a=b:=fM eP h
def El:=kV Nat.beq
theorem sB {a b:List Nat} (h:El a b=true):a=b:=fM Nat.eq_of_beq_eq_true h
def Pe:=kV El
theorem LJ {a b:List (List Nat)} (h:Pe a b=true):a=b:=fM sB h
def ew : O → O → Bool
 | .t n,.t m=>Nat.beq n m
 | .c v,.c u=>TY v u
 | .m n l,.m m k=>an (Nat.beq n m) (decide (l=k))
 |_,_=>false
theorem bh {a b:O} (h:ew a b=true):a=b:=by
 cases a<;>cases b<;>simp only [ew,Bool.false_eq_true] at h
 ·rw [Nat.eq_of_beq_eq_true h]
 ·rw [Jx h]
 ·rw [aV] at h;rw [Nat.eq_of_beq_eq_true h.1,of_decide_eq_true h.2]
def yh:=kV ew
theorem mQ {a b:List O} (h:yh a b=true):a=b:=fM bh h
def Em : Option O → Option O → Bool
 |none,none=>true
 |some a,some b=>ew a b
 |_,_=>false
theorem yj {a b:Option O} (h:Em a b=true):a=b:=by
 cases a<;>cases b<;>simp only [Em,Bool.false_eq_true] at h
 ·rfl
 ·rw [bh h]
def ZV : Nat × Nat × O → Nat × Nat × O → Bool
 |(a,b,x),(a',b',x')=>an (Nat.beq a a') (an (Nat.beq b b') (ew x x'))
theorem TZ {p q:Nat×Nat×O} (h:ZV p q=true):p=q:=by
 obtain ⟨a,b,c⟩:=p
 obtain ⟨a',b',c'⟩:=q
 simp only [ZV,aV] at h
 rw [Nat.eq_of_beq_eq_true h.1,Nat.eq_of_beq_eq_true h.2.1,bh h.2.2]
def XG:=kV ZV
theorem Pf {a b:List (Nat×Nat×O)} (h:XG a b=true):a=b:=fM TZ h
def gO : I → I → Bool
 | .mv x0,.mv y0=>ew x0 y0
 | .pick x0 x1 x2,.pick y0 y1 y2=>an (ew x0 y0) (an (ew x1 y1) (ew x2 y2))
 | .alloc x0,.alloc y0=>qA x0 y0
 | .box x0,.box y0=>ew x0 y0
 | .build x0 x1,.build y0 y1=>an (qA x0 y0) (XG x1 y1)
 | .eG x0 x1,.eG y0 y1=>an (mN x0 y0) (yh x1 y1)
 | .load x0 x1 x2,.load y0 y1 y2=>an (me x0 y0) (an (Nat.beq x1 y1) (ew x2 y2))
 | .store x0 x1 x2,.store y0 y1 y2=>an (Nat.beq x0 y0) (an (ew x1 y1) (ew x2 y2))
 | .bin x0 x1 x2,.bin y0 y1 y2=>an (O7 x0 y0) (an (ew x1 y1) (ew x2 y2))
 | .SZ x0 x1 x2,.SZ y0 y1 y2=>an (me x0 y0) (an (ew x1 y1) (ew x2 y2))
 | .eqs x0 x1 x2 x3,.eqs y0 y1 y2 y3=>an (me x0 y0) (an (XF x1 y1) (an (ew x2 y2) (ew x3 y3)))
 | .neg x0,.neg y0=>ew x0 y0
 | .not x0,.not y0=>ew x0 y0
 | .conv x0 x1,.conv y0 y1=>an (O5 x0 y0) (ew x1 y1)
 | .nu x0 x1 x2,.nu y0 y1 y2=>an (Nat.beq x0 y0) (an (Pc x1 y1) (ew x2 y2))
 | .field x0 x1 x2 x3,.field y0 y1 y2 y3=>an (me x0 y0) (an (Nat.beq x1 y1) (an (Nat.beq x2 y2) (ew x3 y3)))
 | .idx x0 x1 x2,.idx y0 y1 y2=>an (Nat.beq x0 y0) (an (ew x1 y1) (ew x2 y2))
 | .zQ x0 x1 x2 x3,.zQ y0 y1 y2 y3=>an (Nat.beq x0 y0) (an (Nat.beq x1 y1) (an (ew x2 y2) (ew x3 y3)))
 | .ext x0 x1,.ext y0 y1=>an (Nat.beq x0 y0) (ew x1 y1)
 | .len x0,.len y0=>ew x0 y0
 | .lens x0,.lens y0=>ew x0 y0
 | .zR x0,.zR y0=>Nat.beq x0 y0
 | .append x0 x1 x2,.append y0 y1 y2=>an (Nat.beq x0 y0) (an (ew x1 y1) (ew x2 y2))
 | .jc x0 x1,.jc y0 y1=>an (mN x0 y0) (ew x1 y1)
 | .BD x0 x1 x2,.BD y0 y1 y2=>an (Nat.beq x0 y0) (an (yh x1 y1) (yh x2 y2))
 | .slice x0 x1 x2 x3 x4,.slice y0 y1 y2 y3 y4=>an (Nat.beq x0 y0) (an (ew x1 y1) (an (Em x2 y2) (an (Em x3 y3) (Em x4 y4))))
 | .l5 x0 x1 x2,.l5 y0 y1 y2=>an (me x0 y0) (an (ew x1 y1) (yh x2 y2))
 | .ex x0 x1,.ex y0 y1=>an (decide (x0=y0)) (yh x1 y1)
 |_,_=>false
theorem T0 {a b:I} (h:gO a b=true):a=b:=by
 cases a<;>cases b<;>first|(simp only [gO,Bool.false_eq_true] at h;done)|skip
 case mv.mv=>simp only [gO,aV] at h;rw [bh h]
 case pick.pick=>simp only [gO,aV] at h;rw [bh h.1,bh h.2.1,bh h.2.2]
 case alloc.alloc=>simp only [gO,aV] at h;rw [mP h]
 case box.box=>simp only [gO,aV] at h;rw [bh h]
 case build.build=>simp only [gO,aV] at h;rw [mP h.1,Pf h.2]
 case eG.eG=>simp only [gO,aV] at h;rw [lT h.1,mQ h.2]
 case load.load=>simp only [gO,aV] at h;rw [eP h.1,Nat.eq_of_beq_eq_true h.2.1,bh h.2.2]
 case store.store=>simp only [gO,aV] at h;rw [Nat.eq_of_beq_eq_true h.1,bh h.2.1,bh h.2.2]
 case bin.bin=>simp only [gO,aV] at h;rw [O8 h.1,bh h.2.1,bh h.2.2]
 case SZ.SZ=>simp only [gO,aV] at h;rw [eP h.1,bh h.2.1,bh h.2.2]
 case eqs.eqs=>simp only [gO,aV] at h;rw [eP h.1,Pb h.2.1,bh h.2.2.1,bh h.2.2.2]
 case neg.neg=>simp only [gO,aV] at h;rw [bh h]
 case not.not=>simp only [gO,aV] at h;rw [bh h]
 case conv.conv=>simp only [gO,aV] at h;rw [O6 h.1,bh h.2]
 case nu.nu=>simp only [gO,aV] at h;rw [Nat.eq_of_beq_eq_true h.1,Ek h.2.1,bh h.2.2]
 case field.field=>simp only [gO,aV] at h;rw [eP h.1,Nat.eq_of_beq_eq_true h.2.1,Nat.eq_of_beq_eq_true h.2.2.1,bh h.2.2.2]
 case idx.idx=>simp only [gO,aV] at h;rw [Nat.eq_of_beq_eq_true h.1,bh h.2.1,bh h.2.2]
 case zQ.zQ=>simp only [gO,aV] at h;rw [Nat.eq_of_beq_eq_true h.1,Nat.eq_of_beq_eq_true h.2.1,bh h.2.2.1,bh h.2.2.2]
 case ext.ext=>simp only [gO,aV] at h;rw [Nat.eq_of_beq_eq_true h.1,bh h.2]
 case len.len=>simp only [gO,aV] at h;rw [bh h]
 case lens.lens=>simp only [gO,aV] at h;rw [bh h]
 case zR.zR=>simp only [gO,aV] at h;rw [Nat.eq_of_beq_eq_true h]
 case append.append=>simp only [gO,aV] at h;rw [Nat.eq_of_beq_eq_true h.1,bh h.2.1,bh h.2.2]
 case jc.jc=>simp only [gO,aV] at h;rw [lT h.1,bh h.2]
 case BD.BD=>simp only [gO,aV] at h;rw [Nat.eq_of_beq_eq_true h.1,mQ h.2.1,mQ h.2.2]
 case slice.slice=>simp only [gO,aV] at h;rw [Nat.eq_of_beq_eq_true h.1,bh h.2.1,yj h.2.2.1,yj h.2.2.2.1,yj h.2.2.2.2]
 case l5.l5=>simp only [gO,aV] at h;rw [eP h.1,bh h.2.1,mQ h.2.2]
 case ex.ex=>simp only [gO,aV] at h;rw [of_decide_eq_true h.1,mQ h.2]
def T1 : Option (Nat × Bool) → Option (Nat × Bool) → Bool
 |none,none=>true
 |some (s,b),some (s',b')=>an (Nat.beq s s') (me b b')
 |_,_=>false
theorem Jy {p q:Option (Nat×Bool)} (h:T1 p q=true):p=q:=by
 rcases p with _|⟨a,b⟩<;>rcases q with _|⟨a',b'⟩<;>simp only [T1,Bool.false_eq_true,aV] at h
 ·rfl
 ·rw [Nat.eq_of_beq_eq_true h.1,eP h.2]
def Pg : Option Nat → Option Nat → Bool
 |none,none=>true
 |some a,some b=>Nat.beq a b
 |_,_=>false
theorem Co {a b:Option Nat} (h:Pg a b=true):a=b:=by
 cases a<;>cases b<;>simp only [Pg,Bool.false_eq_true] at h
 ·rfl
 ·rw [Nat.eq_of_beq_eq_true h]
def Ph : Option Ty → Option Ty → Bool
 |none,none=>true
 |some a,some b=>mN a b
 |_,_=>false
theorem Pj {a b:Option Ty} (h:Ph a b=true):a=b:=by
 cases a<;>cases b<;>simp only [Ph,Bool.false_eq_true] at h
 ·rfl
 ·rw [lT h]
def ym : dw → dw → Bool
 | .op d g i,.op d' g' i'=>an (Pg d d') (an (T1 g g') (gO i i'))
 | .call d g f a t,.call d' g' f' a' t'=>an (Pg d d') (an (T1 g g') (an (ew f f') (an (yh a a') (kV Ph t t'))))
 |_,_=>false
theorem uy {a b:dw} (h:ym a b=true):a=b:=by
 cases a<;>cases b<;>simp only [ym,Bool.false_eq_true,aV] at h
 ·rw [Co h.1,Jy h.2.1,T0 h.2.2]
 ·rw [Co h.1,Jy h.2.1,bh h.2.2.1,mQ h.2.2.2.1,fM Pj h.2.2.2.2]
def jF : C → C → Bool
 | .skip,.skip=>true
 | .bf is,.bf is'=>kV ym is is'
 | .draw ps is,.draw ps' is'=>an (Pe ps ps') (kV ym is is')
 | .seq a b,.seq a' b'=>an (jF a a') (jF b b')
 | .cond c a b,.cond c' a' b'=>an (ew c c') (an (jF a a') (jF b b'))
 | .block id c,.block id' c'=>an (Nat.beq id id') (jF c c')
 | .loop c,.loop c'=>jF c c'
 | .exit id,.exit id'=>Nat.beq id id'
 | .ret,.ret=>true
 | .bM f ps a b,.bM f' ps' a' b'=>an (ew f f') (an (El ps ps') (an (jF a a') (jF b b')))
 | .ic p m i cl e kt kg vt vg d b,.ic p' m' i' cl' e' Nu Xi Nv S5 d' b'=>an (kV ym p p') (an (ew m m') (an (Nat.beq i i') (an (El cl cl') (an (Pg e e') (an (mN kt Nu) (an (me kg Xi) (an (mN vt Nv) (an (me vg S5) (an (Nat.beq d d') (jF b b'))))))))))
 |_,_=>false
theorem wo:∀{a b:C},jF a b=true->a=b:=by
 intro a
 induction a with
 |skip=>intro b h;cases b<;>simp [jF] at h ⊢
 |ret=>intro b h;cases b<;>simp [jF] at h ⊢
 |exit id=>intro b h;cases b<;>simp only [jF,Bool.false_eq_true] at h;rw [Nat.eq_of_beq_eq_true h]
 |bf is=>intro b h;cases b<;>simp only [jF,Bool.false_eq_true] at h;rw [fM uy h]
 |draw ps is=>intro b h;cases b<;>simp only [jF,Bool.false_eq_true,aV] at h;rw [LJ h.1,fM uy h.2]
 |seq a b Hq Gp=>intro b h;cases b<;>simp only [jF,Bool.false_eq_true,aV] at h;rw [Hq h.1,Gp h.2]
 |cond c a b Hq Gp=>intro b h;cases b<;>simp only [jF,Bool.false_eq_true,aV] at h;rw [bh h.1,Hq h.2.1,Gp h.2.2]
 |block id c ih=>intro b h;cases b<;>simp only [jF,Bool.false_eq_true,aV] at h;rw [Nat.eq_of_beq_eq_true h.1,ih h.2]
 |loop c ih=>intro b h;cases b<;>simp only [jF,Bool.false_eq_true] at h;rw [ih h]
 |ic p m i cl e kt kg vt vg d b ih =>
  intro b h
  cases b<;>simp only [jF,Bool.false_eq_true,aV] at h
  obtain ⟨h1,h2,h3,h4,h5,h6,h7,h8,h9,h11,h10⟩:=h
  rw [fM uy h1,bh h2,Nat.eq_of_beq_eq_true h3,sB h4,Co h5,lT h6,eP h7,lT h8,eP h9,Nat.eq_of_beq_eq_true h11,ih h10]
 |bM f ps a b Hq Gp=>intro b h;cases b<;>simp only [jF,Bool.false_eq_true,aV] at h;rw [bh h.1,sB h.2.1,Hq h.2.2.1,Gp h.2.2.2]
end Go.AM
end
