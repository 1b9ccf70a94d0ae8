/- Loops over functions, as functions of their data. Calls that are lent blocks of the caller's heap: the rest stays as it is. Contracts of functions that write blocks of their caller, or hand back new ones. Recursion. The way in and out: a law's contract over data is its row's. Plain laws on tests, needs and rounds. Twins that can be reckoned: what they come to, the functions come to. What is computed, as a tree: read as a function (classically), or reckoned. Code with its loops as functions, out of the program's own: no text of it is needed. A loop whose number of rounds is known is gone through round by round. Strings out of their bytes; what is said of them, of maps and of clearing, plainly. -/
import Derived.Test.YthemjfloiapaaaaGreatAMc
import Derived.OpenShut
import Derived.Handed
import Derived.JoinedOf
import Derived.Carry
set_option linter.unusedSectionVars false
set_option linter.unusedVariables false
set_option linter.unusedSimpArgs false
section
namespace Go.AM
section
variable {P:Program} {N:Nat} {out:Option Nat} {base:Nat} {π:List Nat}
theorem awp_ent {c:Code} {S S':St} {Q:Ex→St→Prop} (h:awp P N out base c S' Q) (he:Ent2 base π S S'):awp P N out base c S Q :=
 fun Y ι μ a w ho hb hR=>h Y ι _ a w ho hb (he.rep hb hR)
theorem awp_weak {c:Code} {S:St} {Q:Ex→St→Prop} (h:awp P N out base c S fun e S'=>∃S'' π,Ent2 base π S' S''∧Q e S''):awp P N out base c S Q :=
 fun Y ι μ a w ho hb hR=>wpIn_mono (h Y ι μ a w ho hb hR) fun e a w hp=>by
  obtain ⟨Y1,hY,ι,μ,S',e',h1,h2,S'',π,h3,h4⟩:=hp
  exact ⟨Y1,hY,ι,_,S'',e',h3.rep (hY.baseE hb) h1,h2,h4⟩
def bindPK {R : Type} : List Nat → List V → Env → (Env → R) → R
 |p::ps,v::vs,env,k=>fV v fun v=>bindPK ps vs ((p,v)::env) k
 |_,_,env,k=>k env
theorem bindPK_eq {R : Type} : ∀ (ps : List Nat) (vs : List V) (env : Env) (k : Env → R), bindPK ps vs env k = k (bindP ps vs env)
 |[],vs,env,k=>by cases vs<;>rfl
 |p::ps,[],env,k=>rfl
 |p::ps,v::vs,env,k=>by simp only [bindPK,fV_eq];rw [bindPK_eq ps vs];rfl
def rEndK {R:Type} (kz:Kz R) (rid:Nat) (K:V→Nat→Blks→R):Kc R:=fun e _ nx bl _=>match bget rid bl with
 |some (.loop .busy _ d env ps as bd N)=>bdelK rid bl fun bl=>match e with
  | .normal=>K (.tf true) nx ((rid,.loop .ready none d env ps as bd N)::bl)
  | .exit i=>K (.tf false) nx ((rid,.loop .done (some (.exit i)) d env ps as bd N)::bl)
  | .ret=>K (.tf false) nx ((rid,.loop .done (some .ret) d env ps as bd N)::bl)
 |_=>kz.no
theorem rEndK_ok {X : Type} {rid : Nat} {K : V → Nat → Blks → Option X} {r : X} {e : Ex} {env : Env} {nx : Nat} {bl : Blks} {ms : List Nat} (h : rEndK (kzO X) rid K e env nx bl ms = some r) {Q : V → Heap → Prop}
  (hQ:∀v nx bl,K v nx bl=some r→Q v ⟨nx,bl⟩):roundEnd rid Q e ⟨env,⟨nx,bl⟩,ms⟩:=by
 unfold rEndK at h
 unfold roundEnd
 simp only
 split at h<;>try (cases h;done)
 rename_i hb
 try rw [hb]
 try simp only
 rw [bdelK_eq] at h
 cases e<;>exact hQ _ _ _ h
def rdK {R:Type} (kz:Kz R) (cx:Cx) (ar:Ar) (rid base3:Nat) (ps:List Nat) (asD bdD:D P N (some rid) base3) (id:Nat) (vs:List V) (nx:Nat) (bl:Blks) (K:V→Nat→Blks→R):R :=
 match an (Nat.beq id rid) (Nat.beq nx base3) with
 |true=>match bget rid bl with
  |some (.loop .ready none _ env ps' as bd N')=>match an (Nat.beq vs.length ps'.length) (an (Nat.beq N' N) (an (beqC as asD.er) (beqC bd bdD.er))) with
   |true=>bindPK ps' vs env fun env=>kE kz cx ar asD env nx bl [] fun e env nx bl ms=>match e with
    | .normal=>match bget rid bl with
     |some (.loop .ready none d' env' ps' as' bd' N')=>bdelK rid bl fun bl=>kE kz cx ar bdD env nx ((rid,.loop .busy none d' env' ps' as' bd' N')::bl) ms (rEndK kz rid K)
     |_=>kz.no
    |_=>kz.no
   |false=>kz.no
  |_=>kz.no
 |false=>kz.no
theorem rdK_ok (mixed : P.follows .mixedOrders = true) {cx : Cx} (hcx : cx.Ok P) {rid base3 : Nat} {ps : List Nat} {asD bdD : D P N (some rid) base3} {id : Nat} {vs : List V} {nx : Nat} {bl : Blks} {X : Type}
  {K:V→Nat→Blks→Option X} {r:X} (h:rdK (kzO X) cx ar0 rid base3 ps asD bdD id vs nx bl K=some r) {Q:V→Heap→Prop} (hQ:∀v nx bl,K v nx bl=some r→Q v ⟨nx,bl⟩):around P id vs ⟨nx,bl⟩ Q:=by
 unfold rdK at h
 split at h<;>try (cases h;done)
 rename_i h1
 rw [an_iff] at h1
 have e1:=Nat.eq_of_beq_eq_true h1.1
 have e2:=Nat.eq_of_beq_eq_true h1.2
 subst e1;subst e2
 split at h<;>try (cases h;done)
 rename_i d env ps' as bd N' hb
 split at h<;>try (cases h;done)
 rename_i h2
 simp only [an_iff] at h2
 obtain ⟨c1,c2,c3,c4⟩:=h2
 have e3:=Nat.eq_of_beq_eq_true c2
 have e4:=beqC_eq c3
 have e5:=beqC_eq c4
 have e6:=Nat.eq_of_beq_eq_true c1
 subst e3;subst e4;subst e5
 refine around_of (fun N=>drawOk mixed) ?_
 unfold roundS
 simp only
 rw [hb]
 simp only
 refine ⟨e6,?_⟩
 rw [bindPK_eq] at h
 refine kE_ok hcx h fun e env nx bl ms h=>?_
 cases e with
 |exit i=>cases h
 |ret=>cases h
 |normal =>
  simp only at h ⊢
  split at h<;>try (cases h;done)
  rename_i d' env' ps2 as' bd' N2 hb2
  try rw [hb2]
  try simp only
  rw [bdelK_eq] at h
  exact kE_ok hcx h fun e env nx bl ms h=>rEndK_ok h hQ
def itCx (cx:Cx) (rd:{R:Type}→Kz R→Nat→List V→Nat→Blks→(V→Nat→Blks→R)→R):Cx where
 pc:=cx.pc
 ca:=cx.ca
 rd:=rd
theorem itCx_ok {cx : Cx} (hcx : cx.Ok P) {rd : {R : Type} → Kz R → Nat → List V → Nat → Blks → (V → Nat → Blks → R) → R}
  (h:∀{X:Type} {id:Nat} {vs:List V} {nx:Nat} {bl:Blks} {K:V→Nat→Blks→Option X} {r:X},rd (kzO X) id vs nx bl K=some r→∀{Q:V→Heap→Prop},(∀v nx bl,K v nx bl=some r→Q v ⟨nx,bl⟩)→around P id vs ⟨nx,bl⟩ Q) :
  (itCx cx rd).Ok P:=⟨fun hk=>hcx.pok hk,fun hk=>hcx.cok hk,fun hk=>h hk⟩
def itRet {R:Type} (kz:Kz R) (rs:List RV) (K:Nat→Blks→R):Kc R:=fun e env nx bl ms=>match e with
 | .exit _=>kz.no
 | .normal=>go env nx bl ms
 | .ret=>go env nx bl ms
where go (env:Env) (nx:Nat) (bl:Blks) (ms:List Nat):R:=match shutAll ms bl with
 |some bl=>match resV ar0 ⟨env,⟨nx,bl⟩,[]⟩ rs with
  |some _=>K nx bl
  |none=>kz.no
 |none=>kz.no
theorem itRet_ok {X : Type} {rs : List RV} {tys : List (Option Ty)} {K : Nat → Blks → Option X} {r : X} {e : Ex} {env : Env} {nx : Nat} {bl : Blks} {ms : List Nat} (h : itRet (kzO X) rs K e env nx bl ms = some r) {Q : V → Heap → Prop}
  (hQ:∀v nx bl,K nx bl=some r→Q v ⟨nx,bl⟩):RetH rs tys Q e ⟨env,⟨nx,bl⟩,ms⟩:=by
 have key:itRet.go (kzO X) rs K env nx bl ms=some r→RetH.RetS rs tys Q ⟨env,⟨nx,bl⟩,ms⟩:=fun hg=>by
  unfold itRet.go at hg
  unfold RetH.RetS
  split at hg<;>try (cases hg;done)
  rename_i bl' h1
  simp only
  rw [h1]
  simp only
  split at hg<;>try (cases hg;done)
  rename_i vs h2
  rw [h2]
  exact hQ _ _ _ hg
 cases e with
 |exit i=>cases h
 |normal=>exact key h
 |ret=>exact key h
def shutK {R : Type} (no : R) : List Nat → Blks → (Blks → R) → R
 |[],bl,K=>K bl
 |id::r,bl,K=>match bget id bl with
  |some .dfr=>bdelK id bl fun bl=>shutK no r bl K
  |_=>no
theorem shutK_eq {X : Type} {no : Option X} {r : X} (hno : no = none) : ∀ {sh : List Nat} {bl : Blks} {K : Blks → Option X}, shutK no sh bl K = some r → ∃ bl', shutAll sh bl = some bl' ∧ K bl' = some r
 |[],bl,K,h=>⟨bl,rfl,h⟩
 |id::sh,bl,K,h=>by
  simp only [shutK] at h
  simp only [shutAll]
  split at h
  ·rename_i hb
   rw [bdelK_eq] at h
   rw [hb]
   exact shutK_eq hno h
  ·rw [hno] at h;cases h
def aftK {R:Type} (kz:Kz R) (rid:Nat) (env:Env) (sh ms:List Nat) (K:Kc R) (nx:Nat) (bl:Blks):R:=match bget rid bl with
 |some (.loop st j _ _ _ _ _ _)=>match st with
  | .busy=>kz.no
  |_=>bdelK rid bl fun bl=>shutK kz.no sh bl fun bl=>match j with
   |none=>K .normal env nx bl ms
   |some (.exit i)=>K (.exit i) env nx bl ms
   |some .ret=>K .ret env nx bl ms
   |some .normal=>kz.no
 |_=>kz.no
theorem aftK_ok {X : Type} {rid : Nat} {S : St} {sh : List Nat} {K : Kc (Option X)} {nx : Nat} {bl : Blks} {r : X} (h : aftK (kzO X) rid S.env sh S.ms K nx bl = some r) {Q : Ex → St → Prop}
  (hQ:∀e env nx bl ms,K e env nx bl ms=some r→Q e ⟨env,⟨nx,bl⟩,ms⟩):afterLoop rid sh S Q ⟨nx,bl⟩:=by
 unfold aftK at h
 unfold afterLoop
 simp only
 split at h<;>try (cases h;done)
 rename_i st j _ _ _ _ _ _ hb
 try rw [hb]
 try simp only
 split at h
 ·cases h
 ·rename_i hst
  rw [bdelK_eq] at h
  obtain ⟨bl',hs,h⟩:=shutK_eq rfl h
  have:jumpK j ⟨S.env,⟨nx,bl'⟩,S.ms⟩ Q:=by
   split at h
   ·exact hQ _ _ _ _ _ h
   ·exact hQ _ _ _ _ _ h
   ·exact hQ _ _ _ _ _ h
   ·cases h
  rw [hs]
  cases st<;>first|exact this|exact absurd rfl hst
def rangeE {R:Type} (kz:Kz R) (cx:Cx) (ar:Ar) (pre:List Nat) (p:Pat) (xs:Outs) (f:O) (ps:List Nat) (as bd:C) (rs:List RV) (np:Nat) (fid:Nat) {Nit base2:Nat} (itD:D P Nit none base2) (inr:xs.T→R) (x:p.T):R :=
 fN (base+p.locs.length) fun nx=>p.go nx x fun env nx bl ms=>match f.ev env with
 | .fn fid' first cap=>match an (Nat.beq fid' fid) (Nat.ble (first++[V.any]++cap).length np) with
  |true=>match out with
   |none=>match ms with
    |_::_=>kz.no
    | [] => fVs (first ++ [.yl (nx + 1)] ++ cap) fun vs => kE kz cx ar itD (args 0 vs) base2 ((nx + 1, .loop .ready none nx env ps as bd N) :: (nx, .dfr) :: bl) []
     (itRet kz rs (aftK kz (nx+1) env [nx] [] fun e env nx bl ms=>xs.rd kz.no pre base e env nx bl ms inr))
   |some id0=>match bget id0 bl with
    | some (.loop _ _ d _ _ _ _ _) => fVs (first ++ [.yl nx] ++ cap) fun vs => kE kz cx ar itD (args 0 vs) base2 ((nx, .loop .ready none d env ps as bd N) :: bl) []
     (itRet kz rs (aftK kz nx env [] ms fun e env nx bl ms=>xs.rd kz.no pre base e env nx bl ms inr))
    |_=>kz.no
  |false=>kz.no
 |_=>kz.no
def deadLoop (c:C):LoopS P N out base where
 c:=c
 run kz _ _ _ _ _:=kz.no
 ok h:=by cases h
def deadRange (f:O) (ps:List Nat) (a b:C):RangeS P N out base where
 f:=f
 ps:=ps
 a:=a
 b:=b
 run kz _ _ _ _ _:=kz.no
 ok h:=by cases h
def deadMap (pre:List Itm) (m:O) (it:Nat) (cl:List Nat) (e:Option Nat) (kt:Ty) (kg:Bool) (vt:Ty) (vg:Bool) (bid:Nat) (b:C):MapS P N out base where
 pre:=pre
 m:=m
 it:=it
 cl:=cl
 e:=e
 kt:=kt
 kg:=kg
 vt:=vt
 vg:=vg
 bid:=bid
 b:=b
 run kz _ _ _ _ _:=kz.no
 ok h:=by cases h
noncomputable def mkRangeT (mixed : P.follows .mixedOrders = true) (cx : Cx) (hcx : cx.Ok P) (pre : List Nat) (hpre : pre = List.range base) (p : Pat) (xs : Outs) (f : O) (ps : List Nat) (hps : ps.all (Nat.blt · N) = true) (as bd : C)
  (fid:Nat) {func:Func} {fn:Fn} (hf:P.funcs[fid]?=some func) (htr:trF P func=some fn) (hent:Enters P fid) (base2:Nat) (hbase2:base2=base+p.locs.length+(match out with|none=>2|some _=>1))
  (itD:D P fn.N none base2) (hit:itD.er=fn.body) (RF:p.T→Option xs.T)
  (hRF:∀x,rangeE (N:=N) (out:=out) (base:=base) (kzO xs.T) cx ar0 pre p xs f ps as bd fn.res fn.np fid itD some x=RF x):RangeT P N out base f ps as bd where
 run kz env nx bl ms K:=p.rd kz.no pre base env nx bl ms fun x=>kz.bd (RF x) fun b=>xs.go kz base b K
 ok:=by
  intro X env nx bl ms K r h Q hQ
  subst hpre
  obtain ⟨x,π,h1,h2⟩:=Pat.rd_ent h
  obtain ⟨b,h3,h4⟩:=bd_some h1
  have h5:=Outs.go_st h4
  have hq:=hQ _ _ _ _ _ h5
  rw [←hRF x] at h3
  unfold rangeE at h3
  rw [fN_eq,Pat.go_eq] at h3
  intro fo pso ao bo q1 q2 q3 q4
  refine awp_ent (awp_weak ?_) h2
  refine rangeF_rule (K:=fun e S'=>∃S'' π,Ent2 base π S' S''∧Q e S'') ?_ fo pso ao bo q1 q2 q3 q4
  refine ⟨hps,?_⟩
  cases hfe:f.ev (p.E x) with
  |fn fid' first cap=>?_
  |_=>rw [hfe] at h3;cases h3
  have hfe':f.ev (p.st base x).env = .fn fid' first cap:=hfe
  rw [hfe']
  rw [hfe] at h3
  simp only at h3 ⊢
  split at h3<;>try (cases h3;done)
  rename_i hc
  rw [an_iff] at hc
  have e1:=Nat.eq_of_beq_eq_true hc.1
  have e2:=Nat.le_of_ble_eq_true hc.2
  subst e1
  have hlen:∀v:V,(first++[v]++cap).length≤fn.np:=fun v=>by simpa using e2
  have hout:∀e env nx bl ms,xs.rd none (List.range base) base e env nx bl ms some=some b→∃S'' π,Ent2 base π ⟨env,⟨nx,bl⟩,ms⟩ S''∧Q e S'':=fun e env nx bl ms hk=>by
   obtain ⟨y,π,r1,r2,r3⟩:=Outs.rd_ent hk
   cases r1
   exact ⟨_,π,r3,by rw [r2];exact hq⟩
  cases out with
  |none =>
   simp only at h3 hbase2 ⊢
   split at h3
   ·cases h3
   rename_i hms
   rw [fVs_eq] at h3
   refine ⟨hms,?_⟩
   subst hbase2
   refine acall_of hf htr hent (drawOk mixed) (hlen _) ?_
   rw [←hit]
   refine kE_ok hcx h3 fun e env nx bl ms hk=>?_
   exact itRet_ok hk fun v nx bl hk => aftK_ok (S := p.st base x) (by
    have e:(p.st base x).ms=[]:=hms
    rw [e];exact hk) hout
  |some id0 =>
   simp only at h3 hbase2 ⊢
   split at h3<;>try (cases h3;done)
   rename_i hb
   rw [fVs_eq] at h3
   have hb':bget id0 (p.st base x).H.bl=_:=hb
   simp only [Pat.st] at hb' ⊢
   rw [hb']
   simp only
   subst hbase2
   refine acall_of hf htr hent (drawOk mixed) (hlen _) ?_
   rw [←hit]
   refine kE_ok hcx h3 fun e env nx bl ms hk=>?_
   exact itRet_ok hk fun v nx bl hk=>aftK_ok (S:=p.st base x) hk hout
noncomputable def mkRange (mixed : P.follows .mixedOrders = true) (cx : Cx) (hcx : cx.Ok P) (pre : List Nat) (hpre : pre = List.range base) (p : Pat) (xs : Outs) (f : O) (ps : List Nat) (hps : ps.all (Nat.blt · N) = true) (as bd : C)
  (fid:Nat) {func:Func} {fn:Fn} (hf:P.funcs[fid]?=some func) (htr:trF P func=some fn) (hent:Enters P fid) (base2:Nat) (hbase2:base2=base+p.locs.length+(match out with|none=>2|some _=>1))
  (itD:D P fn.N none base2) (hit:itD.er=fn.body) (RF:p.T→Option xs.T)
  (hRF:∀x,rangeE (N:=N) (out:=out) (base:=base) (kzO xs.T) cx ar0 pre p xs f ps as bd fn.res fn.np fid itD some x=RF x):RangeS P N out base :=
 (mkRangeT mixed cx hcx pre hpre p xs f ps hps as bd fid hf htr hent base2 hbase2 itD hit RF hRF).s
end
end Go.AM
end
section
namespace Go.AM
theorem renV_fwd {σ : List Nat} {ι : Iota} {μ μ' : Mu} (hσ : ∀ j i L, σ[j]? = some i → μ j = some L → μ' i = some L) : ∀ {n : Nat} {v u : V} {x : Value}, renV σ n v = some u → Rel ι μ v x → Rel ι μ' u x
 |0,v,u,x,h,_=>by cases h
 |n+1,v,u,x,h,hr=>by
  have g:∀v u x,renV σ n v=some u→Rel ι μ v x→Rel ι μ' u x:=fun v u x h hr=>renV_fwd hσ h hr
  have lift:∀{cs ds:List V} {xs:Array Value},mapO (renV σ n) cs=some ds→cs.length=xs.size→(∀(i:Nat) v x,cs[i]?=some v→xs[i]?=some x→Rel ι μ v x)→RelL ι μ' ds xs.toList :=
   fun hm h1 h2=>mapO_rel g hm ⟨by simpa using h1,fun i v x hv hx=>h2 i v x hv (by simpa using hx)⟩
  cases hr<;>simp only [renV] at h
  case any=>cases h;exact .any _
  case tf=>cases h;exact .tf _
  case bool=>cases h;exact .bool _
  case int=>cases h;exact .int _ _
  case str=>cases h;exact .str _
  case nilp=>cases h;exact .nilp
  case nilfn=>cases h;exact .nilfn
  case nili=>cases h;exact .nili
  case lst t xs hd=>cases h;exact .lst t xs _ hd
  case nsl=>cases h;exact .nsl _
  case sl id t lo m cap L hL h1 h2 h3 =>
   split at h<;>try (cases h;done)
   rename_i i hi;cases h
   exact .sl i t lo m cap L (hσ _ _ _ hi hL) h1 h2 h3
  case sl0 id t lo a =>
   split at h<;>try (cases h;done)
   cases h;exact .sl0 _ _ _ _
  case ptr id off L hL =>
   split at h<;>try (cases h;done)
   rename_i i hi;cases h
   exact .ptr i off L (hσ _ _ _ hi hL)
  case ep id t j p L hL =>
   split at h<;>try (cases h;done)
   rename_i i hi;cases h
   exact .ep i t j p L (hσ _ _ _ hi hL)
  case yl id L hL =>
   split at h<;>try (cases h;done)
   rename_i i hi;cases h
   exact .yl i L (hσ _ _ _ hi hL)
  case ipc cs b o gf h1 h2 h3 =>
   split at h<;>try (cases h;done)
   rename_i ds hds;cases h
   have hR:RelL ι μ cs ((List.range cs.length).map gf):=⟨by simp,fun i v x hv hx=>by
    have hi:=(List.getElem?_eq_some_iff.1 hv).1
    simp [hi] at hx;subst hx;exact h2 i v hv⟩
   have hR':=mapO_rel g hds hR
   have hl:ds.length=cs.length:=by have:=hR'.1;simpa using this
   exact .ipc ds b o gf (fun i hi => h1 i (by omega)) (fun i v hv => hR'.2 i v (gf i) hv (by
    have hi:=(List.getElem?_eq_some_iff.1 hv).1
    simp [show i<cs.length by omega])) h3
  case ip t y b o us h1 h2=>cases h;exact .ip t y b o us h1 h2
  case fn f fs cs xs ys h1 h2 h3 h4 =>
   split at h<;>try (cases h;done)
   rename_i as ha
   split at h<;>try (cases h;done)
   rename_i bs hb;cases h
   have r1:=lift ha h1 h2
   have r2:=lift hb h3 h4
   exact .fn f as bs xs ys (by simpa using r1.1) (fun i v x hv hx=>r1.2 i v x hv (by simpa using hx)) (by simpa using r2.1) (fun i v x hv hx=>r2.2 i v x hv (by simpa using hx))
  case agg cs xs h1 h2 h3 =>
   split at h<;>try (cases h;done)
   rename_i ds hds;cases h
   have r1:=lift hds h1 h2
   exact .agg ds xs (by simpa using r1.1) (fun i v x hv hx=>r1.2 i v x hv (by simpa using hx)) h3
  case tup cs xs h1 h2 =>
   split at h<;>try (cases h;done)
   rename_i ds hds;cases h
   have r1:=lift hds h1 h2
   exact .tup ds xs (by simpa using r1.1) (fun i v x hv hx=>r1.2 i v x hv (by simpa using hx))
  case ifc t v x hv =>
   split at h<;>try (cases h;done)
   rename_i u' hu;cases h
   exact .ifc t u' x (g _ _ _ hu hv)
  case cb c b hc=>cases h;exact .cb c b hc
  case mp id L hL =>
   split at h<;>try (cases h;done)
   rename_i i hi;cases h
   exact .mp i L (hσ _ _ _ hi hL)
  case nilm=>cases h;exact .nilm
  case sp=>cases h
  case pa id t m L hL hm =>
   split at h<;>try (cases h;done)
   rename_i i hi;cases h
   exact .pa i t m L (hσ _ _ _ hi hL) hm
  case ipa t xs b o us h1 h2=>cases h;exact .ipa t xs b o us h1 h2
def renBl (σ : List Nat) : Blks → Option Blks
 |[]=>some []
 |(j,b)::r=>match pget σ j with
  |some i=>match renB σ b with
   |some b'=>match renBl σ r with
    |some r'=>some ((i,b')::r')
    |none=>none
   |none=>none
  |none=>none
theorem renBl_get {σ : List Nat} (hinj : ∀ (a b i : Nat), σ[a]? = some i → σ[b]? = some i → a = b) : ∀ {bl bl' : Blks}, renBl σ bl = some bl' → ∀ {i : Nat} {B : Blk}, bget i bl' = some B → ∃ j B0, σ[j]? = some i ∧ bget j bl = some B0 ∧ renB σ B0 = some B
 |[],bl',h,i,B,hb=>by cases h;simp [bget] at hb
 |(j,b)::r,bl',h,i,B,hb=>by
  simp only [renBl] at h
  split at h<;>try (cases h;done)
  rename_i i' hi
  split at h<;>try (cases h;done)
  rename_i b' hb'
  split at h<;>cases h
  rename_i r' hr
  rw [pget_eq] at hi
  rw [bget_cons] at hb
  split at hb
  ·rename_i e; subst e; cases hb
   exact ⟨j,b,hi,by rw [bget_cons,if_pos rfl],hb'⟩
  ·rename_i hne
   obtain ⟨j2,B0,h1,h2,h3⟩:=renBl_get hinj hr hb
   refine ⟨j2,B0,h1,?_,h3⟩
   rw [bget_cons,if_neg]
   ·exact h2
   ·intro e;subst e;rw [hi] at h1;cases h1;exact hne rfl
def bdelL : List Nat → Blks → Blks
 |[],bl=>bl
 |i::r,bl=>bdelL r (bdel i bl)
theorem bget_bdelL : ∀ {l : List Nat} {bl : Blks} {id : Nat}, bget id (bdelL l bl) = if id ∈ l then none else bget id bl
 |[],bl,id=>by simp [bdelL]
 |i::r,bl,id=>by
  simp only [bdelL]
  rw [bget_bdelL,bget_bdel]
  by_cases h1:id∈r
  ·simp [h1]
  ·by_cases h2 : id = i
   ·simp [h1,h2]
   ·simp [h1,h2]
theorem bget_append : ∀ {a b : Blks} {id : Nat}, bget id (a ++ b) = match bget id a with | some B => some B | none => bget id b
 |[],b,id=>by simp [bget]
 |(s,x)::r,b,id=>by
  rw [List.cons_append,bget_cons,bget_cons]
  split
  ·rfl
  ·exact bget_append
section
variable {P:Program}
def sig (π:List Nat) (nx n:Nat):List Nat:=π++(List.range' π.length (n - π.length)).map (nx + ·)
theorem acall_frame {f : Nat} {vs0 vs : List V} {bl0 bl : Blks} {nx : Nat} {π : List Nat} {Q0 Q : V → Heap → Prop} (h : acall P f vs0 ⟨π.length, bl0⟩ Q0)
  (hargs:EVL π vs0 vs) (hbl:∀p∈bl0,EBk π nx bl p.1 p.2) (hkind:∀p∈bl0,∀st j d env ps as bd N,p.2 ≠ .loop st j d env ps as bd N) (hnd:π.Nodup) (hlt:∀i∈π,i<nx+π.length)
  (hQ:∀r n bl',Q0 r ⟨n,bl'⟩→π.length≤n∧∃r' blr,renV (sig π nx n) 8 r=some r'∧renBl (sig π nx n) bl'=some blr∧Q r' ⟨nx+n,blr++bdelL π bl⟩):acall P f vs ⟨nx,bl⟩ Q:=by
 refine ⟨h.1,fun Y ι μ w as hI hl=>?_⟩
 let μ1:Mu:=μ.ren π
 have hμ1:∀j i,π[j]?=some i→μ1 j=μ i:=fun j i e=>by simp only [μ1,Mu.ren];rw [e];rfl
 let X:Nat→Prop:=fun b=>∃p∈bl0,∃L,μ1 p.1=some L∧L.b=b
 let Y1:Ctx:=⟨w,ι,μ1,none,X,[]⟩
 -- a lent block is one of the caller's
 have src:∀p∈bl0,∀L,μ1 p.1=some L→∃i C,π[p.1]?=some i∧μ i=some L∧bget i bl=some C:=fun p hp L hL=>by
  obtain ⟨i,e1,hb⟩:=hbl p hp
  rw [hμ1 _ _ e1] at hL
  refine ⟨i,?_⟩
  have:∃C,bget i bl=some C:=by
   cases hB:p.2 with
   |cells cs fz=>rw [hB] at hb;obtain ⟨ds,e2,_⟩:=hb;exact ⟨_,e2⟩
   |arr t xs fz =>
    rw [hB] at hb
    rcases hb with e2|⟨_,hge⟩
    ·exact ⟨_,e2⟩
    ·rw [hI.nx i hge] at hL;cases hL
   |loop st j d env ps as bd N=>exact absurd hB (hkind p hp _ _ _ _ _ _ _ _)
   |dfr=>rw [hB] at hb;exact ⟨_,hb⟩
   |map kt kg vt vg es=>rw [hB] at hb;exact ⟨_,hb⟩
   |opn t xs k p v=>rw [hB] at hb;obtain ⟨u,e2,_⟩:=hb;exact ⟨_,e2⟩
  obtain ⟨C,hC⟩:=this
  exact ⟨C,e1,hL,hC⟩
 have hXown:∀b,X b→Y.own b:=fun b ⟨p,hp,L,hL,e⟩=>by
  obtain ⟨i,C,_,h2,h3⟩:=src p hp L hL
  subst e;exact ((hI.live i C h3).loc h2).1
 have hown:∀b,Y1.own b→Y.own b:=fun b hb=>by
  rcases hb with hb|hb
  ·exact .inl (Nat.le_trans hI.below.size hb)
  ·exact hXown b hb
 have hmem:∀{id:Nat} {B:Blk},bget id bl0=some B→(id,B)∈bl0:=fun h=>bget_mem h
 have hI1:Inv P Y1 ι μ1 ⟨π.length,bl0⟩ w:=by
  refine ⟨Bel.refl _ _,Iota.le_refl _,fun _ _ _ _=>rfl,hI.rd,Mu.le_refl _,fun id hid=>?_,fun id B hB=>?_,fun id id' B B' L L' hb hb' hm hm' e=>?_,fun id B hB=>?_,hI.tab⟩
  ·have : π[id]? = none := List.getElem?_eq_none hid
   simp only [μ1,Mu.ren];rw [this];rfl
  ·obtain ⟨i, e1, hb⟩ := hbl _ (hmem hB)
   have hmu:=hμ1 id i e1
   cases B with
   |cells cs fz =>
    obtain ⟨ds,e2,hev⟩:=hb
    obtain ⟨L,vs,hM,hRL⟩:=hI.live i _ e2
    exact ⟨L,vs,⟨by rw [hmu];exact hM.mu,.inr ⟨_,hmem hB,L,by rw [hmu];exact hM.mu,rfl⟩,hM.row,hM.fits,hM.one,hM.fzT,hM.fzF⟩,RelL.ren hev.1 (fun i v u hv hu=>fun {x} hr=>(hev.2 i v u hv hu).rel hr) hRL⟩
   |arr t xs fz =>
    rcases hb with e2|⟨rfl,hge⟩
    ·rcases hI.live i _ e2 with ⟨e, hn⟩ | ⟨L, vs, hM, hc, hl⟩
     ·exact .inl ⟨e,by rw [hmu];exact hn⟩
     ·exact .inr ⟨L,vs,⟨by rw [hmu];exact hM.mu,.inr ⟨_,hmem hB,L,by rw [hmu];exact hM.mu,rfl⟩,hM.row,hM.fits,hM.one,hM.fzT,hM.fzF⟩,hc,hl⟩
    ·exact .inl ⟨rfl,by rw [hmu];exact hI.nx i hge⟩
   |opn t xs k p v =>
    obtain ⟨u,e2,hev⟩:=hb
    obtain ⟨L,us,vs,c,hM,hc,hl,q1,q2,q3,q4⟩:=hI.live i _ e2
    exact ⟨L,us,vs,c,⟨by rw [hmu];exact hM.mu,.inr ⟨_,hmem hB,L,by rw [hmu];exact hM.mu,rfl⟩,hM.row,hM.fits,hM.one,hM.fzT,hM.fzF⟩,hc,hl,q1,q2,q3,hev.rel q4⟩
   |loop st j d env ps as bd N=>exact absurd rfl (hkind _ (hmem hB) st j d env ps as bd N)
   |dfr =>
    obtain ⟨L,q1,q2,q3⟩:=hI.live i _ hb
    exact ⟨L,by rw [hmu];exact q1,.inr ⟨_,hmem hB,L,by rw [hmu];exact q1,rfl⟩,q3⟩
   |map kt kg vt vg es =>
    obtain ⟨L,ms,clock,es0,q1,q2,q3⟩:=hI.live i _ hb
    exact ⟨L,ms,clock,es0,by rw [hmu];exact q1,.inr ⟨_,hmem hB,L,by rw [hmu];exact q1,rfl⟩,q3⟩
  ·obtain ⟨i, C, e1, e2, e3⟩ := src _ (hmem hb) L hm
   obtain ⟨i',C',e1',e2',e3'⟩:=src _ (hmem hb') L' hm'
   have:=hI.inj i i' C C' L L' e3 e3' e2 e2' e
   subst this
   exact (List.getElem?_inj (List.getElem?_eq_some_iff.1 e1).1 hnd).1 (e1.trans e1'.symm)
  ·obtain ⟨i, e1, _⟩ := hbl _ (hmem hB)
   exact (List.getElem?_eq_some_iff.1 e1).1
 have hl1:RelL ι μ1 vs0 as.toList:=RelL.ren hargs.1 (fun i v u hv hu=>fun {x} hr=>(hargs.2 i v u hv hu).rel hr) hl
 refine (h.2 Y1 ι μ1 w as hI1 hl1).mono ?_
 rintro e w' ⟨v,ι',μ1',r,⟨n,bl'⟩,rfl,hi,hm1,hI2,hr,hq⟩
 obtain ⟨hn,r',blr,hr',hblr,hq'⟩:=hQ _ _ _ hq
 -- names
 have hsg:∀j i,(sig π nx n)[j]?=some i→(j<π.length∧π[j]?=some i)∨(π.length≤j∧j<n∧i=nx+j):=fun j i e=>by
  unfold sig at e
  rw [List.getElem?_append] at e
  split at e
  ·rename_i hj;exact .inl ⟨hj,e⟩
  ·rename_i hj
   simp only [List.getElem?_map] at e
   cases hh:(List.range' π.length (n - π.length))[j - π.length]? with
   |none=>rw [hh] at e;cases e
   |some z =>
    rw [hh] at e
    simp only [Option.map_some,Option.some.injEq] at e
    obtain ⟨q1,q2⟩:=List.getElem?_eq_some_iff.1 hh
    simp at q1 q2
    exact .inr ⟨by omega,by omega,by omega⟩
 have hinj:∀a b i,(sig π nx n)[a]?=some i→(sig π nx n)[b]?=some i→a=b:=fun a b i ha hb=>by
  rcases hsg _ _ ha with ⟨h1,h2⟩|⟨h1,h2,h3⟩<;>rcases hsg _ _ hb with ⟨h4,h5⟩|⟨h4,h5,h6⟩
  ·exact (List.getElem?_inj h1 hnd).1 (h2.trans h5.symm)
  ·have:=hlt i (List.mem_of_getElem? h2);omega
  ·have:=hlt i (List.mem_of_getElem? h5);omega
  ·omega
 classical
 let μ':Mu:=fun i=>match μ i with
  |some L=>some L
  |none=>if hx:∃j L,(sig π nx n)[j]?=some i∧μ1' j=some L then some hx.choose_spec.choose else none
 have hle:μ.le μ':=fun i L hL=>by simp only [μ'];rw [hL]
 have hnew:∀i,μ i=none→∀j L,(sig π nx n)[j]?=some i→μ1' j=some L→μ' i=some L:=fun i hi j L hj hL=>by
  have hx:∃j L,(sig π nx n)[j]?=some i∧μ1' j=some L:=⟨j,L,hj,hL⟩
  simp only [μ'];rw [hi];simp only;rw [dif_pos hx]
  obtain ⟨q1,q2⟩:=hx.choose_spec.choose_spec
  have key:∀j' L',μ1' j'=some L'→j'=j→some L'=some L:=fun j' L' h1 h2=>by subst h2;rw [←h1,hL]
  exact key _ _ q2 (hinj _ _ _ q1 hj)
 have hσ:∀j i L,(sig π nx n)[j]?=some i→μ1' j=some L→μ' i=some L:=fun j i L hj hL=>by
  cases hμ:μ i with
  |none=>exact hnew i hμ j L hj hL
  |some L0 =>
   rcases hsg _ _ hj with ⟨h1,h2⟩|⟨h1,h2,h3⟩
   ·have e : μ1' j = some L0 := hm1 j L0 (by rw [hμ1 j i h2]; exact hμ)
    rw [hL] at e;cases e
    exact hle i _ hμ
   ·rw [hI.nx i (by simp only;omega)] at hμ;cases hμ
 have hσ':∀j i,(sig π nx n)[j]?=some i→∀L,μ' i=some L→μ1' j=some L:=fun j i hj L hL=>by
  cases hμ:μ i with
  |some L0 =>
   rw [hle i _ hμ] at hL;cases hL
   rcases hsg _ _ hj with ⟨h1,h2⟩|⟨h1,h2,h3⟩
   ·exact hm1 j _ (by rw [hμ1 j i h2];exact hμ)
   ·rw [hI.nx i (by simp only;omega)] at hμ;cases hμ
  |none =>
   simp only [μ'] at hL;rw [hμ] at hL;simp only at hL
   split at hL
   ·rename_i hx
    cases hL
    obtain ⟨q1,q2⟩:=hx.choose_spec.choose_spec
    have key:∀j' L',μ1' j'=some L'→j'=j→μ1' j=some L':=fun j' L' h1 h2=>by subst h2;exact h1
    exact key _ _ q2 (hinj _ _ _ q1 hj)
   ·cases hL
 have hdis:∀{id:Nat} {B:Blk} {L:Loc},bget id bl=some B→id∉π→μ id=some L→L.b<w.heap.size∧¬X L.b:=fun {id B L} hB hid hL=>by
  refine ⟨((hI.live id B hB).loc hL).2,?_⟩
  rintro ⟨p,hp,L2,hL2,e⟩
  obtain ⟨i,C,e1,e2,e3⟩:=src p hp L2 hL2
  have:=hI.inj i id C B L2 L e3 hB e2 hL e
  subst this
  exact hid (List.mem_of_getElem? e1)
 have hkeep:∀{id:Nat} {B:Blk},bget id bl=some B→id∉π→μ' id=μ id:=fun {id B} hB hid=>by
  cases hμ:μ id with
  |some L=>exact hle id _ hμ
  |none =>
   simp only [μ'];rw [hμ];simp only
   rw [dif_neg]
   rintro ⟨j,L,hj,_⟩
   have hidlt:=hI.lt id B hB
   rcases hsg _ _ hj with ⟨h1,h2⟩|⟨h1,h2,h3⟩
   ·exact hid (List.mem_of_getElem? h2)
   ·simp only at hidlt;omega
 have hrest:∀{id:Nat} {B:Blk},bget id (blr++bdelL π bl)=some B→(∃j B0,(sig π nx n)[j]?=some id∧bget j bl'=some B0∧renB (sig π nx n) B0=some B)∨(bget id bl=some B∧id∉π):=fun {id B} hB=>by
  rw [bget_append] at hB
  split at hB
  ·rename_i B2 hb2;cases hB;exact .inl (renBl_get hinj hblr hb2)
  ·rw [bget_bdelL] at hB
   split at hB
   ·cases hB
   ·rename_i hk;exact .inr ⟨hB,hk⟩
 have hbel:Bel Y.x Y.w0 w':=by
  have b2:=hI2.below
  refine ⟨b2.os.trans hI.below.os,b2.tape.trans hI.below.tape,b2.output.trans hI.below.output,Nat.le_trans hI.below.size b2.size,fun k hk hx=>?_,Nat.le_trans hI.below.dr b2.dr,fun k hk=>(hI.below.maps k hk).trans (b2.maps k (Nat.lt_of_lt_of_le hk hI.below.size))⟩
  rw [b2.block k (Nat.lt_of_lt_of_le hk hI.below.size) (fun hX=>by
   rcases hXown k hX with h|h
   ·omega
   ·exact hx h)]
  exact hI.below.block k hk hx
 have hι:∀b o,b<w.heap.size→¬X b→ι' b o=ι b o:=fun b o hb hx=>hI2.iB b o hb hx
 refine ⟨v,ι',μ',r',_,rfl,hi,hle,?_,renV_fwd hσ hr' hr,hq'⟩
 refine ⟨hbel,Iota.le_trans hI.i0 hi,fun b o hb hx=>?_,hI2.rd,Mu.le_trans hI.m0 hle,fun id hid=>?_,fun id B hB=>?_,fun id id' B B' L L' hb hb' hm hm' e=>?_,fun id B hB=>?_,hI.gl⟩
 ·rw [hι b o (Nat.lt_of_lt_of_le hb hI.below.size) (fun hX=>by
   rcases hXown b hX with h|h
   ·omega
   ·exact hx h)]
  exact hI.iB b o hb hx
 ·simp only at hid
  have h0:μ id=none:=hI.nx id (by simp only;omega)
  simp only [μ'];rw [h0];simp only
  rw [dif_neg]
  rintro ⟨j,L,hj,_⟩
  rcases hsg _ _ hj with ⟨h1,h2⟩|⟨h1,h2,h3⟩
  ·have:=hlt id (List.mem_of_getElem? h2);omega
  ·omega
 ·rcases hrest hB with ⟨j, B0, e1, e2, e3⟩ | ⟨hB', hk⟩
  ·have hlive := hI2.live j B0 e2
   cases B0 with
   |cells cs fz =>
    simp only [renB] at e3
    split at e3<;>cases e3
    rename_i ds hds
    obtain ⟨L,us,hM,hRL⟩:=hlive
    exact ⟨L,us,⟨hσ _ _ _ e1 hM.mu,hown _ hM.old,hM.row,hM.fits,hM.one,hM.fzT,hM.fzF⟩,mapO_rel (fun _ _ _ h hr=>renV_fwd hσ h hr) hds hRL⟩
   |arr t xs fz =>
    cases e3
    rcases hlive with ⟨e,hn0⟩|⟨L,us,hM,hc,hl⟩
    ·refine .inl ⟨e, ?_⟩
     cases hμ':μ' id with
     |none=>rfl
     |some L=>rw [hσ' j id e1 L hμ'] at hn0;cases hn0
    ·exact .inr ⟨L,us,⟨hσ _ _ _ e1 hM.mu,hown _ hM.old,hM.row,hM.fits,hM.one,hM.fzT,hM.fzF⟩,hc,hl⟩
   |loop st jj d env ps as bd N=>cases e3
   |opn t xs k p v=>cases e3
   |dfr =>
    cases e3
    obtain ⟨L,q1,q2,q3⟩:=hlive
    exact ⟨L,hσ _ _ _ e1 q1,hown _ q2,q3⟩
   |map kt kg vt vg es =>
    cases e3
    obtain ⟨L,ms,clock,es0,q1,q2,q3,q4,q5⟩:=hlive
    exact ⟨L,ms,clock,es0,hσ _ _ _ e1 q1,hown _ q2,q3,q4,q5⟩
  ·have hlive := hI.live id B hB'
   refine hlive.mono hi hle (fun hn0=>(hkeep hB' hk).trans hn0) (fun L hL=>?_) (fun L hL ho o=>?_)
   ·obtain ⟨h1, h2⟩ := hdis hB' hk hL
    exact hI2.below.block _ h1 h2
   ·obtain ⟨h1, h2⟩ := hdis hB' hk hL
    rw [hι _ _ h1 h2];exact ho o
 ·rcases hrest hb with ⟨j, B0, e1, e2, e3⟩ | ⟨hB1, hk1⟩ <;> rcases hrest hb' with ⟨j', B0', e1', e2', e3'⟩ | ⟨hB2, hk2⟩
  ·have := hI2.inj j j' B0 B0' L L' e2 e2' (hσ' _ _ e1 _ hm) (hσ' _ _ e1' _ hm') e
   subst this;rw [e1] at e1';cases e1';rfl
  ·rw [hkeep hB2 hk2] at hm'
   obtain ⟨h1,h2⟩:=hdis hB2 hk2 hm'
   rcases ((hI2.live j B0 e2).loc (hσ' _ _ e1 _ hm)).1 with h3|h3
   ·simp only [Y1] at h3;omega
   ·rw [e] at h3;exact absurd h3 h2
  ·rw [hkeep hB1 hk1] at hm
   obtain ⟨h1,h2⟩:=hdis hB1 hk1 hm
   rcases ((hI2.live j' B0' e2').loc (hσ' _ _ e1' _ hm')).1 with h3|h3
   ·simp only [Y1] at h3;omega
   ·rw [←e] at h3;exact absurd h3 h2
  ·rw [hkeep hB1 hk1] at hm
   rw [hkeep hB2 hk2] at hm'
   exact hI.inj id id' B B' L L' hB1 hB2 hm hm' e
 ·rcases hrest hB with ⟨j, B0, e1, e2, e3⟩ | ⟨hB', hk⟩
  ·rcases hsg _ _ e1 with ⟨h1, h2⟩ | ⟨h1, h2, h3⟩
   ·have:=hlt id (List.mem_of_getElem? h2);simp only;omega
   ·simp only;omega
  ·have:=hI.lt id B hB';simp only at this ⊢;omega
end
end Go.AM
end
section
namespace Go.AM
structure Ht where
 f:Nat
 p:Pat
 q:Pat
 fn:p.T→Option q.T
def Ht.Ok (P:Program) (ht:Ht):Prop:=∀x y,ht.fn x=some y →
 acall P ht.f ((ht.p.E x).map (·.2)) ⟨ht.p.locs.length,ht.p.B x⟩ fun r H=>r=get 0 (ht.q.E y)∧H=⟨ht.p.locs.length+ht.q.locs.length,ht.q.B y⟩
section
variable {P:Program} {R:Type}
def Pat.rdP (no:R) (p:Pat) (env:Env) (nx:Nat) (bl:Blks) (k:List Nat→p.T→R):R :=
 bldPi no env nx bl [] p.locs [] 0 fun π=>match apartB π p.bl with
  |true=>match envRd (A:=blT p.bl Unit) π env p.env with
   |some f=>match blRd (A:=Unit) π nx bl p.bl with
    |some g=>k π (f (g ()))
    |none=>no
   |none=>no
  |false=>no
def nodupN : List Nat → Bool
 |[]=>true
 |i::r=>match memN i r with
  |true=>false
  |false=>nodupN r
theorem nodupN_eq : ∀ {l : List Nat}, nodupN l = true → l.Nodup
 |[],_=>.nil
 |i::r,h=>by
  simp only [nodupN] at h
  split at h
  ·cases h
  ·rename_i hm
   exact List.nodup_cons.2 ⟨(fun hi=>by rw [memN_iff.2 hi] at hm;cases hm),nodupN_eq h⟩
def boundN (n : Nat) : List Nat → Bool
 |[]=>true
 |i::r=>match Nat.blt i n with
  |true=>boundN n r
  |false=>false
theorem boundN_eq {n : Nat} : ∀ {l : List Nat}, boundN n l = true → ∀ i ∈ l, i < n
 |[],_,i,hi=>by simp at hi
 |j::r,h,i,hi=>by
  simp only [boundN] at h
  split at h
  ·rename_i hj
   rcases List.mem_cons.1 hi with rfl|hi
   ·have : i + 1 ≤ n := by simpa [Nat.blt] using hj
    omega
   ·exact boundN_eq h i hi
  ·cases h
def noLoop : List (Nat × BP) → Bool
 |[]=>true
 |(_,.loop _ _ _ _ _ _ _ _)::_=>false
 |(_,.arr _ _)::r=>noLoop r
 |(_,.cells _ _)::r=>noLoop r
 |(_,.dfr)::r=>noLoop r
 |(_,.map _ _ _ _)::r=>noLoop r
 |(_,.opn _ _ _ _)::r=>noLoop r
theorem noLoop_eq {A : Type} : ∀ {ps : List (Nat × BP)} (x : blT ps A), noLoop ps = true → ∀ p ∈ blV ps x, ∀ st j d env ps as bd N, p.2 ≠ .loop st j d env ps as bd N
 |[],x,h,p,hp=>by simp [blV] at hp
 |(s,b)::r,x,h,p,hp=>by
  simp only [blV,List.mem_cons] at hp
  intro st j d env ps as bd N
  rcases hp with rfl|hp
  ·cases b with
   |loop=>simp [noLoop] at h
   |arr=>simp [BP.v]
   |cells=>simp [BP.v]
   |dfr=>simp [BP.v]
   |map=>simp [BP.v]
   |opn=>simp [BP.v]
  ·refine noLoop_eq _ ?_ p hp st j d env ps as bd N
   cases b<;>simp [noLoop] at h<;>exact h
def htCa (kz:Kz R) (no:R) (ht:Ht) (vs:List V) (nx:Nat) (bl:Blks) (K:V→Nat→Blks→R):R :=
 match an (Nat.beq vs.length ht.p.env.length) (noLoop ht.p.bl) with
 |true=>ht.p.rdP no (args 0 vs) nx bl fun π x=>match an (nodupN π) (boundN (nx+π.length) π) with
  |true=>kz.bd (ht.fn x) fun y=>fN (π.length+ht.q.locs.length) fun n=>ht.q.go n y fun env _ bl' _=>match renV (sig π nx n) 8 (get 0 env) with
   |some r'=>match renBl (sig π nx n) bl' with
    |some blr=>fBl (blr++bdelL π bl) fun bl=>fN (nx+n) fun nx=>K r' nx bl
    |none=>kz.no
   |none=>kz.no
  |false=>no
 |false=>no
theorem args_at:∀{vs:List V} {n i:Nat},get i (args n vs)=if n≤i then vs.getD (i - n) .any else .any:=args_get
theorem envV_len {A : Type} : ∀ {ps : List (Nat × SP)} {x : envT ps A}, (envV ps x).length = ps.length
 |[],_=>rfl
 |(_,_)::r,x=>by simp [envV,envV_len (ps:=r)]
theorem EE_args {π:List Nat} {vs:List V} {env:Env} (hlen:vs.length=env.length) (hs:env.map (·.1)=List.range env.length) (h:EE π env (args 0 vs)):EVL π (env.map (·.2)) vs:=by
 refine ⟨by simp [hlen],fun i v u hv hu=>?_⟩
 rw [List.getElem?_map] at hv
 cases hp:env[i]? with
 |none=>rw [hp] at hv;cases hv
 |some p =>
  rw [hp] at hv;cases hv
  have hi:=(List.getElem?_eq_some_iff.1 hp).1
  have e1:(env.map (·.1))[i]?=(List.range env.length)[i]?:=by rw [hs]
  rw [List.getElem?_map,hp,List.getElem?_range hi] at e1
  simp only [Option.map_some,Option.some.injEq] at e1
  have:=h p (List.mem_of_getElem? hp)
  rw [args_at,e1,if_pos (Nat.zero_le _)] at this
  simp only [Nat.sub_zero] at this
  have e2:vs.getD i .any=u:=by simp [List.getD,hu]
  rwa [e2] at this
theorem envV_slots' {A : Type} : ∀ {ps : List (Nat × SP)} {x : envT ps A}, (envV ps x).map (·.1) = ps.map (·.1)
 |[],_=>rfl
 |(_,_)::r,x=>by simp [envV,envV_slots' (ps:=r)]
theorem Pat.E_len {p:Pat} {x:p.T}:(p.E x).length=p.env.length:=envV_len
theorem Pat.E_slots {p:Pat} {x:p.T}:(p.E x).map (·.1)=p.env.map (·.1):=envV_slots'
def Ht.slots (ht:Ht):Prop:=ht.p.env.map (·.1)=List.range ht.p.env.length
theorem htCa_ok {ht:Ht} (hok:ht.Ok P) (hsl:ht.slots) {X:Type} {no:Option X} {vs:List V} {nx:Nat} {bl:Blks} {K:V→Nat→Blks→Option X} {r:X} (h:htCa (kzO X) no ht vs nx bl K=some r) :
  no=some r∨∀{Q:V→Heap→Prop},(∀v nx bl,K v nx bl=some r→Q v ⟨nx,bl⟩)→acall P ht.f vs ⟨nx,bl⟩ Q:=by
 unfold htCa at h
 split at h
 ·rename_i h0
  rw [an_iff] at h0
  have hlen:=Nat.eq_of_beq_eq_true h0.1
  unfold Pat.rdP at h
  have key:∀{ls:List Lc} {π0:List Nat} {b:Nat} {k:List Nat→Option X},bldPi no (args 0 vs) nx bl [] ls π0 b k=some r→no=some r∨∃rr,rr.length=ls.length∧k (π0++rr)=some r:=by
   intro ls
   induction ls with
   |nil=>intro π0 b k hk;exact .inr ⟨[],rfl,by simpa [bldPi] using hk⟩
   |cons l ls ih =>
    intro π0 b k hk
    simp only [bldPi] at hk
    split at hk
    ·rename_i i hi
     rw [fN_eq,snoc_eq,fN_eq] at hk
     rcases ih hk with hk|⟨rr,h1,h2⟩
     ·exact .inl hk
     ·exact .inr ⟨i::rr,by simp [h1],by simpa using h2⟩
    ·exact .inl hk
  rcases key h with h|⟨π,hπ,h⟩
  ·exact .inl h
  simp only [List.nil_append] at h
  split at h
  ·rename_i hap
   split at h
   ·rename_i f hf
    split at h
    ·rename_i g hg
     split at h
     ·rename_i hnb
      rw [an_iff] at hnb
      refine .inr fun {Q} hQ=>?_
      obtain ⟨y,hy,h⟩:=bindO_some h
      rw [fN_eq,Pat.go_eq] at h
      obtain ⟨h1,h2⟩:=envRd_ev hf (g ())
      obtain ⟨h3,h4⟩:=blRd_ev hg ()
      split at h<;>try (cases h;done)
      rename_i r' hr'
      split at h<;>try (cases h;done)
      rename_i blr hblr
      rw [fBl_eq,fN_eq] at h
      have hcall:=hok _ _ hy
      rw [←hπ] at hcall
      have hB:ht.p.B (f (g ()))=blV ht.p.bl (g ()):=by unfold Pat.B;rw [h2]
      refine acall_frame (Q0:=fun r H=>r=get 0 (ht.q.E y)∧H=⟨π.length+ht.q.locs.length,ht.q.B y⟩) hcall ?_ ?_ ?_ (nodupN_eq hnb.1) (boundN_eq hnb.2) ?_
      ·exact EE_args (env:=envV ht.p.env (f (g ()))) (hlen.trans envV_len.symm) (envV_slots'.trans (hsl.trans (by rw [envV_len]))) h1
      ·rw [hB];exact h3
      ·rw [hB];exact noLoop_eq _ h0.2
      ·rintro r n bl' ⟨rfl, e⟩
       cases e
       exact ⟨by omega,r',blr,hr',hblr,hQ _ _ _ h⟩
     ·exact .inl h
    ·exact .inl h
   ·exact .inl h
  ·exact .inl h
 ·exact .inl h
def htsCa (kz : Kz R) (f : Nat) (vs : List V) (nx : Nat) (bl : Blks) (K : V → Nat → Blks → R) (no : R) : List Ht → R
 |[]=>no
 |ht::r=>match Nat.beq ht.f f with
  |true=>htCa kz (htsCa kz f vs nx bl K no r) ht vs nx bl K
  |false=>htsCa kz f vs nx bl K no r
def HtsOk (P : Program) : List Ht → Prop
 |[]=>True
 |c::r=>(c.Ok P∧c.slots)∧HtsOk P r
theorem htsCa_ok {X:Type} {no:Option X} {f:Nat} {vs:List V} {nx:Nat} {bl:Blks} {K:V→Nat→Blks→Option X} {r:X}:∀{hts:List Ht},HtsOk P hts→htsCa (kzO X) f vs nx bl K no hts=some r →
  no=some r∨∀{Q:V→Heap→Prop},(∀v nx bl,K v nx bl=some r→Q v ⟨nx,bl⟩)→acall P f vs ⟨nx,bl⟩ Q
 |[],_,h=>.inl h
 |ht::hts,hok,h=>by
  simp only [htsCa] at h
  split at h
  ·rename_i hf
   have e:=Nat.eq_of_beq_eq_true hf
   subst e
   rcases htCa_ok hok.1.1 hok.1.2 h with h|h
   ·exact htsCa_ok hok.2 h
   ·exact .inr h
  ·exact htsCa_ok hok.2 h
def mkCxH (cts:List Ct) (hts:List Ht):Cx where
 pc kz f vs K:=ctPc kz f vs K cts
 ca kz f vs nx bl K:=htsCa kz f vs nx bl K (ctCa cts kz f vs nx bl K) hts
 rd kz _ _ _ _ _:=kz.no
theorem mkCxH_ok {cts:List Ct} {hts:List Ht} (h:CtsOk P cts) (h2:HtsOk P hts):(mkCxH cts hts).Ok P where
 pok hk:=ctPc_ok h hk
 cok:=by
  intro X f vs nx bl K r hk Q hQ
  rcases htsCa_ok h2 hk with hk|hk
  ·exact (mkCx_ok h).cok hk hQ
  ·exact hk hQ
 rok hk:=by cases hk
theorem acall_ent {f:Nat} {vs:List V} {H:Heap} {Q:V→Heap→Prop} (h:acall P f vs H fun r H'=>∃r'' H'' π,Ent2 H.next π ⟨[(0,r)],H',[]⟩ ⟨[(0,r'')],H'',[]⟩∧Q r'' H''):acall P f vs H Q :=
 ⟨h.1,fun Y ι μ w as hI hl=>(h.2 Y ι μ w as hI hl).mono fun e w' ⟨v,ι',μ',r,H',h1,h2,h3,h4,h5,r'',H'',π,h6,h7⟩=>by
  let Y2:Ctx:=⟨Y.w0,Y.ι0,fun i=>if i<H.next then μ i else none,Y.ro,Y.x,[]⟩
  have hI2:Inv P Y2 ι' μ' H' w':=⟨h4.below,h4.i0,h4.iB,h4.rd,(fun i L hL=>by
   simp only [Y2] at hL
   split at hL
   ·exact h3 _ _ hL
   ·cases hL),h4.nx,h4.live,h4.inj,h4.lt,h4.gl⟩
  have hR:Rep P 1 Y2 ι' μ' ⟨[(0,r)],H',[]⟩ { tmps:=#[v],defers:=[] } w':=⟨(fun t=>by
   rw [get_cons]
   split
   ·rename_i e;subst e;exact h5
   ·exact .any _),rfl,hI2,rfl⟩
  have hR2:=h6.rep (fun i hi=>by simp only [Y2];rw [if_neg (by omega)]) hR
  have hle:μ.le (μ'.ren π):=fun i L hL=>by
   have hlt:i<H.next:=by
    rcases Nat.lt_or_ge i H.next with h|h
    ·exact h
    ·rw [hI.nx i h] at hL;cases hL
   exact hR2.inv.m0 i L (by simp only [Y2];rw [if_pos hlt];exact hL)
  refine ⟨v,ι',μ'.ren π,r'',H'',h1,h2,hle,⟨h4.below,h4.i0,h4.iB,h4.rd,Mu.le_trans hI.m0 hle,hR2.inv.nx,hR2.inv.live,hR2.inv.inj,hR2.inv.lt,hI.gl⟩,?_,h7⟩
  have:=hR2.env 0
  rw [get_cons,if_pos rfl] at this
  exact this⟩
def kRetH (kz:Kz R) (rs:List RV) (tys:List (Option Ty)) (K:V→Nat→Blks→R):Kc R:=fun e env nx bl ms=>match e with
 | .exit _=>kz.no
 | .normal=>go env nx bl ms
 | .ret=>go env nx bl ms
where go (env:Env) (nx:Nat) (bl:Blks) (ms:List Nat):R:=match shutAll ms bl with
 |some bl=>match resV ar0 ⟨env,⟨nx,bl⟩,[]⟩ rs with
  |some vs=>fV (mkRes (normL (hTs tys) vs)) fun v=>K v nx bl
  |none=>kz.no
 |none=>kz.no
theorem kRetH_ok {X : Type} {rs : List RV} {tys : List (Option Ty)} {K : V → Nat → Blks → Option X} {r : X} {e : Ex} {env : Env} {nx : Nat} {bl : Blks} {ms : List Nat} (h : kRetH (kzO X) rs tys K e env nx bl ms = some r) {Q : V → Heap → Prop}
  (hQ:∀v nx bl,K v nx bl=some r→Q v ⟨nx,bl⟩):RetH rs tys Q e ⟨env,⟨nx,bl⟩,ms⟩:=by
 have key:kRetH.go (kzO X) rs tys K env nx bl ms=some r→RetH.RetS rs tys Q ⟨env,⟨nx,bl⟩,ms⟩:=fun hg=>by
  unfold kRetH.go at hg
  unfold RetH.RetS
  split at hg<;>try (cases hg;done)
  rename_i bl' h1
  simp only
  rw [h1]
  simp only
  split at hg<;>try (cases hg;done)
  rename_i vs h2
  rw [h2]
  rw [fV_eq] at hg
  exact hQ _ _ _ hg
 cases e with
 |exit i=>cases h
 |normal=>exact key h
 |ret=>exact key h
def hfE {N k:Nat} (kz:Kz R) (cx:Cx) (ar:Ar) (pre:List Nat) (rs:List RV) (tys:List (Option Ty)) (p q:Pat) (body:D P N none k) (inr:q.T→R) (x:p.T):R :=
 p.go k x fun env nx bl _=>kE kz cx ar body env nx bl [] (kRetH kz rs tys fun r nx bl=>q.rd kz.no pre k [(0,r)] nx bl [] inr)
theorem args_eta : ∀ {env : Env} {n : Nat}, env.map (·.1) = List.range' n env.length → args n (env.map (·.2)) = env
 |[],n,_=>rfl
 |(s,v)::r,n,h=>by
  simp only [List.map_cons,List.length_cons,List.range'_succ,List.cons.injEq] at h
  simp only [List.map_cons,args]
  rw [args_eta h.2,h.1]
theorem ht_ok (mixed : P.follows .mixedOrders = true) {cx : Cx} (hcx : cx.Ok P) {func : Func} {fn : Fn} {ht : Ht} {k : Nat} (hk : ht.p.locs.length = k) (hf : P.funcs[ht.f]? = some func) (htr : trF P func = some fn) (hent : Enters P ht.f)
  (body:D P fn.N none k) (hbody:body.er=fn.body) (hnp:Nat.ble ht.p.env.length fn.np=true) (hsl:ht.slots) (hq:∃s,ht.q.env=[(0,s)]) (hqm:ht.q.ms=[]) {pre:List Nat} (hpre:pre=List.range k)
  (hfn:∀x,hfE (kzO ht.q.T) cx ar0 pre fn.res fn.tys ht.p ht.q body some x=ht.fn x):ht.Ok P:=by
 intro x y hxy
 subst hpre
 rw [←hfn x] at hxy
 unfold hfE at hxy
 rw [Pat.go_eq] at hxy
 subst hk
 refine acall_ent ?_
 refine acall_of hf htr hent (drawOk mixed) (by rw [List.length_map,Pat.E_len];exact Nat.le_of_ble_eq_true hnp) ?_
 have ha:args 0 ((ht.p.E x).map (·.2))=ht.p.E x:=args_eta (by rw [Pat.E_slots,Pat.E_len,←List.range_eq_range'];exact hsl)
 rw [ha,←hbody]
 refine kE_ok hcx hxy fun e env nx bl ms hk=>?_
 refine kRetH_ok hk fun v nx bl hk=>?_
 obtain ⟨y',π,h1,h2⟩:=Pat.rd_ent hk
 cases h1
 obtain ⟨s,hs⟩:=hq
 have he:ht.q.E y=[(0,get 0 (ht.q.E y))]:=by
  have h1:(ht.q.E y).map (·.1)=[0]:=by rw [Pat.E_slots,hs];rfl
  cases h2:ht.q.E y with
  |nil=>rw [h2] at h1;cases h1
  |cons a r =>
   obtain ⟨a1,a2⟩:=a
   rw [h2] at h1
   simp only [List.map_cons,List.cons.injEq,List.map_eq_nil_iff] at h1
   obtain ⟨rfl,rfl⟩:=h1
   rw [get_cons,if_pos rfl]
 refine ⟨_,_,π,?_,rfl,rfl⟩
 have e:Pat.st ht.p.locs.length ht.q y=⟨[(0,get 0 (ht.q.E y))],⟨ht.p.locs.length+ht.q.locs.length,ht.q.B y⟩,[]⟩:=by
  unfold Pat.st;rw [←he,hqm]
 rw [←e];exact h2
def apx {A B : Type} (F : (A → Option B) → A → Option B) : Nat → A → Option B
 |0=>fun _=>none
 |n+1=>F (apx F n)
noncomputable def fixO {A B:Type} (F:(A→Option B)→A→Option B) (x:A):Option B:=by
 classical exact if h:∃(N:Nat) (y:B),∀n,N≤n→apx F n x=some y then some h.choose_spec.choose else none
theorem fixO_some {A B:Type} {F:(A→Option B)→A→Option B} {x:A} {y:B} (h:fixO F x=some y):∃n,apx F n x=some y:=by
 unfold fixO at h
 split at h
 ·rename_i hx;cases h;exact ⟨hx.choose,hx.choose_spec.choose_spec _ (Nat.le_refl _)⟩
 ·cases h
theorem fixO_of {A B:Type} {F:(A→Option B)→A→Option B} {x:A} {y:B} {N:Nat} (h:∀n,N≤n→apx F n x=some y):fixO F x=some y:=by
 unfold fixO
 have hx:∃(N:Nat) (y:B),∀n,N≤n→apx F n x=some y:=⟨N,y,h⟩
 rw [dif_pos hx]
 have h1:=hx.choose_spec.choose_spec (max N hx.choose) (Nat.le_max_right _ _)
 rw [h _ (Nat.le_max_left _ _)] at h1
 exact h1.symm
theorem ht_fix {f:Nat} {p q:Pat} {F:(p.T→Option q.T)→p.T→Option q.T} (h:∀rec,Ht.Ok P ⟨f,p,q,rec⟩→Ht.Ok P ⟨f,p,q,F rec⟩):Ht.Ok P ⟨f,p,q,fixO F⟩:=by
 have key:∀n,Ht.Ok P ⟨f,p,q,apx F n⟩:=by
  intro n
  induction n with
  |zero=>intro x y hxy;cases hxy
  |succ n ih=>exact h _ ih
 intro x y hxy
 obtain ⟨n,hn⟩:=fixO_some hxy
 exact key n x y hn
theorem ct_fix {f:Nat} {ps:List SP} {res:SP} {F:(spsT ps Unit→Option (res.T Unit))→spsT ps Unit→Option (res.T Unit)} (h:∀rec,Ct.Ok P ⟨f,ps,res,rec⟩→Ct.Ok P ⟨f,ps,res,F rec⟩):Ct.Ok P ⟨f,ps,res,fixO F⟩:=by
 have key:∀n,Ct.Ok P ⟨f,ps,res,apx F n⟩:=by
  intro n
  induction n with
  |zero=>intro x y hxy;cases hxy
  |succ n ih=>exact h _ ih
 intro x y hxy
 obtain ⟨n,hn⟩:=fixO_some hxy
 exact key n x y hn
end
end Go.AM
end
section
namespace Go.AM
open Go.RowKit Go.ChangeShapes Go.WideShapes
def holes (tys:List Ty):List SP:=tys.map fun t=>.c (.hole t)
def WfAll : (tys : List Ty) → spsT (holes tys) Unit → Prop
 |[],_=>True
 |t::r,x=>Wf t x.1∧WfAll r x.2
section
variable {P:Program} {H:Type} {enc:TypeId×Value→H} {W:World} {base:Nat}
def topOk (P : Program) (t : TypeId) : Ty → Bool
 | .unit=>false
 | .prod _ _=>match P.underlying t with
  |some (.struct _)=>true
  |some (.array _ _)=>true
  |_=>false
 |_=>match P.underlying t with
  |some (.struct _)=>false
  |some (.array _ _)=>false
  |_=>true
theorem trod_rel {t : TypeId} {ty : Ty} (hok : tyOk P 8 t ty = true) (htop : topOk P t ty = true) {v : Value} (hv : Value.okWide P W .any base t v) {d : DataW H} {p : List MemPlace}
  (h:DataW.Trod enc P W 0 (fun _=>true) true t v d p):∃y:ty.den,Rel (allOf W) (fun _=>none) (tyV ty y) v∧Wf ty y:=by
 obtain ⟨fuel,hf⟩:=h
 obtain ⟨y,hy,wy⟩:=trod_den hok hf
 refine ⟨y,?_,wy⟩
 cases ty with
 |unit=>simp [topOk] at htop
 |bool =>
  cases hu:P.underlying t with
  |none=>simp [tyOk,hu] at hok
  |some u =>
   cases u<;>first|(exfalso;simp [topOk,hu] at htop;done)|(exfalso;simp [tyOk,hu] at hok;done)|simp [tyOk,hu] at hok
   ·obtain ⟨b, rfl⟩ := okWide_bool hu hv
    simp only [CellsD,Value.cells,List.cons.injEq,Value.bool.injEq,and_true] at hy
    subst hy;exact .bool _
 |str =>
  cases hu:P.underlying t with
  |none=>simp [tyOk,hu] at hok
  |some u =>
   cases u<;>first|(exfalso;simp [topOk,hu] at htop;done)|(exfalso;simp [tyOk,hu] at hok;done)|simp [tyOk,hu] at hok
   ·obtain ⟨b, rfl⟩ := okWide_string hu hv
    simp only [CellsD,Value.cells,List.cons.injEq,Value.string.injEq,and_true] at hy
    subst hy;exact .str _
 |int k =>
  cases hu:P.underlying t with
  |none=>simp [tyOk,hu] at hok
  |some u =>
   cases u<;>first|(exfalso;simp [topOk,hu] at htop;done)|(exfalso;simp [tyOk,hu] at hok;done)|simp [tyOk,hu] at hok
   ·subst hok
    obtain ⟨b,rfl⟩:=okWide_int hu hv
    simp only [CellsD,Value.cells,List.cons.injEq,Value.int.injEq,true_and,and_true] at hy
    subst hy;exact .int _ _
 |list te =>
  cases hu:P.underlying t with
  |none=>simp [tyOk,hu] at hok
  |some u =>
   cases u<;>first|(exfalso;simp [topOk,hu] at htop;done)|(exfalso;simp [tyOk,hu] at hok;done)|simp [tyOk,hu] at hok
   ·obtain ⟨a, len, cap, rfl⟩ := okWide_slice hu hv
    exact .lst _ _ _ hy
 |ifc d g a =>
  cases hu:P.underlying t with
  |none=>simp [tyOk,hu] at hok
  |some u =>
   cases u<;>first|(exfalso;simp [topOk,hu] at htop;done)|(exfalso;simp [tyOk,hu] at hok;done)|simp [tyOk,hu] at hok
 |prod a b =>
  cases hu:P.underlying t with
  |none=>simp [tyOk,hu] at hok
  |some u =>
   have hcs:∃cs:Array Value,v = .agg cs:=by
    cases u<;>simp [tyOk,hu] at hok
    ·simp only [Value.okWide,hu] at hv;obtain ⟨cs,h1,_⟩:=hv;exact ⟨cs,h1⟩
    ·obtain ⟨cs,h1,_⟩:=okWide_struct hu hv;exact ⟨cs,h1⟩
   obtain ⟨cs,rfl⟩:=hcs
   have hr:=toVs_rel (μ:=fun _=>none) hy
   refine .agg _ cs ?_ (fun i v x hv hx=>hr.2 i v x hv (by simpa [Value.cells] using hx)) ?_
   ·have:=hr.1;simpa [Value.cells] using this
   ·intro x hx;exact CellsD.one hy x (by simpa [Value.cells] using hx)
theorem trodAll_rel:∀{ts:List TypeId} {tys:List Ty} {vs:List Value} {ds:List (DataW H)} {p:List MemPlace},ts.length=tys.length→(∀(i:Nat) t ty,ts[i]?=some t→tys[i]?=some ty→tyOk P 8 t ty=true∧topOk P t ty=true) →
  (∀(j:Nat) t v,ts[j]?=some t→vs[j]?=some v→Value.okWide P W .any base t v)→DataW.TrodAll enc P W 0 (fun _=>true) true ts vs ds p →
  ∃x:spsT (holes tys) Unit,RelL (allOf W) (fun _=>none) (spsV (holes tys) x) vs∧WfAll tys x
 |[],[],vs,ds,p,_,_,_,h=>by
  obtain ⟨rfl,_,_⟩:=trodAll_nil h
  exact ⟨(),.nil,trivial⟩
 |t::ts,ty::tys,vs,ds,p,hl,hok,hv,h=>by
  obtain ⟨v,vs',d,ds',p1,q,rfl,rfl,rfl,h1,h2⟩:=trodAll_cons h
  obtain ⟨k1,k2⟩:=hok 0 t ty rfl rfl
  obtain ⟨y,hy,wy⟩:=trod_rel k1 k2 (hv 0 t v rfl rfl) h1
  obtain ⟨x,hx,wx⟩:=trodAll_rel (by simpa using hl) (fun i t ty ht hty=>hok (i+1) t ty (by simpa using ht) (by simpa using hty)) (fun j t v ht hv'=>hv (j+1) t v (by simpa using ht) (by simpa using hv')) h2
  exact ⟨(y,x),.cons hy hx,wy,wx⟩
 |[],_::_,_,_,_,hl,_,_,_=>by simp at hl
 |_::_,[],_,_,_,hl,_,_,_=>by simp at hl
theorem trodAll_below (hl:laidOutB P=true) {W':World} (hb:Below W.heap.size W W'):∀{ts:List TypeId} {vs:List Value} {ds:List (DataW H)} {p:List MemPlace},(∀t∈ts,P.readableRec t=true∧t<P.types.size) →
  DataW.TrodAll enc P W 0 (fun _=>true) true ts vs ds p→(∀x∈p,x.block<W.heap.size)→DataW.TrodAll enc P W' 0 (fun b=>decide (b<W.heap.size)) true ts vs ds p
 |[],vs,ds,p,_,h,_=>by
  obtain ⟨rfl,rfl,rfl⟩:=trodAll_nil h
  exact trodAll_mk0
 |t::ts,vs,ds,p,ht,h,hp=>by
  obtain ⟨v,vs',d,ds',p1,q,rfl,rfl,rfl,h1,h2⟩:=trodAll_cons h
  obtain ⟨k1,k2⟩:=ht t (List.mem_cons_self ..)
  exact trodAll_cons_mk (Below.trod hl k1 k2 h1 hb (fun x hx=>hp x (List.mem_append_left _ hx))) (trodAll_below hl hb (fun t ht'=>ht t (List.mem_cons_of_mem _ ht')) h2 (fun x hx=>hp x (List.mem_append_right _ hx)))
end
def lawTys (P : Program) : List TypeId → List Ty → Bool
 |[],[]=>true
 |t::ts,ty::tys=>tyOk P 8 t ty&&topOk P t ty&&P.readableRec t&&Nat.blt t P.types.size&&lawTys P ts tys
 |_,_=>false
theorem lawTys_all {P : Program} : ∀ {ts : List TypeId} {tys : List Ty}, lawTys P ts tys = true → ts.length = tys.length ∧ (∀ (i : Nat) t ty, ts[i]? = some t → tys[i]? = some ty → tyOk P 8 t ty = true ∧ topOk P t ty = true) ∧ ∀ t ∈ ts, P.readableRec t = true ∧ t < P.types.size
 |[],[],_=>⟨rfl,fun i t ty h=>by simp at h,fun t h=>by simp at h⟩
 |t::ts,ty::tys,h=>by
  simp only [lawTys,Bool.and_eq_true] at h
  obtain ⟨⟨⟨⟨h1,h2⟩,h3⟩,h4⟩,h5⟩:=h
  obtain ⟨k1,k2,k3⟩:=lawTys_all h5
  refine ⟨by simp [k1],fun i t' ty' ht hty=>?_,fun t' ht=>?_⟩
  ·cases i with
   |zero=>simp at ht hty;subst ht;subst hty;exact ⟨h1,h2⟩
   |succ i=>exact k2 i t' ty' (by simpa using ht) (by simpa using hty)
  ·rcases List.mem_cons.1 ht with rfl | ht
   ·exact ⟨h3,by simpa [Nat.blt,Nat.succ_le_iff] using h4⟩
   ·exact k3 t' ht
 |[],_::_,h=>by simp [lawTys] at h
 |_::_,[],h=>by simp [lawTys] at h
theorem law_contractG {P : Program} {H : Type} {enc : TypeId × Value → H} {f : FuncId} {fn : Func} {s : ChangeSpec} (tys : List Ty) (laid : laidOutB P = true) (hvars : s.vars = []) (htys : lawTys P fn.params.toList tys = true)
  {tb:TypeId} (hres:fn.resultTypes=#[tb]) (htb:P.underlying tb=some .bool)
  (hs:∀ds:List (DataW H),ds.length=tys.length→(s.fn H ds).results=[.lit (.bool true)]∧(s.fn H ds).args=ds∧(s.fn H ds).vars=[])
  {F:spsT (holes tys) Unit→Option (Bool×Unit)} (hct:Ct.Ok P ⟨f,holes tys,.c (.hole .bool),F⟩) (hF:∀x,WfAll tys x→F x=some (true,()))
  {W:World} {base:Nat} {args:Array Value} {ds gs:List (DataW H)} {before:List MemPlace} (hgl:GlobOk P (allOf W)) (hval:∀(j:Nat) t v,fn.params[j]?=some t→args[j]?=some v→Value.okWide P W .any base t v)
  (hW:DataW.Whole enc P fn.params.toList s.vars false W args.toList ds gs before) :
  Calls P f args W fun e W'=>∃v,e = .returned v∧s.post enc P fn false true false false W args v W':=by
 have hW':=hW
 obtain ⟨p,q,hA,hV,rfl,hfz,hnd⟩:=hW
 rw [hvars] at hV
 obtain ⟨rfl,rfl⟩:=trodVars_none hV
 obtain ⟨k1,k2,k3⟩:=lawTys_all htys
 obtain ⟨x,hx,wx⟩:=trodAll_rel (base:=base) k1 k2 (fun j t v ht hv=>hval j t v (by simpa using ht) (by simpa using hv)) hA
 have hlen:ds.length=tys.length:=by
  rw [←k1]
  have:∀{ts:List TypeId} {vs:List Value} {ds:List (DataW H)} {p:List MemPlace},DataW.TrodAll enc P W 0 (fun _=>true) true ts vs ds p→ds.length=ts.length:=by
   intro ts
   induction ts with
   |nil=>intro vs ds p h;obtain ⟨rfl,rfl,rfl⟩:=trodAll_nil h;rfl
   |cons t ts ih=>intro vs ds p h;obtain ⟨v,vs',d,ds',p1,q,rfl,rfl,rfl,h1,h2⟩:=trodAll_cons h;simp [ih h2]
  exact this hA
 simp only [List.append_nil] at hW'
 have hcall:=(hct x (true,()) (hF x wx)).2 (allOf W) W args hgl (fun b o x h=>h) hx
 refine (callsIn_wide.1 hcall).mono ?_
 rintro e W' ⟨v,ι',rfl,_,_,_,hbel,hr⟩
 have hv:v = .bool true:=by
  have hr':Rel ι' (fun _=>none) (.bool true) v:=hr
  cases hr';rfl
 subst hv
 have hlt:∀x∈p,x.block<W.heap.size:=fun x hx=>hW'.lt x hx
 obtain ⟨s1,s2,s3⟩:=hs (ds++[]) (by simpa using hlen)
 simp only [List.append_nil] at s1 s2 s3
 refine ⟨_,rfl,ds,[],p,[],p,[],hW',?_,?_,?_,hbel.b.frame _,fun h=>by cases h⟩
 ·simp only [List.append_nil]
  rw [s1,hres]
  exact trodAll_cons_mk (p:=[]) (p':=[]) (shut_bool htb _) trodAll_mk0
 ·simp only [List.append_nil]
  rw [s2]
  exact trodAll_below laid hbel.b k3 hA hlt
 ·simp only [List.append_nil]
  rw [s3,hvars]
  rfl
theorem law_contract {P : Program} {H : Type} {enc : TypeId × Value → H} {f : FuncId} {fn : Func} {s : ChangeSpec} (tys : List Ty) (laid : laidOutB P = true) (hvars : s.vars = []) (htys : lawTys P fn.params.toList tys = true)
  {tb:TypeId} (hres:fn.resultTypes=#[tb]) (htb:P.underlying tb=some .bool)
  (hs:∀ds:List (DataW H),ds.length=tys.length→(s.fn H ds).results=[.lit (.bool true)]∧(s.fn H ds).args=ds∧(s.fn H ds).vars=[])
  {F:spsT (holes tys) Unit→Option (Bool×Unit)} (hct:Ct.Ok P ⟨f,holes tys,.c (.hole .bool),F⟩) (hF:∀x,WfAll tys x→F x=some (true,()))
  {W:World} {base:Nat} {args:Array Value} {ds gs:List (DataW H)} {before:List MemPlace} (hno:(List.range P.globals.size).all (fun g=>(globTab P g).isNone)=true) (hval:∀(j:Nat) t v,fn.params[j]?=some t→args[j]?=some v→Value.okWide P W .any base t v)
  (hW:DataW.Whole enc P fn.params.toList s.vars false W args.toList ds gs before) :
  Calls P f args W fun e W'=>∃v,e = .returned v∧s.post enc P fn false true false false W args v W' :=
 law_contractG tys laid hvars htys hres htb hs hct hF (GlobOk.none hno _) hval hW
end Go.AM
end
section
namespace Go.AM
theorem rng_i64 {z:Int} (h1 : -9223372036854775808≤z) (h2:z≤9223372036854775807):rng .i64 z=true:=by
 have e1:IntKind.i64.min = -9223372036854775808:=by decide
 have e2:IntKind.i64.max=9223372036854775807:=by decide
 simp only [rng,e1,e2,Bool.and_eq_true,decide_eq_true_eq]
 exact ⟨h1,h2⟩
theorem inb_t {i n:Int} (h:0≤i) (h2:i<n):inb i n=true:=by simp [inb,h,h2]
theorem need_i64 {X:Type} {z:Int} {x:Option X} (h1 : -9223372036854775808≤z) (h2:z≤9223372036854775807):need (rng .i64 z) x=x:=need_t (rng_i64 h1 h2)
theorem need_inb {X:Type} {i n:Int} {x:Option X} (h:0≤i) (h2:i<n):need (inb i n) x=x:=need_t (inb_t h h2)
theorem need_d {X:Type} {p:Prop} [Decidable p] {x:Option X} (h:p):need (decide p) x=x:=need_t (decide_eq_true h)
theorem br_t {X:Type} {c:Bool} {x y:Option X} (h:c=true):brO c x y=x:=by rw [h,brO_true]
theorem br_f {X:Type} {c:Bool} {x y:Option X} (h:c=false):brO c x y=y:=by rw [h,brO_false]
theorem br_d {X:Type} {p:Prop} [Decidable p] {x y:Option X}:brO (decide p) x y=if p then x else y:=by
 by_cases h:p<;>simp [h]
theorem br_eq {X:Type} {a b:Int} {x y:Option X}:brO (a==b) x y=if a=b then x else y:=by
 by_cases h:a=b
 ·simp [h]
 ·have : (a == b) = false := by simpa using h
  rw [this,brO_false,if_neg h]
theorem br_not {X:Type} {c:Bool} {x y:Option X}:brO (!c) x y=brO c y x:=by cases c<;>simp
theorem bind_of {A X:Type} {o:Option A} {a:A} {f:A→Option X} (h:o=some a):bindO o f=f a:=by rw [h,bindO_s]
theorem iter_count {α β:Type} {step:α→Option (α ⊕ β)} (n:Nat) (g:Nat→α) {b:β} (hr:∀k,k<n→step (g k)=some (.inl (g (k+1)))) (he:step (g n)=some (.inr b)):iter step (g 0)=some b:=by
 have key:∀m k,k+m=n→iter step (g k)=some b:=by
  intro m
  induction m with
  |zero=>intro k hk;rw [show k=n by omega];exact iter_inr he
  |succ m ih=>intro k hk;exact iter_inl (hr k (by omega)) (ih (k+1) (by omega))
 exact key n 0 (by omega)
end Go.AM
end
section
namespace Go.AM
structure Le {X:Type} (a b:Option X):Prop where
 h:∀y,a=some y→b=some y
def needC {X:Type} (c:Bool) (x:Option X):Option X:=match c with
 |true=>x
 |false=>none
def bindC {A X:Type} (o:Option A) (f:A→Option X):Option X:=match o with
 |some a=>f a
 |none=>none
def brC {X:Type} (c:Bool) (x y:Option X):Option X:=match c with
 |true=>x
 |false=>y
theorem Le.r {X:Type} {a:Option X}:Le a a:=⟨fun _ h=>h⟩
theorem Le.n {X:Type} {a:Option X}:Le none a:=⟨fun _ h=>by cases h⟩
theorem Le.nd {X:Type} {c:Bool} {a b:Option X} (h:Le a b):Le (needC c a) (need c b):=by
 cases c
 ·exact Le.n
 ·simpa [needC] using h
theorem Le.br {X:Type} {c:Bool} {a b a' b':Option X} (h:Le a a') (h':Le b b'):Le (brC c a b) (brO c a' b'):=by
 cases c
 ·simpa [brC] using h'
 ·simpa [brC] using h
theorem Le.bd {A X:Type} {o o':Option A} {f f':A→Option X} (h:Le o o') (hf:∀y,Le (f y) (f' y)):Le (bindC o f) (bindO o' f'):=⟨fun y hy=>by
 cases o with
 |none=>cases hy
 |some a=>rw [h.h a rfl,bindO_s];exact (hf a).h y hy⟩
theorem Le.iter {α β:Type} {g g':α→Option (α ⊕ β)} {n:Nat} {x:α} (h:∀x,Le (g x) (g' x)):Le (iterF g n x) (AM.iter g' x):=⟨fun y hy=>by
 refine iter_of (n:=n) ?_
 induction n generalizing x with
 |zero=>cases hy
 |succ n ih =>
  simp only [iterF] at hy ⊢
  cases hg:g x with
  |none=>rw [hg] at hy;cases hy
  |some r =>
   rw [hg] at hy
   rw [(h x).h r hg]
   cases r with
   |inl z=>exact ih hy
   |inr b=>exact hy⟩
theorem Le.apx {A B:Type} {F F':(A→Option B)→A→Option B} (h:∀r r',(∀x,Le (r x) (r' x))→∀x,Le (F r x) (F' r' x)):∀n m,n≤m→∀x,Le (AM.apx F n x) (AM.apx F' m x):=by
 intro n
 induction n with
 |zero=>intro m _ x;exact Le.n
 |succ n ih =>
  intro m hm x
  cases m with
  |zero=>omega
  |succ m=>exact h _ _ (ih m (by omega)) x
theorem Le.done {X:Type} {a b:Option X} {y:X} (h:Le a b) (e:a=some y):b=some y:=h.h y e
end Go.AM
end
section
namespace Go.AM
@[reducible] def onS {A B:Type} {Y:Type _} (f:A→Y) (g:B→Y) (z:A ⊕ B):Y:=match z with
 | .inl a=>f a
 | .inr b=>g b
inductive Tr:Type→Type→Type→Type 1 where
 |ret {A0 B0 X:Type} (x:X):Tr A0 B0 X
 |no {A0 B0 X:Type}:Tr A0 B0 X
 |br {A0 B0 X:Type} (c:Bool) (a b:Tr A0 B0 X):Tr A0 B0 X
 |am {A0 B0 X:Type} (d:DecidableEq X) (a b:Tr A0 B0 X):Tr A0 B0 X
 |nd {A0 B0 X:Type} (c:Bool) (a:Tr A0 B0 X):Tr A0 B0 X
 |bd {A0 B0 A X:Type} (o:Tr A0 B0 A) (k:A→Tr A0 B0 X):Tr A0 B0 X
 |jx {A0 B0 A X:Type} (o:Tr A0 B0 (A ⊕ X)) (k:A→Tr A0 B0 X):Tr A0 B0 X
 |sm {A0 B0 A B X:Type} (z:A ⊕ B) (f:A→Tr A0 B0 X) (g:B→Tr A0 B0 X):Tr A0 B0 X
 |it {A0 B0 A B:Type} (step:A→Tr A0 B0 (A ⊕ B)) (x:A):Tr A0 B0 B
 |rc {A0 B0:Type} (x:A0):Tr A0 B0 B0
 |fx {A0 B0 A1 B1:Type} (body:A1→Tr A1 B1 B1) (x:A1):Tr A0 B0 B1
 |up {A0 B0 X:Type} (t:Tr Unit Unit X):Tr A0 B0 X
 |of {A0 B0 X:Type} (o:Option X):Tr A0 B0 X
 |mp {A0 B0 E A B:Type} (step:E→A→Tr A0 B0 (A ⊕ B)) (es:List E) (x:A):Tr A0 B0 (A ⊕ B)
 |mq {A0 B0 E A:Type} (step:E→A→Tr A0 B0 A) (es:List E) (x:A):Tr A0 B0 A
 |an {A0 B0 E X:Type} (es:List E) (k:List E→Tr A0 B0 X):Tr A0 B0 X
 |fm {A0 B0 E A:Type} (step:E→A→Tr A0 B0 A) (l:List E) (x:A):Tr A0 B0 A
abbrev Tr0 (X:Type):=Tr Unit Unit X
noncomputable def run : {A0 B0 X : Type} → (A0 → Option B0) → Tr A0 B0 X → Option X
 |_,_,_,_,.ret x=>some x
 |_,_,_,_,.no=>none
 |_,_,_,r,.br c a b=>brO c (run r a) (run r b)
 |_,_,_,r,.am _ a b=>ambO (run r a) (run r b)
 |_,_,_,r,.nd c a=>need c (run r a)
 |_,_,_,r,.bd o k=>bindO (run r o) fun a=>run r (k a)
 |_,_,_,r,.jx o k=>bindO (run r o) (onS (fun a=>run r (k a)) some)
 |_,_,_,r,.sm z f g=>match z with
  | .inl x=>run r (f x)
  | .inr y=>run r (g y)
 |_,_,_,r,.it step x=>iter (fun a=>run r (step a)) x
 |_,_,_,r,.rc x=>r x
 |_,_,_,_,.fx body x=>fixO (fun r y=>run r (body y)) x
 |_,_,_,_,.up t=>run (fun _=>none) t
 |_,_,_,_,.of o=>o
 |_,_,_,r,.mp step es x=>anyOrd (fun l=>goL (fun e a=>run r (step e a)) l x) es
 |_,_,_,r,.mq step es x=>anyOrd (fun l=>goM (fun e a=>run r (step e a)) l x) es
 |_,_,_,r,.an es k=>anyOrd (fun l=>run r (k l)) es
 |_,_,_,r,.fm step l x=>goM (fun e a=>run r (step e a)) l x
noncomputable abbrev run0 {X:Type} (t:Tr0 X):Option X:=run (fun _=>none) t
section
variable {A0 B0 A1 B1 A B X:Type} {r:A0→Option B0}
theorem run_ret {x:X}:run r (.ret x)=some x:=rfl
theorem run_br {c:Bool} {a b:Tr A0 B0 X}:run r (.br c a b)=brO c (run r a) (run r b):=rfl
theorem run_am {d:DecidableEq X} {a b:Tr A0 B0 X}:run r (.am d a b)=ambO (run r a) (run r b):=rfl
theorem run_nd {c:Bool} {a:Tr A0 B0 X}:run r (.nd c a)=need c (run r a):=rfl
theorem run_bd {o:Tr A0 B0 A} {k:A→Tr A0 B0 X}:run r (.bd o k)=bindO (run r o) fun a=>run r (k a):=rfl
theorem run_jx {o:Tr A0 B0 (A ⊕ X)} {k:A→Tr A0 B0 X}:run r (.jx o k)=bindO (run r o) (onS (fun a=>run r (k a)) some):=rfl
theorem run_sl {x:A} {f:A→Tr A0 B0 X} {g:B→Tr A0 B0 X}:run r (.sm (.inl x) f g)=run r (f x):=rfl
theorem run_sr {y:B} {f:A→Tr A0 B0 X} {g:B→Tr A0 B0 X}:run r (.sm (.inr y) f g)=run r (g y):=rfl
theorem run_it {step:A→Tr A0 B0 (A ⊕ B)} {x:A}:run r (.it step x)=iter (fun a=>run r (step a)) x:=rfl
theorem run_rc {x:A0}:run r (.rc x)=r x:=rfl
theorem run_of {o:Option X}:run r (.of o)=o:=rfl
theorem run_mp {E:Type} {step:E→A→Tr A0 B0 (A ⊕ B)} {es:List E} {x:A}:run r (.mp step es x)=anyOrd (fun l=>goL (fun e a=>run r (step e a)) l x) es:=rfl
theorem run_an {E:Type} {es:List E} {k:List E→Tr A0 B0 X}:run r (.an es k)=anyOrd (fun l=>run r (k l)) es:=rfl
theorem run_fm {E:Type} {step:E→A→Tr A0 B0 A} {l:List E} {x:A}:run r (.fm step l x)=goM (fun e a=>run r (step e a)) l x:=rfl
theorem run_mq {E:Type} {step:E→A→Tr A0 B0 A} {es:List E} {x:A}:run r (.mq step es x)=anyOrd (fun l=>goM (fun e a=>run r (step e a)) l x) es:=rfl
end
def ambC {X:Type} (d:DecidableEq X) (x y:Option X):Option X:=match x,y with
 |some a,some b=>match d a b with
  | .isTrue _=>some a
  | .isFalse _=>none
 |_,_=>none
theorem Le.am {X:Type} {d:DecidableEq X} {a b a' b':Option X} (h:Le a a') (h':Le b b'):Le (ambC d a b) (ambO a' b'):=⟨fun y hy=>by
 cases a with
 |none=>cases hy
 |some u=>cases b with
  |none=>cases hy
  |some v =>
   simp only [ambC] at hy
   split at hy
   ·rename_i e _; cases hy; subst e
    rw [h.h _ rfl,h'.h _ rfl,ambO_same]
   ·cases hy⟩
@[reducible] def Tr.ni {A0 B0 X:Type} (z:Int) (a:Tr A0 B0 X):Tr A0 B0 X:=.nd (rng .i64 z) a
@[reducible] def Tr.nb {A0 B0 X:Type} (i n:Int) (a:Tr A0 B0 X):Tr A0 B0 X:=.nd (inb i n) a
theorem run_ni {A0 B0 X:Type} {r:A0→Option B0} {z:Int} {a:Tr A0 B0 X}:run r (.ni z a)=need (rng .i64 z) (run r a):=rfl
theorem run_nb {A0 B0 X:Type} {r:A0→Option B0} {i n:Int} {a:Tr A0 B0 X}:run r (.nb i n a)=need (inb i n) (run r a):=rfl
def flatK : {A0 B0 A X : Type} → Tr A0 B0 A → (A → Tr A0 B0 X) → Tr A0 B0 X
 |_,_,_,_,.ret x,k=>k x
 |_,_,_,_,.no,_=>.no
 |_,_,_,_,.br c a b,k=>.br c (flatK a k) (flatK b k)
 |_,_,_,_,.am d a b,k=>.bd (.am d a b) k
 |_,_,_,_,.nd c a,k=>.nd c (flatK a k)
 |_,_,_,_,.bd o f,k=>.bd o fun a=>flatK (f a) k
 |_,_,_,_,.jx o f,k=>flatK o (onS (fun a=>flatK (f a) k) k)
 |_,_,_,_,.sm z f g,k=>.sm z (fun x=>flatK (f x) k) (fun y=>flatK (g y) k)
 |_,_,_,_,.it step x,k=>.bd (.it step x) k
 |_,_,_,_,.rc x,k=>.bd (.rc x) k
 |_,_,_,_,.fx b x,k=>.bd (.fx b x) k
 |_,_,_,_,.up t,k=>.bd (.up t) k
 |_,_,_,_,.of o,k=>.bd (.of o) k
 |_,_,_,_,.mp s es x,k=>.bd (.mp s es x) k
 |_,_,_,_,.mq s es x,k=>.bd (.mq s es x) k
 |_,_,_,_,.an es f,k=>.bd (.an es f) k
 |_,_,_,_,.fm s l x,k=>.bd (.fm s l x) k
def flat {A0 B0 X:Type} (t:Tr A0 B0 X):Tr A0 B0 X:=flatK t .ret
theorem bind_br {A X:Type} {c:Bool} {a b:Option A} {f:A→Option X}:bindO (brO c a b) f=brO c (bindO a f) (bindO b f):=by cases c<;>simp
theorem need_ff {X:Type} {x:Option X}:need false x=none:=by
 cases h:need false x with
 |none=>rfl
 |some y=>have:=(need_some h).1;cases this
theorem bind_nd {A X:Type} {c:Bool} {a:Option A} {f:A→Option X}:bindO (need c a) f=need c (bindO a f):=by
 cases c
 ·rw [need_ff,need_ff,bindO_n]
 ·rw [need_t rfl,need_t rfl]
theorem bind_bd {A B X:Type} {o:Option A} {f:A→Option B} {g:B→Option X}:bindO (bindO o f) g=bindO o fun a=>bindO (f a) g:=by
 cases o with
 |none=>rw [bindO_n,bindO_n,bindO_n]
 |some a=>rw [bindO_s,bindO_s]
theorem bind_some' {A:Type} {o:Option A}:bindO o (fun a=>some a)=o:=by
 cases o with
 |none=>rw [bindO_n]
 |some a=>rw [bindO_s]
theorem run_flatK : {A0 B0 A X : Type} → (r : A0 → Option B0) → (t : Tr A0 B0 A) → (k : A → Tr A0 B0 X) → run r (flatK t k) = bindO (run r t) fun a => run r (k a)
 |_,_,_,_,r,.ret x,k=>by simp only [flatK,run,bindO_s]
 |_,_,_,_,r,.no,k=>by simp only [flatK,run,bindO_n]
 |_,_,_,_,r,.br c a b,k=>by simp only [flatK,run,bind_br,run_flatK r a k,run_flatK r b k]
 |_,_,_,_,r,.am d a b,k=>by simp only [flatK,run]
 |_,_,_,_,r,.nd c a,k=>by simp only [flatK,run,bind_nd,run_flatK r a k]
 |_,_,_,_,r,.bd o f,k=>by simp only [flatK,run,bind_bd,run_flatK r (f _) k]
 |_,_,_,_,r,.jx o f,k=>by
  simp only [flatK,run,bind_bd,run_flatK r o _]
  congr 1
  funext z
  cases z with
  |inl a=>simp only [run_flatK r (f a) k]
  |inr x=>simp only [bindO_s]
 |_,_,_,_,r,.sm z f g,k=>by
  cases z with
  |inl x=>simp only [flatK,run,run_flatK r (f x) k]
  |inr y=>simp only [flatK,run,run_flatK r (g y) k]
 |_,_,_,_,r,.it step x,k=>by simp only [flatK,run]
 |_,_,_,_,r,.rc x,k=>by simp only [flatK,run]
 |_,_,_,_,r,.fx b x,k=>by simp only [flatK,run]
 |_,_,_,_,r,.up t,k=>by simp only [flatK,run]
 |_,_,_,_,r,.of o,k=>by simp only [flatK,run]
 |_,_,_,_,r,.mp s es x,k=>by simp only [flatK,run]
 |_,_,_,_,r,.mq s es x,k=>by simp only [flatK,run]
 |_,_,_,_,r,.an es f,k=>by simp only [flatK,run]
 |_,_,_,_,r,.fm s l x,k=>by simp only [flatK,run]
theorem run_flat {A0 B0 X:Type} {r:A0→Option B0} {t:Tr A0 B0 X}:run r (flat t)=run r t:=by
 unfold flat
 rw [run_flatK]
 simp only [run]
 exact bind_some'
end Go.AM
end
section
namespace Go.AM
inductive LR (P:Program) (N:Nat) (out:Option Nat) (base:Nat):Type 1 where
 |l (x:LoopS P N out base)
 |r (x:RangeS P N out base)
 |m (x:MapS P N out base)
 |x
def nl : C → Nat
 | .seq a b=>nl a+nl b
 | .cond _ a b=>nl a+nl b
 | .block _ a=>nl a
 | .loop _=>1
 | .rangeF _ _ _ _=>1
 | .mapR _ _ _ _ _ _ _ _ _ _ _=>1
 |_=>0
section
variable {P:Program} {N:Nat} {out:Option Nat} {base:Nat}
def lrAt : List (LR P N out base) → Nat → LR P N out base
 |[],_=>.x
 |y::_,0=>y
 |_::r,n+1=>lrAt r n
def dO (ls : List (LR P N out base)) : C → Nat → D P N out base
 | .skip,_=>.skip
 | .reg is,_=>.reg is
 | .draw ps is,_=>.draw ps is
 | .seq a b,i=>.seq (dO ls a i) (dO ls b (i+nl a))
 | .cond c a b,i=>.cond c (dO ls a i) (dO ls b (i+nl a))
 | .block n a,i=>.block n (dO ls a i)
 | .loop c,i=>match lrAt ls i with
  | .l l=>.loop l
  |_=>.loop (deadLoop c)
 | .exit n,_=>.exit n
 | .ret,_=>.ret
 | .rangeF f ps a b,i=>match lrAt ls i with
  | .r l=>.rangeF l
  |_=>.rangeF (deadRange f ps a b)
 | .mapR p m t cl e kt kg vt vg d b,i=>match lrAt ls i with
  | .m l=>.mapR l
  |_=>.mapR (deadMap p m t cl e kt kg vt vg d b)
end
def loopAt (b : Bool) : C → Nat → C
 | .seq x y,k=>match Nat.blt k (nl x) with
  |true=>loopAt b x k
  |false=>loopAt b y (k - nl x)
 | .cond _ x y,k=>match Nat.blt k (nl x) with
  |true=>loopAt b x k
  |false=>loopAt b y (k - nl x)
 | .block _ x,k=>loopAt b x k
 | .loop c,_=>c
 | .rangeF _ _ x y,_=>match b with
  |true=>y
  |false=>x
 | .mapR _ _ _ _ _ _ _ _ _ _ x,_=>x
 |c,_=>c
def pick : C → List (Nat × Bool) → C
 |c,[]=>c
 |c,(k,b)::r=>pick (loopAt b c k) r
def kd (P:Program) (f:Func):C:=match trF P f with
 |some t=>t.body
 |none=>.skip
@[reducible] def hI:SP:=.c (.hole (.int .i64))
@[reducible] def hL:SP:=.c (.hole (.list (.int .i64)))
@[reducible] def hLL:SP:=.c (.hole (.list (.list (.int .i64))))
@[reducible] def tI:Ty:=.int .i64
@[reducible] def tL:Ty:=.list (.int .i64)
end Go.AM
end
section
namespace Go.AM
section
variable {P:Program} {N:Nat} {out:Option Nat} {base:Nat}
end
section
variable {P:Program} {N:Nat} {out:Option Nat} {base:Nat}
theorem get_none : ∀ {env : Env} {t : Nat}, t ∉ env.map (·.1) → get t env = .any
 |[],_,_=>rfl
 |(s,v)::r,t,h=>by
  simp only [List.map_cons,List.mem_cons,not_or] at h
  rw [get_cons,if_neg (fun e=>h.1 e.symm)]
  exact get_none h.2
noncomputable def mapE {R : Type} (kz : Kz R) (cx : Cx) (prel : List Nat) (p : Pat) (xs : Outs) (mn it : Nat) (cl : List Nat) (e : Option Nat) (kt : Ty) (kg : Bool) (vt : Ty) (vg : Bool) {base2 : Nat} (body : D P N out base2) (inl : p.T → R) (inr : xs.T → R)
  (ent:kt.den×vt.den) (x:p.T):R :=
 fN (base+p.locs.length) fun nid=>p.go nid x fun env _ bl ms=>match get mn env with
  | .mp id=>match ments bl kt kg vt vg id with
   |some es=>fEnv (entE e kt kg vt vg ent ((it,.ptr nid 0)::env)) fun env=>fN (nid+1) fun nx=>kE kz cx ar0 body env nx bl ms fun ex env nx bl ms=>match ex with
    | .normal=>match get it env with
     | .ptr i o=>match an (Nat.beq i nid) (Nat.beq o 0) with
      |true=>match get mn env with
       | .mp id'=>match Nat.beq id' id with
        |true=>match ments bl kt kg vt vg id with
         |some es'=>kz.nd (sameD es' es) (p.rd kz.no prel base (forgetE (it::cl) env) nx bl ms inl)
         |none=>kz.no
        |false=>kz.no
       |_=>kz.no
      |false=>kz.no
     |_=>kz.no
    | .exit i=>xs.rd kz.no prel base (.exit i) env nx bl ms inr
    | .ret=>xs.rd kz.no prel base .ret env nx bl ms inr
   |none=>kz.no
  |_=>kz.no
def mapK {R:Type} (kz:Kz R) (cx:Cx) (prel:List Nat) (p:Pat) (pre:List Itm) (mn it:Nat) (cl:List Nat) (kt:Ty) (kg:Bool) (vt:Ty) (vg:Bool) (env:Env) (nx:Nat) (bl:Blks) (ms:List Nat) (k:List (kt.den×vt.den)→p.T→R):R :=
 kI kz cx ar0 pre env nx bl fun env nx bl=>match get mn env with
  | .mp id=>match ments bl kt kg vt vg id with
   |some es=>p.rd kz.no prel base (forgetE (it::cl) env) nx bl ms fun x=>k es x
   |none=>kz.no
  |_=>kz.no
theorem map_core (mixed : P.follows .mixedOrders = true) {cx : Cx} (hcx : cx.Ok P) {p : Pat} {xs : Outs} (hxs : xs.all (fun p => !exEq p.1 .normal) = true) {pre : List Itm} {mn it : Nat} {cl : List Nat} {e : Option Nat} {kt vt : Ty} {kg vg : Bool} {bid : Nat}
  (hcl:p.env.all (fun q => !(it::cl).contains q.1)=true) {base2:Nat} (hb2:base2=base+p.locs.length+1) {body:D P N out base2} {step:kt.den×vt.den→p.T→Option (p.T ⊕ xs.T)}
  (hstep:∀ent x,mapE (base:=base) (kzO (p.T ⊕ xs.T)) cx (List.range base) p xs mn it cl e kt kg vt vg body (fun y=>some (.inl y)) (fun b=>some (.inr b)) ent x=step ent x) {X:Type} {env:Env} {nx:Nat} {bl:Blks} {ms:List Nat} {r:X} {Q:Ex→St→Prop}
  {k:List (kt.den×vt.den)→p.T→Option X} (h:mapK (base:=base) (kzO X) cx (List.range base) p pre mn it cl kt kg vt vg env nx bl ms k=some r)
  (hk:∀es x,k es x=some r→∃res,(∀l:List (kt.den×vt.den),l.Perm es→goL step l x=some res)∧(match res with | .inl y=>Q .normal (p.st base y) | .inr b=>Q (unEx bid (xs.st base b).1) (xs.st base b).2)) :
  (std P N out base).mapR (.mapR pre (.t mn) it cl e kt kg vt vg bid body.er) ⟨env,⟨nx,bl⟩,ms⟩ Q:=by
 subst hb2
 refine map_rule (fun b=>drawOk mixed) (I:=p.st base) (X:=xs.st base) (step:=step) (nid:=base+p.locs.length) (fun x s hs=>?_) (fun x=>rfl) (fun ent x r hx=>?_) ?_
 ·refine get_none (env := p.E x) fun hm => ?_
  rw [Pat.E_slots] at hm
  obtain ⟨q,hq,rfl⟩:=List.mem_map.1 hm
  have:=List.all_eq_true.1 hcl q hq
  simp only [Bool.not_eq_true',←Bool.not_eq_true] at this
  exact this (by simpa using hs)
 ·rw [← hstep ent x] at hx
  unfold mapE at hx
  rw [fN_eq,Pat.go_eq] at hx
  split at hx<;>try (cases hx;done)
  rename_i id hid
  split at hx<;>try (cases hx;done)
  rename_i es hes
  rw [fEnv_eq,fN_eq] at hx
  refine ⟨id,es,hid,hes,kE_ok hcx hx fun ex env nx bl ms hk=>?_⟩
  cases ex with
  |normal =>
   simp only at hk
   split at hk<;>try (cases hk;done)
   rename_i i o hit
   split at hk<;>try (cases hk;done)
   rename_i hio
   rw [an_iff] at hio
   have e1:=Nat.eq_of_beq_eq_true hio.1
   have e2:=Nat.eq_of_beq_eq_true hio.2
   subst e1;subst e2
   split at hk<;>try (cases hk;done)
   rename_i id' hid'
   split at hk<;>try (cases hk;done)
   rename_i hbe
   have e3:=Nat.eq_of_beq_eq_true hbe
   subst e3
   split at hk<;>try (cases hk;done)
   rename_i es' hes'
   have hk2:=(need_some hk).2
   have e4:=sameD_eq (need_some hk).1
   clear hk
   subst e4
   obtain ⟨y,π,h1,h2⟩:=Pat.rd_ent hk2
   cases h1
   exact ⟨rfl,hit,hid',hes',π,h2⟩
  |exit i =>
   obtain ⟨y,π,q1,q2,q3⟩:=Outs.rd_ent hk
   cases q1
   exact ⟨by simp,q2,π,q3⟩
  |ret =>
   obtain ⟨y,π,q1,q2,q3⟩:=Outs.rd_ent hk
   cases q1
   exact ⟨by simp,q2,π,q3⟩
 ·unfold mapK at h
  refine kI_ok hcx h fun env nx bl h=>?_
  split at h<;>try (cases h;done)
  rename_i id hid
  split at h<;>try (cases h;done)
  rename_i es hes
  obtain ⟨x,π,h1,h2⟩:=Pat.rd_ent h
  obtain ⟨res,h3,h4⟩:=hk es x h1
  exact ⟨id,es,x,π,hid,hes,h2,fun l hl=>⟨res,h3 l hl,by cases res<;>exact h4⟩⟩
def noB {R:Type}:Empty→R:=fun b=>nomatch b
theorem goM_L {E α : Type} {step : E → α → Option α} : ∀ {l : List E} {x y : α}, goM step l x = some y → goL (fun e x => (step e x).map (Sum.inl (β := Empty))) l x = some (.inl y)
 |[],x,y,h=>by cases h;rfl
 |e::r,x,y,h=>by
  simp only [goM] at h
  split at h<;>try (cases h;done)
  rename_i z hz
  simp only [goL,hz,Option.map_some]
  exact goM_L h
theorem map_core0 (mixed : P.follows .mixedOrders = true) {cx : Cx} (hcx : cx.Ok P) {p : Pat} {pre : List Itm} {mn it : Nat} {cl : List Nat} {e : Option Nat} {kt vt : Ty} {kg vg : Bool} {bid : Nat}
  (hcl:p.env.all (fun q => !(it::cl).contains q.1)=true) {base2:Nat} (hb2:base2=base+p.locs.length+1) {body:D P N out base2} {step:kt.den×vt.den→p.T→Option p.T}
  (hstep:∀ent x,mapE (base:=base) (kzO p.T) cx (List.range base) p [] mn it cl e kt kg vt vg body (fun y=>some y) noB ent x=step ent x) {X:Type} {env:Env} {nx:Nat} {bl:Blks} {ms:List Nat} {r:X} {Q:Ex→St→Prop}
  {k:List (kt.den×vt.den)→p.T→Option X} (h:mapK (base:=base) (kzO X) cx (List.range base) p pre mn it cl kt kg vt vg env nx bl ms k=some r)
  (hk:∀es x,k es x=some r→∀l:List (kt.den×vt.den),l.Perm es→∃y,goM step l x=some y∧Q .normal (p.st base y)) :
  (std P N out base).mapR (.mapR pre (.t mn) it cl e kt kg vt vg bid body.er) ⟨env,⟨nx,bl⟩,ms⟩ Q:=by
 subst hb2
 refine map_rule (fun b=>drawOk mixed) (I:=p.st base) (X:=fun b:Empty=>nomatch b) (step:=fun e x=>(step e x).map (Sum.inl (β:=Empty))) (nid:=base+p.locs.length) (fun x s hs=>?_) (fun x=>rfl) (fun ent x r hx=>?_) ?_
 ·refine get_none (env := p.E x) fun hm => ?_
  rw [Pat.E_slots] at hm
  obtain ⟨q,hq,rfl⟩:=List.mem_map.1 hm
  have:=List.all_eq_true.1 hcl q hq
  simp only [Bool.not_eq_true',←Bool.not_eq_true] at this
  exact this (by simpa using hs)
 ·obtain ⟨y0, hx0, rfl⟩ := Option.map_eq_some_iff.1 hx
  clear hx
  rename _=>hx
  rw [←hstep ent x] at hx
  unfold mapE at hx
  rw [fN_eq,Pat.go_eq] at hx
  split at hx<;>try (cases hx;done)
  rename_i id hid
  split at hx<;>try (cases hx;done)
  rename_i es hes
  rw [fEnv_eq,fN_eq] at hx
  refine ⟨id,es,hid,hes,kE_ok hcx hx fun ex env nx bl ms hk=>?_⟩
  cases ex with
  |normal =>
   simp only at hk
   split at hk<;>try (cases hk;done)
   rename_i i o hit
   split at hk<;>try (cases hk;done)
   rename_i hio
   rw [an_iff] at hio
   have e1:=Nat.eq_of_beq_eq_true hio.1
   have e2:=Nat.eq_of_beq_eq_true hio.2
   subst e1;subst e2
   split at hk<;>try (cases hk;done)
   rename_i id' hid'
   split at hk<;>try (cases hk;done)
   rename_i hbe
   have e3:=Nat.eq_of_beq_eq_true hbe
   subst e3
   split at hk<;>try (cases hk;done)
   rename_i es' hes'
   have hk2:=(need_some hk).2
   have e4:=sameD_eq (need_some hk).1
   clear hk
   subst e4
   obtain ⟨y,π,h1,h2⟩:=Pat.rd_ent hk2
   cases h1
   exact ⟨rfl,hit,hid',hes',π,h2⟩
  |exit i=>cases hk
  |ret=>cases hk
 ·unfold mapK at h
  refine kI_ok hcx h fun env nx bl h=>?_
  split at h<;>try (cases h;done)
  rename_i id hid
  split at h<;>try (cases h;done)
  rename_i es hes
  obtain ⟨x,π,h1,h2⟩:=Pat.rd_ent h
  exact ⟨id,es,x,π,hid,hes,h2,fun l hl=>by
   obtain ⟨y,h3,h4⟩:=hk es x h1 l hl
   exact ⟨.inl y,goM_L h3,h4⟩⟩
noncomputable def mkMapR (mixed : P.follows .mixedOrders = true) (cx : Cx) (hcx : cx.Ok P) (prel : List Nat) (hprel : prel = List.range base) (p : Pat) (xs : Outs) (hxs : xs.all (fun p => !exEq p.1 .normal) = true) (pre : List Itm) (mn it : Nat) (cl : List Nat)
  (e:Option Nat) (kt:Ty) (kg:Bool) (vt:Ty) (vg:Bool) (bid:Nat) (hcl:p.env.all (fun q => !(it::cl).contains q.1)=true) (base2:Nat) (hb2:base2=base+p.locs.length+1) (body:D P N out base2) (step:kt.den×vt.den→p.T→Option (p.T ⊕ xs.T))
  (hstep:∀ent x,mapE (base:=base) (kzO (p.T ⊕ xs.T)) cx prel p xs mn it cl e kt kg vt vg body (fun y=>some (.inl y)) (fun b=>some (.inr b)) ent x=step ent x):MapS P N out base where
 pre:=pre
 m:=.t mn
 it:=it
 cl:=cl
 e:=e
 kt:=kt
 kg:=kg
 vt:=vt
 vg:=vg
 bid:=bid
 b:=body.er
 run kz env nx bl ms K:=mapK (base:=base) kz cx prel p pre mn it cl kt kg vt vg env nx bl ms fun es x=>kz.bd (anyOrd (fun l=>goL step l x) es) fun z=>kz.sm z (fun y=>fN (base+p.locs.length) fun nx=>p.go nx y (K .normal)) fun b=>xs.go kz base b fun e=>K (unEx bid e)
 ok:=by
  intro X env nx bl ms K r h Q hQ
  subst hprel
  refine map_core mixed hcx hxs hcl hb2 hstep h fun es x hk=>?_
  obtain ⟨z,h1,h2⟩:=bd_some hk
  refine ⟨z,anyOrd_some h1,?_⟩
  cases z with
  |inl y =>
   simp only [fN_eq,Pat.go_eq] at h2
   exact hQ _ _ _ _ _ h2
  |inr b=>exact hQ _ _ _ _ _ (Outs.go_st (xs:=xs) h2)
noncomputable def mkMapR0 (mixed : P.follows .mixedOrders = true) (cx : Cx) (hcx : cx.Ok P) (prel : List Nat) (hprel : prel = List.range base) (p : Pat) (pre : List Itm) (mn it : Nat) (cl : List Nat)
  (e:Option Nat) (kt:Ty) (kg:Bool) (vt:Ty) (vg:Bool) (bid:Nat) (hcl:p.env.all (fun q => !(it::cl).contains q.1)=true) (base2:Nat) (hb2:base2=base+p.locs.length+1) (body:D P N out base2) (step:kt.den×vt.den→p.T→Option p.T)
  (hstep:∀ent x,mapE (base:=base) (kzO p.T) cx prel p [] mn it cl e kt kg vt vg body (fun y=>some y) noB ent x=step ent x):MapS P N out base where
 pre:=pre
 m:=.t mn
 it:=it
 cl:=cl
 e:=e
 kt:=kt
 kg:=kg
 vt:=vt
 vg:=vg
 bid:=bid
 b:=body.er
 run kz env nx bl ms K:=mapK (base:=base) kz cx prel p pre mn it cl kt kg vt vg env nx bl ms fun es x=>kz.bd (anyOrd (fun l=>goM step l x) es) fun y=>fN (base+p.locs.length) fun nx=>p.go nx y (K .normal)
 ok:=by
  intro X env nx bl ms K r h Q hQ
  subst hprel
  refine map_core0 mixed hcx hcl hb2 hstep h fun es x hk=>?_
  obtain ⟨y,h1,h2⟩:=bd_some hk
  simp only [fN_eq,Pat.go_eq] at h2
  exact fun l hl=>⟨y,anyOrd_some h1 l hl,hQ _ _ _ _ _ h2⟩
noncomputable def mkMapRA (mixed : P.follows .mixedOrders = true) (cx : Cx) (hcx : cx.Ok P) (prel : List Nat) (hprel : prel = List.range base) (p : Pat) (pre : List Itm) (mn it : Nat) (cl : List Nat)
  (e:Option Nat) (kt:Ty) (kg:Bool) (vt:Ty) (vg:Bool) (bid:Nat) (hcl:p.env.all (fun q => !(it::cl).contains q.1)=true) (base2:Nat) (hb2:base2=base+p.locs.length+1) (body:D P N out base2) (step:kt.den×vt.den→p.T→Option p.T)
  (hstep:∀ent x,mapE (base:=base) (kzO p.T) cx prel p [] mn it cl e kt kg vt vg body (fun y=>some y) noB ent x=step ent x):MapS P N out base where
 pre:=pre
 m:=.t mn
 it:=it
 cl:=cl
 e:=e
 kt:=kt
 kg:=kg
 vt:=vt
 vg:=vg
 bid:=bid
 b:=body.er
 run kz env nx bl ms K:=mapK (base:=base) kz cx prel p pre mn it cl kt kg vt vg env nx bl ms fun es x=>kz.an es fun l=>kz.bd (goM step l x) fun y=>fN (base+p.locs.length) fun nx=>p.go nx y (K .normal)
 ok:=by
  intro X env nx bl ms K r h Q hQ
  subst hprel
  refine map_core0 mixed hcx hcl hb2 hstep h fun es x hk l hl=>?_
  obtain ⟨y,h1,h2⟩:=bd_some (anyOrd_some hk l hl)
  simp only [fN_eq,Pat.go_eq] at h2
  exact ⟨y,h1,hQ _ _ _ _ _ h2⟩
end
end Go.AM
end
section
namespace Go.AM
@[reducible] def bs (l:List Nat):ByteArray:=⟨(l.map UInt8.ofNat).toArray⟩
def kinsL (t : Ty) (x : t.den) : List t.den → List t.den
 |[]=>[x]
 |y::r=>if dlt t x y=true then x::y::r else y::kinsL t x r
def sortK (t:Ty) (xs:List t.den):List t.den:=xs.foldr (kinsL t) []
noncomputable def srtN (t:Ty) (b:List t.den) (n:Nat):Option (List t.den×Unit):=if n≤b.length∧n<bigL then some (sortK t (b.take n)++b.drop n,()) else none
theorem bysL_length (s:ByteArray):(bysL s).length=s.size:=by simp [bysL]
section
variable {P:Program}
noncomputable def inCx (P:Program) (cx:Cx) (f:Nat) (fn:Fn) (d:(b:Nat)→D P fn.N none b):Cx where
 pc:=cx.pc
 ca kz g vs nx bl K:=match an (Nat.beq g f) (Nat.ble vs.length fn.np) with
  |true=>fVs vs fun vs=>kE kz cx ar0 (d nx) (args 0 vs) nx bl [] (kRetH kz fn.res fn.tys K)
  |false=>cx.ca kz g vs nx bl K
 rd:=cx.rd
theorem inCx_ok (mixed : P.follows .mixedOrders = true) {cx : Cx} (hcx : cx.Ok P) {f : Nat} {func : Func} {fn : Fn} (hf : P.funcs[f]? = some func) (htr : trF P func = some fn) (hent : Enters P f)
  {d:(b:Nat)→D P fn.N none b} (hd:∀b,(d b).er=fn.body):(inCx P cx f fn d).Ok P where
 pok hk:=hcx.pok hk
 cok:=by
  intro X g vs nx bl K r hk Q hQ
  simp only [inCx] at hk
  split at hk
  ·rename_i h
   rw [an_iff] at h
   have e:=Nat.eq_of_beq_eq_true h.1
   subst e
   rw [fVs_eq] at hk
   refine acall_of hf htr hent (drawOk mixed) (Nat.le_of_ble_eq_true h.2) ?_
   rw [←hd nx]
   refine kE_ok hcx hk fun e env nx bl ms hk=>?_
   exact kRetH_ok hk fun v nx bl hk=>hQ v nx bl hk
  ·exact hcx.cok hk hQ
 rok hk:=hcx.rok hk
noncomputable def inCxB (P:Program) (cx:Cx) (f:Nat) (fn:Fn) (b:Nat) (d:D P fn.N none b):Cx where
 pc:=cx.pc
 ca kz g vs nx bl K:=match an (Nat.beq g f) (an (Nat.ble vs.length fn.np) (Nat.beq nx b)) with
  |true=>fVs vs fun vs=>kE kz cx ar0 d (args 0 vs) b bl [] (kRetH kz fn.res fn.tys K)
  |false=>cx.ca kz g vs nx bl K
 rd:=cx.rd
theorem inCxB_ok (mixed : P.follows .mixedOrders = true) {cx : Cx} (hcx : cx.Ok P) {f : Nat} {func : Func} {fn : Fn} (hf : P.funcs[f]? = some func) (htr : trF P func = some fn) (hent : Enters P f)
  {b:Nat} {d:D P fn.N none b} (hd:d.er=fn.body):(inCxB P cx f fn b d).Ok P where
 pok hk:=hcx.pok hk
 cok:=by
  intro X g vs nx bl K r hk Q hQ
  simp only [inCxB] at hk
  split at hk
  ·rename_i h
   rw [an_iff,an_iff] at h
   have e:=Nat.eq_of_beq_eq_true h.1
   have e2:=Nat.eq_of_beq_eq_true h.2.2
   subst e;subst e2
   rw [fVs_eq] at hk
   refine acall_of hf htr hent (drawOk mixed) (Nat.le_of_ble_eq_true h.2.1) ?_
   rw [←hd]
   refine kE_ok hcx hk fun e env nx bl ms hk=>?_
   exact kRetH_ok hk fun v nx bl hk=>hQ v nx bl hk
  ·exact hcx.cok hk hQ
 rok hk:=hcx.rok hk
end
section
variable {P:Program} {N:Nat} {out:Option Nat} {base:Nat}
noncomputable def mkRangeI (mixed : P.follows .mixedOrders = true) (cx : Cx) (hcx : cx.Ok P) (pre : List Nat) (hpre : pre = List.range base) (p : Pat) (xs : Outs) (f : O) (ps : List Nat) (hps : ps.all (Nat.blt · N) = true) (as bd : C)
  (fid:Nat) {func:Func} {fn:Fn} (hf:P.funcs[fid]?=some func) (htr:trF P func=some fn) (hent:Enters P fid) (base2:Nat) (hbase2:base2=base+p.locs.length+(match out with|none=>2|some _=>1))
  (itD:D P fn.N none base2) (hit:itD.er=fn.body):RangeS P N out base where
 f:=f
 ps:=ps
 a:=as
 b:=bd
 run kz env nx bl ms K:=p.rd kz.no pre base env nx bl ms fun x=>rangeE (N:=N) (out:=out) (base:=base) kz cx ar0 pre p xs f ps as bd fn.res fn.np fid itD (fun b=>xs.go kz base b K) x
 ok:=by
  intro X env nx bl ms K r h Q hQ
  subst hpre
  obtain ⟨x,π,h3,h2⟩:=Pat.rd_ent h
  unfold rangeE at h3
  rw [fN_eq,Pat.go_eq] at h3
  intro fo pso ao bo q1 q2 q3 q4
  refine awp_ent (awp_weak ?_) h2
  refine rangeF_rule (K:=fun e S'=>∃S'' π,Ent2 base π S' S''∧Q e S'') ?_ fo pso ao bo q1 q2 q3 q4
  refine ⟨hps,?_⟩
  cases hfe:f.ev (p.E x) with
  |fn fid' first cap=>?_
  |_=>rw [hfe] at h3;cases h3
  have hfe':f.ev (p.st base x).env = .fn fid' first cap:=hfe
  rw [hfe']
  rw [hfe] at h3
  simp only at h3 ⊢
  split at h3<;>try (cases h3;done)
  rename_i hc
  rw [an_iff] at hc
  have e1:=Nat.eq_of_beq_eq_true hc.1
  have e2:=Nat.le_of_ble_eq_true hc.2
  subst e1
  have hlen:∀v:V,(first++[v]++cap).length≤fn.np:=fun v=>by simpa using e2
  have hout:∀e env nx bl ms,xs.rd none (List.range base) base e env nx bl ms (fun b=>xs.go (kzO X) base b K)=some r→∃S'' π,Ent2 base π ⟨env,⟨nx,bl⟩,ms⟩ S''∧Q e S'':=fun e env nx bl ms hk=>by
   obtain ⟨y,π,r1,r2,r3⟩:=Outs.rd_ent hk
   have h5:=Outs.go_st r1
   have hq:=hQ _ _ _ _ _ h5
   exact ⟨_,π,r3,by rw [r2];exact hq⟩
  cases out with
  |none =>
   simp only at h3 hbase2 ⊢
   split at h3
   ·cases h3
   rename_i hms
   rw [fVs_eq] at h3
   refine ⟨hms,?_⟩
   subst hbase2
   refine acall_of hf htr hent (drawOk mixed) (hlen _) ?_
   rw [←hit]
   refine kE_ok hcx h3 fun e env nx bl ms hk=>?_
   exact itRet_ok hk fun v nx bl hk => aftK_ok (S := p.st base x) (by
    have e:(p.st base x).ms=[]:=hms
    rw [e];exact hk) hout
  |some id0 =>
   simp only at h3 hbase2 ⊢
   split at h3<;>try (cases h3;done)
   rename_i hb
   rw [fVs_eq] at h3
   have hb':bget id0 (p.st base x).H.bl=_:=hb
   simp only [Pat.st] at hb' ⊢
   rw [hb']
   simp only
   subst hbase2
   refine acall_of hf htr hent (drawOk mixed) (hlen _) ?_
   rw [←hit]
   refine kE_ok hcx h3 fun e env nx bl ms hk=>?_
   exact itRet_ok hk fun v nx bl hk=>aftK_ok (S:=p.st base x) hk hout
end
end Go.AM
end
