/- Loops over functions, as functions of their data. Calls that are lent blocks of the caller's heap: the rest stays as it is. Contracts of functions that write blocks of their caller, or hand back new ones. Recursion. The way in and out: a law's contract over data is its row's. Plain laws on tests, needs and rounds. Twins that can be reckoned: what they come to, the functions come to. What is computed, as a tree: read as a function (classically), or reckoned. Code with its loops as functions, out of the program's own: no text of it is needed. A loop whose number of rounds is known is gone through round by round. Strings out of their bytes; what is said of them, of maps and of clearing, plainly. -/
import Derived.Test.YthemjfloiapaaaaGreatAMc
import Derived.OpenShut
import Derived.Handed
import Derived.JoinedOf
import Derived.Carry
set_option linter.unusedSectionVars false
set_option linter.unusedVariables false
set_option linter.unusedSimpArgs false
section
namespace Go.AM
section
variable {P:Program} {N:Nat} {out:Option Nat} {base:Nat} {π:List Nat}
theorem Jt {c:Code} {S S':St} {Q:Ex->St->Prop} (h:Ol P N out base c S' Q) (he:jw base π S S'):Ol P N out base c S Q :=
 fun Y ι μ a w ho hb hR=>h Y ι _ a w ho hb (he.rep hb hR)
theorem Eg {c:Code} {S:St} {Q:Ex->St->Prop} (h:Ol P N out base c S fun e S'=>∃Ci π,jw base π S' Ci/\Q e Ci):Ol P N out base c S Q :=
 fun Y ι μ a w ho hb hR=>wpIn_mono (h Y ι μ a w ho hb hR) fun e a w hp=>by
  obtain ⟨Y1,hY,ι,μ,S',e',h1,h2,Ci,π,h3,h4⟩:=hp
  exact ⟨Y1,hY,ι,_,Ci,e',h3.rep (hY.uB hb) h1,h2,h4⟩
def Cj {R : Type} : List Nat → List V → Env → (Env → R) → R
 |p::ps,v::vs,env,k=>fV v fun v=>Cj ps vs ((p,v)::env) k
 |_,_,env,k=>k env
theorem AO {R : Type} : ∀ (ps : List Nat) (vs : List V) (env : Env) (k : Env → R), Cj ps vs env k = k (uL ps vs env)
 |[],vs,env,k=>by cases vs<;>rfl
 |p::ps,[],env,k=>rfl
 |p::ps,v::vs,env,k=>by simp only [Cj,nN];rw [AO ps vs];rfl
def Pp {R:Type} (kz:Kz R) (vo:Nat) (K:V->Nat->av->R):Kc R:=fun e _ nx bl _=>match az vo bl with
 |some (.loop .busy _ d env ps as bd N)=>qg vo bl fun bl=>match e with
  | .normal=>K (.tf true) nx ((vo,.loop .ready none d env ps as bd N)::bl)
  | .exit i=>K (.tf false) nx ((vo,.loop .done (some (.exit i)) d env ps as bd N)::bl)
  | .ret=>K (.tf false) nx ((vo,.loop .done (some .ret) d env ps as bd N)::bl)
 |_=>kz.no
theorem Pq {X : Type} {vo : Nat} {K : V → Nat → av → Option X} {r : X} {e : Ex} {env : Env} {nx : Nat} {bl : av} {ms : List Nat} (h : Pp (iL X) vo K e env nx bl ms = some r) {Q : V → aL → Prop}
  (hQ:∀v nx bl,K v nx bl=some r->Q v ⟨nx,bl⟩):rL vo Q e ⟨env,⟨nx,bl⟩,ms⟩:=by
 unfold Pp at h
 unfold rL
 simp only
 split at h<;>try (cases h;done)
 rename_i hb
 try rw [hb]
 try simp only
 rw [kH] at h
 cases e<;>exact hQ _ _ _ h
def Pr {R:Type} (kz:Kz R) (cx:Cx) (ar:Ar) (vo Eh:Nat) (ps:List Nat) (asD bdD:D P N (some vo) Eh) (id:Nat) (vs:List V) (nx:Nat) (bl:av) (K:V->Nat->av->R):R :=
 match an (Nat.beq id vo) (Nat.beq nx Eh) with
 |true=>match az vo bl with
  |some (.loop .ready none _ env ps' as bd N')=>match an (Nat.beq vs.length ps'.length) (an (Nat.beq N' N) (an (jy as asD.er) (jy bd bdD.er))) with
   |true=>Cj ps' vs env fun env=>kE kz cx ar asD env nx bl [] fun e env nx bl ms=>match e with
    | .normal=>match az vo bl with
     |some (.loop .ready none d' env' ps' as' TF N')=>qg vo bl fun bl=>kE kz cx ar bdD env nx ((vo,.loop .busy none d' env' ps' as' TF N')::bl) ms (Pp kz vo K)
     |_=>kz.no
    |_=>kz.no
   |false=>kz.no
  |_=>kz.no
 |false=>kz.no
theorem nB (mixed : P.follows .mixedOrders = true) {cx : Cx} (gF : cx.Ok P) {vo Eh : Nat} {ps : List Nat} {asD bdD : D P N (some vo) Eh} {id : Nat} {vs : List V} {nx : Nat} {bl : av} {X : Type}
  {K:V->Nat->av->Option X} {r:X} (h:Pr (iL X) cx dZ vo Eh ps asD bdD id vs nx bl K=some r) {Q:V->aL->Prop} (hQ:∀v nx bl,K v nx bl=some r->Q v ⟨nx,bl⟩):around P id vs ⟨nx,bl⟩ Q:=by
 unfold Pr at h
 split at h<;>try (cases h;done)
 rename_i h1
 rw [aW] at h1
 have e1:=Nat.eq_of_beq_eq_true h1.1
 have e2:=Nat.eq_of_beq_eq_true h1.2
 subst e1;subst e2
 split at h<;>try (cases h;done)
 rename_i d env ps' as bd N' hb
 split at h<;>try (cases h;done)
 rename_i h2
 simp only [aW] at h2
 obtain ⟨c1,c2,c3,c4⟩:=h2
 have e3:=Nat.eq_of_beq_eq_true c2
 have e4:=vR c3
 have e5:=vR c4
 have e6:=Nat.eq_of_beq_eq_true c1
 subst e3;subst e4;subst e5
 refine Lg (fun N=>iP mixed) ?_
 unfold GU
 simp only
 rw [hb]
 simp only
 refine ⟨e6,?_⟩
 rw [AO] at h
 refine lD gF h fun e env nx bl ms h=>?_
 cases e with
 |exit i=>cases h
 |ret=>cases h
 |normal =>
  simp only at h ⊢
  split at h<;>try (cases h;done)
  rename_i d' env' ps2 as' TF N2 fh
  try rw [fh]
  try simp only
  rw [kH] at h
  exact lD gF h fun e env nx bl ms h=>Pq h hQ
def zS (cx:Cx) (rd:{R:Type}->Kz R->Nat->List V->Nat->av->(V->Nat->av->R)->R):Cx where
 pc:=cx.pc
 ca:=cx.ca
 rd:=rd
theorem jT {cx : Cx} (gF : cx.Ok P) {rd : {R : Type} → Kz R → Nat → List V → Nat → av → (V → Nat → av → R) → R}
  (h:∀{X:Type} {id:Nat} {vs:List V} {nx:Nat} {bl:av} {K:V->Nat->av->Option X} {r:X},rd (iL X) id vs nx bl K=some r->∀{Q:V->aL->Prop},(∀v nx bl,K v nx bl=some r->Q v ⟨nx,bl⟩)->around P id vs ⟨nx,bl⟩ Q) :
  (zS cx rd).Ok P:=⟨fun hk=>gF.XG hk,fun hk=>gF.TX hk,fun hk=>h hk⟩
def Ei {R:Type} (kz:Kz R) (rs:List RV) (K:Nat->av->R):Kc R:=fun e env nx bl ms=>match e with
 | .exit _=>kz.no
 | .normal=>go env nx bl ms
 | .ret=>go env nx bl ms
where go (env:Env) (nx:Nat) (bl:av) (ms:List Nat):R:=match eV ms bl with
 |some bl=>match vk dZ ⟨env,⟨nx,bl⟩,[]⟩ rs with
  |some _=>K nx bl
  |none=>kz.no
 |none=>kz.no
theorem rX {X : Type} {rs : List RV} {tys : List (Option Ty)} {K : Nat → av → Option X} {r : X} {e : Ex} {env : Env} {nx : Nat} {bl : av} {ms : List Nat} (h : Ei (iL X) rs K e env nx bl ms = some r) {Q : V → aL → Prop}
  (hQ:∀v nx bl,K nx bl=some r->Q v ⟨nx,bl⟩):BN rs tys Q e ⟨env,⟨nx,bl⟩,ms⟩:=by
 have key:Ei.go (iL X) rs K env nx bl ms=some r->BN.qv rs tys Q ⟨env,⟨nx,bl⟩,ms⟩:=fun hg=>by
  unfold Ei.go at hg
  unfold BN.qv
  split at hg<;>try (cases hg;done)
  rename_i bS h1
  simp only
  rw [h1]
  simp only
  split at hg<;>try (cases hg;done)
  rename_i vs h2
  rw [h2]
  exact hQ _ _ _ hg
 cases e with
 |exit i=>cases h
 |normal=>exact key h
 |ret=>exact key h
def Ju {R : Type} (no : R) : List Nat → av → (av → R) → R
 |[],bl,K=>K bl
 |id::r,bl,K=>match az id bl with
  |some .iF=>qg id bl fun bl=>Ju no r bl K
  |_=>no
theorem Ej {X : Type} {no : Option X} {r : X} (hno : no = none) : ∀ {sh : List Nat} {bl : av} {K : av → Option X}, Ju no sh bl K = some r → ∃ bS, eV sh bl = some bS ∧ K bS = some r
 |[],bl,K,h=>⟨bl,rfl,h⟩
 |id::sh,bl,K,h=>by
  simp only [Ju] at h
  simp only [eV]
  split at h
  ·rename_i hb
   rw [kH] at h
   rw [hb]
   exact Ej hno h
  ·rw [hno] at h;cases h
def T8 {R:Type} (kz:Kz R) (vo:Nat) (env:Env) (sh ms:List Nat) (K:Kc R) (nx:Nat) (bl:av):R:=match az vo bl with
 |some (.loop st j _ _ _ _ _ _)=>match st with
  | .busy=>kz.no
  |_=>qg vo bl fun bl=>Ju kz.no sh bl fun bl=>match j with
   |none=>K .normal env nx bl ms
   |some (.exit i)=>K (.exit i) env nx bl ms
   |some .ret=>K .ret env nx bl ms
   |some .normal=>kz.no
 |_=>kz.no
theorem vT {X : Type} {vo : Nat} {S : St} {sh : List Nat} {K : Kc (Option X)} {nx : Nat} {bl : av} {r : X} (h : T8 (iL X) vo S.env sh S.ms K nx bl = some r) {Q : Ex → St → Prop}
  (hQ:∀e env nx bl ms,K e env nx bl ms=some r->Q e ⟨env,⟨nx,bl⟩,ms⟩):j7 vo sh S Q ⟨nx,bl⟩:=by
 unfold T8 at h
 unfold j7
 simp only
 split at h<;>try (cases h;done)
 rename_i st j _ _ _ _ _ _ hb
 try rw [hb]
 try simp only
 split at h
 ·cases h
 ·rename_i hst
  rw [kH] at h
  obtain ⟨bS,hs,h⟩:=Ej rfl h
  have:Jg j ⟨S.env,⟨nx,bS⟩,S.ms⟩ Q:=by
   split at h
   ·exact hQ _ _ _ _ _ h
   ·exact hQ _ _ _ _ _ h
   ·exact hQ _ _ _ _ _ h
   ·cases h
  rw [hs]
  cases st<;>first|exact this|exact absurd rfl hst
def xZ {R:Type} (kz:Kz R) (cx:Cx) (ar:Ar) (pre:List Nat) (p:au) (xs:aU) (f:O) (ps:List Nat) (as bd:C) (rs:List RV) (np:Nat) (fid:Nat) {Nit dn:Nat} (Nz:D P Nit none dn) (inr:xs.T->R) (x:p.T):R :=
 fN (base+p.gW.length) fun nx=>p.go nx x fun env nx bl ms=>match f.ev env with
 | .fn Pt first cap=>match an (Nat.beq Pt fid) (Nat.ble (first++[V.any]++cap).length np) with
  |true=>match out with
   |none=>match ms with
    |_::_=>kz.no
    | [] => T5 (first ++ [.yl (nx + 1)] ++ cap) fun vs => kE kz cx ar Nz (args 0 vs) dn ((nx + 1, .loop .ready none nx env ps as bd N) :: (nx, .iF) :: bl) []
     (Ei kz rs (T8 kz (nx+1) env [nx] [] fun e env nx bl ms=>xs.rd kz.no pre base e env nx bl ms inr))
   |some Xx=>match az Xx bl with
    | some (.loop _ _ d _ _ _ _ _) => T5 (first ++ [.yl nx] ++ cap) fun vs => kE kz cx ar Nz (args 0 vs) dn ((nx, .loop .ready none d env ps as bd N) :: bl) []
     (Ei kz rs (T8 kz nx env [] ms fun e env nx bl ms=>xs.rd kz.no pre base e env nx bl ms inr))
    |_=>kz.no
  |false=>kz.no
 |_=>kz.no
def Pu (c:C):bu P N out base where
 c:=c
 run kz _ _ _ _ _:=kz.no
 ok h:=by cases h
def LC (f:O) (ps:List Nat) (a b:C):gE P N out base where
 f:=f
 ps:=ps
 a:=a
 b:=b
 run kz _ _ _ _ _:=kz.no
 ok h:=by cases h
def T9 (pre:List fe) (m:O) (it:Nat) (cl:List Nat) (e:Option Nat) (kt:Ty) (kg:Bool) (vt:Ty) (vg:Bool) (qa:Nat) (b:C):rP P N out base where
 pre:=pre
 m:=m
 it:=it
 cl:=cl
 e:=e
 kt:=kt
 kg:=kg
 vt:=vt
 vg:=vg
 qa:=qa
 b:=b
 run kz _ _ _ _ _:=kz.no
 ok h:=by cases h
noncomputable def Pv (mixed : P.follows .mixedOrders = true) (cx : Cx) (gF : cx.Ok P) (pre : List Nat) (hpre : pre = List.range base) (p : au) (xs : aU) (f : O) (ps : List Nat) (hps : ps.all (Nat.blt · N) = true) (as bd : C)
  (fid:Nat) {func:Func} {fn:Fn} (hf:P.funcs[fid]?=some func) (htr:cn P func=some fn) (cH:Enters P fid) (dn:Nat) (iR:dn=base+p.gW.length+(match out with|none=>2|some _=>1))
  (Nz:D P fn.N none dn) (hit:Nz.er=fn.body) (RF:p.T->Option xs.T)
  (hRF:∀x,xZ (N:=N) (out:=out) (base:=base) (iL xs.T) cx dZ pre p xs f ps as bd fn.res fn.np fid Nz some x=RF x):He P N out base f ps as bd where
 run kz env nx bl ms K:=p.rd kz.no pre base env nx bl ms fun x=>kz.bd (RF x) fun b=>xs.go kz base b K
 ok:=by
  intro X env nx bl ms K r h Q hQ
  subst hpre
  obtain ⟨x,π,h1,h2⟩:=au.dM h
  obtain ⟨b,h3,h4⟩:=pJ h1
  have h5:=aU.AL h4
  have hq:=hQ _ _ _ _ _ h5
  rw [<-hRF x] at h3
  unfold xZ at h3
  rw [gr,au.go_eq] at h3
  intro fo Df ao bo q1 q2 q3 q4
  refine Jt (Eg ?_) h2
  refine uK (K:=fun e S'=>∃Ci π,jw base π S' Ci/\Q e Ci) ?_ fo Df ao bo q1 q2 q3 q4
  refine ⟨hps,?_⟩
  cases mS:f.ev (p.E x) with
  |fn Pt first cap=>?_
  |_=>rw [mS] at h3;cases h3
  have aaa:f.ev (p.st base x).env = .fn Pt first cap:=mS
  rw [aaa]
  rw [mS] at h3
  simp only at h3 ⊢
  split at h3<;>try (cases h3;done)
  rename_i hc
  rw [aW] at hc
  have e1:=Nat.eq_of_beq_eq_true hc.1
  have e2:=Nat.le_of_ble_eq_true hc.2
  subst e1
  have hlen:∀v:V,(first++[v]++cap).length<=fn.np:=fun v=>by simpa using e2
  have hout:∀e env nx bl ms,xs.rd none (List.range base) base e env nx bl ms some=some b->∃Ci π,jw base π ⟨env,⟨nx,bl⟩,ms⟩ Ci/\Q e Ci:=fun e env nx bl ms hk=>by
   obtain ⟨y,π,r1,r2,r3⟩:=aU.dM hk
   cases r1
   exact ⟨_,π,r3,by rw [r2];exact hq⟩
  cases out with
  |none =>
   simp only at h3 iR ⊢
   split at h3
   ·cases h3
   rename_i K3
   rw [nA] at h3
   refine ⟨K3,?_⟩
   subst iR
   refine kF hf htr cH (iP mixed) (hlen _) ?_
   rw [<-hit]
   refine lD gF h3 fun e env nx bl ms hk=>?_
   exact rX hk fun v nx bl hk => vT (S := p.st base x) (by
    have e:(p.st base x).ms=[]:=K3
    rw [e];exact hk) hout
  |some Xx =>
   simp only at h3 iR ⊢
   split at h3<;>try (cases h3;done)
   rename_i hb
   rw [nA] at h3
   have hb':az Xx (p.st base x).H.bl=_:=hb
   simp only [au.st] at hb' ⊢
   rw [hb']
   simp only
   subst iR
   refine kF hf htr cH (iP mixed) (hlen _) ?_
   rw [<-hit]
   refine lD gF h3 fun e env nx bl ms hk=>?_
   exact rX hk fun v nx bl hk=>vT (S:=p.st base x) hk hout
noncomputable def rY (mixed : P.follows .mixedOrders = true) (cx : Cx) (gF : cx.Ok P) (pre : List Nat) (hpre : pre = List.range base) (p : au) (xs : aU) (f : O) (ps : List Nat) (hps : ps.all (Nat.blt · N) = true) (as bd : C)
  (fid:Nat) {func:Func} {fn:Fn} (hf:P.funcs[fid]?=some func) (htr:cn P func=some fn) (cH:Enters P fid) (dn:Nat) (iR:dn=base+p.gW.length+(match out with|none=>2|some _=>1))
  (Nz:D P fn.N none dn) (hit:Nz.er=fn.body) (RF:p.T->Option xs.T)
  (hRF:∀x,xZ (N:=N) (out:=out) (base:=base) (iL xs.T) cx dZ pre p xs f ps as bd fn.res fn.np fid Nz some x=RF x):gE P N out base :=
 (Pv mixed cx gF pre hpre p xs f ps hps as bd fid hf htr cH dn iR Nz hit RF hRF).s
end
end Go.AM
end
section
namespace Go.AM
theorem yb {σ : List Nat} {ι : ax} {μ μ' : Mu} (hσ : ∀ j i L, σ[j]? = some i → μ j = some L → μ' i = some L) : ∀ {n : Nat} {v u : V} {x : Value}, tK σ n v = some u → Rel ι μ v x → Rel ι μ' u x
 |0,v,u,x,h,_=>by cases h
 |n+1,v,u,x,h,hr=>by
  have g:∀v u x,tK σ n v=some u->Rel ι μ v x->Rel ι μ' u x:=fun v u x h hr=>yb hσ h hr
  have lift:∀{cs ds:List V} {xs:Array Value},dU (tK σ n) cs=some ds->cs.length=xs.size->(∀(i:Nat) v x,cs[i]?=some v->xs[i]?=some x->Rel ι μ v x)->aN ι μ' ds xs.toList :=
   fun hm h1 h2=>jm g hm ⟨by simpa using h1,fun i v x hv hx=>h2 i v x hv (by simpa using hx)⟩
  cases hr<;>simp only [tK] at h
  case any=>cases h;exact .any _
  case tf=>cases h;exact .tf _
  case bool=>cases h;exact .bool _
  case int=>cases h;exact .int _ _
  case str=>cases h;exact .str _
  case fq=>cases h;exact .fq
  case cU=>cases h;exact .cU
  case gj=>cases h;exact .gj
  case fJ t xs hd=>cases h;exact .fJ t xs _ hd
  case bZ=>cases h;exact .bZ _
  case sl id t lo m cap L hL h1 h2 h3 =>
   split at h<;>try (cases h;done)
   rename_i i hi;cases h
   exact .sl i t lo m cap L (hσ _ _ _ hi hL) h1 h2 h3
  case bI id t lo a =>
   split at h<;>try (cases h;done)
   cases h;exact .bI _ _ _ _
  case ptr id off L hL =>
   split at h<;>try (cases h;done)
   rename_i i hi;cases h
   exact .ptr i off L (hσ _ _ _ hi hL)
  case ep id t j p L hL =>
   split at h<;>try (cases h;done)
   rename_i i hi;cases h
   exact .ep i t j p L (hσ _ _ _ hi hL)
  case yl id L hL =>
   split at h<;>try (cases h;done)
   rename_i i hi;cases h
   exact .yl i L (hσ _ _ _ hi hL)
  case gm cs b o gf h1 h2 h3 =>
   split at h<;>try (cases h;done)
   rename_i ds hds;cases h
   have hR:aN ι μ cs ((List.range cs.length).map gf):=⟨by simp,fun i v x hv hx=>by
    have hi:=(List.getElem?_eq_some_iff.1 hv).1
    simp [hi] at hx;subst hx;exact h2 i v hv⟩
   have iG:=jm g hds hR
   have hl:ds.length=cs.length:=by have:=iG.1;simpa using this
   exact .gm ds b o gf (fun i hi => h1 i (by omega)) (fun i v hv => iG.2 i v (gf i) hv (by
    have hi:=(List.getElem?_eq_some_iff.1 hv).1
    simp [show i<cs.length by omega])) h3
  case ip t y b o us h1 h2=>cases h;exact .ip t y b o us h1 h2
  case fn f fs cs xs ys h1 h2 h3 h4 =>
   split at h<;>try (cases h;done)
   rename_i as ha
   split at h<;>try (cases h;done)
   rename_i bs hb;cases h
   have r1:=lift ha h1 h2
   have r2:=lift hb h3 h4
   exact .fn f as bs xs ys (by simpa using r1.1) (fun i v x hv hx=>r1.2 i v x hv (by simpa using hx)) (by simpa using r2.1) (fun i v x hv hx=>r2.2 i v x hv (by simpa using hx))
  case agg cs xs h1 h2 h3 =>
   split at h<;>try (cases h;done)
   rename_i ds hds;cases h
   have r1:=lift hds h1 h2
   exact .agg ds xs (by simpa using r1.1) (fun i v x hv hx=>r1.2 i v x hv (by simpa using hx)) h3
  case cQ cs xs h1 h2 =>
   split at h<;>try (cases h;done)
   rename_i ds hds;cases h
   have r1:=lift hds h1 h2
   exact .cQ ds xs (by simpa using r1.1) (fun i v x hv hx=>r1.2 i v x hv (by simpa using hx))
  case cG t v x hv =>
   split at h<;>try (cases h;done)
   rename_i u' hu;cases h
   exact .cG t u' x (g _ _ _ hu hv)
  case cb c b hc=>cases h;exact .cb c b hc
  case mp id L hL =>
   split at h<;>try (cases h;done)
   rename_i i hi;cases h
   exact .mp i L (hσ _ _ _ hi hL)
  case cR=>cases h;exact .cR
  case sp=>cases h
  case pa id t m L hL hm =>
   split at h<;>try (cases h;done)
   rename_i i hi;cases h
   exact .pa i t m L (hσ _ _ _ hi hL) hm
  case l6 t xs b o us h1 h2=>cases h;exact .l6 t xs b o us h1 h2
def Ek (σ : List Nat) : av → Option av
 |[]=>some []
 |(j,b)::r=>match vn σ j with
  |some i=>match Tz σ b with
   |some b'=>match Ek σ r with
    |some r'=>some ((i,b')::r')
    |none=>none
   |none=>none
  |none=>none
theorem AP {σ : List Nat} (hinj : ∀ (a b i : Nat), σ[a]? = some i → σ[b]? = some i → a = b) : ∀ {bl bS : av}, Ek σ bl = some bS → ∀ {i : Nat} {B : k8}, az i bS = some B → ∃ j B0, σ[j]? = some i ∧ az j bl = some B0 ∧ Tz σ B0 = some B
 |[],bS,h,i,B,hb=>by cases h;simp [az] at hb
 |(j,b)::r,bS,h,i,B,hb=>by
  simp only [Ek] at h
  split at h<;>try (cases h;done)
  rename_i i' hi
  split at h<;>try (cases h;done)
  rename_i b' hb'
  split at h<;>cases h
  rename_i r' hr
  rw [pK] at hi
  rw [bE] at hb
  split at hb
  ·rename_i e; subst e; cases hb
   exact ⟨j,b,hi,by rw [bE,if_pos rfl],hb'⟩
  ·rename_i hne
   obtain ⟨j2,B0,h1,h2,h3⟩:=AP hinj hr hb
   refine ⟨j2,B0,h1,?_,h3⟩
   rw [bE,if_neg]
   ·exact h2
   ·intro e;subst e;rw [hi] at h1;cases h1;exact hne rfl
def yc : List Nat → av → av
 |[],bl=>bl
 |i::r,bl=>yc r (bF i bl)
theorem yd : ∀ {l : List Nat} {bl : av} {id : Nat}, az id (yc l bl) = if id ∈ l then none else az id bl
 |[],bl,id=>by simp [yc]
 |i::r,bl,id=>by
  simp only [yc]
  rw [yd,bw]
  by_cases h1:id∈r
  ·simp [h1]
  ·by_cases h2 : id = i
   ·simp [h1,h2]
   ·simp [h1,h2]
theorem uO : ∀ {a b : av} {id : Nat}, az id (a ++ b) = match az id a with | some B => some B | none => az id b
 |[],b,id=>by simp [az]
 |(s,x)::r,b,id=>by
  rw [List.cons_append,bE,bE]
  split
  ·rfl
  ·exact uO
section
variable {P:Program}
def sig (π:List Nat) (nx n:Nat):List Nat:=π++(List.range' π.length (n - π.length)).map (nx + ·)
theorem El {f : Nat} {vs0 vs : List V} {Jf bl : av} {nx : Nat} {π : List Nat} {Q0 Q : V → aL → Prop} (h : iK P f vs0 ⟨π.length, Jf⟩ Q0)
  (hargs:Di π vs0 vs) (qW:∀p∈Jf,EBk π nx bl p.1 p.2) (XK:∀p∈Jf,∀st j d env ps as bd N,p.2 ≠ .loop st j d env ps as bd N) (hnd:π.Nodup) (hlt:∀i∈π,i<nx+π.length)
  (hQ:∀r n bS,Q0 r ⟨n,bS⟩->π.length<=n/\∃r' XM,tK (sig π nx n) 8 r=some r'/\Ek (sig π nx n) bS=some XM/\Q r' ⟨nx+n,XM++yc π bl⟩):iK P f vs ⟨nx,bl⟩ Q:=by
 refine ⟨h.1,fun Y ι μ w as hI hl=>?_⟩
 let μ1:Mu:=μ.j4 π
 have hμ1:∀j i,π[j]?=some i->μ1 j=μ i:=fun j i e=>by simp only [μ1,Mu.j4];rw [e];rfl
 let X:Nat->Prop:=fun b=>∃p∈Jf,∃L,μ1 p.1=some L/\L.b=b
 let Y1:Ctx:=⟨w,ι,μ1,none,X,[]⟩
 -- a lent block is one of the caller's
 have src:∀p∈Jf,∀L,μ1 p.1=some L->∃i C,π[p.1]?=some i/\μ i=some L/\az i bl=some C:=fun p hp L hL=>by
  obtain ⟨i,e1,hb⟩:=qW p hp
  rw [hμ1 _ _ e1] at hL
  refine ⟨i,?_⟩
  have:∃C,az i bl=some C:=by
   cases hB:p.2 with
   |cells cs fz=>rw [hB] at hb;obtain ⟨ds,e2,_⟩:=hb;exact ⟨_,e2⟩
   |arr t xs fz =>
    rw [hB] at hb
    rcases hb with e2|⟨_,hge⟩
    ·exact ⟨_,e2⟩
    ·rw [hI.nx i hge] at hL;cases hL
   |loop st j d env ps as bd N=>exact absurd hB (XK p hp _ _ _ _ _ _ _ _)
   |iF=>rw [hB] at hb;exact ⟨_,hb⟩
   |map kt kg vt vg es=>rw [hB] at hb;exact ⟨_,hb⟩
   |nL t xs k p v=>rw [hB] at hb;obtain ⟨u,e2,_⟩:=hb;exact ⟨_,e2⟩
  obtain ⟨C,hC⟩:=this
  exact ⟨C,e1,hL,hC⟩
 have Pw:∀b,X b->Y.own b:=fun b ⟨p,hp,L,hL,e⟩=>by
  obtain ⟨i,C,_,h2,h3⟩:=src p hp L hL
  subst e;exact ((hI.live i C h3).loc h2).1
 have hown:∀b,Y1.own b->Y.own b:=fun b hb=>by
  rcases hb with hb|hb
  ·exact .inl (Nat.le_trans hI.below.size hb)
  ·exact Pw b hb
 have hmem:∀{id:Nat} {B:k8},az id Jf=some B->(id,B)∈Jf:=fun h=>dD h
 have Ga:Inv P Y1 ι μ1 ⟨π.length,Jf⟩ w:=by
  refine ⟨IY.refl _ _,ax.le_refl _,fun _ _ _ _=>rfl,hI.rd,Mu.le_refl _,fun id hid=>?_,fun id B hB=>?_,fun id id' B B' L L' hb hb' hm hm' e=>?_,fun id B hB=>?_,hI.dH⟩
  ·have : π[id]? = none := List.getElem?_eq_none hid
   simp only [μ1,Mu.j4];rw [this];rfl
  ·obtain ⟨i, e1, hb⟩ := qW _ (hmem hB)
   have iD:=hμ1 id i e1
   cases B with
   |cells cs fz =>
    obtain ⟨ds,e2,ak⟩:=hb
    obtain ⟨L,vs,hM,Nx⟩:=hI.live i _ e2
    exact ⟨L,vs,⟨by rw [iD];exact hM.mu,.inr ⟨_,hmem hB,L,by rw [iD];exact hM.mu,rfl⟩,hM.row,hM.fits,hM.one,hM.Gw,hM.qV⟩,aN.j4 ak.1 (fun i v u hv hu=>fun {x} hr=>(ak.2 i v u hv hu).rel hr) Nx⟩
   |arr t xs fz =>
    rcases hb with e2|⟨rfl,hge⟩
    ·rcases hI.live i _ e2 with ⟨e, hn⟩ | ⟨L, vs, hM, hc, hl⟩
     ·exact .inl ⟨e,by rw [iD];exact hn⟩
     ·exact .inr ⟨L,vs,⟨by rw [iD];exact hM.mu,.inr ⟨_,hmem hB,L,by rw [iD];exact hM.mu,rfl⟩,hM.row,hM.fits,hM.one,hM.Gw,hM.qV⟩,hc,hl⟩
    ·exact .inl ⟨rfl,by rw [iD];exact hI.nx i hge⟩
   |nL t xs k p v =>
    obtain ⟨u,e2,ak⟩:=hb
    obtain ⟨L,us,vs,c,hM,hc,hl,q1,q2,q3,q4⟩:=hI.live i _ e2
    exact ⟨L,us,vs,c,⟨by rw [iD];exact hM.mu,.inr ⟨_,hmem hB,L,by rw [iD];exact hM.mu,rfl⟩,hM.row,hM.fits,hM.one,hM.Gw,hM.qV⟩,hc,hl,q1,q2,q3,ak.rel q4⟩
   |loop st j d env ps as bd N=>exact absurd rfl (XK _ (hmem hB) st j d env ps as bd N)
   |iF =>
    obtain ⟨L,q1,q2,q3⟩:=hI.live i _ hb
    exact ⟨L,by rw [iD];exact q1,.inr ⟨_,hmem hB,L,by rw [iD];exact q1,rfl⟩,q3⟩
   |map kt kg vt vg es =>
    obtain ⟨L,ms,clock,dR,q1,q2,q3⟩:=hI.live i _ hb
    exact ⟨L,ms,clock,dR,by rw [iD];exact q1,.inr ⟨_,hmem hB,L,by rw [iD];exact q1,rfl⟩,q3⟩
  ·obtain ⟨i, C, e1, e2, e3⟩ := src _ (hmem hb) L hm
   obtain ⟨i',C',K2,e2',e3'⟩:=src _ (hmem hb') L' hm'
   have:=hI.inj i i' C C' L L' e3 e3' e2 e2' e
   subst this
   exact (List.getElem?_inj (List.getElem?_eq_some_iff.1 e1).1 hnd).1 (e1.trans K2.symm)
  ·obtain ⟨i, e1, _⟩ := qW _ (hmem hB)
   exact (List.getElem?_eq_some_iff.1 e1).1
 have hl1:aN ι μ1 vs0 as.toList:=aN.j4 hargs.1 (fun i v u hv hu=>fun {x} hr=>(hargs.2 i v u hv hu).rel hr) hl
 refine (h.2 Y1 ι μ1 w as Ga hl1).mono ?_
 rintro e w' ⟨v,ι',Ua,r,⟨n,bS⟩,rfl,hi,gp,n9,hr,hq⟩
 obtain ⟨hn,r',XM,hr',aac,Zz⟩:=hQ _ _ _ hq
 -- names
 have hsg:∀j i,(sig π nx n)[j]?=some i->(j<π.length/\π[j]?=some i)\/(π.length<=j/\j<n/\i=nx+j):=fun j i e=>by
  unfold sig at e
  rw [List.getElem?_append] at e
  split at e
  ·rename_i hj;exact .inl ⟨hj,e⟩
  ·rename_i hj
   simp only [List.getElem?_map] at e
   cases hh:(List.range' π.length (n - π.length))[j - π.length]? with
   |none=>rw [hh] at e;cases e
   |some z =>
    rw [hh] at e
    simp only [Option.map_some,Option.some.injEq] at e
    obtain ⟨q1,q2⟩:=List.getElem?_eq_some_iff.1 hh
    simp at q1 q2
    exact .inr ⟨by omega,by omega,by omega⟩
 have hinj:∀a b i,(sig π nx n)[a]?=some i->(sig π nx n)[b]?=some i->a=b:=fun a b i ha hb=>by
  rcases hsg _ _ ha with ⟨h1,h2⟩|⟨h1,h2,h3⟩<;>rcases hsg _ _ hb with ⟨h4,h5⟩|⟨h4,h5,h6⟩
  ·exact (List.getElem?_inj h1 hnd).1 (h2.trans h5.symm)
  ·have:=hlt i (List.mem_of_getElem? h2);omega
  ·have:=hlt i (List.mem_of_getElem? h5);omega
  ·omega
 classical
 let μ':Mu:=fun i=>match μ i with
  |some L=>some L
  |none=>if hx:∃j L,(sig π nx n)[j]?=some i/\Ua j=some L then some hx.choose_spec.choose else none
 have hle:μ.le μ':=fun i L hL=>by simp only [μ'];rw [hL]
 have hnew:∀i,μ i=none->∀j L,(sig π nx n)[j]?=some i->Ua j=some L->μ' i=some L:=fun i hi j L hj hL=>by
  have hx:∃j L,(sig π nx n)[j]?=some i/\Ua j=some L:=⟨j,L,hj,hL⟩
  simp only [μ'];rw [hi];simp only;rw [dif_pos hx]
  obtain ⟨q1,q2⟩:=hx.choose_spec.choose_spec
  have key:∀j' L',Ua j'=some L'->j'=j->some L'=some L:=fun j' L' h1 h2=>by subst h2;rw [<-h1,hL]
  exact key _ _ q2 (hinj _ _ _ q1 hj)
 have hσ:∀j i L,(sig π nx n)[j]?=some i->Ua j=some L->μ' i=some L:=fun j i L hj hL=>by
  cases hμ:μ i with
  |none=>exact hnew i hμ j L hj hL
  |some L0 =>
   rcases hsg _ _ hj with ⟨h1,h2⟩|⟨h1,h2,h3⟩
   ·have e : Ua j = some L0 := gp j L0 (by rw [hμ1 j i h2]; exact hμ)
    rw [hL] at e;cases e
    exact hle i _ hμ
   ·rw [hI.nx i (by simp only;omega)] at hμ;cases hμ
 have hσ':∀j i,(sig π nx n)[j]?=some i->∀L,μ' i=some L->Ua j=some L:=fun j i hj L hL=>by
  cases hμ:μ i with
  |some L0 =>
   rw [hle i _ hμ] at hL;cases hL
   rcases hsg _ _ hj with ⟨h1,h2⟩|⟨h1,h2,h3⟩
   ·exact gp j _ (by rw [hμ1 j i h2];exact hμ)
   ·rw [hI.nx i (by simp only;omega)] at hμ;cases hμ
  |none =>
   simp only [μ'] at hL;rw [hμ] at hL;simp only at hL
   split at hL
   ·rename_i hx
    cases hL
    obtain ⟨q1,q2⟩:=hx.choose_spec.choose_spec
    have key:∀j' L',Ua j'=some L'->j'=j->Ua j=some L':=fun j' L' h1 h2=>by subst h2;exact h1
    exact key _ _ q2 (hinj _ _ _ q1 hj)
   ·cases hL
 have Ub:∀{id:Nat} {B:k8} {L:Loc},az id bl=some B->id∉π->μ id=some L->L.b<w.heap.size/\¬X L.b:=fun {id B L} hB hid hL=>by
  refine ⟨((hI.live id B hB).loc hL).2,?_⟩
  rintro ⟨p,hp,L2,hL2,e⟩
  obtain ⟨i,C,e1,e2,e3⟩:=src p hp L2 hL2
  have:=hI.inj i id C B L2 L e3 hB e2 hL e
  subst this
  exact hid (List.mem_of_getElem? e1)
 have hkeep:∀{id:Nat} {B:k8},az id bl=some B->id∉π->μ' id=μ id:=fun {id B} hB hid=>by
  cases hμ:μ id with
  |some L=>exact hle id _ hμ
  |none =>
   simp only [μ'];rw [hμ];simp only
   rw [dif_neg]
   rintro ⟨j,L,hj,_⟩
   have aet:=hI.lt id B hB
   rcases hsg _ _ hj with ⟨h1,h2⟩|⟨h1,h2,h3⟩
   ·exact hid (List.mem_of_getElem? h2)
   ·simp only at aet;omega
 have iJ:∀{id:Nat} {B:k8},az id (XM++yc π bl)=some B->(∃j B0,(sig π nx n)[j]?=some id/\az j bS=some B0/\Tz (sig π nx n) B0=some B)\/(az id bl=some B/\id∉π):=fun {id B} hB=>by
  rw [uO] at hB
  split at hB
  ·rename_i B2 fh;cases hB;exact .inl (AP hinj aac fh)
  ·rw [yd] at hB
   split at hB
   ·cases hB
   ·rename_i hk;exact .inr ⟨hB,hk⟩
 have jQ:IY Y.x Y.w0 w':=by
  have b2:=n9.below
  refine ⟨b2.os.trans hI.below.os,b2.tape.trans hI.below.tape,b2.output.trans hI.below.output,Nat.le_trans hI.below.size b2.size,fun k hk hx=>?_,Nat.le_trans hI.below.dr b2.dr,fun k hk=>(hI.below.maps k hk).trans (b2.maps k (Nat.lt_of_lt_of_le hk hI.below.size))⟩
  rw [b2.block k (Nat.lt_of_lt_of_le hk hI.below.size) (fun hX=>by
   rcases Pw k hX with h|h
   ·omega
   ·exact hx h)]
  exact hI.below.block k hk hx
 have hι:∀b o,b<w.heap.size->¬X b->ι' b o=ι b o:=fun b o hb hx=>n9.iB b o hb hx
 refine ⟨v,ι',μ',r',_,rfl,hi,hle,?_,yb hσ hr' hr,Zz⟩
 refine ⟨jQ,ax.le_trans hI.i0 hi,fun b o hb hx=>?_,n9.rd,Mu.le_trans hI.m0 hle,fun id hid=>?_,fun id B hB=>?_,fun id id' B B' L L' hb hb' hm hm' e=>?_,fun id B hB=>?_,hI.gl⟩
 ·rw [hι b o (Nat.lt_of_lt_of_le hb hI.below.size) (fun hX=>by
   rcases Pw b hX with h|h
   ·omega
   ·exact hx h)]
  exact hI.iB b o hb hx
 ·simp only at hid
  have h0:μ id=none:=hI.nx id (by simp only;omega)
  simp only [μ'];rw [h0];simp only
  rw [dif_neg]
  rintro ⟨j,L,hj,_⟩
  rcases hsg _ _ hj with ⟨h1,h2⟩|⟨h1,h2,h3⟩
  ·have:=hlt id (List.mem_of_getElem? h2);omega
  ·omega
 ·rcases iJ hB with ⟨j, B0, e1, e2, e3⟩ | ⟨hB', hk⟩
  ·have lu := n9.live j B0 e2
   cases B0 with
   |cells cs fz =>
    simp only [Tz] at e3
    split at e3<;>cases e3
    rename_i ds hds
    obtain ⟨L,us,hM,Nx⟩:=lu
    exact ⟨L,us,⟨hσ _ _ _ e1 hM.mu,hown _ hM.old,hM.row,hM.fits,hM.one,hM.Gw,hM.qV⟩,jm (fun _ _ _ h hr=>yb hσ h hr) hds Nx⟩
   |arr t xs fz =>
    cases e3
    rcases lu with ⟨e,hn0⟩|⟨L,us,hM,hc,hl⟩
    ·refine .inl ⟨e, ?_⟩
     cases hμ':μ' id with
     |none=>rfl
     |some L=>rw [hσ' j id e1 L hμ'] at hn0;cases hn0
    ·exact .inr ⟨L,us,⟨hσ _ _ _ e1 hM.mu,hown _ hM.old,hM.row,hM.fits,hM.one,hM.Gw,hM.qV⟩,hc,hl⟩
   |loop st jj d env ps as bd N=>cases e3
   |nL t xs k p v=>cases e3
   |iF =>
    cases e3
    obtain ⟨L,q1,q2,q3⟩:=lu
    exact ⟨L,hσ _ _ _ e1 q1,hown _ q2,q3⟩
   |map kt kg vt vg es =>
    cases e3
    obtain ⟨L,ms,clock,dR,q1,q2,q3,q4,q5⟩:=lu
    exact ⟨L,ms,clock,dR,hσ _ _ _ e1 q1,hown _ q2,q3,q4,q5⟩
  ·have lu := hI.live id B hB'
   refine lu.mono hi hle (fun hn0=>(hkeep hB' hk).trans hn0) (fun L hL=>?_) (fun L hL ho o=>?_)
   ·obtain ⟨h1, h2⟩ := Ub hB' hk hL
    exact n9.below.block _ h1 h2
   ·obtain ⟨h1, h2⟩ := Ub hB' hk hL
    rw [hι _ _ h1 h2];exact ho o
 ·rcases iJ hb with ⟨j, B0, e1, e2, e3⟩ | ⟨hB1, I1⟩ <;> rcases iJ hb' with ⟨j', B0', K2, e2', e3'⟩ | ⟨hB2, hk2⟩
  ·have := n9.inj j j' B0 B0' L L' e2 e2' (hσ' _ _ e1 _ hm) (hσ' _ _ K2 _ hm') e
   subst this;rw [e1] at K2;cases K2;rfl
  ·rw [hkeep hB2 hk2] at hm'
   obtain ⟨h1,h2⟩:=Ub hB2 hk2 hm'
   rcases ((n9.live j B0 e2).loc (hσ' _ _ e1 _ hm)).1 with h3|h3
   ·simp only [Y1] at h3;omega
   ·rw [e] at h3;exact absurd h3 h2
  ·rw [hkeep hB1 I1] at hm
   obtain ⟨h1,h2⟩:=Ub hB1 I1 hm
   rcases ((n9.live j' B0' e2').loc (hσ' _ _ K2 _ hm')).1 with h3|h3
   ·simp only [Y1] at h3;omega
   ·rw [<-e] at h3;exact absurd h3 h2
  ·rw [hkeep hB1 I1] at hm
   rw [hkeep hB2 hk2] at hm'
   exact hI.inj id id' B B' L L' hB1 hB2 hm hm' e
 ·rcases iJ hB with ⟨j, B0, e1, e2, e3⟩ | ⟨hB', hk⟩
  ·rcases hsg _ _ e1 with ⟨h1, h2⟩ | ⟨h1, h2, h3⟩
   ·have:=hlt id (List.mem_of_getElem? h2);simp only;omega
   ·simp only;omega
  ·have:=hI.lt id B hB';simp only at this ⊢;omega
end
end Go.AM
end
section
namespace Go.AM
structure Ht where
 f:Nat
 p:au
 q:au
 fn:p.T->Option q.T
def Ht.Ok (P:Program) (ht:Ht):Prop:=∀x y,ht.fn x=some y ->
 iK P ht.f ((ht.p.E x).map (·.2)) ⟨ht.p.gW.length,ht.p.B x⟩ fun r H=>r=get 0 (ht.q.E y)/\H=⟨ht.p.gW.length+ht.q.gW.length,ht.q.B y⟩
section
variable {P:Program} {R:Type}
def au.rdP (no:R) (p:au) (env:Env) (nx:Nat) (bl:av) (k:List Nat->p.T->R):R :=
 rV no env nx bl [] p.gW [] 0 fun π=>match xX π p.bl with
  |true=>match AK (A:=TY p.bl Unit) π env p.env with
   |some f=>match Pj (A:=Unit) π nx bl p.bl with
    |some g=>k π (f (g ()))
    |none=>no
   |none=>no
  |false=>no
def Ck : List Nat → Bool
 |[]=>true
 |i::r=>match BD i r with
  |true=>false
  |false=>Ck r
theorem AQ : ∀ {l : List Nat}, Ck l = true → l.Nodup
 |[],_=>.nil
 |i::r,h=>by
  simp only [Ck] at h
  split at h
  ·cases h
  ·rename_i hm
   exact List.nodup_cons.2 ⟨(fun hi=>by rw [rK.2 hi] at hm;cases hm),AQ h⟩
def Cl (n : Nat) : List Nat → Bool
 |[]=>true
 |i::r=>match Nat.blt i n with
  |true=>Cl n r
  |false=>false
theorem AR {n : Nat} : ∀ {l : List Nat}, Cl n l = true → ∀ i ∈ l, i < n
 |[],_,i,hi=>by simp at hi
 |j::r,h,i,hi=>by
  simp only [Cl] at h
  split at h
  ·rename_i hj
   rcases List.mem_cons.1 hi with rfl|hi
   ·have : i + 1 ≤ n := by simpa [Nat.blt] using hj
    omega
   ·exact AR h i hi
  ·cases h
def nC : List (Nat × BP) → Bool
 |[]=>true
 |(_,.loop _ _ _ _ _ _ _ _)::_=>false
 |(_,.arr _ _)::r=>nC r
 |(_,.cells _ _)::r=>nC r
 |(_,.iF)::r=>nC r
 |(_,.map _ _ _ _)::r=>nC r
 |(_,.nL _ _ _ _)::r=>nC r
theorem AS {A : Type} : ∀ {ps : List (Nat × BP)} (x : TY ps A), nC ps = true → ∀ p ∈ SQ ps x, ∀ st j d env ps as bd N, p.2 ≠ .loop st j d env ps as bd N
 |[],x,h,p,hp=>by simp [SQ] at hp
 |(s,b)::r,x,h,p,hp=>by
  simp only [SQ,List.mem_cons] at hp
  intro st j d env ps as bd N
  rcases hp with rfl|hp
  ·cases b with
   |loop=>simp [nC] at h
   |arr=>simp [BP.v]
   |cells=>simp [BP.v]
   |iF=>simp [BP.v]
   |map=>simp [BP.v]
   |nL=>simp [BP.v]
  ·refine AS _ ?_ p hp st j d env ps as bd N
   cases b<;>simp [nC] at h<;>exact h
def aae (kz:Kz R) (no:R) (ht:Ht) (vs:List V) (nx:Nat) (bl:av) (K:V->Nat->av->R):R :=
 match an (Nat.beq vs.length ht.p.env.length) (nC ht.p.bl) with
 |true=>ht.p.rdP no (args 0 vs) nx bl fun π x=>match an (Ck π) (Cl (nx+π.length) π) with
  |true=>kz.bd (ht.fn x) fun y=>fN (π.length+ht.q.gW.length) fun n=>ht.q.go n y fun env _ bS _=>match tK (sig π nx n) 8 (get 0 env) with
   |some r'=>match Ek (sig π nx n) bS with
    |some XM=>fBl (XM++yc π bl) fun bl=>fN (nx+n) fun nx=>K r' nx bl
    |none=>kz.no
   |none=>kz.no
  |false=>no
 |false=>no
theorem args_at:∀{vs:List V} {n i:Nat},get i (args n vs)=if n<=i then vs.getD (i - n) .any else .any:=xz
theorem rZ {A : Type} : ∀ {ps : List (Nat × SP)} {x : zP ps A}, (xR ps x).length = ps.length
 |[],_=>rfl
 |(_,_)::r,x=>by simp [xR,rZ (ps:=r)]
theorem Uc {π:List Nat} {vs:List V} {env:Env} (hlen:vs.length=env.length) (hs:env.map (·.1)=List.range env.length) (h:EE π env (args 0 vs)):Di π (env.map (·.2)) vs:=by
 refine ⟨by simp [hlen],fun i v u hv hu=>?_⟩
 rw [List.getElem?_map] at hv
 cases hp:env[i]? with
 |none=>rw [hp] at hv;cases hv
 |some p =>
  rw [hp] at hv;cases hv
  have hi:=(List.getElem?_eq_some_iff.1 hp).1
  have e1:(env.map (·.1))[i]?=(List.range env.length)[i]?:=by rw [hs]
  rw [List.getElem?_map,hp,List.getElem?_range hi] at e1
  simp only [Option.map_some,Option.some.injEq] at e1
  have:=h p (List.mem_of_getElem? hp)
  rw [args_at,e1,if_pos (Nat.zero_le _)] at this
  simp only [Nat.sub_zero] at this
  have e2:vs.getD i .any=u:=by simp [List.getD,hu]
  rwa [e2] at this
theorem oG {A : Type} : ∀ {ps : List (Nat × SP)} {x : zP ps A}, (xR ps x).map (·.1) = ps.map (·.1)
 |[],_=>rfl
 |(_,_)::r,x=>by simp [xR,oG (ps:=r)]
theorem au.XN {p:au} {x:p.T}:(p.E x).length=p.env.length:=rZ
theorem au.vU {p:au} {x:p.T}:(p.E x).map (·.1)=p.env.map (·.1):=oG
def Ht.slots (ht:Ht):Prop:=ht.p.env.map (·.1)=List.range ht.p.env.length
theorem Ud {ht:Ht} (hok:ht.Ok P) (hsl:ht.slots) {X:Type} {no:Option X} {vs:List V} {nx:Nat} {bl:av} {K:V->Nat->av->Option X} {r:X} (h:aae (iL X) no ht vs nx bl K=some r) :
  no=some r\/∀{Q:V->aL->Prop},(∀v nx bl,K v nx bl=some r->Q v ⟨nx,bl⟩)->iK P ht.f vs ⟨nx,bl⟩ Q:=by
 unfold aae at h
 split at h
 ·rename_i h0
  rw [aW] at h0
  have hlen:=Nat.eq_of_beq_eq_true h0.1
  unfold au.rdP at h
  have key:∀{ls:List Lc} {π0:List Nat} {b:Nat} {k:List Nat->Option X},rV no (args 0 vs) nx bl [] ls π0 b k=some r->no=some r\/∃rr,rr.length=ls.length/\k (π0++rr)=some r:=by
   intro ls
   induction ls with
   |nil=>intro π0 b k hk;exact .inr ⟨[],rfl,by simpa [rV] using hk⟩
   |cons l ls ih =>
    intro π0 b k hk
    simp only [rV] at hk
    split at hk
    ·rename_i i hi
     rw [gr,Ce,gr] at hk
     rcases ih hk with hk|⟨rr,h1,h2⟩
     ·exact .inl hk
     ·exact .inr ⟨i::rr,by simp [h1],by simpa using h2⟩
    ·exact .inl hk
  rcases key h with h|⟨π,hπ,h⟩
  ·exact .inl h
  simp only [List.nil_append] at h
  split at h
  ·rename_i hap
   split at h
   ·rename_i f hf
    split at h
    ·rename_i g hg
     split at h
     ·rename_i hnb
      rw [aW] at hnb
      refine .inr fun {Q} hQ=>?_
      obtain ⟨y,hy,h⟩:=qE h
      rw [gr,au.go_eq] at h
      obtain ⟨h1,h2⟩:=rU hf (g ())
      obtain ⟨h3,h4⟩:=Cd hg ()
      split at h<;>try (cases h;done)
      rename_i r' hr'
      split at h<;>try (cases h;done)
      rename_i XM aac
      rw [Cg,gr] at h
      have ic:=hok _ _ hy
      rw [<-hπ] at ic
      have hB:ht.p.B (f (g ()))=SQ ht.p.bl (g ()):=by unfold au.B;rw [h2]
      refine El (Q0:=fun r H=>r=get 0 (ht.q.E y)/\H=⟨π.length+ht.q.gW.length,ht.q.B y⟩) ic ?_ ?_ ?_ (AQ hnb.1) (AR hnb.2) ?_
      ·exact Uc (env:=xR ht.p.env (f (g ()))) (hlen.trans rZ.symm) (oG.trans (hsl.trans (by rw [rZ]))) h1
      ·rw [hB];exact h3
      ·rw [hB];exact AS _ h0.2
      ·rintro r n bS ⟨rfl, e⟩
       cases e
       exact ⟨by omega,r',XM,hr',aac,hQ _ _ _ h⟩
     ·exact .inl h
    ·exact .inl h
   ·exact .inl h
  ·exact .inl h
 ·exact .inl h
def Em (kz : Kz R) (f : Nat) (vs : List V) (nx : Nat) (bl : av) (K : V → Nat → av → R) (no : R) : List Ht → R
 |[]=>no
 |ht::r=>match Nat.beq ht.f f with
  |true=>aae kz (Em kz f vs nx bl K no r) ht vs nx bl K
  |false=>Em kz f vs nx bl K no r
def Px (P : Program) : List Ht → Prop
 |[]=>True
 |c::r=>(c.Ok P/\c.slots)/\Px P r
theorem ye {X:Type} {no:Option X} {f:Nat} {vs:List V} {nx:Nat} {bl:av} {K:V->Nat->av->Option X} {r:X}:∀{hts:List Ht},Px P hts->Em (iL X) f vs nx bl K no hts=some r ->
  no=some r\/∀{Q:V->aL->Prop},(∀v nx bl,K v nx bl=some r->Q v ⟨nx,bl⟩)->iK P f vs ⟨nx,bl⟩ Q
 |[],_,h=>.inl h
 |ht::hts,hok,h=>by
  simp only [Em] at h
  split at h
  ·rename_i hf
   have e:=Nat.eq_of_beq_eq_true hf
   subst e
   rcases Ud hok.1.1 hok.1.2 h with h|h
   ·exact ye hok.2 h
   ·exact .inr h
  ·exact ye hok.2 h
def aK (vS:List Ct) (hts:List Ht):Cx where
 pc kz f vs K:=Ef kz f vs K vS
 ca kz f vs nx bl K:=Em kz f vs nx bl K (Z8 vS kz f vs nx bl K) hts
 rd kz _ _ _ _ _:=kz.no
theorem aq {vS:List Ct} {hts:List Ht} (h:Js P vS) (h2:Px P hts):(aK vS hts).Ok P where
 XG hk:=pM h hk
 TX:=by
  intro X f vs nx bl K r hk Q hQ
  rcases ye h2 hk with hk|hk
  ·exact (T7 h).TX hk hQ
  ·exact hk hQ
 ZZ hk:=by cases hk
theorem LD {f:Nat} {vs:List V} {H:aL} {Q:V->aL->Prop} (h:iK P f vs H fun r H'=>∃r'' H'' π,jw H.next π ⟨[(0,r)],H',[]⟩ ⟨[(0,r'')],H'',[]⟩/\Q r'' H''):iK P f vs H Q :=
 ⟨h.1,fun Y ι μ w as hI hl=>(h.2 Y ι μ w as hI hl).mono fun e w' ⟨v,ι',μ',r,H',h1,h2,h3,h4,h5,r'',H'',π,h6,h7⟩=>by
  let Y2:Ctx:=⟨Y.w0,Y.ι0,fun i=>if i<H.next then μ i else none,Y.ro,Y.x,[]⟩
  have n9:Inv P Y2 ι' μ' H' w':=⟨h4.below,h4.i0,h4.iB,h4.rd,(fun i L hL=>by
   simp only [Y2] at hL
   split at hL
   ·exact h3 _ _ hL
   ·cases hL),h4.nx,h4.live,h4.inj,h4.lt,h4.gl⟩
  have hR:fk P 1 Y2 ι' μ' ⟨[(0,r)],H',[]⟩ { tmps:=#[v],defers:=[] } w':=⟨(fun t=>by
   rw [cq]
   split
   ·rename_i e;subst e;exact h5
   ·exact .any _),rfl,n9,rfl⟩
  have nM:=h6.rep (fun i hi=>by simp only [Y2];rw [if_neg (by omega)]) hR
  have hle:μ.le (μ'.j4 π):=fun i L hL=>by
   have hlt:i<H.next:=by
    rcases Nat.lt_or_ge i H.next with h|h
    ·exact h
    ·rw [hI.nx i h] at hL;cases hL
   exact nM.inv.m0 i L (by simp only [Y2];rw [if_pos hlt];exact hL)
  refine ⟨v,ι',μ'.j4 π,r'',H'',h1,h2,hle,⟨h4.below,h4.i0,h4.iB,h4.rd,Mu.le_trans hI.m0 hle,nM.inv.nx,nM.inv.live,nM.inv.inj,nM.inv.lt,hI.gl⟩,?_,h7⟩
  have:=nM.env 0
  rw [cq,if_pos rfl] at this
  exact this⟩
def AU (kz:Kz R) (rs:List RV) (tys:List (Option Ty)) (K:V->Nat->av->R):Kc R:=fun e env nx bl ms=>match e with
 | .exit _=>kz.no
 | .normal=>go env nx bl ms
 | .ret=>go env nx bl ms
where go (env:Env) (nx:Nat) (bl:av) (ms:List Nat):R:=match eV ms bl with
 |some bl=>match vk dZ ⟨env,⟨nx,bl⟩,[]⟩ rs with
  |some vs=>fV (uE (cV (hTs tys) vs)) fun v=>K v nx bl
  |none=>kz.no
 |none=>kz.no
theorem yf {X : Type} {rs : List RV} {tys : List (Option Ty)} {K : V → Nat → av → Option X} {r : X} {e : Ex} {env : Env} {nx : Nat} {bl : av} {ms : List Nat} (h : AU (iL X) rs tys K e env nx bl ms = some r) {Q : V → aL → Prop}
  (hQ:∀v nx bl,K v nx bl=some r->Q v ⟨nx,bl⟩):BN rs tys Q e ⟨env,⟨nx,bl⟩,ms⟩:=by
 have key:AU.go (iL X) rs tys K env nx bl ms=some r->BN.qv rs tys Q ⟨env,⟨nx,bl⟩,ms⟩:=fun hg=>by
  unfold AU.go at hg
  unfold BN.qv
  split at hg<;>try (cases hg;done)
  rename_i bS h1
  simp only
  rw [h1]
  simp only
  split at hg<;>try (cases hg;done)
  rename_i vs h2
  rw [h2]
  rw [nN] at hg
  exact hQ _ _ _ hg
 cases e with
 |exit i=>cases h
 |normal=>exact key h
 |ret=>exact key h
def hfE {N k:Nat} (kz:Kz R) (cx:Cx) (ar:Ar) (pre:List Nat) (rs:List RV) (tys:List (Option Ty)) (p q:au) (body:D P N none k) (inr:q.T->R) (x:p.T):R :=
 p.go k x fun env nx bl _=>kE kz cx ar body env nx bl [] (AU kz rs tys fun r nx bl=>q.rd kz.no pre k [(0,r)] nx bl [] inr)
theorem Eo : ∀ {env : Env} {n : Nat}, env.map (·.1) = List.range' n env.length → args n (env.map (·.2)) = env
 |[],n,_=>rfl
 |(s,v)::r,n,h=>by
  simp only [List.map_cons,List.length_cons,List.range'_succ,List.cons.injEq] at h
  simp only [List.map_cons,args]
  rw [Eo h.2,h.1]
theorem bA (mixed : P.follows .mixedOrders = true) {cx : Cx} (gF : cx.Ok P) {func : Func} {fn : Fn} {ht : Ht} {k : Nat} (hk : ht.p.gW.length = k) (hf : P.funcs[ht.f]? = some func) (htr : cn P func = some fn) (cH : Enters P ht.f)
  (body:D P fn.N none k) (hbody:body.er=fn.body) (hnp:Nat.ble ht.p.env.length fn.np=true) (hsl:ht.slots) (hq:∃s,ht.q.env=[(0,s)]) (hqm:ht.q.ms=[]) {pre:List Nat} (hpre:pre=List.range k)
  (hfn:∀x,hfE (iL ht.q.T) cx dZ pre fn.res fn.tys ht.p ht.q body some x=ht.fn x):ht.Ok P:=by
 intro x y hxy
 subst hpre
 rw [<-hfn x] at hxy
 unfold hfE at hxy
 rw [au.go_eq] at hxy
 subst hk
 refine LD ?_
 refine kF hf htr cH (iP mixed) (by rw [List.length_map,au.XN];exact Nat.le_of_ble_eq_true hnp) ?_
 have ha:args 0 ((ht.p.E x).map (·.2))=ht.p.E x:=Eo (by rw [au.vU,au.XN,<-List.range_eq_range'];exact hsl)
 rw [ha,<-hbody]
 refine lD gF hxy fun e env nx bl ms hk=>?_
 refine yf hk fun v nx bl hk=>?_
 obtain ⟨y',π,h1,h2⟩:=au.dM hk
 cases h1
 obtain ⟨s,hs⟩:=hq
 have he:ht.q.E y=[(0,get 0 (ht.q.E y))]:=by
  have h1:(ht.q.E y).map (·.1)=[0]:=by rw [au.vU,hs];rfl
  cases h2:ht.q.E y with
  |nil=>rw [h2] at h1;cases h1
  |cons a r =>
   obtain ⟨a1,a2⟩:=a
   rw [h2] at h1
   simp only [List.map_cons,List.cons.injEq,List.map_eq_nil_iff] at h1
   obtain ⟨rfl,rfl⟩:=h1
   rw [cq,if_pos rfl]
 refine ⟨_,_,π,?_,rfl,rfl⟩
 have e:au.st ht.p.gW.length ht.q y=⟨[(0,get 0 (ht.q.E y))],⟨ht.p.gW.length+ht.q.gW.length,ht.q.B y⟩,[]⟩:=by
  unfold au.st;rw [<-he,hqm]
 rw [<-e];exact h2
def Ue {A B : Type} (F : (A → Option B) → A → Option B) : Nat → A → Option B
 |0=>fun _=>none
 |n+1=>F (Ue F n)
noncomputable def tY {A B:Type} (F:(A->Option B)->A->Option B) (x:A):Option B:=by
 classical exact if h:∃(N:Nat) (y:B),∀n,N<=n->Ue F n x=some y then some h.choose_spec.choose else none
theorem AV {A B:Type} {F:(A->Option B)->A->Option B} {x:A} {y:B} (h:tY F x=some y):∃n,Ue F n x=some y:=by
 unfold tY at h
 split at h
 ·rename_i hx;cases h;exact ⟨hx.choose,hx.choose_spec.choose_spec _ (Nat.le_refl _)⟩
 ·cases h
theorem Jv {A B:Type} {F:(A->Option B)->A->Option B} {x:A} {y:B} {N:Nat} (h:∀n,N<=n->Ue F n x=some y):tY F x=some y:=by
 unfold tY
 have hx:∃(N:Nat) (y:B),∀n,N<=n->Ue F n x=some y:=⟨N,y,h⟩
 rw [dif_pos hx]
 have h1:=hx.choose_spec.choose_spec (max N hx.choose) (Nat.le_max_right _ _)
 rw [h _ (Nat.le_max_left _ _)] at h1
 exact h1.symm
theorem Cm {f:Nat} {p q:au} {F:(p.T->Option q.T)->p.T->Option q.T} (h:∀rec,Ht.Ok P ⟨f,p,q,rec⟩->Ht.Ok P ⟨f,p,q,F rec⟩):Ht.Ok P ⟨f,p,q,tY F⟩:=by
 have key:∀n,Ht.Ok P ⟨f,p,q,Ue F n⟩:=by
  intro n
  induction n with
  |zero=>intro x y hxy;cases hxy
  |succ n ih=>exact h _ ih
 intro x y hxy
 obtain ⟨n,hn⟩:=AV hxy
 exact key n x y hn
theorem ct_fix {f:Nat} {ps:List SP} {res:SP} {F:(qH ps Unit->Option (res.T Unit))->qH ps Unit->Option (res.T Unit)} (h:∀rec,Ct.Ok P ⟨f,ps,res,rec⟩->Ct.Ok P ⟨f,ps,res,F rec⟩):Ct.Ok P ⟨f,ps,res,tY F⟩:=by
 have key:∀n,Ct.Ok P ⟨f,ps,res,Ue F n⟩:=by
  intro n
  induction n with
  |zero=>intro x y hxy;cases hxy
  |succ n ih=>exact h _ ih
 intro x y hxy
 obtain ⟨n,hn⟩:=AV hxy
 exact key n x y hn
end
end Go.AM
end
section
namespace Go.AM
open Go.RowKit Go.ChangeShapes Go.WideShapes
def holes (tys:List Ty):List SP:=tys.map fun t=>.c (.hole t)
def Ep : (tys : List Ty) → qH (holes tys) Unit → Prop
 |[],_=>True
 |t::r,x=>Wf t x.1/\Ep r x.2
section
variable {P:Program} {H:Type} {enc:TypeId×Value->H} {W:World} {base:Nat}
def qi (P : Program) (t : TypeId) : Ty → Bool
 | .unit=>false
 | .prod _ _=>match P.underlying t with
  |some (.struct _)=>true
  |some (.array _ _)=>true
  |_=>false
 |_=>match P.underlying t with
  |some (.struct _)=>false
  |some (.array _ _)=>false
  |_=>true
theorem Py {t : TypeId} {ty : Ty} (hok : gq P 8 t ty = true) (LF : qi P t ty = true) {v : Value} (hv : Value.okWide P W .any base t v) {d : DataW H} {p : List MemPlace}
  (h:DataW.Trod enc P W 0 (fun _=>true) true t v d p):∃y:ty.den,Rel (jJ W) (fun _=>none) (tyV ty y) v/\Wf ty y:=by
 obtain ⟨fuel,hf⟩:=h
 obtain ⟨y,hy,wy⟩:=OQ hok hf
 refine ⟨y,?_,wy⟩
 cases ty with
 |unit=>simp [qi] at LF
 |bool =>
  cases hu:P.underlying t with
  |none=>simp [gq,hu] at hok
  |some u =>
   cases u<;>first|(exfalso;simp [qi,hu] at LF;done)|(exfalso;simp [gq,hu] at hok;done)|simp [gq,hu] at hok
   ·obtain ⟨b, rfl⟩ := okWide_bool hu hv
    simp only [aj,Value.cells,List.cons.injEq,Value.bool.injEq,and_true] at hy
    subst hy;exact .bool _
 |str =>
  cases hu:P.underlying t with
  |none=>simp [gq,hu] at hok
  |some u =>
   cases u<;>first|(exfalso;simp [qi,hu] at LF;done)|(exfalso;simp [gq,hu] at hok;done)|simp [gq,hu] at hok
   ·obtain ⟨b, rfl⟩ := okWide_string hu hv
    simp only [aj,Value.cells,List.cons.injEq,Value.string.injEq,and_true] at hy
    subst hy;exact .str _
 |int k =>
  cases hu:P.underlying t with
  |none=>simp [gq,hu] at hok
  |some u =>
   cases u<;>first|(exfalso;simp [qi,hu] at LF;done)|(exfalso;simp [gq,hu] at hok;done)|simp [gq,hu] at hok
   ·subst hok
    obtain ⟨b,rfl⟩:=okWide_int hu hv
    simp only [aj,Value.cells,List.cons.injEq,Value.int.injEq,true_and,and_true] at hy
    subst hy;exact .int _ _
 |list te =>
  cases hu:P.underlying t with
  |none=>simp [gq,hu] at hok
  |some u =>
   cases u<;>first|(exfalso;simp [qi,hu] at LF;done)|(exfalso;simp [gq,hu] at hok;done)|simp [gq,hu] at hok
   ·obtain ⟨a, len, cap, rfl⟩ := okWide_slice hu hv
    exact .fJ _ _ _ hy
 |cG d g a =>
  cases hu:P.underlying t with
  |none=>simp [gq,hu] at hok
  |some u =>
   cases u<;>first|(exfalso;simp [qi,hu] at LF;done)|(exfalso;simp [gq,hu] at hok;done)|simp [gq,hu] at hok
 |prod a b =>
  cases hu:P.underlying t with
  |none=>simp [gq,hu] at hok
  |some u =>
   have hcs:∃cs:Array Value,v = .agg cs:=by
    cases u<;>simp [gq,hu] at hok
    ·simp only [Value.okWide,hu] at hv;obtain ⟨cs,h1,_⟩:=hv;exact ⟨cs,h1⟩
    ·obtain ⟨cs,h1,_⟩:=okWide_struct hu hv;exact ⟨cs,h1⟩
   obtain ⟨cs,rfl⟩:=hcs
   have hr:=fC (μ:=fun _=>none) hy
   refine .agg _ cs ?_ (fun i v x hv hx=>hr.2 i v x hv (by simpa [Value.cells] using hx)) ?_
   ·have:=hr.1;simpa [Value.cells] using this
   ·intro x hx;exact aj.one hy x (by simpa [Value.cells] using hx)
theorem uP:∀{ts:List TypeId} {tys:List Ty} {vs:List Value} {ds:List (DataW H)} {p:List MemPlace},ts.length=tys.length->(∀(i:Nat) t ty,ts[i]?=some t->tys[i]?=some ty->gq P 8 t ty=true/\qi P t ty=true) ->
  (∀(j:Nat) t v,ts[j]?=some t->vs[j]?=some v->Value.okWide P W .any base t v)->DataW.TrodAll enc P W 0 (fun _=>true) true ts vs ds p ->
  ∃x:qH (holes tys) Unit,aN (jJ W) (fun _=>none) (Ec (holes tys) x) vs/\Ep tys x
 |[],[],vs,ds,p,_,_,_,h=>by
  obtain ⟨rfl,_,_⟩:=trodAll_nil h
  exact ⟨(),.nil,trivial⟩
 |t::ts,ty::tys,vs,ds,p,hl,hok,hv,h=>by
  obtain ⟨v,vs',d,ds',p1,q,rfl,rfl,rfl,h1,h2⟩:=trodAll_cons h
  obtain ⟨k1,k2⟩:=hok 0 t ty rfl rfl
  obtain ⟨y,hy,wy⟩:=Py k1 k2 (hv 0 t v rfl rfl) h1
  obtain ⟨x,hx,wx⟩:=uP (by simpa using hl) (fun i t ty ht DG=>hok (i+1) t ty (by simpa using ht) (by simpa using DG)) (fun j t v ht qw=>hv (j+1) t v (by simpa using ht) (by simpa using qw)) h2
  exact ⟨(y,x),.cons hy hx,wy,wx⟩
 |[],_::_,_,_,_,hl,_,_,_=>by simp at hl
 |_::_,[],_,_,_,hl,_,_,_=>by simp at hl
theorem qj (hl:laidOutB P=true) {W':World} (hb:Below W.heap.size W W'):∀{ts:List TypeId} {vs:List Value} {ds:List (DataW H)} {p:List MemPlace},(∀t∈ts,P.readableRec t=true/\t<P.types.size) ->
  DataW.TrodAll enc P W 0 (fun _=>true) true ts vs ds p->(∀x∈p,x.block<W.heap.size)->DataW.TrodAll enc P W' 0 (fun b=>decide (b<W.heap.size)) true ts vs ds p
 |[],vs,ds,p,_,h,_=>by
  obtain ⟨rfl,rfl,rfl⟩:=trodAll_nil h
  exact trodAll_mk0
 |t::ts,vs,ds,p,ht,h,hp=>by
  obtain ⟨v,vs',d,ds',p1,q,rfl,rfl,rfl,h1,h2⟩:=trodAll_cons h
  obtain ⟨k1,k2⟩:=ht t (List.mem_cons_self ..)
  exact trodAll_cons_mk (Below.trod hl k1 k2 h1 hb (fun x hx=>hp x (List.mem_append_left _ hx))) (qj hl hb (fun t ht'=>ht t (List.mem_cons_of_mem _ ht')) h2 (fun x hx=>hp x (List.mem_append_right _ hx)))
end
def qI (P : Program) : List TypeId → List Ty → Bool
 |[],[]=>true
 |t::ts,ty::tys=>gq P 8 t ty&&qi P t ty&&P.readableRec t&&Nat.blt t P.types.size&&qI P ts tys
 |_,_=>false
theorem yg {P : Program} : ∀ {ts : List TypeId} {tys : List Ty}, qI P ts tys = true → ts.length = tys.length ∧ (∀ (i : Nat) t ty, ts[i]? = some t → tys[i]? = some ty → gq P 8 t ty = true ∧ qi P t ty = true) ∧ ∀ t ∈ ts, P.readableRec t = true ∧ t < P.types.size
 |[],[],_=>⟨rfl,fun i t ty h=>by simp at h,fun t h=>by simp at h⟩
 |t::ts,ty::tys,h=>by
  simp only [qI,Bool.and_eq_true] at h
  obtain ⟨⟨⟨⟨h1,h2⟩,h3⟩,h4⟩,h5⟩:=h
  obtain ⟨k1,k2,k3⟩:=yg h5
  refine ⟨by simp [k1],fun i t' ty' ht DG=>?_,fun t' ht=>?_⟩
  ·cases i with
   |zero=>simp at ht DG;subst ht;subst DG;exact ⟨h1,h2⟩
   |succ i=>exact k2 i t' ty' (by simpa using ht) (by simpa using DG)
  ·rcases List.mem_cons.1 ht with rfl | ht
   ·exact ⟨h3,by simpa [Nat.blt,Nat.succ_le_iff] using h4⟩
   ·exact k3 t' ht
 |[],_::_,h=>by simp [qI] at h
 |_::_,[],h=>by simp [qI] at h
theorem zT {P : Program} {H : Type} {enc : TypeId × Value → H} {f : FuncId} {fn : Func} {s : ChangeSpec} (tys : List Ty) (laid : laidOutB P = true) (hvars : s.vars = []) (aaf : qI P fn.params.toList tys = true)
  {tb:TypeId} (hres:fn.resultTypes=#[tb]) (htb:P.underlying tb=some .bool)
  (hs:∀ds:List (DataW H),ds.length=tys.length->(s.fn H ds).results=[.lit (.bool true)]/\(s.fn H ds).args=ds/\(s.fn H ds).vars=[])
  {F:qH (holes tys) Unit->Option (Bool×Unit)} (hct:Ct.Ok P ⟨f,holes tys,.c (.hole .bool),F⟩) (hF:∀x,Ep tys x->F x=some (true,()))
  {W:World} {base:Nat} {args:Array Value} {ds gs:List (DataW H)} {before:List MemPlace} (hgl:jv P (jJ W)) (hval:∀(j:Nat) t v,fn.params[j]?=some t->args[j]?=some v->Value.okWide P W .any base t v)
  (hW:DataW.Whole enc P fn.params.toList s.vars false W args.toList ds gs before) :
  Calls P f args W fun e W'=>∃v,e = .returned v/\s.post enc P fn false true false false W args v W':=by
 have hW':=hW
 obtain ⟨p,q,hA,hV,rfl,hfz,hnd⟩:=hW
 rw [hvars] at hV
 obtain ⟨rfl,rfl⟩:=trodVars_none hV
 obtain ⟨k1,k2,k3⟩:=yg aaf
 obtain ⟨x,hx,wx⟩:=uP (base:=base) k1 k2 (fun j t v ht hv=>hval j t v (by simpa using ht) (by simpa using hv)) hA
 have hlen:ds.length=tys.length:=by
  rw [<-k1]
  have:∀{ts:List TypeId} {vs:List Value} {ds:List (DataW H)} {p:List MemPlace},DataW.TrodAll enc P W 0 (fun _=>true) true ts vs ds p->ds.length=ts.length:=by
   intro ts
   induction ts with
   |nil=>intro vs ds p h;obtain ⟨rfl,rfl,rfl⟩:=trodAll_nil h;rfl
   |cons t ts ih=>intro vs ds p h;obtain ⟨v,vs',d,ds',p1,q,rfl,rfl,rfl,h1,h2⟩:=trodAll_cons h;simp [ih h2]
  exact this hA
 simp only [List.append_nil] at hW'
 have ic:=(hct x (true,()) (hF x wx)).2 (jJ W) W args hgl (fun b o x h=>h) hx
 refine (callsIn_wide.1 ic).mono ?_
 rintro e W' ⟨v,ι',rfl,_,_,_,jQ,hr⟩
 have hv:v = .bool true:=by
  have hr':Rel ι' (fun _=>none) (.bool true) v:=hr
  cases hr';rfl
 subst hv
 have hlt:∀x∈p,x.block<W.heap.size:=fun x hx=>hW'.lt x hx
 obtain ⟨s1,s2,s3⟩:=hs (ds++[]) (by simpa using hlen)
 simp only [List.append_nil] at s1 s2 s3
 refine ⟨_,rfl,ds,[],p,[],p,[],hW',?_,?_,?_,jQ.b.frame _,fun h=>by cases h⟩
 ·simp only [List.append_nil]
  rw [s1,hres]
  exact trodAll_cons_mk (p:=[]) (p':=[]) (shut_bool htb _) trodAll_mk0
 ·simp only [List.append_nil]
  rw [s2]
  exact qj laid jQ.b k3 hA hlt
 ·simp only [List.append_nil]
  rw [s3,hvars]
  rfl
theorem Cn {P : Program} {H : Type} {enc : TypeId × Value → H} {f : FuncId} {fn : Func} {s : ChangeSpec} (tys : List Ty) (laid : laidOutB P = true) (hvars : s.vars = []) (aaf : qI P fn.params.toList tys = true)
  {tb:TypeId} (hres:fn.resultTypes=#[tb]) (htb:P.underlying tb=some .bool)
  (hs:∀ds:List (DataW H),ds.length=tys.length->(s.fn H ds).results=[.lit (.bool true)]/\(s.fn H ds).args=ds/\(s.fn H ds).vars=[])
  {F:qH (holes tys) Unit->Option (Bool×Unit)} (hct:Ct.Ok P ⟨f,holes tys,.c (.hole .bool),F⟩) (hF:∀x,Ep tys x->F x=some (true,()))
  {W:World} {base:Nat} {args:Array Value} {ds gs:List (DataW H)} {before:List MemPlace} (hno:(List.range P.globals.size).all (fun g=>(pq P g).isNone)=true) (hval:∀(j:Nat) t v,fn.params[j]?=some t->args[j]?=some v->Value.okWide P W .any base t v)
  (hW:DataW.Whole enc P fn.params.toList s.vars false W args.toList ds gs before) :
  Calls P f args W fun e W'=>∃v,e = .returned v/\s.post enc P fn false true false false W args v W' :=
 zT tys laid hvars aaf hres htb hs hct hF (jv.none hno _) hval hW
end Go.AM
end
section
namespace Go.AM
theorem aC {z:Int} (h1 : -9223372036854775808<=z) (h2:z<=9223372036854775807):cN .i64 z=true:=by
 have e1:IntKind.i64.min = -9223372036854775808:=by decide
 have e2:IntKind.i64.max=9223372036854775807:=by decide
 simp only [cN,e1,e2,Bool.and_eq_true,decide_eq_true_eq]
 exact ⟨h1,h2⟩
theorem aQ {i n:Int} (h:0<=i) (h2:i<n):bR i n=true:=by simp [bR,h,h2]
theorem r8 {X:Type} {z:Int} {x:Option X} (h1 : -9223372036854775808<=z) (h2:z<=9223372036854775807):need (cN .i64 z) x=x:=iS (aC h1 h2)
theorem Er {X:Type} {i n:Int} {x:Option X} (h:0<=i) (h2:i<n):need (bR i n) x=x:=iS (aQ h h2)
theorem b8 {X:Type} {p:Prop} [Decidable p] {x:Option X} (h:p):need (decide p) x=x:=iS (decide_eq_true h)
theorem Pz {X:Type} {c:Bool} {x y:Option X} (h:c=true):k9 c x y=x:=by rw [h,bt]
theorem Hi {X:Type} {c:Bool} {x y:Option X} (h:c=false):k9 c x y=y:=by rw [h,aM]
theorem aI {X:Type} {p:Prop} [Decidable p] {x y:Option X}:k9 (decide p) x y=if p then x else y:=by
 by_cases h:p<;>simp [h]
theorem aY {X:Type} {a b:Int} {x y:Option X}:k9 (a==b) x y=if a=b then x else y:=by
 by_cases h:a=b
 ·simp [h]
 ·have : (a == b) = false := by simpa using h
  rw [this,aM,if_neg h]
theorem bB {X:Type} {c:Bool} {x y:Option X}:k9 (!c) x y=k9 c y x:=by cases c<;>simp
theorem ag {A X:Type} {o:Option A} {a:A} {f:A->Option X} (h:o=some a):cE o f=f a:=by rw [h,aF]
theorem yh {α β:Type} {step:α->Option (α ⊕ β)} (n:Nat) (g:Nat->α) {b:β} (hr:∀k,k<n->step (g k)=some (.inl (g (k+1)))) (he:step (g n)=some (.inr b)):iter step (g 0)=some b:=by
 have key:∀m k,k+m=n->iter step (g k)=some b:=by
  intro m
  induction m with
  |zero=>intro k hk;rw [show k=n by omega];exact jo he
  |succ m ih=>intro k hk;exact oC (hr k (by omega)) (ih (k+1) (by omega))
 exact key n 0 (by omega)
end Go.AM
end
section
namespace Go.AM
end Go.AM
end
section
namespace Go.AM
@[reducible] def NA {A B:Type} {Y:Type _} (f:A->Y) (g:B->Y) (z:A ⊕ B):Y:=match z with
 | .inl a=>f a
 | .inr b=>g b
inductive Tr:Type->Type->Type->Type 1 where
 |ret {A0 B0 X:Type} (x:X):Tr A0 B0 X
 |no {A0 B0 X:Type}:Tr A0 B0 X
 |br {A0 B0 X:Type} (c:Bool) (a b:Tr A0 B0 X):Tr A0 B0 X
 |am {A0 B0 X:Type} (d:DecidableEq X) (a b:Tr A0 B0 X):Tr A0 B0 X
 |nd {A0 B0 X:Type} (c:Bool) (a:Tr A0 B0 X):Tr A0 B0 X
 |bd {A0 B0 A X:Type} (o:Tr A0 B0 A) (k:A->Tr A0 B0 X):Tr A0 B0 X
 |jx {A0 B0 A X:Type} (o:Tr A0 B0 (A ⊕ X)) (k:A->Tr A0 B0 X):Tr A0 B0 X
 |sm {A0 B0 A B X:Type} (z:A ⊕ B) (f:A->Tr A0 B0 X) (g:B->Tr A0 B0 X):Tr A0 B0 X
 |it {A0 B0 A B:Type} (step:A->Tr A0 B0 (A ⊕ B)) (x:A):Tr A0 B0 B
 |rc {A0 B0:Type} (x:A0):Tr A0 B0 B0
 |fx {A0 B0 A1 B1:Type} (body:A1->Tr A1 B1 B1) (x:A1):Tr A0 B0 B1
 |up {A0 B0 X:Type} (t:Tr Unit Unit X):Tr A0 B0 X
 |of {A0 B0 X:Type} (o:Option X):Tr A0 B0 X
 |mp {A0 B0 E A B:Type} (step:E->A->Tr A0 B0 (A ⊕ B)) (es:List E) (x:A):Tr A0 B0 (A ⊕ B)
 |mq {A0 B0 E A:Type} (step:E->A->Tr A0 B0 A) (es:List E) (x:A):Tr A0 B0 A
 |an {A0 B0 E X:Type} (es:List E) (k:List E->Tr A0 B0 X):Tr A0 B0 X
 |fm {A0 B0 E A:Type} (step:E->A->Tr A0 B0 A) (l:List E) (x:A):Tr A0 B0 A
abbrev bG (X:Type):=Tr Unit Unit X
noncomputable def run : {A0 B0 X : Type} → (A0 → Option B0) → Tr A0 B0 X → Option X
 |_,_,_,_,.ret x=>some x
 |_,_,_,_,.no=>none
 |_,_,_,r,.br c a b=>k9 c (run r a) (run r b)
 |_,_,_,r,.am _ a b=>GZ (run r a) (run r b)
 |_,_,_,r,.nd c a=>need c (run r a)
 |_,_,_,r,.bd o k=>cE (run r o) fun a=>run r (k a)
 |_,_,_,r,.jx o k=>cE (run r o) (NA (fun a=>run r (k a)) some)
 |_,_,_,r,.sm z f g=>match z with
  | .inl x=>run r (f x)
  | .inr y=>run r (g y)
 |_,_,_,r,.it step x=>iter (fun a=>run r (step a)) x
 |_,_,_,r,.rc x=>r x
 |_,_,_,_,.fx body x=>tY (fun r y=>run r (body y)) x
 |_,_,_,_,.up t=>run (fun _=>none) t
 |_,_,_,_,.of o=>o
 |_,_,_,r,.mp step es x=>iQ (fun l=>zL (fun e a=>run r (step e a)) l x) es
 |_,_,_,r,.mq step es x=>iQ (fun l=>AF (fun e a=>run r (step e a)) l x) es
 |_,_,_,r,.an es k=>iQ (fun l=>run r (k l)) es
 |_,_,_,r,.fm step l x=>AF (fun e a=>run r (step e a)) l x
noncomputable abbrev ai {X:Type} (t:bG X):Option X:=run (fun _=>none) t
section
variable {A0 B0 A1 B1 A B X:Type} {r:A0->Option B0}
theorem aa {x:X}:run r (.ret x)=some x:=rfl
theorem ah {c:Bool} {a b:Tr A0 B0 X}:run r (.br c a b)=k9 c (run r a) (run r b):=rfl
theorem aag {d:DecidableEq X} {a b:Tr A0 B0 X}:run r (.am d a b)=GZ (run r a) (run r b):=rfl
theorem aS {c:Bool} {a:Tr A0 B0 X}:run r (.nd c a)=need c (run r a):=rfl
theorem ay {o:Tr A0 B0 A} {k:A->Tr A0 B0 X}:run r (.bd o k)=cE (run r o) fun a=>run r (k a):=rfl
theorem Hj {o:Tr A0 B0 (A ⊕ X)} {k:A->Tr A0 B0 X}:run r (.jx o k)=cE (run r o) (NA (fun a=>run r (k a)) some):=rfl
theorem lX {x:A} {f:A->Tr A0 B0 X} {g:B->Tr A0 B0 X}:run r (.sm (.inl x) f g)=run r (f x):=rfl
theorem jA {y:B} {f:A->Tr A0 B0 X} {g:B->Tr A0 B0 X}:run r (.sm (.inr y) f g)=run r (g y):=rfl
theorem bf {step:A->Tr A0 B0 (A ⊕ B)} {x:A}:run r (.it step x)=iter (fun a=>run r (step a)) x:=rfl
theorem aah {x:A0}:run r (.rc x)=r x:=rfl
theorem yj {o:Option X}:run r (.of o)=o:=rfl
theorem aai {E:Type} {step:E->A->Tr A0 B0 (A ⊕ B)} {es:List E} {x:A}:run r (.mp step es x)=iQ (fun l=>zL (fun e a=>run r (step e a)) l x) es:=rfl
theorem Co {E:Type} {es:List E} {k:List E->Tr A0 B0 X}:run r (.an es k)=iQ (fun l=>run r (k l)) es:=rfl
theorem Cp {E:Type} {step:E->A->Tr A0 B0 A} {l:List E} {x:A}:run r (.fm step l x)=AF (fun e a=>run r (step e a)) l x:=rfl
theorem Hl {E:Type} {step:E->A->Tr A0 B0 A} {es:List E} {x:A}:run r (.mq step es x)=iQ (fun l=>AF (fun e a=>run r (step e a)) l x) es:=rfl
end
@[reducible] def Tr.ni {A0 B0 X:Type} (z:Int) (a:Tr A0 B0 X):Tr A0 B0 X:=.nd (cN .i64 z) a
@[reducible] def Tr.nb {A0 B0 X:Type} (i n:Int) (a:Tr A0 B0 X):Tr A0 B0 X:=.nd (bR i n) a
theorem aG {A0 B0 X:Type} {r:A0->Option B0} {z:Int} {a:Tr A0 B0 X}:run r (.ni z a)=need (cN .i64 z) (run r a):=rfl
theorem aH {A0 B0 X:Type} {r:A0->Option B0} {i n:Int} {a:Tr A0 B0 X}:run r (.nb i n a)=need (bR i n) (run r a):=rfl
def flatK : {A0 B0 A X : Type} → Tr A0 B0 A → (A → Tr A0 B0 X) → Tr A0 B0 X
 |_,_,_,_,.ret x,k=>k x
 |_,_,_,_,.no,_=>.no
 |_,_,_,_,.br c a b,k=>.br c (flatK a k) (flatK b k)
 |_,_,_,_,.am d a b,k=>.bd (.am d a b) k
 |_,_,_,_,.nd c a,k=>.nd c (flatK a k)
 |_,_,_,_,.bd o f,k=>.bd o fun a=>flatK (f a) k
 |_,_,_,_,.jx o f,k=>flatK o (NA (fun a=>flatK (f a) k) k)
 |_,_,_,_,.sm z f g,k=>.sm z (fun x=>flatK (f x) k) (fun y=>flatK (g y) k)
 |_,_,_,_,.it step x,k=>.bd (.it step x) k
 |_,_,_,_,.rc x,k=>.bd (.rc x) k
 |_,_,_,_,.fx b x,k=>.bd (.fx b x) k
 |_,_,_,_,.up t,k=>.bd (.up t) k
 |_,_,_,_,.of o,k=>.bd (.of o) k
 |_,_,_,_,.mp s es x,k=>.bd (.mp s es x) k
 |_,_,_,_,.mq s es x,k=>.bd (.mq s es x) k
 |_,_,_,_,.an es f,k=>.bd (.an es f) k
 |_,_,_,_,.fm s l x,k=>.bd (.fm s l x) k
def flat {A0 B0 X:Type} (t:Tr A0 B0 X):Tr A0 B0 X:=flatK t .ret
theorem Uf {A X:Type} {c:Bool} {a b:Option A} {f:A->Option X}:cE (k9 c a b) f=k9 c (cE a f) (cE b f):=by cases c<;>simp
theorem Jw {X:Type} {x:Option X}:need false x=none:=by
 cases h:need false x with
 |none=>rfl
 |some y=>have:=(cW h).1;cases this
theorem Ug {A X:Type} {c:Bool} {a:Option A} {f:A->Option X}:cE (need c a) f=need c (cE a f):=by
 cases c
 ·rw [Jw,Jw,pI]
 ·rw [iS rfl,iS rfl]
theorem Jx {A B X:Type} {o:Option A} {f:A->Option B} {g:B->Option X}:cE (cE o f) g=cE o fun a=>cE (f a) g:=by
 cases o with
 |none=>rw [pI,pI,pI]
 |some a=>rw [aF,aF]
theorem Ho {A:Type} {o:Option A}:cE o (fun a=>some a)=o:=by
 cases o with
 |none=>rw [pI]
 |some a=>rw [aF]
theorem fM : {A0 B0 A X : Type} → (r : A0 → Option B0) → (t : Tr A0 B0 A) → (k : A → Tr A0 B0 X) → run r (flatK t k) = cE (run r t) fun a => run r (k a)
 |_,_,_,_,r,.ret x,k=>by simp only [flatK,run,aF]
 |_,_,_,_,r,.no,k=>by simp only [flatK,run,pI]
 |_,_,_,_,r,.br c a b,k=>by simp only [flatK,run,Uf,fM r a k,fM r b k]
 |_,_,_,_,r,.am d a b,k=>by simp only [flatK,run]
 |_,_,_,_,r,.nd c a,k=>by simp only [flatK,run,Ug,fM r a k]
 |_,_,_,_,r,.bd o f,k=>by simp only [flatK,run,Jx,fM r (f _) k]
 |_,_,_,_,r,.jx o f,k=>by
  simp only [flatK,run,Jx,fM r o _]
  congr 1
  funext z
  cases z with
  |inl a=>simp only [fM r (f a) k]
  |inr x=>simp only [aF]
 |_,_,_,_,r,.sm z f g,k=>by
  cases z with
  |inl x=>simp only [flatK,run,fM r (f x) k]
  |inr y=>simp only [flatK,run,fM r (g y) k]
 |_,_,_,_,r,.it step x,k=>by simp only [flatK,run]
 |_,_,_,_,r,.rc x,k=>by simp only [flatK,run]
 |_,_,_,_,r,.fx b x,k=>by simp only [flatK,run]
 |_,_,_,_,r,.up t,k=>by simp only [flatK,run]
 |_,_,_,_,r,.of o,k=>by simp only [flatK,run]
 |_,_,_,_,r,.mp s es x,k=>by simp only [flatK,run]
 |_,_,_,_,r,.mq s es x,k=>by simp only [flatK,run]
 |_,_,_,_,r,.an es f,k=>by simp only [flatK,run]
 |_,_,_,_,r,.fm s l x,k=>by simp only [flatK,run]
theorem ym {A0 B0 X:Type} {r:A0->Option B0} {t:Tr A0 B0 X}:run r (flat t)=run r t:=by
 unfold flat
 rw [fM]
 simp only [run]
 exact Ho
end Go.AM
end
section
namespace Go.AM
inductive LR (P:Program) (N:Nat) (out:Option Nat) (base:Nat):Type 1 where
 |l (x:bu P N out base)
 |r (x:gE P N out base)
 |m (x:rP P N out base)
 |x
def nl : C → Nat
 | .seq a b=>nl a+nl b
 | .cond _ a b=>nl a+nl b
 | .block _ a=>nl a
 | .loop _=>1
 | .bM _ _ _ _=>1
 | .gV _ _ _ _ _ _ _ _ _ _ _=>1
 |_=>0
section
variable {P:Program} {N:Nat} {out:Option Nat} {base:Nat}
def Uh : List (LR P N out base) → Nat → LR P N out base
 |[],_=>.x
 |y::_,0=>y
 |_::r,n+1=>Uh r n
def dO (ls : List (LR P N out base)) : C → Nat → D P N out base
 | .skip,_=>.skip
 | .aZ is,_=>.aZ is
 | .draw ps is,_=>.draw ps is
 | .seq a b,i=>.seq (dO ls a i) (dO ls b (i+nl a))
 | .cond c a b,i=>.cond c (dO ls a i) (dO ls b (i+nl a))
 | .block n a,i=>.block n (dO ls a i)
 | .loop c,i=>match Uh ls i with
  | .l l=>.loop l
  |_=>.loop (Pu c)
 | .exit n,_=>.exit n
 | .ret,_=>.ret
 | .bM f ps a b,i=>match Uh ls i with
  | .r l=>.bM l
  |_=>.bM (LC f ps a b)
 | .gV p m t cl e kt kg vt vg d b,i=>match Uh ls i with
  | .m l=>.gV l
  |_=>.gV (T9 p m t cl e kt kg vt vg d b)
end
def tZ (b : Bool) : C → Nat → C
 | .seq x y,k=>match Nat.blt k (nl x) with
  |true=>tZ b x k
  |false=>tZ b y (k - nl x)
 | .cond _ x y,k=>match Nat.blt k (nl x) with
  |true=>tZ b x k
  |false=>tZ b y (k - nl x)
 | .block _ x,k=>tZ b x k
 | .loop c,_=>c
 | .bM _ _ x y,_=>match b with
  |true=>y
  |false=>x
 | .gV _ _ _ _ _ _ _ _ _ _ x,_=>x
 |c,_=>c
def pick : C → List (Nat × Bool) → C
 |c,[]=>c
 |c,(k,b)::r=>pick (tZ b c k) r
def kd (P:Program) (f:Func):C:=match cn P f with
 |some t=>t.body
 |none=>.skip
@[reducible] def hI:SP:=.c (.hole (.int .i64))
@[reducible] def hL:SP:=.c (.hole (.list (.int .i64)))
@[reducible] def hLL:SP:=.c (.hole (.list (.list (.int .i64))))
@[reducible] def tI:Ty:=.int .i64
@[reducible] def tL:Ty:=.list (.int .i64)
end Go.AM
end
section
namespace Go.AM
section
variable {P:Program} {N:Nat} {out:Option Nat} {base:Nat}
end
section
variable {P:Program} {N:Nat} {out:Option Nat} {base:Nat}
theorem get_none : ∀ {env : Env} {t : Nat}, t ∉ env.map (·.1) → get t env = .any
 |[],_,_=>rfl
 |(s,v)::r,t,h=>by
  simp only [List.map_cons,List.mem_cons,not_or] at h
  rw [cq,if_neg (fun e=>h.1 e.symm)]
  exact get_none h.2
noncomputable def Hp {R : Type} (kz : Kz R) (cx : Cx) (oH : List Nat) (p : au) (xs : aU) (mn it : Nat) (cl : List Nat) (e : Option Nat) (kt : Ty) (kg : Bool) (vt : Ty) (vg : Bool) {dn : Nat} (body : D P N out dn) (inl : p.T → R) (inr : xs.T → R)
  (lB:kt.den×vt.den) (x:p.T):R :=
 fN (base+p.gW.length) fun aD=>p.go aD x fun env _ bl ms=>match get mn env with
  | .mp id=>match jF bl kt kg vt vg id with
   |some es=>Lz (TQ e kt kg vt vg lB ((it,.ptr aD 0)::env)) fun env=>fN (aD+1) fun nx=>kE kz cx dZ body env nx bl ms fun ex env nx bl ms=>match ex with
    | .normal=>match get it env with
     | .ptr i o=>match an (Nat.beq i aD) (Nat.beq o 0) with
      |true=>match get mn env with
       | .mp id'=>match Nat.beq id' id with
        |true=>match jF bl kt kg vt vg id with
         |some es'=>kz.nd (jK es' es) (p.rd kz.no oH base (eH (it::cl) env) nx bl ms inl)
         |none=>kz.no
        |false=>kz.no
       |_=>kz.no
      |false=>kz.no
     |_=>kz.no
    | .exit i=>xs.rd kz.no oH base (.exit i) env nx bl ms inr
    | .ret=>xs.rd kz.no oH base .ret env nx bl ms inr
   |none=>kz.no
  |_=>kz.no
def Hq {R:Type} (kz:Kz R) (cx:Cx) (oH:List Nat) (p:au) (pre:List fe) (mn it:Nat) (cl:List Nat) (kt:Ty) (kg:Bool) (vt:Ty) (vg:Bool) (env:Env) (nx:Nat) (bl:av) (ms:List Nat) (k:List (kt.den×vt.den)->p.T->R):R :=
 kI kz cx dZ pre env nx bl fun env nx bl=>match get mn env with
  | .mp id=>match jF bl kt kg vt vg id with
   |some es=>p.rd kz.no oH base (eH (it::cl) env) nx bl ms fun x=>k es x
   |none=>kz.no
  |_=>kz.no
theorem PA (mixed : P.follows .mixedOrders = true) {cx : Cx} (gF : cx.Ok P) {p : au} {xs : aU} (hxs : xs.all (fun p => !Hg p.1 .normal) = true) {pre : List fe} {mn it : Nat} {cl : List Nat} {e : Option Nat} {kt vt : Ty} {kg vg : Bool} {qa : Nat}
  (zz:p.env.all (fun q => !(it::cl).contains q.1)=true) {dn:Nat} (fh:dn=base+p.gW.length+1) {body:D P N out dn} {step:kt.den×vt.den->p.T->Option (p.T ⊕ xs.T)}
  (hstep:∀lB x,Hp (base:=base) (iL (p.T ⊕ xs.T)) cx (List.range base) p xs mn it cl e kt kg vt vg body (fun y=>some (.inl y)) (fun b=>some (.inr b)) lB x=step lB x) {X:Type} {env:Env} {nx:Nat} {bl:av} {ms:List Nat} {r:X} {Q:Ex->St->Prop}
  {k:List (kt.den×vt.den)->p.T->Option X} (h:Hq (base:=base) (iL X) cx (List.range base) p pre mn it cl kt kg vt vg env nx bl ms k=some r)
  (hk:∀es x,k es x=some r->∃res,(∀l:List (kt.den×vt.den),l.Perm es->zL step l x=some res)/\(match res with | .inl y=>Q .normal (p.st base y) | .inr b=>Q (D4 qa (xs.st base b).1) (xs.st base b).2)) :
  (gL P N out base).gV (.gV pre (.t mn) it cl e kt kg vt vg qa body.er) ⟨env,⟨nx,bl⟩,ms⟩ Q:=by
 subst fh
 refine D5 (fun b=>iP mixed) (I:=p.st base) (X:=xs.st base) (step:=step) (aD:=base+p.gW.length) (fun x s hs=>?_) (fun x=>rfl) (fun lB x r hx=>?_) ?_
 ·refine get_none (env := p.E x) fun hm => ?_
  rw [au.vU] at hm
  obtain ⟨q,hq,rfl⟩:=List.mem_map.1 hm
  have:=List.all_eq_true.1 zz q hq
  simp only [Bool.not_eq_true',<-Bool.not_eq_true] at this
  exact this (by simpa using hs)
 ·rw [← hstep lB x] at hx
  unfold Hp at hx
  rw [gr,au.go_eq] at hx
  split at hx<;>try (cases hx;done)
  rename_i id hid
  split at hx<;>try (cases hx;done)
  rename_i es De
  rw [rW,gr] at hx
  refine ⟨id,es,hid,De,lD gF hx fun ex env nx bl ms hk=>?_⟩
  cases ex with
  |normal =>
   simp only at hk
   split at hk<;>try (cases hk;done)
   rename_i i o hit
   split at hk<;>try (cases hk;done)
   rename_i wS
   rw [aW] at wS
   have e1:=Nat.eq_of_beq_eq_true wS.1
   have e2:=Nat.eq_of_beq_eq_true wS.2
   subst e1;subst e2
   split at hk<;>try (cases hk;done)
   rename_i id' aaj
   split at hk<;>try (cases hk;done)
   rename_i hbe
   have e3:=Nat.eq_of_beq_eq_true hbe
   subst e3
   split at hk<;>try (cases hk;done)
   rename_i es' Lp
   have hk2:=(cW hk).2
   have e4:=D2 (cW hk).1
   clear hk
   subst e4
   obtain ⟨y,π,h1,h2⟩:=au.dM hk2
   cases h1
   exact ⟨rfl,hit,aaj,Lp,π,h2⟩
  |exit i =>
   obtain ⟨y,π,q1,q2,q3⟩:=aU.dM hk
   cases q1
   exact ⟨by simp,q2,π,q3⟩
  |ret =>
   obtain ⟨y,π,q1,q2,q3⟩:=aU.dM hk
   cases q1
   exact ⟨by simp,q2,π,q3⟩
 ·unfold Hq at h
  refine oE gF h fun env nx bl h=>?_
  split at h<;>try (cases h;done)
  rename_i id hid
  split at h<;>try (cases h;done)
  rename_i es De
  obtain ⟨x,π,h1,h2⟩:=au.dM h
  obtain ⟨res,h3,h4⟩:=hk es x h1
  exact ⟨id,es,x,π,hid,De,h2,fun l hl=>⟨res,h3 l hl,by cases res<;>exact h4⟩⟩
def noB {R:Type}:Empty->R:=fun b=>nomatch b
theorem XO {E α : Type} {step : E → α → Option α} : ∀ {l : List E} {x y : α}, AF step l x = some y → zL (fun e x => (step e x).map (Sum.inl (β := Empty))) l x = some (.inl y)
 |[],x,y,h=>by cases h;rfl
 |e::r,x,y,h=>by
  simp only [AF] at h
  split at h<;>try (cases h;done)
  rename_i z hz
  simp only [zL,hz,Option.map_some]
  exact XO h
theorem AW (mixed : P.follows .mixedOrders = true) {cx : Cx} (gF : cx.Ok P) {p : au} {pre : List fe} {mn it : Nat} {cl : List Nat} {e : Option Nat} {kt vt : Ty} {kg vg : Bool} {qa : Nat}
  (zz:p.env.all (fun q => !(it::cl).contains q.1)=true) {dn:Nat} (fh:dn=base+p.gW.length+1) {body:D P N out dn} {step:kt.den×vt.den->p.T->Option p.T}
  (hstep:∀lB x,Hp (base:=base) (iL p.T) cx (List.range base) p [] mn it cl e kt kg vt vg body (fun y=>some y) noB lB x=step lB x) {X:Type} {env:Env} {nx:Nat} {bl:av} {ms:List Nat} {r:X} {Q:Ex->St->Prop}
  {k:List (kt.den×vt.den)->p.T->Option X} (h:Hq (base:=base) (iL X) cx (List.range base) p pre mn it cl kt kg vt vg env nx bl ms k=some r)
  (hk:∀es x,k es x=some r->∀l:List (kt.den×vt.den),l.Perm es->∃y,AF step l x=some y/\Q .normal (p.st base y)) :
  (gL P N out base).gV (.gV pre (.t mn) it cl e kt kg vt vg qa body.er) ⟨env,⟨nx,bl⟩,ms⟩ Q:=by
 subst fh
 refine D5 (fun b=>iP mixed) (I:=p.st base) (X:=fun b:Empty=>nomatch b) (step:=fun e x=>(step e x).map (Sum.inl (β:=Empty))) (aD:=base+p.gW.length) (fun x s hs=>?_) (fun x=>rfl) (fun lB x r hx=>?_) ?_
 ·refine get_none (env := p.E x) fun hm => ?_
  rw [au.vU] at hm
  obtain ⟨q,hq,rfl⟩:=List.mem_map.1 hm
  have:=List.all_eq_true.1 zz q hq
  simp only [Bool.not_eq_true',<-Bool.not_eq_true] at this
  exact this (by simpa using hs)
 ·obtain ⟨y0, hx0, rfl⟩ := Option.map_eq_some_iff.1 hx
  clear hx
  rename _=>hx
  rw [<-hstep lB x] at hx
  unfold Hp at hx
  rw [gr,au.go_eq] at hx
  split at hx<;>try (cases hx;done)
  rename_i id hid
  split at hx<;>try (cases hx;done)
  rename_i es De
  rw [rW,gr] at hx
  refine ⟨id,es,hid,De,lD gF hx fun ex env nx bl ms hk=>?_⟩
  cases ex with
  |normal =>
   simp only at hk
   split at hk<;>try (cases hk;done)
   rename_i i o hit
   split at hk<;>try (cases hk;done)
   rename_i wS
   rw [aW] at wS
   have e1:=Nat.eq_of_beq_eq_true wS.1
   have e2:=Nat.eq_of_beq_eq_true wS.2
   subst e1;subst e2
   split at hk<;>try (cases hk;done)
   rename_i id' aaj
   split at hk<;>try (cases hk;done)
   rename_i hbe
   have e3:=Nat.eq_of_beq_eq_true hbe
   subst e3
   split at hk<;>try (cases hk;done)
   rename_i es' Lp
   have hk2:=(cW hk).2
   have e4:=D2 (cW hk).1
   clear hk
   subst e4
   obtain ⟨y,π,h1,h2⟩:=au.dM hk2
   cases h1
   exact ⟨rfl,hit,aaj,Lp,π,h2⟩
  |exit i=>cases hk
  |ret=>cases hk
 ·unfold Hq at h
  refine oE gF h fun env nx bl h=>?_
  split at h<;>try (cases h;done)
  rename_i id hid
  split at h<;>try (cases h;done)
  rename_i es De
  obtain ⟨x,π,h1,h2⟩:=au.dM h
  exact ⟨id,es,x,π,hid,De,h2,fun l hl=>by
   obtain ⟨y,h3,h4⟩:=hk es x h1 l hl
   exact ⟨.inl y,XO h3,h4⟩⟩
noncomputable def aak (mixed : P.follows .mixedOrders = true) (cx : Cx) (gF : cx.Ok P) (oH : List Nat) (Es : oH = List.range base) (p : au) (xs : aU) (hxs : xs.all (fun p => !Hg p.1 .normal) = true) (pre : List fe) (mn it : Nat) (cl : List Nat)
  (e:Option Nat) (kt:Ty) (kg:Bool) (vt:Ty) (vg:Bool) (qa:Nat) (zz:p.env.all (fun q => !(it::cl).contains q.1)=true) (dn:Nat) (fh:dn=base+p.gW.length+1) (body:D P N out dn) (step:kt.den×vt.den->p.T->Option (p.T ⊕ xs.T))
  (hstep:∀lB x,Hp (base:=base) (iL (p.T ⊕ xs.T)) cx oH p xs mn it cl e kt kg vt vg body (fun y=>some (.inl y)) (fun b=>some (.inr b)) lB x=step lB x):rP P N out base where
 pre:=pre
 m:=.t mn
 it:=it
 cl:=cl
 e:=e
 kt:=kt
 kg:=kg
 vt:=vt
 vg:=vg
 qa:=qa
 b:=body.er
 run kz env nx bl ms K:=Hq (base:=base) kz cx oH p pre mn it cl kt kg vt vg env nx bl ms fun es x=>kz.bd (iQ (fun l=>zL step l x) es) fun z=>kz.sm z (fun y=>fN (base+p.gW.length) fun nx=>p.go nx y (K .normal)) fun b=>xs.go kz base b fun e=>K (D4 qa e)
 ok:=by
  intro X env nx bl ms K r h Q hQ
  subst Es
  refine PA mixed gF hxs zz fh hstep h fun es x hk=>?_
  obtain ⟨z,h1,h2⟩:=pJ hk
  refine ⟨z,oD h1,?_⟩
  cases z with
  |inl y =>
   simp only [gr,au.go_eq] at h2
   exact hQ _ _ _ _ _ h2
  |inr b=>exact hQ _ _ _ _ _ (aU.AL (xs:=xs) h2)
noncomputable def Cq (mixed : P.follows .mixedOrders = true) (cx : Cx) (gF : cx.Ok P) (oH : List Nat) (Es : oH = List.range base) (p : au) (pre : List fe) (mn it : Nat) (cl : List Nat)
  (e:Option Nat) (kt:Ty) (kg:Bool) (vt:Ty) (vg:Bool) (qa:Nat) (zz:p.env.all (fun q => !(it::cl).contains q.1)=true) (dn:Nat) (fh:dn=base+p.gW.length+1) (body:D P N out dn) (step:kt.den×vt.den->p.T->Option p.T)
  (hstep:∀lB x,Hp (base:=base) (iL p.T) cx oH p [] mn it cl e kt kg vt vg body (fun y=>some y) noB lB x=step lB x):rP P N out base where
 pre:=pre
 m:=.t mn
 it:=it
 cl:=cl
 e:=e
 kt:=kt
 kg:=kg
 vt:=vt
 vg:=vg
 qa:=qa
 b:=body.er
 run kz env nx bl ms K:=Hq (base:=base) kz cx oH p pre mn it cl kt kg vt vg env nx bl ms fun es x=>kz.bd (iQ (fun l=>AF step l x) es) fun y=>fN (base+p.gW.length) fun nx=>p.go nx y (K .normal)
 ok:=by
  intro X env nx bl ms K r h Q hQ
  subst Es
  refine AW mixed gF zz fh hstep h fun es x hk=>?_
  obtain ⟨y,h1,h2⟩:=pJ hk
  simp only [gr,au.go_eq] at h2
  exact fun l hl=>⟨y,oD h1 l hl,hQ _ _ _ _ _ h2⟩
noncomputable def vV (mixed : P.follows .mixedOrders = true) (cx : Cx) (gF : cx.Ok P) (oH : List Nat) (Es : oH = List.range base) (p : au) (pre : List fe) (mn it : Nat) (cl : List Nat)
  (e:Option Nat) (kt:Ty) (kg:Bool) (vt:Ty) (vg:Bool) (qa:Nat) (zz:p.env.all (fun q => !(it::cl).contains q.1)=true) (dn:Nat) (fh:dn=base+p.gW.length+1) (body:D P N out dn) (step:kt.den×vt.den->p.T->Option p.T)
  (hstep:∀lB x,Hp (base:=base) (iL p.T) cx oH p [] mn it cl e kt kg vt vg body (fun y=>some y) noB lB x=step lB x):rP P N out base where
 pre:=pre
 m:=.t mn
 it:=it
 cl:=cl
 e:=e
 kt:=kt
 kg:=kg
 vt:=vt
 vg:=vg
 qa:=qa
 b:=body.er
 run kz env nx bl ms K:=Hq (base:=base) kz cx oH p pre mn it cl kt kg vt vg env nx bl ms fun es x=>kz.an es fun l=>kz.bd (AF step l x) fun y=>fN (base+p.gW.length) fun nx=>p.go nx y (K .normal)
 ok:=by
  intro X env nx bl ms K r h Q hQ
  subst Es
  refine AW mixed gF zz fh hstep h fun es x hk l hl=>?_
  obtain ⟨y,h1,h2⟩:=pJ (oD hk l hl)
  simp only [gr,au.go_eq] at h2
  exact ⟨y,h1,hQ _ _ _ _ _ h2⟩
end
end Go.AM
end
section
namespace Go.AM
@[reducible] def bs (l:List Nat):ByteArray:=⟨(l.map UInt8.ofNat).toArray⟩
def yp (t : Ty) (x : t.den) : List t.den → List t.den
 |[]=>[x]
 |y::r=>if ff t x y=true then x::y::r else y::yp t x r
def oI (t:Ty) (xs:List t.den):List t.den:=xs.foldr (yp t) []
noncomputable def vp (t:Ty) (b:List t.den) (n:Nat):Option (List t.den×Unit):=if n<=b.length/\n<bp then some (oI t (b.take n)++b.drop n,()) else none
theorem uQ (s:ByteArray):(fu s).length=s.size:=by simp [fu]
section
variable {P:Program}
noncomputable def Et (P:Program) (cx:Cx) (f:Nat) (fn:Fn) (d:(b:Nat)->D P fn.N none b):Cx where
 pc:=cx.pc
 ca kz g vs nx bl K:=match an (Nat.beq g f) (Nat.ble vs.length fn.np) with
  |true=>T5 vs fun vs=>kE kz cx dZ (d nx) (args 0 vs) nx bl [] (AU kz fn.res fn.tys K)
  |false=>cx.ca kz g vs nx bl K
 rd:=cx.rd
theorem pN (mixed : P.follows .mixedOrders = true) {cx : Cx} (gF : cx.Ok P) {f : Nat} {func : Func} {fn : Fn} (hf : P.funcs[f]? = some func) (htr : cn P func = some fn) (cH : Enters P f)
  {d:(b:Nat)->D P fn.N none b} (hd:∀b,(d b).er=fn.body):(Et P cx f fn d).Ok P where
 XG hk:=gF.XG hk
 TX:=by
  intro X g vs nx bl K r hk Q hQ
  simp only [Et] at hk
  split at hk
  ·rename_i h
   rw [aW] at h
   have e:=Nat.eq_of_beq_eq_true h.1
   subst e
   rw [nA] at hk
   refine kF hf htr cH (iP mixed) (Nat.le_of_ble_eq_true h.2) ?_
   rw [<-hd nx]
   refine lD gF hk fun e env nx bl ms hk=>?_
   exact yf hk fun v nx bl hk=>hQ v nx bl hk
  ·exact gF.TX hk hQ
 ZZ hk:=gF.ZZ hk
noncomputable def AX (P:Program) (cx:Cx) (f:Nat) (fn:Fn) (b:Nat) (d:D P fn.N none b):Cx where
 pc:=cx.pc
 ca kz g vs nx bl K:=match an (Nat.beq g f) (an (Nat.ble vs.length fn.np) (Nat.beq nx b)) with
  |true=>T5 vs fun vs=>kE kz cx dZ d (args 0 vs) b bl [] (AU kz fn.res fn.tys K)
  |false=>cx.ca kz g vs nx bl K
 rd:=cx.rd
theorem r9 (mixed : P.follows .mixedOrders = true) {cx : Cx} (gF : cx.Ok P) {f : Nat} {func : Func} {fn : Fn} (hf : P.funcs[f]? = some func) (htr : cn P func = some fn) (cH : Enters P f)
  {b:Nat} {d:D P fn.N none b} (hd:d.er=fn.body):(AX P cx f fn b d).Ok P where
 XG hk:=gF.XG hk
 TX:=by
  intro X g vs nx bl K r hk Q hQ
  simp only [AX] at hk
  split at hk
  ·rename_i h
   rw [aW,aW] at h
   have e:=Nat.eq_of_beq_eq_true h.1
   have e2:=Nat.eq_of_beq_eq_true h.2.2
   subst e;subst e2
   rw [nA] at hk
   refine kF hf htr cH (iP mixed) (Nat.le_of_ble_eq_true h.2.1) ?_
   rw [<-hd]
   refine lD gF hk fun e env nx bl ms hk=>?_
   exact yf hk fun v nx bl hk=>hQ v nx bl hk
  ·exact gF.TX hk hQ
 ZZ hk:=gF.ZZ hk
end
section
variable {P:Program} {N:Nat} {out:Option Nat} {base:Nat}
noncomputable def sg (mixed : P.follows .mixedOrders = true) (cx : Cx) (gF : cx.Ok P) (pre : List Nat) (hpre : pre = List.range base) (p : au) (xs : aU) (f : O) (ps : List Nat) (hps : ps.all (Nat.blt · N) = true) (as bd : C)
  (fid:Nat) {func:Func} {fn:Fn} (hf:P.funcs[fid]?=some func) (htr:cn P func=some fn) (cH:Enters P fid) (dn:Nat) (iR:dn=base+p.gW.length+(match out with|none=>2|some _=>1))
  (Nz:D P fn.N none dn) (hit:Nz.er=fn.body):gE P N out base where
 f:=f
 ps:=ps
 a:=as
 b:=bd
 run kz env nx bl ms K:=p.rd kz.no pre base env nx bl ms fun x=>xZ (N:=N) (out:=out) (base:=base) kz cx dZ pre p xs f ps as bd fn.res fn.np fid Nz (fun b=>xs.go kz base b K) x
 ok:=by
  intro X env nx bl ms K r h Q hQ
  subst hpre
  obtain ⟨x,π,h3,h2⟩:=au.dM h
  unfold xZ at h3
  rw [gr,au.go_eq] at h3
  intro fo Df ao bo q1 q2 q3 q4
  refine Jt (Eg ?_) h2
  refine uK (K:=fun e S'=>∃Ci π,jw base π S' Ci/\Q e Ci) ?_ fo Df ao bo q1 q2 q3 q4
  refine ⟨hps,?_⟩
  cases mS:f.ev (p.E x) with
  |fn Pt first cap=>?_
  |_=>rw [mS] at h3;cases h3
  have aaa:f.ev (p.st base x).env = .fn Pt first cap:=mS
  rw [aaa]
  rw [mS] at h3
  simp only at h3 ⊢
  split at h3<;>try (cases h3;done)
  rename_i hc
  rw [aW] at hc
  have e1:=Nat.eq_of_beq_eq_true hc.1
  have e2:=Nat.le_of_ble_eq_true hc.2
  subst e1
  have hlen:∀v:V,(first++[v]++cap).length<=fn.np:=fun v=>by simpa using e2
  have hout:∀e env nx bl ms,xs.rd none (List.range base) base e env nx bl ms (fun b=>xs.go (iL X) base b K)=some r->∃Ci π,jw base π ⟨env,⟨nx,bl⟩,ms⟩ Ci/\Q e Ci:=fun e env nx bl ms hk=>by
   obtain ⟨y,π,r1,r2,r3⟩:=aU.dM hk
   have h5:=aU.AL r1
   have hq:=hQ _ _ _ _ _ h5
   exact ⟨_,π,r3,by rw [r2];exact hq⟩
  cases out with
  |none =>
   simp only at h3 iR ⊢
   split at h3
   ·cases h3
   rename_i K3
   rw [nA] at h3
   refine ⟨K3,?_⟩
   subst iR
   refine kF hf htr cH (iP mixed) (hlen _) ?_
   rw [<-hit]
   refine lD gF h3 fun e env nx bl ms hk=>?_
   exact rX hk fun v nx bl hk => vT (S := p.st base x) (by
    have e:(p.st base x).ms=[]:=K3
    rw [e];exact hk) hout
  |some Xx =>
   simp only at h3 iR ⊢
   split at h3<;>try (cases h3;done)
   rename_i hb
   rw [nA] at h3
   have hb':az Xx (p.st base x).H.bl=_:=hb
   simp only [au.st] at hb' ⊢
   rw [hb']
   simp only
   subst iR
   refine kF hf htr cH (iP mixed) (hlen _) ?_
   rw [<-hit]
   refine lD gF h3 fun e env nx bl ms hk=>?_
   exact rX hk fun v nx bl hk=>vT (S:=p.st base x) hk hout
end
end Go.AM
end
