/- Loops over functions, as functions of their data. Calls that are lent blocks of the caller's heap: the rest stays as it is. Contracts of functions that write blocks of their caller, or hand back new ones. Recursion. The way in and out: a law's contract over data is its row's. Plain laws on tests, needs and rounds. Twins that can be reckoned: what they come to, the functions come to. What is computed, as a tree: read as a function (classically), or reckoned. Code with its loops as functions, out of the program's own: no text of it is needed. A loop whose number of rounds is known is gone through round by round. Strings out of their bytes; what is said of them, of maps and of clearing, plainly. -/
import Derived.Test.YthemjfloiapaaaaGreatAMc
import Derived.OpenShut
import Derived.Handed
import Derived.JoinedOf
import Derived.Carry
set_option linter.unusedSectionVars false
set_option linter.unusedVariables false
set_option linter.unusedSimpArgs false
section
namespace Go.AM
section
variable {P:Program} {N:Nat} {out:Option Nat} {base:Nat} {π:List Nat}
theorem HN {c:Code} {S S':St} {Q:Ex→St→Prop} (h:Ho P N out base c S' Q) (he:jl base π S S'):Ho P N out base c S Q :=
 fun Y ι μ a w ho hb hR=>h Y ι _ a w ho hb (he.rep hb hR)
theorem Dt {c:Code} {S:St} {Q:Ex→St→Prop} (h:Ho P N out base c S fun e S'=>∃Bx π,jl base π S' Bx∧Q e Bx):Ho P N out base c S Q :=
 fun Y ι μ a w ho hb hR=>wpIn_mono (h Y ι μ a w ho hb hR) fun e a w hp=>by
  obtain ⟨Y1,hY,ι,μ,S',e',h1,h2,Bx,π,h3,h4⟩:=hp
  exact ⟨Y1,hY,ι,_,Bx,e',h3.rep (hY.tS hb) h1,h2,h4⟩
def Bz {R : Type} : List Nat → List V → Env → (Env → R) → R
 |p::ps,v::vs,env,k=>fV v fun v=>Bz ps vs ((p,v)::env) k
 |_,_,env,k=>k env
theorem zZ {R : Type} : ∀ (ps : List Nat) (vs : List V) (env : Env) (k : Env → R), Bz ps vs env k = k (ud ps vs env)
 |[],vs,env,k=>by cases vs<;>rfl
 |p::ps,[],env,k=>rfl
 |p::ps,v::vs,env,k=>by simp only [Bz,nt];rw [zZ ps vs];rfl
def MW {R:Type} (kz:Kz R) (uD:Nat) (K:V→Nat→ah→R):Kc R:=fun e _ nx bl _=>match au uD bl with
 |some (.loop .busy _ d env ps as bd N)=>pQ uD bl fun bl=>match e with
  | .normal=>K (.tf true) nx ((uD,.loop .ready none d env ps as bd N)::bl)
  | .exit i=>K (.tf false) nx ((uD,.loop .done (some (.exit i)) d env ps as bd N)::bl)
  | .ret=>K (.tf false) nx ((uD,.loop .done (some .ret) d env ps as bd N)::bl)
 |_=>kz.no
theorem MX {X : Type} {uD : Nat} {K : V → Nat → ah → Option X} {r : X} {e : Ex} {env : Env} {nx : Nat} {bl : ah} {ms : List Nat} (h : MW (jf X) uD K e env nx bl ms = some r) {Q : V → aF → Prop}
  (hQ:∀v nx bl,K v nx bl=some r→Q v ⟨nx,bl⟩):qY uD Q e ⟨env,⟨nx,bl⟩,ms⟩:=by
 unfold MW at h
 unfold qY
 simp only
 split at h<;>try (cases h;done)
 rename_i hb
 try rw [hb]
 try simp only
 rw [j8] at h
 cases e<;>exact hQ _ _ _ h
def MY {R:Type} (kz:Kz R) (cx:Cx) (ar:Ar) (uD Du:Nat) (ps:List Nat) (asD bdD:D P N (some uD) Du) (id:Nat) (vs:List V) (nx:Nat) (bl:ah) (K:V→Nat→ah→R):R :=
 match an (Nat.beq id uD) (Nat.beq nx Du) with
 |true=>match au uD bl with
  |some (.loop .ready none _ env ps' as bd N')=>match an (Nat.beq vs.length ps'.length) (an (Nat.beq N' N) (an (jm as asD.er) (jm bd bdD.er))) with
   |true=>Bz ps' vs env fun env=>kE kz cx ar asD env nx bl [] fun e env nx bl ms=>match e with
    | .normal=>match au uD bl with
     |some (.loop .ready none d' env' ps' as' Qz N')=>pQ uD bl fun bl=>kE kz cx ar bdD env nx ((uD,.loop .busy none d' env' ps' as' Qz N')::bl) ms (MW kz uD K)
     |_=>kz.no
    |_=>kz.no
   |false=>kz.no
  |_=>kz.no
 |false=>kz.no
theorem mU (mixed : P.follows .mixedOrders = true) {cx : Cx} (gq : cx.Ok P) {uD Du : Nat} {ps : List Nat} {asD bdD : D P N (some uD) Du} {id : Nat} {vs : List V} {nx : Nat} {bl : ah} {X : Type}
  {K:V→Nat→ah→Option X} {r:X} (h:MY (jf X) cx ew uD Du ps asD bdD id vs nx bl K=some r) {Q:V→aF→Prop} (hQ:∀v nx bl,K v nx bl=some r→Q v ⟨nx,bl⟩):around P id vs ⟨nx,bl⟩ Q:=by
 unfold MY at h
 split at h<;>try (cases h;done)
 rename_i h1
 rw [aM] at h1
 have e1:=Nat.eq_of_beq_eq_true h1.1
 have e2:=Nat.eq_of_beq_eq_true h1.2
 subst e1;subst e2
 split at h<;>try (cases h;done)
 rename_i d env ps' as bd N' hb
 split at h<;>try (cases h;done)
 rename_i h2
 simp only [aM] at h2
 obtain ⟨c1,c2,c3,c4⟩:=h2
 have e3:=Nat.eq_of_beq_eq_true c2
 have e4:=u7 c3
 have e5:=u7 c4
 have e6:=Nat.eq_of_beq_eq_true c1
 subst e3;subst e4;subst e5
 refine Jy (fun N=>iD mixed) ?_
 unfold Fz
 simp only
 rw [hb]
 simp only
 refine ⟨e6,?_⟩
 rw [zZ] at h
 refine kZ gq h fun e env nx bl ms h=>?_
 cases e with
 |exit i=>cases h
 |ret=>cases h
 |normal =>
  simp only at h ⊢
  split at h<;>try (cases h;done)
  rename_i d' env' ps2 as' Qz N2 eB
  try rw [eB]
  try simp only
  rw [j8] at h
  exact kZ gq h fun e env nx bl ms h=>MX h hQ
def yT (cx:Cx) (rd:{R:Type}→Kz R→Nat→List V→Nat→ah→(V→Nat→ah→R)→R):Cx where
 pc:=cx.pc
 ca:=cx.ca
 rd:=rd
theorem jI {cx : Cx} (gq : cx.Ok P) {rd : {R : Type} → Kz R → Nat → List V → Nat → ah → (V → Nat → ah → R) → R}
  (h:∀{X:Type} {id:Nat} {vs:List V} {nx:Nat} {bl:ah} {K:V→Nat→ah→Option X} {r:X},rd (jf X) id vs nx bl K=some r→∀{Q:V→aF→Prop},(∀v nx bl,K v nx bl=some r→Q v ⟨nx,bl⟩)→around P id vs ⟨nx,bl⟩ Q) :
  (yT cx rd).Ok P:=⟨fun hk=>gq.Ur hk,fun hk=>gq.QT hk,fun hk=>h hk⟩
def Dv {R:Type} (kz:Kz R) (rs:List RV) (K:Nat→ah→R):Kc R:=fun e env nx bl ms=>match e with
 | .exit _=>kz.no
 | .normal=>go env nx bl ms
 | .ret=>go env nx bl ms
where go (env:Env) (nx:Nat) (bl:ah) (ms:List Nat):R:=match eG ms bl with
 |some bl=>match uz ew ⟨env,⟨nx,bl⟩,[]⟩ rs with
  |some _=>K nx bl
  |none=>kz.no
 |none=>kz.no
theorem rG {X : Type} {rs : List RV} {tys : List (Option Ty)} {K : Nat → ah → Option X} {r : X} {e : Ex} {env : Env} {nx : Nat} {bl : ah} {ms : List Nat} (h : Dv (jf X) rs K e env nx bl ms = some r) {Q : V → aF → Prop}
  (hQ:∀v nx bl,K nx bl=some r→Q v ⟨nx,bl⟩):A3 rs tys Q e ⟨env,⟨nx,bl⟩,ms⟩:=by
 have key:Dv.go (jf X) rs K env nx bl ms=some r→A3.qf rs tys Q ⟨env,⟨nx,bl⟩,ms⟩:=fun hg=>by
  unfold Dv.go at hg
  unfold A3.qf
  split at hg<;>try (cases hg;done)
  rename_i bH h1
  simp only
  rw [h1]
  simp only
  split at hg<;>try (cases hg;done)
  rename_i vs h2
  rw [h2]
  exact hQ _ _ _ hg
 cases e with
 |exit i=>cases h
 |normal=>exact key h
 |ret=>exact key h
def HO {R : Type} (no : R) : List Nat → ah → (ah → R) → R
 |[],bl,K=>K bl
 |id::r,bl,K=>match au id bl with
  |some .ig=>pQ id bl fun bl=>HO no r bl K
  |_=>no
theorem Dx {X : Type} {no : Option X} {r : X} (hno : no = none) : ∀ {sh : List Nat} {bl : ah} {K : ah → Option X}, HO no sh bl K = some r → ∃ bH, eG sh bl = some bH ∧ K bH = some r
 |[],bl,K,h=>⟨bl,rfl,h⟩
 |id::sh,bl,K,h=>by
  simp only [HO] at h
  simp only [eG]
  split at h
  ·rename_i hb
   rw [j8] at h
   rw [hb]
   exact Dx hno h
  ·rw [hno] at h;cases h
def Q6 {R:Type} (kz:Kz R) (uD:Nat) (env:Env) (sh ms:List Nat) (K:Kc R) (nx:Nat) (bl:ah):R:=match au uD bl with
 |some (.loop st j _ _ _ _ _ _)=>match st with
  | .busy=>kz.no
  |_=>pQ uD bl fun bl=>HO kz.no sh bl fun bl=>match j with
   |none=>K .normal env nx bl ms
   |some (.exit i)=>K (.exit i) env nx bl ms
   |some .ret=>K .ret env nx bl ms
   |some .normal=>kz.no
 |_=>kz.no
theorem vc {X : Type} {uD : Nat} {S : St} {sh : List Nat} {K : Kc (Option X)} {nx : Nat} {bl : ah} {r : X} (h : Q6 (jf X) uD S.env sh S.ms K nx bl = some r) {Q : Ex → St → Prop}
  (hQ:∀e env nx bl ms,K e env nx bl ms=some r→Q e ⟨env,⟨nx,bl⟩,ms⟩):jQ uD sh S Q ⟨nx,bl⟩:=by
 unfold Q6 at h
 unfold jQ
 simp only
 split at h<;>try (cases h;done)
 rename_i st j _ _ _ _ _ _ hb
 try rw [hb]
 try simp only
 split at h
 ·cases h
 ·rename_i hst
  rw [j8] at h
  obtain ⟨bH,hs,h⟩:=Dx rfl h
  have:Hz j ⟨S.env,⟨nx,bH⟩,S.ms⟩ Q:=by
   split at h
   ·exact hQ _ _ _ _ _ h
   ·exact hQ _ _ _ _ _ h
   ·exact hQ _ _ _ _ _ h
   ·cases h
  rw [hs]
  cases st<;>first|exact this|exact absurd rfl hst
def w6 {R:Type} (kz:Kz R) (cx:Cx) (ar:Ar) (pre:List Nat) (p:az) (xs:aZ) (f:O) (ps:List Nat) (as bd:C) (rs:List RV) (np:Nat) (fid:Nat) {Nit cZ:Nat} (K2:D P Nit none cZ) (inr:xs.T→R) (x:p.T):R :=
 fN (base+p.gI.length) fun nx=>p.go nx x fun env nx bl ms=>match f.ev env with
 | .fn MZ first cap=>match an (Nat.beq MZ fid) (Nat.ble (first++[V.any]++cap).length np) with
  |true=>match out with
   |none=>match ms with
    |_::_=>kz.no
    | [] => Q3 (first ++ [.yl (nx + 1)] ++ cap) fun vs => kE kz cx ar K2 (args 0 vs) cZ ((nx + 1, .loop .ready none nx env ps as bd N) :: (nx, .ig) :: bl) []
     (Dv kz rs (Q6 kz (nx+1) env [nx] [] fun e env nx bl ms=>xs.rd kz.no pre base e env nx bl ms inr))
   |some Ui=>match au Ui bl with
    | some (.loop _ _ d _ _ _ _ _) => Q3 (first ++ [.yl nx] ++ cap) fun vs => kE kz cx ar K2 (args 0 vs) cZ ((nx, .loop .ready none d env ps as bd N) :: bl) []
     (Dv kz rs (Q6 kz nx env [] ms fun e env nx bl ms=>xs.rd kz.no pre base e env nx bl ms inr))
    |_=>kz.no
  |false=>kz.no
 |_=>kz.no
def M0 (c:C):cm P N out base where
 c:=c
 run kz _ _ _ _ _:=kz.no
 ok h:=by cases h
def JQ (f:O) (ps:List Nat) (a b:C):gp P N out base where
 f:=f
 ps:=ps
 a:=a
 b:=b
 run kz _ _ _ _ _:=kz.no
 ok h:=by cases h
def Q7 (pre:List eL) (m:O) (it:Nat) (cl:List Nat) (e:Option Nat) (kt:Ty) (kg:Bool) (vt:Ty) (vg:Bool) (pJ:Nat) (b:C):ru P N out base where
 pre:=pre
 m:=m
 it:=it
 cl:=cl
 e:=e
 kt:=kt
 kg:=kg
 vt:=vt
 vg:=vg
 pJ:=pJ
 b:=b
 run kz _ _ _ _ _:=kz.no
 ok h:=by cases h
noncomputable def M1 (mixed : P.follows .mixedOrders = true) (cx : Cx) (gq : cx.Ok P) (pre : List Nat) (hpre : pre = List.range base) (p : az) (xs : aZ) (f : O) (ps : List Nat) (hps : ps.all (Nat.blt · N) = true) (as bd : C)
  (fid:Nat) {func:Func} {fn:Fn} (hf:P.funcs[fid]?=some func) (htr:cN P func=some fn) (cD:Enters P fid) (cZ:Nat) (iF:cZ=base+p.gI.length+(match out with|none=>2|some _=>1))
  (K2:D P fn.N none cZ) (hit:K2.er=fn.body) (RF:p.T→Option xs.T)
  (hRF:∀x,w6 (N:=N) (out:=out) (base:=base) (jf xs.T) cx ew pre p xs f ps as bd fn.res fn.np fid K2 some x=RF x):FE P N out base f ps as bd where
 run kz env nx bl ms K:=p.rd kz.no pre base env nx bl ms fun x=>kz.bd (RF x) fun b=>xs.go kz base b K
 ok:=by
  intro X env nx bl ms K r h Q hQ
  subst hpre
  obtain ⟨x,π,h1,h2⟩:=az.dG h
  obtain ⟨b,h3,h4⟩:=oV h1
  have h5:=aZ.zX h4
  have hq:=hQ _ _ _ _ _ h5
  rw [←hRF x] at h3
  unfold w6 at h3
  rw [fM,az.go_eq] at h3
  intro fo Cn ao bo q1 q2 q3 q4
  refine HN (Dt ?_) h2
  refine uc (K:=fun e S'=>∃Bx π,jl base π S' Bx∧Q e Bx) ?_ fo Cn ao bo q1 q2 q3 q4
  refine ⟨hps,?_⟩
  cases oT:f.ev (p.E x) with
  |fn MZ first cap=>?_
  |_=>rw [oT] at h3;cases h3
  have WN:f.ev (p.st base x).env = .fn MZ first cap:=oT
  rw [WN]
  rw [oT] at h3
  simp only at h3 ⊢
  split at h3<;>try (cases h3;done)
  rename_i hc
  rw [aM] at hc
  have e1:=Nat.eq_of_beq_eq_true hc.1
  have e2:=Nat.le_of_ble_eq_true hc.2
  subst e1
  have hlen:∀v:V,(first++[v]++cap).length≤fn.np:=fun v=>by simpa using e2
  have hout:∀e env nx bl ms,xs.rd none (List.range base) base e env nx bl ms some=some b→∃Bx π,jl base π ⟨env,⟨nx,bl⟩,ms⟩ Bx∧Q e Bx:=fun e env nx bl ms hk=>by
   obtain ⟨y,π,r1,r2,r3⟩:=aZ.dG hk
   cases r1
   exact ⟨_,π,r3,by rw [r2];exact hq⟩
  cases out with
  |none =>
   simp only at h3 iF ⊢
   split at h3
   ·cases h3
   rename_i Jm
   rw [mT] at h3
   refine ⟨Jm,?_⟩
   subst iF
   refine j6 hf htr cD (iD mixed) (hlen _) ?_
   rw [←hit]
   refine kZ gq h3 fun e env nx bl ms hk=>?_
   exact rG hk fun v nx bl hk => vc (S := p.st base x) (by
    have e:(p.st base x).ms=[]:=Jm
    rw [e];exact hk) hout
  |some Ui =>
   simp only at h3 iF ⊢
   split at h3<;>try (cases h3;done)
   rename_i hb
   rw [mT] at h3
   have hb':au Ui (p.st base x).H.bl=_:=hb
   simp only [az.st] at hb' ⊢
   rw [hb']
   simp only
   subst iF
   refine j6 hf htr cD (iD mixed) (hlen _) ?_
   rw [←hit]
   refine kZ gq h3 fun e env nx bl ms hk=>?_
   exact rG hk fun v nx bl hk=>vc (S:=p.st base x) hk hout
noncomputable def rH (mixed : P.follows .mixedOrders = true) (cx : Cx) (gq : cx.Ok P) (pre : List Nat) (hpre : pre = List.range base) (p : az) (xs : aZ) (f : O) (ps : List Nat) (hps : ps.all (Nat.blt · N) = true) (as bd : C)
  (fid:Nat) {func:Func} {fn:Fn} (hf:P.funcs[fid]?=some func) (htr:cN P func=some fn) (cD:Enters P fid) (cZ:Nat) (iF:cZ=base+p.gI.length+(match out with|none=>2|some _=>1))
  (K2:D P fn.N none cZ) (hit:K2.er=fn.body) (RF:p.T→Option xs.T)
  (hRF:∀x,w6 (N:=N) (out:=out) (base:=base) (jf xs.T) cx ew pre p xs f ps as bd fn.res fn.np fid K2 some x=RF x):gp P N out base :=
 (M1 mixed cx gq pre hpre p xs f ps hps as bd fid hf htr cD cZ iF K2 hit RF hRF).s
end
end Go.AM
end
section
namespace Go.AM
theorem w8 {σ : List Nat} {ι : ai} {μ μ' : Mu} (hσ : ∀ j i L, σ[j]? = some i → μ j = some L → μ' i = some L) : ∀ {n : Nat} {v u : V} {x : Value}, nI σ n v = some u → Rel ι μ v x → Rel ι μ' u x
 |0,v,u,x,h,_=>by cases h
 |n+1,v,u,x,h,hr=>by
  have g:∀v u x,nI σ n v=some u→Rel ι μ v x→Rel ι μ' u x:=fun v u x h hr=>w8 hσ h hr
  have lift:∀{cs ds:List V} {xs:Array Value},dg (nI σ n) cs=some ds→cs.length=xs.size→(∀(i:Nat) v x,cs[i]?=some v→xs[i]?=some x→Rel ι μ v x)→aG ι μ' ds xs.toList :=
   fun hm h1 h2=>iZ g hm ⟨by simpa using h1,fun i v x hv hx=>h2 i v x hv (by simpa using hx)⟩
  cases hr<;>simp only [nI] at h
  case any=>cases h;exact .any _
  case tf=>cases h;exact .tf _
  case bool=>cases h;exact .bool _
  case int=>cases h;exact .int _ _
  case str=>cases h;exact .str _
  case ez=>cases h;exact .ez
  case cF=>cases h;exact .cF
  case eW=>cases h;exact .eW
  case eH t xs hd=>cases h;exact .eH t xs _ hd
  case bY=>cases h;exact .bY _
  case sl id t lo m cap L hL h1 h2 h3 =>
   split at h<;>try (cases h;done)
   rename_i i hi;cases h
   exact .sl i t lo m cap L (hσ _ _ _ hi hL) h1 h2 h3
  case cC id t lo a =>
   split at h<;>try (cases h;done)
   cases h;exact .cC _ _ _ _
  case ptr id off L hL =>
   split at h<;>try (cases h;done)
   rename_i i hi;cases h
   exact .ptr i off L (hσ _ _ _ hi hL)
  case ep id t j p L hL =>
   split at h<;>try (cases h;done)
   rename_i i hi;cases h
   exact .ep i t j p L (hσ _ _ _ hi hL)
  case yl id L hL =>
   split at h<;>try (cases h;done)
   rename_i i hi;cases h
   exact .yl i L (hσ _ _ _ hi hL)
  case ff cs b o gf h1 h2 h3 =>
   split at h<;>try (cases h;done)
   rename_i ds hds;cases h
   have hR:aG ι μ cs ((List.range cs.length).map gf):=⟨by simp,fun i v x hv hx=>by
    have hi:=(List.getElem?_eq_some_iff.1 hv).1
    simp [hi] at hx;subst hx;exact h2 i v hv⟩
   have gJ:=iZ g hds hR
   have hl:ds.length=cs.length:=by have:=gJ.1;simpa using this
   exact .ff ds b o gf (fun i hi => h1 i (by omega)) (fun i v hv => gJ.2 i v (gf i) hv (by
    have hi:=(List.getElem?_eq_some_iff.1 hv).1
    simp [show i<cs.length by omega])) h3
  case ip t y b o us h1 h2=>cases h;exact .ip t y b o us h1 h2
  case fn f fs cs xs ys h1 h2 h3 h4 =>
   split at h<;>try (cases h;done)
   rename_i as ha
   split at h<;>try (cases h;done)
   rename_i bs hb;cases h
   have r1:=lift ha h1 h2
   have r2:=lift hb h3 h4
   exact .fn f as bs xs ys (by simpa using r1.1) (fun i v x hv hx=>r1.2 i v x hv (by simpa using hx)) (by simpa using r2.1) (fun i v x hv hx=>r2.2 i v x hv (by simpa using hx))
  case agg cs xs h1 h2 h3 =>
   split at h<;>try (cases h;done)
   rename_i ds hds;cases h
   have r1:=lift hds h1 h2
   exact .agg ds xs (by simpa using r1.1) (fun i v x hv hx=>r1.2 i v x hv (by simpa using hx)) h3
  case cI cs xs h1 h2 =>
   split at h<;>try (cases h;done)
   rename_i ds hds;cases h
   have r1:=lift hds h1 h2
   exact .cI ds xs (by simpa using r1.1) (fun i v x hv hx=>r1.2 i v x hv (by simpa using hx))
  case cq t v x hv =>
   split at h<;>try (cases h;done)
   rename_i u' hu;cases h
   exact .cq t u' x (g _ _ _ hu hv)
  case cb c b hc=>cases h;exact .cb c b hc
  case mp id L hL =>
   split at h<;>try (cases h;done)
   rename_i i hi;cases h
   exact .mp i L (hσ _ _ _ hi hL)
  case cB=>cases h;exact .cB
  case sp=>cases h
  case pa id t m L hL hm =>
   split at h<;>try (cases h;done)
   rename_i i hi;cases h
   exact .pa i t m L (hσ _ _ _ hi hL) hm
  case kQ t xs b o us h1 h2=>cases h;exact .kQ t xs b o us h1 h2
def Dy (σ : List Nat) : ah → Option ah
 |[]=>some []
 |(j,b)::r=>match uC σ j with
  |some i=>match Ft σ b with
   |some b'=>match Dy σ r with
    |some r'=>some ((i,b')::r')
    |none=>none
   |none=>none
  |none=>none
theorem Aa {σ : List Nat} (hinj : ∀ (a b i : Nat), σ[a]? = some i → σ[b]? = some i → a = b) : ∀ {bl bH : ah}, Dy σ bl = some bH → ∀ {i : Nat} {B : kP}, au i bH = some B → ∃ j B0, σ[j]? = some i ∧ au j bl = some B0 ∧ Ft σ B0 = some B
 |[],bH,h,i,B,hb=>by cases h;simp [au] at hb
 |(j,b)::r,bH,h,i,B,hb=>by
  simp only [Dy] at h
  split at h<;>try (cases h;done)
  rename_i i' hi
  split at h<;>try (cases h;done)
  rename_i b' hb'
  split at h<;>cases h
  rename_i r' hr
  rw [oW] at hi
  rw [bn] at hb
  split at hb
  ·rename_i e; subst e; cases hb
   exact ⟨j,b,hi,by rw [bn,if_pos rfl],hb'⟩
  ·rename_i hne
   obtain ⟨j2,B0,h1,h2,h3⟩:=Aa hinj hr hb
   refine ⟨j2,B0,h1,?_,h3⟩
   rw [bn,if_neg]
   ·exact h2
   ·intro e;subst e;rw [hi] at h1;cases h1;exact hne rfl
def w9 : List Nat → ah → ah
 |[],bl=>bl
 |i::r,bl=>w9 r (bt i bl)
theorem xd : ∀ {l : List Nat} {bl : ah} {id : Nat}, au id (w9 l bl) = if id ∈ l then none else au id bl
 |[],bl,id=>by simp [w9]
 |i::r,bl,id=>by
  simp only [w9]
  rw [xd,aY]
  by_cases h1:id∈r
  ·simp [h1]
  ·by_cases h2 : id = i
   ·simp [h1,h2]
   ·simp [h1,h2]
theorem uf : ∀ {a b : ah} {id : Nat}, au id (a ++ b) = match au id a with | some B => some B | none => au id b
 |[],b,id=>by simp [au]
 |(s,x)::r,b,id=>by
  rw [List.cons_append,bn,bn]
  split
  ·rfl
  ·exact uf
section
variable {P:Program}
def sig (π:List Nat) (nx n:Nat):List Nat:=π++(List.range' π.length (n - π.length)).map (nx + ·)
theorem Dz {f : Nat} {vs0 vs : List V} {Hy bl : ah} {nx : Nat} {π : List Nat} {Q0 Q : V → aF → Prop} (h : gN P f vs0 ⟨π.length, Hy⟩ Q0)
  (hargs:Cq π vs0 vs) (qE:∀p∈Hy,ZM π nx bl p.1 p.2) (Uv:∀p∈Hy,∀st j d env ps as bd N,p.2 ≠ .loop st j d env ps as bd N) (WO:π.Nodup) (hlt:∀i∈π,i<nx+π.length)
  (hQ:∀r n bH,Q0 r ⟨n,bH⟩→π.length≤n∧∃r' Uw,nI (sig π nx n) 8 r=some r'∧Dy (sig π nx n) bH=some Uw∧Q r' ⟨nx+n,Uw++w9 π bl⟩):gN P f vs ⟨nx,bl⟩ Q:=by
 refine ⟨h.1,fun Y ι μ w as hI hl=>?_⟩
 let μ1:Mu:=μ.eR π
 have hμ1:∀j i,π[j]?=some i→μ1 j=μ i:=fun j i e=>by simp only [μ1,Mu.eR];rw [e];rfl
 let X:Nat→Prop:=fun b=>∃p∈Hy,∃L,μ1 p.1=some L∧L.b=b
 let Y1:Ctx:=⟨w,ι,μ1,none,X,[]⟩
 -- a lent block is one of the caller's
 have src:∀p∈Hy,∀L,μ1 p.1=some L→∃i C,π[p.1]?=some i∧μ i=some L∧au i bl=some C:=fun p hp L hL=>by
  obtain ⟨i,e1,hb⟩:=qE p hp
  rw [hμ1 _ _ e1] at hL
  refine ⟨i,?_⟩
  have:∃C,au i bl=some C:=by
   cases hB:p.2 with
   |cells cs fz=>rw [hB] at hb;obtain ⟨ds,e2,_⟩:=hb;exact ⟨_,e2⟩
   |arr t xs fz =>
    rw [hB] at hb
    rcases hb with e2|⟨_,hge⟩
    ·exact ⟨_,e2⟩
    ·rw [hI.nx i hge] at hL;cases hL
   |loop st j d env ps as bd N=>exact absurd hB (Uv p hp _ _ _ _ _ _ _ _)
   |ig=>rw [hB] at hb;exact ⟨_,hb⟩
   |map kt kg vt vg es=>rw [hB] at hb;exact ⟨_,hb⟩
   |mz t xs k p v=>rw [hB] at hb;obtain ⟨u,e2,_⟩:=hb;exact ⟨_,e2⟩
  obtain ⟨C,hC⟩:=this
  exact ⟨C,e1,hL,hC⟩
 have M3:∀b,X b→Y.own b:=fun b ⟨p,hp,L,hL,e⟩=>by
  obtain ⟨i,C,_,h2,h3⟩:=src p hp L hL
  subst e;exact ((hI.live i C h3).loc h2).1
 have hown:∀b,Y1.own b→Y.own b:=fun b hb=>by
  rcases hb with hb|hb
  ·exact .inl (Nat.le_trans hI.below.size hb)
  ·exact M3 b hb
 have hmem:∀{id:Nat} {B:kP},au id Hy=some B→(id,B)∈Hy:=fun h=>dn h
 have EM:Inv P Y1 ι μ1 ⟨π.length,Hy⟩ w:=by
  refine ⟨GY.refl _ _,ai.le_refl _,fun _ _ _ _=>rfl,hI.rd,Mu.le_refl _,fun id hid=>?_,fun id B hB=>?_,fun id id' B B' L L' hb hb' hm hm' e=>?_,fun id B hB=>?_,hI.dy⟩
  ·have : π[id]? = none := List.getElem?_eq_none hid
   simp only [μ1,Mu.eR];rw [this];rfl
  ·obtain ⟨i, e1, hb⟩ := qE _ (hmem hB)
   have fH:=hμ1 id i e1
   cases B with
   |cells cs fz =>
    obtain ⟨ds,e2,ag⟩:=hb
    obtain ⟨L,vs,hM,Hs⟩:=hI.live i _ e2
    exact ⟨L,vs,⟨by rw [fH];exact hM.mu,.inr ⟨_,hmem hB,L,by rw [fH];exact hM.mu,rfl⟩,hM.row,hM.fits,hM.one,hM.CC,hM.pM⟩,aG.eR ag.1 (fun i v u hv hu=>fun {x} hr=>(ag.2 i v u hv hu).rel hr) Hs⟩
   |arr t xs fz =>
    rcases hb with e2|⟨rfl,hge⟩
    ·rcases hI.live i _ e2 with ⟨e, hn⟩ | ⟨L, vs, hM, hc, hl⟩
     ·exact .inl ⟨e,by rw [fH];exact hn⟩
     ·exact .inr ⟨L,vs,⟨by rw [fH];exact hM.mu,.inr ⟨_,hmem hB,L,by rw [fH];exact hM.mu,rfl⟩,hM.row,hM.fits,hM.one,hM.CC,hM.pM⟩,hc,hl⟩
    ·exact .inl ⟨rfl,by rw [fH];exact hI.nx i hge⟩
   |mz t xs k p v =>
    obtain ⟨u,e2,ag⟩:=hb
    obtain ⟨L,us,vs,c,hM,hc,hl,q1,q2,q3,q4⟩:=hI.live i _ e2
    exact ⟨L,us,vs,c,⟨by rw [fH];exact hM.mu,.inr ⟨_,hmem hB,L,by rw [fH];exact hM.mu,rfl⟩,hM.row,hM.fits,hM.one,hM.CC,hM.pM⟩,hc,hl,q1,q2,q3,ag.rel q4⟩
   |loop st j d env ps as bd N=>exact absurd rfl (Uv _ (hmem hB) st j d env ps as bd N)
   |ig =>
    obtain ⟨L,q1,q2,q3⟩:=hI.live i _ hb
    exact ⟨L,by rw [fH];exact q1,.inr ⟨_,hmem hB,L,by rw [fH];exact q1,rfl⟩,q3⟩
   |map kt kg vt vg es =>
    obtain ⟨L,ms,clock,dA,q1,q2,q3⟩:=hI.live i _ hb
    exact ⟨L,ms,clock,dA,by rw [fH];exact q1,.inr ⟨_,hmem hB,L,by rw [fH];exact q1,rfl⟩,q3⟩
  ·obtain ⟨i, C, e1, e2, e3⟩ := src _ (hmem hb) L hm
   obtain ⟨i',C',EO,ZE,V2⟩:=src _ (hmem hb') L' hm'
   have:=hI.inj i i' C C' L L' e3 V2 e2 ZE e
   subst this
   exact (List.getElem?_inj (List.getElem?_eq_some_iff.1 e1).1 WO).1 (e1.trans EO.symm)
  ·obtain ⟨i, e1, _⟩ := qE _ (hmem hB)
   exact (List.getElem?_eq_some_iff.1 e1).1
 have WQ:aG ι μ1 vs0 as.toList:=aG.eR hargs.1 (fun i v u hv hu=>fun {x} hr=>(hargs.2 i v u hv hu).rel hr) hl
 refine (h.2 Y1 ι μ1 w as EM WQ).mono ?_
 rintro e w' ⟨v,ι',Q8,r,⟨n,bH⟩,rfl,hi,fK,nM,hr,hq⟩
 obtain ⟨hn,r',Uw,hr',WR,Wb⟩:=hQ _ _ _ hq
 -- names
 have WS:∀j i,(sig π nx n)[j]?=some i→(j<π.length∧π[j]?=some i)∨(π.length≤j∧j<n∧i=nx+j):=fun j i e=>by
  unfold sig at e
  rw [List.getElem?_append] at e
  split at e
  ·rename_i hj;exact .inl ⟨hj,e⟩
  ·rename_i hj
   simp only [List.getElem?_map] at e
   cases hh:(List.range' π.length (n - π.length))[j - π.length]? with
   |none=>rw [hh] at e;cases e
   |some z =>
    rw [hh] at e
    simp only [Option.map_some,Option.some.injEq] at e
    obtain ⟨q1,q2⟩:=List.getElem?_eq_some_iff.1 hh
    simp at q1 q2
    exact .inr ⟨by omega,by omega,by omega⟩
 have hinj:∀a b i,(sig π nx n)[a]?=some i→(sig π nx n)[b]?=some i→a=b:=fun a b i ha hb=>by
  rcases WS _ _ ha with ⟨h1,h2⟩|⟨h1,h2,h3⟩<;>rcases WS _ _ hb with ⟨h4,h5⟩|⟨h4,h5,h6⟩
  ·exact (List.getElem?_inj h1 WO).1 (h2.trans h5.symm)
  ·have:=hlt i (List.mem_of_getElem? h2);omega
  ·have:=hlt i (List.mem_of_getElem? h5);omega
  ·omega
 classical
 let μ':Mu:=fun i=>match μ i with
  |some L=>some L
  |none=>if hx:∃j L,(sig π nx n)[j]?=some i∧Q8 j=some L then some hx.choose_spec.choose else none
 have hle:μ.le μ':=fun i L hL=>by simp only [μ'];rw [hL]
 have hnew:∀i,μ i=none→∀j L,(sig π nx n)[j]?=some i→Q8 j=some L→μ' i=some L:=fun i hi j L hj hL=>by
  have hx:∃j L,(sig π nx n)[j]?=some i∧Q8 j=some L:=⟨j,L,hj,hL⟩
  simp only [μ'];rw [hi];simp only;rw [dif_pos hx]
  obtain ⟨q1,q2⟩:=hx.choose_spec.choose_spec
  have key:∀j' L',Q8 j'=some L'→j'=j→some L'=some L:=fun j' L' h1 h2=>by subst h2;rw [←h1,hL]
  exact key _ _ q2 (hinj _ _ _ q1 hj)
 have hσ:∀j i L,(sig π nx n)[j]?=some i→Q8 j=some L→μ' i=some L:=fun j i L hj hL=>by
  cases hμ:μ i with
  |none=>exact hnew i hμ j L hj hL
  |some L0 =>
   rcases WS _ _ hj with ⟨h1,h2⟩|⟨h1,h2,h3⟩
   ·have e : Q8 j = some L0 := fK j L0 (by rw [hμ1 j i h2]; exact hμ)
    rw [hL] at e;cases e
    exact hle i _ hμ
   ·rw [hI.nx i (by simp only;omega)] at hμ;cases hμ
 have hσ':∀j i,(sig π nx n)[j]?=some i→∀L,μ' i=some L→Q8 j=some L:=fun j i hj L hL=>by
  cases hμ:μ i with
  |some L0 =>
   rw [hle i _ hμ] at hL;cases hL
   rcases WS _ _ hj with ⟨h1,h2⟩|⟨h1,h2,h3⟩
   ·exact fK j _ (by rw [hμ1 j i h2];exact hμ)
   ·rw [hI.nx i (by simp only;omega)] at hμ;cases hμ
  |none =>
   simp only [μ'] at hL;rw [hμ] at hL;simp only at hL
   split at hL
   ·rename_i hx
    cases hL
    obtain ⟨q1,q2⟩:=hx.choose_spec.choose_spec
    have key:∀j' L',Q8 j'=some L'→j'=j→Q8 j=some L':=fun j' L' h1 h2=>by subst h2;exact h1
    exact key _ _ q2 (hinj _ _ _ q1 hj)
   ·cases hL
 have Q9:∀{id:Nat} {B:kP} {L:Loc},au id bl=some B→id∉π→μ id=some L→L.b<w.heap.size∧¬X L.b:=fun {id B L} hB hid hL=>by
  refine ⟨((hI.live id B hB).loc hL).2,?_⟩
  rintro ⟨p,hp,L2,hL2,e⟩
  obtain ⟨i,C,e1,e2,e3⟩:=src p hp L2 hL2
  have:=hI.inj i id C B L2 L e3 hB e2 hL e
  subst this
  exact hid (List.mem_of_getElem? e1)
 have hkeep:∀{id:Nat} {B:kP},au id bl=some B→id∉π→μ' id=μ id:=fun {id B} hB hid=>by
  cases hμ:μ id with
  |some L=>exact hle id _ hμ
  |none =>
   simp only [μ'];rw [hμ];simp only
   rw [dif_neg]
   rintro ⟨j,L,hj,_⟩
   have aaV:=hI.lt id B hB
   rcases WS _ _ hj with ⟨h1,h2⟩|⟨h1,h2,h3⟩
   ·exact hid (List.mem_of_getElem? h2)
   ·simp only at aaV;omega
 have ir:∀{id:Nat} {B:kP},au id (Uw++w9 π bl)=some B→(∃j B0,(sig π nx n)[j]?=some id∧au j bH=some B0∧Ft (sig π nx n) B0=some B)∨(au id bl=some B∧id∉π):=fun {id B} hB=>by
  rw [uf] at hB
  split at hB
  ·rename_i B2 eB;cases hB;exact .inl (Aa hinj WR eB)
  ·rw [xd] at hB
   split at hB
   ·cases hB
   ·rename_i hk;exact .inr ⟨hB,hk⟩
 have jF:GY Y.x Y.w0 w':=by
  have b2:=nM.below
  refine ⟨b2.os.trans hI.below.os,b2.tape.trans hI.below.tape,b2.output.trans hI.below.output,Nat.le_trans hI.below.size b2.size,fun k hk hx=>?_,Nat.le_trans hI.below.dr b2.dr,fun k hk=>(hI.below.maps k hk).trans (b2.maps k (Nat.lt_of_lt_of_le hk hI.below.size))⟩
  rw [b2.block k (Nat.lt_of_lt_of_le hk hI.below.size) (fun hX=>by
   rcases M3 k hX with h|h
   ·omega
   ·exact hx h)]
  exact hI.below.block k hk hx
 have hι:∀b o,b<w.heap.size→¬X b→ι' b o=ι b o:=fun b o hb hx=>nM.iB b o hb hx
 refine ⟨v,ι',μ',r',_,rfl,hi,hle,?_,w8 hσ hr' hr,Wb⟩
 refine ⟨jF,ai.le_trans hI.i0 hi,fun b o hb hx=>?_,nM.rd,Mu.le_trans hI.m0 hle,fun id hid=>?_,fun id B hB=>?_,fun id id' B B' L L' hb hb' hm hm' e=>?_,fun id B hB=>?_,hI.gl⟩
 ·rw [hι b o (Nat.lt_of_lt_of_le hb hI.below.size) (fun hX=>by
   rcases M3 b hX with h|h
   ·omega
   ·exact hx h)]
  exact hI.iB b o hb hx
 ·simp only at hid
  have h0:μ id=none:=hI.nx id (by simp only;omega)
  simp only [μ'];rw [h0];simp only
  rw [dif_neg]
  rintro ⟨j,L,hj,_⟩
  rcases WS _ _ hj with ⟨h1,h2⟩|⟨h1,h2,h3⟩
  ·have:=hlt id (List.mem_of_getElem? h2);omega
  ·omega
 ·rcases ir hB with ⟨j, B0, e1, e2, e3⟩ | ⟨ZP, hk⟩
  ·have kW := nM.live j B0 e2
   cases B0 with
   |cells cs fz =>
    simp only [Ft] at e3
    split at e3<;>cases e3
    rename_i ds hds
    obtain ⟨L,us,hM,Hs⟩:=kW
    exact ⟨L,us,⟨hσ _ _ _ e1 hM.mu,hown _ hM.old,hM.row,hM.fits,hM.one,hM.CC,hM.pM⟩,iZ (fun _ _ _ h hr=>w8 hσ h hr) hds Hs⟩
   |arr t xs fz =>
    cases e3
    rcases kW with ⟨e,hn0⟩|⟨L,us,hM,hc,hl⟩
    ·refine .inl ⟨e, ?_⟩
     cases hμ':μ' id with
     |none=>rfl
     |some L=>rw [hσ' j id e1 L hμ'] at hn0;cases hn0
    ·exact .inr ⟨L,us,⟨hσ _ _ _ e1 hM.mu,hown _ hM.old,hM.row,hM.fits,hM.one,hM.CC,hM.pM⟩,hc,hl⟩
   |loop st jj d env ps as bd N=>cases e3
   |mz t xs k p v=>cases e3
   |ig =>
    cases e3
    obtain ⟨L,q1,q2,q3⟩:=kW
    exact ⟨L,hσ _ _ _ e1 q1,hown _ q2,q3⟩
   |map kt kg vt vg es =>
    cases e3
    obtain ⟨L,ms,clock,dA,q1,q2,q3,q4,q5⟩:=kW
    exact ⟨L,ms,clock,dA,hσ _ _ _ e1 q1,hown _ q2,q3,q4,q5⟩
  ·have kW := hI.live id B ZP
   refine kW.mono hi hle (fun hn0=>(hkeep ZP hk).trans hn0) (fun L hL=>?_) (fun L hL ho o=>?_)
   ·obtain ⟨h1, h2⟩ := Q9 ZP hk hL
    exact nM.below.block _ h1 h2
   ·obtain ⟨h1, h2⟩ := Q9 ZP hk hL
    rw [hι _ _ h1 h2];exact ho o
 ·rcases ir hb with ⟨j, B0, e1, e2, e3⟩ | ⟨hB1, hk1⟩ <;> rcases ir hb' with ⟨j', B0', EO, ZE, V2⟩ | ⟨hB2, hk2⟩
  ·have := nM.inj j j' B0 B0' L L' e2 ZE (hσ' _ _ e1 _ hm) (hσ' _ _ EO _ hm') e
   subst this;rw [e1] at EO;cases EO;rfl
  ·rw [hkeep hB2 hk2] at hm'
   obtain ⟨h1,h2⟩:=Q9 hB2 hk2 hm'
   rcases ((nM.live j B0 e2).loc (hσ' _ _ e1 _ hm)).1 with h3|h3
   ·simp only [Y1] at h3;omega
   ·rw [e] at h3;exact absurd h3 h2
  ·rw [hkeep hB1 hk1] at hm
   obtain ⟨h1,h2⟩:=Q9 hB1 hk1 hm
   rcases ((nM.live j' B0' ZE).loc (hσ' _ _ EO _ hm')).1 with h3|h3
   ·simp only [Y1] at h3;omega
   ·rw [←e] at h3;exact absurd h3 h2
  ·rw [hkeep hB1 hk1] at hm
   rw [hkeep hB2 hk2] at hm'
   exact hI.inj id id' B B' L L' hB1 hB2 hm hm' e
 ·rcases ir hB with ⟨j, B0, e1, e2, e3⟩ | ⟨ZP, hk⟩
  ·rcases WS _ _ e1 with ⟨h1, h2⟩ | ⟨h1, h2, h3⟩
   ·have:=hlt id (List.mem_of_getElem? h2);simp only;omega
   ·simp only;omega
  ·have:=hI.lt id B ZP;simp only at this ⊢;omega
end
end Go.AM
end
section
namespace Go.AM
structure Ht where
 f:Nat
 p:az
 q:az
 fn:p.T→Option q.T
def Ht.Ok (P:Program) (ht:Ht):Prop:=∀x y,ht.fn x=some y →
 gN P ht.f ((ht.p.E x).map (·.2)) ⟨ht.p.gI.length,ht.p.B x⟩ fun r H=>r=get 0 (ht.q.E y)∧H=⟨ht.p.gI.length+ht.q.gI.length,ht.q.B y⟩
section
variable {P:Program} {R:Type}
def az.rdP (no:R) (p:az) (env:Env) (nx:Nat) (bl:ah) (k:List Nat→p.T→R):R :=
 rE no env nx bl [] p.gI [] 0 fun π=>match wZ π p.bl with
  |true=>match zW (A:=QU p.bl Unit) π env p.env with
   |some f=>match MR (A:=Unit) π nx bl p.bl with
    |some g=>k π (f (g ()))
    |none=>no
   |none=>no
  |false=>no
def BA : List Nat → Bool
 |[]=>true
 |i::r=>match AQ i r with
  |true=>false
  |false=>BA r
theorem Ab : ∀ {l : List Nat}, BA l = true → l.Nodup
 |[],_=>.nil
 |i::r,h=>by
  simp only [BA] at h
  split at h
  ·cases h
  ·rename_i hm
   exact List.nodup_cons.2 ⟨(fun hi=>by rw [qX.2 hi] at hm;cases hm),Ab h⟩
def BC (n : Nat) : List Nat → Bool
 |[]=>true
 |i::r=>match Nat.blt i n with
  |true=>BC n r
  |false=>false
theorem Ad {n : Nat} : ∀ {l : List Nat}, BC n l = true → ∀ i ∈ l, i < n
 |[],_,i,hi=>by simp at hi
 |j::r,h,i,hi=>by
  simp only [BC] at h
  split at h
  ·rename_i hj
   rcases List.mem_cons.1 hi with rfl|hi
   ·have : i + 1 ≤ n := by simpa [Nat.blt] using hj
    omega
   ·exact Ad h i hi
  ·cases h
def mV : List (Nat × BP) → Bool
 |[]=>true
 |(_,.loop _ _ _ _ _ _ _ _)::_=>false
 |(_,.arr _ _)::r=>mV r
 |(_,.cells _ _)::r=>mV r
 |(_,.ig)::r=>mV r
 |(_,.map _ _ _ _)::r=>mV r
 |(_,.mz _ _ _ _)::r=>mV r
theorem Ae {A : Type} : ∀ {ps : List (Nat × BP)} (x : QU ps A), mV ps = true → ∀ p ∈ PU ps x, ∀ st j d env ps as bd N, p.2 ≠ .loop st j d env ps as bd N
 |[],x,h,p,hp=>by simp [PU] at hp
 |(s,b)::r,x,h,p,hp=>by
  simp only [PU,List.mem_cons] at hp
  intro st j d env ps as bd N
  rcases hp with rfl|hp
  ·cases b with
   |loop=>simp [mV] at h
   |arr=>simp [BP.v]
   |cells=>simp [BP.v]
   |ig=>simp [BP.v]
   |map=>simp [BP.v]
   |mz=>simp [BP.v]
  ·refine Ae _ ?_ p hp st j d env ps as bd N
   cases b<;>simp [mV] at h<;>exact h
def WT (kz:Kz R) (no:R) (ht:Ht) (vs:List V) (nx:Nat) (bl:ah) (K:V→Nat→ah→R):R :=
 match an (Nat.beq vs.length ht.p.env.length) (mV ht.p.bl) with
 |true=>ht.p.rdP no (args 0 vs) nx bl fun π x=>match an (BA π) (BC (nx+π.length) π) with
  |true=>kz.bd (ht.fn x) fun y=>fN (π.length+ht.q.gI.length) fun n=>ht.q.go n y fun env _ bH _=>match nI (sig π nx n) 8 (get 0 env) with
   |some r'=>match Dy (sig π nx n) bH with
    |some Uw=>ZO (Uw++w9 π bl) fun bl=>fN (nx+n) fun nx=>K r' nx bl
    |none=>kz.no
   |none=>kz.no
  |false=>no
 |false=>no
theorem args_at:∀{vs:List V} {n i:Nat},get i (args n vs)=if n≤i then vs.getD (i - n) .any else .any:=wC
theorem rI {A : Type} : ∀ {ps : List (Nat × SP)} {x : yR ps A}, (wU ps x).length = ps.length
 |[],_=>rfl
 |(_,_)::r,x=>by simp [wU,rI (ps:=r)]
theorem Ra {π:List Nat} {vs:List V} {env:Env} (hlen:vs.length=env.length) (hs:env.map (·.1)=List.range env.length) (h:EE π env (args 0 vs)):Cq π (env.map (·.2)) vs:=by
 refine ⟨by simp [hlen],fun i v u hv hu=>?_⟩
 rw [List.getElem?_map] at hv
 cases hp:env[i]? with
 |none=>rw [hp] at hv;cases hv
 |some p =>
  rw [hp] at hv;cases hv
  have hi:=(List.getElem?_eq_some_iff.1 hp).1
  have e1:(env.map (·.1))[i]?=(List.range env.length)[i]?:=by rw [hs]
  rw [List.getElem?_map,hp,List.getElem?_range hi] at e1
  simp only [Option.map_some,Option.some.injEq] at e1
  have:=h p (List.mem_of_getElem? hp)
  rw [args_at,e1,if_pos (Nat.zero_le _)] at this
  simp only [Nat.sub_zero] at this
  have e2:vs.getD i .any=u:=by simp [List.getD,hu]
  rwa [e2] at this
theorem oe {A : Type} : ∀ {ps : List (Nat × SP)} {x : yR ps A}, (wU ps x).map (·.1) = ps.map (·.1)
 |[],_=>rfl
 |(_,_)::r,x=>by simp [wU,oe (ps:=r)]
theorem az.Ux {p:az} {x:p.T}:(p.E x).length=p.env.length:=rI
theorem az.ve {p:az} {x:p.T}:(p.E x).map (·.1)=p.env.map (·.1):=oe
def Ht.slots (ht:Ht):Prop:=ht.p.env.map (·.1)=List.range ht.p.env.length
theorem Rb {ht:Ht} (hok:ht.Ok P) (Z8:ht.slots) {X:Type} {no:Option X} {vs:List V} {nx:Nat} {bl:ah} {K:V→Nat→ah→Option X} {r:X} (h:WT (jf X) no ht vs nx bl K=some r) :
  no=some r∨∀{Q:V→aF→Prop},(∀v nx bl,K v nx bl=some r→Q v ⟨nx,bl⟩)→gN P ht.f vs ⟨nx,bl⟩ Q:=by
 unfold WT at h
 split at h
 ·rename_i h0
  rw [aM] at h0
  have hlen:=Nat.eq_of_beq_eq_true h0.1
  unfold az.rdP at h
  have key:∀{ls:List Lc} {π0:List Nat} {b:Nat} {k:List Nat→Option X},rE no (args 0 vs) nx bl [] ls π0 b k=some r→no=some r∨∃rr,rr.length=ls.length∧k (π0++rr)=some r:=by
   intro ls
   induction ls with
   |nil=>intro π0 b k hk;exact .inr ⟨[],rfl,by simpa [rE] using hk⟩
   |cons l ls ih =>
    intro π0 b k hk
    simp only [rE] at hk
    split at hk
    ·rename_i i hi
     rw [fM,Bs,fM] at hk
     rcases ih hk with hk|⟨rr,h1,h2⟩
     ·exact .inl hk
     ·exact .inr ⟨i::rr,by simp [h1],by simpa using h2⟩
    ·exact .inl hk
  rcases key h with h|⟨π,hπ,h⟩
  ·exact .inl h
  simp only [List.nil_append] at h
  split at h
  ·rename_i hap
   split at h
   ·rename_i f hf
    split at h
    ·rename_i g hg
     split at h
     ·rename_i hnb
      rw [aM] at hnb
      refine .inr fun {Q} hQ=>?_
      obtain ⟨y,hy,h⟩:=qo h
      rw [fM,az.go_eq] at h
      obtain ⟨h1,h2⟩:=rD hf (g ())
      obtain ⟨h3,h4⟩:=Bq hg ()
      split at h<;>try (cases h;done)
      rename_i r' hr'
      split at h<;>try (cases h;done)
      rename_i Uw WR
      rw [Bu,fM] at h
      have gO:=hok _ _ hy
      rw [←hπ] at gO
      have hB:ht.p.B (f (g ()))=PU ht.p.bl (g ()):=by unfold az.B;rw [h2]
      refine Dz (Q0:=fun r H=>r=get 0 (ht.q.E y)∧H=⟨π.length+ht.q.gI.length,ht.q.B y⟩) gO ?_ ?_ ?_ (Ab hnb.1) (Ad hnb.2) ?_
      ·exact Ra (env:=wU ht.p.env (f (g ()))) (hlen.trans rI.symm) (oe.trans (Z8.trans (by rw [rI]))) h1
      ·rw [hB];exact h3
      ·rw [hB];exact Ae _ h0.2
      ·rintro r n bH ⟨rfl, e⟩
       cases e
       exact ⟨by omega,r',Uw,hr',WR,hQ _ _ _ h⟩
     ·exact .inl h
    ·exact .inl h
   ·exact .inl h
  ·exact .inl h
 ·exact .inl h
def DA (kz : Kz R) (f : Nat) (vs : List V) (nx : Nat) (bl : ah) (K : V → Nat → ah → R) (no : R) : List Ht → R
 |[]=>no
 |ht::r=>match Nat.beq ht.f f with
  |true=>WT kz (DA kz f vs nx bl K no r) ht vs nx bl K
  |false=>DA kz f vs nx bl K no r
def M4 (P : Program) : List Ht → Prop
 |[]=>True
 |c::r=>(c.Ok P∧c.slots)∧M4 P r
theorem xe {X:Type} {no:Option X} {f:Nat} {vs:List V} {nx:Nat} {bl:ah} {K:V→Nat→ah→Option X} {r:X}:∀{hts:List Ht},M4 P hts→DA (jf X) f vs nx bl K no hts=some r →
  no=some r∨∀{Q:V→aF→Prop},(∀v nx bl,K v nx bl=some r→Q v ⟨nx,bl⟩)→gN P f vs ⟨nx,bl⟩ Q
 |[],_,h=>.inl h
 |ht::hts,hok,h=>by
  simp only [DA] at h
  split at h
  ·rename_i hf
   have e:=Nat.eq_of_beq_eq_true hf
   subst e
   rcases Rb hok.1.1 hok.1.2 h with h|h
   ·exact xe hok.2 h
   ·exact .inr h
  ·exact xe hok.2 h
def aL (u9:List Ct) (hts:List Ht):Cx where
 pc kz f vs K:=Ds kz f vs K u9
 ca kz f vs nx bl K:=DA kz f vs nx bl K (WL u9 kz f vs nx bl K) hts
 rd kz _ _ _ _ _:=kz.no
theorem ax {u9:List Ct} {hts:List Ht} (h:HM P u9) (h2:M4 P hts):(aL u9 hts).Ok P where
 Ur hk:=o3 h hk
 QT:=by
  intro X f vs nx bl K r hk Q hQ
  rcases xe h2 hk with hk|hk
  ·exact (Q5 h).QT hk hQ
  ·exact hk hQ
 WB hk:=by cases hk
theorem JR {f:Nat} {vs:List V} {H:aF} {Q:V→aF→Prop} (h:gN P f vs H fun r H'=>∃r'' H'' π,jl H.next π ⟨[(0,r)],H',[]⟩ ⟨[(0,r'')],H'',[]⟩∧Q r'' H''):gN P f vs H Q :=
 ⟨h.1,fun Y ι μ w as hI hl=>(h.2 Y ι μ w as hI hl).mono fun e w' ⟨v,ι',μ',r,H',h1,h2,h3,h4,h5,r'',H'',π,h6,h7⟩=>by
  let Y2:Ctx:=⟨Y.w0,Y.ι0,fun i=>if i<H.next then μ i else none,Y.ro,Y.x,[]⟩
  have nM:Inv P Y2 ι' μ' H' w':=⟨h4.below,h4.i0,h4.iB,h4.rd,(fun i L hL=>by
   simp only [Y2] at hL
   split at hL
   ·exact h3 _ _ hL
   ·cases hL),h4.nx,h4.live,h4.inj,h4.lt,h4.gl⟩
  have hR:eF P 1 Y2 ι' μ' ⟨[(0,r)],H',[]⟩ { tmps:=#[v],defers:=[] } w':=⟨(fun t=>by
   rw [bV]
   split
   ·rename_i e;subst e;exact h5
   ·exact .any _),rfl,nM,rfl⟩
  have nq:=h6.rep (fun i hi=>by simp only [Y2];rw [if_neg (by omega)]) hR
  have hle:μ.le (μ'.eR π):=fun i L hL=>by
   have hlt:i<H.next:=by
    rcases Nat.lt_or_ge i H.next with h|h
    ·exact h
    ·rw [hI.nx i h] at hL;cases hL
   exact nq.inv.m0 i L (by simp only [Y2];rw [if_pos hlt];exact hL)
  refine ⟨v,ι',μ'.eR π,r'',H'',h1,h2,hle,⟨h4.below,h4.i0,h4.iB,h4.rd,Mu.le_trans hI.m0 hle,nq.inv.nx,nq.inv.live,nq.inv.inj,nq.inv.lt,hI.gl⟩,?_,h7⟩
  have:=nq.env 0
  rw [bV,if_pos rfl] at this
  exact this⟩
def Af (kz:Kz R) (rs:List RV) (tys:List (Option Ty)) (K:V→Nat→ah→R):Kc R:=fun e env nx bl ms=>match e with
 | .exit _=>kz.no
 | .normal=>go env nx bl ms
 | .ret=>go env nx bl ms
where go (env:Env) (nx:Nat) (bl:ah) (ms:List Nat):R:=match eG ms bl with
 |some bl=>match uz ew ⟨env,⟨nx,bl⟩,[]⟩ rs with
  |some vs=>fV (tV (cO (hTs tys) vs)) fun v=>K v nx bl
  |none=>kz.no
 |none=>kz.no
theorem xg {X : Type} {rs : List RV} {tys : List (Option Ty)} {K : V → Nat → ah → Option X} {r : X} {e : Ex} {env : Env} {nx : Nat} {bl : ah} {ms : List Nat} (h : Af (jf X) rs tys K e env nx bl ms = some r) {Q : V → aF → Prop}
  (hQ:∀v nx bl,K v nx bl=some r→Q v ⟨nx,bl⟩):A3 rs tys Q e ⟨env,⟨nx,bl⟩,ms⟩:=by
 have key:Af.go (jf X) rs tys K env nx bl ms=some r→A3.qf rs tys Q ⟨env,⟨nx,bl⟩,ms⟩:=fun hg=>by
  unfold Af.go at hg
  unfold A3.qf
  split at hg<;>try (cases hg;done)
  rename_i bH h1
  simp only
  rw [h1]
  simp only
  split at hg<;>try (cases hg;done)
  rename_i vs h2
  rw [h2]
  rw [nt] at hg
  exact hQ _ _ _ hg
 cases e with
 |exit i=>cases h
 |normal=>exact key h
 |ret=>exact key h
def hfE {N k:Nat} (kz:Kz R) (cx:Cx) (ar:Ar) (pre:List Nat) (rs:List RV) (tys:List (Option Ty)) (p q:az) (body:D P N none k) (inr:q.T→R) (x:p.T):R :=
 p.go k x fun env nx bl _=>kE kz cx ar body env nx bl [] (Af kz rs tys fun r nx bl=>q.rd kz.no pre k [(0,r)] nx bl [] inr)
theorem DB : ∀ {env : Env} {n : Nat}, env.map (·.1) = List.range' n env.length → args n (env.map (·.2)) = env
 |[],n,_=>rfl
 |(s,v)::r,n,h=>by
  simp only [List.map_cons,List.length_cons,List.range'_succ,List.cons.injEq] at h
  simp only [List.map_cons,args]
  rw [DB h.2,h.1]
theorem bO (mixed : P.follows .mixedOrders = true) {cx : Cx} (gq : cx.Ok P) {func : Func} {fn : Fn} {ht : Ht} {k : Nat} (hk : ht.p.gI.length = k) (hf : P.funcs[ht.f]? = some func) (htr : cN P func = some fn) (cD : Enters P ht.f)
  (body:D P fn.N none k) (hbody:body.er=fn.body) (hnp:Nat.ble ht.p.env.length fn.np=true) (Z8:ht.slots) (hq:∃s,ht.q.env=[(0,s)]) (hqm:ht.q.ms=[]) {pre:List Nat} (hpre:pre=List.range k)
  (hfn:∀x,hfE (jf ht.q.T) cx ew pre fn.res fn.tys ht.p ht.q body some x=ht.fn x):ht.Ok P:=by
 intro x y hxy
 subst hpre
 rw [←hfn x] at hxy
 unfold hfE at hxy
 rw [az.go_eq] at hxy
 subst hk
 refine JR ?_
 refine j6 hf htr cD (iD mixed) (by rw [List.length_map,az.Ux];exact Nat.le_of_ble_eq_true hnp) ?_
 have ha:args 0 ((ht.p.E x).map (·.2))=ht.p.E x:=DB (by rw [az.ve,az.Ux,←List.range_eq_range'];exact Z8)
 rw [ha,←hbody]
 refine kZ gq hxy fun e env nx bl ms hk=>?_
 refine xg hk fun v nx bl hk=>?_
 obtain ⟨y',π,h1,h2⟩:=az.dG hk
 cases h1
 obtain ⟨s,hs⟩:=hq
 have he:ht.q.E y=[(0,get 0 (ht.q.E y))]:=by
  have h1:(ht.q.E y).map (·.1)=[0]:=by rw [az.ve,hs];rfl
  cases h2:ht.q.E y with
  |nil=>rw [h2] at h1;cases h1
  |cons a r =>
   obtain ⟨a1,a2⟩:=a
   rw [h2] at h1
   simp only [List.map_cons,List.cons.injEq,List.map_eq_nil_iff] at h1
   obtain ⟨rfl,rfl⟩:=h1
   rw [bV,if_pos rfl]
 refine ⟨_,_,π,?_,rfl,rfl⟩
 have e:az.st ht.p.gI.length ht.q y=⟨[(0,get 0 (ht.q.E y))],⟨ht.p.gI.length+ht.q.gI.length,ht.q.B y⟩,[]⟩:=by
  unfold az.st;rw [←he,hqm]
 rw [←e];exact h2
def K3 {A B : Type} (F : (A → Option B) → A → Option B) : Nat → A → Option B
 |0=>fun _=>none
 |n+1=>F (K3 F n)
noncomputable def xk {A B:Type} (F:(A→Option B)→A→Option B) (x:A):Option B:=by
 classical exact if h:∃(N:Nat) (y:B),∀n,N≤n→K3 F n x=some y then some h.choose_spec.choose else none
theorem Ag {A B:Type} {F:(A→Option B)→A→Option B} {x:A} {y:B} (h:xk F x=some y):∃n,K3 F n x=some y:=by
 unfold xk at h
 split at h
 ·rename_i hx;cases h;exact ⟨hx.choose,hx.choose_spec.choose_spec _ (Nat.le_refl _)⟩
 ·cases h
theorem HP {A B:Type} {F:(A→Option B)→A→Option B} {x:A} {y:B} {N:Nat} (h:∀n,N≤n→K3 F n x=some y):xk F x=some y:=by
 unfold xk
 have hx:∃(N:Nat) (y:B),∀n,N≤n→K3 F n x=some y:=⟨N,y,h⟩
 rw [dif_pos hx]
 have h1:=hx.choose_spec.choose_spec (max N hx.choose) (Nat.le_max_right _ _)
 rw [h _ (Nat.le_max_left _ _)] at h1
 exact h1.symm
theorem M5 {f:Nat} {p q:az} {F:(p.T→Option q.T)→p.T→Option q.T} (h:∀rec,Ht.Ok P ⟨f,p,q,rec⟩→Ht.Ok P ⟨f,p,q,F rec⟩):Ht.Ok P ⟨f,p,q,xk F⟩:=by
 have key:∀n,Ht.Ok P ⟨f,p,q,K3 F n⟩:=by
  intro n
  induction n with
  |zero=>intro x y hxy;cases hxy
  |succ n ih=>exact h _ ih
 intro x y hxy
 obtain ⟨n,hn⟩:=Ag hxy
 exact key n x y hn
theorem ct_fix {f:Nat} {ps:List SP} {res:SP} {F:(qs ps Unit→Option (res.T Unit))→qs ps Unit→Option (res.T Unit)} (h:∀rec,Ct.Ok P ⟨f,ps,res,rec⟩→Ct.Ok P ⟨f,ps,res,F rec⟩):Ct.Ok P ⟨f,ps,res,xk F⟩:=by
 have key:∀n,Ct.Ok P ⟨f,ps,res,K3 F n⟩:=by
  intro n
  induction n with
  |zero=>intro x y hxy;cases hxy
  |succ n ih=>exact h _ ih
 intro x y hxy
 obtain ⟨n,hn⟩:=Ag hxy
 exact key n x y hn
end
end Go.AM
end
section
namespace Go.AM
open Go.RowKit Go.ChangeShapes Go.WideShapes
def holes (tys:List Ty):List SP:=tys.map fun t=>.c (.hole t)
def DC : (tys : List Ty) → qs (holes tys) Unit → Prop
 |[],_=>True
 |t::r,x=>Wf t x.1∧DC r x.2
section
variable {P:Program} {H:Type} {enc:TypeId×Value→H} {W:World} {base:Nat}
def pS (P : Program) (t : TypeId) : Ty → Bool
 | .unit=>false
 | .prod _ _=>match P.underlying t with
  |some (.struct _)=>true
  |some (.array _ _)=>true
  |_=>false
 |_=>match P.underlying t with
  |some (.struct _)=>false
  |some (.array _ _)=>false
  |_=>true
theorem M6 {t : TypeId} {ty : Ty} (hok : fL P 8 t ty = true) (JS : pS P t ty = true) {v : Value} (hv : Value.okWide P W .any base t v) {d : DataW H} {p : List MemPlace}
  (h:DataW.Trod enc P W 0 (fun _=>true) true t v d p):∃y:ty.den,Rel (jy W) (fun _=>none) (tyV ty y) v∧Wf ty y:=by
 obtain ⟨fuel,hf⟩:=h
 obtain ⟨y,hy,wy⟩:=Mn hok hf
 refine ⟨y,?_,wy⟩
 cases ty with
 |unit=>simp [pS] at JS
 |bool =>
  cases hu:P.underlying t with
  |none=>simp [fL,hu] at hok
  |some u =>
   cases u<;>first|(exfalso;simp [pS,hu] at JS;done)|(exfalso;simp [fL,hu] at hok;done)|simp [fL,hu] at hok
   ·obtain ⟨b, rfl⟩ := okWide_bool hu hv
    simp only [af,Value.cells,List.cons.injEq,Value.bool.injEq,and_true] at hy
    subst hy;exact .bool _
 |str =>
  cases hu:P.underlying t with
  |none=>simp [fL,hu] at hok
  |some u =>
   cases u<;>first|(exfalso;simp [pS,hu] at JS;done)|(exfalso;simp [fL,hu] at hok;done)|simp [fL,hu] at hok
   ·obtain ⟨b, rfl⟩ := okWide_string hu hv
    simp only [af,Value.cells,List.cons.injEq,Value.string.injEq,and_true] at hy
    subst hy;exact .str _
 |int k =>
  cases hu:P.underlying t with
  |none=>simp [fL,hu] at hok
  |some u =>
   cases u<;>first|(exfalso;simp [pS,hu] at JS;done)|(exfalso;simp [fL,hu] at hok;done)|simp [fL,hu] at hok
   ·subst hok
    obtain ⟨b,rfl⟩:=okWide_int hu hv
    simp only [af,Value.cells,List.cons.injEq,Value.int.injEq,true_and,and_true] at hy
    subst hy;exact .int _ _
 |list te =>
  cases hu:P.underlying t with
  |none=>simp [fL,hu] at hok
  |some u =>
   cases u<;>first|(exfalso;simp [pS,hu] at JS;done)|(exfalso;simp [fL,hu] at hok;done)|simp [fL,hu] at hok
   ·obtain ⟨a, len, cap, rfl⟩ := okWide_slice hu hv
    exact .eH _ _ _ hy
 |cq d g a =>
  cases hu:P.underlying t with
  |none=>simp [fL,hu] at hok
  |some u =>
   cases u<;>first|(exfalso;simp [pS,hu] at JS;done)|(exfalso;simp [fL,hu] at hok;done)|simp [fL,hu] at hok
 |prod a b =>
  cases hu:P.underlying t with
  |none=>simp [fL,hu] at hok
  |some u =>
   have hcs:∃cs:Array Value,v = .agg cs:=by
    cases u<;>simp [fL,hu] at hok
    ·simp only [Value.okWide,hu] at hv;obtain ⟨cs,h1,_⟩:=hv;exact ⟨cs,h1⟩
    ·obtain ⟨cs,h1,_⟩:=okWide_struct hu hv;exact ⟨cs,h1⟩
   obtain ⟨cs,rfl⟩:=hcs
   have hr:=eN (μ:=fun _=>none) hy
   refine .agg _ cs ?_ (fun i v x hv hx=>hr.2 i v x hv (by simpa [Value.cells] using hx)) ?_
   ·have:=hr.1;simpa [Value.cells] using this
   ·intro x hx;exact af.one hy x (by simpa [Value.cells] using hx)
theorem ug:∀{ts:List TypeId} {tys:List Ty} {vs:List Value} {ds:List (DataW H)} {p:List MemPlace},ts.length=tys.length→(∀(i:Nat) t ty,ts[i]?=some t→tys[i]?=some ty→fL P 8 t ty=true∧pS P t ty=true) →
  (∀(j:Nat) t v,ts[j]?=some t→vs[j]?=some v→Value.okWide P W .any base t v)→DataW.TrodAll enc P W 0 (fun _=>true) true ts vs ds p →
  ∃x:qs (holes tys) Unit,aG (jy W) (fun _=>none) (Dp (holes tys) x) vs∧DC tys x
 |[],[],vs,ds,p,_,_,_,h=>by
  obtain ⟨rfl,_,_⟩:=trodAll_nil h
  exact ⟨(),.nil,trivial⟩
 |t::ts,ty::tys,vs,ds,p,hl,hok,hv,h=>by
  obtain ⟨v,vs',d,ds',p1,q,rfl,rfl,rfl,h1,h2⟩:=trodAll_cons h
  obtain ⟨k1,k2⟩:=hok 0 t ty rfl rfl
  obtain ⟨y,hy,wy⟩:=M6 k1 k2 (hv 0 t v rfl rfl) h1
  obtain ⟨x,hx,wx⟩:=ug (by simpa using hl) (fun i t ty ht CQ=>hok (i+1) t ty (by simpa using ht) (by simpa using CQ)) (fun j t v ht qg=>hv (j+1) t v (by simpa using ht) (by simpa using qg)) h2
  exact ⟨(y,x),.cons hy hx,wy,wx⟩
 |[],_::_,_,_,_,hl,_,_,_=>by simp at hl
 |_::_,[],_,_,_,hl,_,_,_=>by simp at hl
theorem pT (hl:laidOutB P=true) {W':World} (hb:Below W.heap.size W W'):∀{ts:List TypeId} {vs:List Value} {ds:List (DataW H)} {p:List MemPlace},(∀t∈ts,P.readableRec t=true∧t<P.types.size) →
  DataW.TrodAll enc P W 0 (fun _=>true) true ts vs ds p→(∀x∈p,x.block<W.heap.size)→DataW.TrodAll enc P W' 0 (fun b=>decide (b<W.heap.size)) true ts vs ds p
 |[],vs,ds,p,_,h,_=>by
  obtain ⟨rfl,rfl,rfl⟩:=trodAll_nil h
  exact trodAll_mk0
 |t::ts,vs,ds,p,ht,h,hp=>by
  obtain ⟨v,vs',d,ds',p1,q,rfl,rfl,rfl,h1,h2⟩:=trodAll_cons h
  obtain ⟨k1,k2⟩:=ht t (List.mem_cons_self ..)
  exact trodAll_cons_mk (Below.trod hl k1 k2 h1 hb (fun x hx=>hp x (List.mem_append_left _ hx))) (pT hl hb (fun t ht'=>ht t (List.mem_cons_of_mem _ ht')) h2 (fun x hx=>hp x (List.mem_append_right _ hx)))
end
def qt (P : Program) : List TypeId → List Ty → Bool
 |[],[]=>true
 |t::ts,ty::tys=>fL P 8 t ty&&pS P t ty&&P.readableRec t&&Nat.blt t P.types.size&&qt P ts tys
 |_,_=>false
theorem xq {P : Program} : ∀ {ts : List TypeId} {tys : List Ty}, qt P ts tys = true → ts.length = tys.length ∧ (∀ (i : Nat) t ty, ts[i]? = some t → tys[i]? = some ty → fL P 8 t ty = true ∧ pS P t ty = true) ∧ ∀ t ∈ ts, P.readableRec t = true ∧ t < P.types.size
 |[],[],_=>⟨rfl,fun i t ty h=>by simp at h,fun t h=>by simp at h⟩
 |t::ts,ty::tys,h=>by
  simp only [qt,Bool.and_eq_true] at h
  obtain ⟨⟨⟨⟨h1,h2⟩,h3⟩,h4⟩,h5⟩:=h
  obtain ⟨k1,k2,k3⟩:=xq h5
  refine ⟨by simp [k1],fun i t' ty' ht CQ=>?_,fun t' ht=>?_⟩
  ·cases i with
   |zero=>simp at ht CQ;subst ht;subst CQ;exact ⟨h1,h2⟩
   |succ i=>exact k2 i t' ty' (by simpa using ht) (by simpa using CQ)
  ·rcases List.mem_cons.1 ht with rfl | ht
   ·exact ⟨h3,by simpa [Nat.blt,Nat.succ_le_iff] using h4⟩
   ·exact k3 t' ht
 |[],_::_,h=>by simp [qt] at h
 |_::_,[],h=>by simp [qt] at h
theorem yU {P : Program} {H : Type} {enc : TypeId × Value → H} {f : FuncId} {fn : Func} {s : ChangeSpec} (tys : List Ty) (laid : laidOutB P = true) (hvars : s.vars = []) (WU : qt P fn.params.toList tys = true)
  {tb:TypeId} (hres:fn.resultTypes=#[tb]) (htb:P.underlying tb=some .bool)
  (hs:∀ds:List (DataW H),ds.length=tys.length→(s.fn H ds).results=[.lit (.bool true)]∧(s.fn H ds).args=ds∧(s.fn H ds).vars=[])
  {F:qs (holes tys) Unit→Option (Bool×Unit)} (hct:Ct.Ok P ⟨f,holes tys,.c (.hole .bool),F⟩) (hF:∀x,DC tys x→F x=some (true,()))
  {W:World} {base:Nat} {args:Array Value} {ds gs:List (DataW H)} {before:List MemPlace} (hgl:jh P (jy W)) (hval:∀(j:Nat) t v,fn.params[j]?=some t→args[j]?=some v→Value.okWide P W .any base t v)
  (hW:DataW.Whole enc P fn.params.toList s.vars false W args.toList ds gs before) :
  Calls P f args W fun e W'=>∃v,e = .returned v∧s.post enc P fn false true false false W args v W':=by
 have hW':=hW
 obtain ⟨p,q,hA,hV,rfl,hfz,WO⟩:=hW
 rw [hvars] at hV
 obtain ⟨rfl,rfl⟩:=trodVars_none hV
 obtain ⟨k1,k2,k3⟩:=xq WU
 obtain ⟨x,hx,wx⟩:=ug (base:=base) k1 k2 (fun j t v ht hv=>hval j t v (by simpa using ht) (by simpa using hv)) hA
 have hlen:ds.length=tys.length:=by
  rw [←k1]
  have:∀{ts:List TypeId} {vs:List Value} {ds:List (DataW H)} {p:List MemPlace},DataW.TrodAll enc P W 0 (fun _=>true) true ts vs ds p→ds.length=ts.length:=by
   intro ts
   induction ts with
   |nil=>intro vs ds p h;obtain ⟨rfl,rfl,rfl⟩:=trodAll_nil h;rfl
   |cons t ts ih=>intro vs ds p h;obtain ⟨v,vs',d,ds',p1,q,rfl,rfl,rfl,h1,h2⟩:=trodAll_cons h;simp [ih h2]
  exact this hA
 simp only [List.append_nil] at hW'
 have gO:=(hct x (true,()) (hF x wx)).2 (jy W) W args hgl (fun b o x h=>h) hx
 refine (callsIn_wide.1 gO).mono ?_
 rintro e W' ⟨v,ι',rfl,_,_,_,jF,hr⟩
 have hv:v = .bool true:=by
  have hr':Rel ι' (fun _=>none) (.bool true) v:=hr
  cases hr';rfl
 subst hv
 have hlt:∀x∈p,x.block<W.heap.size:=fun x hx=>hW'.lt x hx
 obtain ⟨s1,s2,s3⟩:=hs (ds++[]) (by simpa using hlen)
 simp only [List.append_nil] at s1 s2 s3
 refine ⟨_,rfl,ds,[],p,[],p,[],hW',?_,?_,?_,jF.b.frame _,fun h=>by cases h⟩
 ·simp only [List.append_nil]
  rw [s1,hres]
  exact trodAll_cons_mk (p:=[]) (p':=[]) (shut_bool htb _) trodAll_mk0
 ·simp only [List.append_nil]
  rw [s2]
  exact pT laid jF.b k3 hA hlt
 ·simp only [List.append_nil]
  rw [s3,hvars]
  rfl
theorem BD {P : Program} {H : Type} {enc : TypeId × Value → H} {f : FuncId} {fn : Func} {s : ChangeSpec} (tys : List Ty) (laid : laidOutB P = true) (hvars : s.vars = []) (WU : qt P fn.params.toList tys = true)
  {tb:TypeId} (hres:fn.resultTypes=#[tb]) (htb:P.underlying tb=some .bool)
  (hs:∀ds:List (DataW H),ds.length=tys.length→(s.fn H ds).results=[.lit (.bool true)]∧(s.fn H ds).args=ds∧(s.fn H ds).vars=[])
  {F:qs (holes tys) Unit→Option (Bool×Unit)} (hct:Ct.Ok P ⟨f,holes tys,.c (.hole .bool),F⟩) (hF:∀x,DC tys x→F x=some (true,()))
  {W:World} {base:Nat} {args:Array Value} {ds gs:List (DataW H)} {before:List MemPlace} (hno:(List.range P.globals.size).all (fun g=>(oO P g).isNone)=true) (hval:∀(j:Nat) t v,fn.params[j]?=some t→args[j]?=some v→Value.okWide P W .any base t v)
  (hW:DataW.Whole enc P fn.params.toList s.vars false W args.toList ds gs before) :
  Calls P f args W fun e W'=>∃v,e = .returned v∧s.post enc P fn false true false false W args v W' :=
 yU tys laid hvars WU hres htb hs hct hF (jh.none hno _) hval hW
end Go.AM
end
section
namespace Go.AM
theorem aJ {z:Int} (h1 : -9223372036854775808≤z) (h2:z≤9223372036854775807):gH .i64 z=true:=by
 have e1:IntKind.i64.min = -9223372036854775808:=by decide
 have e2:IntKind.i64.max=9223372036854775807:=by decide
 simp only [gH,e1,e2,Bool.and_eq_true,decide_eq_true_eq]
 exact ⟨h1,h2⟩
theorem bX {i n:Int} (h:0≤i) (h2:i<n):fh i n=true:=by simp [fh,h,h2]
theorem fP {X:Type} {z:Int} {x:Option X} (h1 : -9223372036854775808≤z) (h2:z≤9223372036854775807):need (gH .i64 z) x=x:=gn (aJ h1 h2)
theorem DD {X:Type} {i n:Int} {x:Option X} (h:0≤i) (h2:i<n):need (fh i n) x=x:=gn (bX h h2)
theorem b7 {X:Type} {p:Prop} [Decidable p] {x:Option X} (h:p):need (decide p) x=x:=gn (decide_eq_true h)
theorem M7 {X:Type} {c:Bool} {x y:Option X} (h:c=true):u5 c x y=x:=by rw [h,bM]
theorem FJ {X:Type} {c:Bool} {x y:Option X} (h:c=false):u5 c x y=y:=by rw [h,b8]
theorem bp {X:Type} {p:Prop} [Decidable p] {x y:Option X}:u5 (decide p) x y=if p then x else y:=by
 by_cases h:p<;>simp [h]
theorem bI {X:Type} {a b:Int} {x y:Option X}:u5 (a==b) x y=if a=b then x else y:=by
 by_cases h:a=b
 ·simp [h]
 ·have : (a == b) = false := by simpa using h
  rw [this,b8,if_neg h]
theorem bP {X:Type} {c:Bool} {x y:Option X}:u5 (!c) x y=u5 c y x:=by cases c<;>simp
theorem aj {A X:Type} {o:Option A} {a:A} {f:A→Option X} (h:o=some a):iu o f=f a:=by rw [h,aN]
end Go.AM
end
section
namespace Go.AM
structure Le {X:Type} (a b:Option X):Prop where
 h:∀y,a=some y→b=some y
def Uy {X:Type} (c:Bool) (x:Option X):Option X:=match c with
 |true=>x
 |false=>none
def aaW {A X:Type} (o:Option A) (f:A→Option X):Option X:=match o with
 |some a=>f a
 |none=>none
def brC {X:Type} (c:Bool) (x y:Option X):Option X:=match c with
 |true=>x
 |false=>y
theorem Le.r {X:Type} {a:Option X}:Le a a:=⟨fun _ h=>h⟩
theorem Le.n {X:Type} {a:Option X}:Le none a:=⟨fun _ h=>by cases h⟩
theorem Le.nd {X:Type} {c:Bool} {a b:Option X} (h:Le a b):Le (Uy c a) (need c b):=by
 cases c
 ·exact Le.n
 ·simpa [Uy] using h
theorem Le.br {X:Type} {c:Bool} {a b a' b':Option X} (h:Le a a') (h':Le b b'):Le (brC c a b) (u5 c a' b'):=by
 cases c
 ·simpa [brC] using h'
 ·simpa [brC] using h
theorem Le.bd {A X:Type} {o o':Option A} {f f':A→Option X} (h:Le o o') (hf:∀y,Le (f y) (f' y)):Le (aaW o f) (iu o' f'):=⟨fun y hy=>by
 cases o with
 |none=>cases hy
 |some a=>rw [h.h a rfl,aN];exact (hf a).h y hy⟩
theorem Le.iter {α β:Type} {g g':α→Option (α ⊕ β)} {n:Nat} {x:α} (h:∀x,Le (g x) (g' x)):Le (jA g n x) (AM.iter g' x):=⟨fun y hy=>by
 refine Bh (n:=n) ?_
 induction n generalizing x with
 |zero=>cases hy
 |succ n ih =>
  simp only [jA] at hy ⊢
  cases hg:g x with
  |none=>rw [hg] at hy;cases hy
  |some r =>
   rw [hg] at hy
   rw [(h x).h r hg]
   cases r with
   |inl z=>exact ih hy
   |inr b=>exact hy⟩
theorem Le.K3 {A B:Type} {F F':(A→Option B)→A→Option B} (h:∀r r',(∀x,Le (r x) (r' x))→∀x,Le (F r x) (F' r' x)):∀n m,n≤m→∀x,Le (AM.K3 F n x) (AM.K3 F' m x):=by
 intro n
 induction n with
 |zero=>intro m _ x;exact Le.n
 |succ n ih =>
  intro m hm x
  cases m with
  |zero=>omega
  |succ m=>exact h _ _ (ih m (by omega)) x
theorem Le.done {X:Type} {a b:Option X} {y:X} (h:Le a b) (e:a=some y):b=some y:=h.h y e
end Go.AM
end
section
namespace Go.AM
@[reducible] def onS {A B:Type} {Y:Type _} (f:A→Y) (g:B→Y) (z:A ⊕ B):Y:=match z with
 | .inl a=>f a
 | .inr b=>g b
inductive Tr:Type→Type→Type→Type 1 where
 |ret {A0 B0 X:Type} (x:X):Tr A0 B0 X
 |no {A0 B0 X:Type}:Tr A0 B0 X
 |br {A0 B0 X:Type} (c:Bool) (a b:Tr A0 B0 X):Tr A0 B0 X
 |am {A0 B0 X:Type} (d:DecidableEq X) (a b:Tr A0 B0 X):Tr A0 B0 X
 |nd {A0 B0 X:Type} (c:Bool) (a:Tr A0 B0 X):Tr A0 B0 X
 |bd {A0 B0 A X:Type} (o:Tr A0 B0 A) (k:A→Tr A0 B0 X):Tr A0 B0 X
 |jx {A0 B0 A X:Type} (o:Tr A0 B0 (A ⊕ X)) (k:A→Tr A0 B0 X):Tr A0 B0 X
 |sm {A0 B0 A B X:Type} (z:A ⊕ B) (f:A→Tr A0 B0 X) (g:B→Tr A0 B0 X):Tr A0 B0 X
 |it {A0 B0 A B:Type} (step:A→Tr A0 B0 (A ⊕ B)) (x:A):Tr A0 B0 B
 |rc {A0 B0:Type} (x:A0):Tr A0 B0 B0
 |fx {A0 B0 A1 B1:Type} (body:A1→Tr A1 B1 B1) (x:A1):Tr A0 B0 B1
 |up {A0 B0 X:Type} (t:Tr Unit Unit X):Tr A0 B0 X
 |of {A0 B0 X:Type} (o:Option X):Tr A0 B0 X
 |mp {A0 B0 E A B:Type} (step:E→A→Tr A0 B0 (A ⊕ B)) (es:List E) (x:A):Tr A0 B0 (A ⊕ B)
 |mq {A0 B0 E A:Type} (step:E→A→Tr A0 B0 A) (es:List E) (x:A):Tr A0 B0 A
 |an {A0 B0 E X:Type} (es:List E) (k:List E→Tr A0 B0 X):Tr A0 B0 X
 |fm {A0 B0 E A:Type} (step:E→A→Tr A0 B0 A) (l:List E) (x:A):Tr A0 B0 A
abbrev bW (X:Type):=Tr Unit Unit X
noncomputable def run : {A0 B0 X : Type} → (A0 → Option B0) → Tr A0 B0 X → Option X
 |_,_,_,_,.ret x=>some x
 |_,_,_,_,.no=>none
 |_,_,_,r,.br c a b=>u5 c (run r a) (run r b)
 |_,_,_,r,.am _ a b=>Di (run r a) (run r b)
 |_,_,_,r,.nd c a=>need c (run r a)
 |_,_,_,r,.bd o k=>iu (run r o) fun a=>run r (k a)
 |_,_,_,r,.jx o k=>iu (run r o) (onS (fun a=>run r (k a)) some)
 |_,_,_,r,.sm z f g=>match z with
  | .inl x=>run r (f x)
  | .inr y=>run r (g y)
 |_,_,_,r,.it step x=>iter (fun a=>run r (step a)) x
 |_,_,_,r,.rc x=>r x
 |_,_,_,_,.fx body x=>xk (fun r y=>run r (body y)) x
 |_,_,_,_,.up t=>run (fun _=>none) t
 |_,_,_,_,.of o=>o
 |_,_,_,r,.mp step es x=>iE (fun l=>yO (fun e a=>run r (step e a)) l x) es
 |_,_,_,r,.mq step es x=>iE (fun l=>zR (fun e a=>run r (step e a)) l x) es
 |_,_,_,r,.an es k=>iE (fun l=>run r (k l)) es
 |_,_,_,r,.fm step l x=>zR (fun e a=>run r (step e a)) l x
noncomputable abbrev aq {X:Type} (t:bW X):Option X:=run (fun _=>none) t
section
variable {A0 B0 A1 B1 A B X:Type} {r:A0→Option B0}
theorem aa {x:X}:run r (.ret x)=some x:=rfl
theorem av {c:Bool} {a b:Tr A0 B0 X}:run r (.br c a b)=u5 c (run r a) (run r b):=rfl
theorem WV {d:DecidableEq X} {a b:Tr A0 B0 X}:run r (.am d a b)=Di (run r a) (run r b):=rfl
theorem aU {c:Bool} {a:Tr A0 B0 X}:run r (.nd c a)=need c (run r a):=rfl
theorem aA {o:Tr A0 B0 A} {k:A→Tr A0 B0 X}:run r (.bd o k)=iu (run r o) fun a=>run r (k a):=rfl
theorem oh {x:A} {f:A→Tr A0 B0 X} {g:B→Tr A0 B0 X}:run r (.sm (.inl x) f g)=run r (f x):=rfl
theorem mW {y:B} {f:A→Tr A0 B0 X} {g:B→Tr A0 B0 X}:run r (.sm (.inr y) f g)=run r (g y):=rfl
theorem bG {step:A→Tr A0 B0 (A ⊕ B)} {x:A}:run r (.it step x)=iter (fun a=>run r (step a)) x:=rfl
theorem WW {x:A0}:run r (.rc x)=r x:=rfl
theorem xu {o:Option X}:run r (.of o)=o:=rfl
theorem WX {E:Type} {step:E→A→Tr A0 B0 (A ⊕ B)} {es:List E} {x:A}:run r (.mp step es x)=iE (fun l=>yO (fun e a=>run r (step e a)) l x) es:=rfl
theorem BE {E:Type} {es:List E} {k:List E→Tr A0 B0 X}:run r (.an es k)=iE (fun l=>run r (k l)) es:=rfl
theorem BF {E:Type} {step:E→A→Tr A0 B0 A} {l:List E} {x:A}:run r (.fm step l x)=zR (fun e a=>run r (step e a)) l x:=rfl
theorem FK {E:Type} {step:E→A→Tr A0 B0 A} {es:List E} {x:A}:run r (.mq step es x)=iE (fun l=>zR (fun e a=>run r (step e a)) l x) es:=rfl
end
def ambC {X:Type} (d:DecidableEq X) (x y:Option X):Option X:=match x,y with
 |some a,some b=>match d a b with
  | .isTrue _=>some a
  | .isFalse _=>none
 |_,_=>none
theorem Le.am {X:Type} {d:DecidableEq X} {a b a' b':Option X} (h:Le a a') (h':Le b b'):Le (ambC d a b) (Di a' b'):=⟨fun y hy=>by
 cases a with
 |none=>cases hy
 |some u=>cases b with
  |none=>cases hy
  |some v =>
   simp only [ambC] at hy
   split at hy
   ·rename_i e _; cases hy; subst e
    rw [h.h _ rfl,h'.h _ rfl,zT]
   ·cases hy⟩
@[reducible] def Tr.ni {A0 B0 X:Type} (z:Int) (a:Tr A0 B0 X):Tr A0 B0 X:=.nd (gH .i64 z) a
@[reducible] def Tr.nb {A0 B0 X:Type} (i n:Int) (a:Tr A0 B0 X):Tr A0 B0 X:=.nd (fh i n) a
theorem aQ {A0 B0 X:Type} {r:A0→Option B0} {z:Int} {a:Tr A0 B0 X}:run r (.ni z a)=need (gH .i64 z) (run r a):=rfl
theorem bf {A0 B0 X:Type} {r:A0→Option B0} {i n:Int} {a:Tr A0 B0 X}:run r (.nb i n a)=need (fh i n) (run r a):=rfl
def flatK : {A0 B0 A X : Type} → Tr A0 B0 A → (A → Tr A0 B0 X) → Tr A0 B0 X
 |_,_,_,_,.ret x,k=>k x
 |_,_,_,_,.no,_=>.no
 |_,_,_,_,.br c a b,k=>.br c (flatK a k) (flatK b k)
 |_,_,_,_,.am d a b,k=>.bd (.am d a b) k
 |_,_,_,_,.nd c a,k=>.nd c (flatK a k)
 |_,_,_,_,.bd o f,k=>.bd o fun a=>flatK (f a) k
 |_,_,_,_,.jx o f,k=>flatK o (onS (fun a=>flatK (f a) k) k)
 |_,_,_,_,.sm z f g,k=>.sm z (fun x=>flatK (f x) k) (fun y=>flatK (g y) k)
 |_,_,_,_,.it step x,k=>.bd (.it step x) k
 |_,_,_,_,.rc x,k=>.bd (.rc x) k
 |_,_,_,_,.fx b x,k=>.bd (.fx b x) k
 |_,_,_,_,.up t,k=>.bd (.up t) k
 |_,_,_,_,.of o,k=>.bd (.of o) k
 |_,_,_,_,.mp s es x,k=>.bd (.mp s es x) k
 |_,_,_,_,.mq s es x,k=>.bd (.mq s es x) k
 |_,_,_,_,.an es f,k=>.bd (.an es f) k
 |_,_,_,_,.fm s l x,k=>.bd (.fm s l x) k
def flat {A0 B0 X:Type} (t:Tr A0 B0 X):Tr A0 B0 X:=flatK t .ret
end Go.AM
end
section
namespace Go.AM
inductive LR (P:Program) (N:Nat) (out:Option Nat) (base:Nat):Type 1 where
 |l (x:cm P N out base)
 |r (x:gp P N out base)
 |m (x:ru P N out base)
 |x
def nl : C → Nat
 | .seq a b=>nl a+nl b
 | .cond _ a b=>nl a+nl b
 | .block _ a=>nl a
 | .loop _=>1
 | .bC _ _ _ _=>1
 | .gG _ _ _ _ _ _ _ _ _ _ _=>1
 |_=>0
section
variable {P:Program} {N:Nat} {out:Option Nat} {base:Nat}
def Rc : List (LR P N out base) → Nat → LR P N out base
 |[],_=>.x
 |y::_,0=>y
 |_::r,n+1=>Rc r n
def dO (ls : List (LR P N out base)) : C → Nat → D P N out base
 | .skip,_=>.skip
 | .aR is,_=>.aR is
 | .draw ps is,_=>.draw ps is
 | .seq a b,i=>.seq (dO ls a i) (dO ls b (i+nl a))
 | .cond c a b,i=>.cond c (dO ls a i) (dO ls b (i+nl a))
 | .block n a,i=>.block n (dO ls a i)
 | .loop c,i=>match Rc ls i with
  | .l l=>.loop l
  |_=>.loop (M0 c)
 | .exit n,_=>.exit n
 | .ret,_=>.ret
 | .bC f ps a b,i=>match Rc ls i with
  | .r l=>.bC l
  |_=>.bC (JQ f ps a b)
 | .gG p m t cl e kt kg vt vg d b,i=>match Rc ls i with
  | .m l=>.gG l
  |_=>.gG (Q7 p m t cl e kt kg vt vg d b)
end
def tu (b : Bool) : C → Nat → C
 | .seq x y,k=>match Nat.blt k (nl x) with
  |true=>tu b x k
  |false=>tu b y (k - nl x)
 | .cond _ x y,k=>match Nat.blt k (nl x) with
  |true=>tu b x k
  |false=>tu b y (k - nl x)
 | .block _ x,k=>tu b x k
 | .loop c,_=>c
 | .bC _ _ x y,_=>match b with
  |true=>y
  |false=>x
 | .gG _ _ _ _ _ _ _ _ _ _ x,_=>x
 |c,_=>c
def pick : C → List (Nat × Bool) → C
 |c,[]=>c
 |c,(k,b)::r=>pick (tu b c k) r
def kd (P:Program) (f:Func):C:=match cN P f with
 |some t=>t.body
 |none=>.skip
@[reducible] def hI:SP:=.c (.hole (.int .i64))
@[reducible] def hL:SP:=.c (.hole (.list (.int .i64)))
@[reducible] def ZB:SP:=.c (.hole (.list (.list (.int .i64))))
@[reducible] def tI:Ty:=.int .i64
@[reducible] def tL:Ty:=.list (.int .i64)
end Go.AM
end
section
namespace Go.AM
section
variable {P:Program} {N:Nat} {out:Option Nat} {base:Nat}
end
section
variable {P:Program} {N:Nat} {out:Option Nat} {base:Nat}
theorem get_none : ∀ {env : Env} {t : Nat}, t ∉ env.map (·.1) → get t env = .any
 |[],_,_=>rfl
 |(s,v)::r,t,h=>by
  simp only [List.map_cons,List.mem_cons,not_or] at h
  rw [bV,if_neg (fun e=>h.1 e.symm)]
  exact get_none h.2
noncomputable def FL {R : Type} (kz : Kz R) (cx : Cx) (oq : List Nat) (p : az) (xs : aZ) (mn it : Nat) (cl : List Nat) (e : Option Nat) (kt : Ty) (kg : Bool) (vt : Ty) (vg : Bool) {cZ : Nat} (body : D P N out cZ) (inl : p.T → R) (inr : xs.T → R)
  (kX:kt.den×vt.den) (x:p.T):R :=
 fN (base+p.gI.length) fun aC=>p.go aC x fun env _ bl ms=>match get mn env with
  | .mp id=>match js bl kt kg vt vg id with
   |some es=>JN (QK e kt kg vt vg kX ((it,.ptr aC 0)::env)) fun env=>fN (aC+1) fun nx=>kE kz cx ew body env nx bl ms fun ex env nx bl ms=>match ex with
    | .normal=>match get it env with
     | .ptr i o=>match an (Nat.beq i aC) (Nat.beq o 0) with
      |true=>match get mn env with
       | .mp id'=>match Nat.beq id' id with
        |true=>match js bl kt kg vt vg id with
         |some es'=>kz.nd (jB es' es) (p.rd kz.no oq base (ef (it::cl) env) nx bl ms inl)
         |none=>kz.no
        |false=>kz.no
       |_=>kz.no
      |false=>kz.no
     |_=>kz.no
    | .exit i=>xs.rd kz.no oq base (.exit i) env nx bl ms inr
    | .ret=>xs.rd kz.no oq base .ret env nx bl ms inr
   |none=>kz.no
  |_=>kz.no
def FM {R:Type} (kz:Kz R) (cx:Cx) (oq:List Nat) (p:az) (pre:List eL) (mn it:Nat) (cl:List Nat) (kt:Ty) (kg:Bool) (vt:Ty) (vg:Bool) (env:Env) (nx:Nat) (bl:ah) (ms:List Nat) (k:List (kt.den×vt.den)→p.T→R):R :=
 kI kz cx ew pre env nx bl fun env nx bl=>match get mn env with
  | .mp id=>match js bl kt kg vt vg id with
   |some es=>p.rd kz.no oq base (ef (it::cl) env) nx bl ms fun x=>k es x
   |none=>kz.no
  |_=>kz.no
theorem M8 (mixed : P.follows .mixedOrders = true) {cx : Cx} (gq : cx.Ok P) {p : az} {xs : aZ} (hxs : xs.all (fun p => !FH p.1 .normal) = true) {pre : List eL} {mn it : Nat} {cl : List Nat} {e : Option Nat} {kt vt : Ty} {kg vg : Bool} {pJ : Nat}
  (yC:p.env.all (fun q => !(it::cl).contains q.1)=true) {cZ:Nat} (eB:cZ=base+p.gI.length+1) {body:D P N out cZ} {step:kt.den×vt.den→p.T→Option (p.T ⊕ xs.T)}
  (hstep:∀kX x,FL (base:=base) (jf (p.T ⊕ xs.T)) cx (List.range base) p xs mn it cl e kt kg vt vg body (fun y=>some (.inl y)) (fun b=>some (.inr b)) kX x=step kX x) {X:Type} {env:Env} {nx:Nat} {bl:ah} {ms:List Nat} {r:X} {Q:Ex→St→Prop}
  {k:List (kt.den×vt.den)→p.T→Option X} (h:FM (base:=base) (jf X) cx (List.range base) p pre mn it cl kt kg vt vg env nx bl ms k=some r)
  (hk:∀es x,k es x=some r→∃res,(∀l:List (kt.den×vt.den),l.Perm es→yO step l x=some res)∧(match res with | .inl y=>Q .normal (p.st base y) | .inr b=>Q (Dg pJ (xs.st base b).1) (xs.st base b).2)) :
  (fI P N out base).gG (.gG pre (.t mn) it cl e kt kg vt vg pJ body.er) ⟨env,⟨nx,bl⟩,ms⟩ Q:=by
 subst eB
 refine Dh (fun b=>iD mixed) (I:=p.st base) (X:=xs.st base) (step:=step) (aC:=base+p.gI.length) (fun x s hs=>?_) (fun x=>rfl) (fun kX x r hx=>?_) ?_
 ·refine get_none (env := p.E x) fun hm => ?_
  rw [az.ve] at hm
  obtain ⟨q,hq,rfl⟩:=List.mem_map.1 hm
  have:=List.all_eq_true.1 yC q hq
  simp only [Bool.not_eq_true',←Bool.not_eq_true] at this
  exact this (by simpa using hs)
 ·rw [← hstep kX x] at hx
  unfold FL at hx
  rw [fM,az.go_eq] at hx
  split at hx<;>try (cases hx;done)
  rename_i id hid
  split at hx<;>try (cases hx;done)
  rename_i es Cm
  rw [rF,fM] at hx
  refine ⟨id,es,hid,Cm,kZ gq hx fun ex env nx bl ms hk=>?_⟩
  cases ex with
  |normal =>
   simp only at hk
   split at hk<;>try (cases hk;done)
   rename_i i o hit
   split at hk<;>try (cases hk;done)
   rename_i vS
   rw [aM] at vS
   have e1:=Nat.eq_of_beq_eq_true vS.1
   have e2:=Nat.eq_of_beq_eq_true vS.2
   subst e1;subst e2
   split at hk<;>try (cases hk;done)
   rename_i id' WY
   split at hk<;>try (cases hk;done)
   rename_i hbe
   have e3:=Nat.eq_of_beq_eq_true hbe
   subst e3
   split at hk<;>try (cases hk;done)
   rename_i es' JF
   have hk2:=(de hk).2
   have e4:=De (de hk).1
   clear hk
   subst e4
   obtain ⟨y,π,h1,h2⟩:=az.dG hk2
   cases h1
   exact ⟨rfl,hit,WY,JF,π,h2⟩
  |exit i =>
   obtain ⟨y,π,q1,q2,q3⟩:=aZ.dG hk
   cases q1
   exact ⟨by simp,q2,π,q3⟩
  |ret =>
   obtain ⟨y,π,q1,q2,q3⟩:=aZ.dG hk
   cases q1
   exact ⟨by simp,q2,π,q3⟩
 ·unfold FM at h
  refine od gq h fun env nx bl h=>?_
  split at h<;>try (cases h;done)
  rename_i id hid
  split at h<;>try (cases h;done)
  rename_i es Cm
  obtain ⟨x,π,h1,h2⟩:=az.dG h
  obtain ⟨res,h3,h4⟩:=hk es x h1
  exact ⟨id,es,x,π,hid,Cm,h2,fun l hl=>⟨res,h3 l hl,by cases res<;>exact h4⟩⟩
def noB {R:Type}:Empty→R:=fun b=>nomatch b
theorem Uz {E α : Type} {step : E → α → Option α} : ∀ {l : List E} {x y : α}, zR step l x = some y → yO (fun e x => (step e x).map (Sum.inl (β := Empty))) l x = some (.inl y)
 |[],x,y,h=>by cases h;rfl
 |e::r,x,y,h=>by
  simp only [zR] at h
  split at h<;>try (cases h;done)
  rename_i z hz
  simp only [yO,hz,Option.map_some]
  exact Uz h
theorem Ah (mixed : P.follows .mixedOrders = true) {cx : Cx} (gq : cx.Ok P) {p : az} {pre : List eL} {mn it : Nat} {cl : List Nat} {e : Option Nat} {kt vt : Ty} {kg vg : Bool} {pJ : Nat}
  (yC:p.env.all (fun q => !(it::cl).contains q.1)=true) {cZ:Nat} (eB:cZ=base+p.gI.length+1) {body:D P N out cZ} {step:kt.den×vt.den→p.T→Option p.T}
  (hstep:∀kX x,FL (base:=base) (jf p.T) cx (List.range base) p [] mn it cl e kt kg vt vg body (fun y=>some y) noB kX x=step kX x) {X:Type} {env:Env} {nx:Nat} {bl:ah} {ms:List Nat} {r:X} {Q:Ex→St→Prop}
  {k:List (kt.den×vt.den)→p.T→Option X} (h:FM (base:=base) (jf X) cx (List.range base) p pre mn it cl kt kg vt vg env nx bl ms k=some r)
  (hk:∀es x,k es x=some r→∀l:List (kt.den×vt.den),l.Perm es→∃y,zR step l x=some y∧Q .normal (p.st base y)) :
  (fI P N out base).gG (.gG pre (.t mn) it cl e kt kg vt vg pJ body.er) ⟨env,⟨nx,bl⟩,ms⟩ Q:=by
 subst eB
 refine Dh (fun b=>iD mixed) (I:=p.st base) (X:=fun b:Empty=>nomatch b) (step:=fun e x=>(step e x).map (Sum.inl (β:=Empty))) (aC:=base+p.gI.length) (fun x s hs=>?_) (fun x=>rfl) (fun kX x r hx=>?_) ?_
 ·refine get_none (env := p.E x) fun hm => ?_
  rw [az.ve] at hm
  obtain ⟨q,hq,rfl⟩:=List.mem_map.1 hm
  have:=List.all_eq_true.1 yC q hq
  simp only [Bool.not_eq_true',←Bool.not_eq_true] at this
  exact this (by simpa using hs)
 ·obtain ⟨y0, hx0, rfl⟩ := Option.map_eq_some_iff.1 hx
  clear hx
  rename _=>hx
  rw [←hstep kX x] at hx
  unfold FL at hx
  rw [fM,az.go_eq] at hx
  split at hx<;>try (cases hx;done)
  rename_i id hid
  split at hx<;>try (cases hx;done)
  rename_i es Cm
  rw [rF,fM] at hx
  refine ⟨id,es,hid,Cm,kZ gq hx fun ex env nx bl ms hk=>?_⟩
  cases ex with
  |normal =>
   simp only at hk
   split at hk<;>try (cases hk;done)
   rename_i i o hit
   split at hk<;>try (cases hk;done)
   rename_i vS
   rw [aM] at vS
   have e1:=Nat.eq_of_beq_eq_true vS.1
   have e2:=Nat.eq_of_beq_eq_true vS.2
   subst e1;subst e2
   split at hk<;>try (cases hk;done)
   rename_i id' WY
   split at hk<;>try (cases hk;done)
   rename_i hbe
   have e3:=Nat.eq_of_beq_eq_true hbe
   subst e3
   split at hk<;>try (cases hk;done)
   rename_i es' JF
   have hk2:=(de hk).2
   have e4:=De (de hk).1
   clear hk
   subst e4
   obtain ⟨y,π,h1,h2⟩:=az.dG hk2
   cases h1
   exact ⟨rfl,hit,WY,JF,π,h2⟩
  |exit i=>cases hk
  |ret=>cases hk
 ·unfold FM at h
  refine od gq h fun env nx bl h=>?_
  split at h<;>try (cases h;done)
  rename_i id hid
  split at h<;>try (cases h;done)
  rename_i es Cm
  obtain ⟨x,π,h1,h2⟩:=az.dG h
  exact ⟨id,es,x,π,hid,Cm,h2,fun l hl=>by
   obtain ⟨y,h3,h4⟩:=hk es x h1 l hl
   exact ⟨.inl y,Uz h3,h4⟩⟩
noncomputable def WZ (mixed : P.follows .mixedOrders = true) (cx : Cx) (gq : cx.Ok P) (oq : List Nat) (DE : oq = List.range base) (p : az) (xs : aZ) (hxs : xs.all (fun p => !FH p.1 .normal) = true) (pre : List eL) (mn it : Nat) (cl : List Nat)
  (e:Option Nat) (kt:Ty) (kg:Bool) (vt:Ty) (vg:Bool) (pJ:Nat) (yC:p.env.all (fun q => !(it::cl).contains q.1)=true) (cZ:Nat) (eB:cZ=base+p.gI.length+1) (body:D P N out cZ) (step:kt.den×vt.den→p.T→Option (p.T ⊕ xs.T))
  (hstep:∀kX x,FL (base:=base) (jf (p.T ⊕ xs.T)) cx oq p xs mn it cl e kt kg vt vg body (fun y=>some (.inl y)) (fun b=>some (.inr b)) kX x=step kX x):ru P N out base where
 pre:=pre
 m:=.t mn
 it:=it
 cl:=cl
 e:=e
 kt:=kt
 kg:=kg
 vt:=vt
 vg:=vg
 pJ:=pJ
 b:=body.er
 run kz env nx bl ms K:=FM (base:=base) kz cx oq p pre mn it cl kt kg vt vg env nx bl ms fun es x=>kz.bd (iE (fun l=>yO step l x) es) fun z=>kz.sm z (fun y=>fN (base+p.gI.length) fun nx=>p.go nx y (K .normal)) fun b=>xs.go kz base b fun e=>K (Dg pJ e)
 ok:=by
  intro X env nx bl ms K r h Q hQ
  subst DE
  refine M8 mixed gq hxs yC eB hstep h fun es x hk=>?_
  obtain ⟨z,h1,h2⟩:=oV hk
  refine ⟨z,oc h1,?_⟩
  cases z with
  |inl y =>
   simp only [fM,az.go_eq] at h2
   exact hQ _ _ _ _ _ h2
  |inr b=>exact hQ _ _ _ _ _ (aZ.zX (xs:=xs) h2)
noncomputable def BG (mixed : P.follows .mixedOrders = true) (cx : Cx) (gq : cx.Ok P) (oq : List Nat) (DE : oq = List.range base) (p : az) (pre : List eL) (mn it : Nat) (cl : List Nat)
  (e:Option Nat) (kt:Ty) (kg:Bool) (vt:Ty) (vg:Bool) (pJ:Nat) (yC:p.env.all (fun q => !(it::cl).contains q.1)=true) (cZ:Nat) (eB:cZ=base+p.gI.length+1) (body:D P N out cZ) (step:kt.den×vt.den→p.T→Option p.T)
  (hstep:∀kX x,FL (base:=base) (jf p.T) cx oq p [] mn it cl e kt kg vt vg body (fun y=>some y) noB kX x=step kX x):ru P N out base where
 pre:=pre
 m:=.t mn
 it:=it
 cl:=cl
 e:=e
 kt:=kt
 kg:=kg
 vt:=vt
 vg:=vg
 pJ:=pJ
 b:=body.er
 run kz env nx bl ms K:=FM (base:=base) kz cx oq p pre mn it cl kt kg vt vg env nx bl ms fun es x=>kz.bd (iE (fun l=>zR step l x) es) fun y=>fN (base+p.gI.length) fun nx=>p.go nx y (K .normal)
 ok:=by
  intro X env nx bl ms K r h Q hQ
  subst DE
  refine Ah mixed gq yC eB hstep h fun es x hk=>?_
  obtain ⟨y,h1,h2⟩:=oV hk
  simp only [fM,az.go_eq] at h2
  exact fun l hl=>⟨y,oc h1 l hl,hQ _ _ _ _ _ h2⟩
noncomputable def vf (mixed : P.follows .mixedOrders = true) (cx : Cx) (gq : cx.Ok P) (oq : List Nat) (DE : oq = List.range base) (p : az) (pre : List eL) (mn it : Nat) (cl : List Nat)
  (e:Option Nat) (kt:Ty) (kg:Bool) (vt:Ty) (vg:Bool) (pJ:Nat) (yC:p.env.all (fun q => !(it::cl).contains q.1)=true) (cZ:Nat) (eB:cZ=base+p.gI.length+1) (body:D P N out cZ) (step:kt.den×vt.den→p.T→Option p.T)
  (hstep:∀kX x,FL (base:=base) (jf p.T) cx oq p [] mn it cl e kt kg vt vg body (fun y=>some y) noB kX x=step kX x):ru P N out base where
 pre:=pre
 m:=.t mn
 it:=it
 cl:=cl
 e:=e
 kt:=kt
 kg:=kg
 vt:=vt
 vg:=vg
 pJ:=pJ
 b:=body.er
 run kz env nx bl ms K:=FM (base:=base) kz cx oq p pre mn it cl kt kg vt vg env nx bl ms fun es x=>kz.an es fun l=>kz.bd (zR step l x) fun y=>fN (base+p.gI.length) fun nx=>p.go nx y (K .normal)
 ok:=by
  intro X env nx bl ms K r h Q hQ
  subst DE
  refine Ah mixed gq yC eB hstep h fun es x hk l hl=>?_
  obtain ⟨y,h1,h2⟩:=oV (oc hk l hl)
  simp only [fM,az.go_eq] at h2
  exact ⟨y,h1,hQ _ _ _ _ _ h2⟩
end
end Go.AM
end
section
namespace Go.AM
@[reducible] def bs (l:List Nat):ByteArray:=⟨(l.map UInt8.ofNat).toArray⟩
def xw (t : Ty) (x : t.den) : List t.den → List t.den
 |[]=>[x]
 |y::r=>if fU t x y=true then x::y::r else y::xw t x r
def ot (t:Ty) (xs:List t.den):List t.den:=xs.foldr (xw t) []
noncomputable def uE (t:Ty) (b:List t.den) (n:Nat):Option (List t.den×Unit):=if n≤b.length∧n<cg then some (ot t (b.take n)++b.drop n,()) else none
theorem DF (s:ByteArray):(eX s).length=s.size:=by simp [eX]
section
variable {P:Program}
noncomputable def DG (P:Program) (cx:Cx) (f:Nat) (fn:Fn) (d:(b:Nat)→D P fn.N none b):Cx where
 pc:=cx.pc
 ca kz g vs nx bl K:=match an (Nat.beq g f) (Nat.ble vs.length fn.np) with
  |true=>Q3 vs fun vs=>kE kz cx ew (d nx) (args 0 vs) nx bl [] (Af kz fn.res fn.tys K)
  |false=>cx.ca kz g vs nx bl K
 rd:=cx.rd
theorem o4 (mixed : P.follows .mixedOrders = true) {cx : Cx} (gq : cx.Ok P) {f : Nat} {func : Func} {fn : Fn} (hf : P.funcs[f]? = some func) (htr : cN P func = some fn) (cD : Enters P f)
  {d:(b:Nat)→D P fn.N none b} (hd:∀b,(d b).er=fn.body):(DG P cx f fn d).Ok P where
 Ur hk:=gq.Ur hk
 QT:=by
  intro X g vs nx bl K r hk Q hQ
  simp only [DG] at hk
  split at hk
  ·rename_i h
   rw [aM] at h
   have e:=Nat.eq_of_beq_eq_true h.1
   subst e
   rw [mT] at hk
   refine j6 hf htr cD (iD mixed) (Nat.le_of_ble_eq_true h.2) ?_
   rw [←hd nx]
   refine kZ gq hk fun e env nx bl ms hk=>?_
   exact xg hk fun v nx bl hk=>hQ v nx bl hk
  ·exact gq.QT hk hQ
 WB hk:=gq.WB hk
noncomputable def Ai (P:Program) (cx:Cx) (f:Nat) (fn:Fn) (b:Nat) (d:D P fn.N none b):Cx where
 pc:=cx.pc
 ca kz g vs nx bl K:=match an (Nat.beq g f) (an (Nat.ble vs.length fn.np) (Nat.beq nx b)) with
  |true=>Q3 vs fun vs=>kE kz cx ew d (args 0 vs) b bl [] (Af kz fn.res fn.tys K)
  |false=>cx.ca kz g vs nx bl K
 rd:=cx.rd
theorem rJ (mixed : P.follows .mixedOrders = true) {cx : Cx} (gq : cx.Ok P) {f : Nat} {func : Func} {fn : Fn} (hf : P.funcs[f]? = some func) (htr : cN P func = some fn) (cD : Enters P f)
  {b:Nat} {d:D P fn.N none b} (hd:d.er=fn.body):(Ai P cx f fn b d).Ok P where
 Ur hk:=gq.Ur hk
 QT:=by
  intro X g vs nx bl K r hk Q hQ
  simp only [Ai] at hk
  split at hk
  ·rename_i h
   rw [aM,aM] at h
   have e:=Nat.eq_of_beq_eq_true h.1
   have e2:=Nat.eq_of_beq_eq_true h.2.2
   subst e;subst e2
   rw [mT] at hk
   refine j6 hf htr cD (iD mixed) (Nat.le_of_ble_eq_true h.2.1) ?_
   rw [←hd]
   refine kZ gq hk fun e env nx bl ms hk=>?_
   exact xg hk fun v nx bl hk=>hQ v nx bl hk
  ·exact gq.QT hk hQ
 WB hk:=gq.WB hk
end
section
variable {P:Program} {N:Nat} {out:Option Nat} {base:Nat}
noncomputable def rK (mixed : P.follows .mixedOrders = true) (cx : Cx) (gq : cx.Ok P) (pre : List Nat) (hpre : pre = List.range base) (p : az) (xs : aZ) (f : O) (ps : List Nat) (hps : ps.all (Nat.blt · N) = true) (as bd : C)
  (fid:Nat) {func:Func} {fn:Fn} (hf:P.funcs[fid]?=some func) (htr:cN P func=some fn) (cD:Enters P fid) (cZ:Nat) (iF:cZ=base+p.gI.length+(match out with|none=>2|some _=>1))
  (K2:D P fn.N none cZ) (hit:K2.er=fn.body):gp P N out base where
 f:=f
 ps:=ps
 a:=as
 b:=bd
 run kz env nx bl ms K:=p.rd kz.no pre base env nx bl ms fun x=>w6 (N:=N) (out:=out) (base:=base) kz cx ew pre p xs f ps as bd fn.res fn.np fid K2 (fun b=>xs.go kz base b K) x
 ok:=by
  intro X env nx bl ms K r h Q hQ
  subst hpre
  obtain ⟨x,π,h3,h2⟩:=az.dG h
  unfold w6 at h3
  rw [fM,az.go_eq] at h3
  intro fo Cn ao bo q1 q2 q3 q4
  refine HN (Dt ?_) h2
  refine uc (K:=fun e S'=>∃Bx π,jl base π S' Bx∧Q e Bx) ?_ fo Cn ao bo q1 q2 q3 q4
  refine ⟨hps,?_⟩
  cases oT:f.ev (p.E x) with
  |fn MZ first cap=>?_
  |_=>rw [oT] at h3;cases h3
  have WN:f.ev (p.st base x).env = .fn MZ first cap:=oT
  rw [WN]
  rw [oT] at h3
  simp only at h3 ⊢
  split at h3<;>try (cases h3;done)
  rename_i hc
  rw [aM] at hc
  have e1:=Nat.eq_of_beq_eq_true hc.1
  have e2:=Nat.le_of_ble_eq_true hc.2
  subst e1
  have hlen:∀v:V,(first++[v]++cap).length≤fn.np:=fun v=>by simpa using e2
  have hout:∀e env nx bl ms,xs.rd none (List.range base) base e env nx bl ms (fun b=>xs.go (jf X) base b K)=some r→∃Bx π,jl base π ⟨env,⟨nx,bl⟩,ms⟩ Bx∧Q e Bx:=fun e env nx bl ms hk=>by
   obtain ⟨y,π,r1,r2,r3⟩:=aZ.dG hk
   have h5:=aZ.zX r1
   have hq:=hQ _ _ _ _ _ h5
   exact ⟨_,π,r3,by rw [r2];exact hq⟩
  cases out with
  |none =>
   simp only at h3 iF ⊢
   split at h3
   ·cases h3
   rename_i Jm
   rw [mT] at h3
   refine ⟨Jm,?_⟩
   subst iF
   refine j6 hf htr cD (iD mixed) (hlen _) ?_
   rw [←hit]
   refine kZ gq h3 fun e env nx bl ms hk=>?_
   exact rG hk fun v nx bl hk => vc (S := p.st base x) (by
    have e:(p.st base x).ms=[]:=Jm
    rw [e];exact hk) hout
  |some Ui =>
   simp only at h3 iF ⊢
   split at h3<;>try (cases h3;done)
   rename_i hb
   rw [mT] at h3
   have hb':au Ui (p.st base x).H.bl=_:=hb
   simp only [az.st] at hb' ⊢
   rw [hb']
   simp only
   subst iF
   refine j6 hf htr cD (iD mixed) (hlen _) ?_
   rw [←hit]
   refine kZ gq h3 fun e env nx bl ms hk=>?_
   exact rG hk fun v nx bl hk=>vc (S:=p.st base x) hk hout
end
end Go.AM
end
