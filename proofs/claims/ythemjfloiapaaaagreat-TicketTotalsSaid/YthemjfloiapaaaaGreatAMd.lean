/- Loops over functions, as functions of their data. Calls that are lent blocks of the caller's heap: the rest stays as it is. Contracts of functions that write blocks of their caller, or hand back new ones. Recursion. The way in and out: a law's contract over data is its row's. Plain laws on tests, needs and rounds. Twins that can be reckoned: what they come to, the functions come to. What is computed, as a tree: read as a function (classically), or reckoned. Code with its loops as functions, out of the program's own: no text of it is needed. A loop whose number of rounds is known is gone through round by round. Strings out of their bytes; what is said of them, of maps and of clearing, plainly. -/
import Derived.Test.YthemjfloiapaaaaGreatAMc
import Derived.OpenShut
import Derived.Handed
import Derived.JoinedOf
import Derived.Carry
set_option linter.unusedSectionVars false
set_option linter.unusedVariables false
set_option linter.unusedSimpArgs false
section
namespace Go.AM
section
variable {P:Program} {N:Nat} {out:Option Nat} {base:Nat} {π:List Nat}
theorem IB {c:Code} {S S':St} {Q:Ex→St→Prop} (h:Ib P N out base c S' Q) (he:jh base π S S'):Ib P N out base c S Q :=
 fun Y ι μ a w ho hb hR=>h Y ι _ a w ho hb (he.rep hb hR)
theorem DK {c:Code} {S:St} {Q:Ex→St→Prop} (h:Ib P N out base c S fun e S'=>∃BF π,jh base π S' BF∧Q e BF):Ib P N out base c S Q :=
 fun Y ι μ a w ho hb hR=>wpIn_mono (h Y ι μ a w ho hb hR) fun e a w hp=>by
  obtain ⟨Y1,hY,ι,μ,S',e',h1,h2,BF,π,h3,h4⟩:=hp
  exact ⟨Y1,hY,ι,_,BF,e',h3.rep (hY.ua hb) h1,h2,h4⟩
def BG {R : Type} : List Nat → List V → Env → (Env → R) → R
 |p::ps,v::vs,env,k=>fV v fun v=>BG ps vs ((p,v)::env) k
 |_,_,env,k=>k env
theorem Ad {R : Type} : ∀ (ps : List Nat) (vs : List V) (env : Env) (k : Env → R), BG ps vs env k = k (uo ps vs env)
 |[],vs,env,k=>by cases vs<;>rfl
 |p::ps,[],env,k=>rfl
 |p::ps,v::vs,env,k=>by simp only [BG,nA];rw [Ad ps vs];rfl
def ND {R:Type} (kz:Kz R) (uQ:Nat) (K:V→Nat→aq→R):Kc R:=fun e _ nx bl _=>match ay uQ bl with
 |some (.loop .busy _ d env ps as bd N)=>pO uQ bl fun bl=>match e with
  | .normal=>K (.tf true) nx ((uQ,.loop .ready none d env ps as bd N)::bl)
  | .exit i=>K (.tf false) nx ((uQ,.loop .done (some (.exit i)) d env ps as bd N)::bl)
  | .ret=>K (.tf false) nx ((uQ,.loop .done (some .ret) d env ps as bd N)::bl)
 |_=>kz.no
theorem NF {X : Type} {uQ : Nat} {K : V → Nat → aq → Option X} {r : X} {e : Ex} {env : Env} {nx : Nat} {bl : aq} {ms : List Nat} (h : ND (iu X) uQ K e env nx bl ms = some r) {Q : V → aG → Prop}
  (hQ:∀v nx bl,K v nx bl=some r→Q v ⟨nx,bl⟩):qY uQ Q e ⟨env,⟨nx,bl⟩,ms⟩:=by
 unfold ND at h
 unfold qY
 simp only
 split at h<;>try (cases h;done)
 rename_i hb
 try rw [hb]
 try simp only
 rw [kf] at h
 cases e<;>exact hQ _ _ _ h
def NG {R:Type} (kz:Kz R) (cx:Cx) (ar:Ar) (uQ DL:Nat) (ps:List Nat) (asD bdD:D P N (some uQ) DL) (id:Nat) (vs:List V) (nx:Nat) (bl:aq) (K:V→Nat→aq→R):R :=
 match an (Nat.beq id uQ) (Nat.beq nx DL) with
 |true=>match ay uQ bl with
  |some (.loop .ready none _ env ps' as bd N')=>match an (Nat.beq vs.length ps'.length) (an (Nat.beq N' N) (an (ji as asD.er) (ji bd bdD.er))) with
   |true=>BG ps' vs env fun env=>kE kz cx ar asD env nx bl [] fun e env nx bl ms=>match e with
    | .normal=>match ay uQ bl with
     |some (.loop .ready none d' env' ps' as' Rv N')=>pO uQ bl fun bl=>kE kz cx ar bdD env nx ((uQ,.loop .busy none d' env' ps' as' Rv N')::bl) ms (ND kz uQ K)
     |_=>kz.no
    |_=>kz.no
   |false=>kz.no
  |_=>kz.no
 |false=>kz.no
theorem mV (mixed : P.follows .mixedOrders = true) {cx : Cx} (gu : cx.Ok P) {uQ DL : Nat} {ps : List Nat} {asD bdD : D P N (some uQ) DL} {id : Nat} {vs : List V} {nx : Nat} {bl : aq} {X : Type}
  {K:V→Nat→aq→Option X} {r:X} (h:NG (iu X) cx dN uQ DL ps asD bdD id vs nx bl K=some r) {Q:V→aG→Prop} (hQ:∀v nx bl,K v nx bl=some r→Q v ⟨nx,bl⟩):around P id vs ⟨nx,bl⟩ Q:=by
 unfold NG at h
 split at h<;>try (cases h;done)
 rename_i h1
 rw [aQ] at h1
 have e1:=Nat.eq_of_beq_eq_true h1.1
 have e2:=Nat.eq_of_beq_eq_true h1.2
 subst e1;subst e2
 split at h<;>try (cases h;done)
 rename_i d env ps' as bd N' hb
 split at h<;>try (cases h;done)
 rename_i h2
 simp only [aQ] at h2
 obtain ⟨c1,c2,c3,c4⟩:=h2
 have e3:=Nat.eq_of_beq_eq_true c2
 have e4:=vo c3
 have e5:=vo c4
 have e6:=Nat.eq_of_beq_eq_true c1
 subst e3;subst e4;subst e5
 refine Kf (fun N=>iD mixed) ?_
 unfold FY
 simp only
 rw [hb]
 simp only
 refine ⟨e6,?_⟩
 rw [Ad] at h
 refine k7 gu h fun e env nx bl ms h=>?_
 cases e with
 |exit i=>cases h
 |ret=>cases h
 |normal =>
  simp only at h ⊢
  split at h<;>try (cases h;done)
  rename_i d' env' ps2 as' Rv N2 eC
  try rw [eC]
  try simp only
  rw [kf] at h
  exact k7 gu h fun e env nx bl ms h=>NF h hQ
def yY (cx:Cx) (rd:{R:Type}→Kz R→Nat→List V→Nat→aq→(V→Nat→aq→R)→R):Cx where
 pc:=cx.pc
 ca:=cx.ca
 rd:=rd
theorem jH {cx : Cx} (gu : cx.Ok P) {rd : {R : Type} → Kz R → Nat → List V → Nat → aq → (V → Nat → aq → R) → R}
  (h:∀{X:Type} {id:Nat} {vs:List V} {nx:Nat} {bl:aq} {K:V→Nat→aq→Option X} {r:X},rd (iu X) id vs nx bl K=some r→∀{Q:V→aG→Prop},(∀v nx bl,K v nx bl=some r→Q v ⟨nx,bl⟩)→around P id vs ⟨nx,bl⟩ Q) :
  (yY cx rd).Ok P:=⟨fun hk=>gu.Vz hk,fun hk=>gu.RN hk,fun hk=>h hk⟩
def DM {R:Type} (kz:Kz R) (rs:List RV) (K:Nat→aq→R):Kc R:=fun e env nx bl ms=>match e with
 | .exit _=>kz.no
 | .normal=>go env nx bl ms
 | .ret=>go env nx bl ms
where go (env:Env) (nx:Nat) (bl:aq) (ms:List Nat):R:=match eN ms bl with
 |some bl=>match uM dN ⟨env,⟨nx,bl⟩,[]⟩ rs with
  |some _=>K nx bl
  |none=>kz.no
 |none=>kz.no
theorem rH {X : Type} {rs : List RV} {tys : List (Option Ty)} {K : Nat → aq → Option X} {r : X} {e : Ex} {env : Env} {nx : Nat} {bl : aq} {ms : List Nat} (h : DM (iu X) rs K e env nx bl ms = some r) {Q : V → aG → Prop}
  (hQ:∀v nx bl,K nx bl=some r→Q v ⟨nx,bl⟩):Ba rs tys Q e ⟨env,⟨nx,bl⟩,ms⟩:=by
 have key:DM.go (iu X) rs K env nx bl ms=some r→Ba.qc rs tys Q ⟨env,⟨nx,bl⟩,ms⟩:=fun hg=>by
  unfold DM.go at hg
  unfold Ba.qc
  split at hg<;>try (cases hg;done)
  rename_i bO h1
  simp only
  rw [h1]
  simp only
  split at hg<;>try (cases hg;done)
  rename_i vs h2
  rw [h2]
  exact hQ _ _ _ hg
 cases e with
 |exit i=>cases h
 |normal=>exact key h
 |ret=>exact key h
def IC {R : Type} (no : R) : List Nat → aq → (aq → R) → R
 |[],bl,K=>K bl
 |id::r,bl,K=>match ay id bl with
  |some .ig=>pO id bl fun bl=>IC no r bl K
  |_=>no
theorem DN {X : Type} {no : Option X} {r : X} (hno : no = none) : ∀ {sh : List Nat} {bl : aq} {K : aq → Option X}, IC no sh bl K = some r → ∃ bO, eN sh bl = some bO ∧ K bO = some r
 |[],bl,K,h=>⟨bl,rfl,h⟩
 |id::sh,bl,K,h=>by
  simp only [IC] at h
  simp only [eN]
  split at h
  ·rename_i hb
   rw [kf] at h
   rw [hb]
   exact DN hno h
  ·rw [hno] at h;cases h
def R2 {R:Type} (kz:Kz R) (uQ:Nat) (env:Env) (sh ms:List Nat) (K:Kc R) (nx:Nat) (bl:aq):R:=match ay uQ bl with
 |some (.loop st j _ _ _ _ _ _)=>match st with
  | .busy=>kz.no
  |_=>pO uQ bl fun bl=>IC kz.no sh bl fun bl=>match j with
   |none=>K .normal env nx bl ms
   |some (.exit i)=>K (.exit i) env nx bl ms
   |some .ret=>K .ret env nx bl ms
   |some .normal=>kz.no
 |_=>kz.no
theorem vq {X : Type} {uQ : Nat} {S : St} {sh : List Nat} {K : Kc (Option X)} {nx : Nat} {bl : aq} {r : X} (h : R2 (iu X) uQ S.env sh S.ms K nx bl = some r) {Q : Ex → St → Prop}
  (hQ:∀e env nx bl ms,K e env nx bl ms=some r→Q e ⟨env,⟨nx,bl⟩,ms⟩):jP uQ sh S Q ⟨nx,bl⟩:=by
 unfold R2 at h
 unfold jP
 simp only
 split at h<;>try (cases h;done)
 rename_i st j _ _ _ _ _ _ hb
 try rw [hb]
 try simp only
 split at h
 ·cases h
 ·rename_i hst
  rw [kf] at h
  obtain ⟨bO,hs,h⟩:=DN rfl h
  have:Io j ⟨S.env,⟨nx,bO⟩,S.ms⟩ Q:=by
   split at h
   ·exact hQ _ _ _ _ _ h
   ·exact hQ _ _ _ _ _ h
   ·exact hQ _ _ _ _ _ h
   ·cases h
  rw [hs]
  cases st<;>first|exact this|exact absurd rfl hst
def xg {R:Type} (kz:Kz R) (cx:Cx) (ar:Ar) (pre:List Nat) (p:ax) (xs:aT) (f:O) (ps:List Nat) (as bd:C) (rs:List RV) (np:Nat) (fid:Nat) {Nit cZ:Nat} (LK:D P Nit none cZ) (inr:xs.T→R) (x:p.T):R :=
 fN (base+p.gL.length) fun nx=>p.go nx x fun env nx bl ms=>match f.ev env with
 | .fn NH first cap=>match an (Nat.beq NH fid) (Nat.ble (first++[V.any]++cap).length np) with
  |true=>match out with
   |none=>match ms with
    |_::_=>kz.no
    | [] => RX (first ++ [.yl (nx + 1)] ++ cap) fun vs => kE kz cx ar LK (args 0 vs) cZ ((nx + 1, .loop .ready none nx env ps as bd N) :: (nx, .ig) :: bl) []
     (DM kz rs (R2 kz (nx+1) env [nx] [] fun e env nx bl ms=>xs.rd kz.no pre base e env nx bl ms inr))
   |some Vq=>match ay Vq bl with
    | some (.loop _ _ d _ _ _ _ _) => RX (first ++ [.yl nx] ++ cap) fun vs => kE kz cx ar LK (args 0 vs) cZ ((nx, .loop .ready none d env ps as bd N) :: bl) []
     (DM kz rs (R2 kz nx env [] ms fun e env nx bl ms=>xs.rd kz.no pre base e env nx bl ms inr))
    |_=>kz.no
  |false=>kz.no
 |_=>kz.no
def NI (c:C):bD P N out base where
 c:=c
 run kz _ _ _ _ _:=kz.no
 ok h:=by cases h
def Ky (f:O) (ps:List Nat) (a b:C):gr P N out base where
 f:=f
 ps:=ps
 a:=a
 b:=b
 run kz _ _ _ _ _:=kz.no
 ok h:=by cases h
def R3 (pre:List eR) (m:O) (it:Nat) (cl:List Nat) (e:Option Nat) (kt:Ty) (kg:Bool) (vt:Ty) (vg:Bool) (pH:Nat) (b:C):rz P N out base where
 pre:=pre
 m:=m
 it:=it
 cl:=cl
 e:=e
 kt:=kt
 kg:=kg
 vt:=vt
 vg:=vg
 pH:=pH
 b:=b
 run kz _ _ _ _ _:=kz.no
 ok h:=by cases h
noncomputable def NJ (mixed : P.follows .mixedOrders = true) (cx : Cx) (gu : cx.Ok P) (pre : List Nat) (hpre : pre = List.range base) (p : ax) (xs : aT) (f : O) (ps : List Nat) (hps : ps.all (Nat.blt · N) = true) (as bd : C)
  (fid:Nat) {func:Func} {fn:Fn} (hf:P.funcs[fid]?=some func) (htr:cw P func=some fn) (cE:Enters P fid) (cZ:Nat) (iF:cZ=base+p.gL.length+(match out with|none=>2|some _=>1))
  (LK:D P fn.N none cZ) (hit:LK.er=fn.body) (RF:p.T→Option xs.T)
  (hRF:∀x,xg (N:=N) (out:=out) (base:=base) (iu xs.T) cx dN pre p xs f ps as bd fn.res fn.np fid LK some x=RF x):Gf P N out base f ps as bd where
 run kz env nx bl ms K:=p.rd kz.no pre base env nx bl ms fun x=>kz.bd (RF x) fun b=>xs.go kz base b K
 ok:=by
  intro X env nx bl ms K r h Q hQ
  subst hpre
  obtain ⟨x,π,h1,h2⟩:=ax.dH h
  obtain ⟨b,h3,h4⟩:=oS h1
  have h5:=aT.Aa h4
  have hq:=hQ _ _ _ _ _ h5
  rw [←hRF x] at h3
  unfold xg at h3
  rw [fQ,ax.go_eq] at h3
  intro fo CA ao bo q1 q2 q3 q4
  refine IB (DK ?_) h2
  refine um (K:=fun e S'=>∃BF π,jh base π S' BF∧Q e BF) ?_ fo CA ao bo q1 q2 q3 q4
  refine ⟨hps,?_⟩
  cases mA:f.ev (p.E x) with
  |fn NH first cap=>?_
  |_=>rw [mA] at h3;cases h3
  have X3:f.ev (p.st base x).env = .fn NH first cap:=mA
  rw [X3]
  rw [mA] at h3
  simp only at h3 ⊢
  split at h3<;>try (cases h3;done)
  rename_i hc
  rw [aQ] at hc
  have e1:=Nat.eq_of_beq_eq_true hc.1
  have e2:=Nat.le_of_ble_eq_true hc.2
  subst e1
  have hlen:∀v:V,(first++[v]++cap).length≤fn.np:=fun v=>by simpa using e2
  have hout:∀e env nx bl ms,xs.rd none (List.range base) base e env nx bl ms some=some b→∃BF π,jh base π ⟨env,⟨nx,bl⟩,ms⟩ BF∧Q e BF:=fun e env nx bl ms hk=>by
   obtain ⟨y,π,r1,r2,r3⟩:=aT.dH hk
   cases r1
   exact ⟨_,π,r3,by rw [r2];exact hq⟩
  cases out with
  |none =>
   simp only at h3 iF ⊢
   split at h3
   ·cases h3
   rename_i J2
   rw [mU] at h3
   refine ⟨J2,?_⟩
   subst iF
   refine j7 hf htr cE (iD mixed) (hlen _) ?_
   rw [←hit]
   refine k7 gu h3 fun e env nx bl ms hk=>?_
   exact rH hk fun v nx bl hk => vq (S := p.st base x) (by
    have e:(p.st base x).ms=[]:=J2
    rw [e];exact hk) hout
  |some Vq =>
   simp only at h3 iF ⊢
   split at h3<;>try (cases h3;done)
   rename_i hb
   rw [mU] at h3
   have hb':ay Vq (p.st base x).H.bl=_:=hb
   simp only [ax.st] at hb' ⊢
   rw [hb']
   simp only
   subst iF
   refine j7 hf htr cE (iD mixed) (hlen _) ?_
   rw [←hit]
   refine k7 gu h3 fun e env nx bl ms hk=>?_
   exact rH hk fun v nx bl hk=>vq (S:=p.st base x) hk hout
noncomputable def rI (mixed : P.follows .mixedOrders = true) (cx : Cx) (gu : cx.Ok P) (pre : List Nat) (hpre : pre = List.range base) (p : ax) (xs : aT) (f : O) (ps : List Nat) (hps : ps.all (Nat.blt · N) = true) (as bd : C)
  (fid:Nat) {func:Func} {fn:Fn} (hf:P.funcs[fid]?=some func) (htr:cw P func=some fn) (cE:Enters P fid) (cZ:Nat) (iF:cZ=base+p.gL.length+(match out with|none=>2|some _=>1))
  (LK:D P fn.N none cZ) (hit:LK.er=fn.body) (RF:p.T→Option xs.T)
  (hRF:∀x,xg (N:=N) (out:=out) (base:=base) (iu xs.T) cx dN pre p xs f ps as bd fn.res fn.np fid LK some x=RF x):gr P N out base :=
 (NJ mixed cx gu pre hpre p xs f ps hps as bd fid hf htr cE cZ iF LK hit RF hRF).s
end
end Go.AM
end
section
namespace Go.AM
theorem xk {σ : List Nat} {ι : au} {μ μ' : Mu} (hσ : ∀ j i L, σ[j]? = some i → μ j = some L → μ' i = some L) : ∀ {n : Nat} {v u : V} {x : Value}, nK σ n v = some u → Rel ι μ v x → Rel ι μ' u x
 |0,v,u,x,h,_=>by cases h
 |n+1,v,u,x,h,hr=>by
  have g:∀v u x,nK σ n v=some u→Rel ι μ v x→Rel ι μ' u x:=fun v u x h hr=>xk hσ h hr
  have lift:∀{cs ds:List V} {xs:Array Value},di (nK σ n) cs=some ds→cs.length=xs.size→(∀(i:Nat) v x,cs[i]?=some v→xs[i]?=some x→Rel ι μ v x)→aI ι μ' ds xs.toList :=
   fun hm h1 h2=>iY g hm ⟨by simpa using h1,fun i v x hv hx=>h2 i v x hv (by simpa using hx)⟩
  cases hr<;>simp only [nK] at h
  case any=>cases h;exact .any _
  case tf=>cases h;exact .tf _
  case bool=>cases h;exact .bool _
  case int=>cases h;exact .int _ _
  case str=>cases h;exact .str _
  case eE=>cases h;exact .eE
  case cG=>cases h;exact .cG
  case ff=>cases h;exact .ff
  case eO t xs hd=>cases h;exact .eO t xs _ hd
  case bX=>cases h;exact .bX _
  case sl id t lo m cap L hL h1 h2 h3 =>
   split at h<;>try (cases h;done)
   rename_i i hi;cases h
   exact .sl i t lo m cap L (hσ _ _ _ hi hL) h1 h2 h3
  case bN id t lo a =>
   split at h<;>try (cases h;done)
   cases h;exact .bN _ _ _ _
  case ptr id off L hL =>
   split at h<;>try (cases h;done)
   rename_i i hi;cases h
   exact .ptr i off L (hσ _ _ _ hi hL)
  case ep id t j p L hL =>
   split at h<;>try (cases h;done)
   rename_i i hi;cases h
   exact .ep i t j p L (hσ _ _ _ hi hL)
  case yl id L hL =>
   split at h<;>try (cases h;done)
   rename_i i hi;cases h
   exact .yl i L (hσ _ _ _ hi hL)
  case fu cs b o gf h1 h2 h3 =>
   split at h<;>try (cases h;done)
   rename_i ds hds;cases h
   have hR:aI ι μ cs ((List.range cs.length).map gf):=⟨by simp,fun i v x hv hx=>by
    have hi:=(List.getElem?_eq_some_iff.1 hv).1
    simp [hi] at hx;subst hx;exact h2 i v hv⟩
   have gM:=iY g hds hR
   have hl:ds.length=cs.length:=by have:=gM.1;simpa using this
   exact .fu ds b o gf (fun i hi => h1 i (by omega)) (fun i v hv => gM.2 i v (gf i) hv (by
    have hi:=(List.getElem?_eq_some_iff.1 hv).1
    simp [show i<cs.length by omega])) h3
  case ip t y b o us h1 h2=>cases h;exact .ip t y b o us h1 h2
  case fn f fs cs xs ys h1 h2 h3 h4 =>
   split at h<;>try (cases h;done)
   rename_i as ha
   split at h<;>try (cases h;done)
   rename_i bs hb;cases h
   have r1:=lift ha h1 h2
   have r2:=lift hb h3 h4
   exact .fn f as bs xs ys (by simpa using r1.1) (fun i v x hv hx=>r1.2 i v x hv (by simpa using hx)) (by simpa using r2.1) (fun i v x hv hx=>r2.2 i v x hv (by simpa using hx))
  case agg cs xs h1 h2 h3 =>
   split at h<;>try (cases h;done)
   rename_i ds hds;cases h
   have r1:=lift hds h1 h2
   exact .agg ds xs (by simpa using r1.1) (fun i v x hv hx=>r1.2 i v x hv (by simpa using hx)) h3
  case cK cs xs h1 h2 =>
   split at h<;>try (cases h;done)
   rename_i ds hds;cases h
   have r1:=lift hds h1 h2
   exact .cK ds xs (by simpa using r1.1) (fun i v x hv hx=>r1.2 i v x hv (by simpa using hx))
  case cu t v x hv =>
   split at h<;>try (cases h;done)
   rename_i u' hu;cases h
   exact .cu t u' x (g _ _ _ hu hv)
  case cb c b hc=>cases h;exact .cb c b hc
  case mp id L hL =>
   split at h<;>try (cases h;done)
   rename_i i hi;cases h
   exact .mp i L (hσ _ _ _ hi hL)
  case cD=>cases h;exact .cD
  case sp=>cases h
  case pa id t m L hL hm =>
   split at h<;>try (cases h;done)
   rename_i i hi;cases h
   exact .pa i t m L (hσ _ _ _ hi hL) hm
  case kV t xs b o us h1 h2=>cases h;exact .kV t xs b o us h1 h2
def DO (σ : List Nat) : aq → Option aq
 |[]=>some []
 |(j,b)::r=>match uP σ j with
  |some i=>match FT σ b with
   |some b'=>match DO σ r with
    |some r'=>some ((i,b')::r')
    |none=>none
   |none=>none
  |none=>none
theorem Ae {σ : List Nat} (hinj : ∀ (a b i : Nat), σ[a]? = some i → σ[b]? = some i → a = b) : ∀ {bl bO : aq}, DO σ bl = some bO → ∀ {i : Nat} {B : kR}, ay i bO = some B → ∃ j B0, σ[j]? = some i ∧ ay j bl = some B0 ∧ FT σ B0 = some B
 |[],bO,h,i,B,hb=>by cases h;simp [ay] at hb
 |(j,b)::r,bO,h,i,B,hb=>by
  simp only [DO] at h
  split at h<;>try (cases h;done)
  rename_i i' hi
  split at h<;>try (cases h;done)
  rename_i b' hb'
  split at h<;>cases h
  rename_i r' hr
  rw [oT] at hi
  rw [bq] at hb
  split at hb
  ·rename_i e; subst e; cases hb
   exact ⟨j,b,hi,by rw [bq,if_pos rfl],hb'⟩
  ·rename_i hne
   obtain ⟨j2,B0,h1,h2,h3⟩:=Ae hinj hr hb
   refine ⟨j2,B0,h1,?_,h3⟩
   rw [bq,if_neg]
   ·exact h2
   ·intro e;subst e;rw [hi] at h1;cases h1;exact hne rfl
def xq : List Nat → aq → aq
 |[],bl=>bl
 |i::r,bl=>xq r (bu i bl)
theorem xu : ∀ {l : List Nat} {bl : aq} {id : Nat}, ay id (xq l bl) = if id ∈ l then none else ay id bl
 |[],bl,id=>by simp [xq]
 |i::r,bl,id=>by
  simp only [xq]
  rw [xu,bn]
  by_cases h1:id∈r
  ·simp [h1]
  ·by_cases h2 : id = i
   ·simp [h1,h2]
   ·simp [h1,h2]
theorem uu : ∀ {a b : aq} {id : Nat}, ay id (a ++ b) = match ay id a with | some B => some B | none => ay id b
 |[],b,id=>by simp [ay]
 |(s,x)::r,b,id=>by
  rw [List.cons_append,bq,bq]
  split
  ·rfl
  ·exact uu
section
variable {P:Program}
def sig (π:List Nat) (nx n:Nat):List Nat:=π++(List.range' π.length (n - π.length)).map (nx + ·)
theorem DP {f : Nat} {vs0 vs : List V} {Im bl : aq} {nx : Nat} {π : List Nat} {Q0 Q : V → aG → Prop} (h : gQ P f vs0 ⟨π.length, Im⟩ Q0)
  (hargs:CD π vs0 vs) (qE:∀p∈Im,EBk π nx bl p.1 p.2) (VD:∀p∈Im,∀st j d env ps as bd N,p.2 ≠ .loop st j d env ps as bd N) (hnd:π.Nodup) (hlt:∀i∈π,i<nx+π.length)
  (hQ:∀r n bO,Q0 r ⟨n,bO⟩→π.length≤n∧∃r' VE,nK (sig π nx n) 8 r=some r'∧DO (sig π nx n) bO=some VE∧Q r' ⟨nx+n,VE++xq π bl⟩):gQ P f vs ⟨nx,bl⟩ Q:=by
 refine ⟨h.1,fun Y ι μ w as hI hl=>?_⟩
 let μ1:Mu:=μ.eZ π
 have hμ1:∀j i,π[j]?=some i→μ1 j=μ i:=fun j i e=>by simp only [μ1,Mu.eZ];rw [e];rfl
 let X:Nat→Prop:=fun b=>∃p∈Im,∃L,μ1 p.1=some L∧L.b=b
 let Y1:Ctx:=⟨w,ι,μ1,none,X,[]⟩
 -- a lent block is one of the caller's
 have src:∀p∈Im,∀L,μ1 p.1=some L→∃i C,π[p.1]?=some i∧μ i=some L∧ay i bl=some C:=fun p hp L hL=>by
  obtain ⟨i,e1,hb⟩:=qE p hp
  rw [hμ1 _ _ e1] at hL
  refine ⟨i,?_⟩
  have:∃C,ay i bl=some C:=by
   cases hB:p.2 with
   |cells cs fz=>rw [hB] at hb;obtain ⟨ds,e2,_⟩:=hb;exact ⟨_,e2⟩
   |arr t xs fz =>
    rw [hB] at hb
    rcases hb with e2|⟨_,hge⟩
    ·exact ⟨_,e2⟩
    ·rw [hI.nx i hge] at hL;cases hL
   |loop st j d env ps as bd N=>exact absurd hB (VD p hp _ _ _ _ _ _ _ _)
   |ig=>rw [hB] at hb;exact ⟨_,hb⟩
   |map kt kg vt vg es=>rw [hB] at hb;exact ⟨_,hb⟩
   |mw t xs k p v=>rw [hB] at hb;obtain ⟨u,e2,_⟩:=hb;exact ⟨_,e2⟩
  obtain ⟨C,hC⟩:=this
  exact ⟨C,e1,hL,hC⟩
 have NK:∀b,X b→Y.own b:=fun b ⟨p,hp,L,hL,e⟩=>by
  obtain ⟨i,C,_,h2,h3⟩:=src p hp L hL
  subst e;exact ((hI.live i C h3).loc h2).1
 have hown:∀b,Y1.own b→Y.own b:=fun b hb=>by
  rcases hb with hb|hb
  ·exact .inl (Nat.le_trans hI.below.size hb)
  ·exact NK b hb
 have hmem:∀{id:Nat} {B:kR},ay id Im=some B→(id,B)∈Im:=fun h=>dx h
 have Fg:Inv P Y1 ι μ1 ⟨π.length,Im⟩ w:=by
  refine ⟨HV.refl _ _,au.le_refl _,fun _ _ _ _=>rfl,hI.rd,Mu.le_refl _,fun id hid=>?_,fun id B hB=>?_,fun id id' B B' L L' hb hb' hm hm' e=>?_,fun id B hB=>?_,hI.dz⟩
  ·have : π[id]? = none := List.getElem?_eq_none hid
   simp only [μ1,Mu.eZ];rw [this];rfl
  ·obtain ⟨i, e1, hb⟩ := qE _ (hmem hB)
   have fM:=hμ1 id i e1
   cases B with
   |cells cs fz =>
    obtain ⟨ds,e2,aj⟩:=hb
    obtain ⟨L,vs,hM,Ih⟩:=hI.live i _ e2
    exact ⟨L,vs,⟨by rw [fM];exact hM.mu,.inr ⟨_,hmem hB,L,by rw [fM];exact hM.mu,rfl⟩,hM.row,hM.fits,hM.one,hM.CT,hM.pK⟩,aI.eZ aj.1 (fun i v u hv hu=>fun {x} hr=>(aj.2 i v u hv hu).rel hr) Ih⟩
   |arr t xs fz =>
    rcases hb with e2|⟨rfl,hge⟩
    ·rcases hI.live i _ e2 with ⟨e, hn⟩ | ⟨L, vs, hM, hc, hl⟩
     ·exact .inl ⟨e,by rw [fM];exact hn⟩
     ·exact .inr ⟨L,vs,⟨by rw [fM];exact hM.mu,.inr ⟨_,hmem hB,L,by rw [fM];exact hM.mu,rfl⟩,hM.row,hM.fits,hM.one,hM.CT,hM.pK⟩,hc,hl⟩
    ·exact .inl ⟨rfl,by rw [fM];exact hI.nx i hge⟩
   |mw t xs k p v =>
    obtain ⟨u,e2,aj⟩:=hb
    obtain ⟨L,us,vs,c,hM,hc,hl,q1,q2,q3,q4⟩:=hI.live i _ e2
    exact ⟨L,us,vs,c,⟨by rw [fM];exact hM.mu,.inr ⟨_,hmem hB,L,by rw [fM];exact hM.mu,rfl⟩,hM.row,hM.fits,hM.one,hM.CT,hM.pK⟩,hc,hl,q1,q2,q3,aj.rel q4⟩
   |loop st j d env ps as bd N=>exact absurd rfl (VD _ (hmem hB) st j d env ps as bd N)
   |ig =>
    obtain ⟨L,q1,q2,q3⟩:=hI.live i _ hb
    exact ⟨L,by rw [fM];exact q1,.inr ⟨_,hmem hB,L,by rw [fM];exact q1,rfl⟩,q3⟩
   |map kt kg vt vg es =>
    obtain ⟨L,ms,clock,dB,q1,q2,q3⟩:=hI.live i _ hb
    exact ⟨L,ms,clock,dB,by rw [fM];exact q1,.inr ⟨_,hmem hB,L,by rw [fM];exact q1,rfl⟩,q3⟩
  ·obtain ⟨i, C, e1, e2, e3⟩ := src _ (hmem hb) L hm
   obtain ⟨i',C',Fh,e2',Xi⟩:=src _ (hmem hb') L' hm'
   have:=hI.inj i i' C C' L L' e3 Xi e2 e2' e
   subst this
   exact (List.getElem?_inj (List.getElem?_eq_some_iff.1 e1).1 hnd).1 (e1.trans Fh.symm)
  ·obtain ⟨i, e1, _⟩ := qE _ (hmem hB)
   exact (List.getElem?_eq_some_iff.1 e1).1
 have X4:aI ι μ1 vs0 as.toList:=aI.eZ hargs.1 (fun i v u hv hu=>fun {x} hr=>(hargs.2 i v u hv hu).rel hr) hl
 refine (h.2 Y1 ι μ1 w as Fg X4).mono ?_
 rintro e w' ⟨v,ι',R4,r,⟨n,bO⟩,rfl,hi,gj,nN,hr,hq⟩
 obtain ⟨hn,r',VE,hr',X5,Xr⟩:=hQ _ _ _ hq
 -- names
 have X6:∀j i,(sig π nx n)[j]?=some i→(j<π.length∧π[j]?=some i)∨(π.length≤j∧j<n∧i=nx+j):=fun j i e=>by
  unfold sig at e
  rw [List.getElem?_append] at e
  split at e
  ·rename_i hj;exact .inl ⟨hj,e⟩
  ·rename_i hj
   simp only [List.getElem?_map] at e
   cases hh:(List.range' π.length (n - π.length))[j - π.length]? with
   |none=>rw [hh] at e;cases e
   |some z =>
    rw [hh] at e
    simp only [Option.map_some,Option.some.injEq] at e
    obtain ⟨q1,q2⟩:=List.getElem?_eq_some_iff.1 hh
    simp at q1 q2
    exact .inr ⟨by omega,by omega,by omega⟩
 have hinj:∀a b i,(sig π nx n)[a]?=some i→(sig π nx n)[b]?=some i→a=b:=fun a b i ha hb=>by
  rcases X6 _ _ ha with ⟨h1,h2⟩|⟨h1,h2,h3⟩<;>rcases X6 _ _ hb with ⟨h4,h5⟩|⟨h4,h5,h6⟩
  ·exact (List.getElem?_inj h1 hnd).1 (h2.trans h5.symm)
  ·have:=hlt i (List.mem_of_getElem? h2);omega
  ·have:=hlt i (List.mem_of_getElem? h5);omega
  ·omega
 classical
 let μ':Mu:=fun i=>match μ i with
  |some L=>some L
  |none=>if hx:∃j L,(sig π nx n)[j]?=some i∧R4 j=some L then some hx.choose_spec.choose else none
 have hle:μ.le μ':=fun i L hL=>by simp only [μ'];rw [hL]
 have hnew:∀i,μ i=none→∀j L,(sig π nx n)[j]?=some i→R4 j=some L→μ' i=some L:=fun i hi j L hj hL=>by
  have hx:∃j L,(sig π nx n)[j]?=some i∧R4 j=some L:=⟨j,L,hj,hL⟩
  simp only [μ'];rw [hi];simp only;rw [dif_pos hx]
  obtain ⟨q1,q2⟩:=hx.choose_spec.choose_spec
  have key:∀j' L',R4 j'=some L'→j'=j→some L'=some L:=fun j' L' h1 h2=>by subst h2;rw [←h1,hL]
  exact key _ _ q2 (hinj _ _ _ q1 hj)
 have hσ:∀j i L,(sig π nx n)[j]?=some i→R4 j=some L→μ' i=some L:=fun j i L hj hL=>by
  cases hμ:μ i with
  |none=>exact hnew i hμ j L hj hL
  |some L0 =>
   rcases X6 _ _ hj with ⟨h1,h2⟩|⟨h1,h2,h3⟩
   ·have e : R4 j = some L0 := gj j L0 (by rw [hμ1 j i h2]; exact hμ)
    rw [hL] at e;cases e
    exact hle i _ hμ
   ·rw [hI.nx i (by simp only;omega)] at hμ;cases hμ
 have hσ':∀j i,(sig π nx n)[j]?=some i→∀L,μ' i=some L→R4 j=some L:=fun j i hj L hL=>by
  cases hμ:μ i with
  |some L0 =>
   rw [hle i _ hμ] at hL;cases hL
   rcases X6 _ _ hj with ⟨h1,h2⟩|⟨h1,h2,h3⟩
   ·exact gj j _ (by rw [hμ1 j i h2];exact hμ)
   ·rw [hI.nx i (by simp only;omega)] at hμ;cases hμ
  |none =>
   simp only [μ'] at hL;rw [hμ] at hL;simp only at hL
   split at hL
   ·rename_i hx
    cases hL
    obtain ⟨q1,q2⟩:=hx.choose_spec.choose_spec
    have key:∀j' L',R4 j'=some L'→j'=j→R4 j=some L':=fun j' L' h1 h2=>by subst h2;exact h1
    exact key _ _ q2 (hinj _ _ _ q1 hj)
   ·cases hL
 have R5:∀{id:Nat} {B:kR} {L:Loc},ay id bl=some B→id∉π→μ id=some L→L.b<w.heap.size∧¬X L.b:=fun {id B L} hB hid hL=>by
  refine ⟨((hI.live id B hB).loc hL).2,?_⟩
  rintro ⟨p,hp,L2,hL2,e⟩
  obtain ⟨i,C,e1,e2,e3⟩:=src p hp L2 hL2
  have:=hI.inj i id C B L2 L e3 hB e2 hL e
  subst this
  exact hid (List.mem_of_getElem? e1)
 have hkeep:∀{id:Nat} {B:kR},ay id bl=some B→id∉π→μ' id=μ id:=fun {id B} hB hid=>by
  cases hμ:μ id with
  |some L=>exact hle id _ hμ
  |none =>
   simp only [μ'];rw [hμ];simp only
   rw [dif_neg]
   rintro ⟨j,L,hj,_⟩
   have ace:=hI.lt id B hB
   rcases X6 _ _ hj with ⟨h1,h2⟩|⟨h1,h2,h3⟩
   ·exact hid (List.mem_of_getElem? h2)
   ·simp only at ace;omega
 have ir:∀{id:Nat} {B:kR},ay id (VE++xq π bl)=some B→(∃j B0,(sig π nx n)[j]?=some id∧ay j bO=some B0∧FT (sig π nx n) B0=some B)∨(ay id bl=some B∧id∉π):=fun {id B} hB=>by
  rw [uu] at hB
  split at hB
  ·rename_i B2 eC;cases hB;exact .inl (Ae hinj X5 eC)
  ·rw [xu] at hB
   split at hB
   ·cases hB
   ·rename_i hk;exact .inr ⟨hB,hk⟩
 have jE:HV Y.x Y.w0 w':=by
  have b2:=nN.below
  refine ⟨b2.os.trans hI.below.os,b2.tape.trans hI.below.tape,b2.output.trans hI.below.output,Nat.le_trans hI.below.size b2.size,fun k hk hx=>?_,Nat.le_trans hI.below.dr b2.dr,fun k hk=>(hI.below.maps k hk).trans (b2.maps k (Nat.lt_of_lt_of_le hk hI.below.size))⟩
  rw [b2.block k (Nat.lt_of_lt_of_le hk hI.below.size) (fun hX=>by
   rcases NK k hX with h|h
   ·omega
   ·exact hx h)]
  exact hI.below.block k hk hx
 have hι:∀b o,b<w.heap.size→¬X b→ι' b o=ι b o:=fun b o hb hx=>nN.iB b o hb hx
 refine ⟨v,ι',μ',r',_,rfl,hi,hle,?_,xk hσ hr' hr,Xr⟩
 refine ⟨jE,au.le_trans hI.i0 hi,fun b o hb hx=>?_,nN.rd,Mu.le_trans hI.m0 hle,fun id hid=>?_,fun id B hB=>?_,fun id id' B B' L L' hb hb' hm hm' e=>?_,fun id B hB=>?_,hI.gl⟩
 ·rw [hι b o (Nat.lt_of_lt_of_le hb hI.below.size) (fun hX=>by
   rcases NK b hX with h|h
   ·omega
   ·exact hx h)]
  exact hI.iB b o hb hx
 ·simp only at hid
  have h0:μ id=none:=hI.nx id (by simp only;omega)
  simp only [μ'];rw [h0];simp only
  rw [dif_neg]
  rintro ⟨j,L,hj,_⟩
  rcases X6 _ _ hj with ⟨h1,h2⟩|⟨h1,h2,h3⟩
  ·have:=hlt id (List.mem_of_getElem? h2);omega
  ·omega
 ·rcases ir hB with ⟨j, B0, e1, e2, e3⟩ | ⟨hB', hk⟩
  ·have kZ := nN.live j B0 e2
   cases B0 with
   |cells cs fz =>
    simp only [FT] at e3
    split at e3<;>cases e3
    rename_i ds hds
    obtain ⟨L,us,hM,Ih⟩:=kZ
    exact ⟨L,us,⟨hσ _ _ _ e1 hM.mu,hown _ hM.old,hM.row,hM.fits,hM.one,hM.CT,hM.pK⟩,iY (fun _ _ _ h hr=>xk hσ h hr) hds Ih⟩
   |arr t xs fz =>
    cases e3
    rcases kZ with ⟨e,hn0⟩|⟨L,us,hM,hc,hl⟩
    ·refine .inl ⟨e, ?_⟩
     cases hμ':μ' id with
     |none=>rfl
     |some L=>rw [hσ' j id e1 L hμ'] at hn0;cases hn0
    ·exact .inr ⟨L,us,⟨hσ _ _ _ e1 hM.mu,hown _ hM.old,hM.row,hM.fits,hM.one,hM.CT,hM.pK⟩,hc,hl⟩
   |loop st jj d env ps as bd N=>cases e3
   |mw t xs k p v=>cases e3
   |ig =>
    cases e3
    obtain ⟨L,q1,q2,q3⟩:=kZ
    exact ⟨L,hσ _ _ _ e1 q1,hown _ q2,q3⟩
   |map kt kg vt vg es =>
    cases e3
    obtain ⟨L,ms,clock,dB,q1,q2,q3,q4,q5⟩:=kZ
    exact ⟨L,ms,clock,dB,hσ _ _ _ e1 q1,hown _ q2,q3,q4,q5⟩
  ·have kZ := hI.live id B hB'
   refine kZ.mono hi hle (fun hn0=>(hkeep hB' hk).trans hn0) (fun L hL=>?_) (fun L hL ho o=>?_)
   ·obtain ⟨h1, h2⟩ := R5 hB' hk hL
    exact nN.below.block _ h1 h2
   ·obtain ⟨h1, h2⟩ := R5 hB' hk hL
    rw [hι _ _ h1 h2];exact ho o
 ·rcases ir hb with ⟨j, B0, e1, e2, e3⟩ | ⟨hB1, HX⟩ <;> rcases ir hb' with ⟨j', B0', Fh, e2', Xi⟩ | ⟨hB2, hk2⟩
  ·have := nN.inj j j' B0 B0' L L' e2 e2' (hσ' _ _ e1 _ hm) (hσ' _ _ Fh _ hm') e
   subst this;rw [e1] at Fh;cases Fh;rfl
  ·rw [hkeep hB2 hk2] at hm'
   obtain ⟨h1,h2⟩:=R5 hB2 hk2 hm'
   rcases ((nN.live j B0 e2).loc (hσ' _ _ e1 _ hm)).1 with h3|h3
   ·simp only [Y1] at h3;omega
   ·rw [e] at h3;exact absurd h3 h2
  ·rw [hkeep hB1 HX] at hm
   obtain ⟨h1,h2⟩:=R5 hB1 HX hm
   rcases ((nN.live j' B0' e2').loc (hσ' _ _ Fh _ hm')).1 with h3|h3
   ·simp only [Y1] at h3;omega
   ·rw [←e] at h3;exact absurd h3 h2
  ·rw [hkeep hB1 HX] at hm
   rw [hkeep hB2 hk2] at hm'
   exact hI.inj id id' B B' L L' hB1 hB2 hm hm' e
 ·rcases ir hB with ⟨j, B0, e1, e2, e3⟩ | ⟨hB', hk⟩
  ·rcases X6 _ _ e1 with ⟨h1, h2⟩ | ⟨h1, h2, h3⟩
   ·have:=hlt id (List.mem_of_getElem? h2);simp only;omega
   ·simp only;omega
  ·have:=hI.lt id B hB';simp only at this ⊢;omega
end
end Go.AM
end
section
namespace Go.AM
structure Ht where
 f:Nat
 p:ax
 q:ax
 fn:p.T→Option q.T
def Ht.Ok (P:Program) (ht:Ht):Prop:=∀x y,ht.fn x=some y →
 gQ P ht.f ((ht.p.E x).map (·.2)) ⟨ht.p.gL.length,ht.p.B x⟩ fun r H=>r=get 0 (ht.q.E y)∧H=⟨ht.p.gL.length+ht.q.gL.length,ht.q.B y⟩
section
variable {P:Program} {R:Type}
def ax.rdP (no:R) (p:ax) (env:Env) (nx:Nat) (bl:aq) (k:List Nat→p.T→R):R :=
 rF no env nx bl [] p.gL [] 0 fun π=>match xd π p.bl with
  |true=>match zZ (A:=RO p.bl Unit) π env p.env with
   |some f=>match Ny (A:=Unit) π nx bl p.bl with
    |some g=>k π (f (g ()))
    |none=>no
   |none=>no
  |false=>no
def BH : List Nat → Bool
 |[]=>true
 |i::r=>match AY i r with
  |true=>false
  |false=>BH r
theorem Af : ∀ {l : List Nat}, BH l = true → l.Nodup
 |[],_=>.nil
 |i::r,h=>by
  simp only [BH] at h
  split at h
  ·cases h
  ·rename_i hm
   exact List.nodup_cons.2 ⟨(fun hi=>by rw [qX.2 hi] at hm;cases hm),Af h⟩
def BI (n : Nat) : List Nat → Bool
 |[]=>true
 |i::r=>match Nat.blt i n with
  |true=>BI n r
  |false=>false
theorem Ag {n : Nat} : ∀ {l : List Nat}, BI n l = true → ∀ i ∈ l, i < n
 |[],_,i,hi=>by simp at hi
 |j::r,h,i,hi=>by
  simp only [BI] at h
  split at h
  ·rename_i hj
   rcases List.mem_cons.1 hi with rfl|hi
   ·have : i + 1 ≤ n := by simpa [Nat.blt] using hj
    omega
   ·exact Ag h i hi
  ·cases h
def mW : List (Nat × BP) → Bool
 |[]=>true
 |(_,.loop _ _ _ _ _ _ _ _)::_=>false
 |(_,.arr _ _)::r=>mW r
 |(_,.cells _ _)::r=>mW r
 |(_,.ig)::r=>mW r
 |(_,.map _ _ _ _)::r=>mW r
 |(_,.mw _ _ _ _)::r=>mW r
theorem Ah {A : Type} : ∀ {ps : List (Nat × BP)} (x : RO ps A), mW ps = true → ∀ p ∈ QL ps x, ∀ st j d env ps as bd N, p.2 ≠ .loop st j d env ps as bd N
 |[],x,h,p,hp=>by simp [QL] at hp
 |(s,b)::r,x,h,p,hp=>by
  simp only [QL,List.mem_cons] at hp
  intro st j d env ps as bd N
  rcases hp with rfl|hp
  ·cases b with
   |loop=>simp [mW] at h
   |arr=>simp [BP.v]
   |cells=>simp [BP.v]
   |ig=>simp [BP.v]
   |map=>simp [BP.v]
   |mw=>simp [BP.v]
  ·refine Ah _ ?_ p hp st j d env ps as bd N
   cases b<;>simp [mW] at h<;>exact h
def X7 (kz:Kz R) (no:R) (ht:Ht) (vs:List V) (nx:Nat) (bl:aq) (K:V→Nat→aq→R):R :=
 match an (Nat.beq vs.length ht.p.env.length) (mW ht.p.bl) with
 |true=>ht.p.rdP no (args 0 vs) nx bl fun π x=>match an (BH π) (BI (nx+π.length) π) with
  |true=>kz.bd (ht.fn x) fun y=>fN (π.length+ht.q.gL.length) fun n=>ht.q.go n y fun env _ bO _=>match nK (sig π nx n) 8 (get 0 env) with
   |some r'=>match DO (sig π nx n) bO with
    |some VE=>fBl (VE++xq π bl) fun bl=>fN (nx+n) fun nx=>K r' nx bl
    |none=>kz.no
   |none=>kz.no
  |false=>no
 |false=>no
theorem args_at:∀{vs:List V} {n i:Nat},get i (args n vs)=if n≤i then vs.getD (i - n) .any else .any:=wH
theorem rJ {A : Type} : ∀ {ps : List (Nat × SP)} {x : yW ps A}, (wZ ps x).length = ps.length
 |[],_=>rfl
 |(_,_)::r,x=>by simp [wZ,rJ (ps:=r)]
theorem R6 {π:List Nat} {vs:List V} {env:Env} (hlen:vs.length=env.length) (hs:env.map (·.1)=List.range env.length) (h:EE π env (args 0 vs)):CD π (env.map (·.2)) vs:=by
 refine ⟨by simp [hlen],fun i v u hv hu=>?_⟩
 rw [List.getElem?_map] at hv
 cases hp:env[i]? with
 |none=>rw [hp] at hv;cases hv
 |some p =>
  rw [hp] at hv;cases hv
  have hi:=(List.getElem?_eq_some_iff.1 hp).1
  have e1:(env.map (·.1))[i]?=(List.range env.length)[i]?:=by rw [hs]
  rw [List.getElem?_map,hp,List.getElem?_range hi] at e1
  simp only [Option.map_some,Option.some.injEq] at e1
  have:=h p (List.mem_of_getElem? hp)
  rw [args_at,e1,if_pos (Nat.zero_le _)] at this
  simp only [Nat.sub_zero] at this
  have e2:vs.getD i .any=u:=by simp [List.getD,hu]
  rwa [e2] at this
theorem oh {A : Type} : ∀ {ps : List (Nat × SP)} {x : yW ps A}, (wZ ps x).map (·.1) = ps.map (·.1)
 |[],_=>rfl
 |(_,_)::r,x=>by simp [wZ,oh (ps:=r)]
theorem ax.VF {p:ax} {x:p.T}:(p.E x).length=p.env.length:=rJ
theorem ax.vr {p:ax} {x:p.T}:(p.E x).map (·.1)=p.env.map (·.1):=oh
def Ht.slots (ht:Ht):Prop:=ht.p.env.map (·.1)=List.range ht.p.env.length
theorem R7 {ht:Ht} (hok:ht.Ok P) (hsl:ht.slots) {X:Type} {no:Option X} {vs:List V} {nx:Nat} {bl:aq} {K:V→Nat→aq→Option X} {r:X} (h:X7 (iu X) no ht vs nx bl K=some r) :
  no=some r∨∀{Q:V→aG→Prop},(∀v nx bl,K v nx bl=some r→Q v ⟨nx,bl⟩)→gQ P ht.f vs ⟨nx,bl⟩ Q:=by
 unfold X7 at h
 split at h
 ·rename_i h0
  rw [aQ] at h0
  have hlen:=Nat.eq_of_beq_eq_true h0.1
  unfold ax.rdP at h
  have key:∀{ls:List Lc} {π0:List Nat} {b:Nat} {k:List Nat→Option X},rF no (args 0 vs) nx bl [] ls π0 b k=some r→no=some r∨∃rr,rr.length=ls.length∧k (π0++rr)=some r:=by
   intro ls
   induction ls with
   |nil=>intro π0 b k hk;exact .inr ⟨[],rfl,by simpa [rF] using hk⟩
   |cons l ls ih =>
    intro π0 b k hk
    simp only [rF] at hk
    split at hk
    ·rename_i i hi
     rw [fQ,BA,fQ] at hk
     rcases ih hk with hk|⟨rr,h1,h2⟩
     ·exact .inl hk
     ·exact .inr ⟨i::rr,by simp [h1],by simpa using h2⟩
    ·exact .inl hk
  rcases key h with h|⟨π,hπ,h⟩
  ·exact .inl h
  simp only [List.nil_append] at h
  split at h
  ·rename_i hap
   split at h
   ·rename_i f hf
    split at h
    ·rename_i g hg
     split at h
     ·rename_i hnb
      rw [aQ] at hnb
      refine .inr fun {Q} hQ=>?_
      obtain ⟨y,hy,h⟩:=ql h
      rw [fQ,ax.go_eq] at h
      obtain ⟨h1,h2⟩:=rE hf (g ())
      obtain ⟨h3,h4⟩:=Bz hg ()
      split at h<;>try (cases h;done)
      rename_i r' hr'
      split at h<;>try (cases h;done)
      rename_i VE X5
      rw [BD,fQ] at h
      have gR:=hok _ _ hy
      rw [←hπ] at gR
      have hB:ht.p.B (f (g ()))=QL ht.p.bl (g ()):=by unfold ax.B;rw [h2]
      refine DP (Q0:=fun r H=>r=get 0 (ht.q.E y)∧H=⟨π.length+ht.q.gL.length,ht.q.B y⟩) gR ?_ ?_ ?_ (Af hnb.1) (Ag hnb.2) ?_
      ·exact R6 (env:=wZ ht.p.env (f (g ()))) (hlen.trans rJ.symm) (oh.trans (hsl.trans (by rw [rJ]))) h1
      ·rw [hB];exact h3
      ·rw [hB];exact Ah _ h0.2
      ·rintro r n bO ⟨rfl, e⟩
       cases e
       exact ⟨by omega,r',VE,hr',X5,hQ _ _ _ h⟩
     ·exact .inl h
    ·exact .inl h
   ·exact .inl h
  ·exact .inl h
 ·exact .inl h
def DQ (kz : Kz R) (f : Nat) (vs : List V) (nx : Nat) (bl : aq) (K : V → Nat → aq → R) (no : R) : List Ht → R
 |[]=>no
 |ht::r=>match Nat.beq ht.f f with
  |true=>X7 kz (DQ kz f vs nx bl K no r) ht vs nx bl K
  |false=>DQ kz f vs nx bl K no r
def NL (P : Program) : List Ht → Prop
 |[]=>True
 |c::r=>(c.Ok P∧c.slots)∧NL P r
theorem xw {X:Type} {no:Option X} {f:Nat} {vs:List V} {nx:Nat} {bl:aq} {K:V→Nat→aq→Option X} {r:X}:∀{hts:List Ht},NL P hts→DQ (iu X) f vs nx bl K no hts=some r →
  no=some r∨∀{Q:V→aG→Prop},(∀v nx bl,K v nx bl=some r→Q v ⟨nx,bl⟩)→gQ P f vs ⟨nx,bl⟩ Q
 |[],_,h=>.inl h
 |ht::hts,hok,h=>by
  simp only [DQ] at h
  split at h
  ·rename_i hf
   have e:=Nat.eq_of_beq_eq_true hf
   subst e
   rcases R7 hok.1.1 hok.1.2 h with h|h
   ·exact xw hok.2 h
   ·exact .inr h
  ·exact xw hok.2 h
def aL (vp:List Ct) (hts:List Ht):Cx where
 pc kz f vs K:=DJ kz f vs K vp
 ca kz f vs nx bl K:=DQ kz f vs nx bl K (X1 vp kz f vs nx bl K) hts
 rd kz _ _ _ _ _:=kz.no
theorem av {vp:List Ct} {hts:List Ht} (h:IA P vp) (h2:NL P hts):(aL vp hts).Ok P where
 Vz hk:=oV h hk
 RN:=by
  intro X f vs nx bl K r hk Q hQ
  rcases xw h2 hk with hk|hk
  ·exact (RZ h).RN hk hQ
  ·exact hk hQ
 XS hk:=by cases hk
theorem KA {f:Nat} {vs:List V} {H:aG} {Q:V→aG→Prop} (h:gQ P f vs H fun r H'=>∃r'' H'' π,jh H.next π ⟨[(0,r)],H',[]⟩ ⟨[(0,r'')],H'',[]⟩∧Q r'' H''):gQ P f vs H Q :=
 ⟨h.1,fun Y ι μ w as hI hl=>(h.2 Y ι μ w as hI hl).mono fun e w' ⟨v,ι',μ',r,H',h1,h2,h3,h4,h5,r'',H'',π,h6,h7⟩=>by
  let Y2:Ctx:=⟨Y.w0,Y.ι0,fun i=>if i<H.next then μ i else none,Y.ro,Y.x,[]⟩
  have nN:Inv P Y2 ι' μ' H' w':=⟨h4.below,h4.i0,h4.iB,h4.rd,(fun i L hL=>by
   simp only [Y2] at hL
   split at hL
   ·exact h3 _ _ hL
   ·cases hL),h4.nx,h4.live,h4.inj,h4.lt,h4.gl⟩
  have hR:eM P 1 Y2 ι' μ' ⟨[(0,r)],H',[]⟩ { tmps:=#[v],defers:=[] } w':=⟨(fun t=>by
   rw [bW]
   split
   ·rename_i e;subst e;exact h5
   ·exact .any _),rfl,nN,rfl⟩
  have ny:=h6.rep (fun i hi=>by simp only [Y2];rw [if_neg (by omega)]) hR
  have hle:μ.le (μ'.eZ π):=fun i L hL=>by
   have hlt:i<H.next:=by
    rcases Nat.lt_or_ge i H.next with h|h
    ·exact h
    ·rw [hI.nx i h] at hL;cases hL
   exact ny.inv.m0 i L (by simp only [Y2];rw [if_pos hlt];exact hL)
  refine ⟨v,ι',μ'.eZ π,r'',H'',h1,h2,hle,⟨h4.below,h4.i0,h4.iB,h4.rd,Mu.le_trans hI.m0 hle,ny.inv.nx,ny.inv.live,ny.inv.inj,ny.inv.lt,hI.gl⟩,?_,h7⟩
  have:=ny.env 0
  rw [bW,if_pos rfl] at this
  exact this⟩
def Ai (kz:Kz R) (rs:List RV) (tys:List (Option Ty)) (K:V→Nat→aq→R):Kc R:=fun e env nx bl ms=>match e with
 | .exit _=>kz.no
 | .normal=>go env nx bl ms
 | .ret=>go env nx bl ms
where go (env:Env) (nx:Nat) (bl:aq) (ms:List Nat):R:=match eN ms bl with
 |some bl=>match uM dN ⟨env,⟨nx,bl⟩,[]⟩ rs with
  |some vs=>fV (ue (cO (hTs tys) vs)) fun v=>K v nx bl
  |none=>kz.no
 |none=>kz.no
theorem xy {X : Type} {rs : List RV} {tys : List (Option Ty)} {K : V → Nat → aq → Option X} {r : X} {e : Ex} {env : Env} {nx : Nat} {bl : aq} {ms : List Nat} (h : Ai (iu X) rs tys K e env nx bl ms = some r) {Q : V → aG → Prop}
  (hQ:∀v nx bl,K v nx bl=some r→Q v ⟨nx,bl⟩):Ba rs tys Q e ⟨env,⟨nx,bl⟩,ms⟩:=by
 have key:Ai.go (iu X) rs tys K env nx bl ms=some r→Ba.qc rs tys Q ⟨env,⟨nx,bl⟩,ms⟩:=fun hg=>by
  unfold Ai.go at hg
  unfold Ba.qc
  split at hg<;>try (cases hg;done)
  rename_i bO h1
  simp only
  rw [h1]
  simp only
  split at hg<;>try (cases hg;done)
  rename_i vs h2
  rw [h2]
  rw [nA] at hg
  exact hQ _ _ _ hg
 cases e with
 |exit i=>cases h
 |normal=>exact key h
 |ret=>exact key h
def hfE {N k:Nat} (kz:Kz R) (cx:Cx) (ar:Ar) (pre:List Nat) (rs:List RV) (tys:List (Option Ty)) (p q:ax) (body:D P N none k) (inr:q.T→R) (x:p.T):R :=
 p.go k x fun env nx bl _=>kE kz cx ar body env nx bl [] (Ai kz rs tys fun r nx bl=>q.rd kz.no pre k [(0,r)] nx bl [] inr)
theorem DS : ∀ {env : Env} {n : Nat}, env.map (·.1) = List.range' n env.length → args n (env.map (·.2)) = env
 |[],n,_=>rfl
 |(s,v)::r,n,h=>by
  simp only [List.map_cons,List.length_cons,List.range'_succ,List.cons.injEq] at h
  simp only [List.map_cons,args]
  rw [DS h.2,h.1]
theorem bG (mixed : P.follows .mixedOrders = true) {cx : Cx} (gu : cx.Ok P) {func : Func} {fn : Fn} {ht : Ht} {k : Nat} (hk : ht.p.gL.length = k) (hf : P.funcs[ht.f]? = some func) (htr : cw P func = some fn) (cE : Enters P ht.f)
  (body:D P fn.N none k) (hbody:body.er=fn.body) (hnp:Nat.ble ht.p.env.length fn.np=true) (hsl:ht.slots) (hq:∃s,ht.q.env=[(0,s)]) (hqm:ht.q.ms=[]) {pre:List Nat} (hpre:pre=List.range k)
  (hfn:∀x,hfE (iu ht.q.T) cx dN pre fn.res fn.tys ht.p ht.q body some x=ht.fn x):ht.Ok P:=by
 intro x y hxy
 subst hpre
 rw [←hfn x] at hxy
 unfold hfE at hxy
 rw [ax.go_eq] at hxy
 subst hk
 refine KA ?_
 refine j7 hf htr cE (iD mixed) (by rw [List.length_map,ax.VF];exact Nat.le_of_ble_eq_true hnp) ?_
 have ha:args 0 ((ht.p.E x).map (·.2))=ht.p.E x:=DS (by rw [ax.vr,ax.VF,←List.range_eq_range'];exact hsl)
 rw [ha,←hbody]
 refine k7 gu hxy fun e env nx bl ms hk=>?_
 refine xy hk fun v nx bl hk=>?_
 obtain ⟨y',π,h1,h2⟩:=ax.dH hk
 cases h1
 obtain ⟨s,hs⟩:=hq
 have he:ht.q.E y=[(0,get 0 (ht.q.E y))]:=by
  have h1:(ht.q.E y).map (·.1)=[0]:=by rw [ax.vr,hs];rfl
  cases h2:ht.q.E y with
  |nil=>rw [h2] at h1;cases h1
  |cons a r =>
   obtain ⟨a1,a2⟩:=a
   rw [h2] at h1
   simp only [List.map_cons,List.cons.injEq,List.map_eq_nil_iff] at h1
   obtain ⟨rfl,rfl⟩:=h1
   rw [bW,if_pos rfl]
 refine ⟨_,_,π,?_,rfl,rfl⟩
 have e:ax.st ht.p.gL.length ht.q y=⟨[(0,get 0 (ht.q.E y))],⟨ht.p.gL.length+ht.q.gL.length,ht.q.B y⟩,[]⟩:=by
  unfold ax.st;rw [←he,hqm]
 rw [←e];exact h2
def LL {A B : Type} (F : (A → Option B) → A → Option B) : Nat → A → Option B
 |0=>fun _=>none
 |n+1=>F (LL F n)
noncomputable def tw {A B:Type} (F:(A→Option B)→A→Option B) (x:A):Option B:=by
 classical exact if h:∃(N:Nat) (y:B),∀n,N≤n→LL F n x=some y then some h.choose_spec.choose else none
theorem Aj {A B:Type} {F:(A→Option B)→A→Option B} {x:A} {y:B} (h:tw F x=some y):∃n,LL F n x=some y:=by
 unfold tw at h
 split at h
 ·rename_i hx;cases h;exact ⟨hx.choose,hx.choose_spec.choose_spec _ (Nat.le_refl _)⟩
 ·cases h
theorem ID {A B:Type} {F:(A→Option B)→A→Option B} {x:A} {y:B} {N:Nat} (h:∀n,N≤n→LL F n x=some y):tw F x=some y:=by
 unfold tw
 have hx:∃(N:Nat) (y:B),∀n,N≤n→LL F n x=some y:=⟨N,y,h⟩
 rw [dif_pos hx]
 have h1:=hx.choose_spec.choose_spec (max N hx.choose) (Nat.le_max_right _ _)
 rw [h _ (Nat.le_max_left _ _)] at h1
 exact h1.symm
theorem BJ {f:Nat} {p q:ax} {F:(p.T→Option q.T)→p.T→Option q.T} (h:∀rec,Ht.Ok P ⟨f,p,q,rec⟩→Ht.Ok P ⟨f,p,q,F rec⟩):Ht.Ok P ⟨f,p,q,tw F⟩:=by
 have key:∀n,Ht.Ok P ⟨f,p,q,LL F n⟩:=by
  intro n
  induction n with
  |zero=>intro x y hxy;cases hxy
  |succ n ih=>exact h _ ih
 intro x y hxy
 obtain ⟨n,hn⟩:=Aj hxy
 exact key n x y hn
theorem ct_fix {f:Nat} {ps:List SP} {res:SP} {F:(qo ps Unit→Option (res.T Unit))→qo ps Unit→Option (res.T Unit)} (h:∀rec,Ct.Ok P ⟨f,ps,res,rec⟩→Ct.Ok P ⟨f,ps,res,F rec⟩):Ct.Ok P ⟨f,ps,res,tw F⟩:=by
 have key:∀n,Ct.Ok P ⟨f,ps,res,LL F n⟩:=by
  intro n
  induction n with
  |zero=>intro x y hxy;cases hxy
  |succ n ih=>exact h _ ih
 intro x y hxy
 obtain ⟨n,hn⟩:=Aj hxy
 exact key n x y hn
end
end Go.AM
end
section
namespace Go.AM
open Go.RowKit Go.ChangeShapes Go.WideShapes
def holes (tys:List Ty):List SP:=tys.map fun t=>.c (.hole t)
def DT : (tys : List Ty) → qo (holes tys) Unit → Prop
 |[],_=>True
 |t::r,x=>Wf t x.1∧DT r x.2
section
variable {P:Program} {H:Type} {enc:TypeId×Value→H} {W:World} {base:Nat}
def pQ (P : Program) (t : TypeId) : Ty → Bool
 | .unit=>false
 | .prod _ _=>match P.underlying t with
  |some (.struct _)=>true
  |some (.array _ _)=>true
  |_=>false
 |_=>match P.underlying t with
  |some (.struct _)=>false
  |some (.array _ _)=>false
  |_=>true
theorem NM {t : TypeId} {ty : Ty} (hok : fP P 8 t ty = true) (KB : pQ P t ty = true) {v : Value} (hv : Value.okWide P W .any base t v) {d : DataW H} {p : List MemPlace}
  (h:DataW.Trod enc P W 0 (fun _=>true) true t v d p):∃y:ty.den,Rel (jv W) (fun _=>none) (tyV ty y) v∧Wf ty y:=by
 obtain ⟨fuel,hf⟩:=h
 obtain ⟨y,hy,wy⟩:=M4 hok hf
 refine ⟨y,?_,wy⟩
 cases ty with
 |unit=>simp [pQ] at KB
 |bool =>
  cases hu:P.underlying t with
  |none=>simp [fP,hu] at hok
  |some u =>
   cases u<;>first|(exfalso;simp [pQ,hu] at KB;done)|(exfalso;simp [fP,hu] at hok;done)|simp [fP,hu] at hok
   ·obtain ⟨b, rfl⟩ := okWide_bool hu hv
    simp only [ag,Value.cells,List.cons.injEq,Value.bool.injEq,and_true] at hy
    subst hy;exact .bool _
 |str =>
  cases hu:P.underlying t with
  |none=>simp [fP,hu] at hok
  |some u =>
   cases u<;>first|(exfalso;simp [pQ,hu] at KB;done)|(exfalso;simp [fP,hu] at hok;done)|simp [fP,hu] at hok
   ·obtain ⟨b, rfl⟩ := okWide_string hu hv
    simp only [ag,Value.cells,List.cons.injEq,Value.string.injEq,and_true] at hy
    subst hy;exact .str _
 |int k =>
  cases hu:P.underlying t with
  |none=>simp [fP,hu] at hok
  |some u =>
   cases u<;>first|(exfalso;simp [pQ,hu] at KB;done)|(exfalso;simp [fP,hu] at hok;done)|simp [fP,hu] at hok
   ·subst hok
    obtain ⟨b,rfl⟩:=okWide_int hu hv
    simp only [ag,Value.cells,List.cons.injEq,Value.int.injEq,true_and,and_true] at hy
    subst hy;exact .int _ _
 |list te =>
  cases hu:P.underlying t with
  |none=>simp [fP,hu] at hok
  |some u =>
   cases u<;>first|(exfalso;simp [pQ,hu] at KB;done)|(exfalso;simp [fP,hu] at hok;done)|simp [fP,hu] at hok
   ·obtain ⟨a, len, cap, rfl⟩ := okWide_slice hu hv
    exact .eO _ _ _ hy
 |cu d g a =>
  cases hu:P.underlying t with
  |none=>simp [fP,hu] at hok
  |some u =>
   cases u<;>first|(exfalso;simp [pQ,hu] at KB;done)|(exfalso;simp [fP,hu] at hok;done)|simp [fP,hu] at hok
 |prod a b =>
  cases hu:P.underlying t with
  |none=>simp [fP,hu] at hok
  |some u =>
   have hcs:∃cs:Array Value,v = .agg cs:=by
    cases u<;>simp [fP,hu] at hok
    ·simp only [Value.okWide,hu] at hv;obtain ⟨cs,h1,_⟩:=hv;exact ⟨cs,h1⟩
    ·obtain ⟨cs,h1,_⟩:=okWide_struct hu hv;exact ⟨cs,h1⟩
   obtain ⟨cs,rfl⟩:=hcs
   have hr:=eW (μ:=fun _=>none) hy
   refine .agg _ cs ?_ (fun i v x hv hx=>hr.2 i v x hv (by simpa [Value.cells] using hx)) ?_
   ·have:=hr.1;simpa [Value.cells] using this
   ·intro x hx;exact ag.one hy x (by simpa [Value.cells] using hx)
theorem uv:∀{ts:List TypeId} {tys:List Ty} {vs:List Value} {ds:List (DataW H)} {p:List MemPlace},ts.length=tys.length→(∀(i:Nat) t ty,ts[i]?=some t→tys[i]?=some ty→fP P 8 t ty=true∧pQ P t ty=true) →
  (∀(j:Nat) t v,ts[j]?=some t→vs[j]?=some v→Value.okWide P W .any base t v)→DataW.TrodAll enc P W 0 (fun _=>true) true ts vs ds p →
  ∃x:qo (holes tys) Unit,aI (jv W) (fun _=>none) (DG (holes tys) x) vs∧DT tys x
 |[],[],vs,ds,p,_,_,_,h=>by
  obtain ⟨rfl,_,_⟩:=trodAll_nil h
  exact ⟨(),.nil,trivial⟩
 |t::ts,ty::tys,vs,ds,p,hl,hok,hv,h=>by
  obtain ⟨v,vs',d,ds',p1,q,rfl,rfl,rfl,h1,h2⟩:=trodAll_cons h
  obtain ⟨k1,k2⟩:=hok 0 t ty rfl rfl
  obtain ⟨y,hy,wy⟩:=NM k1 k2 (hv 0 t v rfl rfl) h1
  obtain ⟨x,hx,wx⟩:=uv (by simpa using hl) (fun i t ty ht C6=>hok (i+1) t ty (by simpa using ht) (by simpa using C6)) (fun j t v ht qd=>hv (j+1) t v (by simpa using ht) (by simpa using qd)) h2
  exact ⟨(y,x),.cons hy hx,wy,wx⟩
 |[],_::_,_,_,_,hl,_,_,_=>by simp at hl
 |_::_,[],_,_,_,hl,_,_,_=>by simp at hl
theorem pR (hl:laidOutB P=true) {W':World} (hb:Below W.heap.size W W'):∀{ts:List TypeId} {vs:List Value} {ds:List (DataW H)} {p:List MemPlace},(∀t∈ts,P.readableRec t=true∧t<P.types.size) →
  DataW.TrodAll enc P W 0 (fun _=>true) true ts vs ds p→(∀x∈p,x.block<W.heap.size)→DataW.TrodAll enc P W' 0 (fun b=>decide (b<W.heap.size)) true ts vs ds p
 |[],vs,ds,p,_,h,_=>by
  obtain ⟨rfl,rfl,rfl⟩:=trodAll_nil h
  exact trodAll_mk0
 |t::ts,vs,ds,p,ht,h,hp=>by
  obtain ⟨v,vs',d,ds',p1,q,rfl,rfl,rfl,h1,h2⟩:=trodAll_cons h
  obtain ⟨k1,k2⟩:=ht t (List.mem_cons_self ..)
  exact trodAll_cons_mk (Below.trod hl k1 k2 h1 hb (fun x hx=>hp x (List.mem_append_left _ hx))) (pR hl hb (fun t ht'=>ht t (List.mem_cons_of_mem _ ht')) h2 (fun x hx=>hp x (List.mem_append_right _ hx)))
end
def qp (P : Program) : List TypeId → List Ty → Bool
 |[],[]=>true
 |t::ts,ty::tys=>fP P 8 t ty&&pQ P t ty&&P.readableRec t&&Nat.blt t P.types.size&&qp P ts tys
 |_,_=>false
theorem xz {P : Program} : ∀ {ts : List TypeId} {tys : List Ty}, qp P ts tys = true → ts.length = tys.length ∧ (∀ (i : Nat) t ty, ts[i]? = some t → tys[i]? = some ty → fP P 8 t ty = true ∧ pQ P t ty = true) ∧ ∀ t ∈ ts, P.readableRec t = true ∧ t < P.types.size
 |[],[],_=>⟨rfl,fun i t ty h=>by simp at h,fun t h=>by simp at h⟩
 |t::ts,ty::tys,h=>by
  simp only [qp,Bool.and_eq_true] at h
  obtain ⟨⟨⟨⟨h1,h2⟩,h3⟩,h4⟩,h5⟩:=h
  obtain ⟨k1,k2,k3⟩:=xz h5
  refine ⟨by simp [k1],fun i t' ty' ht C6=>?_,fun t' ht=>?_⟩
  ·cases i with
   |zero=>simp at ht C6;subst ht;subst C6;exact ⟨h1,h2⟩
   |succ i=>exact k2 i t' ty' (by simpa using ht) (by simpa using C6)
  ·rcases List.mem_cons.1 ht with rfl | ht
   ·exact ⟨h3,by simpa [Nat.blt,Nat.succ_le_iff] using h4⟩
   ·exact k3 t' ht
 |[],_::_,h=>by simp [qp] at h
 |_::_,[],h=>by simp [qp] at h
theorem yZ {P : Program} {H : Type} {enc : TypeId × Value → H} {f : FuncId} {fn : Func} {s : ChangeSpec} (tys : List Ty) (laid : laidOutB P = true) (hvars : s.vars = []) (X8 : qp P fn.params.toList tys = true)
  {tb:TypeId} (hres:fn.resultTypes=#[tb]) (htb:P.underlying tb=some .bool)
  (hs:∀ds:List (DataW H),ds.length=tys.length→(s.fn H ds).results=[.lit (.bool true)]∧(s.fn H ds).args=ds∧(s.fn H ds).vars=[])
  {F:qo (holes tys) Unit→Option (Bool×Unit)} (hct:Ct.Ok P ⟨f,holes tys,.c (.hole .bool),F⟩) (hF:∀x,DT tys x→F x=some (true,()))
  {W:World} {base:Nat} {args:Array Value} {ds gs:List (DataW H)} {before:List MemPlace} (hgl:je P (jv W)) (hval:∀(j:Nat) t v,fn.params[j]?=some t→args[j]?=some v→Value.okWide P W .any base t v)
  (hW:DataW.Whole enc P fn.params.toList s.vars false W args.toList ds gs before) :
  Calls P f args W fun e W'=>∃v,e = .returned v∧s.post enc P fn false true false false W args v W':=by
 have hW':=hW
 obtain ⟨p,q,hA,hV,rfl,hfz,hnd⟩:=hW
 rw [hvars] at hV
 obtain ⟨rfl,rfl⟩:=trodVars_none hV
 obtain ⟨k1,k2,k3⟩:=xz X8
 obtain ⟨x,hx,wx⟩:=uv (base:=base) k1 k2 (fun j t v ht hv=>hval j t v (by simpa using ht) (by simpa using hv)) hA
 have hlen:ds.length=tys.length:=by
  rw [←k1]
  have:∀{ts:List TypeId} {vs:List Value} {ds:List (DataW H)} {p:List MemPlace},DataW.TrodAll enc P W 0 (fun _=>true) true ts vs ds p→ds.length=ts.length:=by
   intro ts
   induction ts with
   |nil=>intro vs ds p h;obtain ⟨rfl,rfl,rfl⟩:=trodAll_nil h;rfl
   |cons t ts ih=>intro vs ds p h;obtain ⟨v,vs',d,ds',p1,q,rfl,rfl,rfl,h1,h2⟩:=trodAll_cons h;simp [ih h2]
  exact this hA
 simp only [List.append_nil] at hW'
 have gR:=(hct x (true,()) (hF x wx)).2 (jv W) W args hgl (fun b o x h=>h) hx
 refine (callsIn_wide.1 gR).mono ?_
 rintro e W' ⟨v,ι',rfl,_,_,_,jE,hr⟩
 have hv:v = .bool true:=by
  have hr':Rel ι' (fun _=>none) (.bool true) v:=hr
  cases hr';rfl
 subst hv
 have hlt:∀x∈p,x.block<W.heap.size:=fun x hx=>hW'.lt x hx
 obtain ⟨s1,s2,s3⟩:=hs (ds++[]) (by simpa using hlen)
 simp only [List.append_nil] at s1 s2 s3
 refine ⟨_,rfl,ds,[],p,[],p,[],hW',?_,?_,?_,jE.b.frame _,fun h=>by cases h⟩
 ·simp only [List.append_nil]
  rw [s1,hres]
  exact trodAll_cons_mk (p:=[]) (p':=[]) (shut_bool htb _) trodAll_mk0
 ·simp only [List.append_nil]
  rw [s2]
  exact pR laid jE.b k3 hA hlt
 ·simp only [List.append_nil]
  rw [s3,hvars]
  rfl
theorem BK {P : Program} {H : Type} {enc : TypeId × Value → H} {f : FuncId} {fn : Func} {s : ChangeSpec} (tys : List Ty) (laid : laidOutB P = true) (hvars : s.vars = []) (X8 : qp P fn.params.toList tys = true)
  {tb:TypeId} (hres:fn.resultTypes=#[tb]) (htb:P.underlying tb=some .bool)
  (hs:∀ds:List (DataW H),ds.length=tys.length→(s.fn H ds).results=[.lit (.bool true)]∧(s.fn H ds).args=ds∧(s.fn H ds).vars=[])
  {F:qo (holes tys) Unit→Option (Bool×Unit)} (hct:Ct.Ok P ⟨f,holes tys,.c (.hole .bool),F⟩) (hF:∀x,DT tys x→F x=some (true,()))
  {W:World} {base:Nat} {args:Array Value} {ds gs:List (DataW H)} {before:List MemPlace} (hno:(List.range P.globals.size).all (fun g=>(oL P g).isNone)=true) (hval:∀(j:Nat) t v,fn.params[j]?=some t→args[j]?=some v→Value.okWide P W .any base t v)
  (hW:DataW.Whole enc P fn.params.toList s.vars false W args.toList ds gs before) :
  Calls P f args W fun e W'=>∃v,e = .returned v∧s.post enc P fn false true false false W args v W' :=
 yZ tys laid hvars X8 hres htb hs hct hF (je.none hno _) hval hW
end Go.AM
end
section
namespace Go.AM
theorem aH {z:Int} (h1 : -9223372036854775808≤z) (h2:z≤9223372036854775807):de .i64 z=true:=by
 have e1:IntKind.i64.min = -9223372036854775808:=by decide
 have e2:IntKind.i64.max=9223372036854775807:=by decide
 simp only [de,e1,e2,Bool.and_eq_true,decide_eq_true_eq]
 exact ⟨h1,h2⟩
theorem aR {i n:Int} (h:0≤i) (h2:i<n):bZ i n=true:=by simp [bZ,h,h2]
theorem rK {X:Type} {z:Int} {x:Option X} (h1 : -9223372036854775808≤z) (h2:z≤9223372036854775807):need (de .i64 z) x=x:=iG (aH h1 h2)
theorem DU {X:Type} {i n:Int} {x:Option X} (h:0≤i) (h2:i<n):need (bZ i n) x=x:=iG (aR h h2)
theorem b7 {X:Type} {p:Prop} [Decidable p] {x:Option X} (h:p):need (decide p) x=x:=iG (decide_eq_true h)
theorem NN {X:Type} {c:Bool} {x y:Option X} (h:c=true):kU c x y=x:=by rw [h,bM]
theorem Gk {X:Type} {c:Bool} {x y:Option X} (h:c=false):kU c x y=y:=by rw [h,aY]
theorem aM {X:Type} {p:Prop} [Decidable p] {x y:Option X}:kU (decide p) x y=if p then x else y:=by
 by_cases h:p<;>simp [h]
theorem bh {X:Type} {a b:Int} {x y:Option X}:kU (a==b) x y=if a=b then x else y:=by
 by_cases h:a=b
 ·simp [h]
 ·have : (a == b) = false := by simpa using h
  rw [this,aY,if_neg h]
theorem bA {X:Type} {c:Bool} {x y:Option X}:kU (!c) x y=kU c y x:=by cases c<;>simp
theorem ai {A X:Type} {o:Option A} {a:A} {f:A→Option X} (h:o=some a):cq o f=f a:=by rw [h,aF]
end Go.AM
end
section
namespace Go.AM
structure Le {X:Type} (a b:Option X):Prop where
 h:∀y,a=some y→b=some y
def VG {X:Type} (c:Bool) (x:Option X):Option X:=match c with
 |true=>x
 |false=>none
def acf {A X:Type} (o:Option A) (f:A→Option X):Option X:=match o with
 |some a=>f a
 |none=>none
def brC {X:Type} (c:Bool) (x y:Option X):Option X:=match c with
 |true=>x
 |false=>y
theorem Le.r {X:Type} {a:Option X}:Le a a:=⟨fun _ h=>h⟩
theorem Le.n {X:Type} {a:Option X}:Le none a:=⟨fun _ h=>by cases h⟩
theorem Le.nd {X:Type} {c:Bool} {a b:Option X} (h:Le a b):Le (VG c a) (need c b):=by
 cases c
 ·exact Le.n
 ·simpa [VG] using h
theorem Le.br {X:Type} {c:Bool} {a b a' b':Option X} (h:Le a a') (h':Le b b'):Le (brC c a b) (kU c a' b'):=by
 cases c
 ·simpa [brC] using h'
 ·simpa [brC] using h
theorem Le.bd {A X:Type} {o o':Option A} {f f':A→Option X} (h:Le o o') (hf:∀y,Le (f y) (f' y)):Le (acf o f) (cq o' f'):=⟨fun y hy=>by
 cases o with
 |none=>cases hy
 |some a=>rw [h.h a rfl,aF];exact (hf a).h y hy⟩
theorem Le.iter {α β:Type} {g g':α→Option (α ⊕ β)} {n:Nat} {x:α} (h:∀x,Le (g x) (g' x)):Le (jw g n x) (AM.iter g' x):=⟨fun y hy=>by
 refine Bq (n:=n) ?_
 induction n generalizing x with
 |zero=>cases hy
 |succ n ih =>
  simp only [jw] at hy ⊢
  cases hg:g x with
  |none=>rw [hg] at hy;cases hy
  |some r =>
   rw [hg] at hy
   rw [(h x).h r hg]
   cases r with
   |inl z=>exact ih hy
   |inr b=>exact hy⟩
theorem Le.LL {A B:Type} {F F':(A→Option B)→A→Option B} (h:∀r r',(∀x,Le (r x) (r' x))→∀x,Le (F r x) (F' r' x)):∀n m,n≤m→∀x,Le (AM.LL F n x) (AM.LL F' m x):=by
 intro n
 induction n with
 |zero=>intro m _ x;exact Le.n
 |succ n ih =>
  intro m hm x
  cases m with
  |zero=>omega
  |succ m=>exact h _ _ (ih m (by omega)) x
theorem Le.done {X:Type} {a b:Option X} {y:X} (h:Le a b) (e:a=some y):b=some y:=h.h y e
end Go.AM
end
section
namespace Go.AM
@[reducible] def LM {A B:Type} {Y:Type _} (f:A→Y) (g:B→Y) (z:A ⊕ B):Y:=match z with
 | .inl a=>f a
 | .inr b=>g b
inductive Tr:Type→Type→Type→Type 1 where
 |ret {A0 B0 X:Type} (x:X):Tr A0 B0 X
 |no {A0 B0 X:Type}:Tr A0 B0 X
 |br {A0 B0 X:Type} (c:Bool) (a b:Tr A0 B0 X):Tr A0 B0 X
 |am {A0 B0 X:Type} (d:DecidableEq X) (a b:Tr A0 B0 X):Tr A0 B0 X
 |nd {A0 B0 X:Type} (c:Bool) (a:Tr A0 B0 X):Tr A0 B0 X
 |bd {A0 B0 A X:Type} (o:Tr A0 B0 A) (k:A→Tr A0 B0 X):Tr A0 B0 X
 |jx {A0 B0 A X:Type} (o:Tr A0 B0 (A ⊕ X)) (k:A→Tr A0 B0 X):Tr A0 B0 X
 |sm {A0 B0 A B X:Type} (z:A ⊕ B) (f:A→Tr A0 B0 X) (g:B→Tr A0 B0 X):Tr A0 B0 X
 |it {A0 B0 A B:Type} (step:A→Tr A0 B0 (A ⊕ B)) (x:A):Tr A0 B0 B
 |rc {A0 B0:Type} (x:A0):Tr A0 B0 B0
 |fx {A0 B0 A1 B1:Type} (body:A1→Tr A1 B1 B1) (x:A1):Tr A0 B0 B1
 |up {A0 B0 X:Type} (t:Tr Unit Unit X):Tr A0 B0 X
 |of {A0 B0 X:Type} (o:Option X):Tr A0 B0 X
 |mp {A0 B0 E A B:Type} (step:E→A→Tr A0 B0 (A ⊕ B)) (es:List E) (x:A):Tr A0 B0 (A ⊕ B)
 |mq {A0 B0 E A:Type} (step:E→A→Tr A0 B0 A) (es:List E) (x:A):Tr A0 B0 A
 |an {A0 B0 E X:Type} (es:List E) (k:List E→Tr A0 B0 X):Tr A0 B0 X
 |fm {A0 B0 E A:Type} (step:E→A→Tr A0 B0 A) (l:List E) (x:A):Tr A0 B0 A
abbrev bJ (X:Type):=Tr Unit Unit X
noncomputable def run : {A0 B0 X : Type} → (A0 → Option B0) → Tr A0 B0 X → Option X
 |_,_,_,_,.ret x=>some x
 |_,_,_,_,.no=>none
 |_,_,_,r,.br c a b=>kU c (run r a) (run r b)
 |_,_,_,r,.am _ a b=>DA (run r a) (run r b)
 |_,_,_,r,.nd c a=>need c (run r a)
 |_,_,_,r,.bd o k=>cq (run r o) fun a=>run r (k a)
 |_,_,_,r,.jx o k=>cq (run r o) (LM (fun a=>run r (k a)) some)
 |_,_,_,r,.sm z f g=>match z with
  | .inl x=>run r (f x)
  | .inr y=>run r (g y)
 |_,_,_,r,.it step x=>iter (fun a=>run r (step a)) x
 |_,_,_,r,.rc x=>r x
 |_,_,_,_,.fx body x=>tw (fun r y=>run r (body y)) x
 |_,_,_,_,.up t=>run (fun _=>none) t
 |_,_,_,_,.of o=>o
 |_,_,_,r,.mp step es x=>iE (fun l=>yT (fun e a=>run r (step e a)) l x) es
 |_,_,_,r,.mq step es x=>iE (fun l=>zU (fun e a=>run r (step e a)) l x) es
 |_,_,_,r,.an es k=>iE (fun l=>run r (k l)) es
 |_,_,_,r,.fm step l x=>zU (fun e a=>run r (step e a)) l x
noncomputable abbrev ah {X:Type} (t:bJ X):Option X:=run (fun _=>none) t
section
variable {A0 B0 A1 B1 A B X:Type} {r:A0→Option B0}
theorem aa {x:X}:run r (.ret x)=some x:=rfl
theorem ak {c:Bool} {a b:Tr A0 B0 X}:run r (.br c a b)=kU c (run r a) (run r b):=rfl
theorem X9 {d:DecidableEq X} {a b:Tr A0 B0 X}:run r (.am d a b)=DA (run r a) (run r b):=rfl
theorem aS {c:Bool} {a:Tr A0 B0 X}:run r (.nd c a)=need c (run r a):=rfl
theorem aA {o:Tr A0 B0 A} {k:A→Tr A0 B0 X}:run r (.bd o k)=cq (run r o) fun a=>run r (k a):=rfl
theorem Gl {o:Tr A0 B0 (A ⊕ X)} {k:A→Tr A0 B0 X}:run r (.jx o k)=cq (run r o) (LM (fun a=>run r (k a)) some):=rfl
theorem lJ {x:A} {f:A→Tr A0 B0 X} {g:B→Tr A0 B0 X}:run r (.sm (.inl x) f g)=run r (f x):=rfl
theorem kn {y:B} {f:A→Tr A0 B0 X} {g:B→Tr A0 B0 X}:run r (.sm (.inr y) f g)=run r (g y):=rfl
theorem bB {step:A→Tr A0 B0 (A ⊕ B)} {x:A}:run r (.it step x)=iter (fun a=>run r (step a)) x:=rfl
theorem Yc {x:A0}:run r (.rc x)=r x:=rfl
theorem xA {o:Option X}:run r (.of o)=o:=rfl
theorem Yd {E:Type} {step:E→A→Tr A0 B0 (A ⊕ B)} {es:List E} {x:A}:run r (.mp step es x)=iE (fun l=>yT (fun e a=>run r (step e a)) l x) es:=rfl
theorem BL {E:Type} {es:List E} {k:List E→Tr A0 B0 X}:run r (.an es k)=iE (fun l=>run r (k l)) es:=rfl
theorem BM {E:Type} {step:E→A→Tr A0 B0 A} {l:List E} {x:A}:run r (.fm step l x)=zU (fun e a=>run r (step e a)) l x:=rfl
theorem Gm {E:Type} {step:E→A→Tr A0 B0 A} {es:List E} {x:A}:run r (.mq step es x)=iE (fun l=>zU (fun e a=>run r (step e a)) l x) es:=rfl
end
def ambC {X:Type} (d:DecidableEq X) (x y:Option X):Option X:=match x,y with
 |some a,some b=>match d a b with
  | .isTrue _=>some a
  | .isFalse _=>none
 |_,_=>none
theorem Le.am {X:Type} {d:DecidableEq X} {a b a' b':Option X} (h:Le a a') (h':Le b b'):Le (ambC d a b) (DA a' b'):=⟨fun y hy=>by
 cases a with
 |none=>cases hy
 |some u=>cases b with
  |none=>cases hy
  |some v =>
   simp only [ambC] at hy
   split at hy
   ·rename_i e _; cases hy; subst e
    rw [h.h _ rfl,h'.h _ rfl,zW]
   ·cases hy⟩
@[reducible] def Tr.ni {A0 B0 X:Type} (z:Int) (a:Tr A0 B0 X):Tr A0 B0 X:=.nd (de .i64 z) a
@[reducible] def Tr.nb {A0 B0 X:Type} (i n:Int) (a:Tr A0 B0 X):Tr A0 B0 X:=.nd (bZ i n) a
theorem aJ {A0 B0 X:Type} {r:A0→Option B0} {z:Int} {a:Tr A0 B0 X}:run r (.ni z a)=need (de .i64 z) (run r a):=rfl
theorem aN {A0 B0 X:Type} {r:A0→Option B0} {i n:Int} {a:Tr A0 B0 X}:run r (.nb i n a)=need (bZ i n) (run r a):=rfl
def flatK : {A0 B0 A X : Type} → Tr A0 B0 A → (A → Tr A0 B0 X) → Tr A0 B0 X
 |_,_,_,_,.ret x,k=>k x
 |_,_,_,_,.no,_=>.no
 |_,_,_,_,.br c a b,k=>.br c (flatK a k) (flatK b k)
 |_,_,_,_,.am d a b,k=>.bd (.am d a b) k
 |_,_,_,_,.nd c a,k=>.nd c (flatK a k)
 |_,_,_,_,.bd o f,k=>.bd o fun a=>flatK (f a) k
 |_,_,_,_,.jx o f,k=>flatK o (LM (fun a=>flatK (f a) k) k)
 |_,_,_,_,.sm z f g,k=>.sm z (fun x=>flatK (f x) k) (fun y=>flatK (g y) k)
 |_,_,_,_,.it step x,k=>.bd (.it step x) k
 |_,_,_,_,.rc x,k=>.bd (.rc x) k
 |_,_,_,_,.fx b x,k=>.bd (.fx b x) k
 |_,_,_,_,.up t,k=>.bd (.up t) k
 |_,_,_,_,.of o,k=>.bd (.of o) k
 |_,_,_,_,.mp s es x,k=>.bd (.mp s es x) k
 |_,_,_,_,.mq s es x,k=>.bd (.mq s es x) k
 |_,_,_,_,.an es f,k=>.bd (.an es f) k
 |_,_,_,_,.fm s l x,k=>.bd (.fm s l x) k
def flat {A0 B0 X:Type} (t:Tr A0 B0 X):Tr A0 B0 X:=flatK t .ret
theorem R8 {A X:Type} {c:Bool} {a b:Option A} {f:A→Option X}:cq (kU c a b) f=kU c (cq a f) (cq b f):=by cases c<;>simp
theorem IE {X:Type} {x:Option X}:need false x=none:=by
 cases h:need false x with
 |none=>rfl
 |some y=>have:=(cQ h).1;cases this
theorem R9 {A X:Type} {c:Bool} {a:Option A} {f:A→Option X}:cq (need c a) f=need c (cq a f):=by
 cases c
 ·rw [IE,IE,oR]
 ·rw [iG rfl,iG rfl]
theorem IF {A B X:Type} {o:Option A} {f:A→Option B} {g:B→Option X}:cq (cq o f) g=cq o fun a=>cq (f a) g:=by
 cases o with
 |none=>rw [oR,oR,oR]
 |some a=>rw [aF,aF]
theorem Gn {A:Type} {o:Option A}:cq o (fun a=>some a)=o:=by
 cases o with
 |none=>rw [oR]
 |some a=>rw [aF]
theorem fq : {A0 B0 A X : Type} → (r : A0 → Option B0) → (t : Tr A0 B0 A) → (k : A → Tr A0 B0 X) → run r (flatK t k) = cq (run r t) fun a => run r (k a)
 |_,_,_,_,r,.ret x,k=>by simp only [flatK,run,aF]
 |_,_,_,_,r,.no,k=>by simp only [flatK,run,oR]
 |_,_,_,_,r,.br c a b,k=>by simp only [flatK,run,R8,fq r a k,fq r b k]
 |_,_,_,_,r,.am d a b,k=>by simp only [flatK,run]
 |_,_,_,_,r,.nd c a,k=>by simp only [flatK,run,R9,fq r a k]
 |_,_,_,_,r,.bd o f,k=>by simp only [flatK,run,IF,fq r (f _) k]
 |_,_,_,_,r,.jx o f,k=>by
  simp only [flatK,run,IF,fq r o _]
  congr 1
  funext z
  cases z with
  |inl a=>simp only [fq r (f a) k]
  |inr x=>simp only [aF]
 |_,_,_,_,r,.sm z f g,k=>by
  cases z with
  |inl x=>simp only [flatK,run,fq r (f x) k]
  |inr y=>simp only [flatK,run,fq r (g y) k]
 |_,_,_,_,r,.it step x,k=>by simp only [flatK,run]
 |_,_,_,_,r,.rc x,k=>by simp only [flatK,run]
 |_,_,_,_,r,.fx b x,k=>by simp only [flatK,run]
 |_,_,_,_,r,.up t,k=>by simp only [flatK,run]
 |_,_,_,_,r,.of o,k=>by simp only [flatK,run]
 |_,_,_,_,r,.mp s es x,k=>by simp only [flatK,run]
 |_,_,_,_,r,.mq s es x,k=>by simp only [flatK,run]
 |_,_,_,_,r,.an es f,k=>by simp only [flatK,run]
 |_,_,_,_,r,.fm s l x,k=>by simp only [flatK,run]
theorem xB {A0 B0 X:Type} {r:A0→Option B0} {t:Tr A0 B0 X}:run r (flat t)=run r t:=by
 unfold flat
 rw [fq]
 simp only [run]
 exact Gn
end Go.AM
end
section
namespace Go.AM
inductive LR (P:Program) (N:Nat) (out:Option Nat) (base:Nat):Type 1 where
 |l (x:bD P N out base)
 |r (x:gr P N out base)
 |m (x:rz P N out base)
 |x
def nl : C → Nat
 | .seq a b=>nl a+nl b
 | .cond _ a b=>nl a+nl b
 | .block _ a=>nl a
 | .loop _=>1
 | .bH _ _ _ _=>1
 | .gK _ _ _ _ _ _ _ _ _ _ _=>1
 |_=>0
section
variable {P:Program} {N:Nat} {out:Option Nat} {base:Nat}
def Sa : List (LR P N out base) → Nat → LR P N out base
 |[],_=>.x
 |y::_,0=>y
 |_::r,n+1=>Sa r n
def dO (ls : List (LR P N out base)) : C → Nat → D P N out base
 | .skip,_=>.skip
 | .aV is,_=>.aV is
 | .draw ps is,_=>.draw ps is
 | .seq a b,i=>.seq (dO ls a i) (dO ls b (i+nl a))
 | .cond c a b,i=>.cond c (dO ls a i) (dO ls b (i+nl a))
 | .block n a,i=>.block n (dO ls a i)
 | .loop c,i=>match Sa ls i with
  | .l l=>.loop l
  |_=>.loop (NI c)
 | .exit n,_=>.exit n
 | .ret,_=>.ret
 | .bH f ps a b,i=>match Sa ls i with
  | .r l=>.bH l
  |_=>.bH (Ky f ps a b)
 | .gK p m t cl e kt kg vt vg d b,i=>match Sa ls i with
  | .m l=>.gK l
  |_=>.gK (R3 p m t cl e kt kg vt vg d b)
end
def tA (b : Bool) : C → Nat → C
 | .seq x y,k=>match Nat.blt k (nl x) with
  |true=>tA b x k
  |false=>tA b y (k - nl x)
 | .cond _ x y,k=>match Nat.blt k (nl x) with
  |true=>tA b x k
  |false=>tA b y (k - nl x)
 | .block _ x,k=>tA b x k
 | .loop c,_=>c
 | .bH _ _ x y,_=>match b with
  |true=>y
  |false=>x
 | .gK _ _ _ _ _ _ _ _ _ _ x,_=>x
 |c,_=>c
def pick : C → List (Nat × Bool) → C
 |c,[]=>c
 |c,(k,b)::r=>pick (tA b c k) r
def kd (P:Program) (f:Func):C:=match cw P f with
 |some t=>t.body
 |none=>.skip
@[reducible] def hI:SP:=.c (.hole (.int .i64))
@[reducible] def hL:SP:=.c (.hole (.list (.int .i64)))
@[reducible] def hLL:SP:=.c (.hole (.list (.list (.int .i64))))
@[reducible] def tI:Ty:=.int .i64
@[reducible] def tL:Ty:=.list (.int .i64)
end Go.AM
end
section
namespace Go.AM
section
variable {P:Program} {N:Nat} {out:Option Nat} {base:Nat}
end
section
variable {P:Program} {N:Nat} {out:Option Nat} {base:Nat}
theorem get_none : ∀ {env : Env} {t : Nat}, t ∉ env.map (·.1) → get t env = .any
 |[],_,_=>rfl
 |(s,v)::r,t,h=>by
  simp only [List.map_cons,List.mem_cons,not_or] at h
  rw [bW,if_neg (fun e=>h.1 e.symm)]
  exact get_none h.2
noncomputable def Gp {R : Type} (kz : Kz R) (cx : Cx) (oq : List Nat) (p : ax) (xs : aT) (mn it : Nat) (cl : List Nat) (e : Option Nat) (kt : Ty) (kg : Bool) (vt : Ty) (vg : Bool) {cZ : Nat} (body : D P N out cZ) (inl : p.T → R) (inr : xs.T → R)
  (k5:kt.den×vt.den) (x:p.T):R :=
 fN (base+p.gL.length) fun aC=>p.go aC x fun env _ bl ms=>match get mn env with
  | .mp id=>match jq bl kt kg vt vg id with
   |some es=>Kv (RH e kt kg vt vg k5 ((it,.ptr aC 0)::env)) fun env=>fN (aC+1) fun nx=>kE kz cx dN body env nx bl ms fun ex env nx bl ms=>match ex with
    | .normal=>match get it env with
     | .ptr i o=>match an (Nat.beq i aC) (Nat.beq o 0) with
      |true=>match get mn env with
       | .mp id'=>match Nat.beq id' id with
        |true=>match jq bl kt kg vt vg id with
         |some es'=>kz.nd (jy es' es) (p.rd kz.no oq base (ee (it::cl) env) nx bl ms inl)
         |none=>kz.no
        |false=>kz.no
       |_=>kz.no
      |false=>kz.no
     |_=>kz.no
    | .exit i=>xs.rd kz.no oq base (.exit i) env nx bl ms inr
    | .ret=>xs.rd kz.no oq base .ret env nx bl ms inr
   |none=>kz.no
  |_=>kz.no
def Gq {R:Type} (kz:Kz R) (cx:Cx) (oq:List Nat) (p:ax) (pre:List eR) (mn it:Nat) (cl:List Nat) (kt:Ty) (kg:Bool) (vt:Ty) (vg:Bool) (env:Env) (nx:Nat) (bl:aq) (ms:List Nat) (k:List (kt.den×vt.den)→p.T→R):R :=
 kI kz cx dN pre env nx bl fun env nx bl=>match get mn env with
  | .mp id=>match jq bl kt kg vt vg id with
   |some es=>p.rd kz.no oq base (ee (it::cl) env) nx bl ms fun x=>k es x
   |none=>kz.no
  |_=>kz.no
theorem NO (mixed : P.follows .mixedOrders = true) {cx : Cx} (gu : cx.Ok P) {p : ax} {xs : aT} (hxs : xs.all (fun p => !Gj p.1 .normal) = true) {pre : List eR} {mn it : Nat} {cl : List Nat} {e : Option Nat} {kt vt : Ty} {kg vg : Bool} {pH : Nat}
  (yI:p.env.all (fun q => !(it::cl).contains q.1)=true) {cZ:Nat} (eC:cZ=base+p.gL.length+1) {body:D P N out cZ} {step:kt.den×vt.den→p.T→Option (p.T ⊕ xs.T)}
  (hstep:∀k5 x,Gp (base:=base) (iu (p.T ⊕ xs.T)) cx (List.range base) p xs mn it cl e kt kg vt vg body (fun y=>some (.inl y)) (fun b=>some (.inr b)) k5 x=step k5 x) {X:Type} {env:Env} {nx:Nat} {bl:aq} {ms:List Nat} {r:X} {Q:Ex→St→Prop}
  {k:List (kt.den×vt.den)→p.T→Option X} (h:Gq (base:=base) (iu X) cx (List.range base) p pre mn it cl kt kg vt vg env nx bl ms k=some r)
  (hk:∀es x,k es x=some r→∃res,(∀l:List (kt.den×vt.den),l.Perm es→yT step l x=some res)∧(match res with | .inl y=>Q .normal (p.st base y) | .inr b=>Q (Dy pH (xs.st base b).1) (xs.st base b).2)) :
  (gn P N out base).gK (.gK pre (.t mn) it cl e kt kg vt vg pH body.er) ⟨env,⟨nx,bl⟩,ms⟩ Q:=by
 subst eC
 refine Dz (fun b=>iD mixed) (I:=p.st base) (X:=xs.st base) (step:=step) (aC:=base+p.gL.length) (fun x s hs=>?_) (fun x=>rfl) (fun k5 x r hx=>?_) ?_
 ·refine get_none (env := p.E x) fun hm => ?_
  rw [ax.vr] at hm
  obtain ⟨q,hq,rfl⟩:=List.mem_map.1 hm
  have:=List.all_eq_true.1 yI q hq
  simp only [Bool.not_eq_true',←Bool.not_eq_true] at this
  exact this (by simpa using hs)
 ·rw [← hstep k5 x] at hx
  unfold Gp at hx
  rw [fQ,ax.go_eq] at hx
  split at hx<;>try (cases hx;done)
  rename_i id hid
  split at hx<;>try (cases hx;done)
  rename_i es Cz
  rw [rG,fQ] at hx
  refine ⟨id,es,hid,Cz,k7 gu hx fun ex env nx bl ms hk=>?_⟩
  cases ex with
  |normal =>
   simp only at hk
   split at hk<;>try (cases hk;done)
   rename_i i o hit
   split at hk<;>try (cases hk;done)
   rename_i vX
   rw [aQ] at vX
   have e1:=Nat.eq_of_beq_eq_true vX.1
   have e2:=Nat.eq_of_beq_eq_true vX.2
   subst e1;subst e2
   split at hk<;>try (cases hk;done)
   rename_i id' Ye
   split at hk<;>try (cases hk;done)
   rename_i hbe
   have e3:=Nat.eq_of_beq_eq_true hbe
   subst e3
   split at hk<;>try (cases hk;done)
   rename_i es' Km
   have hk2:=(cQ hk).2
   have e4:=Dv (cQ hk).1
   clear hk
   subst e4
   obtain ⟨y,π,h1,h2⟩:=ax.dH hk2
   cases h1
   exact ⟨rfl,hit,Ye,Km,π,h2⟩
  |exit i =>
   obtain ⟨y,π,q1,q2,q3⟩:=aT.dH hk
   cases q1
   exact ⟨by simp,q2,π,q3⟩
  |ret =>
   obtain ⟨y,π,q1,q2,q3⟩:=aT.dH hk
   cases q1
   exact ⟨by simp,q2,π,q3⟩
 ·unfold Gq at h
  refine od gu h fun env nx bl h=>?_
  split at h<;>try (cases h;done)
  rename_i id hid
  split at h<;>try (cases h;done)
  rename_i es Cz
  obtain ⟨x,π,h1,h2⟩:=ax.dH h
  obtain ⟨res,h3,h4⟩:=hk es x h1
  exact ⟨id,es,x,π,hid,Cz,h2,fun l hl=>⟨res,h3 l hl,by cases res<;>exact h4⟩⟩
def noB {R:Type}:Empty→R:=fun b=>nomatch b
theorem VH {E α : Type} {step : E → α → Option α} : ∀ {l : List E} {x y : α}, zU step l x = some y → yT (fun e x => (step e x).map (Sum.inl (β := Empty))) l x = some (.inl y)
 |[],x,y,h=>by cases h;rfl
 |e::r,x,y,h=>by
  simp only [zU] at h
  split at h<;>try (cases h;done)
  rename_i z hz
  simp only [yT,hz,Option.map_some]
  exact VH h
theorem Ak (mixed : P.follows .mixedOrders = true) {cx : Cx} (gu : cx.Ok P) {p : ax} {pre : List eR} {mn it : Nat} {cl : List Nat} {e : Option Nat} {kt vt : Ty} {kg vg : Bool} {pH : Nat}
  (yI:p.env.all (fun q => !(it::cl).contains q.1)=true) {cZ:Nat} (eC:cZ=base+p.gL.length+1) {body:D P N out cZ} {step:kt.den×vt.den→p.T→Option p.T}
  (hstep:∀k5 x,Gp (base:=base) (iu p.T) cx (List.range base) p [] mn it cl e kt kg vt vg body (fun y=>some y) noB k5 x=step k5 x) {X:Type} {env:Env} {nx:Nat} {bl:aq} {ms:List Nat} {r:X} {Q:Ex→St→Prop}
  {k:List (kt.den×vt.den)→p.T→Option X} (h:Gq (base:=base) (iu X) cx (List.range base) p pre mn it cl kt kg vt vg env nx bl ms k=some r)
  (hk:∀es x,k es x=some r→∀l:List (kt.den×vt.den),l.Perm es→∃y,zU step l x=some y∧Q .normal (p.st base y)) :
  (gn P N out base).gK (.gK pre (.t mn) it cl e kt kg vt vg pH body.er) ⟨env,⟨nx,bl⟩,ms⟩ Q:=by
 subst eC
 refine Dz (fun b=>iD mixed) (I:=p.st base) (X:=fun b:Empty=>nomatch b) (step:=fun e x=>(step e x).map (Sum.inl (β:=Empty))) (aC:=base+p.gL.length) (fun x s hs=>?_) (fun x=>rfl) (fun k5 x r hx=>?_) ?_
 ·refine get_none (env := p.E x) fun hm => ?_
  rw [ax.vr] at hm
  obtain ⟨q,hq,rfl⟩:=List.mem_map.1 hm
  have:=List.all_eq_true.1 yI q hq
  simp only [Bool.not_eq_true',←Bool.not_eq_true] at this
  exact this (by simpa using hs)
 ·obtain ⟨y0, hx0, rfl⟩ := Option.map_eq_some_iff.1 hx
  clear hx
  rename _=>hx
  rw [←hstep k5 x] at hx
  unfold Gp at hx
  rw [fQ,ax.go_eq] at hx
  split at hx<;>try (cases hx;done)
  rename_i id hid
  split at hx<;>try (cases hx;done)
  rename_i es Cz
  rw [rG,fQ] at hx
  refine ⟨id,es,hid,Cz,k7 gu hx fun ex env nx bl ms hk=>?_⟩
  cases ex with
  |normal =>
   simp only at hk
   split at hk<;>try (cases hk;done)
   rename_i i o hit
   split at hk<;>try (cases hk;done)
   rename_i vX
   rw [aQ] at vX
   have e1:=Nat.eq_of_beq_eq_true vX.1
   have e2:=Nat.eq_of_beq_eq_true vX.2
   subst e1;subst e2
   split at hk<;>try (cases hk;done)
   rename_i id' Ye
   split at hk<;>try (cases hk;done)
   rename_i hbe
   have e3:=Nat.eq_of_beq_eq_true hbe
   subst e3
   split at hk<;>try (cases hk;done)
   rename_i es' Km
   have hk2:=(cQ hk).2
   have e4:=Dv (cQ hk).1
   clear hk
   subst e4
   obtain ⟨y,π,h1,h2⟩:=ax.dH hk2
   cases h1
   exact ⟨rfl,hit,Ye,Km,π,h2⟩
  |exit i=>cases hk
  |ret=>cases hk
 ·unfold Gq at h
  refine od gu h fun env nx bl h=>?_
  split at h<;>try (cases h;done)
  rename_i id hid
  split at h<;>try (cases h;done)
  rename_i es Cz
  obtain ⟨x,π,h1,h2⟩:=ax.dH h
  exact ⟨id,es,x,π,hid,Cz,h2,fun l hl=>by
   obtain ⟨y,h3,h4⟩:=hk es x h1 l hl
   exact ⟨.inl y,VH h3,h4⟩⟩
noncomputable def Yf (mixed : P.follows .mixedOrders = true) (cx : Cx) (gu : cx.Ok P) (oq : List Nat) (DV : oq = List.range base) (p : ax) (xs : aT) (hxs : xs.all (fun p => !Gj p.1 .normal) = true) (pre : List eR) (mn it : Nat) (cl : List Nat)
  (e:Option Nat) (kt:Ty) (kg:Bool) (vt:Ty) (vg:Bool) (pH:Nat) (yI:p.env.all (fun q => !(it::cl).contains q.1)=true) (cZ:Nat) (eC:cZ=base+p.gL.length+1) (body:D P N out cZ) (step:kt.den×vt.den→p.T→Option (p.T ⊕ xs.T))
  (hstep:∀k5 x,Gp (base:=base) (iu (p.T ⊕ xs.T)) cx oq p xs mn it cl e kt kg vt vg body (fun y=>some (.inl y)) (fun b=>some (.inr b)) k5 x=step k5 x):rz P N out base where
 pre:=pre
 m:=.t mn
 it:=it
 cl:=cl
 e:=e
 kt:=kt
 kg:=kg
 vt:=vt
 vg:=vg
 pH:=pH
 b:=body.er
 run kz env nx bl ms K:=Gq (base:=base) kz cx oq p pre mn it cl kt kg vt vg env nx bl ms fun es x=>kz.bd (iE (fun l=>yT step l x) es) fun z=>kz.sm z (fun y=>fN (base+p.gL.length) fun nx=>p.go nx y (K .normal)) fun b=>xs.go kz base b fun e=>K (Dy pH e)
 ok:=by
  intro X env nx bl ms K r h Q hQ
  subst DV
  refine NO mixed gu hxs yI eC hstep h fun es x hk=>?_
  obtain ⟨z,h1,h2⟩:=oS hk
  refine ⟨z,oc h1,?_⟩
  cases z with
  |inl y =>
   simp only [fQ,ax.go_eq] at h2
   exact hQ _ _ _ _ _ h2
  |inr b=>exact hQ _ _ _ _ _ (aT.Aa (xs:=xs) h2)
noncomputable def BN (mixed : P.follows .mixedOrders = true) (cx : Cx) (gu : cx.Ok P) (oq : List Nat) (DV : oq = List.range base) (p : ax) (pre : List eR) (mn it : Nat) (cl : List Nat)
  (e:Option Nat) (kt:Ty) (kg:Bool) (vt:Ty) (vg:Bool) (pH:Nat) (yI:p.env.all (fun q => !(it::cl).contains q.1)=true) (cZ:Nat) (eC:cZ=base+p.gL.length+1) (body:D P N out cZ) (step:kt.den×vt.den→p.T→Option p.T)
  (hstep:∀k5 x,Gp (base:=base) (iu p.T) cx oq p [] mn it cl e kt kg vt vg body (fun y=>some y) noB k5 x=step k5 x):rz P N out base where
 pre:=pre
 m:=.t mn
 it:=it
 cl:=cl
 e:=e
 kt:=kt
 kg:=kg
 vt:=vt
 vg:=vg
 pH:=pH
 b:=body.er
 run kz env nx bl ms K:=Gq (base:=base) kz cx oq p pre mn it cl kt kg vt vg env nx bl ms fun es x=>kz.bd (iE (fun l=>zU step l x) es) fun y=>fN (base+p.gL.length) fun nx=>p.go nx y (K .normal)
 ok:=by
  intro X env nx bl ms K r h Q hQ
  subst DV
  refine Ak mixed gu yI eC hstep h fun es x hk=>?_
  obtain ⟨y,h1,h2⟩:=oS hk
  simp only [fQ,ax.go_eq] at h2
  exact fun l hl=>⟨y,oc h1 l hl,hQ _ _ _ _ _ h2⟩
noncomputable def vu (mixed : P.follows .mixedOrders = true) (cx : Cx) (gu : cx.Ok P) (oq : List Nat) (DV : oq = List.range base) (p : ax) (pre : List eR) (mn it : Nat) (cl : List Nat)
  (e:Option Nat) (kt:Ty) (kg:Bool) (vt:Ty) (vg:Bool) (pH:Nat) (yI:p.env.all (fun q => !(it::cl).contains q.1)=true) (cZ:Nat) (eC:cZ=base+p.gL.length+1) (body:D P N out cZ) (step:kt.den×vt.den→p.T→Option p.T)
  (hstep:∀k5 x,Gp (base:=base) (iu p.T) cx oq p [] mn it cl e kt kg vt vg body (fun y=>some y) noB k5 x=step k5 x):rz P N out base where
 pre:=pre
 m:=.t mn
 it:=it
 cl:=cl
 e:=e
 kt:=kt
 kg:=kg
 vt:=vt
 vg:=vg
 pH:=pH
 b:=body.er
 run kz env nx bl ms K:=Gq (base:=base) kz cx oq p pre mn it cl kt kg vt vg env nx bl ms fun es x=>kz.an es fun l=>kz.bd (zU step l x) fun y=>fN (base+p.gL.length) fun nx=>p.go nx y (K .normal)
 ok:=by
  intro X env nx bl ms K r h Q hQ
  subst DV
  refine Ak mixed gu yI eC hstep h fun es x hk l hl=>?_
  obtain ⟨y,h1,h2⟩:=oS (oc hk l hl)
  simp only [fQ,ax.go_eq] at h2
  exact ⟨y,h1,hQ _ _ _ _ _ h2⟩
end
end Go.AM
end
section
namespace Go.AM
@[reducible] def bs (l:List Nat):ByteArray:=⟨(l.map UInt8.ofNat).toArray⟩
def xC (t : Ty) (x : t.den) : List t.den → List t.den
 |[]=>[x]
 |y::r=>if eS t x y=true then x::y::r else y::xC t x r
def ot (t:Ty) (xs:List t.den):List t.den:=xs.foldr (xC t) []
noncomputable def uR (t:Ty) (b:List t.den) (n:Nat):Option (List t.den×Unit):=if n≤b.length∧n<bI then some (ot t (b.take n)++b.drop n,()) else none
theorem uw (s:ByteArray):(eU s).length=s.size:=by simp [eU]
section
variable {P:Program}
noncomputable def DW (P:Program) (cx:Cx) (f:Nat) (fn:Fn) (d:(b:Nat)→D P fn.N none b):Cx where
 pc:=cx.pc
 ca kz g vs nx bl K:=match an (Nat.beq g f) (Nat.ble vs.length fn.np) with
  |true=>RX vs fun vs=>kE kz cx dN (d nx) (args 0 vs) nx bl [] (Ai kz fn.res fn.tys K)
  |false=>cx.ca kz g vs nx bl K
 rd:=cx.rd
theorem oW (mixed : P.follows .mixedOrders = true) {cx : Cx} (gu : cx.Ok P) {f : Nat} {func : Func} {fn : Fn} (hf : P.funcs[f]? = some func) (htr : cw P func = some fn) (cE : Enters P f)
  {d:(b:Nat)→D P fn.N none b} (hd:∀b,(d b).er=fn.body):(DW P cx f fn d).Ok P where
 Vz hk:=gu.Vz hk
 RN:=by
  intro X g vs nx bl K r hk Q hQ
  simp only [DW] at hk
  split at hk
  ·rename_i h
   rw [aQ] at h
   have e:=Nat.eq_of_beq_eq_true h.1
   subst e
   rw [mU] at hk
   refine j7 hf htr cE (iD mixed) (Nat.le_of_ble_eq_true h.2) ?_
   rw [←hd nx]
   refine k7 gu hk fun e env nx bl ms hk=>?_
   exact xy hk fun v nx bl hk=>hQ v nx bl hk
  ·exact gu.RN hk hQ
 XS hk:=gu.XS hk
noncomputable def Al (P:Program) (cx:Cx) (f:Nat) (fn:Fn) (b:Nat) (d:D P fn.N none b):Cx where
 pc:=cx.pc
 ca kz g vs nx bl K:=match an (Nat.beq g f) (an (Nat.ble vs.length fn.np) (Nat.beq nx b)) with
  |true=>RX vs fun vs=>kE kz cx dN d (args 0 vs) b bl [] (Ai kz fn.res fn.tys K)
  |false=>cx.ca kz g vs nx bl K
 rd:=cx.rd
theorem rL (mixed : P.follows .mixedOrders = true) {cx : Cx} (gu : cx.Ok P) {f : Nat} {func : Func} {fn : Fn} (hf : P.funcs[f]? = some func) (htr : cw P func = some fn) (cE : Enters P f)
  {b:Nat} {d:D P fn.N none b} (hd:d.er=fn.body):(Al P cx f fn b d).Ok P where
 Vz hk:=gu.Vz hk
 RN:=by
  intro X g vs nx bl K r hk Q hQ
  simp only [Al] at hk
  split at hk
  ·rename_i h
   rw [aQ,aQ] at h
   have e:=Nat.eq_of_beq_eq_true h.1
   have e2:=Nat.eq_of_beq_eq_true h.2.2
   subst e;subst e2
   rw [mU] at hk
   refine j7 hf htr cE (iD mixed) (Nat.le_of_ble_eq_true h.2.1) ?_
   rw [←hd]
   refine k7 gu hk fun e env nx bl ms hk=>?_
   exact xy hk fun v nx bl hk=>hQ v nx bl hk
  ·exact gu.RN hk hQ
 XS hk:=gu.XS hk
end
section
variable {P:Program} {N:Nat} {out:Option Nat} {base:Nat}
noncomputable def rM (mixed : P.follows .mixedOrders = true) (cx : Cx) (gu : cx.Ok P) (pre : List Nat) (hpre : pre = List.range base) (p : ax) (xs : aT) (f : O) (ps : List Nat) (hps : ps.all (Nat.blt · N) = true) (as bd : C)
  (fid:Nat) {func:Func} {fn:Fn} (hf:P.funcs[fid]?=some func) (htr:cw P func=some fn) (cE:Enters P fid) (cZ:Nat) (iF:cZ=base+p.gL.length+(match out with|none=>2|some _=>1))
  (LK:D P fn.N none cZ) (hit:LK.er=fn.body):gr P N out base where
 f:=f
 ps:=ps
 a:=as
 b:=bd
 run kz env nx bl ms K:=p.rd kz.no pre base env nx bl ms fun x=>xg (N:=N) (out:=out) (base:=base) kz cx dN pre p xs f ps as bd fn.res fn.np fid LK (fun b=>xs.go kz base b K) x
 ok:=by
  intro X env nx bl ms K r h Q hQ
  subst hpre
  obtain ⟨x,π,h3,h2⟩:=ax.dH h
  unfold xg at h3
  rw [fQ,ax.go_eq] at h3
  intro fo CA ao bo q1 q2 q3 q4
  refine IB (DK ?_) h2
  refine um (K:=fun e S'=>∃BF π,jh base π S' BF∧Q e BF) ?_ fo CA ao bo q1 q2 q3 q4
  refine ⟨hps,?_⟩
  cases mA:f.ev (p.E x) with
  |fn NH first cap=>?_
  |_=>rw [mA] at h3;cases h3
  have X3:f.ev (p.st base x).env = .fn NH first cap:=mA
  rw [X3]
  rw [mA] at h3
  simp only at h3 ⊢
  split at h3<;>try (cases h3;done)
  rename_i hc
  rw [aQ] at hc
  have e1:=Nat.eq_of_beq_eq_true hc.1
  have e2:=Nat.le_of_ble_eq_true hc.2
  subst e1
  have hlen:∀v:V,(first++[v]++cap).length≤fn.np:=fun v=>by simpa using e2
  have hout:∀e env nx bl ms,xs.rd none (List.range base) base e env nx bl ms (fun b=>xs.go (iu X) base b K)=some r→∃BF π,jh base π ⟨env,⟨nx,bl⟩,ms⟩ BF∧Q e BF:=fun e env nx bl ms hk=>by
   obtain ⟨y,π,r1,r2,r3⟩:=aT.dH hk
   have h5:=aT.Aa r1
   have hq:=hQ _ _ _ _ _ h5
   exact ⟨_,π,r3,by rw [r2];exact hq⟩
  cases out with
  |none =>
   simp only at h3 iF ⊢
   split at h3
   ·cases h3
   rename_i J2
   rw [mU] at h3
   refine ⟨J2,?_⟩
   subst iF
   refine j7 hf htr cE (iD mixed) (hlen _) ?_
   rw [←hit]
   refine k7 gu h3 fun e env nx bl ms hk=>?_
   exact rH hk fun v nx bl hk => vq (S := p.st base x) (by
    have e:(p.st base x).ms=[]:=J2
    rw [e];exact hk) hout
  |some Vq =>
   simp only at h3 iF ⊢
   split at h3<;>try (cases h3;done)
   rename_i hb
   rw [mU] at h3
   have hb':ay Vq (p.st base x).H.bl=_:=hb
   simp only [ax.st] at hb' ⊢
   rw [hb']
   simp only
   subst iF
   refine j7 hf htr cE (iD mixed) (hlen _) ?_
   rw [←hit]
   refine k7 gu h3 fun e env nx bl ms hk=>?_
   exact rH hk fun v nx bl hk=>vq (S:=p.st base x) hk hout
end
end Go.AM
end
