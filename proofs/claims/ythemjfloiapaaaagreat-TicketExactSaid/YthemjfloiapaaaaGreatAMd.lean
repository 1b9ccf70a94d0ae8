/- Loops over functions, as functions of their data. Calls that are lent blocks of the caller's heap: the rest stays as it is. Contracts of functions that write blocks of their caller, or hand back new ones. Recursion. The way in and out: a law's contract over data is its row's. Plain laws on tests, needs and rounds. Twins that can be reckoned: what they come to, the functions come to. What is computed, as a tree: read as a function (classically), or reckoned. Code with its loops as functions, out of the program's own: no text of it is needed. A loop whose number of rounds is known is gone through round by round. Strings out of their bytes; what is said of them, of maps and of clearing, plainly. -/
import Derived.Test.YthemjfloiapaaaaGreatAMc
import Derived.OpenShut
import Derived.Handed
import Derived.JoinedOf
import Derived.Carry
set_option linter.unusedSectionVars false
set_option linter.unusedVariables false
set_option linter.unusedSimpArgs false
section
namespace Go.AM
section
variable {P:Program} {N:Nat} {out:Option Nat} {base:Nat} {π:List Nat}
theorem Iv {c:Code} {S S':St} {Q:Ex→St→Prop} (h:HY P N out base c S' Q) (he:jl base π S S'):HY P N out base c S Q :=
 fun Y ι μ a w ho hb hR=>h Y ι _ a w ho hb (he.rep hb hR)
theorem DV {c:Code} {S:St} {Q:Ex→St→Prop} (h:HY P N out base c S fun e S'=>∃BT π,jl base π S' BT∧Q e BT):HY P N out base c S Q :=
 fun Y ι μ a w ho hb hR=>wpIn_mono (h Y ι μ a w ho hb hR) fun e a w hp=>by
  obtain ⟨Y1,hY,ι,μ,S',e',h1,h2,BT,π,h3,h4⟩:=hp
  exact ⟨Y1,hY,ι,_,BT,e',h3.rep (hY.ug hb) h1,h2,h4⟩
def BU {R : Type} : List Nat → List V → Env → (Env → R) → R
 |p::ps,v::vs,env,k=>fV v fun v=>BU ps vs ((p,v)::env) k
 |_,_,env,k=>k env
theorem Ao {R : Type} : ∀ (ps : List Nat) (vs : List V) (env : Env) (k : Env → R), BU ps vs env k = k (uw ps vs env)
 |[],vs,env,k=>by cases vs<;>rfl
 |p::ps,[],env,k=>rfl
 |p::ps,v::vs,env,k=>by simp only [BU,nD];rw [Ao ps vs];rfl
def Nk {R:Type} (kz:Kz R) (uQ:Nat) (K:V→Nat→ai→R):Kc R:=fun e _ nx bl _=>match au uQ bl with
 |some (.loop .busy _ d env ps as bd N)=>pY uQ bl fun bl=>match e with
  | .normal=>K (.tf true) nx ((uQ,.loop .ready none d env ps as bd N)::bl)
  | .exit i=>K (.tf false) nx ((uQ,.loop .done (some (.exit i)) d env ps as bd N)::bl)
  | .ret=>K (.tf false) nx ((uQ,.loop .done (some .ret) d env ps as bd N)::bl)
 |_=>kz.no
theorem Nl {X : Type} {uQ : Nat} {K : V → Nat → ai → Option X} {r : X} {e : Ex} {env : Env} {nx : Nat} {bl : ai} {ms : List Nat} (h : Nk (jf X) uQ K e env nx bl ms = some r) {Q : V → aF → Prop}
  (hQ:∀v nx bl,K v nx bl=some r→Q v ⟨nx,bl⟩):rC uQ Q e ⟨env,⟨nx,bl⟩,ms⟩:=by
 unfold Nk at h
 unfold rC
 simp only
 split at h<;>try (cases h;done)
 rename_i hb
 try rw [hb]
 try simp only
 rw [j9] at h
 cases e<;>exact hQ _ _ _ h
def Nn {R:Type} (kz:Kz R) (cx:Cx) (ar:Ar) (uQ DW:Nat) (ps:List Nat) (asD bdD:D P N (some uQ) DW) (id:Nat) (vs:List V) (nx:Nat) (bl:ai) (K:V→Nat→ai→R):R :=
 match an (Nat.beq id uQ) (Nat.beq nx DW) with
 |true=>match au uQ bl with
  |some (.loop .ready none _ env ps' as bd N')=>match an (Nat.beq vs.length ps'.length) (an (Nat.beq N' N) (an (jm as asD.er) (jm bd bdD.er))) with
   |true=>BU ps' vs env fun env=>kE kz cx ar asD env nx bl [] fun e env nx bl ms=>match e with
    | .normal=>match au uQ bl with
     |some (.loop .ready none d' env' ps' as' QY N')=>pY uQ bl fun bl=>kE kz cx ar bdD env nx ((uQ,.loop .busy none d' env' ps' as' QY N')::bl) ms (Nk kz uQ K)
     |_=>kz.no
    |_=>kz.no
   |false=>kz.no
  |_=>kz.no
 |false=>kz.no
theorem mY (mixed : P.follows .mixedOrders = true) {cx : Cx} (gn : cx.Ok P) {uQ DW : Nat} {ps : List Nat} {asD bdD : D P N (some uQ) DW} {id : Nat} {vs : List V} {nx : Nat} {bl : ai} {X : Type}
  {K:V→Nat→ai→Option X} {r:X} (h:Nn (jf X) cx ek uQ DW ps asD bdD id vs nx bl K=some r) {Q:V→aF→Prop} (hQ:∀v nx bl,K v nx bl=some r→Q v ⟨nx,bl⟩):around P id vs ⟨nx,bl⟩ Q:=by
 unfold Nn at h
 split at h<;>try (cases h;done)
 rename_i h1
 rw [aO] at h1
 have e1:=Nat.eq_of_beq_eq_true h1.1
 have e2:=Nat.eq_of_beq_eq_true h1.2
 subst e1;subst e2
 split at h<;>try (cases h;done)
 rename_i d env ps' as bd N' hb
 split at h<;>try (cases h;done)
 rename_i h2
 simp only [aO] at h2
 obtain ⟨c1,c2,c3,c4⟩:=h2
 have e3:=Nat.eq_of_beq_eq_true c2
 have e4:=vq c3
 have e5:=vq c4
 have e6:=Nat.eq_of_beq_eq_true c1
 subst e3;subst e4;subst e5
 refine J1 (fun N=>iu mixed) ?_
 unfold Gj
 simp only
 rw [hb]
 simp only
 refine ⟨e6,?_⟩
 rw [Ao] at h
 refine k9 gn h fun e env nx bl ms h=>?_
 cases e with
 |exit i=>cases h
 |ret=>cases h
 |normal =>
  simp only at h ⊢
  split at h<;>try (cases h;done)
  rename_i d' env' ps2 as' QY N2 eL
  try rw [eL]
  try simp only
  rw [j9] at h
  exact k9 gn h fun e env nx bl ms h=>Nl h hQ
def zo (cx:Cx) (rd:{R:Type}→Kz R→Nat→List V→Nat→ai→(V→Nat→ai→R)→R):Cx where
 pc:=cx.pc
 ca:=cx.ca
 rd:=rd
theorem jJ {cx : Cx} (gn : cx.Ok P) {rd : {R : Type} → Kz R → Nat → List V → Nat → ai → (V → Nat → ai → R) → R}
  (h:∀{X:Type} {id:Nat} {vs:List V} {nx:Nat} {bl:ai} {K:V→Nat→ai→Option X} {r:X},rd (jf X) id vs nx bl K=some r→∀{Q:V→aF→Prop},(∀v nx bl,K v nx bl=some r→Q v ⟨nx,bl⟩)→around P id vs ⟨nx,bl⟩ Q) :
  (zo cx rd).Ok P:=⟨fun hk=>gn.U4 hk,fun hk=>gn.Ri hk,fun hk=>h hk⟩
def DX {R:Type} (kz:Kz R) (rs:List RV) (K:Nat→ai→R):Kc R:=fun e env nx bl ms=>match e with
 | .exit _=>kz.no
 | .normal=>go env nx bl ms
 | .ret=>go env nx bl ms
where go (env:Env) (nx:Nat) (bl:ai) (ms:List Nat):R:=match eG ms bl with
 |some bl=>match uM ek ⟨env,⟨nx,bl⟩,[]⟩ rs with
  |some _=>K nx bl
  |none=>kz.no
 |none=>kz.no
theorem rO {X : Type} {rs : List RV} {tys : List (Option Ty)} {K : Nat → ai → Option X} {r : X} {e : Ex} {env : Env} {nx : Nat} {bl : ai} {ms : List Nat} (h : DX (jf X) rs K e env nx bl ms = some r) {Q : V → aF → Prop}
  (hQ:∀v nx bl,K nx bl=some r→Q v ⟨nx,bl⟩):Bm rs tys Q e ⟨env,⟨nx,bl⟩,ms⟩:=by
 have key:DX.go (jf X) rs K env nx bl ms=some r→Bm.ql rs tys Q ⟨env,⟨nx,bl⟩,ms⟩:=fun hg=>by
  unfold DX.go at hg
  unfold Bm.ql
  split at hg<;>try (cases hg;done)
  rename_i bI h1
  simp only
  rw [h1]
  simp only
  split at hg<;>try (cases hg;done)
  rename_i vs h2
  rw [h2]
  exact hQ _ _ _ hg
 cases e with
 |exit i=>cases h
 |normal=>exact key h
 |ret=>exact key h
def Iw {R : Type} (no : R) : List Nat → ai → (ai → R) → R
 |[],bl,K=>K bl
 |id::r,bl,K=>match au id bl with
  |some .gX=>pY id bl fun bl=>Iw no r bl K
  |_=>no
theorem DY {X : Type} {no : Option X} {r : X} (hno : no = none) : ∀ {sh : List Nat} {bl : ai} {K : ai → Option X}, Iw no sh bl K = some r → ∃ bI, eG sh bl = some bI ∧ K bI = some r
 |[],bl,K,h=>⟨bl,rfl,h⟩
 |id::sh,bl,K,h=>by
  simp only [Iw] at h
  simp only [eG]
  split at h
  ·rename_i hb
   rw [j9] at h
   rw [hb]
   exact DY hno h
  ·rw [hno] at h;cases h
def Rv {R:Type} (kz:Kz R) (uQ:Nat) (env:Env) (sh ms:List Nat) (K:Kc R) (nx:Nat) (bl:ai):R:=match au uQ bl with
 |some (.loop st j _ _ _ _ _ _)=>match st with
  | .busy=>kz.no
  |_=>pY uQ bl fun bl=>Iw kz.no sh bl fun bl=>match j with
   |none=>K .normal env nx bl ms
   |some (.exit i)=>K (.exit i) env nx bl ms
   |some .ret=>K .ret env nx bl ms
   |some .normal=>kz.no
 |_=>kz.no
theorem vu {X : Type} {uQ : Nat} {S : St} {sh : List Nat} {K : Kc (Option X)} {nx : Nat} {bl : ai} {r : X} (h : Rv (jf X) uQ S.env sh S.ms K nx bl = some r) {Q : Ex → St → Prop}
  (hQ:∀e env nx bl ms,K e env nx bl ms=some r→Q e ⟨env,⟨nx,bl⟩,ms⟩):jQ uQ sh S Q ⟨nx,bl⟩:=by
 unfold Rv at h
 unfold jQ
 simp only
 split at h<;>try (cases h;done)
 rename_i st j _ _ _ _ _ _ hb
 try rw [hb]
 try simp only
 split at h
 ·cases h
 ·rename_i hst
  rw [j9] at h
  obtain ⟨bI,hs,h⟩:=DY rfl h
  have:Ig j ⟨S.env,⟨nx,bI⟩,S.ms⟩ Q:=by
   split at h
   ·exact hQ _ _ _ _ _ h
   ·exact hQ _ _ _ _ _ h
   ·exact hQ _ _ _ _ _ h
   ·cases h
  rw [hs]
  cases st<;>first|exact this|exact absurd rfl hst
def xA {R:Type} (kz:Kz R) (cx:Cx) (ar:Ar) (pre:List Nat) (p:az) (xs:aW) (f:O) (ps:List Nat) (as bd:C) (rs:List RV) (np:Nat) (fid:Nat) {Nit cW:Nat} (Lw:D P Nit none cW) (inr:xs.T→R) (x:p.T):R :=
 fN (base+p.gI.length) fun nx=>p.go nx x fun env nx bl ms=>match f.ev env with
 | .fn Np first cap=>match an (Nat.beq Np fid) (Nat.ble (first++[V.any]++cap).length np) with
  |true=>match out with
   |none=>match ms with
    |_::_=>kz.no
    | [] => Rr (first ++ [.yl (nx + 1)] ++ cap) fun vs => kE kz cx ar Lw (args 0 vs) cW ((nx + 1, .loop .ready none nx env ps as bd N) :: (nx, .gX) :: bl) []
     (DX kz rs (Rv kz (nx+1) env [nx] [] fun e env nx bl ms=>xs.rd kz.no pre base e env nx bl ms inr))
   |some UW=>match au UW bl with
    | some (.loop _ _ d _ _ _ _ _) => Rr (first ++ [.yl nx] ++ cap) fun vs => kE kz cx ar Lw (args 0 vs) cW ((nx, .loop .ready none d env ps as bd N) :: bl) []
     (DX kz rs (Rv kz nx env [] ms fun e env nx bl ms=>xs.rd kz.no pre base e env nx bl ms inr))
    |_=>kz.no
  |false=>kz.no
 |_=>kz.no
def Nq (c:C):bS P N out base where
 c:=c
 run kz _ _ _ _ _:=kz.no
 ok h:=by cases h
def Kl (f:O) (ps:List Nat) (a b:C):gm P N out base where
 f:=f
 ps:=ps
 a:=a
 b:=b
 run kz _ _ _ _ _:=kz.no
 ok h:=by cases h
def Rw (pre:List eM) (m:O) (it:Nat) (cl:List Nat) (e:Option Nat) (kt:Ty) (kg:Bool) (vt:Ty) (vg:Bool) (pR:Nat) (b:C):rG P N out base where
 pre:=pre
 m:=m
 it:=it
 cl:=cl
 e:=e
 kt:=kt
 kg:=kg
 vt:=vt
 vg:=vg
 pR:=pR
 b:=b
 run kz _ _ _ _ _:=kz.no
 ok h:=by cases h
noncomputable def Nr (mixed : P.follows .mixedOrders = true) (cx : Cx) (gn : cx.Ok P) (pre : List Nat) (hpre : pre = List.range base) (p : az) (xs : aW) (f : O) (ps : List Nat) (hps : ps.all (Nat.blt · N) = true) (as bd : C)
  (fid:Nat) {func:Func} {fn:Fn} (hf:P.funcs[fid]?=some func) (htr:cL P func=some fn) (cC:Enters P fid) (cW:Nat) (iy:cW=base+p.gI.length+(match out with|none=>2|some _=>1))
  (Lw:D P fn.N none cW) (hit:Lw.er=fn.body) (RF:p.T→Option xs.T)
  (hRF:∀x,xA (N:=N) (out:=out) (base:=base) (jf xs.T) cx ek pre p xs f ps as bd fn.res fn.np fid Lw some x=RF x):Gp P N out base f ps as bd where
 run kz env nx bl ms K:=p.rd kz.no pre base env nx bl ms fun x=>kz.bd (RF x) fun b=>xs.go kz base b K
 ok:=by
  intro X env nx bl ms K r h Q hQ
  subst hpre
  obtain ⟨x,π,h1,h2⟩:=az.dG h
  obtain ⟨b,h3,h4⟩:=pn h1
  have h5:=aW.Am h4
  have hq:=hQ _ _ _ _ _ h5
  rw [←hRF x] at h3
  unfold xA at h3
  rw [fK,az.go_eq] at h3
  intro fo CS ao bo q1 q2 q3 q4
  refine Iv (DV ?_) h2
  refine uv (K:=fun e S'=>∃BT π,jl base π S' BT∧Q e BT) ?_ fo CS ao bo q1 q2 q3 q4
  refine ⟨hps,?_⟩
  cases o9:f.ev (p.E x) with
  |fn Np first cap=>?_
  |_=>rw [o9] at h3;cases h3
  have Xp:f.ev (p.st base x).env = .fn Np first cap:=o9
  rw [Xp]
  rw [o9] at h3
  simp only at h3 ⊢
  split at h3<;>try (cases h3;done)
  rename_i hc
  rw [aO] at hc
  have e1:=Nat.eq_of_beq_eq_true hc.1
  have e2:=Nat.le_of_ble_eq_true hc.2
  subst e1
  have hlen:∀v:V,(first++[v]++cap).length≤fn.np:=fun v=>by simpa using e2
  have hout:∀e env nx bl ms,xs.rd none (List.range base) base e env nx bl ms some=some b→∃BT π,jl base π ⟨env,⟨nx,bl⟩,ms⟩ BT∧Q e BT:=fun e env nx bl ms hk=>by
   obtain ⟨y,π,r1,r2,r3⟩:=aW.dG hk
   cases r1
   exact ⟨_,π,r3,by rw [r2];exact hq⟩
  cases out with
  |none =>
   simp only at h3 iy ⊢
   split at h3
   ·cases h3
   rename_i JP
   rw [mX] at h3
   refine ⟨JP,?_⟩
   subst iy
   refine j6 hf htr cC (iu mixed) (hlen _) ?_
   rw [←hit]
   refine k9 gn h3 fun e env nx bl ms hk=>?_
   exact rO hk fun v nx bl hk => vu (S := p.st base x) (by
    have e:(p.st base x).ms=[]:=JP
    rw [e];exact hk) hout
  |some UW =>
   simp only at h3 iy ⊢
   split at h3<;>try (cases h3;done)
   rename_i hb
   rw [mX] at h3
   have hb':au UW (p.st base x).H.bl=_:=hb
   simp only [az.st] at hb' ⊢
   rw [hb']
   simp only
   subst iy
   refine j6 hf htr cC (iu mixed) (hlen _) ?_
   rw [←hit]
   refine k9 gn h3 fun e env nx bl ms hk=>?_
   exact rO hk fun v nx bl hk=>vu (S:=p.st base x) hk hout
noncomputable def rP (mixed : P.follows .mixedOrders = true) (cx : Cx) (gn : cx.Ok P) (pre : List Nat) (hpre : pre = List.range base) (p : az) (xs : aW) (f : O) (ps : List Nat) (hps : ps.all (Nat.blt · N) = true) (as bd : C)
  (fid:Nat) {func:Func} {fn:Fn} (hf:P.funcs[fid]?=some func) (htr:cL P func=some fn) (cC:Enters P fid) (cW:Nat) (iy:cW=base+p.gI.length+(match out with|none=>2|some _=>1))
  (Lw:D P fn.N none cW) (hit:Lw.er=fn.body) (RF:p.T→Option xs.T)
  (hRF:∀x,xA (N:=N) (out:=out) (base:=base) (jf xs.T) cx ek pre p xs f ps as bd fn.res fn.np fid Lw some x=RF x):gm P N out base :=
 (Nr mixed cx gn pre hpre p xs f ps hps as bd fid hf htr cC cW iy Lw hit RF hRF).s
end
end Go.AM
end
section
namespace Go.AM
theorem xB {σ : List Nat} {ι : aj} {μ μ' : Mu} (hσ : ∀ j i L, σ[j]? = some i → μ j = some L → μ' i = some L) : ∀ {n : Nat} {v u : V} {x : Value}, nP σ n v = some u → Rel ι μ v x → Rel ι μ' u x
 |0,v,u,x,h,_=>by cases h
 |n+1,v,u,x,h,hr=>by
  have g:∀v u x,nP σ n v=some u→Rel ι μ v x→Rel ι μ' u x:=fun v u x h hr=>xB hσ h hr
  have lift:∀{cs ds:List V} {xs:Array Value},dg (nP σ n) cs=some ds→cs.length=xs.size→(∀(i:Nat) v x,cs[i]?=some v→xs[i]?=some x→Rel ι μ v x)→aG ι μ' ds xs.toList :=
   fun hm h1 h2=>iW g hm ⟨by simpa using h1,fun i v x hv hx=>h2 i v x hv (by simpa using hx)⟩
  cases hr<;>simp only [nP] at h
  case any=>cases h;exact .any _
  case tf=>cases h;exact .tf _
  case bool=>cases h;exact .bool _
  case int=>cases h;exact .int _ _
  case str=>cases h;exact .str _
  case ez=>cases h;exact .ez
  case cE=>cases h;exact .cE
  case eW=>cases h;exact .eW
  case eH t xs hd=>cases h;exact .eH t xs _ hd
  case bW=>cases h;exact .bW _
  case sl id t lo m cap L hL h1 h2 h3 =>
   split at h<;>try (cases h;done)
   rename_i i hi;cases h
   exact .sl i t lo m cap L (hσ _ _ _ hi hL) h1 h2 h3
  case b7 id t lo a =>
   split at h<;>try (cases h;done)
   cases h;exact .b7 _ _ _ _
  case ptr id off L hL =>
   split at h<;>try (cases h;done)
   rename_i i hi;cases h
   exact .ptr i off L (hσ _ _ _ hi hL)
  case ep id t j p L hL =>
   split at h<;>try (cases h;done)
   rename_i i hi;cases h
   exact .ep i t j p L (hσ _ _ _ hi hL)
  case yl id L hL =>
   split at h<;>try (cases h;done)
   rename_i i hi;cases h
   exact .yl i L (hσ _ _ _ hi hL)
  case fc cs b o gf h1 h2 h3 =>
   split at h<;>try (cases h;done)
   rename_i ds hds;cases h
   have hR:aG ι μ cs ((List.range cs.length).map gf):=⟨by simp,fun i v x hv hx=>by
    have hi:=(List.getElem?_eq_some_iff.1 hv).1
    simp [hi] at hx;subst hx;exact h2 i v hv⟩
   have gJ:=iW g hds hR
   have hl:ds.length=cs.length:=by have:=gJ.1;simpa using this
   exact .fc ds b o gf (fun i hi => h1 i (by omega)) (fun i v hv => gJ.2 i v (gf i) hv (by
    have hi:=(List.getElem?_eq_some_iff.1 hv).1
    simp [show i<cs.length by omega])) h3
  case ip t y b o us h1 h2=>cases h;exact .ip t y b o us h1 h2
  case fn f fs cs xs ys h1 h2 h3 h4 =>
   split at h<;>try (cases h;done)
   rename_i as ha
   split at h<;>try (cases h;done)
   rename_i bs hb;cases h
   have r1:=lift ha h1 h2
   have r2:=lift hb h3 h4
   exact .fn f as bs xs ys (by simpa using r1.1) (fun i v x hv hx=>r1.2 i v x hv (by simpa using hx)) (by simpa using r2.1) (fun i v x hv hx=>r2.2 i v x hv (by simpa using hx))
  case agg cs xs h1 h2 h3 =>
   split at h<;>try (cases h;done)
   rename_i ds hds;cases h
   have r1:=lift hds h1 h2
   exact .agg ds xs (by simpa using r1.1) (fun i v x hv hx=>r1.2 i v x hv (by simpa using hx)) h3
  case cG cs xs h1 h2 =>
   split at h<;>try (cases h;done)
   rename_i ds hds;cases h
   have r1:=lift hds h1 h2
   exact .cG ds xs (by simpa using r1.1) (fun i v x hv hx=>r1.2 i v x hv (by simpa using hx))
  case cq t v x hv =>
   split at h<;>try (cases h;done)
   rename_i u' hu;cases h
   exact .cq t u' x (g _ _ _ hu hv)
  case cb c b hc=>cases h;exact .cb c b hc
  case mp id L hL =>
   split at h<;>try (cases h;done)
   rename_i i hi;cases h
   exact .mp i L (hσ _ _ _ hi hL)
  case cB=>cases h;exact .cB
  case sp=>cases h
  case pa id t m L hL hm =>
   split at h<;>try (cases h;done)
   rename_i i hi;cases h
   exact .pa i t m L (hσ _ _ _ hi hL) hm
  case kQ t xs b o us h1 h2=>cases h;exact .kQ t xs b o us h1 h2
def DZ (σ : List Nat) : ai → Option ai
 |[]=>some []
 |(j,b)::r=>match uP σ j with
  |some i=>match Gc σ b with
   |some b'=>match DZ σ r with
    |some r'=>some ((i,b')::r')
    |none=>none
   |none=>none
  |none=>none
theorem Ap {σ : List Nat} (hinj : ∀ (a b i : Nat), σ[a]? = some i → σ[b]? = some i → a = b) : ∀ {bl bI : ai}, DZ σ bl = some bI → ∀ {i : Nat} {B : kP}, au i bI = some B → ∃ j B0, σ[j]? = some i ∧ au j bl = some B0 ∧ Gc σ B0 = some B
 |[],bI,h,i,B,hb=>by cases h;simp [au] at hb
 |(j,b)::r,bI,h,i,B,hb=>by
  simp only [DZ] at h
  split at h<;>try (cases h;done)
  rename_i i' hi
  split at h<;>try (cases h;done)
  rename_i b' hb'
  split at h<;>cases h
  rename_i r' hr
  rw [pq] at hi
  rw [bp] at hb
  split at hb
  ·rename_i e; subst e; cases hb
   exact ⟨j,b,hi,by rw [bp,if_pos rfl],hb'⟩
  ·rename_i hne
   obtain ⟨j2,B0,h1,h2,h3⟩:=Ap hinj hr hb
   refine ⟨j2,B0,h1,?_,h3⟩
   rw [bp,if_neg]
   ·exact h2
   ·intro e;subst e;rw [hi] at h1;cases h1;exact hne rfl
def xC : List Nat → ai → ai
 |[],bl=>bl
 |i::r,bl=>xC r (bt i bl)
theorem xD : ∀ {l : List Nat} {bl : ai} {id : Nat}, au id (xC l bl) = if id ∈ l then none else au id bl
 |[],bl,id=>by simp [xC]
 |i::r,bl,id=>by
  simp only [xC]
  rw [xD,bg]
  by_cases h1:id∈r
  ·simp [h1]
  ·by_cases h2 : id = i
   ·simp [h1,h2]
   ·simp [h1,h2]
theorem uy : ∀ {a b : ai} {id : Nat}, au id (a ++ b) = match au id a with | some B => some B | none => au id b
 |[],b,id=>by simp [au]
 |(s,x)::r,b,id=>by
  rw [List.cons_append,bp,bp]
  split
  ·rfl
  ·exact uy
section
variable {P:Program}
def sig (π:List Nat) (nx n:Nat):List Nat:=π++(List.range' π.length (n - π.length)).map (nx + ·)
theorem D0 {f : Nat} {vs0 vs : List V} {Ie bl : ai} {nx : Nat} {π : List Nat} {Q0 Q : V → aF → Prop} (h : gN P f vs0 ⟨π.length, Ie⟩ Q0)
  (hargs:CV π vs0 vs) (qM:∀p∈Ie,Z6 π nx bl p.1 p.2) (U9:∀p∈Ie,∀st j d env ps as bd N,p.2 ≠ .loop st j d env ps as bd N) (hnd:π.Nodup) (hlt:∀i∈π,i<nx+π.length)
  (hQ:∀r n bI,Q0 r ⟨n,bI⟩→π.length≤n∧∃r' Va,nP (sig π nx n) 8 r=some r'∧DZ (sig π nx n) bI=some Va∧Q r' ⟨nx+n,Va++xC π bl⟩):gN P f vs ⟨nx,bl⟩ Q:=by
 refine ⟨h.1,fun Y ι μ w as hI hl=>?_⟩
 let μ1:Mu:=μ.eU π
 have hμ1:∀j i,π[j]?=some i→μ1 j=μ i:=fun j i e=>by simp only [μ1,Mu.eU];rw [e];rfl
 let X:Nat→Prop:=fun b=>∃p∈Ie,∃L,μ1 p.1=some L∧L.b=b
 let Y1:Ctx:=⟨w,ι,μ1,none,X,[]⟩
 -- a lent block is one of the caller's
 have src:∀p∈Ie,∀L,μ1 p.1=some L→∃i C,π[p.1]?=some i∧μ i=some L∧au i bl=some C:=fun p hp L hL=>by
  obtain ⟨i,e1,hb⟩:=qM p hp
  rw [hμ1 _ _ e1] at hL
  refine ⟨i,?_⟩
  have:∃C,au i bl=some C:=by
   cases hB:p.2 with
   |cells cs fz=>rw [hB] at hb;obtain ⟨ds,e2,_⟩:=hb;exact ⟨_,e2⟩
   |arr t xs fz =>
    rw [hB] at hb
    rcases hb with e2|⟨_,hge⟩
    ·exact ⟨_,e2⟩
    ·rw [hI.nx i hge] at hL;cases hL
   |loop st j d env ps as bd N=>exact absurd hB (U9 p hp _ _ _ _ _ _ _ _)
   |gX=>rw [hB] at hb;exact ⟨_,hb⟩
   |map kt kg vt vg es=>rw [hB] at hb;exact ⟨_,hb⟩
   |mE t xs k p v=>rw [hB] at hb;obtain ⟨u,e2,_⟩:=hb;exact ⟨_,e2⟩
  obtain ⟨C,hC⟩:=this
  exact ⟨C,e1,hL,hC⟩
 have Ns:∀b,X b→Y.own b:=fun b ⟨p,hp,L,hL,e⟩=>by
  obtain ⟨i,C,_,h2,h3⟩:=src p hp L hL
  subst e;exact ((hI.live i C h3).loc h2).1
 have hown:∀b,Y1.own b→Y.own b:=fun b hb=>by
  rcases hb with hb|hb
  ·exact .inl (Nat.le_trans hI.below.size hb)
  ·exact Ns b hb
 have hmem:∀{id:Nat} {B:kP},au id Ie=some B→(id,B)∈Ie:=fun h=>dn h
 have Fp:Inv P Y1 ι μ1 ⟨π.length,Ie⟩ w:=by
  refine ⟨HQ.refl _ _,aj.le_refl _,fun _ _ _ _=>rfl,hI.rd,Mu.le_refl _,fun id hid=>?_,fun id B hB=>?_,fun id id' B B' L L' hb hb' hm hm' e=>?_,fun id B hB=>?_,hI.dy⟩
  ·have : π[id]? = none := List.getElem?_eq_none hid
   simp only [μ1,Mu.eU];rw [this];rfl
  ·obtain ⟨i, e1, hb⟩ := qM _ (hmem hB)
   have fE:=hμ1 id i e1
   cases B with
   |cells cs fz =>
    obtain ⟨ds,e2,ag⟩:=hb
    obtain ⟨L,vs,hM,H8⟩:=hI.live i _ e2
    exact ⟨L,vs,⟨by rw [fE];exact hM.mu,.inr ⟨_,hmem hB,L,by rw [fE];exact hM.mu,rfl⟩,hM.row,hM.fits,hM.one,hM.C5,hM.pU⟩,aG.eU ag.1 (fun i v u hv hu=>fun {x} hr=>(ag.2 i v u hv hu).rel hr) H8⟩
   |arr t xs fz =>
    rcases hb with e2|⟨rfl,hge⟩
    ·rcases hI.live i _ e2 with ⟨e, hn⟩ | ⟨L, vs, hM, hc, hl⟩
     ·exact .inl ⟨e,by rw [fE];exact hn⟩
     ·exact .inr ⟨L,vs,⟨by rw [fE];exact hM.mu,.inr ⟨_,hmem hB,L,by rw [fE];exact hM.mu,rfl⟩,hM.row,hM.fits,hM.one,hM.C5,hM.pU⟩,hc,hl⟩
    ·exact .inl ⟨rfl,by rw [fE];exact hI.nx i hge⟩
   |mE t xs k p v =>
    obtain ⟨u,e2,ag⟩:=hb
    obtain ⟨L,us,vs,c,hM,hc,hl,q1,q2,q3,q4⟩:=hI.live i _ e2
    exact ⟨L,us,vs,c,⟨by rw [fE];exact hM.mu,.inr ⟨_,hmem hB,L,by rw [fE];exact hM.mu,rfl⟩,hM.row,hM.fits,hM.one,hM.C5,hM.pU⟩,hc,hl,q1,q2,q3,ag.rel q4⟩
   |loop st j d env ps as bd N=>exact absurd rfl (U9 _ (hmem hB) st j d env ps as bd N)
   |gX =>
    obtain ⟨L,q1,q2,q3⟩:=hI.live i _ hb
    exact ⟨L,by rw [fE];exact q1,.inr ⟨_,hmem hB,L,by rw [fE];exact q1,rfl⟩,q3⟩
   |map kt kg vt vg es =>
    obtain ⟨L,ms,clock,dA,q1,q2,q3⟩:=hI.live i _ hb
    exact ⟨L,ms,clock,dA,by rw [fE];exact q1,.inr ⟨_,hmem hB,L,by rw [fE];exact q1,rfl⟩,q3⟩
  ·obtain ⟨i, C, e1, e2, e3⟩ := src _ (hmem hb) L hm
   obtain ⟨i',C',Fs,ZY,WC⟩:=src _ (hmem hb') L' hm'
   have:=hI.inj i i' C C' L L' e3 WC e2 ZY e
   subst this
   exact (List.getElem?_inj (List.getElem?_eq_some_iff.1 e1).1 hnd).1 (e1.trans Fs.symm)
  ·obtain ⟨i, e1, _⟩ := qM _ (hmem hB)
   exact (List.getElem?_eq_some_iff.1 e1).1
 have Xq:aG ι μ1 vs0 as.toList:=aG.eU hargs.1 (fun i v u hv hu=>fun {x} hr=>(hargs.2 i v u hv hu).rel hr) hl
 refine (h.2 Y1 ι μ1 w as Fp Xq).mono ?_
 rintro e w' ⟨v,ι',Rx,r,⟨n,bI⟩,rfl,hi,fH,nW,hr,hq⟩
 obtain ⟨hn,r',Va,hr',Xr,WM⟩:=hQ _ _ _ hq
 -- names
 have Xs:∀j i,(sig π nx n)[j]?=some i→(j<π.length∧π[j]?=some i)∨(π.length≤j∧j<n∧i=nx+j):=fun j i e=>by
  unfold sig at e
  rw [List.getElem?_append] at e
  split at e
  ·rename_i hj;exact .inl ⟨hj,e⟩
  ·rename_i hj
   simp only [List.getElem?_map] at e
   cases hh:(List.range' π.length (n - π.length))[j - π.length]? with
   |none=>rw [hh] at e;cases e
   |some z =>
    rw [hh] at e
    simp only [Option.map_some,Option.some.injEq] at e
    obtain ⟨q1,q2⟩:=List.getElem?_eq_some_iff.1 hh
    simp at q1 q2
    exact .inr ⟨by omega,by omega,by omega⟩
 have hinj:∀a b i,(sig π nx n)[a]?=some i→(sig π nx n)[b]?=some i→a=b:=fun a b i ha hb=>by
  rcases Xs _ _ ha with ⟨h1,h2⟩|⟨h1,h2,h3⟩<;>rcases Xs _ _ hb with ⟨h4,h5⟩|⟨h4,h5,h6⟩
  ·exact (List.getElem?_inj h1 hnd).1 (h2.trans h5.symm)
  ·have:=hlt i (List.mem_of_getElem? h2);omega
  ·have:=hlt i (List.mem_of_getElem? h5);omega
  ·omega
 classical
 let μ':Mu:=fun i=>match μ i with
  |some L=>some L
  |none=>if hx:∃j L,(sig π nx n)[j]?=some i∧Rx j=some L then some hx.choose_spec.choose else none
 have hle:μ.le μ':=fun i L hL=>by simp only [μ'];rw [hL]
 have hnew:∀i,μ i=none→∀j L,(sig π nx n)[j]?=some i→Rx j=some L→μ' i=some L:=fun i hi j L hj hL=>by
  have hx:∃j L,(sig π nx n)[j]?=some i∧Rx j=some L:=⟨j,L,hj,hL⟩
  simp only [μ'];rw [hi];simp only;rw [dif_pos hx]
  obtain ⟨q1,q2⟩:=hx.choose_spec.choose_spec
  have key:∀j' L',Rx j'=some L'→j'=j→some L'=some L:=fun j' L' h1 h2=>by subst h2;rw [←h1,hL]
  exact key _ _ q2 (hinj _ _ _ q1 hj)
 have hσ:∀j i L,(sig π nx n)[j]?=some i→Rx j=some L→μ' i=some L:=fun j i L hj hL=>by
  cases hμ:μ i with
  |none=>exact hnew i hμ j L hj hL
  |some L0 =>
   rcases Xs _ _ hj with ⟨h1,h2⟩|⟨h1,h2,h3⟩
   ·have e : Rx j = some L0 := fH j L0 (by rw [hμ1 j i h2]; exact hμ)
    rw [hL] at e;cases e
    exact hle i _ hμ
   ·rw [hI.nx i (by simp only;omega)] at hμ;cases hμ
 have hσ':∀j i,(sig π nx n)[j]?=some i→∀L,μ' i=some L→Rx j=some L:=fun j i hj L hL=>by
  cases hμ:μ i with
  |some L0 =>
   rw [hle i _ hμ] at hL;cases hL
   rcases Xs _ _ hj with ⟨h1,h2⟩|⟨h1,h2,h3⟩
   ·exact fH j _ (by rw [hμ1 j i h2];exact hμ)
   ·rw [hI.nx i (by simp only;omega)] at hμ;cases hμ
  |none =>
   simp only [μ'] at hL;rw [hμ] at hL;simp only at hL
   split at hL
   ·rename_i hx
    cases hL
    obtain ⟨q1,q2⟩:=hx.choose_spec.choose_spec
    have key:∀j' L',Rx j'=some L'→j'=j→Rx j=some L':=fun j' L' h1 h2=>by subst h2;exact h1
    exact key _ _ q2 (hinj _ _ _ q1 hj)
   ·cases hL
 have Ry:∀{id:Nat} {B:kP} {L:Loc},au id bl=some B→id∉π→μ id=some L→L.b<w.heap.size∧¬X L.b:=fun {id B L} hB hid hL=>by
  refine ⟨((hI.live id B hB).loc hL).2,?_⟩
  rintro ⟨p,hp,L2,hL2,e⟩
  obtain ⟨i,C,e1,e2,e3⟩:=src p hp L2 hL2
  have:=hI.inj i id C B L2 L e3 hB e2 hL e
  subst this
  exact hid (List.mem_of_getElem? e1)
 have hkeep:∀{id:Nat} {B:kP},au id bl=some B→id∉π→μ' id=μ id:=fun {id B} hB hid=>by
  cases hμ:μ id with
  |some L=>exact hle id _ hμ
  |none =>
   simp only [μ'];rw [hμ];simp only
   rw [dif_neg]
   rintro ⟨j,L,hj,_⟩
   have abi:=hI.lt id B hB
   rcases Xs _ _ hj with ⟨h1,h2⟩|⟨h1,h2,h3⟩
   ·exact hid (List.mem_of_getElem? h2)
   ·simp only at abi;omega
 have gZ:∀{id:Nat} {B:kP},au id (Va++xC π bl)=some B→(∃j B0,(sig π nx n)[j]?=some id∧au j bI=some B0∧Gc (sig π nx n) B0=some B)∨(au id bl=some B∧id∉π):=fun {id B} hB=>by
  rw [uy] at hB
  split at hB
  ·rename_i B2 eL;cases hB;exact .inl (Ap hinj Xr eL)
  ·rw [xD] at hB
   split at hB
   ·cases hB
   ·rename_i hk;exact .inr ⟨hB,hk⟩
 have jG:HQ Y.x Y.w0 w':=by
  have b2:=nW.below
  refine ⟨b2.os.trans hI.below.os,b2.tape.trans hI.below.tape,b2.output.trans hI.below.output,Nat.le_trans hI.below.size b2.size,fun k hk hx=>?_,Nat.le_trans hI.below.dr b2.dr,fun k hk=>(hI.below.maps k hk).trans (b2.maps k (Nat.lt_of_lt_of_le hk hI.below.size))⟩
  rw [b2.block k (Nat.lt_of_lt_of_le hk hI.below.size) (fun hX=>by
   rcases Ns k hX with h|h
   ·omega
   ·exact hx h)]
  exact hI.below.block k hk hx
 have hι:∀b o,b<w.heap.size→¬X b→ι' b o=ι b o:=fun b o hb hx=>nW.iB b o hb hx
 refine ⟨v,ι',μ',r',_,rfl,hi,hle,?_,xB hσ hr' hr,WM⟩
 refine ⟨jG,aj.le_trans hI.i0 hi,fun b o hb hx=>?_,nW.rd,Mu.le_trans hI.m0 hle,fun id hid=>?_,fun id B hB=>?_,fun id id' B B' L L' hb hb' hm hm' e=>?_,fun id B hB=>?_,hI.gl⟩
 ·rw [hι b o (Nat.lt_of_lt_of_le hb hI.below.size) (fun hX=>by
   rcases Ns b hX with h|h
   ·omega
   ·exact hx h)]
  exact hI.iB b o hb hx
 ·simp only at hid
  have h0:μ id=none:=hI.nx id (by simp only;omega)
  simp only [μ'];rw [h0];simp only
  rw [dif_neg]
  rintro ⟨j,L,hj,_⟩
  rcases Xs _ _ hj with ⟨h1,h2⟩|⟨h1,h2,h3⟩
  ·have:=hlt id (List.mem_of_getElem? h2);omega
  ·omega
 ·rcases gZ hB with ⟨j, B0, e1, e2, e3⟩ | ⟨Z9, hk⟩
  ·have kY := nW.live j B0 e2
   cases B0 with
   |cells cs fz =>
    simp only [Gc] at e3
    split at e3<;>cases e3
    rename_i ds hds
    obtain ⟨L,us,hM,H8⟩:=kY
    exact ⟨L,us,⟨hσ _ _ _ e1 hM.mu,hown _ hM.old,hM.row,hM.fits,hM.one,hM.C5,hM.pU⟩,iW (fun _ _ _ h hr=>xB hσ h hr) hds H8⟩
   |arr t xs fz =>
    cases e3
    rcases kY with ⟨e,hn0⟩|⟨L,us,hM,hc,hl⟩
    ·refine .inl ⟨e, ?_⟩
     cases hμ':μ' id with
     |none=>rfl
     |some L=>rw [hσ' j id e1 L hμ'] at hn0;cases hn0
    ·exact .inr ⟨L,us,⟨hσ _ _ _ e1 hM.mu,hown _ hM.old,hM.row,hM.fits,hM.one,hM.C5,hM.pU⟩,hc,hl⟩
   |loop st jj d env ps as bd N=>cases e3
   |mE t xs k p v=>cases e3
   |gX =>
    cases e3
    obtain ⟨L,q1,q2,q3⟩:=kY
    exact ⟨L,hσ _ _ _ e1 q1,hown _ q2,q3⟩
   |map kt kg vt vg es =>
    cases e3
    obtain ⟨L,ms,clock,dA,q1,q2,q3,q4,q5⟩:=kY
    exact ⟨L,ms,clock,dA,hσ _ _ _ e1 q1,hown _ q2,q3,q4,q5⟩
  ·have kY := hI.live id B Z9
   refine kY.mono hi hle (fun hn0=>(hkeep Z9 hk).trans hn0) (fun L hL=>?_) (fun L hL ho o=>?_)
   ·obtain ⟨h1, h2⟩ := Ry Z9 hk hL
    exact nW.below.block _ h1 h2
   ·obtain ⟨h1, h2⟩ := Ry Z9 hk hL
    rw [hι _ _ h1 h2];exact ho o
 ·rcases gZ hb with ⟨j, B0, e1, e2, e3⟩ | ⟨hB1, hk1⟩ <;> rcases gZ hb' with ⟨j', B0', Fs, ZY, WC⟩ | ⟨hB2, hk2⟩
  ·have := nW.inj j j' B0 B0' L L' e2 ZY (hσ' _ _ e1 _ hm) (hσ' _ _ Fs _ hm') e
   subst this;rw [e1] at Fs;cases Fs;rfl
  ·rw [hkeep hB2 hk2] at hm'
   obtain ⟨h1,h2⟩:=Ry hB2 hk2 hm'
   rcases ((nW.live j B0 e2).loc (hσ' _ _ e1 _ hm)).1 with h3|h3
   ·simp only [Y1] at h3;omega
   ·rw [e] at h3;exact absurd h3 h2
  ·rw [hkeep hB1 hk1] at hm
   obtain ⟨h1,h2⟩:=Ry hB1 hk1 hm
   rcases ((nW.live j' B0' ZY).loc (hσ' _ _ Fs _ hm')).1 with h3|h3
   ·simp only [Y1] at h3;omega
   ·rw [←e] at h3;exact absurd h3 h2
  ·rw [hkeep hB1 hk1] at hm
   rw [hkeep hB2 hk2] at hm'
   exact hI.inj id id' B B' L L' hB1 hB2 hm hm' e
 ·rcases gZ hB with ⟨j, B0, e1, e2, e3⟩ | ⟨Z9, hk⟩
  ·rcases Xs _ _ e1 with ⟨h1, h2⟩ | ⟨h1, h2, h3⟩
   ·have:=hlt id (List.mem_of_getElem? h2);simp only;omega
   ·simp only;omega
  ·have:=hI.lt id B Z9;simp only at this ⊢;omega
end
end Go.AM
end
section
namespace Go.AM
structure Ht where
 f:Nat
 p:az
 q:az
 fn:p.T→Option q.T
def Ht.Ok (P:Program) (ht:Ht):Prop:=∀x y,ht.fn x=some y →
 gN P ht.f ((ht.p.E x).map (·.2)) ⟨ht.p.gI.length,ht.p.B x⟩ fun r H=>r=get 0 (ht.q.E y)∧H=⟨ht.p.gI.length+ht.q.gI.length,ht.q.B y⟩
section
variable {P:Program} {R:Type}
def az.rdP (no:R) (p:az) (env:Env) (nx:Nat) (bl:ai) (k:List Nat→p.T→R):R :=
 rM no env nx bl [] p.gI [] 0 fun π=>match xy π p.bl with
  |true=>match Al (A:=Rj p.bl Unit) π env p.env with
   |some f=>match Nf (A:=Unit) π nx bl p.bl with
    |some g=>k π (f (g ()))
    |none=>no
   |none=>no
  |false=>no
def BV : List Nat → Bool
 |[]=>true
 |i::r=>match Ba i r with
  |true=>false
  |false=>BV r
theorem Aq : ∀ {l : List Nat}, BV l = true → l.Nodup
 |[],_=>.nil
 |i::r,h=>by
  simp only [BV] at h
  split at h
  ·cases h
  ·rename_i hm
   exact List.nodup_cons.2 ⟨(fun hi=>by rw [rB.2 hi] at hm;cases hm),Aq h⟩
def BW (n : Nat) : List Nat → Bool
 |[]=>true
 |i::r=>match Nat.blt i n with
  |true=>BW n r
  |false=>false
theorem As {n : Nat} : ∀ {l : List Nat}, BW n l = true → ∀ i ∈ l, i < n
 |[],_,i,hi=>by simp at hi
 |j::r,h,i,hi=>by
  simp only [BW] at h
  split at h
  ·rename_i hj
   rcases List.mem_cons.1 hi with rfl|hi
   ·have : i + 1 ≤ n := by simpa [Nat.blt] using hj
    omega
   ·exact As h i hi
  ·cases h
def mZ : List (Nat × BP) → Bool
 |[]=>true
 |(_,.loop _ _ _ _ _ _ _ _)::_=>false
 |(_,.arr _ _)::r=>mZ r
 |(_,.cells _ _)::r=>mZ r
 |(_,.gX)::r=>mZ r
 |(_,.map _ _ _ _)::r=>mZ r
 |(_,.mE _ _ _ _)::r=>mZ r
theorem Au {A : Type} : ∀ {ps : List (Nat × BP)} (x : Rj ps A), mZ ps = true → ∀ p ∈ Qj ps x, ∀ st j d env ps as bd N, p.2 ≠ .loop st j d env ps as bd N
 |[],x,h,p,hp=>by simp [Qj] at hp
 |(s,b)::r,x,h,p,hp=>by
  simp only [Qj,List.mem_cons] at hp
  intro st j d env ps as bd N
  rcases hp with rfl|hp
  ·cases b with
   |loop=>simp [mZ] at h
   |arr=>simp [BP.v]
   |cells=>simp [BP.v]
   |gX=>simp [BP.v]
   |map=>simp [BP.v]
   |mE=>simp [BP.v]
  ·refine Au _ ?_ p hp st j d env ps as bd N
   cases b<;>simp [mZ] at h<;>exact h
def Xt (kz:Kz R) (no:R) (ht:Ht) (vs:List V) (nx:Nat) (bl:ai) (K:V→Nat→ai→R):R :=
 match an (Nat.beq vs.length ht.p.env.length) (mZ ht.p.bl) with
 |true=>ht.p.rdP no (args 0 vs) nx bl fun π x=>match an (BV π) (BW (nx+π.length) π) with
  |true=>kz.bd (ht.fn x) fun y=>fN (π.length+ht.q.gI.length) fun n=>ht.q.go n y fun env _ bI _=>match nP (sig π nx n) 8 (get 0 env) with
   |some r'=>match DZ (sig π nx n) bI with
    |some Va=>Z8 (Va++xC π bl) fun bl=>fN (nx+n) fun nx=>K r' nx bl
    |none=>kz.no
   |none=>kz.no
  |false=>no
 |false=>no
theorem args_at:∀{vs:List V} {n i:Nat},get i (args n vs)=if n≤i then vs.getD (i - n) .any else .any:=wO
theorem rQ {A : Type} : ∀ {ps : List (Nat × SP)} {x : zm ps A}, (xg ps x).length = ps.length
 |[],_=>rfl
 |(_,_)::r,x=>by simp [xg,rQ (ps:=r)]
theorem Rz {π:List Nat} {vs:List V} {env:Env} (hlen:vs.length=env.length) (hs:env.map (·.1)=List.range env.length) (h:EE π env (args 0 vs)):CV π (env.map (·.2)) vs:=by
 refine ⟨by simp [hlen],fun i v u hv hu=>?_⟩
 rw [List.getElem?_map] at hv
 cases hp:env[i]? with
 |none=>rw [hp] at hv;cases hv
 |some p =>
  rw [hp] at hv;cases hv
  have hi:=(List.getElem?_eq_some_iff.1 hp).1
  have e1:(env.map (·.1))[i]?=(List.range env.length)[i]?:=by rw [hs]
  rw [List.getElem?_map,hp,List.getElem?_range hi] at e1
  simp only [Option.map_some,Option.some.injEq] at e1
  have:=h p (List.mem_of_getElem? hp)
  rw [args_at,e1,if_pos (Nat.zero_le _)] at this
  simp only [Nat.sub_zero] at this
  have e2:vs.getD i .any=u:=by simp [List.getD,hu]
  rwa [e2] at this
theorem oB {A : Type} : ∀ {ps : List (Nat × SP)} {x : zm ps A}, (xg ps x).map (·.1) = ps.map (·.1)
 |[],_=>rfl
 |(_,_)::r,x=>by simp [xg,oB (ps:=r)]
theorem az.Vb {p:az} {x:p.T}:(p.E x).length=p.env.length:=rQ
theorem az.vw {p:az} {x:p.T}:(p.E x).map (·.1)=p.env.map (·.1):=oB
def Ht.slots (ht:Ht):Prop:=ht.p.env.map (·.1)=List.range ht.p.env.length
theorem RA {ht:Ht} (hok:ht.Ok P) (hsl:ht.slots) {X:Type} {no:Option X} {vs:List V} {nx:Nat} {bl:ai} {K:V→Nat→ai→Option X} {r:X} (h:Xt (jf X) no ht vs nx bl K=some r) :
  no=some r∨∀{Q:V→aF→Prop},(∀v nx bl,K v nx bl=some r→Q v ⟨nx,bl⟩)→gN P ht.f vs ⟨nx,bl⟩ Q:=by
 unfold Xt at h
 split at h
 ·rename_i h0
  rw [aO] at h0
  have hlen:=Nat.eq_of_beq_eq_true h0.1
  unfold az.rdP at h
  have key:∀{ls:List Lc} {π0:List Nat} {b:Nat} {k:List Nat→Option X},rM no (args 0 vs) nx bl [] ls π0 b k=some r→no=some r∨∃rr,rr.length=ls.length∧k (π0++rr)=some r:=by
   intro ls
   induction ls with
   |nil=>intro π0 b k hk;exact .inr ⟨[],rfl,by simpa [rM] using hk⟩
   |cons l ls ih =>
    intro π0 b k hk
    simp only [rM] at hk
    split at hk
    ·rename_i i hi
     rw [fK,BM,fK] at hk
     rcases ih hk with hk|⟨rr,h1,h2⟩
     ·exact .inl hk
     ·exact .inr ⟨i::rr,by simp [h1],by simpa using h2⟩
    ·exact .inl hk
  rcases key h with h|⟨π,hπ,h⟩
  ·exact .inl h
  simp only [List.nil_append] at h
  split at h
  ·rename_i hap
   split at h
   ·rename_i f hf
    split at h
    ·rename_i g hg
     split at h
     ·rename_i hnb
      rw [aO] at hnb
      refine .inr fun {Q} hQ=>?_
      obtain ⟨y,hy,h⟩:=qu h
      rw [fK,az.go_eq] at h
      obtain ⟨h1,h2⟩:=rL hf (g ())
      obtain ⟨h3,h4⟩:=BL hg ()
      split at h<;>try (cases h;done)
      rename_i r' hr'
      split at h<;>try (cases h;done)
      rename_i Va Xr
      rw [BO,fK] at h
      have gO:=hok _ _ hy
      rw [←hπ] at gO
      have hB:ht.p.B (f (g ()))=Qj ht.p.bl (g ()):=by unfold az.B;rw [h2]
      refine D0 (Q0:=fun r H=>r=get 0 (ht.q.E y)∧H=⟨π.length+ht.q.gI.length,ht.q.B y⟩) gO ?_ ?_ ?_ (Aq hnb.1) (As hnb.2) ?_
      ·exact Rz (env:=xg ht.p.env (f (g ()))) (hlen.trans rQ.symm) (oB.trans (hsl.trans (by rw [rQ]))) h1
      ·rw [hB];exact h3
      ·rw [hB];exact Au _ h0.2
      ·rintro r n bI ⟨rfl, e⟩
       cases e
       exact ⟨by omega,r',Va,hr',Xr,hQ _ _ _ h⟩
     ·exact .inl h
    ·exact .inl h
   ·exact .inl h
  ·exact .inl h
 ·exact .inl h
def D1 (kz : Kz R) (f : Nat) (vs : List V) (nx : Nat) (bl : ai) (K : V → Nat → ai → R) (no : R) : List Ht → R
 |[]=>no
 |ht::r=>match Nat.beq ht.f f with
  |true=>Xt kz (D1 kz f vs nx bl K no r) ht vs nx bl K
  |false=>D1 kz f vs nx bl K no r
def Nt (P : Program) : List Ht → Prop
 |[]=>True
 |c::r=>(c.Ok P∧c.slots)∧Nt P r
theorem xE {X:Type} {no:Option X} {f:Nat} {vs:List V} {nx:Nat} {bl:ai} {K:V→Nat→ai→Option X} {r:X}:∀{hts:List Ht},Nt P hts→D1 (jf X) f vs nx bl K no hts=some r →
  no=some r∨∀{Q:V→aF→Prop},(∀v nx bl,K v nx bl=some r→Q v ⟨nx,bl⟩)→gN P f vs ⟨nx,bl⟩ Q
 |[],_,h=>.inl h
 |ht::hts,hok,h=>by
  simp only [D1] at h
  split at h
  ·rename_i hf
   have e:=Nat.eq_of_beq_eq_true hf
   subst e
   rcases RA hok.1.1 hok.1.2 h with h|h
   ·exact xE hok.2 h
   ·exact .inr h
  ·exact xE hok.2 h
def aL (vr:List Ct) (hts:List Ht):Cx where
 pc kz f vs K:=DU kz f vs K vr
 ca kz f vs nx bl K:=D1 kz f vs nx bl K (Xn vr kz f vs nx bl K) hts
 rd kz _ _ _ _ _:=kz.no
theorem ax {vr:List Ct} {hts:List Ht} (h:Iu P vr) (h2:Nt P hts):(aL vr hts).Ok P where
 U4 hk:=pE h hk
 Ri:=by
  intro X f vs nx bl K r hk Q hQ
  rcases xE h2 hk with hk|hk
  ·exact (Rt h).Ri hk hQ
  ·exact hk hQ
 Xe hk:=by cases hk
theorem Km {f:Nat} {vs:List V} {H:aF} {Q:V→aF→Prop} (h:gN P f vs H fun r H'=>∃r'' H'' π,jl H.next π ⟨[(0,r)],H',[]⟩ ⟨[(0,r'')],H'',[]⟩∧Q r'' H''):gN P f vs H Q :=
 ⟨h.1,fun Y ι μ w as hI hl=>(h.2 Y ι μ w as hI hl).mono fun e w' ⟨v,ι',μ',r,H',h1,h2,h3,h4,h5,r'',H'',π,h6,h7⟩=>by
  let Y2:Ctx:=⟨Y.w0,Y.ι0,fun i=>if i<H.next then μ i else none,Y.ro,Y.x,[]⟩
  have nW:Inv P Y2 ι' μ' H' w':=⟨h4.below,h4.i0,h4.iB,h4.rd,(fun i L hL=>by
   simp only [Y2] at hL
   split at hL
   ·exact h3 _ _ hL
   ·cases hL),h4.nx,h4.live,h4.inj,h4.lt,h4.gl⟩
  have hR:eF P 1 Y2 ι' μ' ⟨[(0,r)],H',[]⟩ { tmps:=#[v],defers:=[] } w':=⟨(fun t=>by
   rw [bV]
   split
   ·rename_i e;subst e;exact h5
   ·exact .any _),rfl,nW,rfl⟩
  have nC:=h6.rep (fun i hi=>by simp only [Y2];rw [if_neg (by omega)]) hR
  have hle:μ.le (μ'.eU π):=fun i L hL=>by
   have hlt:i<H.next:=by
    rcases Nat.lt_or_ge i H.next with h|h
    ·exact h
    ·rw [hI.nx i h] at hL;cases hL
   exact nC.inv.m0 i L (by simp only [Y2];rw [if_pos hlt];exact hL)
  refine ⟨v,ι',μ'.eU π,r'',H'',h1,h2,hle,⟨h4.below,h4.i0,h4.iB,h4.rd,Mu.le_trans hI.m0 hle,nC.inv.nx,nC.inv.live,nC.inv.inj,nC.inv.lt,hI.gl⟩,?_,h7⟩
  have:=nC.env 0
  rw [bV,if_pos rfl] at this
  exact this⟩
def Av (kz:Kz R) (rs:List RV) (tys:List (Option Ty)) (K:V→Nat→ai→R):Kc R:=fun e env nx bl ms=>match e with
 | .exit _=>kz.no
 | .normal=>go env nx bl ms
 | .ret=>go env nx bl ms
where go (env:Env) (nx:Nat) (bl:ai) (ms:List Nat):R:=match eG ms bl with
 |some bl=>match uM ek ⟨env,⟨nx,bl⟩,[]⟩ rs with
  |some vs=>fV (uk (cO (hTs tys) vs)) fun v=>K v nx bl
  |none=>kz.no
 |none=>kz.no
theorem xF {X : Type} {rs : List RV} {tys : List (Option Ty)} {K : V → Nat → ai → Option X} {r : X} {e : Ex} {env : Env} {nx : Nat} {bl : ai} {ms : List Nat} (h : Av (jf X) rs tys K e env nx bl ms = some r) {Q : V → aF → Prop}
  (hQ:∀v nx bl,K v nx bl=some r→Q v ⟨nx,bl⟩):Bm rs tys Q e ⟨env,⟨nx,bl⟩,ms⟩:=by
 have key:Av.go (jf X) rs tys K env nx bl ms=some r→Bm.ql rs tys Q ⟨env,⟨nx,bl⟩,ms⟩:=fun hg=>by
  unfold Av.go at hg
  unfold Bm.ql
  split at hg<;>try (cases hg;done)
  rename_i bI h1
  simp only
  rw [h1]
  simp only
  split at hg<;>try (cases hg;done)
  rename_i vs h2
  rw [h2]
  rw [nD] at hg
  exact hQ _ _ _ hg
 cases e with
 |exit i=>cases h
 |normal=>exact key h
 |ret=>exact key h
def hfE {N k:Nat} (kz:Kz R) (cx:Cx) (ar:Ar) (pre:List Nat) (rs:List RV) (tys:List (Option Ty)) (p q:az) (body:D P N none k) (inr:q.T→R) (x:p.T):R :=
 p.go k x fun env nx bl _=>kE kz cx ar body env nx bl [] (Av kz rs tys fun r nx bl=>q.rd kz.no pre k [(0,r)] nx bl [] inr)
theorem D2 : ∀ {env : Env} {n : Nat}, env.map (·.1) = List.range' n env.length → args n (env.map (·.2)) = env
 |[],n,_=>rfl
 |(s,v)::r,n,h=>by
  simp only [List.map_cons,List.length_cons,List.range'_succ,List.cons.injEq] at h
  simp only [List.map_cons,args]
  rw [D2 h.2,h.1]
theorem bP (mixed : P.follows .mixedOrders = true) {cx : Cx} (gn : cx.Ok P) {func : Func} {fn : Fn} {ht : Ht} {k : Nat} (hk : ht.p.gI.length = k) (hf : P.funcs[ht.f]? = some func) (htr : cL P func = some fn) (cC : Enters P ht.f)
  (body:D P fn.N none k) (hbody:body.er=fn.body) (hnp:Nat.ble ht.p.env.length fn.np=true) (hsl:ht.slots) (hq:∃s,ht.q.env=[(0,s)]) (hqm:ht.q.ms=[]) {pre:List Nat} (hpre:pre=List.range k)
  (hfn:∀x,hfE (jf ht.q.T) cx ek pre fn.res fn.tys ht.p ht.q body some x=ht.fn x):ht.Ok P:=by
 intro x y hxy
 subst hpre
 rw [←hfn x] at hxy
 unfold hfE at hxy
 rw [az.go_eq] at hxy
 subst hk
 refine Km ?_
 refine j6 hf htr cC (iu mixed) (by rw [List.length_map,az.Vb];exact Nat.le_of_ble_eq_true hnp) ?_
 have ha:args 0 ((ht.p.E x).map (·.2))=ht.p.E x:=D2 (by rw [az.vw,az.Vb,←List.range_eq_range'];exact hsl)
 rw [ha,←hbody]
 refine k9 gn hxy fun e env nx bl ms hk=>?_
 refine xF hk fun v nx bl hk=>?_
 obtain ⟨y',π,h1,h2⟩:=az.dG hk
 cases h1
 obtain ⟨s,hs⟩:=hq
 have he:ht.q.E y=[(0,get 0 (ht.q.E y))]:=by
  have h1:(ht.q.E y).map (·.1)=[0]:=by rw [az.vw,hs];rfl
  cases h2:ht.q.E y with
  |nil=>rw [h2] at h1;cases h1
  |cons a r =>
   obtain ⟨a1,a2⟩:=a
   rw [h2] at h1
   simp only [List.map_cons,List.cons.injEq,List.map_eq_nil_iff] at h1
   obtain ⟨rfl,rfl⟩:=h1
   rw [bV,if_pos rfl]
 refine ⟨_,_,π,?_,rfl,rfl⟩
 have e:az.st ht.p.gI.length ht.q y=⟨[(0,get 0 (ht.q.E y))],⟨ht.p.gI.length+ht.q.gI.length,ht.q.B y⟩,[]⟩:=by
  unfold az.st;rw [←he,hqm]
 rw [←e];exact h2
def Lx {A B : Type} (F : (A → Option B) → A → Option B) : Nat → A → Option B
 |0=>fun _=>none
 |n+1=>F (Lx F n)
noncomputable def xG {A B:Type} (F:(A→Option B)→A→Option B) (x:A):Option B:=by
 classical exact if h:∃(N:Nat) (y:B),∀n,N≤n→Lx F n x=some y then some h.choose_spec.choose else none
theorem Aw {A B:Type} {F:(A→Option B)→A→Option B} {x:A} {y:B} (h:xG F x=some y):∃n,Lx F n x=some y:=by
 unfold xG at h
 split at h
 ·rename_i hx;cases h;exact ⟨hx.choose,hx.choose_spec.choose_spec _ (Nat.le_refl _)⟩
 ·cases h
theorem Iy {A B:Type} {F:(A→Option B)→A→Option B} {x:A} {y:B} {N:Nat} (h:∀n,N≤n→Lx F n x=some y):xG F x=some y:=by
 unfold xG
 have hx:∃(N:Nat) (y:B),∀n,N≤n→Lx F n x=some y:=⟨N,y,h⟩
 rw [dif_pos hx]
 have h1:=hx.choose_spec.choose_spec (max N hx.choose) (Nat.le_max_right _ _)
 rw [h _ (Nat.le_max_left _ _)] at h1
 exact h1.symm
theorem Nv {f:Nat} {p q:az} {F:(p.T→Option q.T)→p.T→Option q.T} (h:∀rec,Ht.Ok P ⟨f,p,q,rec⟩→Ht.Ok P ⟨f,p,q,F rec⟩):Ht.Ok P ⟨f,p,q,xG F⟩:=by
 have key:∀n,Ht.Ok P ⟨f,p,q,Lx F n⟩:=by
  intro n
  induction n with
  |zero=>intro x y hxy;cases hxy
  |succ n ih=>exact h _ ih
 intro x y hxy
 obtain ⟨n,hn⟩:=Aw hxy
 exact key n x y hn
theorem ct_fix {f:Nat} {ps:List SP} {res:SP} {F:(qx ps Unit→Option (res.T Unit))→qx ps Unit→Option (res.T Unit)} (h:∀rec,Ct.Ok P ⟨f,ps,res,rec⟩→Ct.Ok P ⟨f,ps,res,F rec⟩):Ct.Ok P ⟨f,ps,res,xG F⟩:=by
 have key:∀n,Ct.Ok P ⟨f,ps,res,Lx F n⟩:=by
  intro n
  induction n with
  |zero=>intro x y hxy;cases hxy
  |succ n ih=>exact h _ ih
 intro x y hxy
 obtain ⟨n,hn⟩:=Aw hxy
 exact key n x y hn
end
end Go.AM
end
section
namespace Go.AM
open Go.RowKit Go.ChangeShapes Go.WideShapes
def holes (tys:List Ty):List SP:=tys.map fun t=>.c (.hole t)
def D3 : (tys : List Ty) → qx (holes tys) Unit → Prop
 |[],_=>True
 |t::r,x=>Wf t x.1∧D3 r x.2
section
variable {P:Program} {H:Type} {enc:TypeId×Value→H} {W:World} {base:Nat}
def p0 (P : Program) (t : TypeId) : Ty → Bool
 | .unit=>false
 | .prod _ _=>match P.underlying t with
  |some (.struct _)=>true
  |some (.array _ _)=>true
  |_=>false
 |_=>match P.underlying t with
  |some (.struct _)=>false
  |some (.array _ _)=>false
  |_=>true
theorem Nw {t : TypeId} {ty : Ty} (hok : fI P 8 t ty = true) (Kn : p0 P t ty = true) {v : Value} (hv : Value.okWide P W .any base t v) {d : DataW H} {p : List MemPlace}
  (h:DataW.Trod enc P W 0 (fun _=>true) true t v d p):∃y:ty.den,Rel (jy W) (fun _=>none) (tyV ty y) v∧Wf ty y:=by
 obtain ⟨fuel,hf⟩:=h
 obtain ⟨y,hy,wy⟩:=MM hok hf
 refine ⟨y,?_,wy⟩
 cases ty with
 |unit=>simp [p0] at Kn
 |bool =>
  cases hu:P.underlying t with
  |none=>simp [fI,hu] at hok
  |some u =>
   cases u<;>first|(exfalso;simp [p0,hu] at Kn;done)|(exfalso;simp [fI,hu] at hok;done)|simp [fI,hu] at hok
   ·obtain ⟨b, rfl⟩ := okWide_bool hu hv
    simp only [af,Value.cells,List.cons.injEq,Value.bool.injEq,and_true] at hy
    subst hy;exact .bool _
 |str =>
  cases hu:P.underlying t with
  |none=>simp [fI,hu] at hok
  |some u =>
   cases u<;>first|(exfalso;simp [p0,hu] at Kn;done)|(exfalso;simp [fI,hu] at hok;done)|simp [fI,hu] at hok
   ·obtain ⟨b, rfl⟩ := okWide_string hu hv
    simp only [af,Value.cells,List.cons.injEq,Value.string.injEq,and_true] at hy
    subst hy;exact .str _
 |int k =>
  cases hu:P.underlying t with
  |none=>simp [fI,hu] at hok
  |some u =>
   cases u<;>first|(exfalso;simp [p0,hu] at Kn;done)|(exfalso;simp [fI,hu] at hok;done)|simp [fI,hu] at hok
   ·subst hok
    obtain ⟨b,rfl⟩:=okWide_int hu hv
    simp only [af,Value.cells,List.cons.injEq,Value.int.injEq,true_and,and_true] at hy
    subst hy;exact .int _ _
 |list te =>
  cases hu:P.underlying t with
  |none=>simp [fI,hu] at hok
  |some u =>
   cases u<;>first|(exfalso;simp [p0,hu] at Kn;done)|(exfalso;simp [fI,hu] at hok;done)|simp [fI,hu] at hok
   ·obtain ⟨a, len, cap, rfl⟩ := okWide_slice hu hv
    exact .eH _ _ _ hy
 |cq d g a =>
  cases hu:P.underlying t with
  |none=>simp [fI,hu] at hok
  |some u =>
   cases u<;>first|(exfalso;simp [p0,hu] at Kn;done)|(exfalso;simp [fI,hu] at hok;done)|simp [fI,hu] at hok
 |prod a b =>
  cases hu:P.underlying t with
  |none=>simp [fI,hu] at hok
  |some u =>
   have hcs:∃cs:Array Value,v = .agg cs:=by
    cases u<;>simp [fI,hu] at hok
    ·simp only [Value.okWide,hu] at hv;obtain ⟨cs,h1,_⟩:=hv;exact ⟨cs,h1⟩
    ·obtain ⟨cs,h1,_⟩:=okWide_struct hu hv;exact ⟨cs,h1⟩
   obtain ⟨cs,rfl⟩:=hcs
   have hr:=eP (μ:=fun _=>none) hy
   refine .agg _ cs ?_ (fun i v x hv hx=>hr.2 i v x hv (by simpa [Value.cells] using hx)) ?_
   ·have:=hr.1;simpa [Value.cells] using this
   ·intro x hx;exact af.one hy x (by simpa [Value.cells] using hx)
theorem uz:∀{ts:List TypeId} {tys:List Ty} {vs:List Value} {ds:List (DataW H)} {p:List MemPlace},ts.length=tys.length→(∀(i:Nat) t ty,ts[i]?=some t→tys[i]?=some ty→fI P 8 t ty=true∧p0 P t ty=true) →
  (∀(j:Nat) t v,ts[j]?=some t→vs[j]?=some v→Value.okWide P W .any base t v)→DataW.TrodAll enc P W 0 (fun _=>true) true ts vs ds p →
  ∃x:qx (holes tys) Unit,aG (jy W) (fun _=>none) (DQ (holes tys) x) vs∧D3 tys x
 |[],[],vs,ds,p,_,_,_,h=>by
  obtain ⟨rfl,_,_⟩:=trodAll_nil h
  exact ⟨(),.nil,trivial⟩
 |t::ts,ty::tys,vs,ds,p,hl,hok,hv,h=>by
  obtain ⟨v,vs',d,ds',p1,q,rfl,rfl,rfl,h1,h2⟩:=trodAll_cons h
  obtain ⟨k1,k2⟩:=hok 0 t ty rfl rfl
  obtain ⟨y,hy,wy⟩:=Nw k1 k2 (hv 0 t v rfl rfl) h1
  obtain ⟨x,hx,wx⟩:=uz (by simpa using hl) (fun i t ty ht Dh=>hok (i+1) t ty (by simpa using ht) (by simpa using Dh)) (fun j t v ht pe=>hv (j+1) t v (by simpa using ht) (by simpa using pe)) h2
  exact ⟨(y,x),.cons hy hx,wy,wx⟩
 |[],_::_,_,_,_,hl,_,_,_=>by simp at hl
 |_::_,[],_,_,_,hl,_,_,_=>by simp at hl
theorem qa (hl:laidOutB P=true) {W':World} (hb:Below W.heap.size W W'):∀{ts:List TypeId} {vs:List Value} {ds:List (DataW H)} {p:List MemPlace},(∀t∈ts,P.readableRec t=true∧t<P.types.size) →
  DataW.TrodAll enc P W 0 (fun _=>true) true ts vs ds p→(∀x∈p,x.block<W.heap.size)→DataW.TrodAll enc P W' 0 (fun b=>decide (b<W.heap.size)) true ts vs ds p
 |[],vs,ds,p,_,h,_=>by
  obtain ⟨rfl,rfl,rfl⟩:=trodAll_nil h
  exact trodAll_mk0
 |t::ts,vs,ds,p,ht,h,hp=>by
  obtain ⟨v,vs',d,ds',p1,q,rfl,rfl,rfl,h1,h2⟩:=trodAll_cons h
  obtain ⟨k1,k2⟩:=ht t (List.mem_cons_self ..)
  exact trodAll_cons_mk (Below.trod hl k1 k2 h1 hb (fun x hx=>hp x (List.mem_append_left _ hx))) (qa hl hb (fun t ht'=>ht t (List.mem_cons_of_mem _ ht')) h2 (fun x hx=>hp x (List.mem_append_right _ hx)))
end
def qy (P : Program) : List TypeId → List Ty → Bool
 |[],[]=>true
 |t::ts,ty::tys=>fI P 8 t ty&&p0 P t ty&&P.readableRec t&&Nat.blt t P.types.size&&qy P ts tys
 |_,_=>false
theorem xH {P : Program} : ∀ {ts : List TypeId} {tys : List Ty}, qy P ts tys = true → ts.length = tys.length ∧ (∀ (i : Nat) t ty, ts[i]? = some t → tys[i]? = some ty → fI P 8 t ty = true ∧ p0 P t ty = true) ∧ ∀ t ∈ ts, P.readableRec t = true ∧ t < P.types.size
 |[],[],_=>⟨rfl,fun i t ty h=>by simp at h,fun t h=>by simp at h⟩
 |t::ts,ty::tys,h=>by
  simp only [qy,Bool.and_eq_true] at h
  obtain ⟨⟨⟨⟨h1,h2⟩,h3⟩,h4⟩,h5⟩:=h
  obtain ⟨k1,k2,k3⟩:=xH h5
  refine ⟨by simp [k1],fun i t' ty' ht Dh=>?_,fun t' ht=>?_⟩
  ·cases i with
   |zero=>simp at ht Dh;subst ht;subst Dh;exact ⟨h1,h2⟩
   |succ i=>exact k2 i t' ty' (by simpa using ht) (by simpa using Dh)
  ·rcases List.mem_cons.1 ht with rfl | ht
   ·exact ⟨h3,by simpa [Nat.blt,Nat.succ_le_iff] using h4⟩
   ·exact k3 t' ht
 |[],_::_,h=>by simp [qy] at h
 |_::_,[],h=>by simp [qy] at h
theorem zq {P : Program} {H : Type} {enc : TypeId × Value → H} {f : FuncId} {fn : Func} {s : ChangeSpec} (tys : List Ty) (laid : laidOutB P = true) (hvars : s.vars = []) (Xu : qy P fn.params.toList tys = true)
  {tb:TypeId} (hres:fn.resultTypes=#[tb]) (htb:P.underlying tb=some .bool)
  (hs:∀ds:List (DataW H),ds.length=tys.length→(s.fn H ds).results=[.lit (.bool true)]∧(s.fn H ds).args=ds∧(s.fn H ds).vars=[])
  {F:qx (holes tys) Unit→Option (Bool×Unit)} (hct:Ct.Ok P ⟨f,holes tys,.c (.hole .bool),F⟩) (hF:∀x,D3 tys x→F x=some (true,()))
  {W:World} {base:Nat} {args:Array Value} {ds gs:List (DataW H)} {before:List MemPlace} (hgl:jh P (jy W)) (hval:∀(j:Nat) t v,fn.params[j]?=some t→args[j]?=some v→Value.okWide P W .any base t v)
  (hW:DataW.Whole enc P fn.params.toList s.vars false W args.toList ds gs before) :
  Calls P f args W fun e W'=>∃v,e = .returned v∧s.post enc P fn false true false false W args v W':=by
 have hW':=hW
 obtain ⟨p,q,hA,hV,rfl,hfz,hnd⟩:=hW
 rw [hvars] at hV
 obtain ⟨rfl,rfl⟩:=trodVars_none hV
 obtain ⟨k1,k2,k3⟩:=xH Xu
 obtain ⟨x,hx,wx⟩:=uz (base:=base) k1 k2 (fun j t v ht hv=>hval j t v (by simpa using ht) (by simpa using hv)) hA
 have hlen:ds.length=tys.length:=by
  rw [←k1]
  have:∀{ts:List TypeId} {vs:List Value} {ds:List (DataW H)} {p:List MemPlace},DataW.TrodAll enc P W 0 (fun _=>true) true ts vs ds p→ds.length=ts.length:=by
   intro ts
   induction ts with
   |nil=>intro vs ds p h;obtain ⟨rfl,rfl,rfl⟩:=trodAll_nil h;rfl
   |cons t ts ih=>intro vs ds p h;obtain ⟨v,vs',d,ds',p1,q,rfl,rfl,rfl,h1,h2⟩:=trodAll_cons h;simp [ih h2]
  exact this hA
 simp only [List.append_nil] at hW'
 have gO:=(hct x (true,()) (hF x wx)).2 (jy W) W args hgl (fun b o x h=>h) hx
 refine (callsIn_wide.1 gO).mono ?_
 rintro e W' ⟨v,ι',rfl,_,_,_,jG,hr⟩
 have hv:v = .bool true:=by
  have hr':Rel ι' (fun _=>none) (.bool true) v:=hr
  cases hr';rfl
 subst hv
 have hlt:∀x∈p,x.block<W.heap.size:=fun x hx=>hW'.lt x hx
 obtain ⟨s1,s2,s3⟩:=hs (ds++[]) (by simpa using hlen)
 simp only [List.append_nil] at s1 s2 s3
 refine ⟨_,rfl,ds,[],p,[],p,[],hW',?_,?_,?_,jG.b.frame _,fun h=>by cases h⟩
 ·simp only [List.append_nil]
  rw [s1,hres]
  exact trodAll_cons_mk (p:=[]) (p':=[]) (shut_bool htb _) trodAll_mk0
 ·simp only [List.append_nil]
  rw [s2]
  exact qa laid jG.b k3 hA hlt
 ·simp only [List.append_nil]
  rw [s3,hvars]
  rfl
theorem BX {P : Program} {H : Type} {enc : TypeId × Value → H} {f : FuncId} {fn : Func} {s : ChangeSpec} (tys : List Ty) (laid : laidOutB P = true) (hvars : s.vars = []) (Xu : qy P fn.params.toList tys = true)
  {tb:TypeId} (hres:fn.resultTypes=#[tb]) (htb:P.underlying tb=some .bool)
  (hs:∀ds:List (DataW H),ds.length=tys.length→(s.fn H ds).results=[.lit (.bool true)]∧(s.fn H ds).args=ds∧(s.fn H ds).vars=[])
  {F:qx (holes tys) Unit→Option (Bool×Unit)} (hct:Ct.Ok P ⟨f,holes tys,.c (.hole .bool),F⟩) (hF:∀x,D3 tys x→F x=some (true,()))
  {W:World} {base:Nat} {args:Array Value} {ds gs:List (DataW H)} {before:List MemPlace} (hno:(List.range P.globals.size).all (fun g=>(oW P g).isNone)=true) (hval:∀(j:Nat) t v,fn.params[j]?=some t→args[j]?=some v→Value.okWide P W .any base t v)
  (hW:DataW.Whole enc P fn.params.toList s.vars false W args.toList ds gs before) :
  Calls P f args W fun e W'=>∃v,e = .returned v∧s.post enc P fn false true false false W args v W' :=
 zq tys laid hvars Xu hres htb hs hct hF (jh.none hno _) hval hW
end Go.AM
end
section
namespace Go.AM
theorem aH {z:Int} (h1 : -9223372036854775808≤z) (h2:z≤9223372036854775807):eN .i64 z=true:=by
 have e1:IntKind.i64.min = -9223372036854775808:=by decide
 have e2:IntKind.i64.max=9223372036854775807:=by decide
 simp only [eN,e1,e2,Bool.and_eq_true,decide_eq_true_eq]
 exact ⟨h1,h2⟩
theorem bF {i n:Int} (h:0≤i) (h2:i<n):ew i n=true:=by simp [ew,h,h2]
theorem oC {X:Type} {z:Int} {x:Option X} (h1 : -9223372036854775808≤z) (h2:z≤9223372036854775807):need (eN .i64 z) x=x:=c8 (aH h1 h2)
theorem Nx {X:Type} {i n:Int} {x:Option X} (h:0≤i) (h2:i<n):need (ew i n) x=x:=c8 (bF h h2)
theorem cm {X:Type} {p:Prop} [Decidable p] {x:Option X} (h:p):need (decide p) x=x:=c8 (decide_eq_true h)
theorem Ny {X:Type} {c:Bool} {x y:Option X} (h:c=true):vp c x y=x:=by rw [h,bO]
theorem Gt {X:Type} {c:Bool} {x y:Option X} (h:c=false):vp c x y=y:=by rw [h,bK]
theorem aX {X:Type} {p:Prop} [Decidable p] {x y:Option X}:vp (decide p) x y=if p then x else y:=by
 by_cases h:p<;>simp [h]
theorem bJ {X:Type} {a b:Int} {x y:Option X}:vp (a==b) x y=if a=b then x else y:=by
 by_cases h:a=b
 ·simp [h]
 ·have : (a == b) = false := by simpa using h
  rw [this,bK,if_neg h]
theorem b8 {X:Type} {c:Bool} {x y:Option X}:vp (!c) x y=vp c y x:=by cases c<;>simp
theorem aq {A X:Type} {o:Option A} {a:A} {f:A→Option X} (h:o=some a):ic o f=f a:=by rw [h,aP]
theorem Gu {α β:Type} {step:α→Option (α ⊕ β)} (n:Nat) (g:Nat→α) {b:β} (hr:∀k,k<n→step (g k)=some (.inl (g (k+1)))) (he:step (g n)=some (.inr b)):iter step (g 0)=some b:=by
 have key:∀m k,k+m=n→iter step (g k)=some b:=by
  intro m
  induction m with
  |zero=>intro k hk;rw [show k=n by omega];exact fJ he
  |succ m ih=>intro k hk;exact j8 (hr k (by omega)) (ih (k+1) (by omega))
 exact key n 0 (by omega)
end Go.AM
end
section
namespace Go.AM
structure Le {X:Type} (a b:Option X):Prop where
 h:∀y,a=some y→b=some y
def Vc {X:Type} (c:Bool) (x:Option X):Option X:=match c with
 |true=>x
 |false=>none
def abj {A X:Type} (o:Option A) (f:A→Option X):Option X:=match o with
 |some a=>f a
 |none=>none
def brC {X:Type} (c:Bool) (x y:Option X):Option X:=match c with
 |true=>x
 |false=>y
theorem Le.r {X:Type} {a:Option X}:Le a a:=⟨fun _ h=>h⟩
theorem Le.n {X:Type} {a:Option X}:Le none a:=⟨fun _ h=>by cases h⟩
theorem Le.nd {X:Type} {c:Bool} {a b:Option X} (h:Le a b):Le (Vc c a) (need c b):=by
 cases c
 ·exact Le.n
 ·simpa [Vc] using h
theorem Le.br {X:Type} {c:Bool} {a b a' b':Option X} (h:Le a a') (h':Le b b'):Le (brC c a b) (vp c a' b'):=by
 cases c
 ·simpa [brC] using h'
 ·simpa [brC] using h
theorem Le.bd {A X:Type} {o o':Option A} {f f':A→Option X} (h:Le o o') (hf:∀y,Le (f y) (f' y)):Le (abj o f) (ic o' f'):=⟨fun y hy=>by
 cases o with
 |none=>cases hy
 |some a=>rw [h.h a rfl,aP];exact (hf a).h y hy⟩
theorem Le.iter {α β:Type} {g g':α→Option (α ⊕ β)} {n:Nat} {x:α} (h:∀x,Le (g x) (g' x)):Le (jA g n x) (AM.iter g' x):=⟨fun y hy=>by
 refine BE (n:=n) ?_
 induction n generalizing x with
 |zero=>cases hy
 |succ n ih =>
  simp only [jA] at hy ⊢
  cases hg:g x with
  |none=>rw [hg] at hy;cases hy
  |some r =>
   rw [hg] at hy
   rw [(h x).h r hg]
   cases r with
   |inl z=>exact ih hy
   |inr b=>exact hy⟩
theorem Le.Lx {A B:Type} {F F':(A→Option B)→A→Option B} (h:∀r r',(∀x,Le (r x) (r' x))→∀x,Le (F r x) (F' r' x)):∀n m,n≤m→∀x,Le (AM.Lx F n x) (AM.Lx F' m x):=by
 intro n
 induction n with
 |zero=>intro m _ x;exact Le.n
 |succ n ih =>
  intro m hm x
  cases m with
  |zero=>omega
  |succ m=>exact h _ _ (ih m (by omega)) x
theorem Le.done {X:Type} {a b:Option X} {y:X} (h:Le a b) (e:a=some y):b=some y:=h.h y e
end Go.AM
end
section
namespace Go.AM
@[reducible] def onS {A B:Type} {Y:Type _} (f:A→Y) (g:B→Y) (z:A ⊕ B):Y:=match z with
 | .inl a=>f a
 | .inr b=>g b
inductive Tr:Type→Type→Type→Type 1 where
 |ret {A0 B0 X:Type} (x:X):Tr A0 B0 X
 |no {A0 B0 X:Type}:Tr A0 B0 X
 |br {A0 B0 X:Type} (c:Bool) (a b:Tr A0 B0 X):Tr A0 B0 X
 |am {A0 B0 X:Type} (d:DecidableEq X) (a b:Tr A0 B0 X):Tr A0 B0 X
 |nd {A0 B0 X:Type} (c:Bool) (a:Tr A0 B0 X):Tr A0 B0 X
 |bd {A0 B0 A X:Type} (o:Tr A0 B0 A) (k:A→Tr A0 B0 X):Tr A0 B0 X
 |jx {A0 B0 A X:Type} (o:Tr A0 B0 (A ⊕ X)) (k:A→Tr A0 B0 X):Tr A0 B0 X
 |sm {A0 B0 A B X:Type} (z:A ⊕ B) (f:A→Tr A0 B0 X) (g:B→Tr A0 B0 X):Tr A0 B0 X
 |it {A0 B0 A B:Type} (step:A→Tr A0 B0 (A ⊕ B)) (x:A):Tr A0 B0 B
 |rc {A0 B0:Type} (x:A0):Tr A0 B0 B0
 |fx {A0 B0 A1 B1:Type} (body:A1→Tr A1 B1 B1) (x:A1):Tr A0 B0 B1
 |up {A0 B0 X:Type} (t:Tr Unit Unit X):Tr A0 B0 X
 |of {A0 B0 X:Type} (o:Option X):Tr A0 B0 X
 |mp {A0 B0 E A B:Type} (step:E→A→Tr A0 B0 (A ⊕ B)) (es:List E) (x:A):Tr A0 B0 (A ⊕ B)
 |mq {A0 B0 E A:Type} (step:E→A→Tr A0 B0 A) (es:List E) (x:A):Tr A0 B0 A
 |an {A0 B0 E X:Type} (es:List E) (k:List E→Tr A0 B0 X):Tr A0 B0 X
 |fm {A0 B0 E A:Type} (step:E→A→Tr A0 B0 A) (l:List E) (x:A):Tr A0 B0 A
abbrev bQ (X:Type):=Tr Unit Unit X
noncomputable def run : {A0 B0 X : Type} → (A0 → Option B0) → Tr A0 B0 X → Option X
 |_,_,_,_,.ret x=>some x
 |_,_,_,_,.no=>none
 |_,_,_,r,.br c a b=>vp c (run r a) (run r b)
 |_,_,_,r,.am _ a b=>DK (run r a) (run r b)
 |_,_,_,r,.nd c a=>need c (run r a)
 |_,_,_,r,.bd o k=>ic (run r o) fun a=>run r (k a)
 |_,_,_,r,.jx o k=>ic (run r o) (onS (fun a=>run r (k a)) some)
 |_,_,_,r,.sm z f g=>match z with
  | .inl x=>run r (f x)
  | .inr y=>run r (g y)
 |_,_,_,r,.it step x=>iter (fun a=>run r (step a)) x
 |_,_,_,r,.rc x=>r x
 |_,_,_,_,.fx body x=>xG (fun r y=>run r (body y)) x
 |_,_,_,_,.up t=>run (fun _=>none) t
 |_,_,_,_,.of o=>o
 |_,_,_,r,.mp step es x=>iw (fun l=>zi (fun e a=>run r (step e a)) l x) es
 |_,_,_,r,.mq step es x=>iw (fun l=>Ag (fun e a=>run r (step e a)) l x) es
 |_,_,_,r,.an es k=>iw (fun l=>run r (k l)) es
 |_,_,_,r,.fm step l x=>Ag (fun e a=>run r (step e a)) l x
noncomputable abbrev ak {X:Type} (t:bQ X):Option X:=run (fun _=>none) t
section
variable {A0 B0 A1 B1 A B X:Type} {r:A0→Option B0}
theorem aa {x:X}:run r (.ret x)=some x:=rfl
theorem av {c:Bool} {a b:Tr A0 B0 X}:run r (.br c a b)=vp c (run r a) (run r b):=rfl
theorem Xv {d:DecidableEq X} {a b:Tr A0 B0 X}:run r (.am d a b)=DK (run r a) (run r b):=rfl
theorem aY {c:Bool} {a:Tr A0 B0 X}:run r (.nd c a)=need c (run r a):=rfl
theorem aA {o:Tr A0 B0 A} {k:A→Tr A0 B0 X}:run r (.bd o k)=ic (run r o) fun a=>run r (k a):=rfl
theorem oD {x:A} {f:A→Tr A0 B0 X} {g:B→Tr A0 B0 X}:run r (.sm (.inl x) f g)=run r (f x):=rfl
theorem lM {y:B} {f:A→Tr A0 B0 X} {g:B→Tr A0 B0 X}:run r (.sm (.inr y) f g)=run r (g y):=rfl
theorem bw {step:A→Tr A0 B0 (A ⊕ B)} {x:A}:run r (.it step x)=iter (fun a=>run r (step a)) x:=rfl
theorem Xw {x:A0}:run r (.rc x)=r x:=rfl
theorem xI {o:Option X}:run r (.of o)=o:=rfl
theorem Xx {E:Type} {step:E→A→Tr A0 B0 (A ⊕ B)} {es:List E} {x:A}:run r (.mp step es x)=iw (fun l=>zi (fun e a=>run r (step e a)) l x) es:=rfl
theorem B3 {E:Type} {es:List E} {k:List E→Tr A0 B0 X}:run r (.an es k)=iw (fun l=>run r (k l)) es:=rfl
theorem B4 {E:Type} {step:E→A→Tr A0 B0 A} {l:List E} {x:A}:run r (.fm step l x)=Ag (fun e a=>run r (step e a)) l x:=rfl
theorem Gv {E:Type} {step:E→A→Tr A0 B0 A} {es:List E} {x:A}:run r (.mq step es x)=iw (fun l=>Ag (fun e a=>run r (step e a)) l x) es:=rfl
end
def ambC {X:Type} (d:DecidableEq X) (x y:Option X):Option X:=match x,y with
 |some a,some b=>match d a b with
  | .isTrue _=>some a
  | .isFalse _=>none
 |_,_=>none
theorem Le.am {X:Type} {d:DecidableEq X} {a b a' b':Option X} (h:Le a a') (h':Le b b'):Le (ambC d a b) (DK a' b'):=⟨fun y hy=>by
 cases a with
 |none=>cases hy
 |some u=>cases b with
  |none=>cases hy
  |some v =>
   simp only [ambC] at hy
   split at hy
   ·rename_i e _; cases hy; subst e
    rw [h.h _ rfl,h'.h _ rfl,Ai]
   ·cases hy⟩
@[reducible] def Tr.ni {A0 B0 X:Type} (z:Int) (a:Tr A0 B0 X):Tr A0 B0 X:=.nd (eN .i64 z) a
@[reducible] def Tr.nb {A0 B0 X:Type} (i n:Int) (a:Tr A0 B0 X):Tr A0 B0 X:=.nd (ew i n) a
theorem aN {A0 B0 X:Type} {r:A0→Option B0} {z:Int} {a:Tr A0 B0 X}:run r (.ni z a)=need (eN .i64 z) (run r a):=rfl
theorem aU {A0 B0 X:Type} {r:A0→Option B0} {i n:Int} {a:Tr A0 B0 X}:run r (.nb i n a)=need (ew i n) (run r a):=rfl
def flatK : {A0 B0 A X : Type} → Tr A0 B0 A → (A → Tr A0 B0 X) → Tr A0 B0 X
 |_,_,_,_,.ret x,k=>k x
 |_,_,_,_,.no,_=>.no
 |_,_,_,_,.br c a b,k=>.br c (flatK a k) (flatK b k)
 |_,_,_,_,.am d a b,k=>.bd (.am d a b) k
 |_,_,_,_,.nd c a,k=>.nd c (flatK a k)
 |_,_,_,_,.bd o f,k=>.bd o fun a=>flatK (f a) k
 |_,_,_,_,.jx o f,k=>flatK o (onS (fun a=>flatK (f a) k) k)
 |_,_,_,_,.sm z f g,k=>.sm z (fun x=>flatK (f x) k) (fun y=>flatK (g y) k)
 |_,_,_,_,.it step x,k=>.bd (.it step x) k
 |_,_,_,_,.rc x,k=>.bd (.rc x) k
 |_,_,_,_,.fx b x,k=>.bd (.fx b x) k
 |_,_,_,_,.up t,k=>.bd (.up t) k
 |_,_,_,_,.of o,k=>.bd (.of o) k
 |_,_,_,_,.mp s es x,k=>.bd (.mp s es x) k
 |_,_,_,_,.mq s es x,k=>.bd (.mq s es x) k
 |_,_,_,_,.an es f,k=>.bd (.an es f) k
 |_,_,_,_,.fm s l x,k=>.bd (.fm s l x) k
def flat {A0 B0 X:Type} (t:Tr A0 B0 X):Tr A0 B0 X:=flatK t .ret
end Go.AM
end
section
namespace Go.AM
inductive LR (P:Program) (N:Nat) (out:Option Nat) (base:Nat):Type 1 where
 |l (x:bS P N out base)
 |r (x:gm P N out base)
 |m (x:rG P N out base)
 |x
def nl : C → Nat
 | .seq a b=>nl a+nl b
 | .cond _ a b=>nl a+nl b
 | .block _ a=>nl a
 | .loop _=>1
 | .bD _ _ _ _=>1
 | .gH _ _ _ _ _ _ _ _ _ _ _=>1
 |_=>0
section
variable {P:Program} {N:Nat} {out:Option Nat} {base:Nat}
def RB : List (LR P N out base) → Nat → LR P N out base
 |[],_=>.x
 |y::_,0=>y
 |_::r,n+1=>RB r n
def dO (ls : List (LR P N out base)) : C → Nat → D P N out base
 | .skip,_=>.skip
 | .aS is,_=>.aS is
 | .draw ps is,_=>.draw ps is
 | .seq a b,i=>.seq (dO ls a i) (dO ls b (i+nl a))
 | .cond c a b,i=>.cond c (dO ls a i) (dO ls b (i+nl a))
 | .block n a,i=>.block n (dO ls a i)
 | .loop c,i=>match RB ls i with
  | .l l=>.loop l
  |_=>.loop (Nq c)
 | .exit n,_=>.exit n
 | .ret,_=>.ret
 | .bD f ps a b,i=>match RB ls i with
  | .r l=>.bD l
  |_=>.bD (Kl f ps a b)
 | .gH p m t cl e kt kg vt vg d b,i=>match RB ls i with
  | .m l=>.gH l
  |_=>.gH (Rw p m t cl e kt kg vt vg d b)
end
def tN (b : Bool) : C → Nat → C
 | .seq x y,k=>match Nat.blt k (nl x) with
  |true=>tN b x k
  |false=>tN b y (k - nl x)
 | .cond _ x y,k=>match Nat.blt k (nl x) with
  |true=>tN b x k
  |false=>tN b y (k - nl x)
 | .block _ x,k=>tN b x k
 | .loop c,_=>c
 | .bD _ _ x y,_=>match b with
  |true=>y
  |false=>x
 | .gH _ _ _ _ _ _ _ _ _ _ x,_=>x
 |c,_=>c
def pick : C → List (Nat × Bool) → C
 |c,[]=>c
 |c,(k,b)::r=>pick (tN b c k) r
def kd (P:Program) (f:Func):C:=match cL P f with
 |some t=>t.body
 |none=>.skip
@[reducible] def hI:SP:=.c (.hole (.int .i64))
@[reducible] def hL:SP:=.c (.hole (.list (.int .i64)))
@[reducible] def ZV:SP:=.c (.hole (.list (.list (.int .i64))))
@[reducible] def tI:Ty:=.int .i64
@[reducible] def tL:Ty:=.list (.int .i64)
end Go.AM
end
section
namespace Go.AM
section
variable {P:Program} {N:Nat} {out:Option Nat} {base:Nat}
end
section
variable {P:Program} {N:Nat} {out:Option Nat} {base:Nat}
theorem get_none : ∀ {env : Env} {t : Nat}, t ∉ env.map (·.1) → get t env = .any
 |[],_,_=>rfl
 |(s,v)::r,t,h=>by
  simp only [List.map_cons,List.mem_cons,not_or] at h
  rw [bV,if_neg (fun e=>h.1 e.symm)]
  exact get_none h.2
noncomputable def Gw {R : Type} (kz : Kz R) (cx : Cx) (oE : List Nat) (p : az) (xs : aW) (mn it : Nat) (cl : List Nat) (e : Option Nat) (kt : Ty) (kg : Bool) (vt : Ty) (vg : Bool) {cW : Nat} (body : D P N out cW) (inl : p.T → R) (inr : xs.T → R)
  (kZ:kt.den×vt.den) (x:p.T):R :=
 fN (base+p.gI.length) fun aC=>p.go aC x fun env _ bl ms=>match get mn env with
  | .mp id=>match js bl kt kg vt vg id with
   |some es=>Ki (Rb e kt kg vt vg kZ ((it,.ptr aC 0)::env)) fun env=>fN (aC+1) fun nx=>kE kz cx ek body env nx bl ms fun ex env nx bl ms=>match ex with
    | .normal=>match get it env with
     | .ptr i o=>match an (Nat.beq i aC) (Nat.beq o 0) with
      |true=>match get mn env with
       | .mp id'=>match Nat.beq id' id with
        |true=>match js bl kt kg vt vg id with
         |some es'=>kz.nd (jB es' es) (p.rd kz.no oE base (dZ (it::cl) env) nx bl ms inl)
         |none=>kz.no
        |false=>kz.no
       |_=>kz.no
      |false=>kz.no
     |_=>kz.no
    | .exit i=>xs.rd kz.no oE base (.exit i) env nx bl ms inr
    | .ret=>xs.rd kz.no oE base .ret env nx bl ms inr
   |none=>kz.no
  |_=>kz.no
def Gx {R:Type} (kz:Kz R) (cx:Cx) (oE:List Nat) (p:az) (pre:List eM) (mn it:Nat) (cl:List Nat) (kt:Ty) (kg:Bool) (vt:Ty) (vg:Bool) (env:Env) (nx:Nat) (bl:ai) (ms:List Nat) (k:List (kt.den×vt.den)→p.T→R):R :=
 kI kz cx ek pre env nx bl fun env nx bl=>match get mn env with
  | .mp id=>match js bl kt kg vt vg id with
   |some es=>p.rd kz.no oE base (dZ (it::cl) env) nx bl ms fun x=>k es x
   |none=>kz.no
  |_=>kz.no
theorem Nz (mixed : P.follows .mixedOrders = true) {cx : Cx} (gn : cx.Ok P) {p : az} {xs : aW} (hxs : xs.all (fun p => !Gs p.1 .normal) = true) {pre : List eM} {mn it : Nat} {cl : List Nat} {e : Option Nat} {kt vt : Ty} {kg vg : Bool} {pR : Nat}
  (yQ:p.env.all (fun q => !(it::cl).contains q.1)=true) {cW:Nat} (eL:cW=base+p.gI.length+1) {body:D P N out cW} {step:kt.den×vt.den→p.T→Option (p.T ⊕ xs.T)}
  (hstep:∀kZ x,Gw (base:=base) (jf (p.T ⊕ xs.T)) cx (List.range base) p xs mn it cl e kt kg vt vg body (fun y=>some (.inl y)) (fun b=>some (.inr b)) kZ x=step kZ x) {X:Type} {env:Env} {nx:Nat} {bl:ai} {ms:List Nat} {r:X} {Q:Ex→St→Prop}
  {k:List (kt.den×vt.den)→p.T→Option X} (h:Gx (base:=base) (jf X) cx (List.range base) p pre mn it cl kt kg vt vg env nx bl ms k=some r)
  (hk:∀es x,k es x=some r→∃res,(∀l:List (kt.den×vt.den),l.Perm es→zi step l x=some res)∧(match res with | .inl y=>Q .normal (p.st base y) | .inr b=>Q (DI pR (xs.st base b).1) (xs.st base b).2)) :
  (gb P N out base).gH (.gH pre (.t mn) it cl e kt kg vt vg pR body.er) ⟨env,⟨nx,bl⟩,ms⟩ Q:=by
 subst eL
 refine DJ (fun b=>iu mixed) (I:=p.st base) (X:=xs.st base) (step:=step) (aC:=base+p.gI.length) (fun x s hs=>?_) (fun x=>rfl) (fun kZ x r hx=>?_) ?_
 ·refine get_none (env := p.E x) fun hm => ?_
  rw [az.vw] at hm
  obtain ⟨q,hq,rfl⟩:=List.mem_map.1 hm
  have:=List.all_eq_true.1 yQ q hq
  simp only [Bool.not_eq_true',←Bool.not_eq_true] at this
  exact this (by simpa using hs)
 ·rw [← hstep kZ x] at hx
  unfold Gw at hx
  rw [fK,az.go_eq] at hx
  split at hx<;>try (cases hx;done)
  rename_i id hid
  split at hx<;>try (cases hx;done)
  rename_i es CR
  rw [rN,fK] at hx
  refine ⟨id,es,hid,CR,k9 gn hx fun ex env nx bl ms hk=>?_⟩
  cases ex with
  |normal =>
   simp only at hk
   split at hk<;>try (cases hk;done)
   rename_i i o hit
   split at hk<;>try (cases hk;done)
   rename_i wk
   rw [aO] at wk
   have e1:=Nat.eq_of_beq_eq_true wk.1
   have e2:=Nat.eq_of_beq_eq_true wk.2
   subst e1;subst e2
   split at hk<;>try (cases hk;done)
   rename_i id' Xy
   split at hk<;>try (cases hk;done)
   rename_i hbe
   have e3:=Nat.eq_of_beq_eq_true hbe
   subst e3
   split at hk<;>try (cases hk;done)
   rename_i es' J8
   have hk2:=(de hk).2
   have e4:=DG (de hk).1
   clear hk
   subst e4
   obtain ⟨y,π,h1,h2⟩:=az.dG hk2
   cases h1
   exact ⟨rfl,hit,Xy,J8,π,h2⟩
  |exit i =>
   obtain ⟨y,π,q1,q2,q3⟩:=aW.dG hk
   cases q1
   exact ⟨by simp,q2,π,q3⟩
  |ret =>
   obtain ⟨y,π,q1,q2,q3⟩:=aW.dG hk
   cases q1
   exact ⟨by simp,q2,π,q3⟩
 ·unfold Gx at h
  refine oz gn h fun env nx bl h=>?_
  split at h<;>try (cases h;done)
  rename_i id hid
  split at h<;>try (cases h;done)
  rename_i es CR
  obtain ⟨x,π,h1,h2⟩:=az.dG h
  obtain ⟨res,h3,h4⟩:=hk es x h1
  exact ⟨id,es,x,π,hid,CR,h2,fun l hl=>⟨res,h3 l hl,by cases res<;>exact h4⟩⟩
def noB {R:Type}:Empty→R:=fun b=>nomatch b
theorem Vd {E α : Type} {step : E → α → Option α} : ∀ {l : List E} {x y : α}, Ag step l x = some y → zi (fun e x => (step e x).map (Sum.inl (β := Empty))) l x = some (.inl y)
 |[],x,y,h=>by cases h;rfl
 |e::r,x,y,h=>by
  simp only [Ag] at h
  split at h<;>try (cases h;done)
  rename_i z hz
  simp only [zi,hz,Option.map_some]
  exact Vd h
theorem Ay (mixed : P.follows .mixedOrders = true) {cx : Cx} (gn : cx.Ok P) {p : az} {pre : List eM} {mn it : Nat} {cl : List Nat} {e : Option Nat} {kt vt : Ty} {kg vg : Bool} {pR : Nat}
  (yQ:p.env.all (fun q => !(it::cl).contains q.1)=true) {cW:Nat} (eL:cW=base+p.gI.length+1) {body:D P N out cW} {step:kt.den×vt.den→p.T→Option p.T}
  (hstep:∀kZ x,Gw (base:=base) (jf p.T) cx (List.range base) p [] mn it cl e kt kg vt vg body (fun y=>some y) noB kZ x=step kZ x) {X:Type} {env:Env} {nx:Nat} {bl:ai} {ms:List Nat} {r:X} {Q:Ex→St→Prop}
  {k:List (kt.den×vt.den)→p.T→Option X} (h:Gx (base:=base) (jf X) cx (List.range base) p pre mn it cl kt kg vt vg env nx bl ms k=some r)
  (hk:∀es x,k es x=some r→∀l:List (kt.den×vt.den),l.Perm es→∃y,Ag step l x=some y∧Q .normal (p.st base y)) :
  (gb P N out base).gH (.gH pre (.t mn) it cl e kt kg vt vg pR body.er) ⟨env,⟨nx,bl⟩,ms⟩ Q:=by
 subst eL
 refine DJ (fun b=>iu mixed) (I:=p.st base) (X:=fun b:Empty=>nomatch b) (step:=fun e x=>(step e x).map (Sum.inl (β:=Empty))) (aC:=base+p.gI.length) (fun x s hs=>?_) (fun x=>rfl) (fun kZ x r hx=>?_) ?_
 ·refine get_none (env := p.E x) fun hm => ?_
  rw [az.vw] at hm
  obtain ⟨q,hq,rfl⟩:=List.mem_map.1 hm
  have:=List.all_eq_true.1 yQ q hq
  simp only [Bool.not_eq_true',←Bool.not_eq_true] at this
  exact this (by simpa using hs)
 ·obtain ⟨y0, hx0, rfl⟩ := Option.map_eq_some_iff.1 hx
  clear hx
  rename _=>hx
  rw [←hstep kZ x] at hx
  unfold Gw at hx
  rw [fK,az.go_eq] at hx
  split at hx<;>try (cases hx;done)
  rename_i id hid
  split at hx<;>try (cases hx;done)
  rename_i es CR
  rw [rN,fK] at hx
  refine ⟨id,es,hid,CR,k9 gn hx fun ex env nx bl ms hk=>?_⟩
  cases ex with
  |normal =>
   simp only at hk
   split at hk<;>try (cases hk;done)
   rename_i i o hit
   split at hk<;>try (cases hk;done)
   rename_i wk
   rw [aO] at wk
   have e1:=Nat.eq_of_beq_eq_true wk.1
   have e2:=Nat.eq_of_beq_eq_true wk.2
   subst e1;subst e2
   split at hk<;>try (cases hk;done)
   rename_i id' Xy
   split at hk<;>try (cases hk;done)
   rename_i hbe
   have e3:=Nat.eq_of_beq_eq_true hbe
   subst e3
   split at hk<;>try (cases hk;done)
   rename_i es' J8
   have hk2:=(de hk).2
   have e4:=DG (de hk).1
   clear hk
   subst e4
   obtain ⟨y,π,h1,h2⟩:=az.dG hk2
   cases h1
   exact ⟨rfl,hit,Xy,J8,π,h2⟩
  |exit i=>cases hk
  |ret=>cases hk
 ·unfold Gx at h
  refine oz gn h fun env nx bl h=>?_
  split at h<;>try (cases h;done)
  rename_i id hid
  split at h<;>try (cases h;done)
  rename_i es CR
  obtain ⟨x,π,h1,h2⟩:=az.dG h
  exact ⟨id,es,x,π,hid,CR,h2,fun l hl=>by
   obtain ⟨y,h3,h4⟩:=hk es x h1 l hl
   exact ⟨.inl y,Vd h3,h4⟩⟩
noncomputable def Xz (mixed : P.follows .mixedOrders = true) (cx : Cx) (gn : cx.Ok P) (oE : List Nat) (D4 : oE = List.range base) (p : az) (xs : aW) (hxs : xs.all (fun p => !Gs p.1 .normal) = true) (pre : List eM) (mn it : Nat) (cl : List Nat)
  (e:Option Nat) (kt:Ty) (kg:Bool) (vt:Ty) (vg:Bool) (pR:Nat) (yQ:p.env.all (fun q => !(it::cl).contains q.1)=true) (cW:Nat) (eL:cW=base+p.gI.length+1) (body:D P N out cW) (step:kt.den×vt.den→p.T→Option (p.T ⊕ xs.T))
  (hstep:∀kZ x,Gw (base:=base) (jf (p.T ⊕ xs.T)) cx oE p xs mn it cl e kt kg vt vg body (fun y=>some (.inl y)) (fun b=>some (.inr b)) kZ x=step kZ x):rG P N out base where
 pre:=pre
 m:=.t mn
 it:=it
 cl:=cl
 e:=e
 kt:=kt
 kg:=kg
 vt:=vt
 vg:=vg
 pR:=pR
 b:=body.er
 run kz env nx bl ms K:=Gx (base:=base) kz cx oE p pre mn it cl kt kg vt vg env nx bl ms fun es x=>kz.bd (iw (fun l=>zi step l x) es) fun z=>kz.sm z (fun y=>fN (base+p.gI.length) fun nx=>p.go nx y (K .normal)) fun b=>xs.go kz base b fun e=>K (DI pR e)
 ok:=by
  intro X env nx bl ms K r h Q hQ
  subst D4
  refine Nz mixed gn hxs yQ eL hstep h fun es x hk=>?_
  obtain ⟨z,h1,h2⟩:=pn hk
  refine ⟨z,oy h1,?_⟩
  cases z with
  |inl y =>
   simp only [fK,az.go_eq] at h2
   exact hQ _ _ _ _ _ h2
  |inr b=>exact hQ _ _ _ _ _ (aW.Am (xs:=xs) h2)
noncomputable def B5 (mixed : P.follows .mixedOrders = true) (cx : Cx) (gn : cx.Ok P) (oE : List Nat) (D4 : oE = List.range base) (p : az) (pre : List eM) (mn it : Nat) (cl : List Nat)
  (e:Option Nat) (kt:Ty) (kg:Bool) (vt:Ty) (vg:Bool) (pR:Nat) (yQ:p.env.all (fun q => !(it::cl).contains q.1)=true) (cW:Nat) (eL:cW=base+p.gI.length+1) (body:D P N out cW) (step:kt.den×vt.den→p.T→Option p.T)
  (hstep:∀kZ x,Gw (base:=base) (jf p.T) cx oE p [] mn it cl e kt kg vt vg body (fun y=>some y) noB kZ x=step kZ x):rG P N out base where
 pre:=pre
 m:=.t mn
 it:=it
 cl:=cl
 e:=e
 kt:=kt
 kg:=kg
 vt:=vt
 vg:=vg
 pR:=pR
 b:=body.er
 run kz env nx bl ms K:=Gx (base:=base) kz cx oE p pre mn it cl kt kg vt vg env nx bl ms fun es x=>kz.bd (iw (fun l=>Ag step l x) es) fun y=>fN (base+p.gI.length) fun nx=>p.go nx y (K .normal)
 ok:=by
  intro X env nx bl ms K r h Q hQ
  subst D4
  refine Ay mixed gn yQ eL hstep h fun es x hk=>?_
  obtain ⟨y,h1,h2⟩:=pn hk
  simp only [fK,az.go_eq] at h2
  exact fun l hl=>⟨y,oy h1 l hl,hQ _ _ _ _ _ h2⟩
noncomputable def vz (mixed : P.follows .mixedOrders = true) (cx : Cx) (gn : cx.Ok P) (oE : List Nat) (D4 : oE = List.range base) (p : az) (pre : List eM) (mn it : Nat) (cl : List Nat)
  (e:Option Nat) (kt:Ty) (kg:Bool) (vt:Ty) (vg:Bool) (pR:Nat) (yQ:p.env.all (fun q => !(it::cl).contains q.1)=true) (cW:Nat) (eL:cW=base+p.gI.length+1) (body:D P N out cW) (step:kt.den×vt.den→p.T→Option p.T)
  (hstep:∀kZ x,Gw (base:=base) (jf p.T) cx oE p [] mn it cl e kt kg vt vg body (fun y=>some y) noB kZ x=step kZ x):rG P N out base where
 pre:=pre
 m:=.t mn
 it:=it
 cl:=cl
 e:=e
 kt:=kt
 kg:=kg
 vt:=vt
 vg:=vg
 pR:=pR
 b:=body.er
 run kz env nx bl ms K:=Gx (base:=base) kz cx oE p pre mn it cl kt kg vt vg env nx bl ms fun es x=>kz.an es fun l=>kz.bd (Ag step l x) fun y=>fN (base+p.gI.length) fun nx=>p.go nx y (K .normal)
 ok:=by
  intro X env nx bl ms K r h Q hQ
  subst D4
  refine Ay mixed gn yQ eL hstep h fun es x hk l hl=>?_
  obtain ⟨y,h1,h2⟩:=pn (oy hk l hl)
  simp only [fK,az.go_eq] at h2
  exact ⟨y,h1,hQ _ _ _ _ _ h2⟩
end
end Go.AM
end
section
namespace Go.AM
@[reducible] def bs (l:List Nat):ByteArray:=⟨(l.map UInt8.ofNat).toArray⟩
def xJ (t : Ty) (x : t.den) : List t.den → List t.den
 |[]=>[x]
 |y::r=>if fR t x y=true then x::y::r else y::xJ t x r
def oF (t:Ty) (xs:List t.den):List t.den:=xs.foldr (xJ t) []
noncomputable def uR (t:Ty) (b:List t.den) (n:Nat):Option (List t.den×Unit):=if n≤b.length∧n<cg then some (oF t (b.take n)++b.drop n,()) else none
theorem D5 (s:ByteArray):(eX s).length=s.size:=by simp [eX]
section
variable {P:Program}
noncomputable def D6 (P:Program) (cx:Cx) (f:Nat) (fn:Fn) (d:(b:Nat)→D P fn.N none b):Cx where
 pc:=cx.pc
 ca kz g vs nx bl K:=match an (Nat.beq g f) (Nat.ble vs.length fn.np) with
  |true=>Rr vs fun vs=>kE kz cx ek (d nx) (args 0 vs) nx bl [] (Av kz fn.res fn.tys K)
  |false=>cx.ca kz g vs nx bl K
 rd:=cx.rd
theorem pF (mixed : P.follows .mixedOrders = true) {cx : Cx} (gn : cx.Ok P) {f : Nat} {func : Func} {fn : Fn} (hf : P.funcs[f]? = some func) (htr : cL P func = some fn) (cC : Enters P f)
  {d:(b:Nat)→D P fn.N none b} (hd:∀b,(d b).er=fn.body):(D6 P cx f fn d).Ok P where
 U4 hk:=gn.U4 hk
 Ri:=by
  intro X g vs nx bl K r hk Q hQ
  simp only [D6] at hk
  split at hk
  ·rename_i h
   rw [aO] at h
   have e:=Nat.eq_of_beq_eq_true h.1
   subst e
   rw [mX] at hk
   refine j6 hf htr cC (iu mixed) (Nat.le_of_ble_eq_true h.2) ?_
   rw [←hd nx]
   refine k9 gn hk fun e env nx bl ms hk=>?_
   exact xF hk fun v nx bl hk=>hQ v nx bl hk
  ·exact gn.Ri hk hQ
 Xe hk:=gn.Xe hk
noncomputable def Az (P:Program) (cx:Cx) (f:Nat) (fn:Fn) (b:Nat) (d:D P fn.N none b):Cx where
 pc:=cx.pc
 ca kz g vs nx bl K:=match an (Nat.beq g f) (an (Nat.ble vs.length fn.np) (Nat.beq nx b)) with
  |true=>Rr vs fun vs=>kE kz cx ek d (args 0 vs) b bl [] (Av kz fn.res fn.tys K)
  |false=>cx.ca kz g vs nx bl K
 rd:=cx.rd
theorem rR (mixed : P.follows .mixedOrders = true) {cx : Cx} (gn : cx.Ok P) {f : Nat} {func : Func} {fn : Fn} (hf : P.funcs[f]? = some func) (htr : cL P func = some fn) (cC : Enters P f)
  {b:Nat} {d:D P fn.N none b} (hd:d.er=fn.body):(Az P cx f fn b d).Ok P where
 U4 hk:=gn.U4 hk
 Ri:=by
  intro X g vs nx bl K r hk Q hQ
  simp only [Az] at hk
  split at hk
  ·rename_i h
   rw [aO,aO] at h
   have e:=Nat.eq_of_beq_eq_true h.1
   have e2:=Nat.eq_of_beq_eq_true h.2.2
   subst e;subst e2
   rw [mX] at hk
   refine j6 hf htr cC (iu mixed) (Nat.le_of_ble_eq_true h.2.1) ?_
   rw [←hd]
   refine k9 gn hk fun e env nx bl ms hk=>?_
   exact xF hk fun v nx bl hk=>hQ v nx bl hk
  ·exact gn.Ri hk hQ
 Xe hk:=gn.Xe hk
end
section
variable {P:Program} {N:Nat} {out:Option Nat} {base:Nat}
noncomputable def rS (mixed : P.follows .mixedOrders = true) (cx : Cx) (gn : cx.Ok P) (pre : List Nat) (hpre : pre = List.range base) (p : az) (xs : aW) (f : O) (ps : List Nat) (hps : ps.all (Nat.blt · N) = true) (as bd : C)
  (fid:Nat) {func:Func} {fn:Fn} (hf:P.funcs[fid]?=some func) (htr:cL P func=some fn) (cC:Enters P fid) (cW:Nat) (iy:cW=base+p.gI.length+(match out with|none=>2|some _=>1))
  (Lw:D P fn.N none cW) (hit:Lw.er=fn.body):gm P N out base where
 f:=f
 ps:=ps
 a:=as
 b:=bd
 run kz env nx bl ms K:=p.rd kz.no pre base env nx bl ms fun x=>xA (N:=N) (out:=out) (base:=base) kz cx ek pre p xs f ps as bd fn.res fn.np fid Lw (fun b=>xs.go kz base b K) x
 ok:=by
  intro X env nx bl ms K r h Q hQ
  subst hpre
  obtain ⟨x,π,h3,h2⟩:=az.dG h
  unfold xA at h3
  rw [fK,az.go_eq] at h3
  intro fo CS ao bo q1 q2 q3 q4
  refine Iv (DV ?_) h2
  refine uv (K:=fun e S'=>∃BT π,jl base π S' BT∧Q e BT) ?_ fo CS ao bo q1 q2 q3 q4
  refine ⟨hps,?_⟩
  cases o9:f.ev (p.E x) with
  |fn Np first cap=>?_
  |_=>rw [o9] at h3;cases h3
  have Xp:f.ev (p.st base x).env = .fn Np first cap:=o9
  rw [Xp]
  rw [o9] at h3
  simp only at h3 ⊢
  split at h3<;>try (cases h3;done)
  rename_i hc
  rw [aO] at hc
  have e1:=Nat.eq_of_beq_eq_true hc.1
  have e2:=Nat.le_of_ble_eq_true hc.2
  subst e1
  have hlen:∀v:V,(first++[v]++cap).length≤fn.np:=fun v=>by simpa using e2
  have hout:∀e env nx bl ms,xs.rd none (List.range base) base e env nx bl ms (fun b=>xs.go (jf X) base b K)=some r→∃BT π,jl base π ⟨env,⟨nx,bl⟩,ms⟩ BT∧Q e BT:=fun e env nx bl ms hk=>by
   obtain ⟨y,π,r1,r2,r3⟩:=aW.dG hk
   have h5:=aW.Am r1
   have hq:=hQ _ _ _ _ _ h5
   exact ⟨_,π,r3,by rw [r2];exact hq⟩
  cases out with
  |none =>
   simp only at h3 iy ⊢
   split at h3
   ·cases h3
   rename_i JP
   rw [mX] at h3
   refine ⟨JP,?_⟩
   subst iy
   refine j6 hf htr cC (iu mixed) (hlen _) ?_
   rw [←hit]
   refine k9 gn h3 fun e env nx bl ms hk=>?_
   exact rO hk fun v nx bl hk => vu (S := p.st base x) (by
    have e:(p.st base x).ms=[]:=JP
    rw [e];exact hk) hout
  |some UW =>
   simp only at h3 iy ⊢
   split at h3<;>try (cases h3;done)
   rename_i hb
   rw [mX] at h3
   have hb':au UW (p.st base x).H.bl=_:=hb
   simp only [az.st] at hb' ⊢
   rw [hb']
   simp only
   subst iy
   refine j6 hf htr cC (iu mixed) (hlen _) ?_
   rw [←hit]
   refine k9 gn h3 fun e env nx bl ms hk=>?_
   exact rO hk fun v nx bl hk=>vu (S:=p.st base x) hk hout
end
end Go.AM
end
