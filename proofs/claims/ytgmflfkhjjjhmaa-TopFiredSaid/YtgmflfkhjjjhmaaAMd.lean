/- Contracts of functions that write blocks of their caller, or hand back new ones. Recursion. The way in and out: a law's contract over data is its row's. Plain laws on tests, needs and rounds. Twins that can be reckoned: what they come to, the functions come to. What is computed, as a tree: read as a function (classically), or reckoned. Code with its loops as functions, out of the program's own: no text of it is needed. A loop whose number of rounds is known is gone through round by round. Strings out of their bytes; what is said of them, of maps and of clearing, plainly. Calls in a drawn region that look at blocks, or lay one: contracts. -/
import Derived.Test.YtgmflfkhjjjhmaaAMc
import Derived.OpenShut
import Derived.Handed
import Derived.JoinedOf
import Derived.Carry
set_option linter.unusedSectionVars false
set_option linter.unusedVariables false
set_option linter.unusedSimpArgs false
section
namespace Go.AM
structure Ht where
 f:Nat
 p:aC
 q:aC
 fn:p.T->Option q.T
def Ht.Ok (P:Program) (ht:Ht):Prop:=∀x y,ht.fn x=some y ->
 eI P ht.f ((ht.p.E x).map (·.2)) ⟨ht.p.ff.length,ht.p.B x⟩ fun r H=>r=get 0 (ht.q.E y)/\H=⟨ht.p.ff.length+ht.q.ff.length,ht.q.B y⟩
section
variable {P:Program} {R:Type}
def aC.Yc (no:R) (p:aC) (env:Env) (nx:Nat) (bl:aj) (k:List Nat->p.T->R):R :=
 jP no env nx bl [] p.ff [] 0 fun π=>match rZ π p.bl with
  |true=>match uy (A:=JA p.bl Unit) π env p.env with
   |some f=>match Hi (A:=Unit) π nx bl p.bl with
    |some g=>k π (f (g ()))
    |none=>no
   |none=>no
  |false=>no
def sj : List Nat → Bool
 |[]=>true
 |i::r=>match tj i r with
  |true=>false
  |false=>sj r
theorem oz : ∀ {l : List Nat}, sj l = true → l.Nodup
 |[],_=>.nil
 |i::r,h=>by
  simp only [sj] at h
  split at h
  ·cases h
  ·rename_i hm
   exact List.nodup_cons.2 ⟨(fun hi=>by rw [kA.2 hi] at hm;cases hm),oz h⟩
def we (n : Nat) : List Nat → Bool
 |[]=>true
 |i::r=>match Nat.blt i n with
  |true=>we n r
  |false=>false
theorem uE {n : Nat} : ∀ {l : List Nat}, we n l = true → ∀ i ∈ l, i < n
 |[],_,i,hi=>by simp at hi
 |j::r,h,i,hi=>by
  simp only [we] at h
  split at h
  ·rename_i hj
   rcases List.mem_cons.1 hi with rfl|hi
   ·have : i + 1 ≤ n := by simpa [Nat.blt] using hj
    omega
   ·exact uE h i hi
  ·cases h
def iK : List (Nat × BP) → Bool
 |[]=>true
 |(_,.loop _ _ _ _ _ _ _ _)::_=>false
 |(_,.arr _ _)::r=>iK r
 |(_,.cells _ _)::r=>iK r
 |(_,.gi)::r=>iK r
 |(_,.map _ _ _ _)::r=>iK r
 |(_,.jo _ _ _ _)::r=>iK r
theorem oA {A : Type} : ∀ {ps : List (Nat × BP)} (x : JA ps A), iK ps = true → ∀ p ∈ DI ps x, ∀ st j d env ps as bd N, p.2 ≠ .loop st j d env ps as bd N
 |[],x,h,p,hp=>by simp [DI] at hp
 |(s,b)::r,x,h,p,hp=>by
  simp only [DI,List.mem_cons] at hp
  intro st j d env ps as bd N
  rcases hp with rfl|hp
  ·cases b with
   |loop=>simp [iK] at h
   |arr=>simp [BP.v]
   |cells=>simp [BP.v]
   |gi=>simp [BP.v]
   |map=>simp [BP.v]
   |jo=>simp [BP.v]
  ·refine oA _ ?_ p hp st j d env ps as bd N
   cases b<;>simp [iK] at h<;>exact h
def PB (kz:Kz R) (no:R) (ht:Ht) (vs:List V) (nx:Nat) (bl:aj) (K:V->Nat->aj->R):R :=
 match an (Nat.beq vs.length ht.p.env.length) (iK ht.p.bl) with
 |true=>ht.p.Yc no (args 0 vs) nx bl fun π x=>match an (sj π) (we (nx+π.length) π) with
  |true=>kz.bd (ht.fn x) fun y=>fN (π.length+ht.q.ff.length) fun n=>ht.q.go n y fun env _ bG _=>match iZ (sig π nx n) 8 (get 0 env) with
   |some r'=>match gS (sig π nx n) bG with
    |some pG=>SM (pG++lK π bl) fun bl=>fN (nx+n) fun nx=>K r' nx bl
    |none=>kz.no
   |none=>kz.no
  |false=>no
 |false=>no
theorem args_at:∀{vs:List V} {n i:Nat},get i (args n vs)=if n<=i then vs.getD (i - n) .any else .any:=rB
theorem ji {A : Type} : ∀ {ps : List (Nat × SP)} {x : tC ps A}, (qa ps x).length = ps.length
 |[],_=>rfl
 |(_,_)::r,x=>by simp [qa,ji (ps:=r)]
theorem Cd {π:List Nat} {vs:List V} {env:Env} (hlen:vs.length=env.length) (hs:env.map (·.1)=List.range env.length) (h:EE π env (args 0 vs)):sX π (env.map (·.2)) vs:=by
 refine ⟨by simp [hlen],fun i v u hv hu=>?_⟩
 rw [List.getElem?_map] at hv
 cases hp:env[i]? with
 |none=>rw [hp] at hv;cases hv
 |some p =>
  rw [hp] at hv;cases hv
  have hi:=(List.getElem?_eq_some_iff.1 hp).1
  have e1:(env.map (·.1))[i]?=(List.range env.length)[i]?:=by rw [hs]
  rw [List.getElem?_map,hp,List.getElem?_range hi] at e1
  simp only [Option.map_some,Option.some.injEq] at e1
  have:=h p (List.mem_of_getElem? hp)
  rw [args_at,e1,if_pos (Nat.zero_le _)] at this
  simp only [Nat.sub_zero] at this
  have e2:vs.getD i .any=u:=by simp [List.getD,hu]
  rwa [e2] at this
theorem iy {A : Type} : ∀ {ps : List (Nat × SP)} {x : tC ps A}, (qa ps x).map (·.1) = ps.map (·.1)
 |[],_=>rfl
 |(_,_)::r,x=>by simp [qa,iy (ps:=r)]
theorem aC.NQ {p:aC} {x:p.T}:(p.E x).length=p.env.length:=ji
theorem aC.Ce {p:aC} {x:p.T}:(p.E x).map (·.1)=p.env.map (·.1):=iy
def Ht.slots (ht:Ht):Prop:=ht.p.env.map (·.1)=List.range ht.p.env.length
theorem KO {ht:Ht} (hok:ht.Ok P) (Dd:ht.slots) {X:Type} {no:Option X} {vs:List V} {nx:Nat} {bl:aj} {K:V->Nat->aj->Option X} {r:X} (h:PB (gv X) no ht vs nx bl K=some r) :
  no=some r\/∀{Q:V->aK->Prop},(∀v nx bl,K v nx bl=some r->Q v ⟨nx,bl⟩)->eI P ht.f vs ⟨nx,bl⟩ Q:=by
 unfold PB at h
 split at h
 ·rename_i h0
  rw [aQ] at h0
  have hlen:=Nat.eq_of_beq_eq_true h0.1
  unfold aC.Yc at h
  have key:∀{ls:List Lc} {π0:List Nat} {b:Nat} {k:List Nat->Option X},jP no (args 0 vs) nx bl [] ls π0 b k=some r->no=some r\/∃rr,rr.length=ls.length/\k (π0++rr)=some r:=by
   intro ls
   induction ls with
   |nil=>intro π0 b k hk;exact .inr ⟨[],rfl,by simpa [jP] using hk⟩
   |cons l ls ih =>
    intro π0 b k hk
    simp only [jP] at hk
    split at hk
    ·rename_i i hi
     rw [gO,qs,gO] at hk
     rcases ih hk with hk|⟨rr,h1,h2⟩
     ·exact .inl hk
     ·exact .inr ⟨i::rr,by simp [h1],by simpa using h2⟩
    ·exact .inl hk
  rcases key h with h|⟨π,hπ,h⟩
  ·exact .inl h
  simp only [List.nil_append] at h
  split at h
  ·rename_i hap
   split at h
   ·rename_i f hf
    split at h
    ·rename_i g hg
     split at h
     ·rename_i hnb
      rw [aQ] at hnb
      refine .inr fun {Q} hQ=>?_
      obtain ⟨y,hy,h⟩:=cO h
      rw [gO,aC.go_eq] at h
      obtain ⟨h1,h2⟩:=kH hf (g ())
      obtain ⟨h3,h4⟩:=qq hg ()
      split at h<;>try (cases h;done)
      rename_i r' hr'
      split at h<;>try (cases h;done)
      rename_i pG AA
      rw [vW,gO] at h
      have eH:=hok _ _ hy
      rw [<-hπ] at eH
      have hB:ht.p.B (f (g ()))=DI ht.p.bl (g ()):=by unfold aC.B;rw [h2]
      refine yC (Q0:=fun r H=>r=get 0 (ht.q.E y)/\H=⟨π.length+ht.q.ff.length,ht.q.B y⟩) eH ?_ ?_ ?_ (oz hnb.1) (uE hnb.2) ?_
      ·exact Cd (env:=qa ht.p.env (f (g ()))) (hlen.trans ji.symm) (iy.trans (Dd.trans (by rw [ji]))) h1
      ·rw [hB];exact h3
      ·rw [hB];exact oA _ h0.2
      ·rintro r n bG ⟨rfl, e⟩
       cases e
       exact ⟨by omega,r',pG,hr',AA,hQ _ _ _ h⟩
     ·exact .inl h
    ·exact .inl h
   ·exact .inl h
  ·exact .inl h
 ·exact .inl h
def uF (kz : Kz R) (f : Nat) (vs : List V) (nx : Nat) (bl : aj) (K : V → Nat → aj → R) (no : R) : List Ht → R
 |[]=>no
 |ht::r=>match Nat.beq ht.f f with
  |true=>PB kz (uF kz f vs nx bl K no r) ht vs nx bl K
  |false=>uF kz f vs nx bl K no r
def Cf (P : Program) : List Ht → Prop
 |[]=>True
 |c::r=>(c.Ok P/\c.slots)/\Cf P r
theorem sk {X:Type} {no:Option X} {f:Nat} {vs:List V} {nx:Nat} {bl:aj} {K:V->Nat->aj->Option X} {r:X}:∀{hts:List Ht},Cf P hts->uF (gv X) f vs nx bl K no hts=some r ->
  no=some r\/∀{Q:V->aK->Prop},(∀v nx bl,K v nx bl=some r->Q v ⟨nx,bl⟩)->eI P f vs ⟨nx,bl⟩ Q
 |[],_,h=>.inl h
 |ht::hts,hok,h=>by
  simp only [uF] at h
  split at h
  ·rename_i hf
   have e:=Nat.eq_of_beq_eq_true hf
   subst e
   rcases KO hok.1.1 hok.1.2 h with h|h
   ·exact sk hok.2 h
   ·exact .inr h
  ·exact sk hok.2 h
def aN (qt:List Ct) (hts:List Ht):Cx where
 pc kz f vs K:=vY kz f vs K qt
 ca kz f vs nx bl K:=uF kz f vs nx bl K (KF qt kz f vs nx bl K) hts
 rd kz _ _ _ _ _:=kz.no
theorem au {qt:List Ct} {hts:List Ht} (h:yx P qt) (h2:Cf P hts):(aN qt hts).Ok P where
 SK hk:=k8 h hk
 Pk:=by
  intro X f vs nx bl K r hk Q hQ
  rcases sk h2 hk with hk|hk
  ·exact (KG h).Pk hk hQ
  ·exact hk hQ
 X6 hk:=by cases hk
 TS hk:=.inl hk
theorem DQ {f:Nat} {vs:List V} {H:aK} {Q:V->aK->Prop} (h:eI P f vs H fun r H'=>∃r'' Yd π,ou H.next π ⟨[(0,r)],H',[]⟩ ⟨[(0,r'')],Yd,[]⟩/\Q r'' Yd):eI P f vs H Q :=
 ⟨h.1,fun Y ι μ w as hI hl=>(h.2 Y ι μ w as hI hl).mono fun e w' ⟨v,ι',μ',r,H',h1,h2,h3,h4,h5,r'',Yd,π,h6,h7⟩=>by
  let Y2:Ctx:=⟨Y.w0,Y.ι0,fun i=>if i<H.next then μ i else none,Y.ro,Y.x,[]⟩
  have lV:Inv P Y2 ι' μ' H' w':=⟨h4.below,h4.i0,h4.iB,h4.rd,(fun i L hL=>by
   simp only [Y2] at hL
   split at hL
   ·exact h3 _ _ hL
   ·cases hL),h4.nx,h4.live,h4.inj,h4.lt,h4.gl⟩
  have hR:iH P 1 Y2 ι' μ' ⟨[(0,r)],H',[]⟩ { tmps:=#[v],defers:=[] } w':=⟨(fun t=>by
   rw [iT]
   split
   ·rename_i e;subst e;exact h5
   ·exact .any _),rfl,lV,rfl⟩
  have w9:=h6.rep (fun i hi=>by simp only [Y2];rw [if_neg (by omega)]) hR
  have hle:μ.le (μ'.jq π):=fun i L hL=>by
   have hlt:i<H.next:=by
    rcases Nat.lt_or_ge i H.next with h|h
    ·exact h
    ·rw [hI.nx i h] at hL;cases hL
   exact w9.inv.m0 i L (by simp only [Y2];rw [if_pos hlt];exact hL)
  refine ⟨v,ι',μ'.jq π,r'',Yd,h1,h2,hle,⟨h4.below,h4.i0,h4.iB,h4.rd,Mu.le_trans hI.m0 hle,w9.inv.nx,w9.inv.live,w9.inv.inj,w9.inv.lt,hI.gl⟩,?_,h7⟩
  have:=w9.env 0
  rw [iT,if_pos rfl] at this
  exact this⟩
def Cg (kz:Kz R) (rs:List RV) (tys:List (Option Ty)) (K:V->Nat->aj->R):Kc R:=fun e env nx bl ms=>match e with
 | .exit _=>kz.no
 | .normal=>go env nx bl ms
 | .ret=>go env nx bl ms
where go (env:Env) (nx:Nat) (bl:aj) (ms:List Nat):R:=match dz ms bl with
 |some bl=>match pX bL ⟨env,⟨nx,bl⟩,[]⟩ rs with
  |some vs=>fV (o9 (bX (XQ tys) vs)) fun v=>K v nx bl
  |none=>kz.no
 |none=>kz.no
theorem Hz {X : Type} {rs : List RV} {tys : List (Option Ty)} {K : V → Nat → aj → Option X} {r : X} {e : Ex} {env : Env} {nx : Nat} {bl : aj} {ms : List Nat} (h : Cg (gv X) rs tys K e env nx bl ms = some r) {Q : V → aK → Prop}
  (hQ:∀v nx bl,K v nx bl=some r->Q v ⟨nx,bl⟩):vz rs tys Q e ⟨env,⟨nx,bl⟩,ms⟩:=by
 have key:Cg.go (gv X) rs tys K env nx bl ms=some r->vz.mb rs tys Q ⟨env,⟨nx,bl⟩,ms⟩:=fun hg=>by
  unfold Cg.go at hg
  unfold vz.mb
  split at hg<;>try (cases hg;done)
  rename_i bG h1
  simp only
  rw [h1]
  simp only
  split at hg<;>try (cases hg;done)
  rename_i vs h2
  rw [h2]
  rw [jO] at hg
  exact hQ _ _ _ hg
 cases e with
 |exit i=>cases h
 |normal=>exact key h
 |ret=>exact key h
def hfE {N k:Nat} (kz:Kz R) (cx:Cx) (ar:Ar) (pre:List Nat) (rs:List RV) (tys:List (Option Ty)) (p q:aC) (body:D P N none k) (inr:q.T->R) (x:p.T):R :=
 p.go k x fun env nx bl _=>kE kz cx ar body env nx bl [] (Cg kz rs tys fun r nx bl=>q.rd kz.no pre k [(0,r)] nx bl [] inr)
theorem yD : ∀ {env : Env} {n : Nat}, env.map (·.1) = List.range' n env.length → args n (env.map (·.2)) = env
 |[],n,_=>rfl
 |(s,v)::r,n,h=>by
  simp only [List.map_cons,List.length_cons,List.range'_succ,List.cons.injEq] at h
  simp only [List.map_cons,args]
  rw [yD h.2,h.1]
theorem eR (mixed : P.follows .mixedOrders = true) {cx : Cx} (jd : cx.Ok P) {func : Func} {fn : Fn} {ht : Ht} {k : Nat} (hk : ht.p.ff.length = k) (hf : P.funcs[ht.f]? = some func) (jA : cD P func = some fn) (fc : fI P ht.f)
  (body:D P fn.N none k) (hbody:body.er=fn.body) (hnp:Nat.ble ht.p.env.length fn.np=true) (Dd:ht.slots) (hq:∃s,ht.q.env=[(0,s)]) (hqm:ht.q.ms=[]) {pre:List Nat} (hpre:pre=List.range k)
  (hfn:∀x,hfE (gv ht.q.T) cx bL pre fn.res fn.tys ht.p ht.q body some x=ht.fn x):ht.Ok P:=by
 intro x y hxy
 subst hpre
 rw [<-hfn x] at hxy
 unfold hfE at hxy
 rw [aC.go_eq] at hxy
 subst hk
 refine DQ ?_
 refine rP hf jA fc (ot mixed) (by rw [List.length_map,aC.NQ];exact Nat.le_of_ble_eq_true hnp) ?_
 have ha:args 0 ((ht.p.E x).map (·.2))=ht.p.E x:=yD (by rw [aC.Ce,aC.NQ,<-List.range_eq_range'];exact Dd)
 rw [ha,<-hbody]
 refine rU jd hxy fun e env nx bl ms hk=>?_
 refine Hz hk fun v nx bl hk=>?_
 obtain ⟨y',π,h1,h2⟩:=aC.gR hk
 cases h1
 obtain ⟨s,hs⟩:=hq
 have he:ht.q.E y=[(0,get 0 (ht.q.E y))]:=by
  have h1:(ht.q.E y).map (·.1)=[0]:=by rw [aC.Ce,hs];rfl
  cases h2:ht.q.E y with
  |nil=>rw [h2] at h1;cases h1
  |cons a r =>
   obtain ⟨a1,a2⟩:=a
   rw [h2] at h1
   simp only [List.map_cons,List.cons.injEq,List.map_eq_nil_iff] at h1
   obtain ⟨rfl,rfl⟩:=h1
   rw [iT,if_pos rfl]
 refine ⟨_,_,π,?_,rfl,rfl⟩
 have e:aC.st ht.p.ff.length ht.q y=⟨[(0,get 0 (ht.q.E y))],⟨ht.p.ff.length+ht.q.ff.length,ht.q.B y⟩,[]⟩:=by
  unfold aC.st;rw [<-he,hqm]
 rw [<-e];exact h2
def DS {A B : Type} (F : (A → Option B) → A → Option B) : Nat → A → Option B
 |0=>fun _=>none
 |n+1=>F (DS F n)
noncomputable def yE {A B:Type} (F:(A->Option B)->A->Option B) (x:A):Option B:=by
 classical exact if h:∃(N:Nat) (y:B),∀n,N<=n->DS F n x=some y then some h.choose_spec.choose else none
theorem uG {A B:Type} {F:(A->Option B)->A->Option B} {x:A} {y:B} (h:yE F x=some y):∃n,DS F n x=some y:=by
 unfold yE at h
 split at h
 ·rename_i hx;cases h;exact ⟨hx.choose,hx.choose_spec.choose_spec _ (Nat.le_refl _)⟩
 ·cases h
theorem KP {A B:Type} {F:(A->Option B)->A->Option B} {x:A} {y:B} {N:Nat} (h:∀n,N<=n->DS F n x=some y):yE F x=some y:=by
 unfold yE
 have hx:∃(N:Nat) (y:B),∀n,N<=n->DS F n x=some y:=⟨N,y,h⟩
 rw [dif_pos hx]
 have h1:=hx.choose_spec.choose_spec (max N hx.choose) (Nat.le_max_right _ _)
 rw [h _ (Nat.le_max_left _ _)] at h1
 exact h1.symm
theorem PC {f:Nat} {p q:aC} {F:(p.T->Option q.T)->p.T->Option q.T} (h:∀rec,Ht.Ok P ⟨f,p,q,rec⟩->Ht.Ok P ⟨f,p,q,F rec⟩):Ht.Ok P ⟨f,p,q,yE F⟩:=by
 have key:∀n,Ht.Ok P ⟨f,p,q,DS F n⟩:=by
  intro n
  induction n with
  |zero=>intro x y hxy;cases hxy
  |succ n ih=>exact h _ ih
 intro x y hxy
 obtain ⟨n,hn⟩:=uG hxy
 exact key n x y hn
theorem Zs {f:Nat} {ps:List SP} {res:SP} {F:(mw ps Unit->Option (res.T Unit))->mw ps Unit->Option (res.T Unit)} (h:∀rec,Ct.Ok P ⟨f,ps,res,rec⟩->Ct.Ok P ⟨f,ps,res,F rec⟩):Ct.Ok P ⟨f,ps,res,yE F⟩:=by
 have key:∀n,Ct.Ok P ⟨f,ps,res,DS F n⟩:=by
  intro n
  induction n with
  |zero=>intro x y hxy;cases hxy
  |succ n ih=>exact h _ ih
 intro x y hxy
 obtain ⟨n,hn⟩:=uG hxy
 exact key n x y hn
end
end Go.AM
end
section
namespace Go.AM
open Go.RowKit Go.ChangeShapes Go.WideShapes
def holes (tys:List Ty):List SP:=tys.map fun t=>.c (.hole t)
def yF : (tys : List Ty) → mw (holes tys) Unit → Prop
 |[],_=>True
 |t::r,x=>Wf t x.1/\yF r x.2
section
variable {P:Program} {H:Type} {enc:TypeId×Value->H} {W:World} {base:Nat}
def lN (P : Program) (t : TypeId) : Ty → Bool
 | .unit=>false
 | .prod _ _=>match P.underlying t with
  |some (.struct _)=>true
  |some (.array _ _)=>true
  |_=>false
 |_=>match P.underlying t with
  |some (.struct _)=>false
  |some (.array _ _)=>false
  |_=>true
theorem HA {t : TypeId} {ty : Ty} (hok : ew P 8 t ty = true) (DT : lN P t ty = true) {v : Value} (hv : Value.okWide P W .any base t v) {d : DataW H} {p : List MemPlace}
  (h:DataW.Trod enc P W 0 (fun _=>true) true t v d p):∃y:ty.den,Rel (gm W) (fun _=>none) (Zm ty y) v/\Wf ty y:=by
 obtain ⟨fuel,hf⟩:=h
 obtain ⟨y,hy,wy⟩:=GJ hok hf
 refine ⟨y,?_,wy⟩
 cases ty with
 |unit=>simp [lN] at DT
 |bool =>
  cases hu:P.underlying t with
  |none=>simp [ew,hu] at hok
  |some u =>
   cases u<;>first|(exfalso;simp [lN,hu] at DT;done)|(exfalso;simp [ew,hu] at hok;done)|simp [ew,hu] at hok
   ·obtain ⟨b, rfl⟩ := okWide_bool hu hv
    simp only [af,Value.cells,List.cons.injEq,Value.bool.injEq,and_true] at hy
    subst hy;exact .bool _
 |str =>
  cases hu:P.underlying t with
  |none=>simp [ew,hu] at hok
  |some u =>
   cases u<;>first|(exfalso;simp [lN,hu] at DT;done)|(exfalso;simp [ew,hu] at hok;done)|simp [ew,hu] at hok
   ·obtain ⟨b, rfl⟩ := okWide_string hu hv
    simp only [af,Value.cells,List.cons.injEq,Value.string.injEq,and_true] at hy
    subst hy;exact .str _
 |int k =>
  cases hu:P.underlying t with
  |none=>simp [ew,hu] at hok
  |some u =>
   cases u<;>first|(exfalso;simp [lN,hu] at DT;done)|(exfalso;simp [ew,hu] at hok;done)|simp [ew,hu] at hok
   ·subst hok
    obtain ⟨b,rfl⟩:=okWide_int hu hv
    simp only [af,Value.cells,List.cons.injEq,Value.int.injEq,true_and,and_true] at hy
    subst hy;exact .int _ _
 |list te =>
  cases hu:P.underlying t with
  |none=>simp [ew,hu] at hok
  |some u =>
   cases u<;>first|(exfalso;simp [lN,hu] at DT;done)|(exfalso;simp [ew,hu] at hok;done)|simp [ew,hu] at hok
   ·obtain ⟨a, len, cap, rfl⟩ := okWide_slice hu hv
    exact .dS _ _ _ hy
 |cn d g a =>
  cases hu:P.underlying t with
  |none=>simp [ew,hu] at hok
  |some u =>
   cases u<;>first|(exfalso;simp [lN,hu] at DT;done)|(exfalso;simp [ew,hu] at hok;done)|simp [ew,hu] at hok
 |prod a b =>
  cases hu:P.underlying t with
  |none=>simp [ew,hu] at hok
  |some u =>
   have hcs:∃cs:Array Value,v = .agg cs:=by
    cases u<;>simp [ew,hu] at hok
    ·simp only [Value.okWide,hu] at hv;obtain ⟨cs,h1,_⟩:=hv;exact ⟨cs,h1⟩
    ·obtain ⟨cs,h1,_⟩:=okWide_struct hu hv;exact ⟨cs,h1⟩
   obtain ⟨cs,rfl⟩:=hcs
   have hr:=eo (μ:=fun _=>none) hy
   refine .agg _ cs ?_ (fun i v x hv hx=>hr.2 i v x hv (by simpa [Value.cells] using hx)) ?_
   ·have:=hr.1;simpa [Value.cells] using this
   ·intro x hx;exact af.one hy x (by simpa [Value.cells] using hx)
theorem pH:∀{ts:List TypeId} {tys:List Ty} {vs:List Value} {ds:List (DataW H)} {p:List MemPlace},ts.length=tys.length->(∀(i:Nat) t ty,ts[i]?=some t->tys[i]?=some ty->ew P 8 t ty=true/\lN P t ty=true) ->
  (∀(j:Nat) t v,ts[j]?=some t->vs[j]?=some v->Value.okWide P W .any base t v)->DataW.TrodAll enc P W 0 (fun _=>true) true ts vs ds p ->
  ∃x:mw (holes tys) Unit,aG (gm W) (fun _=>none) (yq (holes tys) x) vs/\yF tys x
 |[],[],vs,ds,p,_,_,_,h=>by
  obtain ⟨rfl,_,_⟩:=trodAll_nil h
  exact ⟨(),.nil,trivial⟩
 |t::ts,ty::tys,vs,ds,p,hl,hok,hv,h=>by
  obtain ⟨v,vs',d,ds',p1,q,rfl,rfl,rfl,h1,h2⟩:=trodAll_cons h
  obtain ⟨k1,k2⟩:=hok 0 t ty rfl rfl
  obtain ⟨y,hy,wy⟩:=HA k1 k2 (hv 0 t v rfl rfl) h1
  obtain ⟨x,hx,wx⟩:=pH (by simpa using hl) (fun i t ty ht E9=>hok (i+1) t ty (by simpa using ht) (by simpa using E9)) (fun j t v ht Gg=>hv (j+1) t v (by simpa using ht) (by simpa using Gg)) h2
  exact ⟨(y,x),.cons hy hx,wy,wx⟩
 |[],_::_,_,_,_,hl,_,_,_=>by simp at hl
 |_::_,[],_,_,_,hl,_,_,_=>by simp at hl
theorem lO (hl:laidOutB P=true) {W':World} (hb:Below W.heap.size W W'):∀{ts:List TypeId} {vs:List Value} {ds:List (DataW H)} {p:List MemPlace},(∀t∈ts,P.readableRec t=true/\t<P.types.size) ->
  DataW.TrodAll enc P W 0 (fun _=>true) true ts vs ds p->(∀x∈p,x.block<W.heap.size)->DataW.TrodAll enc P W' 0 (fun b=>decide (b<W.heap.size)) true ts vs ds p
 |[],vs,ds,p,_,h,_=>by
  obtain ⟨rfl,rfl,rfl⟩:=trodAll_nil h
  exact trodAll_mk0
 |t::ts,vs,ds,p,ht,h,hp=>by
  obtain ⟨v,vs',d,ds',p1,q,rfl,rfl,rfl,h1,h2⟩:=trodAll_cons h
  obtain ⟨k1,k2⟩:=ht t (List.mem_cons_self ..)
  exact trodAll_cons_mk (Below.trod hl k1 k2 h1 hb (fun x hx=>hp x (List.mem_append_left _ hx))) (lO hl hb (fun t ht'=>ht t (List.mem_cons_of_mem _ ht')) h2 (fun x hx=>hp x (List.mem_append_right _ hx)))
end
def mA (P : Program) : List TypeId → List Ty → Bool
 |[],[]=>true
 |t::ts,ty::tys=>ew P 8 t ty&&lN P t ty&&P.readableRec t&&Nat.blt t P.types.size&&mA P ts tys
 |_,_=>false
theorem sn {P : Program} : ∀ {ts : List TypeId} {tys : List Ty}, mA P ts tys = true → ts.length = tys.length ∧ (∀ (i : Nat) t ty, ts[i]? = some t → tys[i]? = some ty → ew P 8 t ty = true ∧ lN P t ty = true) ∧ ∀ t ∈ ts, P.readableRec t = true ∧ t < P.types.size
 |[],[],_=>⟨rfl,fun i t ty h=>by simp at h,fun t h=>by simp at h⟩
 |t::ts,ty::tys,h=>by
  simp only [mA,Bool.and_eq_true] at h
  obtain ⟨⟨⟨⟨h1,h2⟩,h3⟩,h4⟩,h5⟩:=h
  obtain ⟨k1,k2,k3⟩:=sn h5
  refine ⟨by simp [k1],fun i t' ty' ht E9=>?_,fun t' ht=>?_⟩
  ·cases i with
   |zero=>simp at ht E9;subst ht;subst E9;exact ⟨h1,h2⟩
   |succ i=>exact k2 i t' ty' (by simpa using ht) (by simpa using E9)
  ·rcases List.mem_cons.1 ht with rfl | ht
   ·exact ⟨h3,by simpa [Nat.blt,Nat.succ_le_iff] using h4⟩
   ·exact k3 t' ht
 |[],_::_,h=>by simp [mA] at h
 |_::_,[],h=>by simp [mA] at h
theorem tE {P : Program} {H : Type} {enc : TypeId × Value → H} {f : FuncId} {fn : Func} {s : ChangeSpec} (tys : List Ty) (laid : laidOutB P = true) (hvars : s.vars = []) (PD : mA P fn.params.toList tys = true)
  {tb:TypeId} (hres:fn.resultTypes=#[tb]) (htb:P.underlying tb=some .bool)
  (hs:∀ds:List (DataW H),ds.length=tys.length->(s.fn H ds).results=[.lit (.bool true)]/\(s.fn H ds).args=ds/\(s.fn H ds).vars=[])
  {F:mw (holes tys) Unit->Option (Bool×Unit)} (SO:Ct.Ok P ⟨f,holes tys,.c (.hole .bool),F⟩) (hF:∀x,yF tys x->F x=some (true,()))
  {W:World} {base:Nat} {args:Array Value} {ds gs:List (DataW H)} {before:List MemPlace} (TW:gb P (gm W)) (hval:∀(j:Nat) t v,fn.params[j]?=some t->args[j]?=some v->Value.okWide P W .any base t v)
  (hW:DataW.Whole enc P fn.params.toList s.vars false W args.toList ds gs before) :
  Calls P f args W fun e W'=>∃v,e = .returned v/\s.post enc P fn false true false false W args v W':=by
 have Zt:=hW
 obtain ⟨p,q,hA,hV,rfl,hfz,JC⟩:=hW
 rw [hvars] at hV
 obtain ⟨rfl,rfl⟩:=trodVars_none hV
 obtain ⟨k1,k2,k3⟩:=sn PD
 obtain ⟨x,hx,wx⟩:=pH (base:=base) k1 k2 (fun j t v ht hv=>hval j t v (by simpa using ht) (by simpa using hv)) hA
 have hlen:ds.length=tys.length:=by
  rw [<-k1]
  have:∀{ts:List TypeId} {vs:List Value} {ds:List (DataW H)} {p:List MemPlace},DataW.TrodAll enc P W 0 (fun _=>true) true ts vs ds p->ds.length=ts.length:=by
   intro ts
   induction ts with
   |nil=>intro vs ds p h;obtain ⟨rfl,rfl,rfl⟩:=trodAll_nil h;rfl
   |cons t ts ih=>intro vs ds p h;obtain ⟨v,vs',d,ds',p1,q,rfl,rfl,rfl,h1,h2⟩:=trodAll_cons h;simp [ih h2]
  exact this hA
 simp only [List.append_nil] at Zt
 have eH:=(SO x (true,()) (hF x wx)).2 (gm W) W args TW (fun b o x h=>h) hx
 refine (callsIn_wide.1 eH).mono ?_
 rintro e W' ⟨v,ι',rfl,_,_,_,gr,hr⟩
 have hv:v = .bool true:=by
  have hr':Rel ι' (fun _=>none) (.bool true) v:=hr
  cases hr';rfl
 subst hv
 have hlt:∀x∈p,x.block<W.heap.size:=fun x hx=>Zt.lt x hx
 obtain ⟨s1,s2,s3⟩:=hs (ds++[]) (by simpa using hlen)
 simp only [List.append_nil] at s1 s2 s3
 refine ⟨_,rfl,ds,[],p,[],p,[],Zt,?_,?_,?_,gr.b.frame _,fun h=>by cases h⟩
 ·simp only [List.append_nil]
  rw [s1,hres]
  exact trodAll_cons_mk (p:=[]) (p':=[]) (shut_bool htb _) trodAll_mk0
 ·simp only [List.append_nil]
  rw [s2]
  exact lO laid gr.b k3 hA hlt
 ·simp only [List.append_nil]
  rw [s3,hvars]
  rfl
theorem wg {P : Program} {H : Type} {enc : TypeId × Value → H} {f : FuncId} {fn : Func} {s : ChangeSpec} (tys : List Ty) (laid : laidOutB P = true) (hvars : s.vars = []) (PD : mA P fn.params.toList tys = true)
  {tb:TypeId} (hres:fn.resultTypes=#[tb]) (htb:P.underlying tb=some .bool)
  (hs:∀ds:List (DataW H),ds.length=tys.length->(s.fn H ds).results=[.lit (.bool true)]/\(s.fn H ds).args=ds/\(s.fn H ds).vars=[])
  {F:mw (holes tys) Unit->Option (Bool×Unit)} (SO:Ct.Ok P ⟨f,holes tys,.c (.hole .bool),F⟩) (hF:∀x,yF tys x->F x=some (true,()))
  {W:World} {base:Nat} {args:Array Value} {ds gs:List (DataW H)} {before:List MemPlace} (hno:(List.range P.globals.size).all (fun g=>(kS P g).isNone)=true) (hval:∀(j:Nat) t v,fn.params[j]?=some t->args[j]?=some v->Value.okWide P W .any base t v)
  (hW:DataW.Whole enc P fn.params.toList s.vars false W args.toList ds gs before) :
  Calls P f args W fun e W'=>∃v,e = .returned v/\s.post enc P fn false true false false W args v W' :=
 tE tys laid hvars PD hres htb hs SO hF (gb.none hno _) hval hW
end Go.AM
end
section
namespace Go.AM
theorem aH {z:Int} (h1 : -9223372036854775808<=z) (h2:z<=9223372036854775807):cS .i64 z=true:=by
 have e1:IntKind.i64.min = -9223372036854775808:=by decide
 have e2:IntKind.i64.max=9223372036854775807:=by decide
 simp only [cS,e1,e2,Bool.and_eq_true,decide_eq_true_eq]
 exact ⟨h1,h2⟩
theorem KQ {z:Int} (h1:0<=z) (h2:z<=18446744073709551615):cS .u64 z=true:=by
 have e1:IntKind.u64.min=0:=by decide
 have e2:IntKind.u64.max=18446744073709551615:=by decide
 simp only [cS,e1,e2,Bool.and_eq_true,decide_eq_true_eq]
 exact ⟨h1,h2⟩
theorem bg {i n:Int} (h:0<=i) (h2:i<n):cR i n=true:=by simp [cR,h,h2]
theorem av {X:Type} {z:Int} {x:Option X} (h1 : -9223372036854775808<=z) (h2:z<=9223372036854775807):need (cS .i64 z) x=x:=dL (aH h1 h2)
theorem dP {X:Type} {i n:Int} {x:Option X} (h:0<=i) (h2:i<n):need (cR i n) x=x:=dL (bg h h2)
theorem fh {X:Type} {p:Prop} [Decidable p] {x:Option X} (h:p):need (decide p) x=x:=dL (decide_eq_true h)
theorem wh {X:Type} {c:Bool} {x y:Option X} (h:c=true):jN c x y=x:=by rw [h,GK]
theorem qd {X:Type} {c:Bool} {x y:Option X} (h:c=false):jN c x y=y:=by rw [h,uv]
theorem aW {X:Type} {p:Prop} [Decidable p] {x y:Option X}:jN (decide p) x y=if p then x else y:=by
 by_cases h:p<;>simp [h]
theorem fB {X:Type} {a b:Int} {x y:Option X}:jN (a==b) x y=if a=b then x else y:=by
 by_cases h:a=b
 ·simp [h]
 ·have : (a == b) = false := by simpa using h
  rw [this,uv,if_neg h]
theorem fj {X:Type} {c:Bool} {x y:Option X}:jN (!c) x y=jN c y x:=by cases c<;>simp
theorem az {A X:Type} {o:Option A} {a:A} {f:A->Option X} (h:o=some a):cz o f=f a:=by rw [h,aP]
end Go.AM
end
section
namespace Go.AM
structure Le {X:Type} (a b:Option X):Prop where
 h:∀y,a=some y->b=some y
def HB {X:Type} (c:Bool) (x:Option X):Option X:=match c with
 |true=>x
 |false=>none
def HC {A X:Type} (o:Option A) (f:A->Option X):Option X:=match o with
 |some a=>f a
 |none=>none
def Ye {X:Type} (c:Bool) (x y:Option X):Option X:=match c with
 |true=>x
 |false=>y
theorem Le.r {X:Type} {a:Option X}:Le a a:=⟨fun _ h=>h⟩
theorem Le.n {X:Type} {a:Option X}:Le none a:=⟨fun _ h=>by cases h⟩
theorem Le.nd {X:Type} {c:Bool} {a b:Option X} (h:Le a b):Le (HB c a) (need c b):=by
 cases c
 ·exact Le.n
 ·simpa [HB] using h
theorem Le.br {X:Type} {c:Bool} {a b a' b':Option X} (h:Le a a') (h':Le b b'):Le (Ye c a b) (jN c a' b'):=by
 cases c
 ·simpa [Ye] using h'
 ·simpa [Ye] using h
theorem Le.bd {A X:Type} {o o':Option A} {f f':A->Option X} (h:Le o o') (hf:∀y,Le (f y) (f' y)):Le (HC o f) (cz o' f'):=⟨fun y hy=>by
 cases o with
 |none=>cases hy
 |some a=>rw [h.h a rfl,aP];exact (hf a).h y hy⟩
theorem Le.iter {α β:Type} {g g':α->Option (α ⊕ β)} {n:Nat} {x:α} (h:∀x,Le (g x) (g' x)):Le (gp g n x) (AM.iter g' x):=⟨fun y hy=>by
 refine vO (n:=n) ?_
 induction n generalizing x with
 |zero=>cases hy
 |succ n ih =>
  simp only [gp] at hy ⊢
  cases hg:g x with
  |none=>rw [hg] at hy;cases hy
  |some r =>
   rw [hg] at hy
   rw [(h x).h r hg]
   cases r with
   |inl z=>exact ih hy
   |inr b=>exact hy⟩
theorem Le.DS {A B:Type} {F F':(A->Option B)->A->Option B} (h:∀r r',(∀x,Le (r x) (r' x))->∀x,Le (F r x) (F' r' x)):∀n m,n<=m->∀x,Le (AM.DS F n x) (AM.DS F' m x):=by
 intro n
 induction n with
 |zero=>intro m _ x;exact Le.n
 |succ n ih =>
  intro m hm x
  cases m with
  |zero=>omega
  |succ m=>exact h _ _ (ih m (by omega)) x
theorem Le.fix {A B:Type} {F F':(A->Option B)->A->Option B} {n:Nat} {x:A} (h:∀r r',(∀x,Le (r x) (r' x))->∀x,Le (F r x) (F' r' x)):Le (AM.DS F n x) (yE F' x):=⟨fun y hy =>
 KP (N:=n) fun m hm=>(Le.DS h n m hm x).h y hy⟩
end Go.AM
end
section
namespace Go.AM
@[reducible] def HD {A B:Type} {Y:Type _} (f:A->Y) (g:B->Y) (z:A ⊕ B):Y:=match z with
 | .inl a=>f a
 | .inr b=>g b
inductive Tr:Type->Type->Type->Type 1 where
 |ret {A0 B0 X:Type} (x:X):Tr A0 B0 X
 |no {A0 B0 X:Type}:Tr A0 B0 X
 |br {A0 B0 X:Type} (c:Bool) (a b:Tr A0 B0 X):Tr A0 B0 X
 |am {A0 B0 X:Type} (d:DecidableEq X) (a b:Tr A0 B0 X):Tr A0 B0 X
 |nd {A0 B0 X:Type} (c:Bool) (a:Tr A0 B0 X):Tr A0 B0 X
 |bd {A0 B0 A X:Type} (o:Tr A0 B0 A) (k:A->Tr A0 B0 X):Tr A0 B0 X
 |jx {A0 B0 A X:Type} (o:Tr A0 B0 (A ⊕ X)) (k:A->Tr A0 B0 X):Tr A0 B0 X
 |sm {A0 B0 A B X:Type} (z:A ⊕ B) (f:A->Tr A0 B0 X) (g:B->Tr A0 B0 X):Tr A0 B0 X
 |it {A0 B0 A B:Type} (step:A->Tr A0 B0 (A ⊕ B)) (x:A):Tr A0 B0 B
 |rc {A0 B0:Type} (x:A0):Tr A0 B0 B0
 |fx {A0 B0 A1 B1:Type} (body:A1->Tr A1 B1 B1) (x:A1):Tr A0 B0 B1
 |up {A0 B0 X:Type} (t:Tr Unit Unit X):Tr A0 B0 X
 |of {A0 B0 X:Type} (o:Option X):Tr A0 B0 X
 |mp {A0 B0 E A B:Type} (step:E->A->Tr A0 B0 (A ⊕ B)) (es:List E) (x:A):Tr A0 B0 (A ⊕ B)
 |mq {A0 B0 E A:Type} (step:E->A->Tr A0 B0 A) (es:List E) (x:A):Tr A0 B0 A
 |an {A0 B0 E X:Type} (es:List E) (k:List E->Tr A0 B0 X):Tr A0 B0 X
 |fm {A0 B0 E A:Type} (step:E->A->Tr A0 B0 A) (l:List E) (x:A):Tr A0 B0 A
abbrev bJ (X:Type):=Tr Unit Unit X
noncomputable def run : {A0 B0 X : Type} → (A0 → Option B0) → Tr A0 B0 X → Option X
 |_,_,_,_,.ret x=>some x
 |_,_,_,_,.no=>none
 |_,_,_,r,.br c a b=>jN c (run r a) (run r b)
 |_,_,_,r,.am _ a b=>yf (run r a) (run r b)
 |_,_,_,r,.nd c a=>need c (run r a)
 |_,_,_,r,.bd o k=>cz (run r o) fun a=>run r (k a)
 |_,_,_,r,.jx o k=>cz (run r o) (HD (fun a=>run r (k a)) some)
 |_,_,_,r,.sm z f g=>match z with
  | .inl x=>run r (f x)
  | .inr y=>run r (g y)
 |_,_,_,r,.it step x=>iter (fun a=>run r (step a)) x
 |_,_,_,r,.rc x=>r x
 |_,_,_,_,.fx body x=>yE (fun r y=>run r (body y)) x
 |_,_,_,_,.up t=>run (fun _=>none) t
 |_,_,_,_,.of o=>o
 |_,_,_,r,.mp step es x=>vP (fun l=>goL (fun e a=>run r (step e a)) l x) es
 |_,_,_,r,.mq step es x=>vP (fun l=>Zk (fun e a=>run r (step e a)) l x) es
 |_,_,_,r,.an es k=>vP (fun l=>run r (k l)) es
 |_,_,_,r,.fm step l x=>Zk (fun e a=>run r (step e a)) l x
noncomputable abbrev ag {X:Type} (t:bJ X):Option X:=run (fun _=>none) t
section
variable {A0 B0 A1 B1 A B X:Type} {r:A0->Option B0}
theorem aa {x:X}:run r (.ret x)=some x:=rfl
theorem HE:run r (.no:Tr A0 B0 X)=none:=rfl
theorem ak {c:Bool} {a b:Tr A0 B0 X}:run r (.br c a b)=jN c (run r a) (run r b):=rfl
theorem HF {d:DecidableEq X} {a b:Tr A0 B0 X}:run r (.am d a b)=yf (run r a) (run r b):=rfl
theorem bz {c:Bool} {a:Tr A0 B0 X}:run r (.nd c a)=need c (run r a):=rfl
theorem aB {o:Tr A0 B0 A} {k:A->Tr A0 B0 X}:run r (.bd o k)=cz (run r o) fun a=>run r (k a):=rfl
theorem wj {o:Tr A0 B0 (A ⊕ X)} {k:A->Tr A0 B0 X}:run r (.jx o k)=cz (run r o) (HD (fun a=>run r (k a)) some):=rfl
theorem AB {x:A} {f:A->Tr A0 B0 X} {g:B->Tr A0 B0 X}:run r (.sm (.inl x) f g)=run r (f x):=rfl
theorem HG {y:B} {f:A->Tr A0 B0 X} {g:B->Tr A0 B0 X}:run r (.sm (.inr y) f g)=run r (g y):=rfl
theorem bq {step:A->Tr A0 B0 (A ⊕ B)} {x:A}:run r (.it step x)=iter (fun a=>run r (step a)) x:=rfl
end
def PE {X:Type} (d:DecidableEq X) (x y:Option X):Option X:=match x,y with
 |some a,some b=>match d a b with
  | .isTrue _=>some a
  | .isFalse _=>none
 |_,_=>none
theorem Le.am {X:Type} {d:DecidableEq X} {a b a' b':Option X} (h:Le a a') (h':Le b b'):Le (PE d a b) (yf a' b'):=⟨fun y hy=>by
 cases a with
 |none=>cases hy
 |some u=>cases b with
  |none=>cases hy
  |some v =>
   simp only [PE] at hy
   split at hy
   ·rename_i e _; cases hy; subst e
    rw [h.h _ rfl,h'.h _ rfl,uu]
   ·cases hy⟩
def cmp (n : Nat) : {A0 B0 X : Type} → (A0 → Option B0) → Tr A0 B0 X → Option X
 |_,_,_,_,.ret x=>some x
 |_,_,_,_,.no=>none
 |_,_,_,r,.br c a b=>Ye c (cmp n r a) (cmp n r b)
 |_,_,_,r,.am d a b=>PE d (cmp n r a) (cmp n r b)
 |_,_,_,r,.nd c a=>HB c (cmp n r a)
 |_,_,_,r,.bd o k=>HC (cmp n r o) fun a=>cmp n r (k a)
 |_,_,_,r,.jx o k=>HC (cmp n r o) (HD (fun a=>cmp n r (k a)) some)
 |_,_,_,r,.sm z f g=>match z with
  | .inl x=>cmp n r (f x)
  | .inr y=>cmp n r (g y)
 |_,_,_,r,.it step x=>gp (fun a=>cmp n r (step a)) n x
 |_,_,_,r,.rc x=>r x
 |_,_,_,_,.fx body x=>DS (fun r y=>cmp n r (body y)) n x
 |_,_,_,_,.up t=>cmp n (fun _=>none) t
 |_,_,_,_,.of _=>none
 |_,_,_,_,.mp _ _ _=>none
 |_,_,_,_,.mq _ _ _=>none
 |_,_,_,_,.an _ _=>none
 |_,_,_,_,.fm _ _ _=>none
theorem eF (n : Nat) : {A0 B0 X : Type} → (r r' : A0 → Option B0) → (∀ x, Le (r x) (r' x)) → (t : Tr A0 B0 X) → Le (cmp n r t) (run r' t)
 |_,_,_,_,_,_,.ret _=>Le.r
 |_,_,_,_,_,_,.no=>Le.n
 |_,_,_,r,r',h,.br _ a b=>Le.br (eF n r r' h a) (eF n r r' h b)
 |_,_,_,r,r',h,.am _ a b=>Le.am (eF n r r' h a) (eF n r r' h b)
 |_,_,_,r,r',h,.nd _ a=>Le.nd (eF n r r' h a)
 |_,_,_,r,r',h,.bd o k=>Le.bd (eF n r r' h o) fun a=>eF n r r' h (k a)
 |_,_,_,r,r',h,.jx o k=>Le.bd (eF n r r' h o) fun z=>match z with
  | .inl a=>eF n r r' h (k a)
  | .inr _=>Le.r
 |_,_,_,r,r',h,.sm (.inl x) f g=>eF n r r' h (f x)
 |_,_,_,r,r',h,.sm (.inr y) f g=>eF n r r' h (g y)
 |_,_,_,r,r',h,.it step x=>Le.iter fun a=>eF n r r' h (step a)
 |_,_,_,_,_,h,.rc x=>h x
 |_,_,_,_,_,_,.fx body x=>Le.fix fun r r' h y=>eF n r r' h (body y)
 |_,_,_,_,_,_,.up t=>eF n _ _ (fun _=>Le.r) t
 |_,_,_,_,_,_,.of _=>Le.n
 |_,_,_,_,_,_,.mp _ _ _=>Le.n
 |_,_,_,_,_,_,.mq _ _ _=>Le.n
 |_,_,_,_,_,_,.an _ _=>Le.n
 |_,_,_,_,_,_,.fm _ _ _=>Le.n
@[reducible] def Tr.ni {A0 B0 X:Type} (z:Int) (a:Tr A0 B0 X):Tr A0 B0 X:=.nd (cS .i64 z) a
@[reducible] def Tr.nb {A0 B0 X:Type} (i n:Int) (a:Tr A0 B0 X):Tr A0 B0 X:=.nd (cR i n) a
theorem aJ {A0 B0 X:Type} {r:A0->Option B0} {z:Int} {a:Tr A0 B0 X}:run r (.ni z a)=need (cS .i64 z) (run r a):=rfl
theorem aV {A0 B0 X:Type} {r:A0->Option B0} {i n:Int} {a:Tr A0 B0 X}:run r (.nb i n a)=need (cR i n) (run r a):=rfl
theorem ay {X:Type} {t:bJ X} {y:X} (n:Nat) (h:cmp n (fun _=>none) t=some y):ag t=some y:=(eF n _ _ (fun _=>Le.r) t).h y h
def cQ : {A0 B0 A X : Type} → Tr A0 B0 A → (A → Tr A0 B0 X) → Tr A0 B0 X
 |_,_,_,_,.ret x,k=>k x
 |_,_,_,_,.no,_=>.no
 |_,_,_,_,.br c a b,k=>.br c (cQ a k) (cQ b k)
 |_,_,_,_,.am d a b,k=>.bd (.am d a b) k
 |_,_,_,_,.nd c a,k=>.nd c (cQ a k)
 |_,_,_,_,.bd o f,k=>.bd o fun a=>cQ (f a) k
 |_,_,_,_,.jx o f,k=>cQ o (HD (fun a=>cQ (f a) k) k)
 |_,_,_,_,.sm z f g,k=>.sm z (fun x=>cQ (f x) k) (fun y=>cQ (g y) k)
 |_,_,_,_,.it step x,k=>.bd (.it step x) k
 |_,_,_,_,.rc x,k=>.bd (.rc x) k
 |_,_,_,_,.fx b x,k=>.bd (.fx b x) k
 |_,_,_,_,.up t,k=>.bd (.up t) k
 |_,_,_,_,.of o,k=>.bd (.of o) k
 |_,_,_,_,.mp s es x,k=>.bd (.mp s es x) k
 |_,_,_,_,.mq s es x,k=>.bd (.mq s es x) k
 |_,_,_,_,.an es f,k=>.bd (.an es f) k
 |_,_,_,_,.fm s l x,k=>.bd (.fm s l x) k
def flat {A0 B0 X:Type} (t:Tr A0 B0 X):Tr A0 B0 X:=cQ t .ret
theorem KR {A X:Type} {c:Bool} {a b:Option A} {f:A->Option X}:cz (jN c a b) f=jN c (cz a f) (cz b f):=by cases c<;>simp
theorem Ch {X:Type} {x:Option X}:need false x=none:=by
 cases h:need false x with
 |none=>rfl
 |some y=>have:=(uw h).1;cases this
theorem KS {A X:Type} {c:Bool} {a:Option A} {f:A->Option X}:cz (need c a) f=need c (cz a f):=by
 cases c
 ·rw [Ch,Ch,k6]
 ·rw [dL rfl,dL rfl]
theorem Ci {A B X:Type} {o:Option A} {f:A->Option B} {g:B->Option X}:cz (cz o f) g=cz o fun a=>cz (f a) g:=by
 cases o with
 |none=>rw [k6,k6,k6]
 |some a=>rw [aP,aP]
theorem AD {A:Type} {o:Option A}:cz o (fun a=>some a)=o:=by
 cases o with
 |none=>rw [k6]
 |some a=>rw [aP]
theorem dX : {A0 B0 A X : Type} → (r : A0 → Option B0) → (t : Tr A0 B0 A) → (k : A → Tr A0 B0 X) → run r (cQ t k) = cz (run r t) fun a => run r (k a)
 |_,_,_,_,r,.ret x,k=>by simp only [cQ,run,aP]
 |_,_,_,_,r,.no,k=>by simp only [cQ,run,k6]
 |_,_,_,_,r,.br c a b,k=>by simp only [cQ,run,KR,dX r a k,dX r b k]
 |_,_,_,_,r,.am d a b,k=>by simp only [cQ,run]
 |_,_,_,_,r,.nd c a,k=>by simp only [cQ,run,KS,dX r a k]
 |_,_,_,_,r,.bd o f,k=>by simp only [cQ,run,Ci,dX r (f _) k]
 |_,_,_,_,r,.jx o f,k=>by
  simp only [cQ,run,Ci,dX r o _]
  congr 1
  funext z
  cases z with
  |inl a=>simp only [dX r (f a) k]
  |inr x=>simp only [aP]
 |_,_,_,_,r,.sm z f g,k=>by
  cases z with
  |inl x=>simp only [cQ,run,dX r (f x) k]
  |inr y=>simp only [cQ,run,dX r (g y) k]
 |_,_,_,_,r,.it step x,k=>by simp only [cQ,run]
 |_,_,_,_,r,.rc x,k=>by simp only [cQ,run]
 |_,_,_,_,r,.fx b x,k=>by simp only [cQ,run]
 |_,_,_,_,r,.up t,k=>by simp only [cQ,run]
 |_,_,_,_,r,.of o,k=>by simp only [cQ,run]
 |_,_,_,_,r,.mp s es x,k=>by simp only [cQ,run]
 |_,_,_,_,r,.mq s es x,k=>by simp only [cQ,run]
 |_,_,_,_,r,.an es f,k=>by simp only [cQ,run]
 |_,_,_,_,r,.fm s l x,k=>by simp only [cQ,run]
theorem kJ {A0 B0 X:Type} {r:A0->Option B0} {t:Tr A0 B0 X}:run r (flat t)=run r t:=by
 unfold flat
 rw [dX]
 simp only [run]
 exact AD
end Go.AM
end
section
namespace Go.AM
inductive LR (P:Program) (N:Nat) (out:Option Nat) (base:Nat):Type 1 where
 |l (x:bp P N out base)
 |r (x:iI P N out base)
 |m (x:Pm P N out base)
 |x
def nl : C → Nat
 | .seq a b=>nl a+nl b
 | .cond _ a b=>nl a+nl b
 | .block _ a=>nl a
 | .loop _=>1
 | .cA _ _ _ _=>1
 | .gD _ _ _ _ _ _ _ _ _ _ _=>1
 |_=>0
section
variable {P:Program} {N:Nat} {out:Option Nat} {base:Nat}
def KT : List (LR P N out base) → Nat → LR P N out base
 |[],_=>.x
 |y::_,0=>y
 |_::r,n+1=>KT r n
def dO (ls : List (LR P N out base)) : C → Nat → D P N out base
 | .skip,_=>.skip
 | .dg is,_=>.dg is
 | .draw ps is,_=>.draw ps is
 | .seq a b,i=>.seq (dO ls a i) (dO ls b (i+nl a))
 | .cond c a b,i=>.cond c (dO ls a i) (dO ls b (i+nl a))
 | .block n a,i=>.block n (dO ls a i)
 | .loop c,i=>match KT ls i with
  | .l l=>.loop l
  |_=>.loop (Hw c)
 | .exit n,_=>.exit n
 | .ret,_=>.ret
 | .cA f ps a b,i=>match KT ls i with
  | .r l=>.cA l
  |_=>.cA (DP f ps a b)
 | .gD p m t cl e kt kg vt vg d b,i=>match KT ls i with
  | .m l=>.gD l
  |_=>.gD (KK p m t cl e kt kg vt vg d b)
end
def oB (b : Bool) : C → Nat → C
 | .seq x y,k=>match Nat.blt k (nl x) with
  |true=>oB b x k
  |false=>oB b y (k - nl x)
 | .cond _ x y,k=>match Nat.blt k (nl x) with
  |true=>oB b x k
  |false=>oB b y (k - nl x)
 | .block _ x,k=>oB b x k
 | .loop c,_=>c
 | .cA _ _ x y,_=>match b with
  |true=>y
  |false=>x
 | .gD _ _ _ _ _ _ _ _ _ _ x,_=>x
 |c,_=>c
def pick : C → List (Nat × Bool) → C
 |c,[]=>c
 |c,(k,b)::r=>pick (oB b c k) r
def kd (P:Program) (f:Func):C:=match cD P f with
 |some t=>t.body
 |none=>.skip
@[reducible] def hI:SP:=.c (.hole (.int .i64))
@[reducible] def hL:SP:=.c (.hole (.list (.int .i64)))
@[reducible] def hLL:SP:=.c (.hole (.list (.list (.int .i64))))
@[reducible] def tI:Ty:=.int .i64
@[reducible] def tL:Ty:=.list (.int .i64)
end Go.AM
end
section
namespace Go.AM
section
variable {P:Program} {N:Nat} {out:Option Nat} {base:Nat}
end
section
variable {P:Program} {N:Nat} {out:Option Nat} {base:Nat}
end
end Go.AM
end
section
namespace Go.AM
@[reducible] def bs (l:List Nat):ByteArray:=⟨(l.map UInt8.ofNat).toArray⟩
section
variable {P:Program}
end
section
variable {P:Program} {N:Nat} {out:Option Nat} {base:Nat}
end
end Go.AM
end
section
namespace Go.AM
structure Gt where
 f:Nat
 p:aC
 q:aC
 fn:p.T->Option q.T
def Gt.Ok (P:Program) (gt:Gt):Prop:=∀x y,gt.fn x=some y ->
 eI P gt.f ((gt.p.E x).map (·.2)) ⟨gt.p.ff.length,gt.p.B x⟩ fun r H=>r=get 0 (gt.q.E y)/\H=⟨gt.p.ff.length+gt.q.ff.length,gt.q.B y++gt.p.B x⟩
def Gt.slots (gt:Gt):Prop:=gt.p.env.map (·.1)=List.range gt.p.env.length
def HH : V → Bool
 | .int _ _=>true
 | .str _=>true
 | .mp _=>true
 | .ptr _ _=>true
 | .tf _=>true
 |_=>false
def NR : js → Bool
 | .cells cs _=>cs.all HH
 | .map _ _ _ _ _=>true
 |_=>false
def mB : aj → Bool
 |[]=>true
 |(_,b)::r=>match NR b with
  |true=>mB r
  |false=>false
theorem mC : ∀ {bl : aj}, mB bl = true → ∀ p ∈ bl, NR p.2 = true
 |[],_,p,hp=>by simp at hp
 |(s,b)::r,h,p,hp=>by
  simp only [mB] at h
  split at h
  ·rename_i hb
   rcases List.mem_cons.1 hp with rfl|hp
   ·exact hb
   ·exact mC h p hp
  ·cases h
def TZ (n:Nat) (l:List Nat):Bool:=(List.range n).all fun j=>tj j l
def PF (n : Nat) : List Lc → aj → Option cU
 |[],[]=>some []
 |[_],[(i,b)]=>match Nat.beq i n with
  |true=>some [(n,some b)]
  |false=>none
 |_,_=>none
def oC (π : List Nat) (n : Nat) : List Lc → List Nat
 |[]=>π
 |_::_=>π++[n]
section
variable {P:Program} {R:Type}
def PG (kz:Kz R) (no:R) (gt:Gt) (vs:List V) (n:Nat) (bl:aj) (K:V->List Nat->cU->R):R :=
 match an (Nat.beq vs.length gt.p.env.length) (iK gt.p.bl) with
 |true=>gt.p.Yc no (args 0 vs) 0 bl fun π x=>match an (sj π) (an (TZ π.length (gt.p.bl.map (·.1))) (mB (gt.p.B x))) with
  |true=>kz.bd (gt.fn x) fun y=>gt.q.go (π.length+gt.q.ff.length) y fun env _ bG _=>match iZ (oC π n gt.q.ff) 8 (get 0 env) with
   |some r'=>match gS (oC π n gt.q.ff) bG with
    |some pG=>match PF n gt.q.ff pG with
     |some u=>K r' π u
     |none=>kz.no
    |none=>kz.no
   |none=>kz.no
  |false=>no
 |false=>no
theorem HI {π:List Nat} {σ:List Nat} (hσ:∀(j i:Nat),π[j]?=some i->σ[j]?=some i) {c d:V} (h:EV π c d) (hs:HH c=true):iZ σ 8 c=some d:=by
 cases h<;>first|(cases hs;done)|rfl|skip
 ·rename_i hi;simp only [iZ,hσ _ _ hi]
 ·rename_i hi;simp only [iZ,hσ _ _ hi]
theorem uH {π : List Nat} {σ : List Nat} (hσ : ∀ (j i : Nat), π[j]? = some i → σ[j]? = some i) : ∀ {cs ds : List V}, sX π cs ds → cs.all HH = true → cM (iZ σ 8) cs = some ds
 |[],[],_,_=>rfl
 |[],_::_,h,_=>by have:=h.1;simp at this
 |_::_,[],h,_=>by have:=h.1;simp at this
 |c::cs,d::ds,h,hs=>by
  rw [List.all_cons,Bool.and_eq_true] at hs
  have h1:EV π c d:=h.2 0 c d rfl rfl
  have h2:sX π cs ds:=⟨by have:=h.1;simpa using this,fun i v u hv hu=>h.2 (i+1) v u hv hu⟩
  simp only [cM,HI hσ h1 hs.1,uH hσ h2 hs.2]
theorem sq {π σ:List Nat} {nx:Nat} {bl:aj} (hσ:∀(j i:Nat),π[j]?=some i->σ[j]?=some i):∀{mh:aj},(∀p∈mh,Kv π nx bl p.1 p.2)->mB mh=true ->
  ∃Ff,gS σ mh=some Ff/\(∀p∈Ff,p.1∈π/\aq p.1 bl=some p.2)/\∀p∈mh,∀i,π[p.1]?=some i->∃B,(i,B)∈Ff
 |[],_,_=>⟨[],rfl,by simp,by simp⟩
 |(j,b)::r,h,hs=>by
  have hb:=h (j,b) (List.mem_cons_self ..)
  simp only [mB] at hs
  split at hs<;>try (cases hs;done)
  rename_i Fg
  obtain ⟨Ff,e1,e2,e3⟩:=sq hσ (fun p hp=>h p (List.mem_cons_of_mem _ hp)) hs
  obtain ⟨i,hi,hB⟩:=hb
  simp only at hi hB
  have key:∃B,Dp σ b=some B/\aq i bl=some B:=by
   cases b with
   |cells cs fz =>
    obtain ⟨ds,h1,h2⟩:=hB
    exact ⟨.cells ds fz,by simp only [Dp,uH hσ h2 Fg],h1⟩
   |map kt kg vt vg es=>exact ⟨_,rfl,hB⟩
   |arr=>cases Fg
   |loop=>cases Fg
   |gi=>cases Fg
   |jo=>cases Fg
  obtain ⟨B,h1,h2⟩:=key
  refine ⟨(i,B)::Ff,?_,fun p hp=>?_,fun p hp i' hi'=>?_⟩
  ·simp only [gS,jF,hσ _ _ hi,h1,e1]
  ·rcases List.mem_cons.1 hp with rfl | hp
   ·exact ⟨List.mem_of_getElem? hi,h2⟩
   ·exact e2 p hp
  ·rcases List.mem_cons.1 hp with rfl | hp
   ·simp only at hi';rw [hi] at hi';cases hi';exact ⟨B,List.mem_cons_self ..⟩
   ·obtain ⟨C, hC⟩ := e3 p hp i' hi'
    exact ⟨C,List.mem_cons_of_mem _ hC⟩
theorem nu {σ : List Nat} : ∀ {a b a' b' : aj}, gS σ a = some a' → gS σ b = some b' → gS σ (a ++ b) = some (a' ++ b')
 |[],b,a',b',h,h2=>by cases h;exact h2
 |(j,x)::a,b,a',b',h,h2=>by
  simp only [gS] at h
  split at h<;>try (cases h;done)
  rename_i i hi
  split at h<;>try (cases h;done)
  rename_i x' hx
  split at h<;>cases h
  rename_i r hr
  have:=nu (b:=b) hr h2
  simp only [List.cons_append,gS,hi,hx,this]
theorem wm {bl NH:aj} (h:∀p∈bl,aq p.1 NH=some p.2) {id:Nat} (hk:∃B,(id,B)∈bl):aq id bl=aq id NH:=by
 obtain ⟨B,hB⟩:=hk
 have h1:=h _ hB
 cases hg:aq id bl with
 |none =>
  exfalso
  clear h h1
  induction bl with
  |nil=>cases hB
  |cons p r ih =>
   obtain ⟨s,b⟩:=p
   rw [aS] at hg
   split at hg
   ·cases hg
   ·rename_i hne
    rcases List.mem_cons.1 hB with e|hB
    ·cases e;exact hne rfl
    ·exact ih hB hg
 |some C=>have:=h _ (dx hg);simp only at this h1;rw [<-this]
theorem wo {bl:aj} {id:Nat} (h:∀B,(id,B)∉bl):aq id bl=none:=by
 cases hg:aq id bl with
 |none=>rfl
 |some B=>exact absurd (dx hg) (h B)
theorem KU {n:Nat} {l:List Nat} (h:TZ n l=true) {j:Nat} (hj:j<n):j∈l:=kA.1 (List.all_eq_true.1 h j (List.mem_range.2 hj))
theorem HJ {f : Nat} {KL vs : List V} {mh bl1 bl pG : aj} {π : List Nat} {r0 r' : V} {n : Nat} {ls : List Lc} {u : cU}
  (h:eI P f KL ⟨π.length,mh⟩ fun r H=>r=r0/\H=⟨π.length+ls.length,bl1++mh⟩) (hargs:sX π KL vs) (tn:∀p∈mh,Kv π 0 bl p.1 p.2)
  (uD:∀p∈mh,∀st j d env ps as bd N,p.2 ≠ .loop st j d env ps as bd N) (JC:π.Nodup) (Zu:∀j,j<π.length->∃b,(j,b)∈mh) (HK:mB mh=true)
  (hr:iZ (oC π n ls) 8 r0=some r') (AA:gS (oC π n ls) bl1=some pG) (hu:PF n ls pG=some u):X5 P f vs n bl r' π u:=by
 intro bG hag
 have hσ:∀(j i:Nat),π[j]?=some i->(oC π n ls)[j]?=some i:=fun j i e=>by
  cases ls with
  |nil=>exact e
  |cons=>simp only [oC];rw [List.getElem?_append_left (List.getElem?_eq_some_iff.1 e).1];exact e
 have PI:∀nx,∀p∈mh,Kv π nx bG p.1 p.2:=fun nx p hp=>by
  obtain ⟨i,hi,hB⟩:=tn p hp
  have hg:=hag i (List.mem_of_getElem? hi)
  have hs:=mC HK p hp
  refine ⟨i,hi,?_⟩
  obtain ⟨j,b⟩:=p
  simp only at hB hs ⊢
  cases b with
  |cells cs fz=>obtain ⟨ds,h1,h2⟩:=hB;exact ⟨ds,by rw [hg];exact h1,h2⟩
  |map kt kg vt vg es=>rw [hg];exact hB
  |arr=>cases hs
  |loop=>cases hs
  |gi=>cases hs
  |jo=>cases hs
 obtain ⟨Ff,e1,e2,e3⟩:=sq (σ:=oC π n ls) hσ (PI 0) HK
 refine ⟨h.1,fun Y ι μ nx w as hn hfree hI hl=>?_⟩
 -- what is lent has a place
 have sr:∀i∈π,i<nx/\(∃L,μ i=some L)/\∃B,(i,B)∈Ff:=fun i hi=>by
  obtain ⟨j,hj⟩:=List.getElem?_of_mem hi
  obtain ⟨b,hb⟩:=Zu j (List.getElem?_eq_some_iff.1 hj).1
  obtain ⟨B,hB⟩:=e3 _ hb i hj
  have hgB:=(e2 _ hB).2
  simp only at hgB
  have hlt:=hI.lt i B hgB
  refine ⟨hlt,?_,B,hB⟩
  obtain ⟨i2,hi2,hk⟩:=PI 0 _ hb
  rw [hj] at hi2;cases hi2
  have hs:=mC HK _ hb
  simp only at hk hs
  cases b with
  |cells cs fz=>obtain ⟨ds,h1,_⟩:=hk;obtain ⟨L,vs,hM,_⟩:=hI.live i _ h1;exact ⟨L,hM.mu⟩
  |map kt kg vt vg es=>obtain ⟨L,_,_,_,q1,_⟩:=hI.live i _ hk;exact ⟨L,q1⟩
  |arr=>cases hs
  |loop=>cases hs
  |gi=>cases hs
  |jo=>cases hs
 have Zv:n∉π:=fun hi=>by obtain ⟨_,⟨L,hL⟩,_⟩:=sr n hi;rw [hfree] at hL;cases hL
 have Cc:∀j i,(oC π n ls)[j]?=some i->(j<π.length/\π[j]?=some i)\/(π.length<=j/\i=n/\ls≠[]):=fun j i e=>by
  cases ls with
  |nil=>exact .inl ⟨(List.getElem?_eq_some_iff.1 e).1,e⟩
  |cons =>
   simp only [oC] at e
   rw [List.getElem?_append] at e
   split at e
   ·rename_i hj;exact .inl ⟨hj,e⟩
   ·rename_i hj
    refine .inr ⟨by omega,?_,by simp⟩
    have:=List.mem_of_getElem? e
    simpa using this
 -- the new block
 have hnew:(ls=[]/\pG=[]/\u=[])\/∃B,pG=[(n,B)]/\u=[(n,some B)]:=by
  unfold PF at hu
  split at hu
  ·cases hu;exact .inl ⟨rfl,rfl,rfl⟩
  ·split at hu
   ·rename_i hi;have:=Nat.eq_of_beq_eq_true hi;subst this;cases hu;exact .inr ⟨_,rfl,rfl⟩
   ·cases hu
  ·cases hu
 have hkeep:∀i,i∈oC π n ls->i=n\/i∈π:=fun i hi=>by
  obtain ⟨j,hj⟩:=List.getElem?_of_mem hi
  rcases Cc j i hj with ⟨_,h2⟩|⟨_,h2,_⟩
  ·exact .inr (List.mem_of_getElem? h2)
  ·exact .inl h2
 refine (uC (Q:=fun r _ NH=>r=r'/\NH=(pG++Ff)++lK π bG) h hargs (PI nx) uD JC hI hl (F:=fun _=>oC π n ls) (G:=fun _=>nx) ?_).mono ?_
 ·rintro r m NH ⟨rfl, e⟩
  cases e
  refine ⟨r',pG++Ff,hr,nu AA e1,Nat.le_refl _,fun i hi=>(sr i hi).1,fun j i e=>?_,fun a b i ha hb=>?_,rfl,rfl⟩
  ·rcases Cc j i e with h1 | ⟨h1, rfl, h3⟩
   ·exact .inl h1
   ·refine .inr ⟨h1, hfree, ?_, Zv, hn⟩
    rcases hnew with ⟨e,_,_⟩|⟨B,rfl,_⟩
    ·exact absurd e h3
    ·right;rw [fW,aS,if_pos rfl];simp
  ·rcases Cc _ _ ha with ⟨h1, h2⟩ | ⟨h1, rfl, h3⟩ <;> rcases Cc _ _ hb with ⟨h4, h5⟩ | ⟨h4, h5, h6⟩
   ·exact (List.getElem?_inj h1 JC).1 (h2.trans h5.symm)
   ·subst h5;exact absurd (List.mem_of_getElem? h2) Zv
   ·exact absurd (List.mem_of_getElem? h5) Zv
   ·have q1 := (List.getElem?_eq_some_iff.1 ha).1; have q2 := (List.getElem?_eq_some_iff.1 hb).1
    cases ls with
    |nil=>exact absurd rfl h3
    |cons=>simp only [oC,List.length_append,List.length_cons,List.length_nil] at q1 q2;omega
 ·rintro e w' ⟨v, ι', μ', rr, m, NH, rfl, hi, hm, hne, Jy, vw, rfl, rfl⟩
  refine ⟨v,ι',μ',rfl,hi,hm,fun id hid=>?_,?_,vw⟩
  ·by_cases h1 : id ∈ oC π n ls
   ·rcases hkeep id h1 with h2 | h2
    ·exact absurd h2 hid
    ·obtain ⟨_, ⟨L, hL⟩, _⟩ := sr id h2
     rw [hL];exact hm _ _ hL
   ·exact hne id h1
  ·refine Jy.Y9 fun id => ?_
   simp only
   rw [fW,fW]
   have Zw:∀id,id∉π->aq id Ff=none:=fun id hid=>wo fun B hB=>hid (e2 _ hB).1
   have hin:∀id,id∈π->aq id Ff=aq id bG:=fun id hid=>wm (fun p hp=>(e2 p hp).2) (sr id hid).2.2
   have hpi:∀id,(match aq id Ff with|some B=>some B|none=>aq id (lK π bG))=aq id bG:=fun id=>by
    by_cases hid:id∈π
    ·rw [hin id hid]
     obtain ⟨_,_,B,hB⟩:=sr id hid
     have:=(e2 _ hB).2;simp only at this
     rw [this]
    ·rw [Zw id hid,mz,if_neg hid]
   rcases hnew with ⟨-,rfl,rfl⟩|⟨B,rfl,rfl⟩
   ·simp only [bD,aq];exact (hpi id).symm
   ·simp only [bD]
    rw [aS,aS,bf]
    by_cases h1:n=id
    ·simp [h1]
    ·rw [if_neg h1, if_neg h1, if_neg (fun e => h1 e.symm)]
     simp only [aq];exact (hpi id).symm
theorem yG {A : Type} : ∀ {ps : List (Nat × BP)} {x : JA ps A}, (DI ps x).map (·.1) = ps.map (·.1)
 |[],_=>rfl
 |(_,_)::r,x=>by simp [DI,yG (ps:=r)]
theorem KV {gt:Gt} (hok:gt.Ok P) (Dd:gt.slots) {X:Type} {no:Option X} {vs:List V} {n:Nat} {bl:aj} {K:V->List Nat->cU->Option X} {r:X} (h:PG (gv X) no gt vs n bl K=some r) :
  no=some r\/∃v jV u,X5 P gt.f vs n bl v jV u/\K v jV u=some r:=by
 unfold PG at h
 split at h
 ·rename_i h0
  rw [aQ] at h0
  have hlen:=Nat.eq_of_beq_eq_true h0.1
  unfold aC.Yc at h
  have key:∀{ls:List Lc} {π0:List Nat} {b:Nat} {k:List Nat->Option X},jP no (args 0 vs) 0 bl [] ls π0 b k=some r->no=some r\/∃rr,rr.length=ls.length/\k (π0++rr)=some r:=by
   intro ls
   induction ls with
   |nil=>intro π0 b k hk;exact .inr ⟨[],rfl,by simpa [jP] using hk⟩
   |cons l ls ih =>
    intro π0 b k hk
    simp only [jP] at hk
    split at hk
    ·rename_i i hi
     rw [gO,qs,gO] at hk
     rcases ih hk with hk|⟨rr,h1,h2⟩
     ·exact .inl hk
     ·exact .inr ⟨i::rr,by simp [h1],by simpa using h2⟩
    ·exact .inl hk
  rcases key h with h|⟨π,hπ,h⟩
  ·exact .inl h
  simp only [List.nil_append] at h
  split at h
  ·rename_i hap
   split at h
   ·rename_i f hf
    split at h
    ·rename_i g hg
     split at h
     ·rename_i hnb
      rw [aQ,aQ] at hnb
      obtain ⟨y,hy,h⟩:=cO h
      rw [aC.go_eq] at h
      obtain ⟨h1,h2⟩:=kH hf (g ())
      obtain ⟨h3,h4⟩:=qq hg ()
      split at h<;>try (cases h;done)
      rename_i r' hr'
      split at h<;>try (cases h;done)
      rename_i pG AA
      split at h<;>try (cases h;done)
      rename_i u hu
      have eH:=hok _ _ hy
      rw [<-hπ] at eH
      have hB:gt.p.B (f (g ()))=DI gt.p.bl (g ()):=by unfold aC.B;rw [h2]
      have hkeys:∀j,j<π.length->∃b,(j,b)∈gt.p.B (f (g ())):=fun j hj=>by
       have:=KU hnb.2.1 hj
       have hk:(gt.p.B (f (g ()))).map (·.1)=gt.p.bl.map (·.1):=by rw [hB];exact yG
       rw [<-hk] at this
       obtain ⟨⟨j',b⟩,hm,rfl⟩:=List.mem_map.1 this
       exact ⟨b,hm⟩
      refine .inr ⟨r',π,u,HJ (ls:=gt.q.ff) eH ?_ (by rw [hB];exact h3) (by rw [hB];exact oA _ h0.2) (oz hnb.1) hkeys hnb.2.2 hr' AA hu,h⟩
      exact Cd (env:=qa gt.p.env (f (g ()))) (hlen.trans ji.symm) (iy.trans (Dd.trans (by rw [ji]))) h1
     ·exact .inl h
    ·exact .inl h
   ·exact .inl h
  ·exact .inl h
 ·exact .inl h
def yH (kz : Kz R) (f : Nat) (vs : List V) (n : Nat) (bl : aj) (K : V → List Nat → cU → R) (no : R) : List Gt → R
 |[]=>no
 |gt::r=>match Nat.beq gt.f f with
  |true=>PG kz (yH kz f vs n bl K no r) gt vs n bl K
  |false=>yH kz f vs n bl K no r
def HL (P : Program) : List Gt → Prop
 |[]=>True
 |c::r=>(c.Ok P/\c.slots)/\HL P r
theorem su {X:Type} {no:Option X} {f:Nat} {vs:List V} {n:Nat} {bl:aj} {K:V->List Nat->cU->Option X} {r:X}:∀{NS:List Gt},HL P NS->yH (gv X) f vs n bl K no NS=some r ->
  no=some r\/∃v jV u,X5 P f vs n bl v jV u/\K v jV u=some r
 |[],_,h=>.inl h
 |gt::NS,hok,h=>by
  simp only [yH] at h
  split at h
  ·rename_i hf
   have e:=Nat.eq_of_beq_eq_true hf
   subst e
   rcases KV hok.1.1 hok.1.2 h with h|h
   ·exact su hok.2 h
   ·exact .inr h
  ·exact su hok.2 h
def uI (qt:List Ct) (hts:List Ht) (NS:List Gt):Cx where
 pc kz f vs K:=vY kz f vs K qt
 ca kz f vs nx bl K:=uF kz f vs nx bl K (KF qt kz f vs nx bl K) hts
 rd kz _ _ _ _ _:=kz.no
 gc kz f vs n bl d K:=yH kz f vs n bl K d NS
theorem kK {qt:List Ct} {hts:List Ht} {NS:List Gt} (h:yx P qt) (h2:Cf P hts) (h3:HL P NS):(uI qt hts NS).Ok P where
 SK hk:=(au h h2).SK hk
 Pk hk:=(au h h2).Pk hk
 X6 hk:=by cases hk
 TS hk:=su h3 hk
theorem Gt.Zx {ht:Ht} (h:ht.Ok P) (hl:ht.p.ff=[]) (hb:∀x,ht.p.B x=[]):(⟨ht.f,ht.p,ht.q,ht.fn⟩:Gt).Ok P:=fun x y hy=>by
 have:=h x y hy
 simp only [hb,List.append_nil] at this ⊢
 exact this
theorem DU {f:Nat} {vs:List V} {H:aK} {n:Nat} {b1 b2:aj} {r:V} (h:eI P f vs H fun v H'=>v=r/\H'=⟨n,b1⟩) (he:OY b2 b1):eI P f vs H fun v H'=>v=r/\H'=⟨n,b2⟩ :=
 ⟨h.1,fun Y ι μ w as hI hr=>(h.2 Y ι μ w as hI hr).mono fun e w' ⟨v,ι',μ',r',H',h1,h2,h3,h4,h5,h6,h7⟩=>by
  subst h7
  exact ⟨v,ι',μ',r',⟨n,b2⟩,h1,h2,h3,h4.Y9 he,h5,h6,rfl⟩⟩
theorem Gt.reads {f : Nat} {p q q' : aC} {fn : p.T → Option q.T} {fn' : p.T → Option q'.T} (h : (⟨f, p, q, fn⟩ : Ht).Ok P) (hq : q.ff = []) (Kj : q'.ff = [])
  (hs:∀x y',fn' x=some y'->∃y,fn x=some y/\get 0 (q.E y)=get 0 (q'.E y')/\OY (p.B x) (q.B y)/\q'.B y'=[]):(⟨f,p,q',fn'⟩:Gt).Ok P:=fun x y' hy=>by
 obtain ⟨y,h1,h2,h3,h4⟩:=hs x y' hy
 have:=DU (h x y h1) h3
 refine At this fun v H hv=>?_
 obtain ⟨rfl,rfl⟩:=hv
 refine ⟨h2,?_⟩
 simp only [hq,Kj,h4,List.nil_append]
theorem DV {α β:Type} {step:α->Option (α ⊕ β)} (I:α->Prop) (J:β->Prop) (h1:∀x y,I x->step x=some (.inl y)->I y) (h2:∀x b,I x->step x=some (.inr b)->J b) {x:α} {b:β} (hI:I x) (h:iter step x=some b):J b:=by
 obtain ⟨n,hn⟩:=ov h
 clear h
 induction n generalizing x with
 |zero=>cases hn
 |succ n ih =>
  simp only [gp] at hn
  split at hn
  ·cases hn
  ·rename_i y hy;exact ih (h1 x y hI hy) hn
  ·rename_i b' hb;cases hn;exact h2 x _ hI hb
end
end Go.AM
end
