/- slices.SortFunc on a list of structs behind a block, by the library's own theorem. Code that is run beside blocks that it does not know. A list that lies in a map grows in place. Code beside a map whose lists grow in place. Reading and writing a map that is kept beside the machine. m[k] = append(m[k], x), in whatever order its parts are reckoned: up to the map's writing. m[k] = append(m[k], x): the whole of it. The region m[k] = append(m[k], x). A loop in which lists grow that lie in a map: its beginning, its rounds, its end. -/
import Derived.Test.YthemjfloiapaaaaGreatAMe
import Derived.Shelf.SlSortCmp.WholeK
import Derived.Shelf.SlSortCmp.NoneTotal
set_option linter.unusedSectionVars false
set_option linter.unusedVariables false
set_option linter.unusedSimpArgs false
section
namespace Go.AM
open Go.Sort Go.Proofs Go.Shelf
def BQ : (t : Ty) → t.den → List Value
 | .unit,_=>[]
 | .bool,b=>[.bool b]
 | .str,s=>[.string s]
 | .int k,n=>[.int k n]
 | .prod a b,x=>BQ a x.1++BQ b x.2
 |_,_=>[]
theorem xE {ι : au} : ∀ {t : Ty} {ks : List Kd} (x : t.den), bF t = some ks → ag ι t x (BQ t x)
 | .unit,_,_,_=>rfl
 | .bool,_,_,_=>rfl
 | .str,_,_,_=>rfl
 | .int _,_,_,_=>rfl
 | .list _,_,_,h=>by cases h
 | .cu _ _ _,_,_,h=>by cases h
 | .prod a b,_,x,h=>by
  simp only [bF] at h
  split at h<;>try (cases h;done)
  rename_i k1 k2 h1 h2
  exact ⟨_,_,rfl,xE x.1 h1,xE x.2 h2⟩
theorem xF {α : Type} [Inhabited α] (enc : α → List Value) (k : Nat) (hk : ∀ x, (enc x).length = k) (h0 : 0 < k) : ∀ zs : List α, (Go.Sort.flatK enc k zs.toArray).toList = zs.flatMap enc
 |[]=>by simp [Go.Sort.flatK]
 |z::r=>by
  have ih:=xF enc k hk h0 r
  have hlr:(r.flatMap enc).length=r.length * k:=by
   have:=congrArg List.length ih
   simpa using this.symm
  apply List.ext_getElem
  ·simp [hk,hlr,Nat.add_mul,Nat.add_comm]
  intro t h1 h2
  have ht:t<(r.length+1) * k:=by simpa using h1
  have e1:(Go.Sort.flatK enc k (z::r).toArray).toList[t]=(Go.Sort.flatK enc k (z::r).toArray)[t]! := by
   rw [getElem!_pos _ t (by simpa using ht)];simp
  rw [e1,get_flatK _ _ _ _ (by simpa using ht)]
  simp only [List.flatMap_cons]
  by_cases hlt:t<k
  ·rw [List.getElem_append_left (by rw [hk]; exact hlt), Nat.div_eq_of_lt hlt, Nat.mod_eq_of_lt hlt]
   simp [hk,hlt]
  ·obtain ⟨u, rfl⟩ : ∃ u, t = k + u := ⟨t - k, by omega⟩
   have hu:u<r.length * k:=by rw [Nat.add_mul,Nat.one_mul] at ht;omega
   rw [List.getElem_append_right (by rw [hk];omega)]
   have e2:(k+u) / k=u / k+1:=by rw [Nat.add_comm,Nat.add_div_right _ h0]
   have e3:(k+u) % k=u % k:=by rw [Nat.add_mod_left]
   rw [e2,e3]
   have e4:(r.flatMap enc)[u]'(by rw [hlr];exact hu)=(Go.Sort.flatK enc k r.toArray)[u]! := by
    rw [getElem!_pos _ u (by simpa using hu)]
    simp only [←ih];simp
   have e5:(r.flatMap enc)[k+u - (enc z).length]'(by rw [hk,hlr];omega)=(r.flatMap enc)[u]'(by rw [hlr];exact hu):=by
    congr 1;rw [hk];omega
   rw [e5,e4,get_flatK _ _ _ _ (by simpa using hu)]
   have hd:u / k<r.length:=Nat.div_lt_of_lt_mul (by rw [Nat.mul_comm];exact hu)
   simp [hd]
section
variable {P:Program} {ρ:Ren} {t:Ty} {ks:List Kd}
theorem Sb (hk:bF t=some ks):SWO (fun a b:t.den=>eS t a b):=⟨fun x=>IG hk,fun x y z=>iJ hk,fun x y z h1 h2=>by
 cases h:eS t x z with
 |false=>rfl
 |true =>
  cases hyx:eS t y x with
  |true =>
   have:=iJ hk hyx h
   rw [h2] at this;cases this
  |false =>
   have:=iI hk h1 hyx
   subst this
   rw [h2] at h;cases h⟩
theorem Sc (L : SlLaysF0.n6 P ρ) (cE : Enters P (ρ.f 6)) {g : Nat} (hk : bF t = some ks) (h0 : 0 < t.sz) (aE : ∀ w, (isAgg (ρ.t 24)).run P w = .ok true w) (zE : ∀ w, (Go.sizeOf (ρ.t 24)).run P w = .ok t.sz w)
  (cf:t.den→t.den→Int) (hcmp:∀a b,gO P g [.agg (cz t a),.agg (cz t b)] (.int .i64 (cf a b))) (hcf:∀a b,decide (cf a b<0)=eS t a b) {xs:List t.den} {n:Nat} {y:List t.den×Unit} (h:uR t xs n=some y) :
  gQ P (ρ.f 6) [.sl 0 t 0 n,.fn g [] []] ⟨1,[(0,.arr t xs false)]⟩ fun r H=>r = .any∧H=⟨1,[(0,.arr t y.1 false)]⟩:=by
 unfold uR at h
 split at h<;>try (cases h;done)
 rename_i hc
 cases h
 obtain ⟨hn,hb⟩:=hc
 have lF:n<4611686018427387904:=Nat.lt_trans hb (by decide)
 letI iT:Inhabited t.den:=⟨t.zero⟩
 let enc:t.den→List Value:=BQ t
 have hD:∀(ι:au) x,ag ι t x (enc x):=fun ι x=>xE x hk
 have hU:∀(ι:au) x vs,ag ι t x vs→vs=enc x:=fun ι x vs hv=>((iX (ι':=ι) hk (hD ι x)).1 x vs hv rfl)
 have hlen:∀x,(enc x).length=t.sz:=fun x=>(hD (fun _ _=>none) x).length
 have hone:∀x,∀v∈enc x,v.oneCell'=true:=fun x=>(hD (fun _ _=>none) x).one
 have hlt:ltOf cf=fun a b=>eS t a b:=by funext a b;exact hcf a b
 have hSW:SWO (ltOf cf):=by rw [hlt];exact Sb hk
 let zs:=xs.take n
 have hzl:zs.length=n:=by simp only [zs,List.length_take];exact Nat.min_eq_left hn
 let ys:=zs.mergeSort fun x y => !(ltOf cf) y x
 have Xc:ys.length=n:=by simp only [ys];rw [(List.mergeSort_perm _ _).length_eq];exact hzl
 have hs:ot t zs=ys:=by
  refine rN hk (List.mergeSort_perm _ _) ?_
  have:=List.pairwise_mergeSort (le:=fun x y:t.den => !(ltOf cf) y x) (fun a b c=>by
   simp only [Bool.not_eq_true']
   exact fun h1 h2=>hSW.ntrans _ _ _ h2 h1) (fun a b=>by
   simp only [Bool.or_eq_true,Bool.not_eq_true']
   cases hh:ltOf cf b a with
   |false=>exact .inl rfl
   |true =>
    refine .inr ?_
    rw [hlt] at hh ⊢
    cases h2:eS t a b with
    |false=>exact h2
    |true=>exact (cT hk hh h2).elim) zs
  unfold CE
  refine this.imp fun {a b} h=>?_
  rw [hlt] at h
  simpa using h
 refine ⟨cE,fun Y ι μ w args hI hl=>callsIn_wide.2 ?_⟩
 obtain ⟨v0,a1,ea,r0,X4⟩:=hl.bC
 obtain ⟨v1,a2,ea1,r1,Cy⟩:=X4.bC
 have th:=Cy.of_nil
 subst th;subst ea1
 have hargs:args=#[v0,v1]:=by apply Array.ext';simpa using ea
 subst hargs
 cases r1 with
 |fn _ _ _ xs0 ys0 q1 q2 q3 q4 =>
 have e0:xs0=#[]:=by apply Array.eq_empty_of_size_eq_zero;simpa using q1.symm
 have e1:ys0=#[]:=by apply Array.eq_empty_of_size_eq_zero;simpa using q3.symm
 subst e0;subst e1
 have hb0:ay 0 (aG.bl ⟨1,[(0,kR.arr t xs false)]⟩)=some (.arr t xs false):=rfl
 rw [hs]
 cases r0 with
 |bN =>
  have hy0:ys=[]:=List.eq_nil_of_length_eq_zero Xc
  refine (AnyF.slices_SortFunc_none L _ _ _ w).mono ?_
  rintro e w' ⟨rfl,rfl⟩
  exact ⟨.tuple #[],ι,μ,.any,_,rfl,au.le_refl _,Mu.le_refl _,hI,.any _,rfl,by rw [hy0];simp⟩
 |sl _ _ _ _ cap Lc fM hcap htot hlen' =>
 rcases hI.live 0 _ hb0 with ⟨rfl,hno⟩|⟨L',vs,hM,hR,hl'⟩
 ·rw [hno] at fM;cases fM
 have hLL:Lc=L':=by have:=fM.symm.trans hM.mu;cases this;rfl
 subst hLL
 have hfree:=hM.pK rfl
 have hvl:vs.length=xs.length * t.sz:=hR.length (fun _ _=>ag.length)
 -- the cells, flat
 have eG:∀{l:List t.den} {us:List Value},bw (ag ι t) l us→us=l.flatMap enc:=by
  intro l
  induction l with
  |nil=>intro us h;exact h
  |cons a r ih =>
   intro us h
   obtain ⟨p,q,rfl,h1,h2⟩:=h
   rw [hU ι a p h1,ih h2];rfl
 have NT:∀l:List t.den,bw (ag ι t) l (l.flatMap enc):=fun l=>by
  induction l with
  |nil=>rfl
  |cons a r ih=>exact ⟨enc a,_,rfl,hD ι a,ih⟩
 have hvs:=eG hR
 have hfl:∀l:List t.den,(l.flatMap enc).length=l.length * t.sz:=fun l=>(NT l).length (fun _ _=>ag.length)
 have hvz:vs=zs.flatMap enc++(xs.drop n).flatMap enc:=by
  rw [hvs,←List.flatMap_append];simp only [zs];rw [List.take_append_drop]
 have hflz:=xF enc t.sz hlen h0 zs
 have hfly:=xF enc t.sz hlen h0 ys
 have hba:Lc.ba+0 * t.sz=Lc.ba:=by omega
 have hH:HoldsK enc t.sz w Lc.b Lc.ba zs.toArray:=fun j hj=>by
  have hj':j<(zs.flatMap enc).length:=by rw [←hflz];simpa using hj
  have e:(Go.Sort.flatK enc t.sz zs.toArray)[j]! = (zs.flatMap enc)[j]:=by
   rw [getElem!_pos _ j hj];simp only [←hflz];simp
  rw [e]
  refine ⟨hM.rangeAt j _ ?_,?_⟩
  ·rw [hvz,List.getElem?_append_left hj',List.getElem?_eq_getElem hj'];rfl
  ·have hf := hM.fits
   refine (hM.there (o:=Lc.ba) (k:=vs.length) (Nat.le_refl _) hf j ?_).2
   rw [hvz,List.length_append];omega
 obtain ⟨cc,ce,hrow,hcs,hcj⟩:=hM.row
 have hblk:Lc.b<w.heap.size:=(Array.getElem?_eq_some_iff.1 hrow).1
 have eg:∀args w,(callFunc g args).run P w = .ok (.enter g args) w:=(hcmp t.zero t.zero).1
 have FX:CmpLays P g #[] enc t.sz cf Lc.b Lc.ba zs.toArray.size w:=fun m os dk hdk a b=>by
  have hW:dw ι (sortWorldK enc t.sz w Lc.b Lc.ba m dk os):=fun b' o x hx=>by
   have hne:b'≠Lc.b:=fun e=>by subst e;rw [hfree] at hx;cases hx
   have hcell:=hI.rd b' o x hx
   have hlt:=World.block_lt_of_cell? _ _ hcell
   unfold sortWorldK putRowK
   rw [cell?_grow _ _ _ (by simpa [Go.Sort.ahead] using hlt),cell?_putRow_other _ _ _ _ _ _ (.inl hne)]
   exact hcell
  have hag:∀x:t.den,Rel ι (fun _=>none) (.agg (cz t x)) (.agg (enc x).toArray):=fun x=>by
   have hr:aI ι (fun _=>none) (cz t x) (enc x):=eW (hD ι x)
   exact .agg _ _ (by simpa using hr.1) (fun i v x hv hx=>hr.2 i v x hv (by simpa using hx)) (by simpa using hone x)
  have hrel:aI ι (fun _=>none) [.agg (cz t a),.agg (cz t b)] (#[Value.agg (enc a).toArray,.agg (enc b).toArray]++#[]:Array Value).toList:=by
   simpa using aI.cons (hag a) (aI.cons (hag b) .nil)
  have:=callsIn_wide.1 ((hcmp a b).2 ι _ _ hI.dz hW hrel)
  refine this.mono ?_
  rintro e w' ⟨v,ι',rfl,_,_,_,VI,hr⟩
  cases hr
  refine ⟨rfl,?_⟩
  refine ⟨w'.drawn - (sortWorldK enc t.sz w Lc.b Lc.ba m dk os).drawn,w'.heap.extract (sortWorldK enc t.sz w Lc.b Lc.ba m dk os).heap.size w'.heap.size,?_⟩
  generalize sortWorldK enc t.sz w Lc.b Lc.ba m dk os=w0 at VI ⊢
  obtain ⟨heap,tape,drawn,os,output⟩:=w0
  obtain ⟨heap',tape',drawn',os',output'⟩:=w'
  obtain ⟨⟨h1,h2,h3,h4,h5⟩,h6⟩:=VI
  simp only at h1 h2 h3 h4 h5 h6
  subst h1;subst h2;subst h3
  unfold grow World.drewN
  simp only
  congr 1
  ·apply Array.ext_getElem?
   intro k
   by_cases hk:k<heap.size
   ·rw [Array.getElem?_append_left hk,h5 k hk]
   ·rw [Array.getElem?_append_right (by omega), Array.getElem?_extract]
    by_cases hk2:k<heap'.size
    ·rw [if_pos (by omega)];congr 1;omega
    ·rw [Array.getElem?_eq_none (by omega)]
     split
     ·rw [Array.getElem?_eq_none (by omega)]
     ·rfl
  ·omega
 have hzs:zs.toArray.size=n:=by simpa using hzl
 have gR:=AnyQ.slices_SortFunc_total L t.sz aE zE enc hlen hone cf hSW g #[] Lc.b Lc.ba cap zs.toArray w eg FX hH hblk (by rw [hzs];exact lF) (fun x y h1 h2=>by rw [hlt] at h1 h2;exact iI hk h1 h2)
 rw [hzs] at gR
 rw [hba]
 refine gR.mono ?_
 rintro e w' ⟨rfl,m,os,rfl⟩
 let w1:=putRow id w Lc.b Lc.ba (Go.Sort.flatK enc t.sz ys.toArray)
 have hfs:(Go.Sort.flatK enc t.sz ys.toArray).size=n * t.sz:=by simp [Xc]
 have DZ:(ys.flatMap enc++vs.drop (n * t.sz)).length=vs.length:=by
  rw [List.length_append,hfl,Xc,List.length_drop,hvl]
  have:n * t.sz≤xs.length * t.sz:=Nat.mul_le_mul_right _ hn
  omega
 have Yg:vs.drop (n * t.sz)=(xs.drop n).flatMap enc:=by
  rw [hvz,List.drop_left' (by rw [hfl,hzl])]
 have hok:dL P Y.own ι μ 0 w1 (.arr t (ys++xs.drop n) false):=by
  refine .inr ⟨Lc,ys.flatMap enc++vs.drop (n * t.sz),⟨hM.mu,hM.old,⟨putCells id Lc.ba (Go.Sort.flatK enc t.sz ys.toArray) cc,ce,?_,?_,fun j v qd=>?_⟩,by rw [DZ];exact hM.fits,fun v qd=>?_,(fun e=>by cases e),fun _=>hfree⟩,?_,?_⟩
  ·show (mapBlock w Lc.b (putCells id Lc.ba (Go.Sort.flatK enc t.sz ys.toArray))).heap[Lc.b]? = _
   unfold mapBlock
   simp only [Array.getElem?_modify,if_true,hrow,Option.map_some,onCells]
  ·simp [putCells,hcs]
  ·have hj : j < vs.length := by rw [← DZ]; exact (List.getElem?_eq_some_iff.1 qd).1
   have hc:=hcj j _ (List.getElem?_eq_getElem hj)
   simp only [putCells,Array.getElem?_mapIdx,hc,Option.map_some]
   by_cases hjn:j<n * t.sz
   ·have hjy : j < (ys.flatMap enc).length := by rw [hfl, Xc]; exact hjn
    rw [if_pos (by rw [hfs];omega)]
    rw [List.getElem?_append_left hjy,List.getElem?_eq_getElem hjy] at qd
    cases qd
    rw [show Lc.ba+j - Lc.ba=j by omega,getElem!_pos _ j (by rw [hfs];exact hjn)]
    simp only [id,←hfly];simp
   ·rw [if_neg (by rw [hfs]; omega)]
    have VJ:(ys.flatMap enc).length=n * t.sz:=by rw [hfl,Xc]
    rw [List.getElem?_append_right (by rw [VJ];omega),VJ,List.getElem?_drop,show n * t.sz+(j - n * t.sz)=j by omega,List.getElem?_eq_getElem hj] at qd
    exact qd
  ·rcases List.mem_append.1 qd with h' | h'
   ·obtain ⟨a, _, hv⟩ := List.mem_flatMap.1 h'
    exact hone a v hv
   ·exact hM.one v (List.mem_of_mem_drop h')
  ·rw [Yg]
   exact (NT ys).append (NT _)
  ·simp [Xc]
   omega
 have Fg:Inv P Y ι μ ⟨1,[(0,.arr t (ys++xs.drop n) false)]⟩ w1 :=
  hI.turn hb0 hM.mu hfree (w':=w1) rfl rfl rfl rfl (Go.Sort.size_putRow _ _ _ _ _) (fun k hk=>by
   show (mapBlock w Lc.b _).heap[k]?=_
   unfold mapBlock
   simp [Array.getElem?_modify,Ne.symm hk]) (.no (fun ms c e=>by obtain ⟨_,_,h1,_⟩:=hM.row;rw [h1] at e;cases e)) hok
 have VI:Dw w1 (grow (Go.Sort.ahead w1 m) os):=by
  refine ⟨⟨rfl,rfl,rfl,by simp [grow,Go.Sort.ahead],fun k hk=>?_⟩,by simp [grow,Go.Sort.ahead]⟩
  simp only [grow,Go.Sort.ahead]
  exact Array.getElem?_append_left hk
 have hrd:dw ι (grow (Go.Sort.ahead w1 m) os):=dw.kept Fg.rd VI
 exact ⟨.tuple #[],ι,μ,.any,_,rfl,au.le_refl _,Mu.le_refl _,Fg.called (au.le_refl _) (fun _ _ _=>rfl) hrd VI,.any _,rfl,rfl⟩
end
end Go.AM
end
section
namespace Go.AM
section
variable {P:Program} {N:Nat} {Y:Ctx} {ι ι':au} {μ μ':Mu} {H H':aG} {w w':World} {out:Option Nat} {base:Nat}
def Ctx.kq (Y:Ctx) (w:World) (ι:au) (μ:Mu) (R:Nat→Prop):Ctx:=⟨w,ι,μ,Y.ro,fun b=>Y.own b∧¬R b,Y.hid⟩
def tD (μ:Mu) (H:aG) (R:Nat→Prop):Prop:=∀id B L,ay id H.bl=some B→μ id=some L→¬R L.b
theorem Inv.NU (h:Inv P Y ι μ H w) {R:Nat→Prop} (hR:tD μ H R):Inv P (Y.kq w ι μ R) ι μ H w :=
 ⟨HV.refl _ _,au.le_refl _,fun _ _ _ _=>rfl,h.rd,Mu.le_refl _,h.nx,fun id B hB=>(h.live id B hB).owns fun L hL ho=>.inr ⟨ho,hR id B L hB hL⟩,h.inj,h.lt,h.dz⟩
theorem Inv.NV (h:Inv P Y ι μ H w) {R:Nat→Prop} (h2:Inv P (Y.kq w ι μ R) ι' μ' H' w'):Inv P Y ι' μ' H' w':=by
 have hs:=h.below.size
 have hx2:∀k,k<Y.w0.heap.size→¬Y.x k→¬(Y.kq w ι μ R).x k:=fun k hk hx hX=>by
  rcases hX.1 with h|h
  ·omega
  ·exact hx h
 have b2:=h2.below
 refine ⟨⟨b2.os.trans h.below.os,b2.tape.trans h.below.tape,b2.output.trans h.below.output,Nat.le_trans hs b2.size,fun k hk hx=>?_,Nat.le_trans h.below.dr b2.dr,fun k hk=>(h.below.maps k hk).trans (b2.maps k (Nat.lt_of_lt_of_le hk hs))⟩,
  au.le_trans h.i0 h2.i0,fun b o hb hx=>?_,h2.rd,Mu.le_trans h.m0 h2.m0,h2.nx,fun id B hB=>(h2.live id B hB).owns fun L _ ho=>?_,h2.inj,h2.lt,h.gl⟩
 ·exact (b2.block k (Nat.lt_of_lt_of_le hk hs) (hx2 k hk hx)).trans (h.below.block k hk hx)
 ·exact (h2.iB b o (Nat.lt_of_lt_of_le hb hs) (hx2 b hb hx)).trans (h.iB b o hb hx)
 ·rcases ho with ho | ho
  ·exact .inl (Nat.le_trans hs ho)
  ·exact ho.1
theorem Ext.aci {Ya Yb : Ctx} {R : Nat → Prop} (hinv : ∀ {ι : au} {μ : Mu} {H : aG} {w : World}, Inv P Ya ι μ H w → Inv P Yb ι μ H w) (hown : ∀ b, Ya.own b → Yb.own b) (hro : Yb.ro = Ya.ro) (hm0 : Yb.m0.le Ya.m0) (Bc : Yb.hid = Ya.hid)
  (hr:∀r,R r→r<Ya.w0.heap.size∧¬Ya.own r) (hrb:∀r,R r→Yb.own r) {Y1:Ctx} (h:Ext P Ya Y1) :
  ∃Y2,Ext P Yb Y2∧(∀{ι:au} {μ:Mu} {H:aG} {w:World},Inv P Y1 ι μ H w→Inv P Y2 ι μ H w)∧(∀b,Y1.own b→Y2.own b)∧Y2.ro=Y1.ro∧Y2.m0.le Y1.m0∧Y2.hid=Y1.hid∧(∀r,R r→r<Y1.w0.heap.size∧¬Y1.own r)∧∀r,R r→Y2.own r:=by
 induction h with
 |refl=>exact ⟨Yb,.refl Yb,hinv,hown,hro,hm0,Bc,hr,hrb⟩
 |step h ro hI hr' own ih =>
  rename_i Y1 ι1 μ1 H1 w1 r'
  obtain ⟨Y2,e1,e2,e3,e4,e5,e6,e7,e8⟩:=ih
  have hne:∀r,R r→r≠r':=fun r hr e=>by subst e;exact (e7 r hr).2 own
  have hs:=hI.below.size
  refine ⟨Y2.uL w1 ι1 r',.step e1 (e4.trans ro) (e2 hI) hr' (e3 _ own),fun {ι μ H w} h=>?_,fun b hb=>?_,e4,e5,?_,fun r hr=>⟨?_,fun hX=>?_⟩,fun r hr=>.inr ⟨e8 r hr,hne r hr⟩⟩
  ·have hx : ∀ b, (Y1.uL w1 ι1 r').x b → (Y2.uL w1 ι1 r').x b := fun b hb => ⟨e3 _ hb.1, hb.2⟩
   exact ⟨⟨h.below.os,h.below.tape,h.below.output,h.below.size,fun k hk hx'=>h.below.block k hk (fun hh=>hx' (hx _ hh)),h.below.dr,h.below.maps⟩,h.i0,fun b o hb hx'=>h.iB b o hb (fun hh=>hx' (hx _ hh)),h.rd,Mu.le_trans e5 h.m0,h.nx,
    fun id B hB=>(h.live id B hB).owns fun L _ ho=>ho.imp (fun h=>h) (hx _),h.inj,h.lt,h.gl⟩
  ·exact hb.imp (fun h=>h) fun h=>⟨e3 _ h.1,h.2⟩
  ·show r' :: Y2.hid = r' :: Y1.hid
   rw [e6]
  ·exact Nat.lt_of_lt_of_le (e7 r hr).1 hs
  ·rcases hX with hX | hX
   ·have : w1.heap.size ≤ r := hX
    have:=(e7 r hr).1
    omega
   ·exact (e7 r hr).2 hX.1
def Yh (P:Program) (N:Nat) (Y:Ctx) (ι:au) (μ:Mu) (w:World) (R:Nat→Prop) (Q:Ex→St→Prop):Exit→Act→World→Prop:=fun e a' w' =>
 ∃Y1,Ext P Y Y1∧∃ι1 μ1 S1 e',eM P N Y1 ι1 μ1 S1 a' w'∧ExR e' e∧Q e' S1∧ι.le ι1∧μ.le μ1∧tD μ1 S1.H R∧(∀b,R b→Y1.own b∧w'.heap[b]?=w.heap[b]?∧∀o,ι1 b o=ι b o)∧w.heap.size≤w'.heap.size
theorem Gr {c:Code} {S:St} {Q:Ex→St→Prop} {b':Nat} (h:Ib P N out b' c S Q) (hb':S.H.next≤b') {a:Act} (ho:jZ Y out) (hR:eM P N Y ι μ S a w) {R:Nat→Prop} (hno:tD μ S.H R) (hown:∀b,R b→Y.own b∧b<w.heap.size) :
  c.wpIn Y.F 0 P (Yh P N Y ι μ w R Q) a w:=by
 have uq:=hR.inv.NU hno
 have Nb:jZ (Y.kq w ι μ R) out:=by
  cases out with
  |none=>exact ho
  |some o=>obtain ⟨Lo,h1,h2⟩:=ho;exact ⟨Lo,hR.inv.m0 _ _ h1,h2⟩
 have h1:=h (Y.kq w ι μ R) ι μ a w Nb (fun id hid=>hR.inv.nx id (Nat.le_trans hb' hid)) ⟨hR.env,hR.sz,uq,hR.ms⟩
 refine wpIn_mono h1 fun e a' w' hp=>?_
 obtain ⟨Y1,MR,ι1,μ1,S1,e',qF,hx,hq⟩:=hp
 have pN:Inv P (Y.kq w ι μ R) ι1 μ1 S1.H w':=MR.inv qF.inv
 have oa:∀r,R r→r<(Y.kq w ι μ R).w0.heap.size∧¬(Y.kq w ι μ R).own r:=fun r hr=>⟨(hown r hr).2,fun h=>by
  rcases h with h|h
  ·have h' : w.heap.size ≤ r := h
   have:=(hown r hr).2
   omega
  ·exact h.2 hr⟩
 obtain ⟨Y2,hY2,Nc,-,-,-,Bc,acj,Nd⟩:=MR.aci (Yb:=Y) (R:=R) (fun h=>hR.inv.NV h) (fun b hb=>by
  rcases hb with hb|hb
  ·exact .inl (Nat.le_trans hR.inv.below.size hb)
  ·exact hb.1) rfl hR.inv.m0 rfl oa (fun r hr=>(hown r hr).1)
 refine ⟨Y2,hY2,ι1,μ1,S1,e',⟨qF.env,qF.sz,Nc qF.inv,by rw [Bc];exact qF.ms⟩,hx,hq,pN.i0,pN.m0,fun id B L hB hL Ih=>?_,fun b hb=>⟨Nd b hb,?_,fun o=>?_⟩,pN.below.size⟩
 ·exact (acj _ Ih).2 ((qF.inv.live id B hB).loc hL).1
 ·exact pN.below.block b (hown b hb).2 (fun hX=>hX.2 hb)
 ·exact pN.iB b o (hown b hb).2 (fun hX=>hX.2 hb)
end
end Go.AM
end
section
namespace Go.AM
section
variable {P:Program} {N:Nat} {ops:Array Oper} {F:Fence} {Q:Exit→Act→World→Prop}
theorem Sd (dZ : gP ops = true) (J : Array Bool → Act → World → Prop)
  (hstep:∀listed a w i,J listed a w→listed.size=ops.size→(∀i,listed.getD i false=true→∀j∈(bP ops).getD i [],listed.getD j false=true)→i<ops.size→listed.getD i true=false→(∀j∈(bP ops).getD i [],listed.getD j false=true)→wpOpIn F 0 P ops Q i (J (listed.setIfInBounds i true)) a w)
  (hend:∀listed a w,J listed a w→listed.size=ops.size→(∀i,i<ops.size→listed.getD i false=true)→Q .normal a w):∀(n:Nat) (S:List Nat) (listed:Array Bool) (a:Act) (w:World),S.length=n→listed.size=ops.size →
   (∀i,i<ops.size→listed.getD i true=false→i∈S)→(∀i,listed.getD i false=true→∀j∈(bP ops).getD i [],listed.getD j false=true)→J listed a w→wpAnyIn F 0 P .any ops Q n listed a w:=by
 have th:∀listed:Array Bool,listed.size=ops.size→Region.ready .any ops listed=[]→∀i,i<ops.size→listed.getD i false=true:=by
  intro listed hsz hr i
  induction i using Nat.strongRecOn with
  |ind i ih =>
   intro hi
   rcases Bool.eq_false_or_eq_true (listed.getD i true) with h|h
   ·rw [mR (by omega) false true];exact h
   ·exfalso
    have:i∈Region.ready .any ops listed:=by
     refine mem_ready.2 ⟨h,ops[i],by simp [hi],fun e he hb=>?_⟩
     have hlt:e.on<i:=by
      unfold gP at dZ
      have hmem:(ops[i],i)∈ops.toList.zipIdx:=by rw [List.mem_zipIdx_iff_getElem?];simp [hi]
      have:=List.all_eq_true.1 dZ _ hmem
      simp only at this
      have:=Array.all_eq_true_iff_forall_mem.1 this e he
      simpa [hb] using this
     exact ih _ hlt (by omega)
    rw [hr] at this;cases this
 have hrp:∀listed:Array Bool,(∀i,listed.getD i false=true→∀j∈(bP ops).getD i [],listed.getD j false=true)→∀i,i∈Region.ready .any ops listed→∀j∈(bP ops).getD i [],listed.getD j false=true:=by
  intro listed tg i hi j hj
  obtain ⟨_,o,ho,hall⟩:=mem_ready.1 hi
  obtain ⟨hjs,ht⟩:=jO.1 hj
  obtain ⟨o',ho',e,he,hb,h⟩:=nZ ht
  rw [ho] at ho';cases ho'
  have hl:=hall e he hb
  rcases h with rfl|h
  ·exact hl
  ·exact tg _ hl j (jO.2 ⟨hjs,h⟩)
 intro n
 induction n with
 |zero =>
  intro S listed a w hS hsz NW tg hJ
  have hS0:S=[]:=List.length_eq_zero_iff.1 hS
  subst hS0
  have hall:∀i,i<ops.size→listed.getD i false=true:=fun i hi=>by
   rcases Bool.eq_false_or_eq_true (listed.getD i true) with h|h
   ·rw [mR (by omega) false true];exact h
   ·exact absurd (NW i hi h) (by simp)
  refine ⟨?_,hend _ _ _ hJ hsz hall⟩
  cases hr:Region.ready .any ops listed with
  |nil=>rfl
  |cons i r =>
   have hi:i∈Region.ready .any ops listed:=by rw [hr];exact List.mem_cons_self ..
   obtain ⟨h0,o,ho,_⟩:=mem_ready.1 hi
   exact absurd (NW i (Array.getElem?_eq_some_iff.1 ho).1 h0) (by simp)
 |succ n ih =>
  intro S listed a w hS hsz NW tg hJ
  refine ⟨fun h0=>hend _ _ _ hJ hsz (th _ hsz h0),fun i hi=>?_⟩
  obtain ⟨h0,o,ho,_⟩:=mem_ready.1 hi
  have mN:=(Array.getElem?_eq_some_iff.1 ho).1
  have hp:=hrp listed tg i hi
  refine wpOpIn_mono (fun a' w' hJ'=>ih (S.erase i) _ a' w' ?_ (by simpa using hsz) (fun j hj hjl=>?_) (fun x hx j hj=>?_) hJ') (hstep _ _ _ _ hJ hsz tg mN h0 hp)
  ·rw [List.length_erase_of_mem (NW i mN h0)];omega
  ·have hne : i ≠ j := fun e => by subst e; simp [hsz, mN] at hjl
   rw [getD_set_ne true hne] at hjl
   exact (List.mem_erase_of_ne (Ne.symm hne)).2 (NW j hj hjl)
  ·refine getD_set_true ?_
   by_cases e:i=x
   ·subst e;exact hp j hj
   ·rw [getD_set_ne false e] at hx
    exact tg x hx j hj
def mX (l : Nat → Bool) (r : Env) : List (Nat × Nat × V) → Env
 |[]=>r
 |(k,t,v)::dz=>match l k with
  |true=>(t,v)::mX l r dz
  |false=>mX l r dz
theorem xG {l : Nat → Bool} {r : Env} {s : Nat} : ∀ {dz : List (Nat × Nat × V)}, s ∉ dz.map (·.2.1) → get s (mX l r dz) = get s r
 |[],_=>rfl
 |(k,t,v)::dz,h=>by
  simp only [List.map_cons,List.mem_cons,not_or] at h
  simp only [mX]
  split
  ·rw [bW,if_neg (fun e=>h.1 e.symm)];exact xG h.2
  ·exact xG h.2
theorem vw {l : Nat → Bool} {r : Env} {k s : Nat} {v : V} (hl : l k = true) : ∀ {dz : List (Nat × Nat × V)}, (dz.map (·.2.1)).Nodup → (k, s, v) ∈ dz → get s (mX l r dz) = v
 |(k',t,v')::dz,hn,h=>by
  simp only [List.map_cons,List.nodup_cons] at hn
  simp only [mX]
  rcases List.mem_cons.1 h with e|h
  ·cases e;rw [hl];simp [bW]
  ·have hne : t ≠ s := fun e => hn.1 (by rw [e]; exact List.mem_map.2 ⟨_, h, rfl⟩)
   split
   ·rw [bW,if_neg hne];exact vw hl hn.2 h
   ·exact vw hl hn.2 h
theorem D1 {l l':Nat→Bool} {r:Env} {k s:Nat} {v:V} (hl:∀j,j≠k→l' j=l j) (hk:l' k=true) {dz:List (Nat×Nat×V)} (hn:(dz.map (·.2.1)).Nodup) (hnk:(dz.map (·.1)).Nodup) (h:(k,s,v)∈dz) (t:Nat) :
  get t ((s,v)::mX l r dz)=get t (mX l' r dz):=by
 rw [bW]
 split
 ·rename_i e;subst e;exact (vw hk hn h).symm
 ·rename_i hne
  induction dz with
  |nil=>rfl
  |cons q dz ih =>
   obtain ⟨k2,t2,v2⟩:=q
   simp only [List.map_cons,List.nodup_cons] at hn hnk
   simp only [mX]
   rcases List.mem_cons.1 h with e|h
   ·cases e
    rw [hk]
    have hsame:mX l r dz=mX l' r dz:=by
     have:∀dz:List (Nat×Nat×V),k∉dz.map (·.1)→mX l r dz=mX l' r dz:=by
      intro dz
      induction dz with
      |nil=>intro _;rfl
      |cons q dz ih =>
       intro hq
       obtain ⟨k3,t3,v3⟩:=q
       simp only [List.map_cons,List.mem_cons,not_or] at hq
       simp only [mX,hl k3 (fun e=>hq.1 e.symm),ih hq.2]
     exact this dz hnk.1
    rw [hsame]
    simp only [bW,if_neg hne]
    split<;>simp only [bW,if_neg hne]
   ·have hk2 : k2 ≠ k := fun e => hnk.1 (by rw [e]; exact List.mem_map.2 ⟨_, h, rfl⟩)
    rw [hl k2 hk2]
    have:=ih hn.2 hnk.2 h
    split<;>simp only [bW,this]
theorem ez.same {ι:au} {μ:Mu} {env env':Env} {t:Array Value} (h:ez ι μ env t) (he:∀s,get s env'=get s env):ez ι μ env' t:=fun s=>by rw [he];exact h s
end
section
variable {P:Program} {N:Nat} {Y:Ctx} {ι ι':au} {μ μ':Mu} {H H':aG} {w w':World}
theorem Inv.show (h : Inv P Y ι μ H w) {aC : Nat} (hn : μ aC = none) {b : kR} {L : Loc} (hno : ∀ id B L', ay id H.bl = some B → μ id = some L' → L'.b ≠ L.b)
  (hb:dL P Y.own ι (μ.set aC L) aC w b):Inv P Y ι (μ.set aC L) ⟨max H.next (aC+1),(aC,b)::bu aC H.bl⟩ w:=by
 have hle:=Mu.fF (L:=L) hn
 refine ⟨h.below,h.i0,h.iB,h.rd,Mu.le_trans h.m0 hle,fun id hid=>?_,fun id B hB=>?_,?_,?_,h.gl⟩
 ·simp only at hid
  unfold Mu.set;rw [if_neg (by omega)];exact h.nx id (by omega)
 ·rw [aD] at hB
  split at hB
  ·rename_i e;subst e;cases hB;exact hb
  ·rename_i e
   exact (h.live id B hB).mono (au.le_refl _) hle (fun hm=>by unfold Mu.set;rw [if_neg e];exact hm) (fun _ _=>rfl) (fun _ _ h=>h)
 ·intro id id' B B' L1 L2 h1 h2 gj hm2 e
  rw [aD] at h1 h2
  unfold Mu.set at gj hm2
  by_cases e1:id=aC<;>by_cases e2:id'=aC
  ·rw [e1,e2]
  ·rw [if_pos e1] at gj; rw [if_neg e2] at hm2 h2
   cases gj
   exact absurd e.symm (hno _ _ _ h2 hm2)
  ·rw [if_pos e2] at hm2; rw [if_neg e1] at gj h1
   cases hm2
   exact absurd e (hno _ _ _ h1 gj)
  ·rw [if_neg e1] at gj h1; rw [if_neg e2] at hm2 h2
   exact h.inj id id' B B' L1 L2 h1 h2 gj hm2 e
 ·intro id B hB
  rw [aD] at hB
  split at hB
  ·rename_i e;subst e;simp only;omega
  ·have:=h.lt id B hB;simp only;omega
end
end Go.AM
end
section
namespace Go.AM
def gH : Value → Option Nat
 | .slice (some ⟨b,_,_⟩) _ _=>some b
 |_=>none
def ja (w:World) (v:Value) (xs:List ByteArray):Prop:=∃b o cap c e,v = .slice (some ⟨b,o,none⟩) xs.length cap∧xs≠[]∧xs.length≤cap∧w.heap[b]?=some (.cells c e (0,0))∧o+cap≤c.size ∧
 ∀(j:Nat) s,xs[j]?=some s→c[o+j]?=some (.string s)
def dh (w : World) : List (ByteArray × List ByteArray) → List MapEntry → Prop
 |[],ms=>ms=[]
 |e::es,ms=>∃m r,ms=m::r∧m.key = .string e.1∧ja w m.val e.2∧dh w es r
def RS (L:Loc) (ms:List MapEntry) (b:Nat):Prop:=b=L.b∨∃m∈ms,gH m.val=some b
structure Gh (gi:Nat) (Y:Ctx) (ι:au) (μ:Mu) (H:aG) (w:World) (es:List (ByteArray×List ByteArray)) (L:Loc) (ms:Array MapEntry) (clock:Nat) (dB:List (ByteArray×List ByteArray)):Prop where
 mu:μ gi=some L
 hb:w.heap[L.b]?=some (.map ms clock)
 k5:dh w dB ms.toList
 NX:∀m∈ms.toList,m.born<clock
 QM:(ms.toList.map (·.born)).Nodup
 perm:dB.Perm es
 kd:KD .str dB
 own:∀b,RS L ms.toList b→Y.own b∧∀o,ι b o=none
 apart:∀(i j:Nat) m m',ms.toList[i]?=some m→ms.toList[j]?=some m'→gH m.val=gH m'.val→i=j
 kr:tD μ H (RS L ms.toList)
def GG (gi:Nat) (Y:Ctx) (ι:au) (μ:Mu) (H:aG) (w:World) (es:List (ByteArray×List ByteArray)):Prop:=∃L ms clock dB,Gh gi Y ι μ H w es L ms clock dB
theorem ja.blk {w:World} {v:Value} {xs:List ByteArray} (h:ja w v xs):∃b,gH v=some b∧b<w.heap.size:=by
 obtain ⟨b,o,cap,c,e,rfl,_,_,h1,_⟩:=h
 exact ⟨b,rfl,(Array.getElem?_eq_some_iff.1 h1).1⟩
theorem ja.same {w w':World} {v:Value} {xs:List ByteArray} (h:ja w v xs) (hs:∀b,gH v=some b→w'.heap[b]?=w.heap[b]?):ja w' v xs:=by
 obtain ⟨b,o,cap,c,e,rfl,h0,h1,h2,h3⟩:=h
 exact ⟨b,o,cap,c,e,rfl,h0,h1,by rw [hs b rfl];exact h2,h3⟩
theorem dh.blk {w : World} : ∀ {es : List (ByteArray × List ByteArray)} {ms : List MapEntry}, dh w es ms → ∀ m ∈ ms, ∃ b, gH m.val = some b ∧ b < w.heap.size
 |[],ms,h,m,hm=>by simp [dh] at h;subst h;cases hm
 |e::es,ms,⟨m0,r,h0,_,h1,h2⟩,m,hm=>by
  subst h0
  rcases List.mem_cons.1 hm with rfl|hm
  ·exact h1.blk
  ·exact h2.blk m hm
theorem dh.same {w w' : World} : ∀ {es : List (ByteArray × List ByteArray)} {ms : List MapEntry}, dh w es ms → (∀ m ∈ ms, ∀ b, gH m.val = some b → w'.heap[b]? = w.heap[b]?) → dh w' es ms
 |[],ms,h,_=>h
 |e::es,ms,⟨m0,r,h0,h1,h2,h3⟩,hs=>by
  subst h0
  exact ⟨m0,r,rfl,h1,h2.same (hs m0 (List.mem_cons_self ..)),h3.same fun m hm=>hs m (List.mem_cons_of_mem _ hm)⟩
section
variable {P:Program} {N:Nat} {Y:Ctx} {ι ι':au} {μ μ':Mu} {H H':aG} {w w':World} {out:Option Nat} {base gi:Nat} {es:List (ByteArray×List ByteArray)} {L:Loc} {ms:Array MapEntry} {clock:Nat} {dB:List (ByteArray×List ByteArray)}
theorem Gh.low (h:Gh gi Y ι μ H w es L ms clock dB):∀b,RS L ms.toList b→Y.own b∧b<w.heap.size:=fun b hb=>⟨(h.own b hb).1,by
 rcases hb with rfl|⟨m,hm,hb⟩
 ·exact (Array.getElem?_eq_some_iff.1 h.hb).1
 ·obtain ⟨b', h1, h2⟩ := h.k5.blk m hm
  rw [hb] at h1;cases h1;exact h2⟩
theorem Gh.keep (h:Gh gi Y ι μ H w es L ms clock dB) {Y1:Ctx} (hm:μ' gi=μ gi) (hb:∀b,RS L ms.toList b→Y1.own b∧w'.heap[b]?=w.heap[b]?∧∀o,ι' b o=ι b o) (hn:tD μ' H' (RS L ms.toList)):Gh gi Y1 ι' μ' H' w' es L ms clock dB where
 mu:=hm.trans h.mu
 hb:=by rw [(hb _ (.inl rfl)).2.1];exact h.hb
 k5:=h.k5.same fun m hm b hb'=>(hb b (.inr ⟨m,hm,hb'⟩)).2.1
 NX:=h.NX
 QM:=h.QM
 perm:=h.perm
 kd:=h.kd
 own:=fun b hb'=>⟨(hb b hb').1,fun o=>by rw [(hb b hb').2.2];exact (h.own b hb').2 o⟩
 apart:=h.apart
 kr:=hn
def lg (P:Program) (N gi:Nat) (Y:Ctx) (Q:Ex→St→List (ByteArray×List ByteArray)→Prop):Exit→Act→World→Prop:=fun e a w =>
 ∃Y1,Ext P Y Y1∧∃ι μ S e' es,eM P N Y1 ι μ S a w∧ExR e' e∧Q e' S es∧GG gi Y1 ι μ S.H w es
def gawp (P:Program) (N:Nat) (out:Option Nat) (gi:Nat) (code:Code) (S:St) (es:List (ByteArray×List ByteArray)) (Q:Ex→St→List (ByteArray×List ByteArray)→Prop):Prop :=
 ∀Y ι μ a w,jZ Y out→eM P N Y ι μ S a w→GG gi Y ι μ S.H w es→code.wpIn Y.F 0 P (lg P N gi Y Q) a w
def gC (P:Program) (N:Nat) (out:Option Nat) (gi:Nat) (c:C) (S:St) (es:List (ByteArray×List ByteArray)) (Q:Ex→St→List (ByteArray×List ByteArray)→Prop):Prop:=∀code,fB P N code=some c→gawp P N out gi code S es Q
theorem lg.ext {Y Y1:Ctx} (hY:Ext P Y Y1) {Q:Ex→St→List (ByteArray×List ByteArray)→Prop} {e:Exit} {a:Act} (h:lg P N gi Y1 Q e a w):lg P N gi Y Q e a w :=
 let ⟨Y2,h2,h⟩:=h;⟨Y2,hY.trans h2,h⟩
theorem BR {c:Code} {S:St} {Q:Ex→St→List (ByteArray×List ByteArray)→Prop} (h:gawp P N out gi c S es Q) {Y Y1:Ctx} (hY:Ext P Y Y1) (ho:jZ Y out) {a:Act} (hR:eM P N Y1 ι μ S a w) (hG:GG gi Y1 ι μ S.H w es):c.wpIn Y.F 0 P (lg P N gi Y Q) a w:=by
 have:=h Y1 ι μ a w (hY.Xl ho) hR hG
 rw [hY.F] at this
 exact wpIn_mono this fun e a w hp=>hp.ext hY
theorem NY {c:C} {S:St} {Q Q':Ex→St→List (ByteArray×List ByteArray)→Prop} (h:gC P N out gi c S es Q) (hq:∀e S es,Q e S es→Q' e S es):gC P N out gi c S es Q':=fun code hc Y ι μ a w ho hR hG =>
 wpIn_mono (h code hc Y ι μ a w ho hR hG) fun e a w ⟨Y1,h1,ι,μ,S,e',es,h2,h3,h4,h5⟩=>⟨Y1,h1,ι,μ,S,e',es,h2,h3,hq _ _ _ h4,h5⟩
theorem Yi (mixed:P.follows .mixedOrders=true) {c:C} {S:St} {Q:Ex→St→Prop} (h:qP (gn P N out S.H.next) c S Q):gC P N out gi c S es fun e S' es'=>es'=es∧Q e S':=by
 intro code hc Y ι μ a w ho hR ⟨L,ms,clock,dB,hG⟩
 have hw:=gE (iD mixed) code hc h
 refine wpIn_mono (Gr hw (Nat.le_refl _) ho hR hG.kr hG.low) fun e a' w' hp=>?_
 obtain ⟨Y1,hY,ι1,μ1,S1,e',qF,hx,hq,hi,hm,hno,hB,_⟩:=hp
 exact ⟨Y1,hY,ι1,μ1,S1,e',es,qF,hx,⟨rfl,hq⟩,L,ms,clock,dB,hG.keep ((hm _ _ hG.mu).trans hG.mu.symm) hB hno⟩
theorem lg.noGoto {Q:Ex→St→List (ByteArray×List ByteArray)→Prop} {l:Nat} {a:Act}:¬lg P N gi Y Q (.goto l) a w:=fun ⟨_,_,_,_,_,e',_,_,h,_⟩=>by cases e'<;>cases h
theorem IJ {ca cb : C} (hca : ∀ ps is, ca ≠ .draw ps is) {S : St} {Q Q1 : Ex → St → List (ByteArray × List ByteArray) → Prop} (ha : gC P N out gi ca S es Q1) (hb : ∀ S' es', Q1 .normal S' es' → gC P N out gi cb S' es' Q)
  (hx:∀i S' es',Q1 (.exit i) S' es'→Q (.exit i) S' es') (hr:∀S' es',Q1 .ret S' es'→Q .ret S' es'):gC P N out gi (.seq ca cb) S es Q:=by
 intro code
 induction code with
 |skip=>intro h;cases h
 |label l=>intro h;cases h
 |ret=>intro h;cases h
 |exit id=>intro h;cases h
 |goto l=>intro h;cases h
 |refuse why=>intro h;cases h
 |scope b ih=>intro h Y ι μ a w ho hR hG;exact j4 (ih h Y ι μ a w ho hR hG) fun l a w=>lg.noGoto
 |region id ops draw =>
  intro h
  simp only [fB] at h
  split at h<;>try (cases h;done)
  cases draw with
  |true =>
   simp only at h
   split at h<;>try (cases h;done)
   split at h
   ·cases h;exact absurd rfl (hca _ _)
   ·cases h
  |false=>cases h
 |seq x y _ _ =>
  intro h Y ι μ a w ho hR hG
  simp only [fB] at h
  split at h<;>try (cases h;done)
  rename_i cx cy hx' hy
  split at h
  ·cases h
   refine wpIn_seq (wpIn_mono (ha x hx' Y ι μ a w ho hR hG) fun e a' w' hp=>?_)
   obtain ⟨Y1,hY,ι',μ',S',e',es',h1,h2,h3,h4⟩:=hp
   cases e' with
   |normal=>cases h2;exact BR (hb _ _ h3 y hy) hY ho h1 h4
   |exit id=>cases h2;exact ⟨Y1,hY,ι',μ',S',.exit id,es',h1,rfl,hx _ _ _ h3,h4⟩
   |ret=>cases h2;exact ⟨Y1,hY,ι',μ',S',.ret,es',h1,rfl,hr _ _ h3,h4⟩
  ·split at h<;>cases h
 |cond c0 x y _ _ =>
  intro h
  simp only [fB] at h
  split at h<;>cases h
 |block id b _ =>
  intro h
  simp only [fB] at h
  cases hx:fB P N b<;>simp [hx] at h
 |loop b _ =>
  intro h
  simp only [fB] at h
  cases hx:fB P N b<;>simp [hx] at h
 |rangeFunc f ps x y _ _ =>
  intro h
  simp only [fB] at h
  split at h<;>cases h
theorem qq {n:Nat} {cx cy:C} {S:St} {Q:Ex→St→List (ByteArray×List ByteArray)→Prop} {t:Bool} (ht:get n S.env = .bool t) (h:gC P N out gi (if t then cx else cy) ⟨(n,.tf t)::S.env,S.H,S.ms⟩ es Q):gC P N out gi (.cond (.t n) cx cy) S es Q:=by
 intro code
 induction code with
 |skip=>intro h;cases h
 |label l=>intro h;cases h
 |ret=>intro h;cases h
 |exit id=>intro h;cases h
 |goto l=>intro h;cases h
 |refuse why=>intro h;cases h
 |scope b ih=>intro h Y ι μ a w ho hR hG;exact j4 (ih h Y ι μ a w ho hR hG) fun l a w=>lg.noGoto
 |region id ops draw =>
  intro h
  simp only [fB] at h
  split at h<;>try (cases h;done)
  cases draw with
  |true =>
   simp only at h
   split at h<;>try (cases h;done)
   split at h<;>cases h
  |false=>cases h
 |seq x y _ _ =>
  intro h
  simp only [fB] at h
  split at h<;>try (cases h;done)
  split at h<;>try (cases h;done)
  split at h<;>cases h
 |cond c0 x y _ _ =>
  intro h' Y ι μ a w ho hR hG
  simp only [fB] at h'
  split at h'<;>try (cases h';done)
  rename_i co c1 c2 hc hx hy
  cases h'
  have rc:=aB hR.env hc
  generalize hg:a.eval c0=cv at rc
  have hce:(O.t n).ev S.env = .bool t:=ht
  rw [hce] at rc;cases rc
  have hrw:eM P N Y ι μ ⟨(n,.tf t)::S.env,S.H,S.ms⟩ a w:=by
   refine ⟨fun i=>?_,hR.sz,hR.inv,hR.ms⟩
   simp only [bW]
   by_cases hi:n=i
   ·subst hi; rw [if_pos rfl]
    have:=hR.env n
    rw [ht] at this
    generalize a.tmps.getD n undef=x at this
    cases this;exact .tf _
   ·rw [if_neg hi];exact hR.env i
  cases t with
  |true=>exact wpIn_cond hg (h x hx Y ι μ a w ho hrw hG)
  |false=>exact wpIn_cond hg (h y hy Y ι μ a w ho hrw hG)
 |block id b _ =>
  intro h
  simp only [fB] at h
  cases hx:fB P N b<;>simp [hx] at h
 |loop b _ =>
  intro h
  simp only [fB] at h
  cases hx:fB P N b<;>simp [hx] at h
 |rangeFunc f ps x y _ _ =>
  intro h
  simp only [fB] at h
  split at h<;>cases h
theorem vz {n : Nat} {c : C} {S : St} {Q Q1 : Ex → St → List (ByteArray × List ByteArray) → Prop} (h : gC P N out gi c S es Q1) (hn : ∀ S' es', Q1 .normal S' es' → Q .normal S' es') (hx : ∀ i S' es', Q1 (.exit i) S' es' → if i = n then Q .normal S' es' else Q (.exit i) S' es')
  (hr:∀S' es',Q1 .ret S' es'→Q .ret S' es'):gC P N out gi (.block n c) S es Q:=by
 intro code
 induction code with
 |skip=>intro h;cases h
 |label l=>intro h;cases h
 |ret=>intro h;cases h
 |exit id=>intro h;cases h
 |goto l=>intro h;cases h
 |refuse why=>intro h;cases h
 |scope b ih=>intro h Y ι μ a w ho hR hG;exact j4 (ih h Y ι μ a w ho hR hG) fun l a w=>lg.noGoto
 |region id ops draw =>
  intro h
  simp only [fB] at h
  split at h<;>try (cases h;done)
  cases draw with
  |true =>
   simp only at h
   split at h<;>try (cases h;done)
   split at h<;>cases h
  |false=>cases h
 |seq x y _ _ =>
  intro h
  simp only [fB] at h
  split at h<;>try (cases h;done)
  split at h<;>try (cases h;done)
  split at h<;>cases h
 |cond c0 x y _ _ =>
  intro h
  simp only [fB] at h
  split at h<;>cases h
 |block id b _ =>
  intro h' Y ι μ a w ho hR hG
  simp only [fB] at h'
  cases hx':fB P N b<;>simp [hx'] at h'
  obtain ⟨rfl,rfl⟩:=h'
  refine wpIn_block (wpIn_mono (h b hx' Y ι μ a w ho hR hG) fun e a' w' hp=>?_)
  obtain ⟨Y1,hY,ι',μ',S',e',es',h1,h2,h3,h4⟩:=hp
  cases e' with
  |normal=>cases h2;exact ⟨Y1,hY,ι',μ',S',.normal,es',h1,rfl,hn _ _ h3,h4⟩
  |exit i =>
   cases h2
   have:=hx _ _ _ h3
   simp only [Exit.inBlock]
   split at this
   ·rename_i e;rw [if_pos e];exact ⟨Y1,hY,ι',μ',S',.normal,es',h1,rfl,this,h4⟩
   ·rename_i e;rw [if_neg e];exact ⟨Y1,hY,ι',μ',S',.exit i,es',h1,rfl,this,h4⟩
  |ret=>cases h2;exact ⟨Y1,hY,ι',μ',S',.ret,es',h1,rfl,hr _ _ h3,h4⟩
 |loop b _ =>
  intro h
  simp only [fB] at h
  cases hx:fB P N b<;>simp [hx] at h
 |rangeFunc f ps x y _ _ =>
  intro h
  simp only [fB] at h
  split at h<;>cases h
end
end Go.AM
end
section
namespace Go.AM
section
variable {P:Program} {N:Nat} {Y:Ctx} {ι ι':au} {μ μ':Mu} {H H':aG} {w w':World} {out:Option Nat} {base gi:Nat} {es:List (ByteArray×List ByteArray)} {L:Loc} {ms:Array MapEntry} {clock:Nat} {dB:List (ByteArray×List ByteArray)}
theorem dh.get : ∀ {es : List (ByteArray × List ByteArray)} {ms : List MapEntry}, dh w es ms → ∀ (j : Nat) e, es[j]? = some e → ∃ m, ms[j]? = some m ∧ m.key = .string e.1 ∧ ja w m.val e.2
 |[],_,_,j,e,h=>by simp at h
 |e0::es,_,⟨m,r,rfl,h1,h2,h3⟩,j,e,h=>by
  cases j with
  |zero=>simp at h;subst h;exact ⟨m,rfl,h1,h2⟩
  |succ j=>simpa using dh.get h3 j e (by simpa using h)
theorem dh.len : ∀ {es : List (ByteArray × List ByteArray)} {ms : List MapEntry}, dh w es ms → ms.length = es.length
 |[],_,h=>by simp [dh] at h;subst h;rfl
 |e0::es,_,⟨m,r,rfl,h1,h2,h3⟩=>by simp [dh.len h3]
theorem dh.snoc {e : ByteArray × List ByteArray} {m : MapEntry} (hk : m.key = .string e.1) (hv : ja w m.val e.2) : ∀ {es : List (ByteArray × List ByteArray)} {ms : List MapEntry}, dh w es ms → dh w (es ++ [e]) (ms ++ [m])
 |[],_,h=>by simp [dh] at h;subst h;exact ⟨m,[],rfl,hk,hv,rfl⟩
 |e0::es,_,⟨m0,r,rfl,h1,h2,h3⟩=>⟨m0,r++[m],rfl,h1,h2,dh.snoc hk hv h3⟩
theorem dh.set {e : ByteArray × List ByteArray} {m : MapEntry} (hk : m.key = .string e.1) (hv : ja w m.val e.2) : ∀ {es : List (ByteArray × List ByteArray)} {ms : List MapEntry} {j : Nat}, dh w es ms → dh w (es.set j e) (ms.set j m)
 |[],_,j,h=>by simp [dh] at h;subst h;simp [dh]
 |e0::es,_,0,⟨m0,r,rfl,h1,h2,h3⟩=>⟨m,r,rfl,hk,hv,h3⟩
 |e0::es,_,j+1,⟨m0,r,rfl,h1,h2,h3⟩=>⟨m0,r.set j m,rfl,h1,h2,dh.set hk hv h3⟩
def au.now (w:World):au:=fun b o=>w.cell? ⟨b,o,none⟩
theorem rO {ι : au} : ∀ {xs : List ByteArray} {vs : List Value}, vs = xs.map Value.string → bw (ag ι .str) xs vs
 |[],_,h=>by subst h;exact rfl
 |x::xs,_,h=>by subst h;exact ⟨[.string x],xs.map Value.string,rfl,rfl,rO rfl⟩
theorem uy {ι : au} : ∀ {xs : List ByteArray} {vs : List Value}, bw (ag ι .str) xs vs → vs = xs.map Value.string
 |[],_,h=>h
 |x::xs,_,⟨us,ws,h1,h2,h3⟩=>by
  have h2:us=[.string x]:=h2
  rw [h1,h2,uy h3];rfl
theorem ja.val {v:Value} {xs:List ByteArray} (h:ja w v xs):fO (au.now w) false (.list .str) xs v:=by
 obtain ⟨b,o,cap,c,e,rfl,h0,h1,h2,h3,h4⟩:=h
 refine ⟨[_],⟨_,cap,rfl,h1,.inr ⟨b,o,xs.map Value.string,rfl,fun j u hu=>?_,rO rfl⟩⟩,rfl⟩
 rw [List.getElem?_map] at hu
 cases hx:xs[j]? with
 |none=>rw [hx] at hu;cases hu
 |some s =>
  rw [hx] at hu;cases hu
  have:=h4 j s hx
  simp [au.now,World.cell?,h2,this]
theorem dh.k5 : ∀ {es : List (ByteArray × List ByteArray)} {ms : List MapEntry}, dh w es ms → eV (au.now w) .str false (.list .str) false es ms
 |[],_,h=>h
 |e0::es,_,⟨m,r,h0,h1,h2,h3⟩=>⟨m,r,h0,by rw [h1];exact ⟨[.string e0.1],rfl,rfl⟩,h2.val,dh.k5 h3⟩
theorem KC {e:TypeId} (h:zq P e=some (.list .str,false)):∀w:World,(zeroValue e).run P w = .ok (.slice none 0 0) w:=by
 unfold zq at h
 split at h<;>try (cases h;done)
 rename_i ty g i _ _ hi
 split at h<;>try (cases h;done)
 rename_i z hz
 have hrun:∀w:World,(zeroValue e).run P w = .ok z w:=fun w=>by simp [zeroValue,typeInfo,hi,hz]
 split at h<;>try (cases h;done)
 rename_i h0
 split at h<;>try (cases h;done)
 rename_i hg
 cases h
 suffices z = .slice none 0 0 by rw [←this];exact hrun
 have hl:∃v,z.cells.toList=[v]∧tX (.list .str) v=true:=by
  cases hc:z.cells.toList with
  |nil=>rw [hc] at h0;simp [dV] at h0
  |cons v r =>
   rw [hc] at h0
   simp only [dV] at h0
   split at h0
   ·rename_i h1;cases h0;exact ⟨v,rfl,h1⟩
   ·cases h0
 obtain ⟨v,h1,h2⟩:=hl
 have hv:v = .slice none 0 0:=by
  unfold tX at h2
  split at h2<;>simp_all
 subst hv
 cases z<;>simp [FA,Value.cells] at hg h1 ⊢
 all_goals simp_all
theorem Yj (he:dh w dB ms.toList) (hkd:KD .str dB) (k:ByteArray) :
  (aO .str dB k=false∧∀t,jT P t=some (.str,false,.list .str,false)→(∀w b,w.heap[b]?=some (.map ms clock)→(Instr.lookup t (.map (some b)) (.string k) false).run P w = .ok (.slice none 0 0) w) ∧
   (∀w b z,w.heap[b]?=some (.map ms clock)→(Instr.mapUpdate t (.map (some b)) (.string k) z).run P w = .ok () (w.putObj b (.map (ms.push { key:=.string k,val:=z,born:=clock }) (clock+1))))) ∨
  (aO .str dB k=true∧∃(j:Nat) (m:MapEntry) (e:ByteArray×List ByteArray),ms.toList[j]?=some m∧dB[j]?=some e∧dJ .str k e.1=true∧m.key = .string k∧ja w m.val e.2∧az .str [] dB k=e.2 ∧
   ∀t,jT P t=some (.str,false,.list .str,false)→(∀w b,w.heap[b]?=some (.map ms clock)→(Instr.lookup t (.map (some b)) (.string k) false).run P w = .ok m.val w) ∧
   (∀w b z,w.heap[b]?=some (.map ms clock)→(Instr.mapUpdate t (.map (some b)) (.string k) z).run P w = .ok () (w.putObj b (.map (ms.modify j fun e=>{ e with key:=.string k,val:=z }) clock)))):=by
 rcases Bool.eq_false_or_eq_true (aO .str dB k) with r1|r1
 ·have r1' := r1
  unfold aO at r1
  obtain ⟨e0,hm,r7⟩:=List.any_eq_true.1 r1
  obtain ⟨j,r6⟩:=List.mem_iff_getElem?.1 hm
  obtain ⟨m,r3,q2,q3⟩:=he.get j e0 r6
  have mH:az .str [] dB k=e0.2:=mJ hkd (List.mem_of_getElem? r6) r7
  have r4:m.key = .string k:=by rw [q2];exact congrArg Value.string (bL (t:=.str) r7).symm
  have VK:∀(j':Nat) (m':MapEntry),ms.toList[j']?=some m'→(∃e,dB[j']?=some e∧dJ .str k e.1=true)→j'=j∧m'=m:=by
   rintro j' m' h1 ⟨e1,h2,h3⟩
   have:j'=j:=by
    rcases Nat.lt_trichotomy j' j with hlt|heq|hlt
    ·exfalso
     have:=List.pairwise_iff_getElem.1 hkd j' j (List.getElem?_eq_some_iff.1 h2).1 (List.getElem?_eq_some_iff.1 r6).1 hlt
     rw [(List.getElem?_eq_some_iff.1 h2).2,(List.getElem?_eq_some_iff.1 r6).2,←bL h3,r7] at this
     cases this
    ·exact heq
    ·exfalso
     have:=List.pairwise_iff_getElem.1 hkd j j' (List.getElem?_eq_some_iff.1 r6).1 (List.getElem?_eq_some_iff.1 h2).1 hlt
     rw [(List.getElem?_eq_some_iff.1 h2).2,(List.getElem?_eq_some_iff.1 r6).2,←bL r7,h3] at this
     cases this
   subst this
   rw [r3] at h1;cases h1;exact ⟨rfl,rfl⟩
  refine .inr ⟨r1',j,m,e0,r3,r6,r7,r4,q3,mH,fun t ht=>?_⟩
  obtain ⟨kk,e,hu,hk,hv⟩:=jY ht
  have lG:∀w',sV P kk .str false (au.now w) w' k (.string k):=fun w'=>oP hk ⟨[.string k],rfl,rfl⟩
  refine ⟨fun w' b hb=>?_,fun w' b z hb=>?_⟩
  ·rcases zF (lG w') (vt := .list .str) (vg := false) ([] : List ByteArray) he.k5 with ⟨u1, _⟩ | ⟨_, j', m', u2, u3, _, _, u6⟩
   ·rw [r1'] at u1;cases u1
   ·obtain ⟨rfl, rfl⟩ := VK _ _ u3 u6
    simp [Instr.lookup,run_underlying hu,MapKept.run_getObj_map hb,(lG w').check,u2]
  ·rcases zF (lG w') (vt := .list .str) (vg := false) ([] : List ByteArray) he.k5 with ⟨u1, _⟩ | ⟨_, j', m', u2, u3, _, _, u6⟩
   ·rw [r1'] at u1;cases u1
   ·obtain ⟨rfl, rfl⟩ := VK _ _ u3 u6
    have hj:ms[j']?=some m':=by simpa using u3
    have:=(lG w').stays
    simp [Instr.mapUpdate,run_underlying hu,MapKept.run_getObj_map hb,(lG w').check,u2,hj,r4,this,MapKept.run_setObj_map _ hb,World.putObj]
 ·refine .inl ⟨r1, fun t ht => ?_⟩
  obtain ⟨kk,e,hu,hk,hv⟩:=jY ht
  have H8:=KC hv
  have lG:∀w',sV P kk .str false (au.now w) w' k (.string k):=fun w'=>oP hk ⟨[.string k],rfl,rfl⟩
  refine ⟨fun w' b hb=>?_,fun w' b z hb=>?_⟩
  ·rcases zF (lG w') (vt := .list .str) (vg := false) ([] : List ByteArray) he.k5 with ⟨_, q2⟩ | ⟨q1, _⟩
   ·simp [Instr.lookup,run_underlying hu,MapKept.run_getObj_map hb,(lG w').check,q2,H8]
   ·rw [r1] at q1;cases q1
  ·rcases zF (lG w') (vt := .list .str) (vg := false) ([] : List ByteArray) he.k5 with ⟨_, q2⟩ | ⟨q1, _⟩
   ·simp [Instr.mapUpdate,run_underlying hu,MapKept.run_getObj_map hb,(lG w').check,q2,MapKept.run_setObj_map _ hb,World.putObj]
   ·rw [r1] at q1;cases q1
theorem Inv.Yk (h:Inv P Y ι μ H w) {b:Nat} (hown:Y.own b) (hn:∀id B L',ay id H.bl=some B→μ id=some L'→L'.b≠b) {o o':Obj} (ho:w.heap[b]?=some o) (hnc:∀c e f,o ≠ .cells c e f) (W5:js (some o) (some o')) :
  Inv P Y ι μ H (w.putObj b o'):=by
 have bU:∀k,k≠b→(w.putObj b o').heap[k]?=w.heap[k]?:=fun k hk=>World.putObj_heap_other hk
 refine ⟨⟨h.below.os, h.below.tape, h.below.output, by rw [World.putObj_size]; exact h.below.size, fun k hk hx => ?_, h.below.dr, fun k hk => (h.below.maps k hk).trans (by
   by_cases e:k=b
   ·subst e;rw [ho,World.putObj_heap_same (Array.getElem?_eq_some_iff.1 ho).1];exact W5
   ·exact .eq (bU k e))⟩,h.i0,h.iB,fun b1 o2 x hx=>?_,h.m0,h.nx,fun i B2 hB=>?_,h.inj,h.lt,h.gl⟩
 ·rw [bU k (Ctx.lE hown hk hx)];exact h.below.block k hk hx
 ·have := h.rd b1 o2 x hx
  have hne:b1≠b:=fun e=>by
   subst e
   cases o<;>simp [World.cell?,ho] at this
   exact hnc _ _ _ rfl
  unfold World.cell? at this ⊢
  simp only at this ⊢
  rw [bU b1 hne];exact this
 ·exact (h.live i B2 hB).mono (au.le_refl _) (Mu.le_refl _) (fun h=>h) (fun L' hL'=>bU _ (hn _ _ _ hB hL')) (fun _ _ h=>h)
theorem D2 {op:BinOp} {t:TypeId} {x y:Operand} {i:I} (h:zu P op t x y=some i):(∀kt kg vt vg ok xs,i ≠ .ex (.gh kt kg vt vg ok) xs)∧∀kt kg vt vg xs,i ≠ .ex (.iw kt kg vt vg) xs:=by
 unfold zu at h
 repeat' split at h
 all_goals try (cases h;done)
 all_goals try (cases h;exact ⟨by intros;simp,by intros;simp⟩)
 all_goals (obtain ⟨_,_,rfl⟩:=Option.map_eq_some_iff.1 h;exact ⟨by intros;simp,by intros;simp⟩)
theorem NZ {b:Builtin} {tys:List TypeId} {args:List Operand} {i:I} (h:trB P b tys args=some i):(∀kt kg vt vg ok xs,i ≠ .ex (.gh kt kg vt vg ok) xs)∧∀kt kg vt vg xs,i ≠ .ex (.iw kt kg vt vg) xs:=by
 unfold trB at h
 repeat' split at h
 all_goals try (cases h;done)
 all_goals try (cases h;exact ⟨by intros;simp,by intros;simp⟩)
 all_goals (obtain ⟨_,_,rfl⟩:=Option.map_eq_some_iff.1 h;exact ⟨by intros;simp,by intros;simp⟩)
theorem N4 {op:Op} {kt vt:Ty} {kg vg ok:Bool} {x y:O} (h:CO P op=some (.ex (.gh kt kg vt vg ok) [x,y])) :
  ∃t x' y',op = .lookup t x' y' ok∧jT P t=some (kt,kg,vt,vg)∧dA x'=some x∧dA y'=some y:=by
 cases op<;>simp only [CO] at h<;>try (cases h;done)
 case lookup t x' y' ok' =>
  split at h<;>try (cases h;done)
  rename_i h1 h2 h3
  cases h
  exact ⟨t,x',y',rfl,h1,h2,h3⟩
 case binOp=>exact absurd rfl ((D2 h).1 _ _ _ _ _ _)
 all_goals exfalso
 all_goals repeat' split at h
 all_goals try (cases h;done)
 all_goals try (exact absurd rfl ((NZ h).1 _ _ _ _ _ _))
 all_goals try (obtain ⟨_,_,h⟩:=Option.map_eq_some_iff.1 h;cases h;done)
 all_goals try contradiction
 all_goals
  unfold sI at h
  repeat' split at h
  all_goals cases h
theorem N5 {op:Op} {kt vt:Ty} {kg vg:Bool} {x y z:O} (h:CO P op=some (.ex (.iw kt kg vt vg) [x,y,z])) :
  ∃t x' y' z',op = .mapUpdate t x' y' z'∧jT P t=some (kt,kg,vt,vg)∧dA x'=some x∧dA y'=some y∧dA z'=some z:=by
 cases op<;>simp only [CO] at h<;>try (cases h;done)
 case mapUpdate t x' y' z' =>
  split at h<;>try (cases h;done)
  rename_i h1 h2 h3 h4
  cases h
  exact ⟨t,x',y',z',rfl,h1,h2,h3,h4⟩
 case binOp=>exact absurd rfl ((D2 h).2 _ _ _ _ _)
 all_goals exfalso
 all_goals repeat' split at h
 all_goals try (cases h;done)
 all_goals try (exact absurd rfl ((NZ h).2 _ _ _ _ _))
 all_goals try (obtain ⟨_,_,h⟩:=Option.map_eq_some_iff.1 h;cases h;done)
 all_goals try contradiction
 all_goals
  unfold sI at h
  repeat' split at h
  all_goals cases h
end
end Go.AM
end
section
namespace Go.AM
def D3:List eR:=[.op (some 81) none (.load false 1 (.t 3)),.op (some 82) none (.ex .iQ [.t 81]),.op (some 83) none (.mD 1 [true,false] (.t 82)),.op (some 84) none (.load false 1 (.t 83)),.op (some 85) none (.mD 2 [true,true,false] (.t 10)),
  .op (some 86) none (.load false 1 (.t 85)),.op (some 87) none (.load false 1 (.t 3)),.op (some 88) none (.ex .iQ [.t 87]),.op (some 89) none (.mD 1 [true,false] (.t 88)),.op (some 90) none (.load false 1 (.t 89)),.op (some 91) none (.mD 2 [true,true,false] (.t 10)),
  .op (some 92) none (.load false 1 (.t 91)),.op (some 93) none (.ex (.gh .str false (.list .str) false false) [.t 90,.t 92]),.op (some 94) none (.mv (.t 9)),.op (some 95) none (.dS .str [.t 94]),.op (some 96) none (.append 1 (.t 93) (.t 95)),
  .op none none (.ex (.iw .str false (.list .str) false) [.t 84,.t 86,.t 96])]
def mY:List (List Nat):=[[],[0],[0,1],[0,1,2],[],[4],[],[6],[6,7],[6,7,8],[],[10],[6,7,8,9,10,11],[],[13],[6,7,8,9,10,11,12,13,14],[0,1,2,3,4,5,6,7,8,9,10,11,12,13,14,15]]
def bK (c4 c9 gi b n:Nat) (k x:ByteArray) (X:V):List (Nat×Nat×V) :=
  [(0,81,.ptr c4 0),(1,82,.ptr c4 0),(2,83,.ptr c4 1),(3,84,.mp gi),(4,85,.ptr c9 2),(5,86,.str k),(6,87,.ptr c4 0),(7,88,.ptr c4 0),(8,89,.ptr c4 1),(9,90,.mp gi),(10,91,.ptr c9 2),(11,92,.str k),(12,93,X),(13,94,.str x),
   (14,95,.sl (b+14) .str 0 1),(15,96,.sl (b+15) .str 0 (n+1))]
section
variable {P:Program} {N:Nat} {Y:Ctx} {ι ι':au} {μ μ':Mu} {w w':World} {ops:Array Oper}
theorem D4 {o:Oper} {d:Option Nat} {i:I} (h:pJ P N ops o=some (.op d none i)):o.dst=d∧qL N o.dst=true∧o.guard=none∧CO P o.op=some i:=by
  unfold pJ at h
  split at h<;>try (cases h;done)
  rename_i hd
  split at h<;>try (cases h;done)
  rename_i g hg
  have hgn:g=none→o.guard=none:=fun e=>by
    subst e
    cases hq:o.guard with
    |none=>rfl
    |some jb =>
      obtain ⟨j,c⟩:=jb
      rw [hq] at hg
      simp only [trG] at hg
      split at hg<;>try (cases hg;done)
      split at hg<;>cases hg
  split at h
  · split at h<;>cases h
  · split at h<;>cases h
  · split at h <;> try (cases h; done)
    rename_i i hi
    cases h
    exact ⟨rfl,hd,hgn rfl,hi⟩
theorem VL {jF : Env} {b c2 c4 c9 gi n : Nat} {k x : ByteArray} {X : V} {y : Value} {bl : aq} {Yl : eF} {ms : List Nat} {a : Act} {L : Loc} {f2 f4 f9 : Bool} {m0 m2 m3 q0 q1 q3 q4 : V} {Q : Exit → Act → World → Prop}
    (mN:dW P N ops ops.toList=some D3) (hpr:bP ops=mY) (dZ:gP ops=true)
    (hR:eM P N Y ι μ ⟨jF,⟨b,bl⟩,ms⟩ a w) (fM:μ gi=some L) (hw0:L.b<Y.w0.heap.size) (hx:¬Y.x L.b)
    (g3:get 3 jF = .ptr c2 0) (g9:get 9 jF = .str x) (g10:get 10 jF = .ptr c9 0)
    (b2:ay c2 bl=some (.cells [.ptr c4 0] f2)) (b4:ay c4 bl=some (.cells [m0,.mp gi,m2,m3] f4)) (b9:ay c9 bl=some (.cells [q0,q1,.str k,q3,q4] f9))
    (acn:∀t w',jT P t=some (.str,false,.list .str,false)→w'.heap[L.b]?=Y.w0.heap[L.b]?→(Instr.lookup t (.map (some L.b)) (.string k) false).run P w' = .ok y w') (hy:∀ι' μ',μ.le μ'→Rel ι' μ' X y)
    (h15:∀env,get 93 env=X→get 95 env = .sl (b+14) .str 0 1→bY (gn P N none 0) (.append 1 (.t 93) (.t 95)) env ((b+14,.arr .str [x] false)::bu (b+14) bl) (b+15)=some ([decide (n+1<bI)],.sl (b+15) .str 0 (n+1),Yl)) (lF:n+1<bI)
    (hu15:∀id cs f,ay id bl=some (.cells cs f)→ay id (bx Yl ((b+14,.arr .str [x] false)::bu (b+14) bl))=some (.cells cs f))
    (h16:∀ι2 μ2 a2 w2 rP,eM P N Y ι2 μ2 ⟨rP,⟨b+17,bx Yl ((b+14,.arr .str [x] false)::bu (b+14) bl)⟩,ms⟩ a2 w2→μ.le μ2→(∀k' s v,(k',s,v)∈bK c4 c9 gi b n k x X→get s rP=v)→(∀s,s∉(bK c4 c9 gi b n k x X).map (·.2.1)→get s rP=get s jF) →
      wpOpIn Y.F 0 P ops Q 16 (Q .normal) a2 w2):wpAnyIn Y.F 0 P .any ops Q ops.size (Array.replicate ops.size false) a w:=by
  have hlen:=(gq mN).1
  have hsz:ops.size=17:=by simpa [D3] using hlen.symm
  have mH:=(gq mN).2
  let dz:=bK c4 c9 gi b n k x X
  have htn:(dz.map (·.2.1)).Nodup:=by simp only [dz,bK,List.map_cons,List.map_nil];decide
  have Rl:(dz.map (·.1)).Nodup:=by simp only [dz,bK,List.map_cons,List.map_nil];decide
  let B14:aq:=(b+14,.arr .str [x] false)::bu (b+14) bl
  let Bl:Bool→Bool→aq:=fun f g=>match g with
    |true=>bx Yl B14
    |false=>match f with
      |true=>B14
      |false=>bl
  have hBc:∀f g id cs fz,ay id bl=some (.cells cs fz)→ay id (Bl f g)=some (.cells cs fz):=by
    intro f g id cs fz h
    cases g with
    |true=>exact hu15 _ _ _ h
    |false =>
      cases f with
      |true =>
        have hlt:=hR.inv.lt id _ h
        show ay id (_::bu _ bl)=_
        simp only at hlt
        rw [aD,if_neg (by omega)];exact h
      |false=>exact h
  let J:Array Bool→Act→World→Prop:=fun listed a w=>(listed.getD 16 false=true∧Q .normal a w)∨(listed.getD 16 false=false∧∃ι' μ',eM P N Y ι' μ' ⟨mX (fun k=>listed.getD k false) jF dz,⟨b+17,Bl (listed.getD 14 false) (listed.getD 15 false)⟩,ms⟩ a w∧μ.le μ' ∧
    ∀k,k<17→listed.getD k false=false→μ' (b+k)=none)
  have lH:∀i,(Array.replicate ops.size false).getD i false=false:=fun i=>by
    simp only [Array.getD_eq_getD_getElem?,Array.getElem?_replicate]
    split<;>rfl
  refine Sd dZ J ?_ (fun listed a w hJ hs hall=>?_) ops.size (List.range ops.size) _ _ _ (by simp) (by simp) (fun i hi _=>List.mem_range.2 hi) (fun i hi=>by rw [lH i] at hi;cases hi) (.inr ⟨lH 16,ι,μ,?_,fun _ _ h=>h,fun k _ _=>hR.inv.nx _ (by simp)⟩)
  rotate_left
  · rcases hJ with hJ | hJ
    · exact hJ.2
    · rw [hall 16 (by omega)] at hJ;cases hJ.1
  · have hE:∀Ym:List (Nat×Nat×V),mX (fun k=>(Array.replicate ops.size false).getD k false) jF Ym=jF:=by
      intro Ym
      induction Ym with
      |nil=>rfl
      |cons q r ih=>obtain ⟨k,s,v⟩:=q;show (match (Array.replicate ops.size false).getD k false with|true=>_|false=>_)=_;rw [lH];exact ih
    rw [hE,lH,lH]
    exact ⟨hR.env,hR.sz,hR.inv.ta (by simp),hR.ms⟩
  intro listed a w i hJ hls tg hi hl hp
  rcases hJ with hJ|hJ
  · exfalso
    have Yn:i=16∨i<16:=by omega
    rcases Yn with rfl|hi16
    · rw [mR (by omega) true false,hJ.1] at hl;cases hl
    · have := tg 16 hJ.1 i (by rw [hpr]; show i ∈ [0, 1, 2, 3, 4, 5, 6, 7, 8, 9, 10, 11, 12, 13, 14, 15]; simp only [List.mem_cons, List.not_mem_nil]; omega)
      rw [mR (by omega) true false,this] at hl;cases hl
  obtain ⟨h16n,ι',μ',VM,hle,hfr⟩:=hJ
  let E:=mX (fun k=>listed.getD k false) jF dz
  have IK:∀k s v,(k,s,v)∈dz→listed.getD k false=true→get s E=v:=fun k s v hm hk=>vw (l:=fun k=>listed.getD k false) hk htn hm
  have Se:∀s,s∉dz.map (·.2.1)→get s E=get s jF:=fun s hs=>xG hs
  have eA:∀j,(listed.setIfInBounds i true).getD j false=if i=j then true else listed.getD j false:=fun j=>by
    by_cases e:i=j
    · subst e;simp [hls,hi]
    · rw [getD_set_ne false e,if_neg e]
  have hl':listed.getD i false=false:=by rw [mR (by omega) false true];exact hl
  have Yo:∀(d:Nat) (i0:I) (v:V) (u:eF) (ob:List Bool),i<16→D3[i]?=some (.op (some d) none i0)→(i,d,v)∈dz→bY (gn P N none 0) i0 E (Bl (listed.getD 14 false) (listed.getD 15 false)) (b+i)=some (ob,v,u)→nP ob →
      bx u (Bl (listed.getD 14 false) (listed.getD 15 false))=Bl (if i=14 then true else listed.getD 14 false) (if i=15 then true else listed.getD 15 false)→wpOpIn Y.F 0 P ops Q i (J (listed.setIfInBounds i true)) a w:=by
    intro d i0 v u ob hi16 hit hm aj cV hB
    have ho:ops[i]?=some ops[i]:=by simp [hi]
    refine Ij (out:=none) (base:=0) (b:=b) (n:=17) (t:=⟨i,.op (some d) none i0,.op v u,mG i0 E⟩) (show i<17 by omega) ho (mH i _ _ (by simp) hit) (env:=E) (bl:=Bl (listed.getD 14 false) (listed.getD 15 false)) (ms:=ms) ⟨rfl,ob,v,.inl aj,cV,.inl rfl,rfl⟩ VM (hfr i (by omega) hl') fun ι2 μ2 a2 w2 ny hne=>.inr ⟨?_,ι2,μ2,?_,?_,?_⟩
    · rw [eA,if_neg (by omega)];exact h16n
    · have e1 := ny.env.same (env' := mX (fun k => (listed.setIfInBounds i true).getD k false) jF dz) fun s => (D1 (l := fun k => listed.getD k false) (fun j hj => by rw [eA, if_neg (Ne.symm hj)]) (by rw [eA, if_pos rfl]) htn Rl hm s).symm
      refine ⟨e1,ny.sz,?_,ny.ms⟩
      have:=ny.inv
      simp only [TR.J8,Ac.QG] at this
      rw [hB] at this
      rw [eA,eA]
      exact this
    · intro id L hL
      have hx:=hle id L hL
      by_cases e:id=b+i
      · subst e;rw [hfr i (by omega) hl'] at hx;cases hx
      · rw [hne _ e];exact hx
    · intro k hk QN
      rw [eA] at QN
      split at QN
      · cases QN
      · rename_i e
        rw [hne _ (show b+k≠b+i by omega)];exact hfr k hk QN
  have hP:∀j,j∈mY.getD i []→listed.getD j false=true:=fun j hj=>hp j (by rw [hpr];exact hj)
  have hsame:i≠14→i≠15→bx [] (Bl (listed.getD 14 false) (listed.getD 15 false))=Bl (if i=14 then true else listed.getD 14 false) (if i=15 then true else listed.getD 15 false):=fun h1 h2=>by rw [if_neg h1,if_neg h2];rfl
  have e3:get 3 E = .ptr c2 0:=(Se 3 (by simp only [dz,bK,List.map_cons,List.map_nil];decide)).trans g3
  have e9:get 9 E = .str x:=(Se 9 (by simp only [dz,bK,List.map_cons,List.map_nil];decide)).trans g9
  have e10:get 10 E = .ptr c9 0:=(Se 10 (by simp only [dz,bK,List.map_cons,List.map_nil];decide)).trans g10
  have d2:=hBc (listed.getD 14 false) (listed.getD 15 false) _ _ _ b2
  have d4:=hBc (listed.getD 14 false) (listed.getD 15 false) _ _ _ b4
  have d9:=hBc (listed.getD 14 false) (listed.getD 15 false) _ _ _ b9
  have noT:nP []:=fun b h=>by cases h
  have pure:∀(d:Nat) (i0:I) (v:V),i<16→D3[i]?=some (.op (some d) none i0)→(i,d,v)∈dz→i≠14→i≠15 →
      (∀BB aC,ay c2 BB=some (.cells [.ptr c4 0] f2)→ay c4 BB=some (.cells [m0,.mp gi,m2,m3] f4)→ay c9 BB=some (.cells [q0,q1,.str k,q3,q4] f9)→bY (gn P N none 0) i0 E BB aC=some ([],v,[]))→wpOpIn Y.F 0 P ops Q i (J (listed.setIfInBounds i true)) a w :=
    fun d i0 v h1 h2 h3 h4 h5 h6=>Yo d i0 v [] [] h1 h2 h3 (h6 _ _ d2 d4 d9) noT (hsame h4 h5)
  have Yn:i=0∨i=1∨i=2∨i=3∨i=4∨i=5∨i=6∨i=7∨i=8∨i=9∨i=10∨i=11∨i=12∨i=13∨i=14∨i=15∨i=16:=by omega
  have mt:∀q,q∈bK c4 c9 gi b n k x X→q∈dz:=fun _ h=>h
  rcases Yn with rfl|rfl|rfl|rfl|rfl|rfl|rfl|rfl|rfl|rfl|rfl|rfl|rfl|rfl|rfl|rfl|rfl
  · exact pure 81 _ (.ptr c4 0) (by omega) rfl (mt _ (by simp [bK])) (by omega) (by omega) fun BB aC d2 d4 d9=>by simp [bY,iU,O.ev,cut,cn,e3,d2]
  · have r0 := IK 0 81 (.ptr c4 0) (mt _ (by simp [bK])) (hP 0 (by simp [mY]))
    exact pure 82 _ (.ptr c4 0) (by omega) rfl (mt _ (by simp [bK])) (by omega) (by omega) fun BB aC d2 d4 d9=>by simp [bY,iU,O.ev,cut,cn,r0]
  · have r0 := IK 1 82 (.ptr c4 0) (mt _ (by simp [bK])) (hP 1 (by simp [mY]))
    exact pure 83 _ (.ptr c4 1) (by omega) rfl (mt _ (by simp [bK])) (by omega) (by omega) fun BB aC d2 d4 d9=>by simp [bY,iU,O.ev,cut,cn,r0]
  · have r0 := IK 2 83 (.ptr c4 1) (mt _ (by simp [bK])) (hP 2 (by simp [mY]))
    exact pure 84 _ (.mp gi) (by omega) rfl (mt _ (by simp [bK])) (by omega) (by omega) fun BB aC d2 d4 d9=>by simp [bY,iU,O.ev,cut,cn,d4,r0]
  · exact pure 85 _ (.ptr c9 2) (by omega) rfl (mt _ (by simp [bK])) (by omega) (by omega) fun BB aC d2 d4 d9=>by simp [bY,iU,O.ev,cut,cn,e10]
  · have r0 := IK 4 85 (.ptr c9 2) (mt _ (by simp [bK])) (hP 4 (by simp [mY]))
    exact pure 86 _ (.str k) (by omega) rfl (mt _ (by simp [bK])) (by omega) (by omega) fun BB aC d2 d4 d9=>by simp [bY,iU,O.ev,cut,cn,d9,r0]
  · exact pure 87 _ (.ptr c4 0) (by omega) rfl (mt _ (by simp [bK])) (by omega) (by omega) fun BB aC d2 d4 d9=>by simp [bY,iU,O.ev,cut,cn,e3,d2]
  · have r0 := IK 6 87 (.ptr c4 0) (mt _ (by simp [bK])) (hP 6 (by simp [mY]))
    exact pure 88 _ (.ptr c4 0) (by omega) rfl (mt _ (by simp [bK])) (by omega) (by omega) fun BB aC d2 d4 d9=>by simp [bY,iU,O.ev,cut,cn,r0]
  · have r0 := IK 7 88 (.ptr c4 0) (mt _ (by simp [bK])) (hP 7 (by simp [mY]))
    exact pure 89 _ (.ptr c4 1) (by omega) rfl (mt _ (by simp [bK])) (by omega) (by omega) fun BB aC d2 d4 d9=>by simp [bY,iU,O.ev,cut,cn,r0]
  · have r0 := IK 8 89 (.ptr c4 1) (mt _ (by simp [bK])) (hP 8 (by simp [mY]))
    exact pure 90 _ (.mp gi) (by omega) rfl (mt _ (by simp [bK])) (by omega) (by omega) fun BB aC d2 d4 d9=>by simp [bY,iU,O.ev,cut,cn,d4,r0]
  · exact pure 91 _ (.ptr c9 2) (by omega) rfl (mt _ (by simp [bK])) (by omega) (by omega) fun BB aC d2 d4 d9=>by simp [bY,iU,O.ev,cut,cn,e10]
  · have r0 := IK 10 91 (.ptr c9 2) (mt _ (by simp [bK])) (hP 10 (by simp [mY]))
    exact pure 92 _ (.str k) (by omega) rfl (mt _ (by simp [bK])) (by omega) (by omega) fun BB aC d2 d4 d9=>by simp [bY,iU,O.ev,cut,cn,d9,r0]
  · have r0 := IK 9 90 (.mp gi) (mt _ (by simp [bK])) (hP 9 (by simp [mY]))
    have r1:=IK 11 92 (.str k) (mt _ (by simp [bK])) (hP 11 (by simp [mY]))
    have ho:ops[12]?=some ops[12]:=by simp [hi]
    obtain ⟨M6,hd2,hg,CB⟩:=D4 (mH 12 _ _ (by simp) rfl:pJ P N ops ops[12]=some (.op (some 93) none (.ex (.gh .str false (.list .str) false false) [.t 90,.t 92])))
    obtain ⟨t,x',y',hop,QH,hx',hy'⟩:=N4 CB
    have v0:=aB VM.env hx'
    have v1:=aB VM.env hy'
    have e0:(O.t 90).ev E = .mp gi:=r0
    have e1:(O.t 92).ev E = .str k:=r1
    rw [e0] at v0;rw [e1] at v1
    generalize hv0:a.eval x'=z0 at v0
    generalize hv1:a.eval y'=z1 at v1
    cases v1
    cases v0 with
    |mp _ L' hL' =>
      rw [hle _ _ fM] at hL';cases hL'
      unfold wpOpIn
      simp only [ho]
      rw [if_pos (by simp [Region.wanted,hg])]
      refine ⟨fun _ _=>trivial,?_⟩
      rw [Oper.semAt_eq _ _ _ (lU CB)]
      have hrun:(execOp a.eval ops[12]).run P w = .ok (.value y) w:=by
        simp only [execOp,hop,hv0,hv1,Sem.run_bind,acn t w QH (VM.inv.below.block _ hw0 hx)];rfl
      rw [hrun]
      have ny:=VM.put hd2 (au.le_refl _) (Mu.le_refl _) VM.inv (hy ι' μ' hle)
      rw [M6] at ny
      refine .inr ⟨?_,ι',μ',?_,hle,fun k hk QN=>?_⟩
      · rw [eA,if_neg (by omega)];exact h16n
      · have e1 := ny.env.same (env' := mX (fun k => (listed.setIfInBounds 12 true).getD k false) jF dz) fun s => (D1 (l := fun k => listed.getD k false) (k := 12) (fun j hj => by rw [eA, if_neg (Ne.symm hj)]) (by rw [eA, if_pos rfl]) htn Rl (mt _ (by simp [bK])) s).symm
        rw [M6]
        refine ⟨e1,ny.sz,?_,ny.ms⟩
        rw [eA,eA,if_neg (by omega),if_neg (by omega)]
        exact ny.inv
      · rw [eA] at QN
        split at QN
        · cases QN
        · exact hfr k hk QN
  · exact pure 94 _ (.str x) (by omega) rfl (mt _ (by simp [bK])) (by omega) (by omega) fun BB aC d2 d4 d9=>by simp [bY,iU,O.ev,cut,cn,e9]
  · have r0 := IK 13 94 (.str x) (mt _ (by simp [bK])) (hP 13 (by simp [mY]))
    have hn15:listed.getD 15 false=false:=by
      rcases Bool.eq_false_or_eq_true (listed.getD 15 false) with h|h
      · have := tg 15 h 14 (by rw [hpr]; simp [mY])
        rw [hl'] at this;cases this
      · exact h
    refine Yo 95 _ (.sl (b+14) .str 0 1) [(b+14,some (.arr .str [x] false))] [] (by omega) rfl (mt _ (by simp [bK])) (by simp [bY,O.ev,r0,qG,V.cells?,bt]) noT ?_
    rw [hl',hn15,if_pos rfl,if_neg (by omega)];rfl
  · have r0 := IK 12 93 (X) (mt _ (by simp [bK])) (hP 12 (by simp [mY]))
    have r1:=IK 14 95 (.sl (b+14) .str 0 1) (mt _ (by simp [bK])) (hP 14 (by simp [mY]))
    have h14:=hP 14 (by simp [mY])
    refine Yo 96 _ (.sl (b+15) .str 0 (n+1)) Yl [decide (n+1<bI)] (by omega) rfl (mt _ (by simp [bK])) (by rw [h14,hl'];exact h15 _ r0 r1) (fun b hb=>by rw [List.mem_singleton.1 hb];exact decide_eq_true lF) ?_
    rw [hl',h14,if_neg (by omega),if_pos rfl]
  · have hall : ∀ j, j < 16 → listed.getD j false = true := fun j hj => hP j (by show j ∈ [0, 1, 2, 3, 4, 5, 6, 7, 8, 9, 10, 11, 12, 13, 14, 15]; simp only [List.mem_cons, List.not_mem_nil]; omega)
    rw [hall 14 (by omega),hall 15 (by omega)] at VM
    refine wpOpIn_mono (fun a' w' hq=>.inl ⟨by rw [eA,if_pos rfl],hq⟩) (h16 ι' μ' a w E VM hle (fun k' s v hm=>IK k' s v hm (hall k' ?_)) Se)
    have gj:k'∈(bK c4 c9 gi b n k x X).map (·.1):=List.mem_map.2 ⟨_,hm,rfl⟩
    simp [bK] at gj
    omega
end
end Go.AM
end
section
namespace Go.AM
theorem dh.VN {w w' : World} {e : ByteArray × List ByteArray} {m : MapEntry} (hk : m.key = .string e.1) (hv : ja w' m.val e.2) : ∀ {es : List (ByteArray × List ByteArray)} {ms : List MapEntry} {j : Nat}, dh w es ms → (∀ (i : Nat) m, i ≠ j → ms[i]? = some m → ∀ b, gH m.val = some b → w'.heap[b]? = w.heap[b]?) → dh w' (es.set j e) (ms.set j m)
 |[],_,j,h,_=>by simp [dh] at h;subst h;simp [dh]
 |e0::es,_,0,⟨m0,r,h0,h1,h2,h3⟩,hs=>by
  subst h0
  refine ⟨m,r,rfl,hk,hv,h3.same fun m hm b hb=>?_⟩
  obtain ⟨i,hi⟩:=List.mem_iff_getElem?.1 hm
  exact hs (i+1) m (by omega) (by simpa using hi) b hb
 |e0::es,_,j+1,⟨m0,r,h0,h1,h2,h3⟩,hs=>by
  subst h0
  exact ⟨m0,r.set j m,rfl,h1,h2.same (hs 0 m0 (by omega) rfl),dh.VN hk hv h3 fun i m hi hm=>hs (i+1) m (by omega) (by simpa using hm)⟩
structure Grown (P:Program) (t:TypeId) (L:Loc) (ms:Array MapEntry) (clock:Nat) (es:List (ByteArray×List ByteArray)) (R':Nat→Prop) (k:ByteArray) (ys:List ByteArray) (w:World) (z:Value) (bz:Nat) (ms':Array MapEntry) (clock':Nat) (Gs:List (ByteArray×List ByteArray)):Prop where
 run:(Instr.mapUpdate t (.map (some L.b)) (.string k) z).run P w = .ok () (w.putObj L.b (.map ms' clock'))
 grow:js (some (.map ms clock)) (some (.map ms' clock'))
 k5:dh w Gs ms'.toList
 NX:∀m∈ms'.toList,m.born<clock'
 QM:(ms'.toList.map (·.born)).Nodup
 perm:Gs.Perm (bg .str es k ys)
 kd:KD .str Gs
 rs:∀m∈ms'.toList,∀b,gH m.val=some b→R' b∨b=bz
 apart:∀(i j:Nat) m m',ms'.toList[i]?=some m→ms'.toList[j]?=some m'→gH m.val=gH m'.val→i=j
section
variable {P:Program} {N:Nat} {Y:Ctx} {ι ι':au} {μ μ':Mu} {H:aG} {w wd w':World} {ops:Array Oper} {out:Option Nat} {base gi:Nat} {es:List (ByteArray×List ByteArray)} {L:Loc} {ms:Array MapEntry} {clock:Nat} {dB:List (ByteArray×List ByteArray)}
theorem KE {t : TypeId} {k : ByteArray} {ys : List ByteArray} {z : Value} {bz : Nat} (hG : Gh gi Y ι μ H wd es L ms clock dB) (hno : aO .str dB k = false)
  (hrun:(Instr.mapUpdate t (.map (some L.b)) (.string k) z).run P w = .ok () (w.putObj L.b (.map (ms.push { key:=.string k,val:=z,born:=clock }) (clock+1))))
  (hz:ja w z ys) (hbz:gH z=some bz) (hsame:∀b,RS L ms.toList b→w.heap[b]?=wd.heap[b]?) (hnz:¬RS L ms.toList bz) :
  Grown P t L ms clock es (RS L ms.toList) k ys w z bz (ms.push { key:=.string k,val:=z,born:=clock }) (clock+1) (dB++[(k,ys)]) where
 run:=hrun
 grow:=fun ms' c' e=>by cases e;exact ⟨_,_,rfl,by simp [Array.toList_push,List.map_append],Nat.le_succ _⟩
 k5:=by
  rw [Array.toList_push]
  exact (hG.k5.same fun m hm b hb=>hsame b (.inr ⟨m,hm,hb⟩)).snoc rfl hz
 NX:=by
  intro m hm
  simp only [Array.toList_push,List.mem_append,List.mem_singleton] at hm
  rcases hm with hm|rfl
  ·exact Nat.lt_succ_of_lt (hG.NX m hm)
  ·exact Nat.lt_succ_self _
 QM:=by
  simp only [Array.toList_push,List.map_append,List.map_cons,List.map_nil]
  refine List.nodup_append.2 ⟨hG.QM,by simp,?_⟩
  intro p hp q hq
  simp only [List.mem_singleton] at hq
  subst hq
  obtain ⟨m,hm,rfl⟩:=List.mem_map.1 hp
  exact Nat.ne_of_lt (hG.NX m hm)
 perm:=(nT hno).trans (oO hG.perm)
 kd:=KD.perm (nT hno).symm hG.kd.iw
 rs:=by
  intro m hm b hb
  simp only [Array.toList_push,List.mem_append,List.mem_singleton] at hm
  rcases hm with hm|rfl
  ·exact .inl (.inr ⟨m,hm,hb⟩)
  ·rw [hbz] at hb;cases hb;exact .inr rfl
 apart:=by
  intro i j m m' hi hj hb
  rw [Array.toList_push] at hi hj
  have key:∀{i:Nat} {m:MapEntry},(ms.toList++[({ key:=.string k,val:=z,born:=clock }:MapEntry)])[i]?=some m→(i<ms.toList.length∧ms.toList[i]?=some m)∨(i=ms.toList.length∧m.val=z):=by
   intro i m h
   rw [List.getElem?_append] at h
   split at h
   ·exact .inl ⟨by assumption,h⟩
   ·have:i - ms.toList.length=0:=by
     have:=(List.getElem?_eq_some_iff.1 h).1
     simp only [List.length_cons,List.length_nil] at this
     omega
    rw [this] at h
    cases h
    exact .inr ⟨by omega,rfl⟩
  rcases key hi with ⟨h1,h2⟩|⟨h1,h2⟩<;>rcases key hj with ⟨h3,h4⟩|⟨h3,h4⟩
  ·exact hG.apart i j m m' h2 h4 hb
  ·rw [h4, hbz] at hb
   exact absurd (.inr ⟨m,List.mem_of_getElem? h2,hb⟩) hnz
  ·rw [h2, hbz] at hb
   exact absurd (.inr ⟨m',List.mem_of_getElem? h4,hb.symm⟩) hnz
  ·omega
theorem KF {t : TypeId} {k : ByteArray} {ys : List ByteArray} {z : Value} {bz bj j : Nat} {m : MapEntry} {e : ByteArray × List ByteArray} (hG : Gh gi Y ι μ H wd es L ms clock dB) (hj : ms.toList[j]? = some m) (he : dB[j]? = some e) (hke : dJ .str k e.1 = true) (hkey : m.key = .string k) (hbj : gH m.val = some bj)
  (hrun:(Instr.mapUpdate t (.map (some L.b)) (.string k) z).run P w = .ok () (w.putObj L.b (.map (ms.modify j fun e=>{ e with key:=.string k,val:=z }) clock)))
  (hz:ja w z ys) (hbz:gH z=some bz) (hsame:∀b,RS L ms.toList b→b≠bj→w.heap[b]?=wd.heap[b]?) (hnz:¬(RS L ms.toList bz∧bz≠bj)) :
  Grown P t L ms clock es (fun b=>RS L ms.toList b∧b≠bj) k ys w z bz (ms.modify j fun e=>{ e with key:=.string k,val:=z }) clock (dB.set j (k,ys)):=by
 have hml:(ms.modify j fun e=>{ e with key:=.string k,val:=z }).toList=ms.toList.set j { m with key:=.string k,val:=z }:=by
  apply List.ext_getElem?
  intro i
  simp only [Array.getElem?_toList,Array.getElem?_modify,List.getElem?_set]
  by_cases e:j=i
  ·subst e
   have hj':ms[j]?=some m:=by simpa using hj
   obtain ⟨q1,q2⟩:=Array.getElem?_eq_some_iff.1 hj'
   simp [hj',q1,q2]
  ·simp [e]
 have hbk:(ms.toList.set j { m with key:=.string k,val:=z }).map (fun m=>(m.born,m.key))=ms.toList.map fun m=>(m.born,m.key):=by
  rw [List.map_set]
  apply List.ext_getElem?
  intro i
  simp only [List.getElem?_set,List.getElem?_map,List.length_map]
  by_cases e:j=i
  ·subst e
   obtain ⟨q1,q2⟩:=List.getElem?_eq_some_iff.1 hj
   simp only [hj,q1,if_true,Option.map_some,hkey]
  ·simp [e]
 have wu:(ms.toList.set j { m with key:=.string k,val:=z }).map (·.born)=ms.toList.map (·.born):=by
  have:=congrArg (List.map Prod.fst) hbk
  simpa [List.map_map,Function.comp_def] using this
 have mH:∀{i:Nat} {m':MapEntry},(ms.toList.set j { m with key:=.string k,val:=z })[i]?=some m'→(i≠j∧ms.toList[i]?=some m')∨(i=j∧m'.val=z):=by
  intro i m' h
  rw [List.getElem?_set] at h
  split at h
  ·rename_i e
   split at h<;>cases h
   exact .inr ⟨e.symm,rfl⟩
  ·rename_i e;exact .inl ⟨Ne.symm e,h⟩
 have hne:∀{i:Nat} {m':MapEntry},i≠j→ms.toList[i]?=some m'→∀b,gH m'.val=some b→b≠bj:=fun {i m'} hi hm b hb e=>by
  subst e
  exact hi (hG.apart i j m' m hm hj (hb.trans hbj.symm))
 exact {
  run:=hrun
  grow:=fun ms' c' e=>by cases e;exact ⟨_,_,rfl,by rw [hml,hbk];exact List.prefix_refl _,Nat.le_refl _⟩
  k5:=by
   rw [hml]
   exact dh.VN (e:=(k,ys)) rfl hz hG.k5 fun i m' hi hm b hb=>hsame b (.inr ⟨m',List.mem_of_getElem? hm,hb⟩) (hne hi hm b hb)
  NX:=by
   intro m' hm'
   rw [hml] at hm'
   have:m'.born∈(ms.toList.set j { m with key:=.string k,val:=z }).map (·.born):=List.mem_map.2 ⟨m',hm',rfl⟩
   rw [wu] at this
   obtain ⟨m2,hm2,e2⟩:=List.mem_map.1 this
   rw [←e2];exact hG.NX m2 hm2
  QM:=by rw [hml,wu];exact hG.QM
  perm:=by rw [vj hG.kd he hke];exact oO hG.perm
  kd:=by rw [vj hG.kd he hke];exact hG.kd.iw
  rs:=by
   intro m' hm' b hb
   rw [hml] at hm'
   obtain ⟨i,hi⟩:=List.mem_iff_getElem?.1 hm'
   rcases mH hi with ⟨h1,h2⟩|⟨h1,h2⟩
   ·exact .inl ⟨.inr ⟨m',List.mem_of_getElem? h2,hb⟩,hne h1 h2 b hb⟩
   ·rw [h2,hbz] at hb;cases hb;exact .inr rfl
  apart:=by
   intro i i' m1 m2 hi hi' hb
   rw [hml] at hi hi'
   rcases mH hi with ⟨h1,h2⟩|⟨h1,h2⟩<;>rcases mH hi' with ⟨h3,h4⟩|⟨h3,h4⟩
   ·exact hG.apart i i' m1 m2 h2 h4 hb
   ·rw [h4, hbz] at hb
    exact absurd ⟨.inr ⟨m1,List.mem_of_getElem? h2,hb⟩,hne h1 h2 _ hb⟩ hnz
   ·rw [h2, hbz] at hb
    exact absurd ⟨.inr ⟨m2,List.mem_of_getElem? h4,hb.symm⟩,hne h3 h4 _ hb.symm⟩ hnz
   ·omega }
theorem VO {S : St} {env' : Env} {bO B : aq} {R' : Nat → Prop} {μ0 : Mu} {H0 : aG} {k x : ByteArray} {xs : List ByteArray} {b : Nat} {a : Act} {rP : Env} {Q : Ex → St → List (ByteArray × List ByteArray) → Prop}
  (mH:∀(k:Nat) (o:Oper) (it:eR),ops.toList[k]?=some o→D3[k]?=some it→pJ P N ops o=some it) (hsz:ops.size=17)
  (hG:Gh gi Y ι μ S.H wd es L ms clock dB) (hI:Inv P Y ι μ0 H0 wd) (yR:μ.le μ0) (hRs:∀b,R' b→RS L ms.toList b) (Ih:R' L.b)
  (hR:eM P N (Y.kq wd ι μ0 R') ι' μ' ⟨rP,⟨b+17,B⟩,S.ms⟩ a w) (hle:μ0.le μ') (h84:get 84 rP = .mp gi) (h86:get 86 rP = .str k) (h96:get 96 rP = .sl (b+15) .str 0 (xs.length+1))
  (Yp:ay (b+15) B=some (.arr .str (xs++[x]) false)) (hBs:∀id B1,ay id bO=some B1→ay id B=some B1∧id≠b+15) (hb:b=S.H.next+1)
  (KG:∀t,get t env' = .any∨get t env'=get t rP)
  (hgr:∀t z bz,jT P t=some (.str,false,.list .str,false)→ja w z (xs++[x])→gH z=some bz→(∀b,R' b→w.heap[b]?=wd.heap[b]?)→¬R' bz→w.heap[L.b]?=some (.map ms clock)→∃ms' clock' Gs,Grown P t L ms clock es R' k (xs++[x]) w z bz ms' clock' Gs)
  (hQ:Q .normal ⟨env',⟨S.H.next+18,bO⟩,S.ms⟩ (bg .str es k (xs++[x]))) :
  wpOpIn (Y.kq wd ι μ0 R').F 0 P ops (lg P N gi Y Q) 16 (lg P N gi Y Q .normal) a w:=by
 have hi:16<ops.size:=by omega
 have ho:ops[16]?=some ops[16]:=by simp [hi]
 obtain ⟨M6,hd2,hg,CB⟩:=D4 (mH 16 _ _ (by simp) rfl:pJ P N ops ops[16]=some (.op none none (.ex (.iw .str false (.list .str) false) [.t 84,.t 86,.t 96])))
 obtain ⟨t,x',y',z',hop,QH,hx',hy',qa⟩:=N5 CB
 have v0:=aB hR.env hx'
 have v1:=aB hR.env hy'
 have v2:=aB hR.env qa
 have e0:(O.t 84).ev rP = .mp gi:=h84
 have e1:(O.t 86).ev rP = .str k:=h86
 have e2:(O.t 96).ev rP = .sl (b+15) .str 0 (xs.length+1):=h96
 rw [e0] at v0;rw [e1] at v1;rw [e2] at v2
 generalize hv0:a.eval x'=z0 at v0
 generalize hv1:a.eval y'=z1 at v1
 generalize hv2:a.eval z'=z2 at v2
 cases v1
 have oa:∀b,R' b→b<wd.heap.size:=fun b hb=>(hG.low b (hRs b hb)).2
 have Ik:∀b,R' b→¬(Y.kq wd ι μ0 R').x b:=fun b hb hX=>hX.2 hb
 have hsame:∀b,R' b→w.heap[b]?=wd.heap[b]?:=fun b hb=>hR.inv.below.block b (oa b hb) (Ik b hb)
 have vX:∀b,R' b→∀o,ι' b o=ι b o:=fun b hb o=>hR.inv.iB b o (oa b hb) (Ik b hb)
 have hown':∀id B1 L1,ay id B=some B1→μ' id=some L1→¬R' L1.b:=fun id B1 L1 h1 h2 hr=>by
  rcases ((hR.inv.live id B1 h1).loc h2).1 with h|h
  ·have : wd.heap.size ≤ L1.b := h
   have:=oa _ hr
   omega
  ·exact h.2 hr
 have hIY:=hI.NV hR.inv
 cases v0 with
 |mp _ L' hL' =>
 rw [hle _ _ (yR _ _ hG.mu)] at hL';cases hL'
 cases v2 with
 |sl _ _ _ _ cap L15 Yq q1 q2 q3 =>
 rcases hIY.live _ _ Yp with ⟨h,_⟩|⟨L2,vs,hM,hRc,Cy⟩
 ·simp at h
 have hML:L2=L15:=by
  have:=hM.mu
  rw [Yq] at this
  exact (Option.some.inj this).symm
 subst hML
 obtain ⟨c,ec,hc1,Vl,hc3⟩:=hM.row
 have hvs:=uy hRc
 have acp:ja w (.slice (some ⟨L2.b,L2.ba+0 * Ty.str.sz,none⟩) (xs.length+1) cap) (xs++[x]):=by
  refine ⟨L2.b,L2.ba+0 * Ty.str.sz,cap,c,ec,by simp,by simp,by simpa using q1,hc1,?_,fun j s hj=>?_⟩
  ·simp only [Ty.sz] at q2 ⊢
   rw [Vl];omega
  ·have : vs[j]? = some (.string s) := by rw [hvs, List.getElem?_map, hj]; rfl
   have:=hc3 j _ this
   rw [show L2.ba+0 * Ty.str.sz+j=L2.ba+j by omega];exact this
 have hnz:¬R' L2.b:=hown' _ _ _ Yp Yq
 have hmap:w.heap[L.b]?=some (.map ms clock):=by rw [hsame _ Ih];exact hG.hb
 obtain ⟨ms',clock',Gs,N6⟩:=hgr t _ L2.b QH acp rfl hsame hnz hmap
 unfold wpOpIn
 simp only [ho]
 rw [if_pos (by simp [Region.wanted,hg])]
 refine ⟨fun _ _=>trivial,?_⟩
 rw [Oper.semAt_eq _ _ _ (lU CB)]
 have hrun:(execOp a.eval ops[16]).run P w = .ok .skip (w.putObj L.b (.map ms' clock')):=by
  simp only [execOp,hop,hv0,hv1,hv2,Sem.run_bind,N6.run];rfl
 rw [hrun]
 show lg P N gi Y Q .normal (a.put ops[16].dst undef) (w.putObj L.b (.map ms' clock'))
 rw [M6]
 have hnoL:∀id B1 L1,ay id bO=some B1→μ' id=some L1→L1.b≠L.b:=fun id B1 L1 h1 h2 e=>hown' _ _ _ (hBs _ _ h1).1 h2 (e▸Ih)
 have nN:Inv P Y ι' μ' ⟨S.H.next+18,bO⟩ w:=by
  have:=hIY.sub (bl:=bO) fun id B1 h1=>(hBs id B1 h1).1
  simp only at this
  rw [show S.H.next+18=b+17 by omega];exact this
 have hI3:=nN.Yk (hG.own _ (.inl rfl)).1 hnoL hmap (by simp) N6.grow
 have bU:∀k,k≠L.b→(w.putObj L.b (.map ms' clock')).heap[k]?=w.heap[k]?:=fun k hk=>World.putObj_heap_other hk
 have hneL:∀m∈ms'.toList,∀b,gH m.val=some b→b≠L.b:=by
  intro m hm b hb e
  subst e
  have hcells:∀(es:List (ByteArray×List ByteArray)) (ms:List MapEntry),dh w es ms→m∈ms→∃c e,w.heap[L.b]?=some (.cells c e (0,0)):=by
   intro es ms he hm
   induction es generalizing ms with
   |nil=>simp [dh] at he;subst he;cases hm
   |cons e es ih =>
    obtain ⟨m0,r,rfl,_,h2,h3⟩:=he
    rcases List.mem_cons.1 hm with rfl|hm
    ·obtain ⟨b', o', cap', c', e', h4, _, _, h5, _⟩ := h2
     rw [h4] at hb;cases hb;exact ⟨_,_,h5⟩
    ·exact ih _ h3 hm
  obtain ⟨c',e',h'⟩:=hcells _ _ N6.k5 hm
  rw [hmap] at h';cases h'
 refine ⟨Y,.refl Y,ι',μ',⟨env',⟨S.H.next+18,bO⟩,S.ms⟩,.normal,_,⟨fun t=>?_,hR.sz,hI3,hR.ms⟩,rfl,hQ,L,ms',clock',Gs,?_⟩
 ·rcases KG t with h | h
  ·rw [h];exact .any _
  ·rw [h];exact hR.env t
 ·exact {
   mu:=hle _ _ (yR _ _ hG.mu)
   hb:=World.putObj_heap_same (Array.getElem?_eq_some_iff.1 hmap).1
   k5:=N6.k5.same fun m hm b hb=>bU b (hneL m hm b hb)
   NX:=N6.NX
   QM:=N6.QM
   perm:=N6.perm
   kd:=N6.kd
   own:=by
    intro b hb
    have hb':R' b∨b=L2.b:=by
     rcases hb with rfl|⟨m,hm,hb⟩
     ·exact .inl Ih
     ·exact N6.rs m hm b hb
    rcases hb' with h|rfl
    ·exact ⟨(hG.own b (hRs b h)).1,fun o=>by rw [vX b h];exact (hG.own b (hRs b h)).2 o⟩
    ·exact ⟨hM.old,hM.pK rfl⟩
   apart:=N6.apart
   kr:=by
    intro id B1 L1 h1 h2 hr
    obtain ⟨h3,h4⟩:=hBs id B1 h1
    have hr':R' L1.b∨L1.b=L2.b:=by
     rcases hr with hr|⟨m,hm,hb⟩
     ·rw [hr];exact .inl Ih
     ·exact N6.rs m hm _ hb
    rcases hr' with h|h
    ·exact hown' _ _ _ h3 h2 h
    ·exact h4 (hIY.inj _ _ _ _ _ _ h3 Yp h2 Yq h) }
end
end Go.AM
end
section
namespace Go.AM
section
variable {P:Program} {N:Nat} {out:Option Nat} {gi:Nat} {es:List (ByteArray×List ByteArray)}
theorem N7 (mixed : P.follows .mixedOrders = true) {S : St} {c2 c4 c9 : Nat} {f2 f4 f9 : Bool} {m0 m2 m3 q0 q1 q3 q4 : V} {k x : ByteArray} {env' : Env} {bO : aq}
  (g3:get 3 S.env = .ptr c2 0) (g9:get 9 S.env = .str x) (g10:get 10 S.env = .ptr c9 0)
  (b2:ay c2 S.H.bl=some (.cells [.ptr c4 0] f2)) (b4:ay c4 S.H.bl=some (.cells [m0,.mp gi,m2,m3] f4)) (b9:ay c9 S.H.bl=some (.cells [q0,q1,.str k,q3,q4] f9))
  (lF:(az .str [] es k).length+1<bI) (qE:∀id B,ay id bO=some B→ay id S.H.bl=some B) (KG:∀t,get t env' = .any∨(get t env'=get t S.env∧t<81)) :
  gC P N out gi (.draw mY D3) S es fun e S' es'=>e = .normal∧S'=⟨env',⟨S.H.next+18,bO⟩,S.ms⟩∧es'=bg .str es k (az .str [] es k++[x]):=by
 intro code
 induction code with
 |skip=>intro h;cases h
 |label l=>intro h;cases h
 |ret=>intro h;cases h
 |exit id=>intro h;cases h
 |goto l=>intro h;cases h
 |refuse why=>intro h;cases h
 |scope b ih=>intro h Y ι μ a w ho hR hG;exact j4 (ih h Y ι μ a w ho hR hG) fun l a w=>lg.noGoto
 |region id ops draw =>
  intro h Y ι μ a w ho hR ⟨L,ms,clock,dB,hG0⟩
  simp only [fB] at h
  split at h<;>try (cases h;done)
  rename_i is mN
  cases draw with
  |false=>cases h
  |true =>
   simp only at h
   split at h<;>try (cases h;done)
   rename_i FN
   have sN:HP (bP ops) is=none:=by
    cases hc:HP (bP ops) is with
    |none=>rfl
    |some c=>rw [hc] at h;cases h
   rw [sN] at h
   have h:=C.draw.inj (Option.some.inj h)
   obtain ⟨hpr,e⟩:=h
   subst e
   have hlen:=(gq mN).1
   have hsz:ops.size=17:=by simpa [D3] using hlen.symm
   have mH:=(gq mN).2
   refine wpIn_region_any mixed ?_
   have hI:Inv P Y ι μ S.H { w with drawn:=w.drawn+1 }:=hR.inv.drawn
   have hG:Gh gi Y ι μ S.H { w with drawn:=w.drawn+1 } es L ms clock dB:=hG0.keep rfl (fun b hb=>⟨(hG0.own b hb).1,rfl,fun _=>rfl⟩) hG0.kr
   generalize hwd:({ w with drawn:=w.drawn+1 }:World)=wd at hI hG ⊢
   have hkd:KD .str es:=KD.perm hG.perm hG.kd
   have hge:az .str [] es k=az .str [] dB k:=(zD hG.perm hG.kd hkd).symm
   have qg:∀s,s<81→∀b n X,s∉(bK c4 c9 gi b n k x X).map (·.2.1):=fun s hs b n X=>by
    simp [bK];omega
   have hlt:∀id B,ay id S.H.bl=some B→id<S.H.next:=fun id B h=>hR.inv.lt id B h
   rcases Yj (P:=P) (clock:=clock) hG.k5 hG.kd k with ⟨r1,hrun⟩|⟨r1,j,m,e,r3,r6,r7,r4,q3',acq,hrun⟩
   ·-- no such key yet
    have th:az .str [] es k=[]:=by rw [hge];exact gB r1
    have qF:eM P N (Y.kq wd ι μ (RS L ms.toList)) ι μ ⟨S.env,⟨S.H.next+1,S.H.bl⟩,S.ms⟩ a wd:=⟨hR.env,hR.sz,(hI.NU hG.kr).ta (by simp),hR.ms⟩
    have oa:L.b<wd.heap.size:=(hG.low _ (.inl rfl)).2
    refine VL (Y := Y.kq wd ι μ (RS L ms.toList)) (b := S.H.next + 1) (n := 0) (k := k) (x := x) (X := .bX) (y := .slice none 0 0) (Yl := [(S.H.next + 1 + 15, some (.arr .str [x] false))]) (L := L) mN hpr FN.2 qF hG.mu oa (fun hX => hX.2 (.inl rfl)) g3 g9 g10 b2 b4 b9
     (fun t w' ht hw=>(hrun t ht).1 w' L.b (hw.trans hG.hb)) (fun _ _ _=>.bX _) (fun env h1 h2=>?_) (by decide) ?_ ?_
    ·simp [bY,O.ev,h1,h2,Fx,elems,bq,jR,Ty.sz,gn,bp]
    ·intro id cs f hb
     have:=hlt _ _ hb
     simp only [bx]
     rw [aD,if_neg (by omega),aD,if_neg (by omega)]
     exact hb
    ·intro ι2 μ2 a2 w2 rP ny hle2 ht1 ht2
     refine VO (xs:=[]) (k:=k) (x:=x) (b:=S.H.next+1) (bO:=bO) (env':=env') mH hsz hG hI (fun _ _ h=>h) (fun _ h=>h) (.inl rfl) ny hle2 (ht1 3 84 _ (by simp [bK])) (ht1 5 86 _ (by simp [bK])) (ht1 15 96 _ (by simp [bK])) ?_ ?_ rfl ?_ ?_ ?_
     ·simp only [bx];rw [aD,if_pos rfl];rfl
     ·intro id B1 h1
      have h2:=qE _ _ h1
      have:=hlt _ _ h2
      refine ⟨?_,by omega⟩
      simp only [bx]
      rw [aD,if_neg (by omega),aD,if_neg (by omega)]
      exact h2
     ·intro t
      rcases KG t with h|⟨h,h81⟩
      ·exact .inl h
      ·exact .inr (h.trans (ht2 t (qg t h81 _ _ _)).symm)
     ·intro t z bz ht hz hbz hs hnz hm
      exact ⟨_,_,_,KE hG r1 ((hrun t ht).2 w2 L.b z hm) hz hbz hs hnz⟩
     ·exact ⟨rfl,rfl,by rw [th]⟩
   ·-- the key is there
    obtain ⟨bj,oj,cap,c,ec,hv,hne,hcap,hcell,hfit,hcs⟩:=q3'
    have hbj:gH m.val=some bj:=by rw [hv];rfl
    have QF:RS L ms.toList bj:=.inr ⟨m,List.mem_of_getElem? r3,hbj⟩
    have hown:=hG.own bj QF
    have acr:az .str [] es k=e.2:=hge.trans acq
    rw [acr] at lF ⊢
    have hnL:L.b≠bj:=fun h=>by have:=hG.hb;rw [h,hcell] at this;cases this
    have N8:μ S.H.next=none:=hI.nx _ (Nat.le_refl _)
    let Lj:Loc:=⟨bj,oj,c.size,e.2.length⟩
    have fM:μ.set S.H.next Lj S.H.next=some Lj:=by simp [Mu.set]
    have yR:μ.le (μ.set S.H.next Lj):=Mu.fF N8
    have Fg:Inv P Y ι (μ.set S.H.next Lj) ⟨max S.H.next (S.H.next+1),(S.H.next,.arr .str e.2 false)::bu S.H.next S.H.bl⟩ wd:=by
     refine hI.show N8 (fun id B L' h1 h2 h3=>hG.kr id B L' h1 h2 (by rw [h3];exact QF)) (.inr ⟨Lj,e.2.map .string,⟨fM,hown.1,⟨c,ec,hcell,rfl,fun j v hj=>?_⟩,?_,?_,(fun h=>by cases h),fun _=>hown.2⟩,rO rfl,rfl⟩)
     ·rw [List.getElem?_map] at hj
      cases hx:e.2[j]? with
      |none=>rw [hx] at hj;cases hj
      |some s=>rw [hx] at hj;cases hj;exact hcs j s hx
     ·simp only [List.length_map];show oj+e.2.length≤c.size;omega
     ·intro v hv
      obtain ⟨s,_,rfl⟩:=List.mem_map.1 hv
      rfl
    let R':Nat→Prop:=fun b=>RS L ms.toList b∧b≠bj
    have hno:tD (μ.set S.H.next Lj) ⟨max S.H.next (S.H.next+1),(S.H.next,.arr .str e.2 false)::bu S.H.next S.H.bl⟩ R':=by
     intro id B L' h1 h2 h3
     simp only [aD] at h1
     split at h1
     ·rename_i he; subst he
      rw [fM] at h2;cases h2
      exact h3.2 rfl
     ·rename_i he
      unfold Mu.set at h2
      rw [if_neg he] at h2
      exact hG.kr id B L' h1 h2 h3.1
    have qF:eM P N (Y.kq wd ι (μ.set S.H.next Lj) R') ι (μ.set S.H.next Lj) ⟨S.env,⟨S.H.next+1,(S.H.next,.arr .str e.2 false)::bu S.H.next S.H.bl⟩,S.ms⟩ a wd :=
     ⟨hR.env.mono (au.le_refl _) yR,hR.sz,by
      have:=Fg.NU hno
      rw [Nat.max_eq_right (Nat.le_succ _)] at this
      exact this,hR.ms.mono yR⟩
    have oa:L.b<wd.heap.size:=(hG.low _ (.inl rfl)).2
    have hbk:∀id B,ay id S.H.bl=some B→ay id ((S.H.next,kR.arr .str e.2 false)::bu S.H.next S.H.bl)=some B:=fun id B hb=>by
     have:=hlt _ _ hb
     rw [aD,if_neg (by omega)];exact hb
    have R1:∀id B,ay id S.H.bl=some B→ay id (bx [(S.H.next,none),(S.H.next+1+15,some (.arr .str (e.2++[x]) false))] ((S.H.next+1+14,.arr .str [x] false)::bu (S.H.next+1+14) ((S.H.next,.arr .str e.2 false)::bu S.H.next S.H.bl)))=some B:=fun id B hb=>by
     have:=hlt _ _ hb
     simp only [bx]
     rw [aD,if_neg (by omega),bn,if_neg (by omega),aD,if_neg (by omega)]
     exact hbk _ _ hb
    refine VL (Y := Y.kq wd ι (μ.set S.H.next Lj) R') (b := S.H.next + 1) (n := e.2.length) (k := k) (x := x) (X := .sl S.H.next .str 0 e.2.length) (y := m.val) (Yl := [(S.H.next, none), (S.H.next + 1 + 15, some (.arr .str (e.2 ++ [x]) false))]) (L := L) mN hpr FN.2 qF (yR _ _ hG.mu) oa (fun hX => hX.2 ⟨.inl rfl, hnL⟩) g3 g9 g10 (hbk _ _ b2) (hbk _ _ b4) (hbk _ _ b9)
     (fun t w' ht hw=>(hrun t ht).1 w' L.b (hw.trans hG.hb)) (fun ι' μ' hle=>?_) (fun env h1 h2=>?_) lF ?_ ?_
    ·rw [hv]
     have:=Rel.sl (ι:=ι') (μ:=μ') S.H.next .str 0 e.2.length cap Lj (hle _ _ fM) hcap (by simp only [Ty.sz,Lj];omega) (by simp [Lj])
     simpa [Lj,Ty.sz] using this
    ·have u1 : S.H.next + 1 + 14 ≠ S.H.next := by omega
     have u2:S.H.next≠S.H.next+1+14:=by omega
     simp [bY,O.ev,h1,h2,elems,bq,bn,jR,Ty.sz,gn,bp,u1,u2]
    ·intro id cs f hb
     rw [aD] at hb
     split at hb
     ·cases hb
     ·exact R1 _ _ hb
    ·intro ι2 μ2 a2 w2 rP ny hle2 ht1 ht2
     refine VO (xs:=e.2) (k:=k) (x:=x) (b:=S.H.next+1) (bO:=bO) (env':=env') mH hsz hG Fg yR (fun _ h=>h.1) ⟨.inl rfl,hnL⟩ ny hle2 (ht1 3 84 _ (by simp [bK])) (ht1 5 86 _ (by simp [bK])) (ht1 15 96 _ (by simp [bK])) ?_ ?_ rfl ?_ ?_ ?_
     ·simp only [bx];rw [aD,if_pos rfl]
     ·intro id B1 h1
      have h2:=qE _ _ h1
      have:=hlt _ _ h2
      exact ⟨R1 _ _ h2,by omega⟩
     ·intro t
      rcases KG t with h|⟨h,h81⟩
      ·exact .inl h
      ·exact .inr (h.trans (ht2 t (qg t h81 _ _ _)).symm)
     ·intro t z bz ht hz hbz hs hnz hm
      exact ⟨_,_,_,KF hG r3 r6 r7 r4 hbj ((hrun t ht).2 w2 L.b z hm) hz hbz (fun b h1 h2=>hs b ⟨h1,h2⟩) hnz⟩
     ·exact ⟨rfl,rfl,rfl⟩
 |seq x y _ _ =>
  intro h
  simp only [fB] at h
  split at h<;>try (cases h;done)
  split at h<;>try (cases h;done)
  split at h<;>cases h
 |cond c0 x y _ _ =>
  intro h
  simp only [fB] at h
  split at h<;>cases h
 |block id b _ =>
  intro h
  simp only [fB] at h
  cases hx:fB P N b<;>simp [hx] at h
 |loop b _ =>
  intro h
  simp only [fB] at h
  cases hx:fB P N b<;>simp [hx] at h
 |rangeFunc f ps x y _ _ =>
  intro h
  simp only [fB] at h
  split at h<;>cases h
end
end Go.AM
end
section
namespace Go.AM
section
variable {P:Program} {N:Nat} {Y:Ctx} {ι ι':au} {μ μ':Mu} {H:aG} {w w':World} {out:Option Nat} {base gi:Nat} {es:List (ByteArray×List ByteArray)} {L:Loc} {ms:Array MapEntry} {clock:Nat} {dB:List (ByteArray×List ByteArray)} {a:Act}
theorem dh.entR {ι : au} : ∀ {es : List (ByteArray × List ByteArray)} {ms : List MapEntry}, dh w es ms → (∀ m ∈ ms, ∀ b, gH m.val = some b → ∀ o, ι b o = w.cell? ⟨b, o, none⟩) → eV ι .str false (.list .str) false es ms
 |[],_,h,_=>h
 |e0::es,_,⟨m,r,h0,h1,h2,h3⟩,hi=>by
  subst h0
  refine ⟨m,r,rfl,by rw [h1];exact ⟨[.string e0.1],rfl,rfl⟩,?_,dh.entR h3 fun m hm=>hi m (List.mem_cons_of_mem _ hm)⟩
  obtain ⟨b,o,cap,c,e,hv,g0,g1,g2,g3,g4⟩:=h2
  have hb:=hi m (List.mem_cons_self ..) b (by rw [hv];rfl)
  rw [hv]
  refine ⟨[_],⟨_,cap,rfl,g1,.inr ⟨b,o,e0.2.map Value.string,rfl,fun j u hu=>?_,rO rfl⟩⟩,rfl⟩
  rw [List.getElem?_map] at hu
  cases hx:e0.2[j]? with
  |none=>rw [hx] at hu;cases hu
  |some s =>
   rw [hx] at hu;cases hu
   have:=g4 j s hx
   rw [hb]
   simp [World.cell?,g2,this]
open Classical in
theorem Gh.back (hI:Inv P Y ι μ H w) (hG:Gh gi Y ι μ H w es L ms clock dB) (A8:gi<H.next):∃ι',ι.le ι'∧Inv P Y ι' μ ⟨H.next,(gi,.map .str false (.list .str) false es)::bu gi H.bl⟩ w:=by
 let li:Nat→Prop:=fun b=>∃m∈ms.toList,gH m.val=some b
 let ι':au:=fun b o=>if li b then w.cell? ⟨b,o,none⟩ else ι b o
 have Rt:∀b,li b→∀o,ι' b o=w.cell? ⟨b,o,none⟩:=fun b h o=>by simp only [ι',if_pos h]
 have hnl:∀b,¬li b→∀o,ι' b o=ι b o:=fun b h o=>by simp only [ι',if_neg h]
 have hown:∀b,li b→Y.own b∧∀o,ι b o=none:=fun b h=>hG.own b (.inr h)
 have hle:ι.le ι':=fun b o x hx=>by
  by_cases h:li b
  ·rw [(hown b h).2] at hx;cases hx
  ·rw [hnl b h];exact hx
 have hLn:¬li L.b:=by
  rintro ⟨m,hm,hb⟩
  obtain ⟨i,hi⟩:=List.mem_iff_getElem?.1 hm
  have hcells:∀(es:List (ByteArray×List ByteArray)) (ms:List MapEntry),dh w es ms→m∈ms→∃c e,w.heap[L.b]?=some (.cells c e (0,0)):=by
   intro es ms he hm
   induction es generalizing ms with
   |nil=>simp [dh] at he;subst he;cases hm
   |cons e es ih =>
    obtain ⟨m0,r,rfl,_,h2,h3⟩:=he
    rcases List.mem_cons.1 hm with rfl|hm
    ·obtain ⟨b', o', cap', c', e', h4, _, _, h5, _⟩ := h2
     rw [h4] at hb;cases hb;exact ⟨_,_,h5⟩
    ·exact ih _ h3 hm
  obtain ⟨c',e',h'⟩:=hcells _ _ hG.k5 hm
  rw [hG.hb] at h';cases h'
 have hold:∀id B,ay id H.bl=some B→dL P Y.own ι' μ id w B:=fun id B hB =>
  (hI.live id B hB).mono hle (Mu.le_refl _) (fun h=>h) (fun _ _=>rfl) fun L' hL' ho o=>by
   rw [hnl _ (fun h=>hG.kr id B L' hB hL' (.inr h))];exact ho o
 refine ⟨ι',hle,hI.below,au.le_trans hI.i0 hle,fun b o hb hx=>?_,fun b o x hx=>?_,hI.m0,hI.nx,fun id B hB=>?_,?_,fun id B hB=>?_,hI.gl⟩
 ·by_cases h : li b
  ·rcases (hown b h).1 with h' | h'
   ·omega
   ·exact absurd h' hx
  ·rw [hnl b h];exact hI.iB b o hb hx
 ·by_cases h : li b
  ·rw [Rt b h] at hx;exact hx
  ·rw [hnl b h] at hx;exact hI.rd b o x hx
 ·simp only at hB
  rw [aD] at hB
  split at hB
  ·rename_i e; subst e; cases hB
   exact ⟨L,ms,clock,dB,hG.mu,(hG.own _ (.inl rfl)).1,hG.hb,hG.k5.entR fun m hm b hb o=>Rt b ⟨m,hm,hb⟩ o,hG.NX,hG.QM,hG.perm,hG.kd⟩
  ·exact hold id B hB
 ·intro id id' B B' L1 L2 h1 h2 gj hm2 e
  simp only at h1 h2
  rw [aD] at h1 h2
  by_cases e1:id=gi<;>by_cases e2:id'=gi
  ·rw [e1,e2]
  ·subst e1
   rw [if_neg e2] at h2
   rw [hG.mu] at gj;cases gj
   exact absurd (.inl e.symm) (hG.kr _ _ _ h2 hm2)
  ·subst e2
   rw [if_neg e1] at h1
   rw [hG.mu] at hm2;cases hm2
   exact absurd (.inl e) (hG.kr _ _ _ h1 gj)
  ·rw [if_neg e1] at h1; rw [if_neg e2] at h2
   exact hI.inj id id' B B' L1 L2 h1 h2 gj hm2 e
 ·simp only at hB
  rw [aD] at hB
  split at hB
  ·rename_i e;subst e;exact A8
  ·exact hI.lt id B hB
theorem Sf {bl bO:aq} {nx:Nat} (hI:Inv P Y ι μ ⟨nx,bl⟩ w) (hb:ay gi bl=some (.map .str false (.list .str) false [])) (qE:∀id B,ay id bO=some B→ay id bl=some B∧id≠gi) :
  Inv P Y ι μ ⟨nx,bO⟩ w∧GG gi Y ι μ ⟨nx,bO⟩ w []:=by
 obtain ⟨L,ms,clock,dB,h1,h2,h3,h4,h5,h6,h7,h8⟩:=hI.live _ _ hb
 have he:dB=[]:=h7.eq_nil
 subst he
 have J2:ms.toList=[]:=h4
 have QF:∀b,RS L ms.toList b→b=L.b:=fun b h=>by
  rcases h with h|⟨m,hm,_⟩
  ·exact h
  ·rw [J2] at hm;cases hm
 refine ⟨hI.sub fun id B h=>(qE id B h).1,L,ms,clock,[],h1,h3,J2,h5,h6,.refl _,h8,fun b hb=>?_,fun i j m m' hi=>(by rw [J2] at hi;simp at hi),fun id B L' hB hL' hr=>?_⟩
 ·rw [QF b hb]
  refine ⟨h2,fun o=>?_⟩
  cases vX:ι L.b o with
  |none=>rfl
  |some x =>
   have:=hI.rd _ _ _ vX
   simp [World.cell?,h3] at this
 ·obtain ⟨q1, q2⟩ := qE id B hB
  exact q2 (hI.inj _ _ _ _ _ _ q1 hb hL' h1 (QF _ hr))
noncomputable def cxN:Cx:=aL [] []
theorem Yr:cxN.Ok P:=av trivial trivial
theorem VP (mixed : P.follows .mixedOrders = true) {c : C} (hd : ∀ base, (dO [] c 0 : D P N out base).er = c) {env : Env} {nx : Nat} {bl : aq} {ms : List Nat} {r : Ex × Env × Nat × aq × List Nat}
  (h:∀base,kE (iu (Ex×Env×Nat×aq×List Nat)) cxN dN (dO [] c 0:D P N out base) env nx bl ms (fun e env nx bl ms=>some (e,env,nx,bl,ms))=some r) :
  gC P N out gi c ⟨env,⟨nx,bl⟩,ms⟩ es fun e S' es'=>es'=es∧e=r.1∧S'=⟨r.2.1,⟨r.2.2.1,r.2.2.2.1⟩,r.2.2.2.2⟩:=by
 refine Yi mixed ?_
 have:=k7 Yr (h nx) (Q:=fun e S'=>e=r.1∧S'=⟨r.2.1,⟨r.2.2.1,r.2.2.2.1⟩,r.2.2.2.2⟩) fun e env nx bl ms hk=>by
  cases hk;exact ⟨rfl,rfl⟩
 rw [hd nx] at this
 exact this
theorem GG.eZ {base:Nat} {π:List Nat} {S S':St} (hE:jh base π S S') (hR:eM P N Y ι μ S a w) (hG:GG gi Y ι μ S.H w es) (A8:π[gi]?=some gi):GG gi Y ι (μ.eZ π) S'.H w es:=by
 obtain ⟨L,ms,clock,dB,hG⟩:=hG
 refine ⟨L,ms,clock,dB,hG.keep (by simp [Mu.eZ,A8]) (fun b hb=>⟨(hG.own b hb).1,rfl,fun _=>rfl⟩) fun id B L' hB hL' hr=>?_⟩
 obtain ⟨i,h1,h2⟩:=hE.bl (id,B) (dx hB)
 have XN:μ i=some L':=by simpa [Mu.eZ,h1] using hL'
 have hx:∀B',ay i S.H.bl=some B'→False:=fun B' hb=>hG.kr i B' L' hb XN hr
 cases B<;>simp only at h2
 ·obtain ⟨ds,h3,_⟩:=h2;exact hx _ h3
 ·rcases h2 with h3 | ⟨_, h3⟩
  ·exact hx _ h3
  ·rw [hR.inv.nx i h3] at XN;cases XN
 ·obtain ⟨_,_,h3,_⟩:=h2;exact hx _ h3
 ·exact hx _ h2
 ·exact hx _ h2
 ·obtain ⟨_,h3,_⟩:=h2;exact hx _ h3
theorem KH {n base:Nat} {S S':St} (hb:base≤n) (Ik:S'.H.next=n) (J2:S'.ms=[]) (hms':S.ms=[]) (KG:∀p∈S'.env,EV (List.range n) p.2 (get p.1 S.env)) (qE:∀p∈S'.H.bl,p.1<n∧EBk (List.range n) S.H.next S.H.bl p.1 p.2):jh base (List.range n) S S' where
 pre:=by rw [List.take_range,Nat.min_eq_left hb]
 nx:=by rw [Ik,List.length_range]
 ms:=by rw [J2,hms'];rfl
 env:=KG
 bl:=fun p hp=>(qE p hp).2
 inj:=fun p hp q hq e=>by
  rw [List.getElem?_range (qE p hp).1,List.getElem?_range (qE q hq).1] at e
  exact Option.some.inj e
theorem fU (mixed : P.follows .mixedOrders = true) {is : List eR} {cb : C} {env env' : Env} {nx Fl : Nat} {bl bO : aq} {ms ms' : List Nat} {Q : Ex → St → List (ByteArray × List ByteArray) → Prop}
  (h:∀base,kE (iu (Ex×Env×Nat×aq×List Nat)) cxN dN (dO [] (.aV is) 0:D P N out base) env nx bl ms (fun e env nx bl ms=>some (e,env,nx,bl,ms))=some (.normal,env',Fl,bO,ms'))
  (hb:gC P N out gi cb ⟨env',⟨Fl,bO⟩,ms'⟩ es Q):gC P N out gi (.seq (.aV is) cb) ⟨env,⟨nx,bl⟩,ms⟩ es Q:=by
 refine IJ (fun _ _ h=>by cases h) (VP mixed (fun _=>rfl) h) (fun S' es' hq=>?_) (fun i S' es' hq=>by cases hq.2.1) (fun S' es' hq=>by cases hq.2.1)
 obtain ⟨rfl,_,rfl⟩:=hq
 exact hb
theorem D5 (mixed : P.follows .mixedOrders = true) {c : C} (hd : ∀ base, (dO [] c 0 : D P N out base).er = c) {env env' : Env} {nx Fl : Nat} {bl bO : aq} {ms ms' : List Nat} {ex : Ex} {Q : Ex → St → List (ByteArray × List ByteArray) → Prop}
  (h:∀base,kE (iu (Ex×Env×Nat×aq×List Nat)) cxN dN (dO [] c 0:D P N out base) env nx bl ms (fun e env nx bl ms=>some (e,env,nx,bl,ms))=some (ex,env',Fl,bO,ms'))
  (hq:Q ex ⟨env',⟨Fl,bO⟩,ms'⟩ es):gC P N out gi c ⟨env,⟨nx,bl⟩,ms⟩ es Q :=
 NY (VP mixed hd h) fun e S' es' ⟨h1,h2,h3⟩=>by subst h1;subst h2;subst h3;exact hq
def GRnd (gi base:Nat) {α β:Type} (I:α→St) (ES:α→List (ByteArray×List ByteArray)) (X:β→Ex×St) (nb:β→List (ByteArray×List ByteArray)) (r:α ⊕ β) (e:Ex) (S':St) (es':List (ByteArray×List ByteArray)):Prop:=match r with
 | .inl y=>e = .normal∧es'=ES y∧∃π:List Nat,π[gi]?=some gi∧jh base π S' (I y)
 | .inr b=>e ≠ .normal∧e=(X b).1∧gi<S'.H.next∧es'=nb b∧∃π,jh base π ⟨S'.env,⟨S'.H.next,(gi,.map .str false (.list .str) false es')::bu gi S'.H.bl⟩,S'.ms⟩ (X b).2
theorem Ys {base : Nat} {α β : Type} {I : α → St} {ES : α → List (ByteArray × List ByteArray)} {X : β → Ex × St} {step : α → Option (α ⊕ β)} {c : C} {nb : β → List (ByteArray × List ByteArray)}
  (hstep:∀x r,step x=some r→gC P N out gi c (I x) (ES x) (GRnd gi base I ES X nb r))
  {x:α} {b:β} (hx:iter step x=some b) {K:Ex→St→Prop} (hK:K (X b).1 (X b).2) {body:Code} (hbody:fB P N body=some c) {a:Act} (ho:jZ Y out) (hb:Y.base base) (hR:eM P N Y ι μ (I x) a w) (hG:GG gi Y ι μ (I x).H w (ES x)) :
  (Code.loop body).wpIn Y.F 0 P (Post P N Y K) a w:=by
 obtain ⟨n,hn⟩:=tj hx
 refine wpIn_loop_ghost (fun (n:Nat) a w=>∃Y1,Ext P Y Y1∧∃x ι μ,eM P N Y1 ι μ (I x) a w∧GG gi Y1 ι μ (I x).H w (ES x)∧jw step n x=some b) id (x:=n) ⟨Y,.refl Y,x,ι,_,hR,hG,hn⟩ ?_
 rintro n a w ⟨Y0,QI,x,ι,μ,hR,hG,hx⟩
 cases n with
 |zero=>cases hx
 |succ n =>
  simp only [jw] at hx
  split at hx
  ·cases hx
  ·rename_i y e
   refine wpIn_mono (BR (hstep x _ e body hbody) QI ho hR hG) fun e a' w' hp=>?_
   obtain ⟨Y1,hY,ι',μ',S',e',es',h1,h2,⟨rfl,rfl,π',h3,h4⟩,h5⟩:=hp
   cases h2
   exact ⟨n,⟨Y1,hY,y,ι',_,h4.rep (hY.ua hb) h1,h5.eZ h4 h1 h3,hx⟩,Nat.lt_succ_self n⟩
  ·rename_i b' e
   cases hx
   refine wpIn_mono (BR (hstep x _ e body hbody) QI ho hR hG) fun e a' w' hp=>?_
   obtain ⟨Y1,hY,ι',μ',S',e',es',h1,h2,⟨hne,h3,hlt,rfl,π',h4⟩,L,ms,clock,dB,h5⟩:=hp
   obtain ⟨ι2,hi2,nN⟩:=h5.back h1.inv hlt
   have h6:eM P N Y1 ι2 μ' ⟨S'.env,⟨S'.H.next,(gi,.map .str false (.list .str) false (nb b))::bu gi S'.H.bl⟩,S'.ms⟩ a' w':=⟨h1.env.mono hi2 (Mu.le_refl _),h1.sz,nN,h1.ms⟩
   have hp:Post P N Y K e a' w':=⟨Y1,hY,ι2,_,_,_,h4.rep (hY.ua hb) h6,by rw [←h3];exact h2,hK⟩
   cases e' with
   |normal=>exact absurd rfl hne
   |exit id=>cases h2;exact hp
   |ret=>cases h2;exact hp
end
end Go.AM
end
