/- slices.SortFunc on a list of structs behind a block, by the library's own theorem. Code that is run beside blocks that it does not know. A list that lies in a map grows in place. Code beside a map whose lists grow in place. Reading and writing a map that is kept beside the machine. m[k] = append(m[k], x), in whatever order its parts are reckoned: up to the map's writing. m[k] = append(m[k], x): the whole of it. The region m[k] = append(m[k], x). A loop in which lists grow that lie in a map: its beginning, its rounds, its end. -/
import Derived.Test.YtilhpkaklpdblaaGreatAMe
import Derived.Shelf.SlSortCmp.WholeK
import Derived.Shelf.SlSortCmp.NoneTotal
set_option linter.unusedSectionVars false
set_option linter.unusedVariables false
set_option linter.unusedSimpArgs false
section
namespace Go.AM
open Go.Sort Go.Proofs Go.Shelf
def Dk : (t : Ty) → t.den → List Value
 | .unit,_=>[]
 | .bool,b=>[.bool b]
 | .str,s=>[.string s]
 | .int k,n=>[.int k n]
 | .prod a b,x=>Dk a x.1++Dk b x.2
 |_,_=>[]
theorem zj {ι : aj} : ∀ {t : Ty} {ks : List Kd} (x : t.den), bG t = some ks → af ι t x (Dk t x)
 | .unit,_,_,_=>rfl
 | .bool,_,_,_=>rfl
 | .str,_,_,_=>rfl
 | .int _,_,_,_=>rfl
 | .list _,_,_,h=>by cases h
 | .cL _ _ _,_,_,h=>by cases h
 | .prod a b,_,x,h=>by
  simp only [bG] at h
  split at h<;>try (cases h;done)
  rename_i k1 k2 h1 h2
  exact ⟨_,_,rfl,zj x.1 h1,zj x.2 h2⟩
theorem zk {α : Type} [Inhabited α] (enc : α → List Value) (k : Nat) (hk : ∀ x, (enc x).length = k) (h0 : 0 < k) : ∀ zs : List α, (Go.Sort.flatK enc k zs.toArray).toList = zs.flatMap enc
 |[]=>by simp [Go.Sort.flatK]
 |z::r=>by
  have ih:=zk enc k hk h0 r
  have hlr:(r.flatMap enc).length=r.length * k:=by
   have:=congrArg List.length ih
   simpa using this.symm
  apply List.ext_getElem
  ·simp [hk,hlr,Nat.add_mul,Nat.add_comm]
  intro t h1 h2
  have ht:t<(r.length+1) * k:=by simpa using h1
  have e1:(Go.Sort.flatK enc k (z::r).toArray).toList[t]=(Go.Sort.flatK enc k (z::r).toArray)[t]! := by
   rw [getElem!_pos _ t (by simpa using ht)];simp
  rw [e1,get_flatK _ _ _ _ (by simpa using ht)]
  simp only [List.flatMap_cons]
  by_cases hlt:t<k
  ·rw [List.getElem_append_left (by rw [hk]; exact hlt), Nat.div_eq_of_lt hlt, Nat.mod_eq_of_lt hlt]
   simp [hk,hlt]
  ·obtain ⟨u, rfl⟩ : ∃ u, t = k + u := ⟨t - k, by omega⟩
   have hu:u<r.length * k:=by rw [Nat.add_mul,Nat.one_mul] at ht;omega
   rw [List.getElem_append_right (by rw [hk];omega)]
   have e2:(k+u) / k=u / k+1:=by rw [Nat.add_comm,Nat.add_div_right _ h0]
   have e3:(k+u) % k=u % k:=by rw [Nat.add_mod_left]
   rw [e2,e3]
   have e4:(r.flatMap enc)[u]'(by rw [hlr];exact hu)=(Go.Sort.flatK enc k r.toArray)[u]! := by
    rw [getElem!_pos _ u (by simpa using hu)]
    simp only [<-ih];simp
   have e5:(r.flatMap enc)[k+u - (enc z).length]'(by rw [hk,hlr];omega)=(r.flatMap enc)[u]'(by rw [hlr];exact hu):=by
    congr 1;rw [hk];omega
   rw [e5,e4,get_flatK _ _ _ _ (by simpa using hu)]
   have hd:u / k<r.length:=Nat.div_lt_of_lt_mul (by rw [Nat.mul_comm];exact hu)
   simp [hd]
section
variable {P:Program} {ρ:Ren} {t:Ty} {ks:List Kd}
theorem Uo (hk:bG t=some ks):SWO (fun a b:t.den=>gZ t a b):=⟨fun x=>Km hk,fun x y z=>kr hk,fun x y z h1 h2=>by
 cases h:gZ t x z with
 |false=>rfl
 |true =>
  cases hyx:gZ t y x with
  |true =>
   have:=kr hk hyx h
   rw [h2] at this;cases this
  |false =>
   have:=kq hk h1 hyx
   subst this
   rw [h2] at h;cases h⟩
theorem Uq (L : SlLaysF0.n6 P ρ) (cF : Enters P (ρ.f 6)) {g : Nat} (hk : bG t = some ks) (h0 : 0 < t.sz) (aE : ∀ w, (isAgg (ρ.t 24)).run P w = .ok true w) (zE : ∀ w, (Go.sizeOf (ρ.t 24)).run P w = .ok t.sz w)
  (cf:t.den->t.den->Int) (hcmp:∀a b,kC P g [.agg (cG t a),.agg (cG t b)] (.int .i64 (cf a b))) (hcf:∀a b,decide (cf a b<0)=gZ t a b) {xs:List t.den} {n:Nat} {y:List t.den×Unit} (h:wO t xs n=some y) :
  eW P (ρ.f 6) [.sl 0 t 0 n,.fn g [] []] ⟨1,[(0,.arr t xs false)]⟩ fun r H=>r = .any/\H=⟨1,[(0,.arr t y.1 false)]⟩:=by
 unfold wO at h
 split at h<;>try (cases h;done)
 rename_i hc
 cases h
 obtain ⟨hn,hb⟩:=hc
 have jP:n<4611686018427387904:=Nat.lt_trans hb (by decide)
 letI iT:Inhabited t.den:=⟨t.zero⟩
 let enc:t.den->List Value:=Dk t
 have hD:∀(ι:aj) x,af ι t x (enc x):=fun ι x=>zj x hk
 have hU:∀(ι:aj) x vs,af ι t x vs->vs=enc x:=fun ι x vs hv=>((jh (ι':=ι) hk (hD ι x)).1 x vs hv rfl)
 have hlen:∀x,(enc x).length=t.sz:=fun x=>(hD (fun _ _=>none) x).length
 have hone:∀x,∀v∈enc x,v.oneCell'=true:=fun x=>(hD (fun _ _=>none) x).one
 have hlt:ltOf cf=fun a b=>gZ t a b:=by funext a b;exact hcf a b
 have hSW:SWO (ltOf cf):=by rw [hlt];exact Uo hk
 let zs:=xs.take n
 have hzl:zs.length=n:=by simp only [zs,List.length_take];exact Nat.min_eq_left hn
 let ys:=zs.mergeSort fun x y => !(ltOf cf) y x
 have Zw:ys.length=n:=by simp only [ys];rw [(List.mergeSort_perm _ _).length_eq];exact hzl
 have hs:o8 t zs=ys:=by
  refine tr hk (List.mergeSort_perm _ _) ?_
  have:=List.pairwise_mergeSort (le:=fun x y:t.den => !(ltOf cf) y x) (fun a b c=>by
   simp only [Bool.not_eq_true']
   exact fun h1 h2=>hSW.ntrans _ _ _ h2 h1) (fun a b=>by
   simp only [Bool.or_eq_true,Bool.not_eq_true']
   cases hh:ltOf cf b a with
   |false=>exact .inl rfl
   |true =>
    refine .inr ?_
    rw [hlt] at hh ⊢
    cases h2:gZ t a b with
    |false=>exact h2
    |true=>exact (ef hk hh h2).elim) zs
  unfold EB
  refine this.imp fun {a b} h=>?_
  rw [hlt] at h
  simpa using h
 refine ⟨cF,fun Y ι μ w args hI hl=>callsIn_wide.2 ?_⟩
 obtain ⟨v0,a1,ea,r0,hl1⟩:=hl.bL
 obtain ⟨v1,a2,ea1,r1,Hv⟩:=hl1.bL
 have mz:=Hv.of_nil
 subst mz;subst ea1
 have hargs:args=#[v0,v1]:=by apply Array.ext';simpa using ea
 subst hargs
 cases r1 with
 |fn _ _ _ xs0 ys0 q1 q2 q3 q4 =>
 have e0:xs0=#[]:=by apply Array.eq_empty_of_size_eq_zero;simpa using q1.symm
 have e1:ys0=#[]:=by apply Array.eq_empty_of_size_eq_zero;simpa using q3.symm
 subst e0;subst e1
 have hb0:av 0 (aF.bl ⟨1,[(0,lJ.arr t xs false)]⟩)=some (.arr t xs false):=rfl
 rw [hs]
 cases r0 with
 |bO =>
  have hy0:ys=[]:=List.eq_nil_of_length_eq_zero Zw
  refine (AnyF.slices_SortFunc_none L _ _ _ w).mono ?_
  rintro e w' ⟨rfl,rfl⟩
  exact ⟨.tuple #[],ι,μ,.any,_,rfl,aj.le_refl _,Mu.le_refl _,hI,.any _,rfl,by rw [hy0];simp⟩
 |sl _ _ _ _ cap Lc iw hcap htot hlen' =>
 rcases hI.live 0 _ hb0 with ⟨rfl,hno⟩|⟨L',vs,hM,hR,hl'⟩
 ·rw [hno] at iw;cases iw
 have hLL:Lc=L':=by have:=iw.symm.trans hM.mu;cases this;rfl
 subst hLL
 have hfree:=hM.sk rfl
 have hvl:vs.length=xs.length * t.sz:=hR.length (fun _ _=>af.length)
 -- the cells, flat
 have fc:∀{l:List t.den} {us:List Value},bx (af ι t) l us->us=l.flatMap enc:=by
  intro l
  induction l with
  |nil=>intro us h;exact h
  |cons a r ih =>
   intro us h
   obtain ⟨p,q,rfl,h1,h2⟩:=h
   rw [hU ι a p h1,ih h2];rfl
 have Qq:∀l:List t.den,bx (af ι t) l (l.flatMap enc):=fun l=>by
  induction l with
  |nil=>rfl
  |cons a r ih=>exact ⟨enc a,_,rfl,hD ι a,ih⟩
 have hvs:=fc hR
 have hfl:∀l:List t.den,(l.flatMap enc).length=l.length * t.sz:=fun l=>(Qq l).length (fun _ _=>af.length)
 have hvz:vs=zs.flatMap enc++(xs.drop n).flatMap enc:=by
  rw [hvs,<-List.flatMap_append];simp only [zs];rw [List.take_append_drop]
 have hflz:=zk enc t.sz hlen h0 zs
 have hfly:=zk enc t.sz hlen h0 ys
 have hba:Lc.ba+0 * t.sz=Lc.ba:=by omega
 have hH:HoldsK enc t.sz w Lc.b Lc.ba zs.toArray:=fun j hj=>by
  have hj':j<(zs.flatMap enc).length:=by rw [<-hflz];simpa using hj
  have e:(Go.Sort.flatK enc t.sz zs.toArray)[j]! = (zs.flatMap enc)[j]:=by
   rw [getElem!_pos _ j hj];simp only [<-hflz];simp
  rw [e]
  refine ⟨hM.rangeAt j _ ?_,?_⟩
  ·rw [hvz,List.getElem?_append_left hj',List.getElem?_eq_getElem hj'];rfl
  ·have hf := hM.fits
   refine (hM.there (o:=Lc.ba) (k:=vs.length) (Nat.le_refl _) hf j ?_).2
   rw [hvz,List.length_append];omega
 obtain ⟨cc,ce,hrow,hcs,hcj⟩:=hM.row
 have hblk:Lc.b<w.heap.size:=(Array.getElem?_eq_some_iff.1 hrow).1
 have eg:∀args w,(callFunc g args).run P w = .ok (.enter g args) w:=(hcmp t.zero t.zero).1
 have Ig:CmpLays P g #[] enc t.sz cf Lc.b Lc.ba zs.toArray.size w:=fun m os dk hdk a b=>by
  have hW:dA ι (sortWorldK enc t.sz w Lc.b Lc.ba m dk os):=fun b' o x hx=>by
   have hne:b'≠Lc.b:=fun e=>by subst e;rw [hfree] at hx;cases hx
   have hcell:=hI.rd b' o x hx
   have hlt:=World.block_lt_of_cell? _ _ hcell
   unfold sortWorldK putRowK
   rw [cell?_grow _ _ _ (by simpa [Go.Sort.ahead] using hlt),cell?_putRow_other _ _ _ _ _ _ (.inl hne)]
   exact hcell
  have hag:∀x:t.den,Rel ι (fun _=>none) (.agg (cG t x)) (.agg (enc x).toArray):=fun x=>by
   have hr:aJ ι (fun _=>none) (cG t x) (enc x):=fD (hD ι x)
   exact .agg _ _ (by simpa using hr.1) (fun i v x hv hx=>hr.2 i v x hv (by simpa using hx)) (by simpa using hone x)
  have hrel:aJ ι (fun _=>none) [.agg (cG t a),.agg (cG t b)] (#[Value.agg (enc a).toArray,.agg (enc b).toArray]++#[]:Array Value).toList:=by
   simpa using aJ.cons (hag a) (aJ.cons (hag b) .nil)
  have:=callsIn_wide.1 ((hcmp a b).2 ι _ _ hI.dH hW hrel)
  refine this.mono ?_
  rintro e w' ⟨v,ι',rfl,_,_,_,Yc,hr⟩
  cases hr
  refine ⟨rfl,?_⟩
  refine ⟨w'.drawn - (sortWorldK enc t.sz w Lc.b Lc.ba m dk os).drawn,w'.heap.extract (sortWorldK enc t.sz w Lc.b Lc.ba m dk os).heap.size w'.heap.size,?_⟩
  generalize sortWorldK enc t.sz w Lc.b Lc.ba m dk os=w0 at Yc ⊢
  obtain ⟨heap,tape,drawn,os,output⟩:=w0
  obtain ⟨heap',tape',drawn',os',output'⟩:=w'
  obtain ⟨⟨h1,h2,h3,h4,h5⟩,h6⟩:=Yc
  simp only at h1 h2 h3 h4 h5 h6
  subst h1;subst h2;subst h3
  unfold grow World.drewN
  simp only
  congr 1
  ·apply Array.ext_getElem?
   intro k
   by_cases hk:k<heap.size
   ·rw [Array.getElem?_append_left hk,h5 k hk]
   ·rw [Array.getElem?_append_right (by omega), Array.getElem?_extract]
    by_cases hk2:k<heap'.size
    ·rw [if_pos (by omega)];congr 1;omega
    ·rw [Array.getElem?_eq_none (by omega)]
     split
     ·rw [Array.getElem?_eq_none (by omega)]
     ·rfl
  ·omega
 have hzs:zs.toArray.size=n:=by simpa using hzl
 have eF:=AnyQ.slices_SortFunc_total L t.sz aE zE enc hlen hone cf hSW g #[] Lc.b Lc.ba cap zs.toArray w eg Ig hH hblk (by rw [hzs];exact jP) (fun x y h1 h2=>by rw [hlt] at h1 h2;exact kq hk h1 h2)
 rw [hzs] at eF
 rw [hba]
 refine eF.mono ?_
 rintro e w' ⟨rfl,m,os,rfl⟩
 let w1:=putRow id w Lc.b Lc.ba (Go.Sort.flatK enc t.sz ys.toArray)
 have hfs:(Go.Sort.flatK enc t.sz ys.toArray).size=n * t.sz:=by simp [Zw]
 have FT:(ys.flatMap enc++vs.drop (n * t.sz)).length=vs.length:=by
  rw [List.length_append,hfl,Zw,List.length_drop,hvl]
  have:n * t.sz<=xs.length * t.sz:=Nat.mul_le_mul_right _ hn
  omega
 have aav:vs.drop (n * t.sz)=(xs.drop n).flatMap enc:=by
  rw [hvz,List.drop_left' (by rw [hfl,hzl])]
 have hok:dZ P Y.own ι μ 0 w1 (.arr t (ys++xs.drop n) false):=by
  refine .inr ⟨Lc,ys.flatMap enc++vs.drop (n * t.sz),⟨hM.mu,hM.old,⟨putCells id Lc.ba (Go.Sort.flatK enc t.sz ys.toArray) cc,ce,?_,?_,fun j v rE=>?_⟩,by rw [FT];exact hM.fits,fun v rE=>?_,(fun e=>by cases e),fun _=>hfree⟩,?_,?_⟩
  ·show (mapBlock w Lc.b (putCells id Lc.ba (Go.Sort.flatK enc t.sz ys.toArray))).heap[Lc.b]? = _
   unfold mapBlock
   simp only [Array.getElem?_modify,if_true,hrow,Option.map_some,onCells]
  ·simp [putCells,hcs]
  ·have hj : j < vs.length := by rw [← FT]; exact (List.getElem?_eq_some_iff.1 rE).1
   have hc:=hcj j _ (List.getElem?_eq_getElem hj)
   simp only [putCells,Array.getElem?_mapIdx,hc,Option.map_some]
   by_cases hjn:j<n * t.sz
   ·have hjy : j < (ys.flatMap enc).length := by rw [hfl, Zw]; exact hjn
    rw [if_pos (by rw [hfs];omega)]
    rw [List.getElem?_append_left hjy,List.getElem?_eq_getElem hjy] at rE
    cases rE
    rw [show Lc.ba+j - Lc.ba=j by omega,getElem!_pos _ j (by rw [hfs];exact hjn)]
    simp only [id,<-hfly];simp
   ·rw [if_neg (by rw [hfs]; omega)]
    have Yd:(ys.flatMap enc).length=n * t.sz:=by rw [hfl,Zw]
    rw [List.getElem?_append_right (by rw [Yd];omega),Yd,List.getElem?_drop,show n * t.sz+(j - n * t.sz)=j by omega,List.getElem?_eq_getElem hj] at rE
    exact rE
  ·rcases List.mem_append.1 rE with h' | h'
   ·obtain ⟨a, _, hv⟩ := List.mem_flatMap.1 h'
    exact hone a v hv
   ·exact hM.one v (List.mem_of_mem_drop h')
  ·rw [aav]
   exact (Qq ys).append (Qq _)
  ·simp [Zw]
   omega
 have Hu:Inv P Y ι μ ⟨1,[(0,.arr t (ys++xs.drop n) false)]⟩ w1 :=
  hI.turn hb0 hM.mu hfree (w':=w1) rfl rfl rfl rfl (Go.Sort.size_putRow _ _ _ _ _) (fun k hk=>by
   show (mapBlock w Lc.b _).heap[k]?=_
   unfold mapBlock
   simp [Array.getElem?_modify,Ne.symm hk]) (.no (fun ms c e=>by obtain ⟨_,_,h1,_⟩:=hM.row;rw [h1] at e;cases e)) hok
 have Yc:Dw w1 (grow (Go.Sort.ahead w1 m) os):=by
  refine ⟨⟨rfl,rfl,rfl,by simp [grow,Go.Sort.ahead],fun k hk=>?_⟩,by simp [grow,Go.Sort.ahead]⟩
  simp only [grow,Go.Sort.ahead]
  exact Array.getElem?_append_left hk
 have hrd:dA ι (grow (Go.Sort.ahead w1 m) os):=dA.kept Hu.rd Yc
 exact ⟨.tuple #[],ι,μ,.any,_,rfl,aj.le_refl _,Mu.le_refl _,Hu.called (aj.le_refl _) (fun _ _ _=>rfl) hrd Yc,.any _,rfl,rfl⟩
end
end Go.AM
end
section
namespace Go.AM
section
variable {P:Program} {N:Nat} {Y:Ctx} {ι ι':aj} {μ μ':Mu} {H H':aF} {w w':World} {out:Option Nat} {base:Nat}
def Ctx.k4 (Y:Ctx) (w:World) (ι:aj) (μ:Mu) (R:Nat->Prop):Ctx:=⟨w,ι,μ,Y.ro,fun b=>Y.own b/\¬R b,Y.hid⟩
def u5 (μ:Mu) (H:aF) (R:Nat->Prop):Prop:=∀id B L,av id H.bl=some B->μ id=some L->¬R L.b
theorem Inv.Qr (h:Inv P Y ι μ H w) {R:Nat->Prop} (hR:u5 μ H R):Inv P (Y.k4 w ι μ R) ι μ H w :=
 ⟨JD.refl _ _,aj.le_refl _,fun _ _ _ _=>rfl,h.rd,Mu.le_refl _,h.nx,fun id B hB=>(h.live id B hB).owns fun L hL ho=>.inr ⟨ho,hR id B L hB hL⟩,h.inj,h.lt,h.dH⟩
theorem Inv.Qs (h:Inv P Y ι μ H w) {R:Nat->Prop} (h2:Inv P (Y.k4 w ι μ R) ι' μ' H' w'):Inv P Y ι' μ' H' w':=by
 have hs:=h.below.size
 have hx2:∀k,k<Y.w0.heap.size->¬Y.x k->¬(Y.k4 w ι μ R).x k:=fun k hk hx hX=>by
  rcases hX.1 with h|h
  ·omega
  ·exact hx h
 have b2:=h2.below
 refine ⟨⟨b2.os.trans h.below.os,b2.tape.trans h.below.tape,b2.output.trans h.below.output,Nat.le_trans hs b2.size,fun k hk hx=>?_,Nat.le_trans h.below.dr b2.dr,fun k hk=>(h.below.maps k hk).trans (b2.maps k (Nat.lt_of_lt_of_le hk hs))⟩,
  aj.le_trans h.i0 h2.i0,fun b o hb hx=>?_,h2.rd,Mu.le_trans h.m0 h2.m0,h2.nx,fun id B hB=>(h2.live id B hB).owns fun L _ ho=>?_,h2.inj,h2.lt,h.gl⟩
 ·exact (b2.block k (Nat.lt_of_lt_of_le hk hs) (hx2 k hk hx)).trans (h.below.block k hk hx)
 ·exact (h2.iB b o (Nat.lt_of_lt_of_le hb hs) (hx2 b hb hx)).trans (h.iB b o hb hx)
 ·rcases ho with ho | ho
  ·exact .inl (Nat.le_trans hs ho)
  ·exact ho.1
theorem Ext.ae5 {Ya Yb : Ctx} {R : Nat → Prop} (hinv : ∀ {ι : aj} {μ : Mu} {H : aF} {w : World}, Inv P Ya ι μ H w → Inv P Yb ι μ H w) (hown : ∀ b, Ya.own b → Yb.own b) (hro : Yb.ro = Ya.ro) (hm0 : Yb.m0.le Ya.m0) (CM : Yb.hid = Ya.hid)
  (hr:∀r,R r->r<Ya.w0.heap.size/\¬Ya.own r) (hrb:∀r,R r->Yb.own r) {Y1:Ctx} (h:Ext P Ya Y1) :
  ∃Y2,Ext P Yb Y2/\(∀{ι:aj} {μ:Mu} {H:aF} {w:World},Inv P Y1 ι μ H w->Inv P Y2 ι μ H w)/\(∀b,Y1.own b->Y2.own b)/\Y2.ro=Y1.ro/\Y2.m0.le Y1.m0/\Y2.hid=Y1.hid/\(∀r,R r->r<Y1.w0.heap.size/\¬Y1.own r)/\∀r,R r->Y2.own r:=by
 induction h with
 |refl=>exact ⟨Yb,.refl Yb,hinv,hown,hro,hm0,CM,hr,hrb⟩
 |step h ro hI hr' own ih =>
  rename_i Y1 ι1 μ1 H1 w1 r'
  obtain ⟨Y2,e1,e2,e3,e4,e5,e6,e7,e8⟩:=ih
  have hne:∀r,R r->r≠r':=fun r hr e=>by subst e;exact (e7 r hr).2 own
  have hs:=hI.below.size
  refine ⟨Y2.wH w1 ι1 r',.step e1 (e4.trans ro) (e2 hI) hr' (e3 _ own),fun {ι μ H w} h=>?_,fun b hb=>?_,e4,e5,?_,fun r hr=>⟨?_,fun hX=>?_⟩,fun r hr=>.inr ⟨e8 r hr,hne r hr⟩⟩
  ·have hx : ∀ b, (Y1.wH w1 ι1 r').x b → (Y2.wH w1 ι1 r').x b := fun b hb => ⟨e3 _ hb.1, hb.2⟩
   exact ⟨⟨h.below.os,h.below.tape,h.below.output,h.below.size,fun k hk hx'=>h.below.block k hk (fun hh=>hx' (hx _ hh)),h.below.dr,h.below.maps⟩,h.i0,fun b o hb hx'=>h.iB b o hb (fun hh=>hx' (hx _ hh)),h.rd,Mu.le_trans e5 h.m0,h.nx,
    fun id B hB=>(h.live id B hB).owns fun L _ ho=>ho.imp (fun h=>h) (hx _),h.inj,h.lt,h.gl⟩
  ·exact hb.imp (fun h=>h) fun h=>⟨e3 _ h.1,h.2⟩
  ·show r' :: Y2.hid = r' :: Y1.hid
   rw [e6]
  ·exact Nat.lt_of_lt_of_le (e7 r hr).1 hs
  ·rcases hX with hX | hX
   ·have : w1.heap.size ≤ r := hX
    have:=(e7 r hr).1
    omega
   ·exact (e7 r hr).2 hX.1
def aaw (P:Program) (N:Nat) (Y:Ctx) (ι:aj) (μ:Mu) (w:World) (R:Nat->Prop) (Q:Ex->St->Prop):Exit->Act->World->Prop:=fun e a' w' =>
 ∃Y1,Ext P Y Y1/\∃ι1 μ1 S1 e',dU P N Y1 ι1 μ1 S1 a' w'/\ExR e' e/\Q e' S1/\ι.le ι1/\μ.le μ1/\u5 μ1 S1.H R/\(∀b,R b->Y1.own b/\w'.heap[b]?=w.heap[b]?/\∀o,ι1 b o=ι b o)/\w.heap.size<=w'.heap.size
theorem Iz {c:Code} {S:St} {Q:Ex->St->Prop} {b':Nat} (h:Oh P N out b' c S Q) (hb':S.H.next<=b') {a:Act} (ho:kO Y out) (hR:dU P N Y ι μ S a w) {R:Nat->Prop} (hno:u5 μ S.H R) (hown:∀b,R b->Y.own b/\b<w.heap.size) :
  c.wpIn Y.F 0 P (aaw P N Y ι μ w R Q) a w:=by
 have vT:=hR.inv.Qr hno
 have PE:kO (Y.k4 w ι μ R) out:=by
  cases out with
  |none=>exact ho
  |some o=>obtain ⟨Lo,h1,h2⟩:=ho;exact ⟨Lo,hR.inv.m0 _ _ h1,h2⟩
 have h1:=h (Y.k4 w ι μ R) ι μ a w PE (fun id hid=>hR.inv.nx id (Nat.le_trans hb' hid)) ⟨hR.env,hR.sz,vT,hR.ms⟩
 refine wpIn_mono h1 fun e a' w' hp=>?_
 obtain ⟨Y1,Ph,ι1,μ1,S1,e',qD,hx,hq⟩:=hp
 have qE:Inv P (Y.k4 w ι μ R) ι1 μ1 S1.H w':=Ph.inv qD.inv
 have oZ:∀r,R r->r<(Y.k4 w ι μ R).w0.heap.size/\¬(Y.k4 w ι μ R).own r:=fun r hr=>⟨(hown r hr).2,fun h=>by
  rcases h with h|h
  ·have h' : w.heap.size ≤ r := h
   have:=(hown r hr).2
   omega
  ·exact h.2 hr⟩
 obtain ⟨Y2,hY2,PF,-,-,-,CM,ae6,PG⟩:=Ph.ae5 (Yb:=Y) (R:=R) (fun h=>hR.inv.Qs h) (fun b hb=>by
  rcases hb with hb|hb
  ·exact .inl (Nat.le_trans hR.inv.below.size hb)
  ·exact hb.1) rfl hR.inv.m0 rfl oZ (fun r hr=>(hown r hr).1)
 refine ⟨Y2,hY2,ι1,μ1,S1,e',⟨qD.env,qD.sz,PF qD.inv,by rw [CM];exact qD.ms⟩,hx,hq,qE.i0,qE.m0,fun id B L hB hL Ol=>?_,fun b hb=>⟨PG b hb,?_,fun o=>?_⟩,qE.below.size⟩
 ·exact (ae6 _ Ol).2 ((qD.inv.live id B hB).loc hL).1
 ·exact qE.below.block b (hown b hb).2 (fun hX=>hX.2 hb)
 ·exact qE.iB b o (hown b hb).2 (fun hX=>hX.2 hb)
end
end Go.AM
end
section
namespace Go.AM
section
variable {P:Program} {N:Nat} {ops:Array Oper} {F:Fence} {Q:Exit->Act->World->Prop}
theorem Ur (b7 : fh ops = true) (J : Array Bool → Act → World → Prop)
  (hstep:∀listed a w i,J listed a w->listed.size=ops.size->(∀i,listed.getD i false=true->∀j∈(aU ops).getD i [],listed.getD j false=true)->i<ops.size->listed.getD i true=false->(∀j∈(aU ops).getD i [],listed.getD j false=true)->wpOpIn F 0 P ops Q i (J (listed.setIfInBounds i true)) a w)
  (hend:∀listed a w,J listed a w->listed.size=ops.size->(∀i,i<ops.size->listed.getD i false=true)->Q .normal a w):∀(n:Nat) (S:List Nat) (listed:Array Bool) (a:Act) (w:World),S.length=n->listed.size=ops.size ->
   (∀i,i<ops.size->listed.getD i true=false->i∈S)->(∀i,listed.getD i false=true->∀j∈(aU ops).getD i [],listed.getD j false=true)->J listed a w->wpAnyIn F 0 P .any ops Q n listed a w:=by
 have mz:∀listed:Array Bool,listed.size=ops.size->Region.ready .any ops listed=[]->∀i,i<ops.size->listed.getD i false=true:=by
  intro listed hsz hr i
  induction i using Nat.strongRecOn with
  |ind i ih =>
   intro hi
   rcases Bool.eq_false_or_eq_true (listed.getD i true) with h|h
   ·rw [nO (by omega) false true];exact h
   ·exfalso
    have:i∈Region.ready .any ops listed:=by
     refine mem_ready.2 ⟨h,ops[i],by simp [hi],fun e he hb=>?_⟩
     have hlt:e.on<i:=by
      unfold fh at b7
      have hmem:(ops[i],i)∈ops.toList.zipIdx:=by rw [List.mem_zipIdx_iff_getElem?];simp [hi]
      have:=List.all_eq_true.1 b7 _ hmem
      simp only at this
      have:=Array.all_eq_true_iff_forall_mem.1 this e he
      simpa [hb] using this
     exact ih _ hlt (by omega)
    rw [hr] at this;cases this
 have hrp:∀listed:Array Bool,(∀i,listed.getD i false=true->∀j∈(aU ops).getD i [],listed.getD j false=true)->∀i,i∈Region.ready .any ops listed->∀j∈(aU ops).getD i [],listed.getD j false=true:=by
  intro listed uN i hi j hj
  obtain ⟨_,o,ho,hall⟩:=mem_ready.1 hi
  obtain ⟨hjs,ht⟩:=kj.1 hj
  obtain ⟨o',ho',e,he,hb,h⟩:=oV ht
  rw [ho] at ho';cases ho'
  have hl:=hall e he hb
  rcases h with rfl|h
  ·exact hl
  ·exact uN _ hl j (kj.2 ⟨hjs,h⟩)
 intro n
 induction n with
 |zero =>
  intro S listed a w hS hsz Qt uN hJ
  have hS0:S=[]:=List.length_eq_zero_iff.1 hS
  subst hS0
  have hall:∀i,i<ops.size->listed.getD i false=true:=fun i hi=>by
   rcases Bool.eq_false_or_eq_true (listed.getD i true) with h|h
   ·rw [nO (by omega) false true];exact h
   ·exact absurd (Qt i hi h) (by simp)
  refine ⟨?_,hend _ _ _ hJ hsz hall⟩
  cases hr:Region.ready .any ops listed with
  |nil=>rfl
  |cons i r =>
   have hi:i∈Region.ready .any ops listed:=by rw [hr];exact List.mem_cons_self ..
   obtain ⟨h0,o,ho,_⟩:=mem_ready.1 hi
   exact absurd (Qt i (Array.getElem?_eq_some_iff.1 ho).1 h0) (by simp)
 |succ n ih =>
  intro S listed a w hS hsz Qt uN hJ
  refine ⟨fun h0=>hend _ _ _ hJ hsz (mz _ hsz h0),fun i hi=>?_⟩
  obtain ⟨h0,o,ho,_⟩:=mem_ready.1 hi
  have jr:=(Array.getElem?_eq_some_iff.1 ho).1
  have hp:=hrp listed uN i hi
  refine wpOpIn_mono (fun a' w' hJ'=>ih (S.erase i) _ a' w' ?_ (by simpa using hsz) (fun j hj hjl=>?_) (fun x hx j hj=>?_) hJ') (hstep _ _ _ _ hJ hsz uN jr h0 hp)
  ·rw [List.length_erase_of_mem (Qt i jr h0)];omega
  ·have hne : i ≠ j := fun e => by subst e; simp [hsz, jr] at hjl
   rw [getD_set_ne true hne] at hjl
   exact (List.mem_erase_of_ne (Ne.symm hne)).2 (Qt j hj hjl)
  ·refine getD_set_true ?_
   by_cases e:i=x
   ·subst e;exact hp j hj
   ·rw [getD_set_ne false e] at hx
    exact uN x hx j hj
def nY (l : Nat → Bool) (r : Env) : List (Nat × Nat × V) → Env
 |[]=>r
 |(k,t,v)::dH=>match l k with
  |true=>(t,v)::nY l r dH
  |false=>nY l r dH
theorem zm {l : Nat → Bool} {r : Env} {s : Nat} : ∀ {dH : List (Nat × Nat × V)}, s ∉ dH.map (·.2.1) → get s (nY l r dH) = get s r
 |[],_=>rfl
 |(k,t,v)::dH,h=>by
  simp only [List.map_cons,List.mem_cons,not_or] at h
  simp only [nY]
  split
  ·rw [cz,if_neg (fun e=>h.1 e.symm)];exact zm h.2
  ·exact zm h.2
theorem xg {l : Nat → Bool} {r : Env} {k s : Nat} {v : V} (hl : l k = true) : ∀ {dH : List (Nat × Nat × V)}, (dH.map (·.2.1)).Nodup → (k, s, v) ∈ dH → get s (nY l r dH) = v
 |(k',t,v')::dH,hn,h=>by
  simp only [List.map_cons,List.nodup_cons] at hn
  simp only [nY]
  rcases List.mem_cons.1 h with e|h
  ·cases e;rw [hl];simp [cz]
  ·have hne : t ≠ s := fun e => hn.1 (by rw [e]; exact List.mem_map.2 ⟨_, h, rfl⟩)
   split
   ·rw [cz,if_neg hne];exact xg hl hn.2 h
   ·exact xg hl hn.2 h
theorem FV {l l':Nat->Bool} {r:Env} {k s:Nat} {v:V} (hl:∀j,j≠k->l' j=l j) (hk:l' k=true) {dH:List (Nat×Nat×V)} (hn:(dH.map (·.2.1)).Nodup) (hnk:(dH.map (·.1)).Nodup) (h:(k,s,v)∈dH) (t:Nat) :
  get t ((s,v)::nY l r dH)=get t (nY l' r dH):=by
 rw [cz]
 split
 ·rename_i e;subst e;exact (xg hk hn h).symm
 ·rename_i hne
  induction dH with
  |nil=>rfl
  |cons q dH ih =>
   obtain ⟨k2,t2,v2⟩:=q
   simp only [List.map_cons,List.nodup_cons] at hn hnk
   simp only [nY]
   rcases List.mem_cons.1 h with e|h
   ·cases e
    rw [hk]
    have hsame:nY l r dH=nY l' r dH:=by
     have:∀dH:List (Nat×Nat×V),k∉dH.map (·.1)->nY l r dH=nY l' r dH:=by
      intro dH
      induction dH with
      |nil=>intro _;rfl
      |cons q dH ih =>
       intro hq
       obtain ⟨k3,t3,v3⟩:=q
       simp only [List.map_cons,List.mem_cons,not_or] at hq
       simp only [nY,hl k3 (fun e=>hq.1 e.symm),ih hq.2]
     exact this dH hnk.1
    rw [hsame]
    simp only [cz,if_neg hne]
    split<;>simp only [cz,if_neg hne]
   ·have hk2 : k2 ≠ k := fun e => hnk.1 (by rw [e]; exact List.mem_map.2 ⟨_, h, rfl⟩)
    rw [hl k2 hk2]
    have:=ih hn.2 hnk.2 h
    split<;>simp only [cz,this]
theorem fu.same {ι:aj} {μ:Mu} {env env':Env} {t:Array Value} (h:fu ι μ env t) (he:∀s,get s env'=get s env):fu ι μ env' t:=fun s=>by rw [he];exact h s
end
section
variable {P:Program} {N:Nat} {Y:Ctx} {ι ι':aj} {μ μ':Mu} {H H':aF} {w w':World}
theorem Inv.show (h : Inv P Y ι μ H w) {aD : Nat} (hn : μ aD = none) {b : lJ} {L : Loc} (hno : ∀ id B L', av id H.bl = some B → μ id = some L' → L'.b ≠ L.b)
  (hb:dZ P Y.own ι (μ.set aD L) aD w b):Inv P Y ι (μ.set aD L) ⟨max H.next (aD+1),(aD,b)::bC aD H.bl⟩ w:=by
 have hle:=Mu.gd (L:=L) hn
 refine ⟨h.below,h.i0,h.iB,h.rd,Mu.le_trans h.m0 hle,fun id hid=>?_,fun id B hB=>?_,?_,?_,h.gl⟩
 ·simp only at hid
  unfold Mu.set;rw [if_neg (by omega)];exact h.nx id (by omega)
 ·rw [aG] at hB
  split at hB
  ·rename_i e;subst e;cases hB;exact hb
  ·rename_i e
   exact (h.live id B hB).mono (aj.le_refl _) hle (fun hm=>by unfold Mu.set;rw [if_neg e];exact hm) (fun _ _=>rfl) (fun _ _ h=>h)
 ·intro id id' B B' L1 L2 h1 h2 iu hm2 e
  rw [aG] at h1 h2
  unfold Mu.set at iu hm2
  by_cases e1:id=aD<;>by_cases e2:id'=aD
  ·rw [e1,e2]
  ·rw [if_pos e1] at iu; rw [if_neg e2] at hm2 h2
   cases iu
   exact absurd e.symm (hno _ _ _ h2 hm2)
  ·rw [if_pos e2] at hm2; rw [if_neg e1] at iu h1
   cases hm2
   exact absurd e (hno _ _ _ h1 iu)
  ·rw [if_neg e1] at iu h1; rw [if_neg e2] at hm2 h2
   exact h.inj id id' B B' L1 L2 h1 h2 iu hm2 e
 ·intro id B hB
  rw [aG] at hB
  split at hB
  ·rename_i e;subst e;simp only;omega
  ·have:=h.lt id B hB;simp only;omega
end
end Go.AM
end
section
namespace Go.AM
def gQ : Value → Option Nat
 | .slice (some ⟨b,_,_⟩) _ _=>some b
 |_=>none
def jM (w:World) (v:Value) (xs:List ByteArray):Prop:=∃b o cap c e,v = .slice (some ⟨b,o,none⟩) xs.length cap/\xs≠[]/\xs.length<=cap/\w.heap[b]?=some (.cells c e (0,0))/\o+cap<=c.size /\
 ∀(j:Nat) s,xs[j]?=some s->c[o+j]?=some (.string s)
def fK (w : World) : List (ByteArray × List ByteArray) → List MapEntry → Prop
 |[],ms=>ms=[]
 |e::es,ms=>∃m r,ms=m::r/\m.key = .string e.1/\jM w m.val e.2/\fK w es r
def RS (L:Loc) (ms:List MapEntry) (b:Nat):Prop:=b=L.b\/∃m∈ms,gQ m.val=some b
structure Gh (gi:Nat) (Y:Ctx) (ι:aj) (μ:Mu) (H:aF) (w:World) (es:List (ByteArray×List ByteArray)) (L:Loc) (ms:Array MapEntry) (clock:Nat) (dJ:List (ByteArray×List ByteArray)):Prop where
 mu:μ gi=some L
 hb:w.heap[L.b]?=some (.map ms clock)
 mX:fK w dJ ms.toList
 Qu:∀m∈ms.toList,m.born<clock
 S2:(ms.toList.map (·.born)).Nodup
 perm:dJ.Perm es
 kd:KD .str dJ
 own:∀b,RS L ms.toList b->Y.own b/\∀o,ι b o=none
 apart:∀(i j:Nat) m m',ms.toList[i]?=some m->ms.toList[j]?=some m'->gQ m.val=gQ m'.val->i=j
 k5:u5 μ H (RS L ms.toList)
def GG (gi:Nat) (Y:Ctx) (ι:aj) (μ:Mu) (H:aF) (w:World) (es:List (ByteArray×List ByteArray)):Prop:=∃L ms clock dJ,Gh gi Y ι μ H w es L ms clock dJ
theorem jM.blk {w:World} {v:Value} {xs:List ByteArray} (h:jM w v xs):∃b,gQ v=some b/\b<w.heap.size:=by
 obtain ⟨b,o,cap,c,e,rfl,_,_,h1,_⟩:=h
 exact ⟨b,rfl,(Array.getElem?_eq_some_iff.1 h1).1⟩
theorem jM.same {w w':World} {v:Value} {xs:List ByteArray} (h:jM w v xs) (hs:∀b,gQ v=some b->w'.heap[b]?=w.heap[b]?):jM w' v xs:=by
 obtain ⟨b,o,cap,c,e,rfl,h0,h1,h2,h3⟩:=h
 exact ⟨b,o,cap,c,e,rfl,h0,h1,by rw [hs b rfl];exact h2,h3⟩
theorem fK.blk {w : World} : ∀ {es : List (ByteArray × List ByteArray)} {ms : List MapEntry}, fK w es ms → ∀ m ∈ ms, ∃ b, gQ m.val = some b ∧ b < w.heap.size
 |[],ms,h,m,hm=>by simp [fK] at h;subst h;cases hm
 |e::es,ms,⟨m0,r,h0,_,h1,h2⟩,m,hm=>by
  subst h0
  rcases List.mem_cons.1 hm with rfl|hm
  ·exact h1.blk
  ·exact h2.blk m hm
theorem fK.same {w w' : World} : ∀ {es : List (ByteArray × List ByteArray)} {ms : List MapEntry}, fK w es ms → (∀ m ∈ ms, ∀ b, gQ m.val = some b → w'.heap[b]? = w.heap[b]?) → fK w' es ms
 |[],ms,h,_=>h
 |e::es,ms,⟨m0,r,h0,h1,h2,h3⟩,hs=>by
  subst h0
  exact ⟨m0,r,rfl,h1,h2.same (hs m0 (List.mem_cons_self ..)),h3.same fun m hm=>hs m (List.mem_cons_of_mem _ hm)⟩
section
variable {P:Program} {N:Nat} {Y:Ctx} {ι ι':aj} {μ μ':Mu} {H H':aF} {w w':World} {out:Option Nat} {base gi:Nat} {es:List (ByteArray×List ByteArray)} {L:Loc} {ms:Array MapEntry} {clock:Nat} {dJ:List (ByteArray×List ByteArray)}
theorem Gh.low (h:Gh gi Y ι μ H w es L ms clock dJ):∀b,RS L ms.toList b->Y.own b/\b<w.heap.size:=fun b hb=>⟨(h.own b hb).1,by
 rcases hb with rfl|⟨m,hm,hb⟩
 ·exact (Array.getElem?_eq_some_iff.1 h.hb).1
 ·obtain ⟨b', h1, h2⟩ := h.mX.blk m hm
  rw [hb] at h1;cases h1;exact h2⟩
theorem Gh.keep (h:Gh gi Y ι μ H w es L ms clock dJ) {Y1:Ctx} (hm:μ' gi=μ gi) (hb:∀b,RS L ms.toList b->Y1.own b/\w'.heap[b]?=w.heap[b]?/\∀o,ι' b o=ι b o) (hn:u5 μ' H' (RS L ms.toList)):Gh gi Y1 ι' μ' H' w' es L ms clock dJ where
 mu:=hm.trans h.mu
 hb:=by rw [(hb _ (.inl rfl)).2.1];exact h.hb
 mX:=h.mX.same fun m hm b hb'=>(hb b (.inr ⟨m,hm,hb'⟩)).2.1
 Qu:=h.Qu
 S2:=h.S2
 perm:=h.perm
 kd:=h.kd
 own:=fun b hb'=>⟨(hb b hb').1,fun o=>by rw [(hb b hb').2.2];exact (h.own b hb').2 o⟩
 apart:=h.apart
 k5:=hn
def lY (P:Program) (N gi:Nat) (Y:Ctx) (Q:Ex->St->List (ByteArray×List ByteArray)->Prop):Exit->Act->World->Prop:=fun e a w =>
 ∃Y1,Ext P Y Y1/\∃ι μ S e' es,dU P N Y1 ι μ S a w/\ExR e' e/\Q e' S es/\GG gi Y1 ι μ S.H w es
def gawp (P:Program) (N:Nat) (out:Option Nat) (gi:Nat) (code:Code) (S:St) (es:List (ByteArray×List ByteArray)) (Q:Ex->St->List (ByteArray×List ByteArray)->Prop):Prop :=
 ∀Y ι μ a w,kO Y out->dU P N Y ι μ S a w->GG gi Y ι μ S.H w es->code.wpIn Y.F 0 P (lY P N gi Y Q) a w
def gC (P:Program) (N:Nat) (out:Option Nat) (gi:Nat) (c:C) (S:St) (es:List (ByteArray×List ByteArray)) (Q:Ex->St->List (ByteArray×List ByteArray)->Prop):Prop:=∀code,fU P N code=some c->gawp P N out gi code S es Q
theorem lY.ext {Y Y1:Ctx} (hY:Ext P Y Y1) {Q:Ex->St->List (ByteArray×List ByteArray)->Prop} {e:Exit} {a:Act} (h:lY P N gi Y1 Q e a w):lY P N gi Y Q e a w :=
 let ⟨Y2,h2,h⟩:=h;⟨Y2,hY.trans h2,h⟩
theorem Dl {c:Code} {S:St} {Q:Ex->St->List (ByteArray×List ByteArray)->Prop} (h:gawp P N out gi c S es Q) {Y Y1:Ctx} (hY:Ext P Y Y1) (ho:kO Y out) {a:Act} (hR:dU P N Y1 ι μ S a w) (hG:GG gi Y1 ι μ S.H w es):c.wpIn Y.F 0 P (lY P N gi Y Q) a w:=by
 have:=h Y1 ι μ a w (hY.ZF ho) hR hG
 rw [hY.F] at this
 exact wpIn_mono this fun e a w hp=>hp.ext hY
theorem Qv {c:C} {S:St} {Q Q':Ex->St->List (ByteArray×List ByteArray)->Prop} (h:gC P N out gi c S es Q) (hq:∀e S es,Q e S es->Q' e S es):gC P N out gi c S es Q':=fun code hc Y ι μ a w ho hR hG =>
 wpIn_mono (h code hc Y ι μ a w ho hR hG) fun e a w ⟨Y1,h1,ι,μ,S,e',es,h2,h3,h4,h5⟩=>⟨Y1,h1,ι,μ,S,e',es,h2,h3,hq _ _ _ h4,h5⟩
theorem aax (mixed:P.follows .mixedOrders=true) {c:C} {S:St} {Q:Ex->St->Prop} (h:sj (eL P N out S.H.next) c S Q):gC P N out gi c S es fun e S' es'=>es'=es/\Q e S':=by
 intro code hc Y ι μ a w ho hR ⟨L,ms,clock,dJ,hG⟩
 have hw:=fR (ig mixed) code hc h
 refine wpIn_mono (Iz hw (Nat.le_refl _) ho hR hG.k5 hG.low) fun e a' w' hp=>?_
 obtain ⟨Y1,hY,ι1,μ1,S1,e',qD,hx,hq,hi,hm,hno,hB,_⟩:=hp
 exact ⟨Y1,hY,ι1,μ1,S1,e',es,qD,hx,⟨rfl,hq⟩,L,ms,clock,dJ,hG.keep ((hm _ _ hG.mu).trans hG.mu.symm) hB hno⟩
theorem lY.noGoto {Q:Ex->St->List (ByteArray×List ByteArray)->Prop} {l:Nat} {a:Act}:¬lY P N gi Y Q (.goto l) a w:=fun ⟨_,_,_,_,_,e',_,_,h,_⟩=>by cases e'<;>cases h
theorem Ko {ca cb : C} (hca : ∀ ps is, ca ≠ .draw ps is) {S : St} {Q Q1 : Ex → St → List (ByteArray × List ByteArray) → Prop} (ha : gC P N out gi ca S es Q1) (hb : ∀ S' es', Q1 .normal S' es' → gC P N out gi cb S' es' Q)
  (hx:∀i S' es',Q1 (.exit i) S' es'->Q (.exit i) S' es') (hr:∀S' es',Q1 .ret S' es'->Q .ret S' es'):gC P N out gi (.seq ca cb) S es Q:=by
 intro code
 induction code with
 |skip=>intro h;cases h
 |label l=>intro h;cases h
 |ret=>intro h;cases h
 |exit id=>intro h;cases h
 |goto l=>intro h;cases h
 |refuse why=>intro h;cases h
 |scope b ih=>intro h Y ι μ a w ho hR hG;exact kP (ih h Y ι μ a w ho hR hG) fun l a w=>lY.noGoto
 |region id ops draw =>
  intro h
  simp only [fU] at h
  split at h<;>try (cases h;done)
  cases draw with
  |true =>
   simp only at h
   split at h<;>try (cases h;done)
   split at h
   ·cases h;exact absurd rfl (hca _ _)
   ·split at h
    ·cases h;exact absurd rfl (hca _ _)
    ·cases h
  |false=>cases h
 |seq x y _ _ =>
  intro h Y ι μ a w ho hR hG
  simp only [fU] at h
  split at h<;>try (cases h;done)
  rename_i cx cy hx' hy
  split at h
  ·cases h
   refine wpIn_seq (wpIn_mono (ha x hx' Y ι μ a w ho hR hG) fun e a' w' hp=>?_)
   obtain ⟨Y1,hY,ι',μ',S',e',es',h1,h2,h3,h4⟩:=hp
   cases e' with
   |normal=>cases h2;exact Dl (hb _ _ h3 y hy) hY ho h1 h4
   |exit id=>cases h2;exact ⟨Y1,hY,ι',μ',S',.exit id,es',h1,rfl,hx _ _ _ h3,h4⟩
   |ret=>cases h2;exact ⟨Y1,hY,ι',μ',S',.ret,es',h1,rfl,hr _ _ h3,h4⟩
  ·split at h<;>cases h
 |cond c0 x y _ _ =>
  intro h
  simp only [fU] at h
  split at h<;>cases h
 |block id b _ =>
  intro h
  simp only [fU] at h
  cases hx:fU P N b<;>simp [hx] at h
 |loop b _ =>
  intro h
  simp only [fU] at h
  cases hx:fU P N b<;>simp [hx] at h
 |rangeFunc f ps x y _ _ =>
  intro h
  simp only [fU] at h
  split at h<;>cases h
theorem rS {n:Nat} {cx cy:C} {S:St} {Q:Ex->St->List (ByteArray×List ByteArray)->Prop} {t:Bool} (ht:get n S.env = .bool t) (h:gC P N out gi (if t then cx else cy) ⟨(n,.tf t)::S.env,S.H,S.ms⟩ es Q):gC P N out gi (.cond (.t n) cx cy) S es Q:=by
 intro code
 induction code with
 |skip=>intro h;cases h
 |label l=>intro h;cases h
 |ret=>intro h;cases h
 |exit id=>intro h;cases h
 |goto l=>intro h;cases h
 |refuse why=>intro h;cases h
 |scope b ih=>intro h Y ι μ a w ho hR hG;exact kP (ih h Y ι μ a w ho hR hG) fun l a w=>lY.noGoto
 |region id ops draw =>
  intro h
  simp only [fU] at h
  split at h<;>try (cases h;done)
  cases draw with
  |true =>
   simp only at h
   split at h<;>try (cases h;done)
   split at h<;>try (cases h;done)
   split at h<;>cases h
  |false=>cases h
 |seq x y _ _ =>
  intro h
  simp only [fU] at h
  split at h<;>try (cases h;done)
  split at h<;>try (cases h;done)
  split at h<;>cases h
 |cond c0 x y _ _ =>
  intro h' Y ι μ a w ho hR hG
  simp only [fU] at h'
  split at h'<;>try (cases h';done)
  rename_i co c1 c2 hc hx hy
  cases h'
  have rc:=aC hR.env hc
  generalize hg:a.eval c0=cv at rc
  have hce:(O.t n).ev S.env = .bool t:=ht
  rw [hce] at rc;cases rc
  have hrw:dU P N Y ι μ ⟨(n,.tf t)::S.env,S.H,S.ms⟩ a w:=by
   refine ⟨fun i=>?_,hR.sz,hR.inv,hR.ms⟩
   simp only [cz]
   by_cases hi:n=i
   ·subst hi; rw [if_pos rfl]
    have:=hR.env n
    rw [ht] at this
    generalize a.tmps.getD n undef=x at this
    cases this;exact .tf _
   ·rw [if_neg hi];exact hR.env i
  cases t with
  |true=>exact wpIn_cond hg (h x hx Y ι μ a w ho hrw hG)
  |false=>exact wpIn_cond hg (h y hy Y ι μ a w ho hrw hG)
 |block id b _ =>
  intro h
  simp only [fU] at h
  cases hx:fU P N b<;>simp [hx] at h
 |loop b _ =>
  intro h
  simp only [fU] at h
  cases hx:fU P N b<;>simp [hx] at h
 |rangeFunc f ps x y _ _ =>
  intro h
  simp only [fU] at h
  split at h<;>cases h
theorem xk {n : Nat} {c : C} {S : St} {Q Q1 : Ex → St → List (ByteArray × List ByteArray) → Prop} (h : gC P N out gi c S es Q1) (hn : ∀ S' es', Q1 .normal S' es' → Q .normal S' es') (hx : ∀ i S' es', Q1 (.exit i) S' es' → if i = n then Q .normal S' es' else Q (.exit i) S' es')
  (hr:∀S' es',Q1 .ret S' es'->Q .ret S' es'):gC P N out gi (.block n c) S es Q:=by
 intro code
 induction code with
 |skip=>intro h;cases h
 |label l=>intro h;cases h
 |ret=>intro h;cases h
 |exit id=>intro h;cases h
 |goto l=>intro h;cases h
 |refuse why=>intro h;cases h
 |scope b ih=>intro h Y ι μ a w ho hR hG;exact kP (ih h Y ι μ a w ho hR hG) fun l a w=>lY.noGoto
 |region id ops draw =>
  intro h
  simp only [fU] at h
  split at h<;>try (cases h;done)
  cases draw with
  |true =>
   simp only at h
   split at h<;>try (cases h;done)
   split at h<;>try (cases h;done)
   split at h<;>cases h
  |false=>cases h
 |seq x y _ _ =>
  intro h
  simp only [fU] at h
  split at h<;>try (cases h;done)
  split at h<;>try (cases h;done)
  split at h<;>cases h
 |cond c0 x y _ _ =>
  intro h
  simp only [fU] at h
  split at h<;>cases h
 |block id b _ =>
  intro h' Y ι μ a w ho hR hG
  simp only [fU] at h'
  cases hx':fU P N b<;>simp [hx'] at h'
  obtain ⟨rfl,rfl⟩:=h'
  refine wpIn_block (wpIn_mono (h b hx' Y ι μ a w ho hR hG) fun e a' w' hp=>?_)
  obtain ⟨Y1,hY,ι',μ',S',e',es',h1,h2,h3,h4⟩:=hp
  cases e' with
  |normal=>cases h2;exact ⟨Y1,hY,ι',μ',S',.normal,es',h1,rfl,hn _ _ h3,h4⟩
  |exit i =>
   cases h2
   have:=hx _ _ _ h3
   simp only [Exit.inBlock]
   split at this
   ·rename_i e;rw [if_pos e];exact ⟨Y1,hY,ι',μ',S',.normal,es',h1,rfl,this,h4⟩
   ·rename_i e;rw [if_neg e];exact ⟨Y1,hY,ι',μ',S',.exit i,es',h1,rfl,this,h4⟩
  |ret=>cases h2;exact ⟨Y1,hY,ι',μ',S',.ret,es',h1,rfl,hr _ _ h3,h4⟩
 |loop b _ =>
  intro h
  simp only [fU] at h
  cases hx:fU P N b<;>simp [hx] at h
 |rangeFunc f ps x y _ _ =>
  intro h
  simp only [fU] at h
  split at h<;>cases h
end
end Go.AM
end
section
namespace Go.AM
section
variable {P:Program} {N:Nat} {Y:Ctx} {ι ι':aj} {μ μ':Mu} {H H':aF} {w w':World} {out:Option Nat} {base gi:Nat} {es:List (ByteArray×List ByteArray)} {L:Loc} {ms:Array MapEntry} {clock:Nat} {dJ:List (ByteArray×List ByteArray)}
theorem fK.get : ∀ {es : List (ByteArray × List ByteArray)} {ms : List MapEntry}, fK w es ms → ∀ (j : Nat) e, es[j]? = some e → ∃ m, ms[j]? = some m ∧ m.key = .string e.1 ∧ jM w m.val e.2
 |[],_,_,j,e,h=>by simp at h
 |e0::es,_,⟨m,r,rfl,h1,h2,h3⟩,j,e,h=>by
  cases j with
  |zero=>simp at h;subst h;exact ⟨m,rfl,h1,h2⟩
  |succ j=>simpa using fK.get h3 j e (by simpa using h)
theorem fK.snoc {e : ByteArray × List ByteArray} {m : MapEntry} (hk : m.key = .string e.1) (hv : jM w m.val e.2) : ∀ {es : List (ByteArray × List ByteArray)} {ms : List MapEntry}, fK w es ms → fK w (es ++ [e]) (ms ++ [m])
 |[],_,h=>by simp [fK] at h;subst h;exact ⟨m,[],rfl,hk,hv,rfl⟩
 |e0::es,_,⟨m0,r,rfl,h1,h2,h3⟩=>⟨m0,r++[m],rfl,h1,h2,fK.snoc hk hv h3⟩
def aj.now (w:World):aj:=fun b o=>w.cell? ⟨b,o,none⟩
theorem tu {ι : aj} : ∀ {xs : List ByteArray} {vs : List Value}, vs = xs.map Value.string → bx (af ι .str) xs vs
 |[],_,h=>by subst h;exact rfl
 |x::xs,_,h=>by subst h;exact ⟨[.string x],xs.map Value.string,rfl,rfl,tu rfl⟩
theorem vY {ι : aj} : ∀ {xs : List ByteArray} {vs : List Value}, bx (af ι .str) xs vs → vs = xs.map Value.string
 |[],_,h=>h
 |x::xs,_,⟨us,ws,h1,h2,h3⟩=>by
  have h2:us=[.string x]:=h2
  rw [h1,h2,vY h3];rfl
theorem jM.val {v:Value} {xs:List ByteArray} (h:jM w v xs):gp (aj.now w) false (.list .str) xs v:=by
 obtain ⟨b,o,cap,c,e,rfl,h0,h1,h2,h3,h4⟩:=h
 refine ⟨[_],⟨_,cap,rfl,h1,.inr ⟨b,o,xs.map Value.string,rfl,fun j u hu=>?_,tu rfl⟩⟩,rfl⟩
 rw [List.getElem?_map] at hu
 cases hx:xs[j]? with
 |none=>rw [hx] at hu;cases hu
 |some s =>
  rw [hx] at hu;cases hu
  have:=h4 j s hx
  simp [aj.now,World.cell?,h2,this]
theorem fK.mX : ∀ {es : List (ByteArray × List ByteArray)} {ms : List MapEntry}, fK w es ms → fC (aj.now w) .str false (.list .str) false es ms
 |[],_,h=>h
 |e0::es,_,⟨m,r,h0,h1,h2,h3⟩=>⟨m,r,h0,by rw [h1];exact ⟨[.string e0.1],rfl,rfl⟩,h2.val,fK.mX h3⟩
theorem MU {e:TypeId} (h:A2 P e=some (.list .str,false)):∀w:World,(zeroValue e).run P w = .ok (.slice none 0 0) w:=by
 unfold A2 at h
 split at h<;>try (cases h;done)
 rename_i ty g i _ _ hi
 split at h<;>try (cases h;done)
 rename_i z hz
 have hrun:∀w:World,(zeroValue e).run P w = .ok z w:=fun w=>by simp [zeroValue,typeInfo,hi,hz]
 split at h<;>try (cases h;done)
 rename_i h0
 split at h<;>try (cases h;done)
 rename_i hg
 cases h
 suffices z = .slice none 0 0 by rw [<-this];exact hrun
 have hl:∃v,z.cells.toList=[v]/\vE (.list .str) v=true:=by
  cases hc:z.cells.toList with
  |nil=>rw [hc] at h0;simp [eN] at h0
  |cons v r =>
   rw [hc] at h0
   simp only [eN] at h0
   split at h0
   ·rename_i h1;cases h0;exact ⟨v,rfl,h1⟩
   ·cases h0
 obtain ⟨v,h1,h2⟩:=hl
 have hv:v = .slice none 0 0:=by
  unfold vE at h2
  split at h2<;>simp_all
 subst hv
 cases z<;>simp [HP,Value.cells] at hg h1 ⊢
 all_goals simp_all
theorem aay (he:fK w dJ ms.toList) (hkd:KD .str dJ) (k:ByteArray) :
  (aR .str dJ k=false/\∀t,kG P t=some (.str,false,.list .str,false)->(∀w b,w.heap[b]?=some (.map ms clock)->(Instr.lookup t (.map (some b)) (.string k) false).run P w = .ok (.slice none 0 0) w) /\
   (∀w b z,w.heap[b]?=some (.map ms clock)->(Instr.mapUpdate t (.map (some b)) (.string k) z).run P w = .ok () (w.putObj b (.map (ms.push { key:=.string k,val:=z,born:=clock }) (clock+1))))) \/
  (aR .str dJ k=true/\∃(j:Nat) (m:MapEntry) (e:ByteArray×List ByteArray),ms.toList[j]?=some m/\dJ[j]?=some e/\eB .str k e.1=true/\m.key = .string k/\jM w m.val e.2/\ay .str [] dJ k=e.2 /\
   ∀t,kG P t=some (.str,false,.list .str,false)->(∀w b,w.heap[b]?=some (.map ms clock)->(Instr.lookup t (.map (some b)) (.string k) false).run P w = .ok m.val w) /\
   (∀w b z,w.heap[b]?=some (.map ms clock)->(Instr.mapUpdate t (.map (some b)) (.string k) z).run P w = .ok () (w.putObj b (.map (ms.modify j fun e=>{ e with key:=.string k,val:=z }) clock)))):=by
 rcases Bool.eq_false_or_eq_true (aR .str dJ k) with r1|r1
 ·have r1' := r1
  unfold aR at r1
  obtain ⟨e0,hm,r7⟩:=List.any_eq_true.1 r1
  obtain ⟨j,r6⟩:=List.mem_iff_getElem?.1 hm
  obtain ⟨m,r3,q2,q3⟩:=he.get j e0 r6
  have nG:ay .str [] dJ k=e0.2:=nI hkd (List.mem_of_getElem? r6) r7
  have r4:m.key = .string k:=by rw [q2];exact congrArg Value.string (bS (t:=.str) r7).symm
  have Ye:∀(j':Nat) (m':MapEntry),ms.toList[j']?=some m'->(∃e,dJ[j']?=some e/\eB .str k e.1=true)->j'=j/\m'=m:=by
   rintro j' m' h1 ⟨e1,h2,h3⟩
   have:j'=j:=by
    rcases Nat.lt_trichotomy j' j with hlt|heq|hlt
    ·exfalso
     have:=List.pairwise_iff_getElem.1 hkd j' j (List.getElem?_eq_some_iff.1 h2).1 (List.getElem?_eq_some_iff.1 r6).1 hlt
     rw [(List.getElem?_eq_some_iff.1 h2).2,(List.getElem?_eq_some_iff.1 r6).2,<-bS h3,r7] at this
     cases this
    ·exact heq
    ·exfalso
     have:=List.pairwise_iff_getElem.1 hkd j j' (List.getElem?_eq_some_iff.1 r6).1 (List.getElem?_eq_some_iff.1 h2).1 hlt
     rw [(List.getElem?_eq_some_iff.1 h2).2,(List.getElem?_eq_some_iff.1 r6).2,<-bS r7,h3] at this
     cases this
   subst this
   rw [r3] at h1;cases h1;exact ⟨rfl,rfl⟩
  refine .inr ⟨r1',j,m,e0,r3,r6,r7,r4,q3,nG,fun t ht=>?_⟩
  obtain ⟨kk,e,hu,hk,hv⟩:=kN ht
  have mj:∀w',uF P kk .str false (aj.now w) w' k (.string k):=fun w'=>qc hk ⟨[.string k],rfl,rfl⟩
  refine ⟨fun w' b hb=>?_,fun w' b z hb=>?_⟩
  ·rcases Be (mj w') (vt := .list .str) (vg := false) ([] : List ByteArray) he.mX with ⟨u1, _⟩ | ⟨_, j', m', u2, u3, _, _, u6⟩
   ·rw [r1'] at u1;cases u1
   ·obtain ⟨rfl, rfl⟩ := Ye _ _ u3 u6
    simp [Instr.lookup,run_underlying hu,MapKept.run_getObj_map hb,(mj w').check,u2]
  ·rcases Be (mj w') (vt := .list .str) (vg := false) ([] : List ByteArray) he.mX with ⟨u1, _⟩ | ⟨_, j', m', u2, u3, _, _, u6⟩
   ·rw [r1'] at u1;cases u1
   ·obtain ⟨rfl, rfl⟩ := Ye _ _ u3 u6
    have hj:ms[j']?=some m':=by simpa using u3
    have:=(mj w').stays
    simp [Instr.mapUpdate,run_underlying hu,MapKept.run_getObj_map hb,(mj w').check,u2,hj,r4,this,MapKept.run_setObj_map _ hb,World.putObj]
 ·refine .inl ⟨r1, fun t ht => ?_⟩
  obtain ⟨kk,e,hu,hk,hv⟩:=kN ht
  have JJ:=MU hv
  have mj:∀w',uF P kk .str false (aj.now w) w' k (.string k):=fun w'=>qc hk ⟨[.string k],rfl,rfl⟩
  refine ⟨fun w' b hb=>?_,fun w' b z hb=>?_⟩
  ·rcases Be (mj w') (vt := .list .str) (vg := false) ([] : List ByteArray) he.mX with ⟨_, q2⟩ | ⟨q1, _⟩
   ·simp [Instr.lookup,run_underlying hu,MapKept.run_getObj_map hb,(mj w').check,q2,JJ]
   ·rw [r1] at q1;cases q1
  ·rcases Be (mj w') (vt := .list .str) (vg := false) ([] : List ByteArray) he.mX with ⟨_, q2⟩ | ⟨q1, _⟩
   ·simp [Instr.mapUpdate,run_underlying hu,MapKept.run_getObj_map hb,(mj w').check,q2,MapKept.run_setObj_map _ hb,World.putObj]
   ·rw [r1] at q1;cases q1
theorem Inv.aaz (h:Inv P Y ι μ H w) {b:Nat} (hown:Y.own b) (hn:∀id B L',av id H.bl=some B->μ id=some L'->L'.b≠b) {o o':Obj} (ho:w.heap[b]?=some o) (hnc:∀c e f,o ≠ .cells c e f) (Zq:jJ (some o) (some o')) :
  Inv P Y ι μ H (w.putObj b o'):=by
 have bZ:∀k,k≠b->(w.putObj b o').heap[k]?=w.heap[k]?:=fun k hk=>World.putObj_heap_other hk
 refine ⟨⟨h.below.os, h.below.tape, h.below.output, by rw [World.putObj_size]; exact h.below.size, fun k hk hx => ?_, h.below.dr, fun k hk => (h.below.maps k hk).trans (by
   by_cases e:k=b
   ·subst e;rw [ho,World.putObj_heap_same (Array.getElem?_eq_some_iff.1 ho).1];exact Zq
   ·exact .eq (bZ k e))⟩,h.i0,h.iB,fun b1 o2 x hx=>?_,h.m0,h.nx,fun i B2 hB=>?_,h.inj,h.lt,h.gl⟩
 ·rw [bZ k (Ctx.mh hown hk hx)];exact h.below.block k hk hx
 ·have := h.rd b1 o2 x hx
  have hne:b1≠b:=fun e=>by
   subst e
   cases o<;>simp [World.cell?,ho] at this
   exact hnc _ _ _ rfl
  unfold World.cell? at this ⊢
  simp only at this ⊢
  rw [bZ b1 hne];exact this
 ·exact (h.live i B2 hB).mono (aj.le_refl _) (Mu.le_refl _) (fun h=>h) (fun L' hL'=>bZ _ (hn _ _ _ hB hL')) (fun _ _ h=>h)
theorem FW {op:BinOp} {t:TypeId} {x y:Operand} {i:I} (h:A3 P op t x y=some i):(∀kt kg vt vg ok xs,i ≠ .ex (.iF kt kg vt vg ok) xs)/\∀kt kg vt vg xs,i ≠ .ex (.iG kt kg vt vg) xs:=by
 unfold A3 at h
 repeat' split at h
 all_goals try (cases h;done)
 all_goals try (cases h;exact ⟨by intros;simp,by intros;simp⟩)
 all_goals (obtain ⟨_,_,rfl⟩:=Option.map_eq_some_iff.1 h;exact ⟨by intros;simp,by intros;simp⟩)
theorem Qw {b:Builtin} {tys:List TypeId} {args:List Operand} {i:I} (h:trB P b tys args=some i):(∀kt kg vt vg ok xs,i ≠ .ex (.iF kt kg vt vg ok) xs)/\∀kt kg vt vg xs,i ≠ .ex (.iG kt kg vt vg) xs:=by
 unfold trB at h
 repeat' split at h
 all_goals try (cases h;done)
 all_goals try (cases h;exact ⟨by intros;simp,by intros;simp⟩)
 all_goals (obtain ⟨_,_,rfl⟩:=Option.map_eq_some_iff.1 h;exact ⟨by intros;simp,by intros;simp⟩)
theorem Qx {op:Op} {kt vt:Ty} {kg vg ok:Bool} {x y:O} (h:EJ P op=some (.ex (.iF kt kg vt vg ok) [x,y])) :
  ∃t x' y',op = .lookup t x' y' ok/\kG P t=some (kt,kg,vt,vg)/\dI x'=some x/\dI y'=some y:=by
 cases op<;>simp only [EJ] at h<;>try (cases h;done)
 case lookup t x' y' ok' =>
  split at h<;>try (cases h;done)
  rename_i h1 h2 h3
  cases h
  exact ⟨t,x',y',rfl,h1,h2,h3⟩
 case binOp=>exact absurd rfl ((FW h).1 _ _ _ _ _ _)
 all_goals exfalso
 all_goals repeat' split at h
 all_goals try (cases h;done)
 all_goals try (exact absurd rfl ((Qw h).1 _ _ _ _ _ _))
 all_goals try (obtain ⟨_,_,h⟩:=Option.map_eq_some_iff.1 h;cases h;done)
 all_goals try contradiction
 all_goals
  unfold uv at h
  repeat' split at h
  all_goals cases h
theorem Qy {op:Op} {kt vt:Ty} {kg vg:Bool} {x y z:O} (h:EJ P op=some (.ex (.iG kt kg vt vg) [x,y,z])) :
  ∃t x' y' z',op = .mapUpdate t x' y' z'/\kG P t=some (kt,kg,vt,vg)/\dI x'=some x/\dI y'=some y/\dI z'=some z:=by
 cases op<;>simp only [EJ] at h<;>try (cases h;done)
 case mapUpdate t x' y' z' =>
  split at h<;>try (cases h;done)
  rename_i h1 h2 h3 h4
  cases h
  exact ⟨t,x',y',z',rfl,h1,h2,h3,h4⟩
 case binOp=>exact absurd rfl ((FW h).2 _ _ _ _ _)
 all_goals exfalso
 all_goals repeat' split at h
 all_goals try (cases h;done)
 all_goals try (exact absurd rfl ((Qw h).2 _ _ _ _ _))
 all_goals try (obtain ⟨_,_,h⟩:=Option.map_eq_some_iff.1 h;cases h;done)
 all_goals try contradiction
 all_goals
  unfold uv at h
  repeat' split at h
  all_goals cases h
end
end Go.AM
end
section
namespace Go.AM
def FX:List dn:=[.op (some 81) none (.load false 1 (.t 3)),.op (some 82) none (.ex .mc [.t 81]),.op (some 83) none (.lI 1 [true,false] (.t 82)),.op (some 84) none (.load false 1 (.t 83)),.op (some 85) none (.lI 2 [true,true,false] (.t 10)),
  .op (some 86) none (.load false 1 (.t 85)),.op (some 87) none (.load false 1 (.t 3)),.op (some 88) none (.ex .mc [.t 87]),.op (some 89) none (.lI 1 [true,false] (.t 88)),.op (some 90) none (.load false 1 (.t 89)),.op (some 91) none (.lI 2 [true,true,false] (.t 10)),
  .op (some 92) none (.load false 1 (.t 91)),.op (some 93) none (.ex (.iF .str false (.list .str) false false) [.t 90,.t 92]),.op (some 94) none (.mv (.t 9)),.op (some 95) none (.eY .str [.t 94]),.op (some 96) none (.append 1 (.t 93) (.t 95)),
  .op none none (.ex (.iG .str false (.list .str) false) [.t 84,.t 86,.t 96])]
def nZ:List (List Nat):=[[],[0],[0,1],[0,1,2],[],[4],[],[6],[6,7],[6,7,8],[],[10],[6,7,8,9,10,11],[],[13],[6,7,8,9,10,11,12,13,14],[0,1,2,3,4,5,6,7,8,9,10,11,12,13,14,15]]
def bQ (c4 c9 gi b n:Nat) (k x:ByteArray) (X:V):List (Nat×Nat×V) :=
  [(0,81,.ptr c4 0),(1,82,.ptr c4 0),(2,83,.ptr c4 1),(3,84,.mp gi),(4,85,.ptr c9 2),(5,86,.str k),(6,87,.ptr c4 0),(7,88,.ptr c4 0),(8,89,.ptr c4 1),(9,90,.mp gi),(10,91,.ptr c9 2),(11,92,.str k),(12,93,X),(13,94,.str x),
   (14,95,.sl (b+14) .str 0 1),(15,96,.sl (b+15) .str 0 (n+1))]
section
variable {P:Program} {N:Nat} {Y:Ctx} {ι ι':aj} {μ μ':Mu} {w w':World} {ops:Array Oper}
theorem FY {o:Oper} {d:Option Nat} {i:I} (h:lQ P N ops o=some (.op d none i)):o.dst=d/\sy N o.dst=true/\o.guard=none/\EJ P o.op=some i:=by
  unfold lQ at h
  split at h<;>try (cases h;done)
  rename_i hd
  split at h<;>try (cases h;done)
  rename_i g hg
  have hgn:g=none->o.guard=none:=fun e=>by
    subst e
    cases hq:o.guard with
    |none=>rfl
    |some jb =>
      obtain ⟨j,c⟩:=jb
      rw [hq] at hg
      simp only [trG] at hg
      split at hg<;>try (cases hg;done)
      split at hg<;>cases hg
  split at h
  · split at h<;>cases h
  · split at h<;>cases h
  · split at h <;> try (cases h; done)
    rename_i i hi
    cases h
    exact ⟨rfl,hd,hgn rfl,hi⟩
theorem Yf {jS : Env} {b c2 c4 c9 gi n : Nat} {k x : ByteArray} {X : V} {y : Value} {bl : ah} {u15 : eZ} {ms : List Nat} {a : Act} {L : Loc} {f2 f4 f9 : Bool} {m0 m2 m3 q0 q1 q3 q4 : V} {Q : Exit → Act → World → Prop}
    (jr:de P N ops ops.toList=some FX) (Yg:aU ops=nZ) (b7:fh ops=true)
    (hR:dU P N Y ι μ ⟨jS,⟨b,bl⟩,ms⟩ a w) (iw:μ gi=some L) (hw0:L.b<Y.w0.heap.size) (hx:¬Y.x L.b)
    (g3:get 3 jS = .ptr c2 0) (g9:get 9 jS = .str x) (g10:get 10 jS = .ptr c9 0)
    (b2:av c2 bl=some (.cells [.ptr c4 0] f2)) (b4:av c4 bl=some (.cells [m0,.mp gi,m2,m3] f4)) (b9:av c9 bl=some (.cells [q0,q1,.str k,q3,q4] f9))
    (ae9:∀t w',kG P t=some (.str,false,.list .str,false)->w'.heap[L.b]?=Y.w0.heap[L.b]?->(Instr.lookup t (.map (some L.b)) (.string k) false).run P w' = .ok y w') (hy:∀ι' μ',μ.le μ'->Rel ι' μ' X y)
    (h15:∀env,get 93 env=X->get 95 env = .sl (b+14) .str 0 1->cg (eL P N none 0) (.append 1 (.t 93) (.t 95)) env ((b+14,.arr .str [x] false)::bC (b+14) bl) (b+15)=some ([decide (n+1<cn)],.sl (b+15) .str 0 (n+1),u15)) (jP:n+1<cn)
    (hu15:∀id cs f,av id bl=some (.cells cs f)->av id (bF u15 ((b+14,.arr .str [x] false)::bC (b+14) bl))=some (.cells cs f))
    (h16:∀ι2 μ2 a2 w2 tw,dU P N Y ι2 μ2 ⟨tw,⟨b+17,bF u15 ((b+14,.arr .str [x] false)::bC (b+14) bl)⟩,ms⟩ a2 w2->μ.le μ2->(∀k' s v,(k',s,v)∈bQ c4 c9 gi b n k x X->get s tw=v)->(∀s,s∉(bQ c4 c9 gi b n k x X).map (·.2.1)->get s tw=get s jS) ->
      wpOpIn Y.F 0 P ops Q 16 (Q .normal) a2 w2):wpAnyIn Y.F 0 P .any ops Q ops.size (Array.replicate ops.size false) a w:=by
  have hlen:=(dQ jr).1
  have hsz:ops.size=17:=by simpa [FX] using hlen.symm
  have nG:=(dQ jr).2
  let dH:=bQ c4 c9 gi b n k x X
  have htn:(dH.map (·.2.1)).Nodup:=by simp only [dH,bQ,List.map_cons,List.map_nil];decide
  have htk:(dH.map (·.1)).Nodup:=by simp only [dH,bQ,List.map_cons,List.map_nil];decide
  let B14:ah:=(b+14,.arr .str [x] false)::bC (b+14) bl
  let Bl:Bool->Bool->ah:=fun f g=>match g with
    |true=>bF u15 B14
    |false=>match f with
      |true=>B14
      |false=>bl
  have hBc:∀f g id cs fz,av id bl=some (.cells cs fz)->av id (Bl f g)=some (.cells cs fz):=by
    intro f g id cs fz h
    cases g with
    |true=>exact hu15 _ _ _ h
    |false =>
      cases f with
      |true =>
        have hlt:=hR.inv.lt id _ h
        show av id (_::bC _ bl)=_
        simp only at hlt
        rw [aG,if_neg (by omega)];exact h
      |false=>exact h
  let J:Array Bool->Act->World->Prop:=fun listed a w=>(listed.getD 16 false=true/\Q .normal a w)\/(listed.getD 16 false=false/\∃ι' μ',dU P N Y ι' μ' ⟨nY (fun k=>listed.getD k false) jS dH,⟨b+17,Bl (listed.getD 14 false) (listed.getD 15 false)⟩,ms⟩ a w/\μ.le μ' /\
    ∀k,k<17->listed.getD k false=false->μ' (b+k)=none)
  have mQ:∀i,(Array.replicate ops.size false).getD i false=false:=fun i=>by
    simp only [Array.getD_eq_getD_getElem?,Array.getElem?_replicate]
    split<;>rfl
  refine Ur b7 J ?_ (fun listed a w hJ hs hall=>?_) ops.size (List.range ops.size) _ _ _ (by simp) (by simp) (fun i hi _=>List.mem_range.2 hi) (fun i hi=>by rw [mQ i] at hi;cases hi) (.inr ⟨mQ 16,ι,μ,?_,fun _ _ h=>h,fun k _ _=>hR.inv.nx _ (by simp)⟩)
  rotate_left
  · rcases hJ with hJ | hJ
    · exact hJ.2
    · rw [hall 16 (by omega)] at hJ;cases hJ.1
  · have hE:∀aaB:List (Nat×Nat×V),nY (fun k=>(Array.replicate ops.size false).getD k false) jS aaB=jS:=by
      intro aaB
      induction aaB with
      |nil=>rfl
      |cons q r ih=>obtain ⟨k,s,v⟩:=q;show (match (Array.replicate ops.size false).getD k false with|true=>_|false=>_)=_;rw [mQ];exact ih
    rw [hE,mQ,mQ]
    exact ⟨hR.env,hR.sz,hR.inv.qg (by simp),hR.ms⟩
  intro listed a w i hJ hls uN hi hl hp
  rcases hJ with hJ|hJ
  · exfalso
    have aaC:i=16\/i<16:=by omega
    rcases aaC with rfl|hi16
    · rw [nO (by omega) true false,hJ.1] at hl;cases hl
    · have := uN 16 hJ.1 i (by rw [Yg]; show i ∈ [0, 1, 2, 3, 4, 5, 6, 7, 8, 9, 10, 11, 12, 13, 14, 15]; simp only [List.mem_cons, List.not_mem_nil]; omega)
      rw [nO (by omega) true false,this] at hl;cases hl
  obtain ⟨h16n,ι',μ',Yh,hle,hfr⟩:=hJ
  let E:=nY (fun k=>listed.getD k false) jS dH
  have Kq:∀k s v,(k,s,v)∈dH->listed.getD k false=true->get s E=v:=fun k s v hm hk=>xg (l:=fun k=>listed.getD k false) hk htn hm
  have Us:∀s,s∉dH.map (·.2.1)->get s E=get s jS:=fun s hs=>zm hs
  have eD:∀j,(listed.setIfInBounds i true).getD j false=if i=j then true else listed.getD j false:=fun j=>by
    by_cases e:i=j
    · subst e;simp [hls,hi]
    · rw [getD_set_ne false e,if_neg e]
  have hl':listed.getD i false=false:=by rw [nO (by omega) false true];exact hl
  have aaD:∀(d:Nat) (i0:I) (v:V) (u:eZ) (ob:List Bool),i<16->FX[i]?=some (.op (some d) none i0)->(i,d,v)∈dH->cg (eL P N none 0) i0 E (Bl (listed.getD 14 false) (listed.getD 15 false)) (b+i)=some (ob,v,u)->oL ob ->
      bF u (Bl (listed.getD 14 false) (listed.getD 15 false))=Bl (if i=14 then true else listed.getD 14 false) (if i=15 then true else listed.getD 15 false)->wpOpIn Y.F 0 P ops Q i (J (listed.setIfInBounds i true)) a w:=by
    intro d i0 v u ob hi16 hit hm ag cV hB
    have ho:ops[i]?=some ops[i]:=by simp [hi]
    refine JS (out:=none) (base:=0) (b:=b) (n:=17) (t:=⟨i,.op (some d) none i0,.op v u,nF i0 E⟩) (show i<17 by omega) ho (nG i _ _ (by simp) hit) (env:=E) (bl:=Bl (listed.getD 14 false) (listed.getD 15 false)) (ms:=ms) ⟨rfl,ob,v,.inl ag,cV,.inl rfl,rfl⟩ Yh (hfr i (by omega) hl') fun ι2 μ2 a2 w2 mH hne=>.inr ⟨?_,ι2,μ2,?_,?_,?_⟩
    · rw [eD,if_neg (by omega)];exact h16n
    · have e1 := mH.env.same (env' := nY (fun k => (listed.setIfInBounds i true).getD k false) jS dH) fun s => (FV (l := fun k => listed.getD k false) (fun j hj => by rw [eD, if_neg (Ne.symm hj)]) (by rw [eD, if_pos rfl]) htn htk hm s).symm
      refine ⟨e1,mH.sz,?_,mH.ms⟩
      have:=mH.inv
      simp only [TR.oT,Ac.qe] at this
      rw [hB] at this
      rw [eD,eD]
      exact this
    · intro id L hL
      have hx:=hle id L hL
      by_cases e:id=b+i
      · subst e;rw [hfr i (by omega) hl'] at hx;cases hx
      · rw [hne _ e];exact hx
    · intro k hk HB
      rw [eD] at HB
      split at HB
      · cases HB
      · rename_i e
        rw [hne _ (show b+k≠b+i by omega)];exact hfr k hk HB
  have hP:∀j,j∈nZ.getD i []->listed.getD j false=true:=fun j hj=>hp j (by rw [Yg];exact hj)
  have hsame:i≠14->i≠15->bF [] (Bl (listed.getD 14 false) (listed.getD 15 false))=Bl (if i=14 then true else listed.getD 14 false) (if i=15 then true else listed.getD 15 false):=fun h1 h2=>by rw [if_neg h1,if_neg h2];rfl
  have e3:get 3 E = .ptr c2 0:=(Us 3 (by simp only [dH,bQ,List.map_cons,List.map_nil];decide)).trans g3
  have e9:get 9 E = .str x:=(Us 9 (by simp only [dH,bQ,List.map_cons,List.map_nil];decide)).trans g9
  have e10:get 10 E = .ptr c9 0:=(Us 10 (by simp only [dH,bQ,List.map_cons,List.map_nil];decide)).trans g10
  have d2:=hBc (listed.getD 14 false) (listed.getD 15 false) _ _ _ b2
  have d4:=hBc (listed.getD 14 false) (listed.getD 15 false) _ _ _ b4
  have d9:=hBc (listed.getD 14 false) (listed.getD 15 false) _ _ _ b9
  have noT:oL []:=fun b h=>by cases h
  have pure:∀(d:Nat) (i0:I) (v:V),i<16->FX[i]?=some (.op (some d) none i0)->(i,d,v)∈dH->i≠14->i≠15 ->
      (∀BB aD,av c2 BB=some (.cells [.ptr c4 0] f2)->av c4 BB=some (.cells [m0,.mp gi,m2,m3] f4)->av c9 BB=some (.cells [q0,q1,.str k,q3,q4] f9)->cg (eL P N none 0) i0 E BB aD=some ([],v,[]))->wpOpIn Y.F 0 P ops Q i (J (listed.setIfInBounds i true)) a w :=
    fun d i0 v h1 h2 h3 h4 h5 h6=>aaD d i0 v [] [] h1 h2 h3 (h6 _ _ d2 d4 d9) noT (hsame h4 h5)
  have aaC:i=0\/i=1\/i=2\/i=3\/i=4\/i=5\/i=6\/i=7\/i=8\/i=9\/i=10\/i=11\/i=12\/i=13\/i=14\/i=15\/i=16:=by omega
  have mt:∀q,q∈bQ c4 c9 gi b n k x X->q∈dH:=fun _ h=>h
  rcases aaC with rfl|rfl|rfl|rfl|rfl|rfl|rfl|rfl|rfl|rfl|rfl|rfl|rfl|rfl|rfl|rfl|rfl
  · exact pure 81 _ (.ptr c4 0) (by omega) rfl (mt _ (by simp [bQ])) (by omega) (by omega) fun BB aD d2 d4 d9=>by simp [cg,iH,O.ev,cut,cE,e3,d2]
  · have r0 := Kq 0 81 (.ptr c4 0) (mt _ (by simp [bQ])) (hP 0 (by simp [nZ]))
    exact pure 82 _ (.ptr c4 0) (by omega) rfl (mt _ (by simp [bQ])) (by omega) (by omega) fun BB aD d2 d4 d9=>by simp [cg,iH,O.ev,cut,cE,r0]
  · have r0 := Kq 1 82 (.ptr c4 0) (mt _ (by simp [bQ])) (hP 1 (by simp [nZ]))
    exact pure 83 _ (.ptr c4 1) (by omega) rfl (mt _ (by simp [bQ])) (by omega) (by omega) fun BB aD d2 d4 d9=>by simp [cg,iH,O.ev,cut,cE,r0]
  · have r0 := Kq 2 83 (.ptr c4 1) (mt _ (by simp [bQ])) (hP 2 (by simp [nZ]))
    exact pure 84 _ (.mp gi) (by omega) rfl (mt _ (by simp [bQ])) (by omega) (by omega) fun BB aD d2 d4 d9=>by simp [cg,iH,O.ev,cut,cE,d4,r0]
  · exact pure 85 _ (.ptr c9 2) (by omega) rfl (mt _ (by simp [bQ])) (by omega) (by omega) fun BB aD d2 d4 d9=>by simp [cg,iH,O.ev,cut,cE,e10]
  · have r0 := Kq 4 85 (.ptr c9 2) (mt _ (by simp [bQ])) (hP 4 (by simp [nZ]))
    exact pure 86 _ (.str k) (by omega) rfl (mt _ (by simp [bQ])) (by omega) (by omega) fun BB aD d2 d4 d9=>by simp [cg,iH,O.ev,cut,cE,d9,r0]
  · exact pure 87 _ (.ptr c4 0) (by omega) rfl (mt _ (by simp [bQ])) (by omega) (by omega) fun BB aD d2 d4 d9=>by simp [cg,iH,O.ev,cut,cE,e3,d2]
  · have r0 := Kq 6 87 (.ptr c4 0) (mt _ (by simp [bQ])) (hP 6 (by simp [nZ]))
    exact pure 88 _ (.ptr c4 0) (by omega) rfl (mt _ (by simp [bQ])) (by omega) (by omega) fun BB aD d2 d4 d9=>by simp [cg,iH,O.ev,cut,cE,r0]
  · have r0 := Kq 7 88 (.ptr c4 0) (mt _ (by simp [bQ])) (hP 7 (by simp [nZ]))
    exact pure 89 _ (.ptr c4 1) (by omega) rfl (mt _ (by simp [bQ])) (by omega) (by omega) fun BB aD d2 d4 d9=>by simp [cg,iH,O.ev,cut,cE,r0]
  · have r0 := Kq 8 89 (.ptr c4 1) (mt _ (by simp [bQ])) (hP 8 (by simp [nZ]))
    exact pure 90 _ (.mp gi) (by omega) rfl (mt _ (by simp [bQ])) (by omega) (by omega) fun BB aD d2 d4 d9=>by simp [cg,iH,O.ev,cut,cE,d4,r0]
  · exact pure 91 _ (.ptr c9 2) (by omega) rfl (mt _ (by simp [bQ])) (by omega) (by omega) fun BB aD d2 d4 d9=>by simp [cg,iH,O.ev,cut,cE,e10]
  · have r0 := Kq 10 91 (.ptr c9 2) (mt _ (by simp [bQ])) (hP 10 (by simp [nZ]))
    exact pure 92 _ (.str k) (by omega) rfl (mt _ (by simp [bQ])) (by omega) (by omega) fun BB aD d2 d4 d9=>by simp [cg,iH,O.ev,cut,cE,d9,r0]
  · have r0 := Kq 9 90 (.mp gi) (mt _ (by simp [bQ])) (hP 9 (by simp [nZ]))
    have r1:=Kq 11 92 (.str k) (mt _ (by simp [bQ])) (hP 11 (by simp [nZ]))
    have ho:ops[12]?=some ops[12]:=by simp [hi]
    obtain ⟨Pz,hd2,hg,Ew⟩:=FY (nG 12 _ _ (by simp) rfl:lQ P N ops ops[12]=some (.op (some 93) none (.ex (.iF .str false (.list .str) false false) [.t 90,.t 92])))
    obtain ⟨t,x',y',hop,JV,hx',hy'⟩:=Qx Ew
    have v0:=aC Yh.env hx'
    have v1:=aC Yh.env hy'
    have e0:(O.t 90).ev E = .mp gi:=r0
    have e1:(O.t 92).ev E = .str k:=r1
    rw [e0] at v0;rw [e1] at v1
    generalize hv0:a.eval x'=z0 at v0
    generalize hv1:a.eval y'=z1 at v1
    cases v1
    cases v0 with
    |mp _ L' hL' =>
      rw [hle _ _ iw] at hL';cases hL'
      unfold wpOpIn
      simp only [ho]
      rw [if_pos (by simp [Region.wanted,hg])]
      refine ⟨fun _ _=>trivial,?_⟩
      rw [Oper.semAt_eq _ _ _ (j9 Ew)]
      have hrun:(execOp a.eval ops[12]).run P w = .ok (.value y) w:=by
        simp only [execOp,hop,hv0,hv1,Sem.run_bind,ae9 t w JV (Yh.inv.below.block _ hw0 hx)];rfl
      rw [hrun]
      have mH:=Yh.put hd2 (aj.le_refl _) (Mu.le_refl _) Yh.inv (hy ι' μ' hle)
      rw [Pz] at mH
      refine .inr ⟨?_,ι',μ',?_,hle,fun k hk HB=>?_⟩
      · rw [eD,if_neg (by omega)];exact h16n
      · have e1 := mH.env.same (env' := nY (fun k => (listed.setIfInBounds 12 true).getD k false) jS dH) fun s => (FV (l := fun k => listed.getD k false) (k := 12) (fun j hj => by rw [eD, if_neg (Ne.symm hj)]) (by rw [eD, if_pos rfl]) htn htk (mt _ (by simp [bQ])) s).symm
        rw [Pz]
        refine ⟨e1,mH.sz,?_,mH.ms⟩
        rw [eD,eD,if_neg (by omega),if_neg (by omega)]
        exact mH.inv
      · rw [eD] at HB
        split at HB
        · cases HB
        · exact hfr k hk HB
  · exact pure 94 _ (.str x) (by omega) rfl (mt _ (by simp [bQ])) (by omega) (by omega) fun BB aD d2 d4 d9=>by simp [cg,iH,O.ev,cut,cE,e9]
  · have r0 := Kq 13 94 (.str x) (mt _ (by simp [bQ])) (hP 13 (by simp [nZ]))
    have hn15:listed.getD 15 false=false:=by
      rcases Bool.eq_false_or_eq_true (listed.getD 15 false) with h|h
      · have := uN 15 h 14 (by rw [Yg]; simp [nZ])
        rw [hl'] at this;cases this
      · exact h
    refine aaD 95 _ (.sl (b+14) .str 0 1) [(b+14,some (.arr .str [x] false))] [] (by omega) rfl (mt _ (by simp [bQ])) (by simp [cg,O.ev,r0,sq,V.cells?,bw]) noT ?_
    rw [hl',hn15,if_pos rfl,if_neg (by omega)];rfl
  · have r0 := Kq 12 93 (X) (mt _ (by simp [bQ])) (hP 12 (by simp [nZ]))
    have r1:=Kq 14 95 (.sl (b+14) .str 0 1) (mt _ (by simp [bQ])) (hP 14 (by simp [nZ]))
    have h14:=hP 14 (by simp [nZ])
    refine aaD 96 _ (.sl (b+15) .str 0 (n+1)) u15 [decide (n+1<cn)] (by omega) rfl (mt _ (by simp [bQ])) (by rw [h14,hl'];exact h15 _ r0 r1) (fun b hb=>by rw [List.mem_singleton.1 hb];exact decide_eq_true jP) ?_
    rw [hl',h14,if_neg (by omega),if_pos rfl]
  · have hall : ∀ j, j < 16 → listed.getD j false = true := fun j hj => hP j (by show j ∈ [0, 1, 2, 3, 4, 5, 6, 7, 8, 9, 10, 11, 12, 13, 14, 15]; simp only [List.mem_cons, List.not_mem_nil]; omega)
    rw [hall 14 (by omega),hall 15 (by omega)] at Yh
    refine wpOpIn_mono (fun a' w' hq=>.inl ⟨by rw [eD,if_pos rfl],hq⟩) (h16 ι' μ' a w E Yh hle (fun k' s v hm=>Kq k' s v hm (hall k' ?_)) Us)
    have iu:k'∈(bQ c4 c9 gi b n k x X).map (·.1):=List.mem_map.2 ⟨_,hm,rfl⟩
    simp [bQ] at iu
    omega
end
end Go.AM
end
section
namespace Go.AM
theorem fK.Yi {w w' : World} {e : ByteArray × List ByteArray} {m : MapEntry} (hk : m.key = .string e.1) (hv : jM w' m.val e.2) : ∀ {es : List (ByteArray × List ByteArray)} {ms : List MapEntry} {j : Nat}, fK w es ms → (∀ (i : Nat) m, i ≠ j → ms[i]? = some m → ∀ b, gQ m.val = some b → w'.heap[b]? = w.heap[b]?) → fK w' (es.set j e) (ms.set j m)
 |[],_,j,h,_=>by simp [fK] at h;subst h;simp [fK]
 |e0::es,_,0,⟨m0,r,h0,h1,h2,h3⟩,hs=>by
  subst h0
  refine ⟨m,r,rfl,hk,hv,h3.same fun m hm b hb=>?_⟩
  obtain ⟨i,hi⟩:=List.mem_iff_getElem?.1 hm
  exact hs (i+1) m (by omega) (by simpa using hi) b hb
 |e0::es,_,j+1,⟨m0,r,h0,h1,h2,h3⟩,hs=>by
  subst h0
  exact ⟨m0,r.set j m,rfl,h1,h2.same (hs 0 m0 (by omega) rfl),fK.Yi hk hv h3 fun i m hi hm=>hs (i+1) m (by omega) (by simpa using hm)⟩
structure Grown (P:Program) (t:TypeId) (L:Loc) (ms:Array MapEntry) (clock:Nat) (es:List (ByteArray×List ByteArray)) (R':Nat->Prop) (k:ByteArray) (ys:List ByteArray) (w:World) (z:Value) (bz:Nat) (ms':Array MapEntry) (clock':Nat) (IA:List (ByteArray×List ByteArray)):Prop where
 run:(Instr.mapUpdate t (.map (some L.b)) (.string k) z).run P w = .ok () (w.putObj L.b (.map ms' clock'))
 grow:jJ (some (.map ms clock)) (some (.map ms' clock'))
 mX:fK w IA ms'.toList
 Qu:∀m∈ms'.toList,m.born<clock'
 S2:(ms'.toList.map (·.born)).Nodup
 perm:IA.Perm (bp .str es k ys)
 kd:KD .str IA
 rs:∀m∈ms'.toList,∀b,gQ m.val=some b->R' b\/b=bz
 apart:∀(i j:Nat) m m',ms'.toList[i]?=some m->ms'.toList[j]?=some m'->gQ m.val=gQ m'.val->i=j
section
variable {P:Program} {N:Nat} {Y:Ctx} {ι ι':aj} {μ μ':Mu} {H:aF} {w wd w':World} {ops:Array Oper} {out:Option Nat} {base gi:Nat} {es:List (ByteArray×List ByteArray)} {L:Loc} {ms:Array MapEntry} {clock:Nat} {dJ:List (ByteArray×List ByteArray)}
theorem MV {t : TypeId} {k : ByteArray} {ys : List ByteArray} {z : Value} {bz : Nat} (hG : Gh gi Y ι μ H wd es L ms clock dJ) (hno : aR .str dJ k = false)
  (hrun:(Instr.mapUpdate t (.map (some L.b)) (.string k) z).run P w = .ok () (w.putObj L.b (.map (ms.push { key:=.string k,val:=z,born:=clock }) (clock+1))))
  (hz:jM w z ys) (hbz:gQ z=some bz) (hsame:∀b,RS L ms.toList b->w.heap[b]?=wd.heap[b]?) (hnz:¬RS L ms.toList bz) :
  Grown P t L ms clock es (RS L ms.toList) k ys w z bz (ms.push { key:=.string k,val:=z,born:=clock }) (clock+1) (dJ++[(k,ys)]) where
 run:=hrun
 grow:=fun ms' c' e=>by cases e;exact ⟨_,_,rfl,by simp [Array.toList_push,List.map_append],Nat.le_succ _⟩
 mX:=by
  rw [Array.toList_push]
  exact (hG.mX.same fun m hm b hb=>hsame b (.inr ⟨m,hm,hb⟩)).snoc rfl hz
 Qu:=by
  intro m hm
  simp only [Array.toList_push,List.mem_append,List.mem_singleton] at hm
  rcases hm with hm|rfl
  ·exact Nat.lt_succ_of_lt (hG.Qu m hm)
  ·exact Nat.lt_succ_self _
 S2:=by
  simp only [Array.toList_push,List.map_append,List.map_cons,List.map_nil]
  refine List.nodup_append.2 ⟨hG.S2,by simp,?_⟩
  intro p hp q hq
  simp only [List.mem_singleton] at hq
  subst hq
  obtain ⟨m,hm,rfl⟩:=List.mem_map.1 hp
  exact Nat.ne_of_lt (hG.Qu m hm)
 perm:=(oP hno).trans (qb hG.perm)
 kd:=KD.perm (oP hno).symm hG.kd.iG
 rs:=by
  intro m hm b hb
  simp only [Array.toList_push,List.mem_append,List.mem_singleton] at hm
  rcases hm with hm|rfl
  ·exact .inl (.inr ⟨m,hm,hb⟩)
  ·rw [hbz] at hb;cases hb;exact .inr rfl
 apart:=by
  intro i j m m' hi hj hb
  rw [Array.toList_push] at hi hj
  have key:∀{i:Nat} {m:MapEntry},(ms.toList++[({ key:=.string k,val:=z,born:=clock }:MapEntry)])[i]?=some m->(i<ms.toList.length/\ms.toList[i]?=some m)\/(i=ms.toList.length/\m.val=z):=by
   intro i m h
   rw [List.getElem?_append] at h
   split at h
   ·exact .inl ⟨by assumption,h⟩
   ·have:i - ms.toList.length=0:=by
     have:=(List.getElem?_eq_some_iff.1 h).1
     simp only [List.length_cons,List.length_nil] at this
     omega
    rw [this] at h
    cases h
    exact .inr ⟨by omega,rfl⟩
  rcases key hi with ⟨h1,h2⟩|⟨h1,h2⟩<;>rcases key hj with ⟨h3,h4⟩|⟨h3,h4⟩
  ·exact hG.apart i j m m' h2 h4 hb
  ·rw [h4, hbz] at hb
   exact absurd (.inr ⟨m,List.mem_of_getElem? h2,hb⟩) hnz
  ·rw [h2, hbz] at hb
   exact absurd (.inr ⟨m',List.mem_of_getElem? h4,hb.symm⟩) hnz
  ·omega
theorem MW {t : TypeId} {k : ByteArray} {ys : List ByteArray} {z : Value} {bz bj j : Nat} {m : MapEntry} {e : ByteArray × List ByteArray} (hG : Gh gi Y ι μ H wd es L ms clock dJ) (hj : ms.toList[j]? = some m) (he : dJ[j]? = some e) (hke : eB .str k e.1 = true) (hkey : m.key = .string k) (hbj : gQ m.val = some bj)
  (hrun:(Instr.mapUpdate t (.map (some L.b)) (.string k) z).run P w = .ok () (w.putObj L.b (.map (ms.modify j fun e=>{ e with key:=.string k,val:=z }) clock)))
  (hz:jM w z ys) (hbz:gQ z=some bz) (hsame:∀b,RS L ms.toList b->b≠bj->w.heap[b]?=wd.heap[b]?) (hnz:¬(RS L ms.toList bz/\bz≠bj)) :
  Grown P t L ms clock es (fun b=>RS L ms.toList b/\b≠bj) k ys w z bz (ms.modify j fun e=>{ e with key:=.string k,val:=z }) clock (dJ.set j (k,ys)):=by
 have hml:(ms.modify j fun e=>{ e with key:=.string k,val:=z }).toList=ms.toList.set j { m with key:=.string k,val:=z }:=by
  apply List.ext_getElem?
  intro i
  simp only [Array.getElem?_toList,Array.getElem?_modify,List.getElem?_set]
  by_cases e:j=i
  ·subst e
   have hj':ms[j]?=some m:=by simpa using hj
   obtain ⟨q1,q2⟩:=Array.getElem?_eq_some_iff.1 hj'
   simp [hj',q1,q2]
  ·simp [e]
 have hbk:(ms.toList.set j { m with key:=.string k,val:=z }).map (fun m=>(m.born,m.key))=ms.toList.map fun m=>(m.born,m.key):=by
  rw [List.map_set]
  apply List.ext_getElem?
  intro i
  simp only [List.getElem?_set,List.getElem?_map,List.length_map]
  by_cases e:j=i
  ·subst e
   obtain ⟨q1,q2⟩:=List.getElem?_eq_some_iff.1 hj
   simp only [hj,q1,if_true,Option.map_some,hkey]
  ·simp [e]
 have yb:(ms.toList.set j { m with key:=.string k,val:=z }).map (·.born)=ms.toList.map (·.born):=by
  have:=congrArg (List.map Prod.fst) hbk
  simpa [List.map_map,Function.comp_def] using this
 have nG:∀{i:Nat} {m':MapEntry},(ms.toList.set j { m with key:=.string k,val:=z })[i]?=some m'->(i≠j/\ms.toList[i]?=some m')\/(i=j/\m'.val=z):=by
  intro i m' h
  rw [List.getElem?_set] at h
  split at h
  ·rename_i e
   split at h<;>cases h
   exact .inr ⟨e.symm,rfl⟩
  ·rename_i e;exact .inl ⟨Ne.symm e,h⟩
 have hne:∀{i:Nat} {m':MapEntry},i≠j->ms.toList[i]?=some m'->∀b,gQ m'.val=some b->b≠bj:=fun {i m'} hi hm b hb e=>by
  subst e
  exact hi (hG.apart i j m' m hm hj (hb.trans hbj.symm))
 exact {
  run:=hrun
  grow:=fun ms' c' e=>by cases e;exact ⟨_,_,rfl,by rw [hml,hbk];exact List.prefix_refl _,Nat.le_refl _⟩
  mX:=by
   rw [hml]
   exact fK.Yi (e:=(k,ys)) rfl hz hG.mX fun i m' hi hm b hb=>hsame b (.inr ⟨m',List.mem_of_getElem? hm,hb⟩) (hne hi hm b hb)
  Qu:=by
   intro m' hm'
   rw [hml] at hm'
   have:m'.born∈(ms.toList.set j { m with key:=.string k,val:=z }).map (·.born):=List.mem_map.2 ⟨m',hm',rfl⟩
   rw [yb] at this
   obtain ⟨m2,hm2,e2⟩:=List.mem_map.1 this
   rw [<-e2];exact hG.Qu m2 hm2
  S2:=by rw [hml,yb];exact hG.S2
  perm:=by rw [w5 hG.kd he hke];exact qb hG.perm
  kd:=by rw [w5 hG.kd he hke];exact hG.kd.iG
  rs:=by
   intro m' hm' b hb
   rw [hml] at hm'
   obtain ⟨i,hi⟩:=List.mem_iff_getElem?.1 hm'
   rcases nG hi with ⟨h1,h2⟩|⟨h1,h2⟩
   ·exact .inl ⟨.inr ⟨m',List.mem_of_getElem? h2,hb⟩,hne h1 h2 b hb⟩
   ·rw [h2,hbz] at hb;cases hb;exact .inr rfl
  apart:=by
   intro i i' m1 m2 hi hi' hb
   rw [hml] at hi hi'
   rcases nG hi with ⟨h1,h2⟩|⟨h1,h2⟩<;>rcases nG hi' with ⟨h3,h4⟩|⟨h3,h4⟩
   ·exact hG.apart i i' m1 m2 h2 h4 hb
   ·rw [h4, hbz] at hb
    exact absurd ⟨.inr ⟨m1,List.mem_of_getElem? h2,hb⟩,hne h1 h2 _ hb⟩ hnz
   ·rw [h2, hbz] at hb
    exact absurd ⟨.inr ⟨m2,List.mem_of_getElem? h4,hb.symm⟩,hne h3 h4 _ hb.symm⟩ hnz
   ·omega }
theorem Yj {S : St} {env' : Env} {bP B : ah} {R' : Nat → Prop} {μ0 : Mu} {H0 : aF} {k x : ByteArray} {xs : List ByteArray} {b : Nat} {a : Act} {tw : Env} {Q : Ex → St → List (ByteArray × List ByteArray) → Prop}
  (nG:∀(k:Nat) (o:Oper) (it:dn),ops.toList[k]?=some o->FX[k]?=some it->lQ P N ops o=some it) (hsz:ops.size=17)
  (hG:Gh gi Y ι μ S.H wd es L ms clock dJ) (hI:Inv P Y ι μ0 H0 wd) (Aw:μ.le μ0) (hRs:∀b,R' b->RS L ms.toList b) (Ol:R' L.b)
  (hR:dU P N (Y.k4 wd ι μ0 R') ι' μ' ⟨tw,⟨b+17,B⟩,S.ms⟩ a w) (hle:μ0.le μ') (h84:get 84 tw = .mp gi) (h86:get 86 tw = .str k) (h96:get 96 tw = .sl (b+15) .str 0 (xs.length+1))
  (aaF:av (b+15) B=some (.arr .str (xs++[x]) false)) (hBs:∀id B1,av id bP=some B1->av id B=some B1/\id≠b+15) (hb:b=S.H.next+1)
  (MX:∀t,get t env' = .any\/get t env'=get t tw)
  (hgr:∀t z bz,kG P t=some (.str,false,.list .str,false)->jM w z (xs++[x])->gQ z=some bz->(∀b,R' b->w.heap[b]?=wd.heap[b]?)->¬R' bz->w.heap[L.b]?=some (.map ms clock)->∃ms' clock' IA,Grown P t L ms clock es R' k (xs++[x]) w z bz ms' clock' IA)
  (hQ:Q .normal ⟨env',⟨S.H.next+18,bP⟩,S.ms⟩ (bp .str es k (xs++[x]))) :
  wpOpIn (Y.k4 wd ι μ0 R').F 0 P ops (lY P N gi Y Q) 16 (lY P N gi Y Q .normal) a w:=by
 have hi:16<ops.size:=by omega
 have ho:ops[16]?=some ops[16]:=by simp [hi]
 obtain ⟨Pz,hd2,hg,Ew⟩:=FY (nG 16 _ _ (by simp) rfl:lQ P N ops ops[16]=some (.op none none (.ex (.iG .str false (.list .str) false) [.t 84,.t 86,.t 96])))
 obtain ⟨t,x',y',z',hop,JV,hx',hy',oG⟩:=Qy Ew
 have v0:=aC hR.env hx'
 have v1:=aC hR.env hy'
 have v2:=aC hR.env oG
 have e0:(O.t 84).ev tw = .mp gi:=h84
 have e1:(O.t 86).ev tw = .str k:=h86
 have e2:(O.t 96).ev tw = .sl (b+15) .str 0 (xs.length+1):=h96
 rw [e0] at v0;rw [e1] at v1;rw [e2] at v2
 generalize hv0:a.eval x'=z0 at v0
 generalize hv1:a.eval y'=z1 at v1
 generalize hv2:a.eval z'=z2 at v2
 cases v1
 have oZ:∀b,R' b->b<wd.heap.size:=fun b hb=>(hG.low b (hRs b hb)).2
 have JT:∀b,R' b->¬(Y.k4 wd ι μ0 R').x b:=fun b hb hX=>hX.2 hb
 have hsame:∀b,R' b->w.heap[b]?=wd.heap[b]?:=fun b hb=>hR.inv.below.block b (oZ b hb) (JT b hb)
 have wG:∀b,R' b->∀o,ι' b o=ι b o:=fun b hb o=>hR.inv.iB b o (oZ b hb) (JT b hb)
 have hown':∀id B1 L1,av id B=some B1->μ' id=some L1->¬R' L1.b:=fun id B1 L1 h1 h2 hr=>by
  rcases ((hR.inv.live id B1 h1).loc h2).1 with h|h
  ·have : wd.heap.size ≤ L1.b := h
   have:=oZ _ hr
   omega
  ·exact h.2 hr
 have hIY:=hI.Qs hR.inv
 cases v0 with
 |mp _ L' hL' =>
 rw [hle _ _ (Aw _ _ hG.mu)] at hL';cases hL'
 cases v2 with
 |sl _ _ _ _ cap L15 aaG q1 q2 q3 =>
 rcases hIY.live _ _ aaF with ⟨h,_⟩|⟨L2,vs,hM,hRc,Hv⟩
 ·simp at h
 have hML:L2=L15:=by
  have:=hM.mu
  rw [aaG] at this
  exact (Option.some.inj this).symm
 subst hML
 obtain ⟨c,ec,hc1,HV,hc3⟩:=hM.row
 have hvs:=vY hRc
 have afb:jM w (.slice (some ⟨L2.b,L2.ba+0 * Ty.str.sz,none⟩) (xs.length+1) cap) (xs++[x]):=by
  refine ⟨L2.b,L2.ba+0 * Ty.str.sz,cap,c,ec,by simp,by simp,by simpa using q1,hc1,?_,fun j s hj=>?_⟩
  ·simp only [Ty.sz] at q2 ⊢
   rw [HV];omega
  ·have : vs[j]? = some (.string s) := by rw [hvs, List.getElem?_map, hj]; rfl
   have:=hc3 j _ this
   rw [show L2.ba+0 * Ty.str.sz+j=L2.ba+j by omega];exact this
 have hnz:¬R' L2.b:=hown' _ _ _ aaF aaG
 have hmap:w.heap[L.b]?=some (.map ms clock):=by rw [hsame _ Ol];exact hG.hb
 obtain ⟨ms',clock',IA,Qz⟩:=hgr t _ L2.b JV afb rfl hsame hnz hmap
 unfold wpOpIn
 simp only [ho]
 rw [if_pos (by simp [Region.wanted,hg])]
 refine ⟨fun _ _=>trivial,?_⟩
 rw [Oper.semAt_eq _ _ _ (j9 Ew)]
 have hrun:(execOp a.eval ops[16]).run P w = .ok .skip (w.putObj L.b (.map ms' clock')):=by
  simp only [execOp,hop,hv0,hv1,hv2,Sem.run_bind,Qz.run];rfl
 rw [hrun]
 show lY P N gi Y Q .normal (a.put ops[16].dst undef) (w.putObj L.b (.map ms' clock'))
 rw [Pz]
 have hnoL:∀id B1 L1,av id bP=some B1->μ' id=some L1->L1.b≠L.b:=fun id B1 L1 h1 h2 e=>hown' _ _ _ (hBs _ _ h1).1 h2 (e▸Ol)
 have oJ:Inv P Y ι' μ' ⟨S.H.next+18,bP⟩ w:=by
  have:=hIY.sub (bl:=bP) fun id B1 h1=>(hBs id B1 h1).1
  simp only at this
  rw [show S.H.next+18=b+17 by omega];exact this
 have hI3:=oJ.aaz (hG.own _ (.inl rfl)).1 hnoL hmap (by simp) Qz.grow
 have bZ:∀k,k≠L.b->(w.putObj L.b (.map ms' clock')).heap[k]?=w.heap[k]?:=fun k hk=>World.putObj_heap_other hk
 have hneL:∀m∈ms'.toList,∀b,gQ m.val=some b->b≠L.b:=by
  intro m hm b hb e
  subst e
  have hcells:∀(es:List (ByteArray×List ByteArray)) (ms:List MapEntry),fK w es ms->m∈ms->∃c e,w.heap[L.b]?=some (.cells c e (0,0)):=by
   intro es ms he hm
   induction es generalizing ms with
   |nil=>simp [fK] at he;subst he;cases hm
   |cons e es ih =>
    obtain ⟨m0,r,rfl,_,h2,h3⟩:=he
    rcases List.mem_cons.1 hm with rfl|hm
    ·obtain ⟨b', o', cap', c', e', h4, _, _, h5, _⟩ := h2
     rw [h4] at hb;cases hb;exact ⟨_,_,h5⟩
    ·exact ih _ h3 hm
  obtain ⟨c',e',h'⟩:=hcells _ _ Qz.mX hm
  rw [hmap] at h';cases h'
 refine ⟨Y,.refl Y,ι',μ',⟨env',⟨S.H.next+18,bP⟩,S.ms⟩,.normal,_,⟨fun t=>?_,hR.sz,hI3,hR.ms⟩,rfl,hQ,L,ms',clock',IA,?_⟩
 ·rcases MX t with h | h
  ·rw [h];exact .any _
  ·rw [h];exact hR.env t
 ·exact {
   mu:=hle _ _ (Aw _ _ hG.mu)
   hb:=World.putObj_heap_same (Array.getElem?_eq_some_iff.1 hmap).1
   mX:=Qz.mX.same fun m hm b hb=>bZ b (hneL m hm b hb)
   Qu:=Qz.Qu
   S2:=Qz.S2
   perm:=Qz.perm
   kd:=Qz.kd
   own:=by
    intro b hb
    have hb':R' b\/b=L2.b:=by
     rcases hb with rfl|⟨m,hm,hb⟩
     ·exact .inl Ol
     ·exact Qz.rs m hm b hb
    rcases hb' with h|rfl
    ·exact ⟨(hG.own b (hRs b h)).1,fun o=>by rw [wG b h];exact (hG.own b (hRs b h)).2 o⟩
    ·exact ⟨hM.old,hM.sk rfl⟩
   apart:=Qz.apart
   k5:=by
    intro id B1 L1 h1 h2 hr
    obtain ⟨h3,h4⟩:=hBs id B1 h1
    have hr':R' L1.b\/L1.b=L2.b:=by
     rcases hr with hr|⟨m,hm,hb⟩
     ·rw [hr];exact .inl Ol
     ·exact Qz.rs m hm _ hb
    rcases hr' with h|h
    ·exact hown' _ _ _ h3 h2 h
    ·exact h4 (hIY.inj _ _ _ _ _ _ h3 aaF h2 aaG h) }
end
end Go.AM
end
section
namespace Go.AM
section
variable {P:Program} {N:Nat} {out:Option Nat} {gi:Nat} {es:List (ByteArray×List ByteArray)}
theorem QA (mixed : P.follows .mixedOrders = true) {S : St} {c2 c4 c9 : Nat} {f2 f4 f9 : Bool} {m0 m2 m3 q0 q1 q3 q4 : V} {k x : ByteArray} {env' : Env} {bP : ah}
  (g3:get 3 S.env = .ptr c2 0) (g9:get 9 S.env = .str x) (g10:get 10 S.env = .ptr c9 0)
  (b2:av c2 S.H.bl=some (.cells [.ptr c4 0] f2)) (b4:av c4 S.H.bl=some (.cells [m0,.mp gi,m2,m3] f4)) (b9:av c9 S.H.bl=some (.cells [q0,q1,.str k,q3,q4] f9))
  (jP:(ay .str [] es k).length+1<cn) (qz:∀id B,av id bP=some B->av id S.H.bl=some B) (MX:∀t,get t env' = .any\/(get t env'=get t S.env/\t<81)) :
  gC P N out gi (.draw nZ FX) S es fun e S' es'=>e = .normal/\S'=⟨env',⟨S.H.next+18,bP⟩,S.ms⟩/\es'=bp .str es k (ay .str [] es k++[x]):=by
 intro code
 induction code with
 |skip=>intro h;cases h
 |label l=>intro h;cases h
 |ret=>intro h;cases h
 |exit id=>intro h;cases h
 |goto l=>intro h;cases h
 |refuse why=>intro h;cases h
 |scope b ih=>intro h Y ι μ a w ho hR hG;exact kP (ih h Y ι μ a w ho hR hG) fun l a w=>lY.noGoto
 |region id ops draw =>
  intro h Y ι μ a w ho hR ⟨L,ms,clock,dJ,hG0⟩
  simp only [fU] at h
  split at h<;>try (cases h;done)
  rename_i is jr
  cases draw with
  |false=>cases h
  |true =>
   simp only at h
   split at h<;>try (cases h;done)
   rename_i CI
   have afc:OI (aU ops) is=none:=by
    cases hc:OI (aU ops) is with
    |none=>rfl
    |some c=>rw [hc] at h;cases h
   rw [afc] at h
   simp only at h
   have jf:A4 (aU ops) is=none:=by
    cases hc:A4 (aU ops) is with
    |none=>rfl
    |some c=>rw [hc] at h;cases h
   rw [jf] at h
   have h:=C.draw.inj (Option.some.inj h)
   obtain ⟨Yg,e⟩:=h
   subst e
   have hlen:=(dQ jr).1
   have hsz:ops.size=17:=by simpa [FX] using hlen.symm
   have nG:=(dQ jr).2
   refine wpIn_region_any mixed ?_
   have hI:Inv P Y ι μ S.H { w with drawn:=w.drawn+1 }:=hR.inv.drawn
   have hG:Gh gi Y ι μ S.H { w with drawn:=w.drawn+1 } es L ms clock dJ:=hG0.keep rfl (fun b hb=>⟨(hG0.own b hb).1,rfl,fun _=>rfl⟩) hG0.k5
   generalize hwd:({ w with drawn:=w.drawn+1 }:World)=wd at hI hG ⊢
   have hkd:KD .str es:=KD.perm hG.perm hG.kd
   have hge:ay .str [] es k=ay .str [] dJ k:=(Bc hG.perm hG.kd hkd).symm
   have dw:∀s,s<81->∀b n X,s∉(bQ c4 c9 gi b n k x X).map (·.2.1):=fun s hs b n X=>by
    simp [bQ];omega
   have hlt:∀id B,av id S.H.bl=some B->id<S.H.next:=fun id B h=>hR.inv.lt id B h
   rcases aay (P:=P) (clock:=clock) hG.mX hG.kd k with ⟨r1,hrun⟩|⟨r1,j,m,e,r3,r6,r7,r4,q3',afd,hrun⟩
   ·-- no such key yet
    have mz:ay .str [] es k=[]:=by rw [hge];exact gL r1
    have qD:dU P N (Y.k4 wd ι μ (RS L ms.toList)) ι μ ⟨S.env,⟨S.H.next+1,S.H.bl⟩,S.ms⟩ a wd:=⟨hR.env,hR.sz,(hI.Qr hG.k5).qg (by simp),hR.ms⟩
    have oZ:L.b<wd.heap.size:=(hG.low _ (.inl rfl)).2
    refine Yf (Y := Y.k4 wd ι μ (RS L ms.toList)) (b := S.H.next + 1) (n := 0) (k := k) (x := x) (X := .cw) (y := .slice none 0 0) (u15 := [(S.H.next + 1 + 15, some (.arr .str [x] false))]) (L := L) jr Yg CI.2 qD hG.mu oZ (fun hX => hX.2 (.inl rfl)) g3 g9 g10 b2 b4 b9
     (fun t w' ht hw=>(hrun t ht).1 w' L.b (hw.trans hG.hb)) (fun _ _ _=>.cw _) (fun env h1 h2=>?_) (by decide) ?_ ?_
    ·simp [cg,O.ev,h1,h2,HN,elems,bA,kD,Ty.sz,eL,bn]
    ·intro id cs f hb
     have:=hlt _ _ hb
     simp only [bF]
     rw [aG,if_neg (by omega),aG,if_neg (by omega)]
     exact hb
    ·intro ι2 μ2 a2 w2 tw mH hle2 ht1 ht2
     refine Yj (xs:=[]) (k:=k) (x:=x) (b:=S.H.next+1) (bP:=bP) (env':=env') nG hsz hG hI (fun _ _ h=>h) (fun _ h=>h) (.inl rfl) mH hle2 (ht1 3 84 _ (by simp [bQ])) (ht1 5 86 _ (by simp [bQ])) (ht1 15 96 _ (by simp [bQ])) ?_ ?_ rfl ?_ ?_ ?_
     ·simp only [bF];rw [aG,if_pos rfl];rfl
     ·intro id B1 h1
      have h2:=qz _ _ h1
      have:=hlt _ _ h2
      refine ⟨?_,by omega⟩
      simp only [bF]
      rw [aG,if_neg (by omega),aG,if_neg (by omega)]
      exact h2
     ·intro t
      rcases MX t with h|⟨h,h81⟩
      ·exact .inl h
      ·exact .inr (h.trans (ht2 t (dw t h81 _ _ _)).symm)
     ·intro t z bz ht hz hbz hs hnz hm
      exact ⟨_,_,_,MV hG r1 ((hrun t ht).2 w2 L.b z hm) hz hbz hs hnz⟩
     ·exact ⟨rfl,rfl,by rw [mz]⟩
   ·-- the key is there
    obtain ⟨bj,oj,cap,c,ec,hv,hne,hcap,hcell,hfit,hcs⟩:=q3'
    have hbj:gQ m.val=some bj:=by rw [hv];rfl
    have SU:RS L ms.toList bj:=.inr ⟨m,List.mem_of_getElem? r3,hbj⟩
    have hown:=hG.own bj SU
    have afe:ay .str [] es k=e.2:=hge.trans afd
    rw [afe] at jP ⊢
    have hnL:L.b≠bj:=fun h=>by have:=hG.hb;rw [h,hcell] at this;cases this
    have QB:μ S.H.next=none:=hI.nx _ (Nat.le_refl _)
    let Lj:Loc:=⟨bj,oj,c.size,e.2.length⟩
    have iw:μ.set S.H.next Lj S.H.next=some Lj:=by simp [Mu.set]
    have Aw:μ.le (μ.set S.H.next Lj):=Mu.gd QB
    have Hu:Inv P Y ι (μ.set S.H.next Lj) ⟨max S.H.next (S.H.next+1),(S.H.next,.arr .str e.2 false)::bC S.H.next S.H.bl⟩ wd:=by
     refine hI.show QB (fun id B L' h1 h2 h3=>hG.k5 id B L' h1 h2 (by rw [h3];exact SU)) (.inr ⟨Lj,e.2.map .string,⟨iw,hown.1,⟨c,ec,hcell,rfl,fun j v hj=>?_⟩,?_,?_,(fun h=>by cases h),fun _=>hown.2⟩,tu rfl,rfl⟩)
     ·rw [List.getElem?_map] at hj
      cases hx:e.2[j]? with
      |none=>rw [hx] at hj;cases hj
      |some s=>rw [hx] at hj;cases hj;exact hcs j s hx
     ·simp only [List.length_map];show oj+e.2.length<=c.size;omega
     ·intro v hv
      obtain ⟨s,_,rfl⟩:=List.mem_map.1 hv
      rfl
    let R':Nat->Prop:=fun b=>RS L ms.toList b/\b≠bj
    have hno:u5 (μ.set S.H.next Lj) ⟨max S.H.next (S.H.next+1),(S.H.next,.arr .str e.2 false)::bC S.H.next S.H.bl⟩ R':=by
     intro id B L' h1 h2 h3
     simp only [aG] at h1
     split at h1
     ·rename_i he; subst he
      rw [iw] at h2;cases h2
      exact h3.2 rfl
     ·rename_i he
      unfold Mu.set at h2
      rw [if_neg he] at h2
      exact hG.k5 id B L' h1 h2 h3.1
    have qD:dU P N (Y.k4 wd ι (μ.set S.H.next Lj) R') ι (μ.set S.H.next Lj) ⟨S.env,⟨S.H.next+1,(S.H.next,.arr .str e.2 false)::bC S.H.next S.H.bl⟩,S.ms⟩ a wd :=
     ⟨hR.env.mono (aj.le_refl _) Aw,hR.sz,by
      have:=Hu.Qr hno
      rw [Nat.max_eq_right (Nat.le_succ _)] at this
      exact this,hR.ms.mono Aw⟩
    have oZ:L.b<wd.heap.size:=(hG.low _ (.inl rfl)).2
    have hbk:∀id B,av id S.H.bl=some B->av id ((S.H.next,lJ.arr .str e.2 false)::bC S.H.next S.H.bl)=some B:=fun id B hb=>by
     have:=hlt _ _ hb
     rw [aG,if_neg (by omega)];exact hb
    have Ud:∀id B,av id S.H.bl=some B->av id (bF [(S.H.next,none),(S.H.next+1+15,some (.arr .str (e.2++[x]) false))] ((S.H.next+1+14,.arr .str [x] false)::bC (S.H.next+1+14) ((S.H.next,.arr .str e.2 false)::bC S.H.next S.H.bl)))=some B:=fun id B hb=>by
     have:=hlt _ _ hb
     simp only [bF]
     rw [aG,if_neg (by omega),bh,if_neg (by omega),aG,if_neg (by omega)]
     exact hbk _ _ hb
    refine Yf (Y := Y.k4 wd ι (μ.set S.H.next Lj) R') (b := S.H.next + 1) (n := e.2.length) (k := k) (x := x) (X := .sl S.H.next .str 0 e.2.length) (y := m.val) (u15 := [(S.H.next, none), (S.H.next + 1 + 15, some (.arr .str (e.2 ++ [x]) false))]) (L := L) jr Yg CI.2 qD (Aw _ _ hG.mu) oZ (fun hX => hX.2 ⟨.inl rfl, hnL⟩) g3 g9 g10 (hbk _ _ b2) (hbk _ _ b4) (hbk _ _ b9)
     (fun t w' ht hw=>(hrun t ht).1 w' L.b (hw.trans hG.hb)) (fun ι' μ' hle=>?_) (fun env h1 h2=>?_) jP ?_ ?_
    ·rw [hv]
     have:=Rel.sl (ι:=ι') (μ:=μ') S.H.next .str 0 e.2.length cap Lj (hle _ _ iw) hcap (by simp only [Ty.sz,Lj];omega) (by simp [Lj])
     simpa [Lj,Ty.sz] using this
    ·have u1 : S.H.next + 1 + 14 ≠ S.H.next := by omega
     have u2:S.H.next≠S.H.next+1+14:=by omega
     simp [cg,O.ev,h1,h2,elems,bA,bh,kD,Ty.sz,eL,bn,u1,u2]
    ·intro id cs f hb
     rw [aG] at hb
     split at hb
     ·cases hb
     ·exact Ud _ _ hb
    ·intro ι2 μ2 a2 w2 tw mH hle2 ht1 ht2
     refine Yj (xs:=e.2) (k:=k) (x:=x) (b:=S.H.next+1) (bP:=bP) (env':=env') nG hsz hG Hu Aw (fun _ h=>h.1) ⟨.inl rfl,hnL⟩ mH hle2 (ht1 3 84 _ (by simp [bQ])) (ht1 5 86 _ (by simp [bQ])) (ht1 15 96 _ (by simp [bQ])) ?_ ?_ rfl ?_ ?_ ?_
     ·simp only [bF];rw [aG,if_pos rfl]
     ·intro id B1 h1
      have h2:=qz _ _ h1
      have:=hlt _ _ h2
      exact ⟨Ud _ _ h2,by omega⟩
     ·intro t
      rcases MX t with h|⟨h,h81⟩
      ·exact .inl h
      ·exact .inr (h.trans (ht2 t (dw t h81 _ _ _)).symm)
     ·intro t z bz ht hz hbz hs hnz hm
      exact ⟨_,_,_,MW hG r3 r6 r7 r4 hbj ((hrun t ht).2 w2 L.b z hm) hz hbz (fun b h1 h2=>hs b ⟨h1,h2⟩) hnz⟩
     ·exact ⟨rfl,rfl,rfl⟩
 |seq x y _ _ =>
  intro h
  simp only [fU] at h
  split at h<;>try (cases h;done)
  split at h<;>try (cases h;done)
  split at h<;>cases h
 |cond c0 x y _ _ =>
  intro h
  simp only [fU] at h
  split at h<;>cases h
 |block id b _ =>
  intro h
  simp only [fU] at h
  cases hx:fU P N b<;>simp [hx] at h
 |loop b _ =>
  intro h
  simp only [fU] at h
  cases hx:fU P N b<;>simp [hx] at h
 |rangeFunc f ps x y _ _ =>
  intro h
  simp only [fU] at h
  split at h<;>cases h
end
end Go.AM
end
section
namespace Go.AM
section
variable {P:Program} {N:Nat} {Y:Ctx} {ι ι':aj} {μ μ':Mu} {H:aF} {w w':World} {out:Option Nat} {base gi:Nat} {es:List (ByteArray×List ByteArray)} {L:Loc} {ms:Array MapEntry} {clock:Nat} {dJ:List (ByteArray×List ByteArray)} {a:Act}
theorem fK.entR {ι : aj} : ∀ {es : List (ByteArray × List ByteArray)} {ms : List MapEntry}, fK w es ms → (∀ m ∈ ms, ∀ b, gQ m.val = some b → ∀ o, ι b o = w.cell? ⟨b, o, none⟩) → fC ι .str false (.list .str) false es ms
 |[],_,h,_=>h
 |e0::es,_,⟨m,r,h0,h1,h2,h3⟩,hi=>by
  subst h0
  refine ⟨m,r,rfl,by rw [h1];exact ⟨[.string e0.1],rfl,rfl⟩,?_,fK.entR h3 fun m hm=>hi m (List.mem_cons_of_mem _ hm)⟩
  obtain ⟨b,o,cap,c,e,hv,g0,g1,g2,g3,g4⟩:=h2
  have hb:=hi m (List.mem_cons_self ..) b (by rw [hv];rfl)
  rw [hv]
  refine ⟨[_],⟨_,cap,rfl,g1,.inr ⟨b,o,e0.2.map Value.string,rfl,fun j u hu=>?_,tu rfl⟩⟩,rfl⟩
  rw [List.getElem?_map] at hu
  cases hx:e0.2[j]? with
  |none=>rw [hx] at hu;cases hu
  |some s =>
   rw [hx] at hu;cases hu
   have:=g4 j s hx
   rw [hb]
   simp [World.cell?,g2,this]
open Classical in
theorem Gh.back (hI:Inv P Y ι μ H w) (hG:Gh gi Y ι μ H w es L ms clock dJ) (CG:gi<H.next):∃ι',ι.le ι'/\Inv P Y ι' μ ⟨H.next,(gi,.map .str false (.list .str) false es)::bC gi H.bl⟩ w:=by
 let li:Nat->Prop:=fun b=>∃m∈ms.toList,gQ m.val=some b
 let ι':aj:=fun b o=>if li b then w.cell? ⟨b,o,none⟩ else ι b o
 have SV:∀b,li b->∀o,ι' b o=w.cell? ⟨b,o,none⟩:=fun b h o=>by simp only [ι',if_pos h]
 have hnl:∀b,¬li b->∀o,ι' b o=ι b o:=fun b h o=>by simp only [ι',if_neg h]
 have hown:∀b,li b->Y.own b/\∀o,ι b o=none:=fun b h=>hG.own b (.inr h)
 have hle:ι.le ι':=fun b o x hx=>by
  by_cases h:li b
  ·rw [(hown b h).2] at hx;cases hx
  ·rw [hnl b h];exact hx
 have hLn:¬li L.b:=by
  rintro ⟨m,hm,hb⟩
  obtain ⟨i,hi⟩:=List.mem_iff_getElem?.1 hm
  have hcells:∀(es:List (ByteArray×List ByteArray)) (ms:List MapEntry),fK w es ms->m∈ms->∃c e,w.heap[L.b]?=some (.cells c e (0,0)):=by
   intro es ms he hm
   induction es generalizing ms with
   |nil=>simp [fK] at he;subst he;cases hm
   |cons e es ih =>
    obtain ⟨m0,r,rfl,_,h2,h3⟩:=he
    rcases List.mem_cons.1 hm with rfl|hm
    ·obtain ⟨b', o', cap', c', e', h4, _, _, h5, _⟩ := h2
     rw [h4] at hb;cases hb;exact ⟨_,_,h5⟩
    ·exact ih _ h3 hm
  obtain ⟨c',e',h'⟩:=hcells _ _ hG.mX hm
  rw [hG.hb] at h';cases h'
 have hold:∀id B,av id H.bl=some B->dZ P Y.own ι' μ id w B:=fun id B hB =>
  (hI.live id B hB).mono hle (Mu.le_refl _) (fun h=>h) (fun _ _=>rfl) fun L' hL' ho o=>by
   rw [hnl _ (fun h=>hG.k5 id B L' hB hL' (.inr h))];exact ho o
 refine ⟨ι',hle,hI.below,aj.le_trans hI.i0 hle,fun b o hb hx=>?_,fun b o x hx=>?_,hI.m0,hI.nx,fun id B hB=>?_,?_,fun id B hB=>?_,hI.gl⟩
 ·by_cases h : li b
  ·rcases (hown b h).1 with h' | h'
   ·omega
   ·exact absurd h' hx
  ·rw [hnl b h];exact hI.iB b o hb hx
 ·by_cases h : li b
  ·rw [SV b h] at hx;exact hx
  ·rw [hnl b h] at hx;exact hI.rd b o x hx
 ·simp only at hB
  rw [aG] at hB
  split at hB
  ·rename_i e; subst e; cases hB
   exact ⟨L,ms,clock,dJ,hG.mu,(hG.own _ (.inl rfl)).1,hG.hb,hG.mX.entR fun m hm b hb o=>SV b ⟨m,hm,hb⟩ o,hG.Qu,hG.S2,hG.perm,hG.kd⟩
  ·exact hold id B hB
 ·intro id id' B B' L1 L2 h1 h2 iu hm2 e
  simp only at h1 h2
  rw [aG] at h1 h2
  by_cases e1:id=gi<;>by_cases e2:id'=gi
  ·rw [e1,e2]
  ·subst e1
   rw [if_neg e2] at h2
   rw [hG.mu] at iu;cases iu
   exact absurd (.inl e.symm) (hG.k5 _ _ _ h2 hm2)
  ·subst e2
   rw [if_neg e1] at h1
   rw [hG.mu] at hm2;cases hm2
   exact absurd (.inl e) (hG.k5 _ _ _ h1 iu)
  ·rw [if_neg e1] at h1; rw [if_neg e2] at h2
   exact hI.inj id id' B B' L1 L2 h1 h2 iu hm2 e
 ·simp only at hB
  rw [aG] at hB
  split at hB
  ·rename_i e;subst e;exact CG
  ·exact hI.lt id B hB
theorem Ut {bl bP:ah} {nx:Nat} (hI:Inv P Y ι μ ⟨nx,bl⟩ w) (hb:av gi bl=some (.map .str false (.list .str) false [])) (qz:∀id B,av id bP=some B->av id bl=some B/\id≠gi) :
  Inv P Y ι μ ⟨nx,bP⟩ w/\GG gi Y ι μ ⟨nx,bP⟩ w []:=by
 obtain ⟨L,ms,clock,dJ,h1,h2,h3,h4,h5,h6,h7,h8⟩:=hI.live _ _ hb
 have he:dJ=[]:=h7.eq_nil
 subst he
 have Mk:ms.toList=[]:=h4
 have SU:∀b,RS L ms.toList b->b=L.b:=fun b h=>by
  rcases h with h|⟨m,hm,_⟩
  ·exact h
  ·rw [Mk] at hm;cases hm
 refine ⟨hI.sub fun id B h=>(qz id B h).1,L,ms,clock,[],h1,h3,Mk,h5,h6,.refl _,h8,fun b hb=>?_,fun i j m m' hi=>(by rw [Mk] at hi;simp at hi),fun id B L' hB hL' hr=>?_⟩
 ·rw [SU b hb]
  refine ⟨h2,fun o=>?_⟩
  cases wG:ι L.b o with
  |none=>rfl
  |some x =>
   have:=hI.rd _ _ _ wG
   simp [World.cell?,h3] at this
 ·obtain ⟨q1, q2⟩ := qz id B hB
  exact q2 (hI.inj _ _ _ _ _ _ q1 hb hL' h1 (SU _ hr))
noncomputable def cxN:Cx:=aM [] []
theorem aaH:cxN.Ok P:=ak trivial trivial
theorem Yk (mixed : P.follows .mixedOrders = true) {c : C} (hd : ∀ base, (dO [] c 0 : D P N out base).er = c) {env : Env} {nx : Nat} {bl : ah} {ms : List Nat} {r : Ex × Env × Nat × ah × List Nat}
  (h:∀base,kE (iz (Ex×Env×Nat×ah×List Nat)) cxN bW (dO [] c 0:D P N out base) env nx bl ms (fun e env nx bl ms=>some (e,env,nx,bl,ms))=some r) :
  gC P N out gi c ⟨env,⟨nx,bl⟩,ms⟩ es fun e S' es'=>es'=es/\e=r.1/\S'=⟨r.2.1,⟨r.2.2.1,r.2.2.2.1⟩,r.2.2.2.2⟩:=by
 refine aax mixed ?_
 have:=kX aaH (h nx) (Q:=fun e S'=>e=r.1/\S'=⟨r.2.1,⟨r.2.2.1,r.2.2.2.1⟩,r.2.2.2.2⟩) fun e env nx bl ms hk=>by
  cases hk;exact ⟨rfl,rfl⟩
 rw [hd nx] at this
 exact this
theorem GG.kf {base:Nat} {π:List Nat} {S S':St} (hE:jw base π S S') (hR:dU P N Y ι μ S a w) (hG:GG gi Y ι μ S.H w es) (CG:π[gi]?=some gi):GG gi Y ι (μ.kf π) S'.H w es:=by
 obtain ⟨L,ms,clock,dJ,hG⟩:=hG
 refine ⟨L,ms,clock,dJ,hG.keep (by simp [Mu.kf,CG]) (fun b hb=>⟨(hG.own b hb).1,rfl,fun _=>rfl⟩) fun id B L' hB hL' hr=>?_⟩
 obtain ⟨i,h1,h2⟩:=hE.bl (id,B) (dD hB)
 have Z5:μ i=some L':=by simpa [Mu.kf,h1] using hL'
 have hx:∀B',av i S.H.bl=some B'->False:=fun B' hb=>hG.k5 i B' L' hb Z5 hr
 cases B<;>simp only at h2
 ·obtain ⟨ds,h3,_⟩:=h2;exact hx _ h3
 ·rcases h2 with h3 | ⟨_, h3⟩
  ·exact hx _ h3
  ·rw [hR.inv.nx i h3] at Z5;cases Z5
 ·obtain ⟨_,_,h3,_⟩:=h2;exact hx _ h3
 ·exact hx _ h2
 ·exact hx _ h2
 ·obtain ⟨_,h3,_⟩:=h2;exact hx _ h3
theorem MY {n base:Nat} {S S':St} (hb:base<=n) (JT:S'.H.next=n) (Mk:S'.ms=[]) (hms':S.ms=[]) (MX:∀p∈S'.env,EV (List.range n) p.2 (get p.1 S.env)) (qz:∀p∈S'.H.bl,p.1<n/\EBk (List.range n) S.H.next S.H.bl p.1 p.2):jw base (List.range n) S S' where
 pre:=by rw [List.take_range,Nat.min_eq_left hb]
 nx:=by rw [JT,List.length_range]
 ms:=by rw [Mk,hms'];rfl
 env:=MX
 bl:=fun p hp=>(qz p hp).2
 inj:=fun p hp q hq e=>by
  rw [List.getElem?_range (qz p hp).1,List.getElem?_range (qz q hq).1] at e
  exact Option.some.inj e
theorem gu (mixed : P.follows .mixedOrders = true) {is : List dn} {cb : C} {env env' : Env} {nx HC : Nat} {bl bP : ah} {ms ms' : List Nat} {Q : Ex → St → List (ByteArray × List ByteArray) → Prop}
  (h:∀base,kE (iz (Ex×Env×Nat×ah×List Nat)) cxN bW (dO [] (.aX is) 0:D P N out base) env nx bl ms (fun e env nx bl ms=>some (e,env,nx,bl,ms))=some (.normal,env',HC,bP,ms'))
  (hb:gC P N out gi cb ⟨env',⟨HC,bP⟩,ms'⟩ es Q):gC P N out gi (.seq (.aX is) cb) ⟨env,⟨nx,bl⟩,ms⟩ es Q:=by
 refine Ko (fun _ _ h=>by cases h) (Yk mixed (fun _=>rfl) h) (fun S' es' hq=>?_) (fun i S' es' hq=>by cases hq.2.1) (fun S' es' hq=>by cases hq.2.1)
 obtain ⟨rfl,_,rfl⟩:=hq
 exact hb
theorem FZ (mixed : P.follows .mixedOrders = true) {c : C} (hd : ∀ base, (dO [] c 0 : D P N out base).er = c) {env env' : Env} {nx HC : Nat} {bl bP : ah} {ms ms' : List Nat} {ex : Ex} {Q : Ex → St → List (ByteArray × List ByteArray) → Prop}
  (h:∀base,kE (iz (Ex×Env×Nat×ah×List Nat)) cxN bW (dO [] c 0:D P N out base) env nx bl ms (fun e env nx bl ms=>some (e,env,nx,bl,ms))=some (ex,env',HC,bP,ms'))
  (hq:Q ex ⟨env',⟨HC,bP⟩,ms'⟩ es):gC P N out gi c ⟨env,⟨nx,bl⟩,ms⟩ es Q :=
 Qv (Yk mixed hd h) fun e S' es' ⟨h1,h2,h3⟩=>by subst h1;subst h2;subst h3;exact hq
def GRnd (gi base:Nat) {α β:Type} (I:α->St) (ES:α->List (ByteArray×List ByteArray)) (X:β->Ex×St) (nb:β->List (ByteArray×List ByteArray)) (r:α ⊕ β) (e:Ex) (S':St) (es':List (ByteArray×List ByteArray)):Prop:=match r with
 | .inl y=>e = .normal/\es'=ES y/\∃π:List Nat,π[gi]?=some gi/\jw base π S' (I y)
 | .inr b=>e ≠ .normal/\e=(X b).1/\gi<S'.H.next/\es'=nb b/\∃π,jw base π ⟨S'.env,⟨S'.H.next,(gi,.map .str false (.list .str) false es')::bC gi S'.H.bl⟩,S'.ms⟩ (X b).2
theorem aaI {base : Nat} {α β : Type} {I : α → St} {ES : α → List (ByteArray × List ByteArray)} {X : β → Ex × St} {step : α → Option (α ⊕ β)} {c : C} {nb : β → List (ByteArray × List ByteArray)}
  (hstep:∀x r,step x=some r->gC P N out gi c (I x) (ES x) (GRnd gi base I ES X nb r))
  {x:α} {b:β} (hx:iter step x=some b) {K:Ex->St->Prop} (hK:K (X b).1 (X b).2) {body:Code} (hbody:fU P N body=some c) {a:Act} (ho:kO Y out) (hb:Y.base base) (hR:dU P N Y ι μ (I x) a w) (hG:GG gi Y ι μ (I x).H w (ES x)) :
  (Code.loop body).wpIn Y.F 0 P (Post P N Y K) a w:=by
 obtain ⟨n,hn⟩:=uQ hx
 refine wpIn_loop_ghost (fun (n:Nat) a w=>∃Y1,Ext P Y Y1/\∃x ι μ,dU P N Y1 ι μ (I x) a w/\GG gi Y1 ι μ (I x).H w (ES x)/\jm step n x=some b) id (x:=n) ⟨Y,.refl Y,x,ι,_,hR,hG,hn⟩ ?_
 rintro n a w ⟨Y0,Oi,x,ι,μ,hR,hG,hx⟩
 cases n with
 |zero=>cases hx
 |succ n =>
  simp only [jm] at hx
  split at hx
  ·cases hx
  ·rename_i y e
   refine wpIn_mono (Dl (hstep x _ e body hbody) Oi ho hR hG) fun e a' w' hp=>?_
   obtain ⟨Y1,hY,ι',μ',S',e',es',h1,h2,⟨rfl,rfl,π',h3,h4⟩,h5⟩:=hp
   cases h2
   exact ⟨n,⟨Y1,hY,y,ι',_,h4.rep (hY.vH hb) h1,h5.kf h4 h1 h3,hx⟩,Nat.lt_succ_self n⟩
  ·rename_i b' e
   cases hx
   refine wpIn_mono (Dl (hstep x _ e body hbody) Oi ho hR hG) fun e a' w' hp=>?_
   obtain ⟨Y1,hY,ι',μ',S',e',es',h1,h2,⟨hne,h3,hlt,rfl,π',h4⟩,L,ms,clock,dJ,h5⟩:=hp
   obtain ⟨ι2,hi2,oJ⟩:=h5.back h1.inv hlt
   have h6:dU P N Y1 ι2 μ' ⟨S'.env,⟨S'.H.next,(gi,.map .str false (.list .str) false (nb b))::bC gi S'.H.bl⟩,S'.ms⟩ a' w':=⟨h1.env.mono hi2 (Mu.le_refl _),h1.sz,oJ,h1.ms⟩
   have hp:Post P N Y K e a' w':=⟨Y1,hY,ι2,_,_,_,h4.rep (hY.vH hb) h6,by rw [<-h3];exact h2,hK⟩
   cases e' with
   |normal=>exact absurd rfl hne
   |exit id=>cases h2;exact hp
   |ret=>cases h2;exact hp
end
end Go.AM
end
