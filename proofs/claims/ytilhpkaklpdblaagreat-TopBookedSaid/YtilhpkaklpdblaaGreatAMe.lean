/- Keys in order; slices.Sort on a list of strings or numbers behind a block, by the library's own theorems. maps.Clone, by the library's own theorem. -/
import Derived.Test.YtilhpkaklpdblaaGreatAMd
import Derived.Shelf.Sort.Plain
import Derived.Shelf.Slices.In.SortNone
import Derived.Shelf.SlMaps.Clone
set_option linter.unusedSectionVars false
set_option linter.unusedVariables false
set_option linter.unusedSimpArgs false
section
namespace Go.AM
open Go.Sort Go.Proofs Go.Shelf
theorem zi (a b:UInt8) (x y:List UInt8):Op.bytesLess (a::x) (b::y)=true↔a.toNat<b.toNat\/(a.toNat=b.toNat/\Op.bytesLess x y=true):=by
 simp only [Op.bytesLess,Bool.or_eq_true,decide_eq_true_eq,Bool.and_eq_true,beq_iff_eq,UInt8.lt_iff_toNat_lt,<-UInt8.toNat_inj]
theorem FQ : ∀ {x y : List UInt8}, Op.bytesLess x y = true → Op.bytesLess y x = true → False
 |_,[],h,_=>by simp [Op.bytesLess] at h
 |[],_::_,_,h=>by simp [Op.bytesLess] at h
 |a::x,b::y,h,h'=>by
  rw [zi] at h h'
  rcases h with h|⟨h,q⟩
  ·rcases h' with h'|⟨h',_⟩<;>omega
  ·rcases h' with h' | ⟨_, q'⟩
   ·omega
   ·exact FQ q q'
theorem BK : ∀ {x y : List UInt8}, Op.bytesLess x y ≠ true → Op.bytesLess y x ≠ true → x = y
 |[],[],_,_=>rfl
 |_::_,[],_,h=>by simp [Op.bytesLess] at h
 |[],_::_,h,_=>by simp [Op.bytesLess] at h
 |a::x,b::y,h,h'=>by
  rw [ne_eq,zi] at h h'
  have e:a.toNat=b.toNat:=by omega
  rw [BK (x:=x) (y:=y) (fun q=>h (.inr ⟨e,q⟩)) (fun q=>h' (.inr ⟨e.symm,q⟩)),UInt8.toNat_inj.1 e]
theorem BL : ∀ {x y z : List UInt8}, Op.bytesLess x y = true → Op.bytesLess y z = true → Op.bytesLess x z = true
 |_,_,[],_,h=>by simp [Op.bytesLess] at h
 |_,[],_::_,h,_=>by simp [Op.bytesLess] at h
 |[],_::_,_::_,_,_=>by simp [Op.bytesLess]
 |a::x,b::y,c::z,h,h'=>by
  rw [zi] at h h' ⊢
  rcases h with h|⟨h,q⟩
  ·rcases h' with h'|⟨h',_⟩<;>(left;omega)
  ·rcases h' with h' | ⟨h', q'⟩
   ·left;omega
   ·right;exact ⟨by omega,BL q q'⟩
theorem kZ : ∀ {t : Ty} {ks : List Kd} (x : t.den), bG t = some ks → eB t x x = true
 | .unit,_,_,_=>rfl
 | .bool,_,x,_=>by simp [eB]
 | .str,_,x,_=>by simp [eB]
 | .int _,_,x,_=>by simp [eB]
 | .list _,_,_,h=>by cases h
 | .cL _ _ _,_,_,h=>by cases h
 | .prod a b,_,x,h=>by
  simp only [bG] at h
  split at h<;>try (cases h;done)
  rename_i k1 k2 h1 h2
  simp only [eB,kZ x.1 h1,kZ x.2 h2,Bool.and_self]
theorem ef : ∀ {t : Ty} {ks : List Kd} {x y : t.den}, bG t = some ks → gZ t x y = true → gZ t y x = true → False
 | .unit,_,_,_,_,h,_=>by simp [gZ] at h
 | .bool,_,x,y,_,h,h'=>by cases x<;>cases y<;>simp [gZ] at h h'
 | .str,_,x,y,_,h,h'=>FQ h h'
 | .int _,_,x,y,_,h,h'=>by simp only [gZ,decide_eq_true_eq] at h h';exact Int.lt_asymm h h'
 | .list _,_,_,_,h,_,_=>by cases h
 | .cL _ _ _,_,_,_,h,_,_=>by cases h
 | .prod a b,_,x,y,h,h1,h2=>by
  simp only [bG] at h
  split at h<;>try (cases h;done)
  rename_i k1 k2 q1 q2
  simp only [gZ,Bool.or_eq_true,Bool.and_eq_true] at h1 h2
  rcases h1 with h1|⟨e1,h1⟩
  ·rcases h2 with h2 | ⟨e2, h2⟩
   ·exact ef q1 h1 h2
   ·rw [bS e2] at h1;exact ef q1 h1 h1
  ·rcases h2 with h2 | ⟨e2, h2⟩
   ·rw [bS e1] at h2;exact ef q1 h2 h2
   ·exact ef q2 h1 h2
theorem Km {t:Ty} {ks:List Kd} {x:t.den} (h:bG t=some ks):gZ t x x=false:=by
 cases h':gZ t x x
 ·rfl
 ·exact (ef h h' h').elim
theorem kq : ∀ {t : Ty} {ks : List Kd} {x y : t.den}, bG t = some ks → gZ t x y = false → gZ t y x = false → x = y
 | .unit,_,_,_,_,_,_=>rfl
 | .bool,_,x,y,_,h,h'=>by cases x<;>cases y<;>simp [gZ] at h h' ⊢
 | .str,_,x,y,_,h,h'=>by
  have e:=BK (x:=x.toList) (y:=y.toList) (by simp only [gZ] at h;rw [h];simp) (by simp only [gZ] at h';rw [h'];simp)
  rw [Go.ByteArray.toList_eq,Go.ByteArray.toList_eq] at e
  obtain ⟨x⟩:=x;obtain ⟨y⟩:=y
  simp at e;rw [e]
 | .int _,_,x,y,_,h,h'=>by simp only [gZ,decide_eq_false_iff_not] at h h';exact Int.le_antisymm (Int.not_lt.1 h') (Int.not_lt.1 h)
 | .list _,_,_,_,h,_,_=>by cases h
 | .cL _ _ _,_,_,_,h,_,_=>by cases h
 | .prod a b,_,x,y,h,h1,h2=>by
  simp only [bG] at h
  split at h<;>try (cases h;done)
  rename_i k1 k2 q1 q2
  simp only [gZ,Bool.or_eq_false_iff,Bool.and_eq_false_iff] at h1 h2
  have e1:=kq q1 h1.1 h2.1
  have d1:eB a x.1 y.1=true:=by rw [e1];exact kZ _ q1
  have d2:eB a y.1 x.1=true:=by rw [e1];exact kZ _ q1
  rcases h1.2 with h|h
  ·rw [d1] at h;cases h
  ·rcases h2.2 with h' | h'
   ·rw [d2] at h';cases h'
   ·exact Prod.ext e1 (kq q2 h h')
theorem kr : ∀ {t : Ty} {ks : List Kd} {x y z : t.den}, bG t = some ks → gZ t x y = true → gZ t y z = true → gZ t x z = true
 | .unit,_,_,_,_,_,h,_=>by simp [gZ] at h
 | .bool,_,x,y,z,_,h,h'=>by cases x<;>cases y<;>cases z<;>simp [gZ] at h h' ⊢
 | .str,_,x,y,z,_,h,h'=>BL h h'
 | .int _,_,x,y,z,_,h,h'=>by simp only [gZ,decide_eq_true_eq] at h h' ⊢;exact Int.lt_trans h h'
 | .list _,_,_,_,_,h,_,_=>by cases h
 | .cL _ _ _,_,_,_,_,h,_,_=>by cases h
 | .prod a b,_,x,y,z,h,h1,h2=>by
  simp only [bG] at h
  split at h<;>try (cases h;done)
  rename_i k1 k2 q1 q2
  simp only [gZ,Bool.or_eq_true,Bool.and_eq_true] at h1 h2 ⊢
  rcases h1 with h1|⟨e1,h1⟩
  ·rcases h2 with h2 | ⟨e2, h2⟩
   ·exact .inl (kr q1 h1 h2)
   ·rw [bS e2] at h1;exact .inl h1
  ·rcases h2 with h2 | ⟨e2, h2⟩
   ·rw [<-bS e1] at h2;exact .inl h2
   ·refine .inr ⟨by rw [bS e1];exact e2,kr q2 h1 h2⟩
section
variable {t:Ty} {ks:List Kd}
def EB (t:Ty) (l:List t.den):Prop:=l.Pairwise fun a b=>gZ t b a=false
theorem uY (x : t.den) : ∀ l : List t.den, (ze t x l).Perm (x :: l)
 |[]=>.refl _
 |y::r=>by
  unfold ze
  split
  ·exact .refl _
  ·exact ((uY x r).cons y).trans (.swap _ _ _)
theorem fJ : ∀ l : List t.den, (o8 t l).Perm l
 |[]=>.refl _
 |x::r=>(uY x _).trans ((fJ r).cons x)
theorem FR (hk : bG t = some ks) (x : t.den) : ∀ {l : List t.den}, EB t l → EB t (ze t x l)
 |[],_=>by unfold EB;simp [ze]
 |y::r,h=>by
  unfold EB at h
  rw [List.pairwise_cons] at h
  unfold ze
  split
  ·rename_i hxy
   unfold EB
   rw [List.pairwise_cons]
   refine ⟨fun z hz=>?_,List.pairwise_cons.2 h⟩
   cases hzx:gZ t z x with
   |false=>rfl
   |true =>
    rcases List.mem_cons.1 hz with rfl|hz
    ·exact (ef hk hxy hzx).elim
    ·have := kr hk hzx hxy
     rw [h.1 z hz] at this;cases this
  ·rename_i hxy
   unfold EB
   rw [List.pairwise_cons]
   refine ⟨fun z hz=>?_,FR hk x h.2⟩
   rcases List.mem_cons.1 ((uY x r).mem_iff.1 hz) with rfl|hz
   ·simpa using hxy
   ·exact h.1 z hz
theorem uZ (hk : bG t = some ks) : ∀ l : List t.den, EB t (o8 t l)
 |[]=>.nil
 |x::r=>FR hk x (uZ hk r)
theorem Kn (hk : bG t = some ks) : ∀ {l l' : List t.den}, EB t l → EB t l' → l.Perm l' → l = l'
 |[],l',_,_,h=>(List.nil_perm.1 h).symm▸rfl
 |a::r,[],_,_,h=>by simp at h
 |a::r,b::s,h1,h2,h=>by
  unfold EB at h1 h2
  rw [List.pairwise_cons] at h1 h2
  have e:a=b:=by
   rcases List.mem_cons.1 (h.mem_iff.1 (List.mem_cons_self ..)) with e|ha
   ·exact e
   rcases List.mem_cons.1 (h.mem_iff.2 (List.mem_cons_self ..)) with e|hb
   ·exact e.symm
   ·exact kq hk (h2.1 a ha) (h1.1 b hb)
  subst e
  rw [Kn hk h1.2 h2.2 (List.Perm.cons_inv h)]
theorem tr (hk:bG t=some ks) {l l':List t.den} (h:l'.Perm l) (hs:EB t l'):o8 t l=l':=Kn hk (uZ hk l) hs ((fJ l).trans h.symm)
end
section
variable {P:Program} {ρ:Ren} {t:Ty} {α:Type} [Inhabited α]
theorem Dj (enc:α->Value) (w:World) (m b o:Nat) (d:Array α):putRow enc (Go.Sort.ahead w m) b o d=Go.Sort.ahead (putRow enc w b o d) m:=rfl
theorem vX {f : Nat} (cF : Enters P f) (Mv : t.sz = 1) (enc : α → Value) (g : α → t.den) (hone : ∀ a, (enc a).oneCell' = true) (hg : ∀ (ι : aj) a, af ι t (g a) [enc a]) (hu : ∀ (ι : aj) a v, af ι t (g a) [v] → v = enc a)
  {xs:List t.den} {n:Nat} {zs ys:List α} (hn:n<=xs.length) (hz:xs.take n=zs.map g) (hys:ys.length=n)
  (eF:∀blk off cap w,Holds enc w blk off zs.toArray->blk<w.heap.size->CallsIn Fence.wide 0 P f #[.slice (some ⟨blk,off,none⟩) n cap] w fun e w'=>e = .returned (.tuple #[])/\∃m os,w'=grow (putRow enc (Go.Sort.ahead w m) blk off ys.toArray) os)
  (mz:∀p cap w,n=0->CallsIn Fence.wide 0 P f #[.slice p 0 cap] w fun e w'=>e = .returned (.tuple #[])/\w'=w) :
  eW P f [.sl 0 t 0 n] ⟨1,[(0,.arr t xs false)]⟩ fun r H=>r = .any/\H=⟨1,[(0,.arr t (ys.map g++xs.drop n) false)]⟩:=by
 refine ⟨cF,fun Y ι μ w args hI hl=>?_⟩
 obtain ⟨v0,a1,ea,r0,hl1⟩:=hl.bL
 have Qn:=hl1.of_nil
 subst Qn
 have hargs:args=#[v0]:=by apply Array.ext';simpa using ea
 subst hargs
 have hb:av 0 (aF.bl ⟨1,[(0,lJ.arr t xs false)]⟩)=some (.arr t xs false):=rfl
 have hzl:zs.length=n:=by
  have:=congrArg List.length hz
  simp only [List.length_take,List.length_map] at this
  omega
 cases r0 with
 |bO =>
  have hy0:ys=[]:=List.eq_nil_of_length_eq_zero hys
  subst hy0
  refine (mz _ _ _ rfl).mono ?_
  rintro e w' ⟨rfl,rfl⟩
  exact ⟨.tuple #[],ι,μ,.any,_,rfl,aj.le_refl _,Mu.le_refl _,hI,.any _,rfl,by simp⟩
 |sl _ _ _ _ cap Lc iw hcap htot hlen =>
 rcases hI.live 0 _ hb with ⟨rfl,hno⟩|⟨L',vs,hM,hR,hl'⟩
 ·rw [hno] at iw;cases iw
 have hLL:Lc=L':=by have:=iw.symm.trans hM.mu;cases this;rfl
 subst hLL
 have hfree:=hM.sk rfl
 have hvl:vs.length=xs.length:=by have:=hR.length (fun _ _=>af.length);rw [Mv,Nat.mul_one] at this;exact this
 have hel:∀j,(hj:j<n)->vs[j]?=some (enc (zs[j]'(by omega))):=fun j hj=>by
  have hx:xs[j]?=some (g (zs[j]'(by omega))):=by
   have h1:(xs.take n)[j]?=(zs.map g)[j]?:=by rw [hz]
   have h2:zs[j]?=some (zs[j]'(by omega)):=List.getElem?_eq_getElem (by omega)
   rw [List.getElem?_take,if_pos hj,List.getElem?_map,h2] at h1
   exact h1
  have:=hR.at (fun _ _=>af.length) hx
  rw [Mv,Nat.mul_one] at this
  have hvj:(vs.drop j).take 1=[vs[j]'(by omega)]:=by
   rw [List.drop_eq_getElem_cons (by omega)];rfl
  rw [hvj] at this
  rw [List.getElem?_eq_getElem (by omega),hu ι _ _ this]
 have hba:Lc.ba+0 * t.sz=Lc.ba:=by omega
 have hH:Holds enc w Lc.b Lc.ba zs.toArray:=fun j hj=>by
  have hj:j<n:=by simpa [hzl] using hj
  have e:zs.toArray[j]! = zs[j]'(by omega):=by rw [getElem!_pos _ j (by simpa [hzl] using hj)];simp
  rw [e]
  refine ⟨hM.rangeAt j _ (hel j hj),?_⟩
  have hf:=hM.fits
  exact (hM.there (o:=Lc.ba) (k:=vs.length) (Nat.le_refl _) hf j (by omega)).2
 obtain ⟨cc,ce,hrow,hcs,hcj⟩:=hM.row
 have hblk:Lc.b<w.heap.size:=(Array.getElem?_eq_some_iff.1 hrow).1
 rw [hba]
 refine (eF _ _ cap w hH hblk).mono ?_
 rintro e w' ⟨rfl,m,os,rfl⟩
 rw [Dj]
 let w1:=putRow enc w Lc.b Lc.ba ys.toArray
 have FT:(ys.map enc++vs.drop n).length=vs.length:=by simp [hys];omega
 have hok:dZ P Y.own ι μ 0 w1 (.arr t (ys.map g++xs.drop n) false):=by
  refine .inr ⟨Lc,ys.map enc++vs.drop n,⟨hM.mu,hM.old,⟨putCells enc Lc.ba ys.toArray cc,ce,?_,?_,fun j v rE=>?_⟩,by rw [FT];exact hM.fits,fun v rE=>?_,(fun e=>by cases e),fun _=>hfree⟩,?_,?_⟩
  ·show (mapBlock w Lc.b (putCells enc Lc.ba ys.toArray)).heap[Lc.b]? = _
   unfold mapBlock
   simp only [Array.getElem?_modify,if_true,hrow,Option.map_some,onCells]
  ·simp [putCells,hcs]
  ·have hj : j < vs.length := by rw [← FT]; exact (List.getElem?_eq_some_iff.1 rE).1
   have hc:=hcj j _ (List.getElem?_eq_getElem hj)
   simp only [putCells,Array.getElem?_mapIdx,hc,Option.map_some]
   by_cases hjn:j<n
   ·rw [if_pos (by simp [hys]; omega)]
    rw [List.getElem?_append_left (by simp [hys,hjn])] at rE
    rw [<-rE,show Lc.ba+j - Lc.ba=j by omega]
    simp [hys,hjn]
   ·rw [if_neg (by simp [hys]; omega)]
    rw [List.getElem?_append_right (by simp [hys];omega)] at rE
    rw [<-rE]
    simp only [List.length_map,hys,List.getElem?_drop]
    rw [show n+(j - n)=j by omega,List.getElem?_eq_getElem hj]
  ·rcases List.mem_append.1 rE with h' | h'
   ·obtain ⟨e, _, rfl⟩ := List.mem_map.1 h'
    exact hone e
   ·exact hM.one v (List.mem_of_mem_drop h')
  ·have fc:∀l:List α,bx (af ι t) (l.map g) (l.map enc):=fun l=>by
    induction l with
    |nil=>rfl
    |cons a r ih=>exact ⟨[enc a],_,rfl,hg ι a,ih⟩
   refine (fc ys).append ?_
   have:=hR.drop (fun _ _=>af.length) n
   rwa [Mv,Nat.mul_one] at this
  ·simp [hys]
   omega
 have Hu:Inv P Y ι μ ⟨1,[(0,.arr t (ys.map g++xs.drop n) false)]⟩ w1 :=
  hI.turn hb hM.mu hfree (w':=w1) rfl rfl rfl rfl (Go.Sort.size_putRow _ _ _ _ _) (fun k hk=>by
   show (mapBlock w Lc.b _).heap[k]?=_
   unfold mapBlock
   simp [Array.getElem?_modify,Ne.symm hk]) (.no (fun ms c e=>by obtain ⟨_,_,h1,_⟩:=hM.row;rw [h1] at e;cases e)) hok
 have Yc:Dw w1 (grow (Go.Sort.ahead w1 m) os):=by
  refine ⟨⟨rfl,rfl,rfl,by simp [grow,Go.Sort.ahead],fun k hk=>?_⟩,by simp [grow,Go.Sort.ahead]⟩
  simp only [grow,Go.Sort.ahead]
  exact Array.getElem?_append_left hk
 have hrd:dA ι (grow (Go.Sort.ahead w1 m) os):=dA.kept Hu.rd Yc
 exact ⟨.tuple #[],ι,μ,.any,_,rfl,aj.le_refl _,Mu.le_refl _,Hu.called (aj.le_refl _) (fun _ _ _=>rfl) hrd Yc,.any _,rfl,rfl⟩
theorem Qo (L:Lays.n189 P ρ) (cF:Enters P (ρ.f 189)) {xs:List Int} {n:Nat} {y:List Int×Unit} (h:wO (.int .i64) xs n=some y) :
  eW P (ρ.f 189) [.sl 0 (.int .i64) 0 n] ⟨1,[(0,.arr (.int .i64) xs false)]⟩ fun r H=>r = .any/\H=⟨1,[(0,.arr (.int .i64) y.1 false)]⟩:=by
 unfold wO at h
 split at h<;>try (cases h;done)
 rename_i hc
 cases h
 have hb:n<4611686018427387904:=Nat.lt_trans hc.2 (by decide)
 have hs:o8 (.int .i64) (xs.take n)=((xs.take n).mergeSort fun x y=>decide (x<=y)):=by
  refine tr (t:=.int .i64) rfl (List.mergeSort_perm _ _) ?_
  have:=List.pairwise_mergeSort (le:=fun x y:Int=>decide (x<=y)) (fun a b c=>by simp;omega) (fun a b=>by simp;omega) (xs.take n)
  exact this.imp fun {a b} h=>by simp only [gZ];simpa using h
 have hl:((xs.take n).mergeSort fun x y=>decide (x<=y)).length=n:=by rw [(List.mergeSort_perm _ _).length_eq,List.length_take];exact Nat.min_eq_left hc.1
 have h1:(xs.take n).length=n:=by rw [List.length_take];exact Nat.min_eq_left hc.1
 have := vX (P := P) (t := .int .i64) (α := Int) cF rfl (Value.int .i64) (fun z => z) (fun _ => rfl) (fun _ _ => rfl) (fun ι a v h => by simpa [af] using h) hc.1 (zs := xs.take n)
  (ys:=(xs.take n).mergeSort fun x y=>decide (x<=y)) (by simp) hl (fun blk off cap w hH hblk=>by
   have:=Any.slices_Sort_int L blk off cap (xs.take n) w hH hblk (by rw [h1];exact hb)
   rw [h1] at this
   exact callsIn_wide.2 this) (fun p cap w h0=>callsIn_wide.2 (Any.slices_Sort_int_none L p cap w))
 simpa [hs] using this
theorem Qp (L:Lays.n190 P ρ) (cF:Enters P (ρ.f 190)) {xs:List ByteArray} {n:Nat} {y:List ByteArray×Unit} (h:wO .str xs n=some y) :
  eW P (ρ.f 190) [.sl 0 .str 0 n] ⟨1,[(0,.arr .str xs false)]⟩ fun r H=>r = .any/\H=⟨1,[(0,.arr .str y.1 false)]⟩:=by
 unfold wO at h
 split at h<;>try (cases h;done)
 rename_i hc
 cases h
 have hb:n<4611686018427387904:=Nat.lt_trans hc.2 (by decide)
 let g:List UInt8->ByteArray:=fun l=>⟨l.toArray⟩
 have CG:∀b:ByteArray,g b.data.toList=b:=fun b=>by obtain ⟨b⟩:=b;simp [g]
 let zs:List (List UInt8):=(xs.take n).map fun b=>b.data.toList
 have hz:xs.take n=zs.map g:=by
  simp only [zs,List.map_map]
  exact (List.map_id _).symm.trans (List.map_congr_left (fun b _=>(CG b).symm))
 have h1:zs.length=n:=by simp only [zs,List.length_map,List.length_take];exact Nat.min_eq_left hc.1
 have hl:(zs.mergeSort fun x y=>decide (x<=y)).length=n:=by rw [(List.mergeSort_perm _ _).length_eq,h1]
 have hs:o8 .str (xs.take n)=(zs.mergeSort fun x y=>decide (x<=y)).map g:=by
  refine tr (t:=.str) rfl ?_ ?_
  ·rw [hz];exact (List.mergeSort_perm _ _).map g
  ·have := List.pairwise_mergeSort (le := fun x y : List UInt8 => decide (x ≤ y)) (fun a b c => by simp only [decide_eq_true_eq]; exact List.le_trans) (fun a b => by simp only [Bool.or_eq_true, decide_eq_true_eq]; exact List.le_total a b) zs
   unfold EB
   rw [List.pairwise_map]
   refine this.imp fun {a b} h=>?_
   simp only [decide_eq_true_eq] at h
   simp only [gZ,g]
   rw [bytesLess_eq,decide_eq_false_iff_not]
   rw [Go.ByteArray.toList_eq,Go.ByteArray.toList_eq]
   simpa using h
 have := vX (P := P) (t := .str) (α := List UInt8) cF rfl encStr g (fun _ => rfl) (fun _ _ => rfl) (fun ι a v h => by simpa [af] using h) hc.1 (zs := zs)
  (ys:=zs.mergeSort fun x y=>decide (x<=y)) hz hl (fun blk off cap w hH hblk=>by
   have:=Any.slices_Sort_string L blk off cap zs w hH hblk (by rw [h1];exact hb)
   rw [h1] at this
   exact callsIn_wide.2 this) (fun p cap w h0=>callsIn_wide.2 (Any.slices_Sort_string_none L p cap w))
 rw [hs];exact this
end
end Go.AM
end
section
namespace Go.AM
open Go.Proofs Go.Shelf
section
variable {P:Program} {ρ:Ren}
theorem FU (L:SlLaysW.n5 P ρ) (cF:Enters P (ρ.f 5)) {kt vt:Ty} {kg vg:Bool} {es:List (kt.den×vt.den)} :
  eW P (ρ.f 5) [.mp 0] ⟨1,[(0,.map kt kg vt vg es)]⟩ fun r H=>r = .mp 1/\H=⟨2,[(1,.map kt kg vt vg es),(0,.map kt kg vt vg es)]⟩:=by
 refine ⟨cF,fun Y ι μ w args hI hl=>callsIn_wide.2 ?_⟩
 obtain ⟨v0,a1,ea,r0,hl1⟩:=hl.bL
 have Qn:=hl1.of_nil
 subst Qn
 have hargs:args=#[v0]:=by apply Array.ext';simpa using ea
 subst hargs
 have hb:av 0 (aF.bl ⟨1,[(0,lJ.map kt kg vt vg es)]⟩)=some (.map kt kg vt vg es):=rfl
 cases r0 with
 |mp _ L0 hL =>
 obtain ⟨L',ms,clock,dJ,h1,h2,h3,h4,h5,h6,h7,h8⟩:=hI.live 0 _ hb
 rw [hL] at h1;cases h1
 refine (AnyW.maps_Clone L L0.b ms clock w h3).mono ?_
 rintro e w' ⟨rfl,rfl⟩
 let L1:Loc:=⟨w.heap.size,0,0,0⟩
 have hn:μ 1=none:=hI.nx 1 (Nat.le_refl _)
 have hle:=Mu.gd (L:=L1) hn
 have iw:μ.set 1 L1 1=some L1:=by simp [Mu.set]
 have Ig := hI.lay hn (L := L1) rfl (b := .map kt kg vt vg es) (o := .map ms clock) ⟨L1, ms, clock, dJ, iw, .inl hI.below.size, (by
  show (w.heap.push _)[w.heap.size]?=_
  simp),h4,h5,h6,h7,h8⟩
 exact ⟨.map (some w.heap.size),ι,μ.set 1 L1,.mp 1,_,rfl,aj.le_refl _,hle,Ig,.mp _ L1 iw,rfl,rfl⟩
end
end Go.AM
end
