/- The reference: states. The reference: states, all rounds. The reference: versions. The reference: states whole, sums. TicketTotals: the two books. -/
import Derived.Test.YthemjfloiapaaaaGreatR04
set_option linter.unusedSectionVars false
set_option linter.unusedVariables false
set_option linter.unusedSimpArgs false
section
namespace Go.Proofs.Tryz
open Go.AM
set_option maxRecDepth 100000
set_option maxHeartbeats 2000000
theorem bS {α:Type} {l:List α} {i j:Nat} {v d:α} (hi:i<l.length):(l.set i v).getD j d=if i=j then v else l.getD j d:=by
 rw [List.getD_eq_getElem?_getD,List.getD_eq_getElem?_getD,List.getElem?_set]
 by_cases e:i=j
 ·subst e;rw [if_pos rfl,if_pos rfl,if_pos hi];rfl
 ·rw [if_neg e,if_neg e]
theorem HH {α:Type} {n j:Nat} {v:α}:(List.replicate n v).getD j v=v:=by
 rw [List.getD_eq_getElem?_getD,List.getElem?_replicate]
 split<;>rfl
section
variable {c:List Mg}
def mi (c:List Mg) (i:Nat):Mg:=c.getD i zM
theorem fL {i:Nat} (h:i<c.length):mi c i∈c:=by
 unfold mi;rw [List.getD_eq_getElem?_getD,List.getElem?_eq_getElem h];exact List.getElem_mem h
theorem Qu {m:Mg} (h:m∈c):∃i,i<c.length∧mi c i=m:=by
 obtain ⟨i,hi,e⟩:=List.getElem_of_mem h
 exact ⟨i,hi,by unfold mi;rw [List.getD_eq_getElem?_getD,List.getElem?_eq_getElem hi];exact e⟩
theorem HI (hs:SI c) {i j:Nat} (hi:i<c.length) (hj:j<c.length) (e:(mi c i).1=(mi c j).1):i=j:=by
 have key:∀{i j:Nat},i<j→j<c.length→(mi c i).1=(mi c j).1→False:=fun {i j} hij hj e=>by
  have:=(List.pairwise_iff_getElem.1 hs) i j (by omega) hj hij
  unfold mi at e
  rw [List.getD_eq_getElem?_getD,List.getD_eq_getElem?_getD,List.getElem?_eq_getElem hj,List.getElem?_eq_getElem (show i<c.length by omega)] at e
  simp only [Option.getD_some] at e
  rw [e,sC] at this;cases this
 rcases Nat.lt_trichotomy i j with h|h|h
 ·exact (key h hj e).elim
 ·exact h
 ·exact (key h hi e.symm).elim
theorem JT {x:ByteArray} (h:x∈ids c):∃i,i<c.length∧(mi c i).1=x:=by
 obtain ⟨m,hm,rfl⟩:=List.mem_map.1 h
 obtain ⟨i,hi,e⟩:=Qu hm
 exact ⟨i,hi,by rw [e]⟩
theorem aav {i k:Nat} (hi:i<c.length) (h2:(mi c i).2.1=2) (e:(mi c k).1=(mi c i).2.2.1):(mi c i).1∈kids c (mi c k).1:=by
 rw [e];exact tS (fL hi) h2
theorem Cv (hs:SI c) {i:Nat} (hi:i<c.length) {x:ByteArray} (h:(mi c i).1∈kids c x):(mi c i).2.1=2∧(mi c i).2.2.1=x:=JN hs (fL hi) h
theorem agm (hl:c.length≤1000):∃o:List Int,iter (fun a=>ah (g92_0 a)) (c,c.length,(0:Int),List.replicate c.length (0:Int),())=some (c,c.length,o,())∧o.length=c.length∧∀j<c.length,o.getD j 0=1:=by
 obtain ⟨r, h1, o, rfl, h2, h3⟩ := ek (step := fun a => ah (g92_0 a)) c.length (fun k x => ∃ o : List Int, x = (c, c.length, (k : Int), o, ()) ∧ o.length = c.length ∧ ∀ j < k, o.getD j 0 = 1) (fun r => ∃ o : List Int, r = (c, c.length, o, ()) ∧ o.length = c.length ∧ ∀ j < c.length, o.getD j 0 = 1) (by
  rintro k _ hk ⟨o,rfl,ho,hj⟩
  have i1:bZ (k:Int) ((c.length:Nat):Int)=true:=aR (by omega) (by omega)
  have r1:de .i64 ((k:Int)+1)=true:=aH (by omega) (by omega)
  have d1:decide (k<o.length)=true:=decide_eq_true (by omega)
  refine ⟨(c,c.length,((k+1:Nat):Int),o.set k 1,()),?_,o.set k 1,rfl,by simp [ho],fun j hj'=>?_⟩
  ·simp only [g92_0, ak, aN, aS, aJ, aa, Int.toNat_natCast, Nat.zero_add, i1, r1, d1, af, aM]
   rw [if_pos (by omega)]
   rfl
  ·rw [bS (by omega)]
   split
   ·rfl
   ·exact hj j (by omega)) (by
  rintro _ ⟨o,rfl,ho,hj⟩
  simp only [g92_0,ak,aa,aM]
  rw [if_neg (by omega)]
  exact ⟨_,rfl,o,rfl,ho,hj⟩) (x:=(c,c.length,(0:Int),List.replicate c.length (0:Int),())) ⟨List.replicate c.length 0,rfl,by simp,fun j h=>by omega⟩
 exact ⟨o,h1,h2,h3⟩
theorem agn (hs:SI c) (hl:c.length≤1000) {i:Nat} (hi:i<c.length) {PN PO:List Mg} {v44:Int} {PR:ByteArray} {PS v49:Bool} {o:List Int} :
  iter (fun a=>ah (g92_2 a)) (c,c.length,(i:Int),(0:Int),(0:Int),PN,PO,v44,PR,PS,v49,o,()) =
   some (c,c.length,(i:Int),(((c.filter fun m=>decide (m.2.1=2∧m.2.2.1=(mi c i).2.2.1∧m.1≠(mi c i).1∧eP c m.1=true)).length:Nat):Int),PN,PO,v44,PR,PS,v49,o,()):=by
 have CI:c.getD i (bs [],(0:Int),bs [],bs [],(0:Int))=mi c i:=rfl
 have ii:bZ (i:Int) ((c.length:Nat):Int)=true:=aR (by omega) (by omega)
 refine (aP c (fun k (n : Nat) => (c, c.length, (i : Int), (n : Int), (k : Int), PN, PO, v44, PR, PS, v49, o, ()))
  (fun n r=>(c,c.length,(i:Int),((n+(r.filter fun m=>decide (m.2.1=2∧m.2.2.1=(mi c i).2.2.1∧m.1≠(mi c i).1∧eP c m.1=true)).length:Nat):Int),PN,PO,v44,PR,PS,v49,o,())) (fun pre n=>n≤pre.length) ?_ ?_ (s:=0) (Nat.le_refl _)).trans (by rw [Nat.zero_add])
 ·intro pre z post n hz hn
  have hlen:c.length=pre.length+(post.length+1):=by rw [hz];simp
  have hd:c.getD pre.length (bs [],(0:Int),bs [],bs [],(0:Int))=z:=by rw [hz];exact aU rfl
  have Fo:mi c pre.length=z:=hd
  have hne:z.1≠(mi c i).1↔pre.length≠i:=by
   rw [←Fo]
   exact ⟨fun h e=>h (by rw [e]),fun h e=>h (HI hs (by omega) hi e)⟩
  have i1:bZ (pre.length:Int) ((c.length:Nat):Int)=true:=aR (by omega) (by omega)
  have r1:de .i64 ((pre.length:Int)+1)=true:=aH (by omega) (by omega)
  have r2:de .i64 ((n:Int)+1)=true:=aH (by omega) (by omega)
  have Va:=k117 (c:=c) (by omega) z.1
  left
  by_cases h:z.2.1=2∧z.2.2.1=(mi c i).2.2.1∧z.1≠(mi c i).1∧eP c z.1=true
  ·refine ⟨n + 1, ?_, by simp; omega, by rw [List.filter_cons_of_pos (by simpa using h), List.length_cons, show n + 1 + (post.filter fun m => decide (m.2.1 = 2 ∧ m.2.2.1 = (mi c i).2.2.1 ∧ m.1 ≠ (mi c i).1 ∧ eP c m.1 = true)).length = n + ((post.filter fun m => decide (m.2.1 = 2 ∧ m.2.2.1 = (mi c i).2.2.1 ∧ m.1 ≠ (mi c i).1 ∧ eP c m.1 = true)).length + 1) by omega]⟩
   simp only [g92_2,ak,aN,aJ,aA,aa,Int.toNat_natCast,hd,CI,ii,i1,af,aM,bh,bA,seq_eq]
   rw [if_pos (by omega),if_neg (by have:=hne.1 h.2.2.1;omega),if_pos h.1,if_pos h.2.1,ai Va]
   simp only [h.2.2.2,bM,r1,r2,af]
   rfl
  ·refine ⟨n, ?_, by simp; omega, by rw [List.filter_cons_of_neg (by simpa using h)]⟩
   simp only [g92_2,ak,aN,aJ,aA,aa,Int.toNat_natCast,hd,CI,ii,i1,r1,af,aM,bh,bA,seq_eq]
   rw [if_pos (by omega)]
   by_cases c1:(pre.length:Int)=(i:Int)
   ·rw [if_pos c1];rfl
   ·rw [if_neg c1]
    by_cases c2:z.2.1=2
    ·rw [if_pos c2]
     by_cases c3:z.2.2.1=(mi c i).2.2.1
     ·rw [if_pos c3, ai Va]
      have:eP c z.1=false:=by
       cases hr:eP c z.1 with
       |false=>rfl
       |true=>exact absurd ⟨c2,c3,hne.2 (by omega),hr⟩ h
      simp only [this,aY]
      rfl
     ·rw [if_neg c3];rfl
    ·rw [if_neg c2];rfl
 ·intro n _
  simp only [g92_2,ak,aa,aM]
  rw [if_neg (by omega)]
  simp
theorem ago (hs:SI c) (hl:c.length≤1000) {o0:List Int} (h0:o0.length=c.length) (h1:∀j<c.length,o0.getD j 0=1) :
  ∃o:List Int,iter (fun a=>ah (g92_1 a)) (c,c.length,(0:Int),o0,())=some (c,c.length,o,())∧o.length=c.length∧∀j<c.length,o.getD j 0=if (mi c j).2.1=2∧qB c (mi c j)=true then 2 else 1:=by
 obtain ⟨r, h1, o, rfl, h2, h3⟩ := ek (step := fun a => ah (g92_1 a)) c.length (fun k x => ∃ o : List Int, x = (c, c.length, (k : Int), o, ()) ∧ o.length = c.length ∧ ∀ j < c.length, o.getD j 0 = if j < k ∧ (mi c j).2.1 = 2 ∧ qB c (mi c j) = true then 2 else 1)
  (fun r=>∃o:List Int,r=(c,c.length,o,())∧o.length=c.length∧∀j<c.length,o.getD j 0=if (mi c j).2.1=2∧qB c (mi c j)=true then 2 else 1) (by
  rintro k _ hk ⟨o,rfl,ho,hj⟩
  have hd:c.getD k (bs [],(0:Int),bs [],bs [],(0:Int))=mi c k:=rfl
  have i1:bZ (k:Int) ((c.length:Nat):Int)=true:=aR (by omega) (by omega)
  have r1:de .i64 ((k:Int)+1)=true:=aH (by omega) (by omega)
  have d1:decide (k<o.length)=true:=decide_eq_true (by omega)
  have h116:=k116 (c:=c) (by omega) (mi c k).2.2.1
  have Va:=k117 (c:=c) (by omega) (mi c k).1
  have stay:¬((mi c k).2.1=2∧qB c (mi c k)=true)→∀j<c.length,o.getD j 0=if j<k+1∧(mi c j).2.1=2∧qB c (mi c j)=true then 2 else 1:=fun hn j hj'=>by
   rw [hj j hj']
   by_cases e:j=k
   ·subst e;rw [if_neg (fun h=>hn h.2),if_neg (fun h=>hn h.2)]
   ·by_cases hh : j < k ∧ (mi c j).2.1 = 2 ∧ qB c (mi c j) = true
    ·rw [if_pos hh,if_pos ⟨by omega,hh.2⟩]
    ·rw [if_neg hh,if_neg fun h=>hh ⟨by omega,h.2⟩]
  simp only [g92_1,ak,aN,aS,aJ,aA,bB,aa,Int.toNat_natCast,Nat.zero_add,hd,i1,af,aM,bh,bA]
  rw [if_pos (by omega)]
  by_cases c1:(mi c k).2.1=2
  ·rw [if_pos c1, ai h116]
   cases ht:LQ c (mi c k).2.2.1 with
   |false =>
    simp only [aY,r1,af]
    exact ⟨_,rfl,o,rfl,ho,stay fun h=>by have:=h.2;unfold qB at this;rw [ht] at this;simp at this⟩
   |true =>
    simp only [bM]
    rw [ai (agn hs hl hk)]
    simp only
    by_cases c2:(((c.filter fun m=>decide (m.2.1=2∧m.2.2.1=(mi c k).2.2.1∧m.1≠(mi c k).1∧eP c m.1=true)).length:Nat):Int)=1
    ·rw [if_pos c2, i1, af]
     simp only [Int.toNat_natCast,hd]
     rw [ai Va]
     cases hr:eP c (mi c k).1 with
     |true =>
      simp only [bM,r1,af]
      exact ⟨_,rfl,o,rfl,ho,stay fun h=>by have:=h.2;unfold qB at this;rw [hr] at this;simp at this⟩
     |false =>
      simp only [aY,i1,d1,r1,af]
      refine ⟨_,rfl,o.set k 2,rfl,by simp [ho],fun j hj'=>?_⟩
      have hsb:qB c (mi c k)=true:=by unfold qB;rw [ht,hr,decide_eq_true (by omega)];rfl
      rw [bS (by omega)]
      by_cases e:k=j
      ·subst e;rw [if_pos rfl,if_pos ⟨by omega,c1,hsb⟩]
      ·rw [if_neg e, hj j hj']
       by_cases hh:j<k∧(mi c j).2.1=2∧qB c (mi c j)=true
       ·rw [if_pos hh,if_pos ⟨by omega,hh.2⟩]
       ·rw [if_neg hh,if_neg fun h=>hh ⟨by omega,h.2⟩]
    ·rw [if_neg c2, r1, af]
     refine ⟨_,rfl,o,rfl,ho,stay fun h=>?_⟩
     have:=h.2
     unfold qB at this
     rw [decide_eq_false (show ¬(c.filter fun m=>decide (m.2.1=2∧m.2.2.1=(mi c k).2.2.1∧m.1≠(mi c k).1∧eP c m.1=true)).length=1 by omega),Bool.and_false] at this
     cases this
  ·rw [if_neg c1, r1, af]
   exact ⟨_,rfl,o,rfl,ho,stay fun h=>c1 h.1⟩) (by
  rintro _ ⟨o,rfl,ho,hj⟩
  simp only [g92_1,ak,aa,aM]
  rw [if_neg (by omega)]
  refine ⟨_,rfl,o,rfl,ho,fun j hj'=>?_⟩
  rw [hj j hj']
  by_cases hh:(mi c j).2.1=2∧qB c (mi c j)=true
  ·rw [if_pos ⟨hj',hh⟩,if_pos hh]
  ·rw [if_neg fun h=>hh h.2,if_neg hh]) (x:=(c,c.length,(0:Int),o0,())) ⟨o0,rfl,h0,fun j hj=>by rw [h1 j hj,if_neg (by omega)]⟩
 exact ⟨o,h1,h2,h3⟩
structure AK (c:List Mg) (o:List Int) (s:List Bool):Prop where
 lo:o.length=c.length
 ls:s.length=c.length
 o12:∀i<c.length,o.getD i 0=1∨o.getD i 0=2
 WX:∀i<c.length,o.getD i 0=2→cR c (mi c i).1=true
 WY:∀i<c.length,s.getD i false=true→∃t d,Tk c t∧jD c t d (mi c i).1
def Ge (c:List Mg) (o:List Int) (s:List Bool) (o':List Int) (s':List Bool):Prop:=∀i<c.length,(o.getD i 0=2→o'.getD i 0=2)∧(s.getD i false=true→s'.getD i false=true)
def yF (c:List Mg) (o:List Int) (s:List Bool) (o':List Int) (s':List Bool) (i k:Nat):Prop :=
 (mi c i).2.1=2→(mi c k).2.1≠3→(mi c k).1=(mi c i).2.2.1→(o.getD k 0=2→o'.getD i 0=2)∧(s.getD k false=true→s'.getD i false=true∨cR c (mi c i).1=true)
theorem Ge.rfl {o:List Int} {s:List Bool}:Ge c o s o s:=fun _ _=>⟨id,id⟩
theorem Ge.trans {o o1 o2:List Int} {s s1 s2:List Bool} (h:Ge c o s o1 s1) (h':Ge c o1 s1 o2 s2):Ge c o s o2 s2:=fun i hi=>⟨fun x=>(h' i hi).1 ((h i hi).1 x),fun x=>(h' i hi).2 ((h i hi).2 x)⟩
theorem yF.mono {o o1 o2:List Int} {s s1 s2:List Bool} {i k:Nat} (hi:i<c.length) (h:yF c o s o1 s1 i k) (h':Ge c o1 s1 o2 s2):yF c o s o2 s2 i k:=fun a b e=>by
 obtain ⟨q1,q2⟩:=h a b e
 exact ⟨fun x=>(h' i hi).1 (q1 x),fun x=>(q2 x).imp (h' i hi).2 id⟩
theorem aaw (hs:SI c) (hl:c.length≤1000) {i k:Nat} (hi:i<c.length) (hk:k<c.length) {v9:Int} {o:List Int} {s:List Bool} (h:AK c o s) :
  ∃o' s',ah (g92_5 (c,c.length,c.length,v9,(i:Int),(k:Int),o,s,()))=some (.inl (c,c.length,c.length,v9,(i:Int),((k+1:Nat):Int),o',s',()))∧AK c o' s'∧Ge c o s o' s'∧yF c o s o' s' i k:=by
 have CI:c.getD i (bs [],(0:Int),bs [],bs [],(0:Int))=mi c i:=rfl
 have hdk:c.getD k (bs [],(0:Int),bs [],bs [],(0:Int))=mi c k:=rfl
 have ii:bZ (i:Int) ((c.length:Nat):Int)=true:=aR (by omega) (by omega)
 have ik:bZ (k:Int) ((c.length:Nat):Int)=true:=aR (by omega) (by omega)
 have r1:de .i64 ((k:Int)+1)=true:=aH (by omega) (by omega)
 have hlo:=h.lo
 have hls:=h.ls
 have Vb:decide (k<o.length)=true:=decide_eq_true (by omega)
 have Qv:decide (i<o.length)=true:=decide_eq_true (by omega)
 have ds1:decide (i<s.length)=true:=decide_eq_true (by omega)
 have ds2:decide (k<s.length)=true:=decide_eq_true (by omega)
 simp only [g92_5,ak,aN,aS,aJ,Gl,aa,Int.toNat_natCast,Nat.zero_add,CI,hdk,ii,ik,af,aM,bh,bA,seq_eq]
 rw [if_pos (by omega)]
 by_cases c1:(mi c i).2.1=2
 ·rw [if_pos c1]
  by_cases c2:(mi c k).2.1=3
  ·rw [if_pos c2, r1, af]
   exact ⟨o,s,rfl,h,.rfl,fun _ hn=>absurd c2 hn⟩
  ·rw [if_neg c2]
   by_cases c3:(mi c k).1=(mi c i).2.2.1
   ·rw [if_pos c3, Vb, af]
    have pG:=aav hi c1 c3
    -- the state's mark
    have hA:∃o1,(if o.getD k 0=2 then (need (decide (i<o.length)) (some (Sum.inl (c,c.length,c.length,v9,(i:Int),(k:Int),c,(k:Int),(mi c k).2.1,((mi c k).2.1==3),c,(k:Int),(mi c k).1,c,(i:Int),(mi c i).2.2.1,(!(decide ((mi c k).1=(mi c i).2.2.1))),o.set i 2,s,())))) else some (Sum.inl (c,c.length,c.length,v9,(i:Int),(k:Int),c,(k:Int),(mi c k).2.1,((mi c k).2.1==3),c,(k:Int),(mi c k).1,c,(i:Int),(mi c i).2.2.1,(!(decide ((mi c k).1=(mi c i).2.2.1))),o,s,())):Option ((List Mg×Nat×Nat×Int×Int×Int×List Mg×Int×Int×Bool×List Mg×Int×ByteArray×List Mg×Int×ByteArray×Bool×List Int×List Bool×Unit) ⊕ ((List Mg×Nat×Nat×Int×Int×Int×List Int×List Bool×Unit) ⊕ (List Mg×Nat×Nat×Int×Int×List Int×List Bool×Unit)))) =
      some (Sum.inl (c,c.length,c.length,v9,(i:Int),(k:Int),c,(k:Int),(mi c k).2.1,((mi c k).2.1==3),c,(k:Int),(mi c k).1,c,(i:Int),(mi c i).2.2.1,(!(decide ((mi c k).1=(mi c i).2.2.1))),o1,s,()))∧AK c o1 s∧Ge c o s o1 s∧(o.getD k 0=2→o1.getD i 0=2):=by
     by_cases c4:o.getD k 0=2
     ·rw [if_pos c4, Qv, af]
      have hst:cR c (mi c i).1=true:=Cn (h.WX k hk c4) pG
      refine ⟨o.set i 2,rfl,⟨by simp [hlo],hls,fun j hj=>?_,fun j hj hh=>?_,h.WY⟩,fun j hj=>⟨fun hh=>?_,id⟩,fun _=>by rw [bS (by omega),if_pos rfl]⟩
      ·rw [bS (by omega)]; split
       ·exact .inr rfl
       ·exact h.o12 j hj
      ·rw [bS (by omega)] at hh; split at hh
       ·rename_i e;rw [←e];exact hst
       ·exact h.WX j hj hh
      ·rw [bS (by omega)]; split
       ·rfl
       ·exact hh
     ·rw [if_neg c4]
      exact ⟨o,rfl,h,.rfl,fun hh=>absurd hh c4⟩
    obtain ⟨o1,hA1,WZ,hA3,hA4⟩:=hA
    rw [ai hA1]
    have aax:=WZ.lo
    have do3:decide (i<o1.length)=true:=decide_eq_true (by omega)
    simp only [LM,aN,aS,ak,aJ,aa,Int.toNat_natCast,Nat.zero_add,ii,ik,ds1,ds2,do3,r1,af]
    cases c5:s.getD i false with
    |true =>
     rw [bM]
     refine ⟨o1,s.set i true,rfl,⟨aax,by simp [hls],WZ.o12,WZ.WX,fun j hj hh=>?_⟩,fun j hj=>⟨(hA3 j hj).1,fun hh=>?_⟩,fun _ _ _=>⟨hA4,fun _=>.inl (by rw [bS (by omega),if_pos rfl])⟩⟩
     ·rw [bS (by omega)] at hh; split at hh
      ·rename_i e;rw [←e];exact h.WY i hi c5
      ·exact h.WY j hj hh
     ·rw [bS (by omega)]; split
      ·rfl
      ·exact hh
    |false =>
     rw [aY]
     cases c6:s.getD k false with
     |true =>
      rw [bM]
      refine ⟨o1,s.set i (!(o1.getD i 0==2)),rfl,⟨aax,by simp [hls],WZ.o12,WZ.WX,fun j hj hh=>?_⟩,fun j hj=>⟨(hA3 j hj).1,fun hh=>?_⟩,fun _ _ _=>⟨hA4,fun _=>?_⟩⟩
      ·rw [bS (by omega)] at hh; split at hh
       ·rename_i e
        rw [←e]
        obtain ⟨t,d,ht,hp⟩:=h.WY k hk c6
        exact ⟨t,d+1,ht,.step hp pG⟩
       ·exact h.WY j hj hh
      ·rw [bS (by omega)]; split
       ·rename_i e;rw [←e,c5] at hh;cases hh
       ·exact hh
      ·rw [bS (by omega), if_pos rfl]
       cases c7:(o1.getD i 0==2) with
       |false=>exact .inl rfl
       |true=>exact .inr (WZ.WX i hi (by simpa using c7))
     |false =>
      rw [aY]
      refine ⟨o1,s.set i false,rfl,⟨aax,by simp [hls],WZ.o12,WZ.WX,fun j hj hh=>?_⟩,fun j hj=>⟨(hA3 j hj).1,fun hh=>?_⟩,fun _ _ _=>⟨hA4,fun hh=>by rw [c6] at hh;cases hh⟩⟩
      ·rw [bS (by omega)] at hh; split at hh
       ·cases hh
       ·exact h.WY j hj hh
      ·rw [bS (by omega)]; split
       ·rename_i e;rw [←e,c5] at hh;cases hh
       ·exact hh
   ·rw [if_neg c3, r1, af]
    exact ⟨o,s,rfl,h,.rfl,fun _ _ e=>absurd e c3⟩
 ·rw [if_neg c1, r1, af]
  exact ⟨o,s,rfl,h,.rfl,fun h2=>absurd h2 c1⟩
end
end Go.Proofs.Tryz
end
section
namespace Go.Proofs.Tryz
open Go.AM
set_option maxRecDepth 100000
set_option maxHeartbeats 2000000
section
variable {c:List Mg}
theorem yF.old {o o1 o2:List Int} {s s1 s2:List Bool} {i k:Nat} (hk:k<c.length) (h:Ge c o s o1 s1) (h':yF c o1 s1 o2 s2 i k):yF c o s o2 s2 i k:=fun a b e=>by
 obtain ⟨q1,q2⟩:=h' a b e
 exact ⟨fun x=>q1 ((h k hk).1 x),fun x=>q2 ((h k hk).2 x)⟩
theorem agq (hs:SI c) (hl:c.length≤1000) {i:Nat} (hi:i<c.length) {v9:Int} {o:List Int} {s:List Bool} (h:AK c o s) :
  ∃o' s',iter (fun a=>ah (g92_5 a)) (c,c.length,c.length,v9,(i:Int),(0:Int),o,s,())=some (c,c.length,c.length,v9,(i:Int),o',s',())∧AK c o' s'∧Ge c o s o' s'∧∀k<c.length,yF c o s o' s' i k:=by
 obtain ⟨r, h1, o', s', rfl, h2⟩ := ek (step := fun a => ah (g92_5 a)) c.length (fun k x => ∃ o' s', x = (c, c.length, c.length, v9, (i : Int), (k : Int), o', s', ()) ∧ AK c o' s' ∧ Ge c o s o' s' ∧ ∀ j < k, yF c o s o' s' i j)
  (fun r=>∃o' s',r=(c,c.length,c.length,v9,(i:Int),o',s',())∧AK c o' s'∧Ge c o s o' s'∧∀k<c.length,yF c o s o' s' i k) (by
  rintro k _ hk ⟨o1,s1,rfl,q1,q2,q3⟩
  obtain ⟨o2,s2,e,p1,p2,p3⟩:=aaw hs hl hi hk (v9:=v9) q1
  refine ⟨_,e,o2,s2,rfl,p1,q2.trans p2,fun j hj=>?_⟩
  by_cases ej:j=k
  ·subst ej;exact p3.old hk q2
  ·exact (q3 j (by omega)).mono hi p2) (by
  rintro _ ⟨o1,s1,rfl,q⟩
  simp only [g92_5,ak,aa,aM]
  rw [if_neg (by omega)]
  exact ⟨_,rfl,o1,s1,rfl,q⟩) (x:=(c,c.length,c.length,v9,(i:Int),(0:Int),o,s,())) ⟨o,s,rfl,h,.rfl,fun j hj=>by omega⟩
 exact ⟨o',s',h1,h2⟩
def Dn (c:List Mg) (o0:List Int) (s0:List Bool) (o:List Int) (s:List Bool) (i:Nat):Prop:=((mi c i).2.1=1→s.getD i false=true)∧∀k<c.length,yF c o0 s0 o s i k
theorem agr (hs:SI c) (hl:c.length≤1000) {v9:Int} {o:List Int} {s:List Bool} (h:AK c o s) :
  ∃o' s',iter (fun a=>ah (g92_4 a)) (c,c.length,c.length,v9,(0:Int),o,s,())=some (c,c.length,c.length,v9,o',s',())∧AK c o' s'∧Ge c o s o' s'∧∀i<c.length,Dn c o s o' s' i:=by
 obtain ⟨r, h1, o', s', rfl, h2⟩ := ek (step := fun a => ah (g92_4 a)) c.length (fun k x => ∃ o' s', x = (c, c.length, c.length, v9, (k : Int), o', s', ()) ∧ AK c o' s' ∧ Ge c o s o' s' ∧ ∀ j < k, Dn c o s o' s' j)
  (fun r=>∃o' s',r=(c,c.length,c.length,v9,o',s',())∧AK c o' s'∧Ge c o s o' s'∧∀i<c.length,Dn c o s o' s' i) (by
  rintro i _ hi ⟨o1,s1,rfl,q1,q2,q3⟩
  have CI:c.getD i (bs [],(0:Int),bs [],bs [],(0:Int))=mi c i:=rfl
  have ii:bZ (i:Int) ((c.length:Nat):Int)=true:=aR (by omega) (by omega)
  have r1:de .i64 ((i:Int)+1)=true:=aH (by omega) (by omega)
  have hls:=q1.ls
  have ds1:decide (i<s1.length)=true:=decide_eq_true (by omega)
  have key:∀s2:List Bool,s2.length=c.length→(∀j<c.length,s1.getD j false=true→s2.getD j false=true)→(∀j<c.length,s2.getD j false=true→s1.getD j false=true∨(j=i∧(mi c i).2.1=1))→((mi c i).2.1=1→s2.getD i false=true) →
    ∃o3 s3,iter (fun a=>ah (g92_5 a)) (c,c.length,c.length,v9,(i:Int),(0:Int),o1,s2,())=some (c,c.length,c.length,v9,(i:Int),o3,s3,())∧AK c o3 s3∧Ge c o s o3 s3∧∀j<i+1,Dn c o s o3 s3 j:=fun s2 Cy h1 h2 h3=>by
   have hsn:AK c o1 s2:=⟨q1.lo,Cy,q1.o12,q1.WX,fun j hj hh=>by
    rcases h2 j hj hh with hh|⟨rfl,HX⟩
    ·exact q1.WY j hj hh
    ·exact ⟨(mi c j).1,0,⟨mi c j,fL hj,rfl,HX⟩,.zero⟩⟩
   have hge:Ge c o1 s1 o1 s2:=fun j hj=>⟨id,h1 j hj⟩
   obtain ⟨o3,s3,e,p1,p2,p3⟩:=agq hs hl hi (v9:=v9) hsn
   refine ⟨o3,s3,e,p1,(q2.trans hge).trans p2,fun j hj=>?_⟩
   by_cases ej:j=i
   ·subst ej
    exact ⟨fun HX=>(p2 j hi).2 (h3 HX),fun k hk=>(p3 k hk).old hk (q2.trans hge)⟩
   ·obtain ⟨d1, d2⟩ := q3 j (by omega)
    exact ⟨fun HX=>((hge.trans p2) j (by omega)).2 (d1 HX),fun k hk=>(d2 k hk).mono (by omega) (hge.trans p2)⟩
  simp only [g92_4,ak,aN,aS,aA,bB,Int.toNat_natCast,Nat.zero_add,CI,ii,ds1,af,aM]
  rw [if_pos (by omega)]
  cases c5:s1.getD i false with
  |true =>
   rw [bM]
   obtain ⟨o3,s3,e,p1,p2,p3⟩:=key (s1.set i true) (by simp [hls]) (fun j hj hh=>by
    rw [bS (by omega)]
    split
    ·rfl
    ·exact hh) (fun j hj hh=>by
    rw [bS (by omega)] at hh;split at hh
    ·rename_i e;rw [←e];exact .inl c5
    ·exact .inl hh) (fun _=>by rw [bS (by omega),if_pos rfl])
   rw [ai e]
   simp only [aJ,aa,r1,af]
   exact ⟨_,rfl,o3,s3,rfl,p1,p2,p3⟩
  |false =>
   rw [aY]
   obtain ⟨o3,s3,e,p1,p2,p3⟩:=key (s1.set i ((mi c i).2.1==1)) (by simp [hls]) (fun j hj hh=>by
    rw [bS (by omega)];split
    ·rename_i e;rw [←e,c5] at hh;cases hh
    ·exact hh) (fun j hj hh=>by
    rw [bS (by omega)] at hh;split at hh
    ·rename_i e;exact .inr ⟨e.symm,by simpa using hh⟩
    ·exact .inl hh) (fun HX=>by rw [bS (by omega),if_pos rfl,HX];rfl)
   rw [ai e]
   simp only [aJ,aa,r1,af]
   exact ⟨_,rfl,o3,s3,rfl,p1,p2,p3⟩) (by
  rintro _ ⟨o1,s1,rfl,q⟩
  simp only [g92_4,ak,aa,aM]
  rw [if_neg (by omega)]
  exact ⟨_,rfl,o1,s1,rfl,q⟩) (x:=(c,c.length,c.length,v9,(0:Int),o,s,())) ⟨o,s,rfl,h,.rfl,fun j hj=>by omega⟩
 exact ⟨o',s',h1,h2⟩
def Vc (c:List Mg) (r:Nat) (o:List Int) (s:List Bool):Prop:=∀i<c.length,(∀p y d,y∈D c p→jD c y d (mi c i).1→d≤r→o.getD i 0=2)∧(∀t d,Tk c t→jD c t d (mi c i).1→d<r→s.getD i false=true∨cR c (mi c i).1=true)
theorem Qw (hs:SI c) {r:Nat} {o o':List Int} {s s':List Bool} (h:Vc c r o s) (hg:Ge c o s o' s') (hd:∀i<c.length,Dn c o s o' s' i):Vc c (r+1) o' s':=fun i hi=>by
 obtain ⟨d1,d2⟩:=hd i hi
 constructor
 ·intro p y d hy hp hle
  rcases ew hp with ⟨h0,e⟩|⟨j,z,hj,h1,hz⟩
  ·exact (hg i hi).1 ((h i hi).1 p y 0 hy (by rw [e];exact .zero) (by omega))
  ·obtain ⟨m, hm, rfl, hm3⟩ := HG h1 (JO (pe hy))
   obtain ⟨k,hk,rfl⟩:=Qu hm
   obtain ⟨h2,he⟩:=Cv hs hi hz
   exact (d2 k hk h2 hm3 he.symm).1 ((h k hk).1 p y j hy h1 (by omega))
 ·intro t d ht hp hlt
  rcases ew hp with ⟨h0,e⟩|⟨j,z,hj,h1,hz⟩
  ·left
   refine d1 ?_
   obtain ⟨m,hm,e',h1⟩:=ht
   rw [hs.inj (fL hi) hm (by rw [e,e'])];exact h1
  ·obtain ⟨m, hm, rfl, hm3⟩ := HG h1 ht.nr
   obtain ⟨k,hk,rfl⟩:=Qu hm
   obtain ⟨h2,he⟩:=Cv hs hi hz
   rcases (h k hk).2 t j ht h1 (by omega) with hh|hh
   ·exact (d2 k hk h2 hm3 he.symm).2 hh
   ·exact .inr (Cn hh hz)
theorem ags (hs:SI c) (hl:c.length≤1000) {o:List Int} {s:List Bool} (h:AK c o s) (h0:Vc c 0 o s) :
  ∃o' s',iter (fun a=>ah (g92_3 a)) (c,c.length,c.length,(0:Int),o,s,())=some (c,c.length,c.length,o',s',())∧AK c o' s'∧Vc c (c.length+1) o' s':=by
 obtain ⟨r, h1, o', s', rfl, h2⟩ := ek (step := fun a => ah (g92_3 a)) (c.length + 1) (fun k x => ∃ o' s', x = (c, c.length, c.length, (k : Int), o', s', ()) ∧ AK c o' s' ∧ Vc c k o' s')
  (fun r=>∃o' s',r=(c,c.length,c.length,o',s',())∧AK c o' s'∧Vc c (c.length+1) o' s') (by
  rintro k _ hk ⟨o1,s1,rfl,q1,q2⟩
  have r1:de .i64 ((k:Int)+1)=true:=aH (by omega) (by omega)
  obtain ⟨o2,s2,e,p1,p2,p3⟩:=agr hs hl (v9:=(k:Int)) q1
  simp only [g92_3,ak,aA,bB,aM]
  rw [if_pos (by omega),ai e]
  simp only [aJ,aa,r1,af]
  exact ⟨_,rfl,o2,s2,rfl,p1,Qw hs q2 p2 p3⟩) (by
  rintro _ ⟨o1,s1,rfl,q⟩
  simp only [g92_3,ak,aa,aM]
  rw [if_neg (by omega)]
  exact ⟨_,rfl,o1,s1,rfl,q⟩) (x:=(c,c.length,c.length,(0:Int),o,s,())) ⟨o,s,rfl,h,h0⟩
 exact ⟨o',s',h1,h2⟩
theorem HJ (hs:SI c) (hk:CH c) {o:List Int} {s:List Bool} (h:AK c o s) (hc:Vc c (c.length+1) o s) {i:Nat} (hi:i<c.length) :
  (o.getD i 0=2↔cR c (mi c i).1=true)∧((s.getD i false=true∧o.getD i 0≠2)↔(nt c (mi c i).1).isSome=true):=by
 have h1:o.getD i 0=2↔cR c (mi c i).1=true:=by
  refine ⟨h.WX i hi,fun hst=>?_⟩
  obtain ⟨p,y,hy,hd⟩:=yB.1 hst
  obtain ⟨d,hp⟩:=hd.pth
  obtain ⟨d,hd,hp⟩:=LB (gZ (pe hy)) d hp
  exact (hc i hi).1 p y d hy hp (by omega)
 refine ⟨h1,?_⟩
 rw [Option.isSome_iff_exists]
 constructor
 ·rintro ⟨a, b⟩
  obtain ⟨t,d,ht,hp⟩:=h.WY i hi a
  refine ⟨t,(fe hs hk).2 ⟨ht,?_,d,hp⟩⟩
  cases hst:cR c (mi c i).1 with
  |false=>rfl
  |true=>exact absurd (h1.2 hst) b
 ·rintro ⟨t, ht⟩
  obtain ⟨a,b,d,hp⟩:=(fe hs hk).1 ht
  have hn:¬o.getD i 0=2:=fun e=>by rw [h1.1 e] at b;cases b
  refine ⟨((hc i hi).2 t d a hp (by have:=hp.short hs (a.top hs) a.ids;omega)).resolve_right (by rw [b];simp),hn⟩
def nw (c:List Mg) (i:Nat):Int:=if cR c (mi c i).1=true then 2 else if (nt c (mi c i).1).isSome=true then (if eu c (mi c i).1=[] then 4 else 3) else 1
def Qx (c:List Mg) (o:List Int) (s:List Bool) (i k:Nat):Prop:=∃j<k,s.getD j false=true∧o.getD j 0≠2∧(mi c j).2.1=2∧(mi c j).2.2.1=(mi c i).1
theorem agt (hl:c.length≤1000) {i:Nat} (hi:i<c.length) {o:List Int} {s:List Bool} (hlo:o.length=c.length) (hls:s.length=c.length) (hoi:o.getD i 0=4) {n210:Nat} {tJ tK:Int} {tN:Bool} :
  ∃o':List Int,iter (fun a=>ah (g92_7 a)) (c,c.length,c.length,(i:Int),(0:Int),n210,tJ,tK,tN,o,s,())=some (c,c.length,c.length,(i:Int),n210,tJ,tK,tN,o',s,())∧o'.length=c.length∧(∀j,j≠i→o'.getD j 0=o.getD j 0)∧(o'.getD i 0=3∨o'.getD i 0=4)∧(o'.getD i 0=3↔Qx c o s i c.length):=by
 obtain ⟨r, h1, o', rfl, h2⟩ := ek (step := fun a => ah (g92_7 a)) c.length (fun k x => ∃ o', x = (c, c.length, c.length, (i : Int), (k : Int), n210, tJ, tK, tN, o', s, ()) ∧ o'.length = c.length ∧ (∀ j, j ≠ i → o'.getD j 0 = o.getD j 0) ∧ (o'.getD i 0 = 3 ∨ o'.getD i 0 = 4) ∧ (o'.getD i 0 = 3 ↔ Qx c o s i k))
  (fun r=>∃o',r=(c,c.length,c.length,(i:Int),n210,tJ,tK,tN,o',s,())∧o'.length=c.length∧(∀j,j≠i→o'.getD j 0=o.getD j 0)∧(o'.getD i 0=3∨o'.getD i 0=4)∧(o'.getD i 0=3↔Qx c o s i c.length)) (by
  rintro k _ hk ⟨o1,rfl,q1,q2,q3,q4⟩
  have CI:c.getD i (bs [],(0:Int),bs [],bs [],(0:Int))=mi c i:=rfl
  have hdk:c.getD k (bs [],(0:Int),bs [],bs [],(0:Int))=mi c k:=rfl
  have ii:bZ (i:Int) ((c.length:Nat):Int)=true:=aR (by omega) (by omega)
  have ik:bZ (k:Int) ((c.length:Nat):Int)=true:=aR (by omega) (by omega)
  have r1:de .i64 ((k:Int)+1)=true:=aH (by omega) (by omega)
  have Vb:decide (k<o1.length)=true:=decide_eq_true (by omega)
  have Qv:decide (i<o1.length)=true:=decide_eq_true (by omega)
  have ds2:decide (k<s.length)=true:=decide_eq_true (by omega)
  have hok:o1.getD k 0=2↔o.getD k 0=2:=by
   by_cases e:k=i
   ·subst e;rw [hoi];rcases q3 with h|h<;>rw [h]<;>decide
   ·rw [q2 k e]
  have no:¬(s.getD k false=true∧o.getD k 0≠2∧(mi c k).2.1=2∧(mi c k).2.2.1=(mi c i).1)→(o1.getD i 0=3↔Qx c o s i (k+1)):=fun hn=>by
   rw [q4]
   constructor
   ·rintro ⟨j,hj,h⟩;exact ⟨j,by omega,h⟩
   ·rintro ⟨j, hj, h⟩
    by_cases e:j=k
    ·subst e;exact absurd h hn
    ·exact ⟨j,by omega,h⟩
  simp only [g92_7,ak,aN,aS,aJ,aa,Int.toNat_natCast,Nat.zero_add,CI,hdk,ii,ik,Vb,Qv,ds2,r1,af,aM,bh,bA,seq_eq]
  rw [if_pos (by omega)]
  cases c5:s.getD k false with
  |false =>
   rw [aY]
   exact ⟨_,rfl,o1,rfl,q1,q2,q3,no fun h=>by rw [c5] at h;cases h.1⟩
  |true =>
   rw [bM]
   by_cases c6:o1.getD k 0=2
   ·rw [if_pos c6]
    exact ⟨_,rfl,o1,rfl,q1,q2,q3,no fun h=>h.2.1 (hok.1 c6)⟩
   ·rw [if_neg c6]
    by_cases c7:(mi c k).2.1=2
    ·rw [if_pos c7]
     by_cases c8:(mi c k).2.2.1=(mi c i).1
     ·rw [if_pos c8]
      refine ⟨_,rfl,o1.set i 3,rfl,by simp [q1],fun j hj=>?_,?_,?_⟩
      ·rw [bS (by omega),if_neg fun e=>hj e.symm];exact q2 j hj
      ·left;rw [bS (by omega),if_pos rfl]
      ·rw [bS (by omega), if_pos rfl]
       exact ⟨fun _=>⟨k,by omega,c5,fun e=>c6 (hok.2 e),c7,c8⟩,fun _=>rfl⟩
     ·rw [if_neg c8]
      exact ⟨_,rfl,o1,rfl,q1,q2,q3,no fun h=>c8 h.2.2.2⟩
    ·rw [if_neg c7]
     exact ⟨_,rfl,o1,rfl,q1,q2,q3,no fun h=>c7 h.2.2.1⟩) (by
  rintro _ ⟨o1,rfl,q⟩
  simp only [g92_7,ak,aa,aM]
  rw [if_neg (by omega)]
  exact ⟨_,rfl,o1,rfl,q⟩) (x:=(c,c.length,c.length,(i:Int),(0:Int),n210,tJ,tK,tN,o,s,())) ⟨o,rfl,hlo,fun _ _=>rfl,.inr hoi,by rw [hoi];exact ⟨fun h=>by simp at h,fun ⟨j,hj,_⟩=>by omega⟩⟩
 exact ⟨o',h1,h2⟩
theorem agu (hs:SI c) (hk:CH c) (hl:c.length≤1000) {o:List Int} {s:List Bool} (h:AK c o s) (hc:Vc c (c.length+1) o s) :
  ∃o':List Int,iter (fun a=>ah (g92_6 a)) (c,c.length,c.length,(0:Int),o,s,())=some (c,c.length,o',())∧o'.length=c.length∧∀i<c.length,o'.getD i 0=nw c i:=by
 have aay:=fun {i:Nat} (hi:i<c.length)=>HJ hs hk h hc hi
 have hls:=h.ls
 obtain ⟨r, h1, o', rfl, h2⟩ := ek (step := fun a => ah (g92_6 a)) c.length (fun k x => ∃ o', x = (c, c.length, c.length, (k : Int), o', s, ()) ∧ o'.length = c.length ∧ (∀ j < k, o'.getD j 0 = nw c j) ∧ ∀ j < c.length, k ≤ j → o'.getD j 0 = o.getD j 0)
  (fun r=>∃o',r=(c,c.length,o',())∧o'.length=c.length∧∀i<c.length,o'.getD i 0=nw c i) (by
  rintro i _ hi ⟨o1,rfl,q1,q2,q3⟩
  have ii:bZ (i:Int) ((c.length:Nat):Int)=true:=aR (by omega) (by omega)
  have r1:de .i64 ((i:Int)+1)=true:=aH (by omega) (by omega)
  have Vb:decide (i<o1.length)=true:=decide_eq_true (by omega)
  have ds1:decide (i<s.length)=true:=decide_eq_true (by omega)
  obtain ⟨s1,s2⟩:=aay hi
  have hoi:=q3 i hi (Nat.le_refl _)
  have stay:o.getD i 0=nw c i→(∀j<i+1,o1.getD j 0=nw c j)∧∀j<c.length,i+1≤j→o1.getD j 0=o.getD j 0:=fun e=>by
   refine ⟨fun j hj=>?_,fun j hj hij=>q3 j hj (by omega)⟩
   by_cases ej:j=i
   ·subst ej;rw [hoi,e]
   ·exact q2 j (by omega)
  simp only [g92_6,ak,aN,aS,aJ,aA,bB,aa,Int.toNat_natCast,Nat.zero_add,ii,Vb,ds1,af,aM,bh,bA]
  rw [if_pos (by omega)]
  cases c5:s.getD i false with
  |false =>
   rw [aY,r1,af]
   refine ⟨_,rfl,o1,rfl,q1,stay ?_⟩
   unfold nw
   cases hst:cR c (mi c i).1 with
   |true=>rw [if_pos rfl];exact s1.2 hst
   |false =>
    rw [if_neg (by simp),if_neg fun hh=>by have:=(s2.2 hh).1;rw [c5] at this;cases this]
    rcases h.o12 i hi with e|e
    ·exact e
    ·rw [s1.1 e] at hst;cases hst
  |true =>
   rw [bM,hoi]
   by_cases c6:o.getD i 0=2
   ·rw [if_pos c6, r1, af]
    refine ⟨_,rfl,o1,rfl,q1,stay ?_⟩
    unfold nw
    rw [if_pos (s1.1 c6)];exact c6
   ·rw [if_neg c6]
    have hsd:=s2.1 ⟨c5,c6⟩
    obtain ⟨o2,e,p1,p2,p3,p4⟩:=agt hl hi (o:=o1.set i 4) (s:=s) (n210:=c.length) (tJ:=(i:Int)) (tK:=o.getD i 0) (tN:=(o.getD i 0==2)) (by simp [q1]) hls (by rw [bS (by omega),if_pos rfl])
    rw [ai e]
    simp only [aJ,aa,r1,af]
    refine ⟨_,rfl,o2,rfl,p1,fun j hj=>?_,fun j hj hij=>?_⟩
    ·by_cases ej : j = i
     ·subst ej
      have hst:cR c (mi c j).1=false:=by
       cases hst:cR c (mi c j).1 with
       |false=>rfl
       |true=>exact absurd (s1.2 hst) c6
      have hiff:Qx c (o1.set j 4) s j c.length↔eu c (mi c j).1≠[]:=by
       obtain ⟨t,ht⟩:=Option.isSome_iff_exists.1 hsd
       have h2f:∀a,a<c.length→(o1.set j 4).getD a 0≠2→cR c (mi c a).1=false:=fun a ha hne=>by
        cases hst:cR c (mi c a).1 with
        |false=>rfl
        |true =>
         exfalso
         apply hne
         rw [bS (by omega)]
         split
         ·rename_i e;rw [←e] at hst;rename_i hst0;rw [hst] at hst0;cases hst0
         ·by_cases haj : a < j
          ·rw [q2 a haj];unfold nw;rw [if_pos hst]
          ·rw [q3 a ha (by omega)];exact (aay ha).1.2 hst
       constructor
       ·rintro ⟨a, ha, b1, b2, b3, b4⟩ e
        have:(mi c a).1∈eu c (mi c j).1:=sA.2 ⟨by rw [←b4];exact tS (fL ha) b3,h2f a ha b2⟩
        rw [e] at this;cases this
       ·intro hne
        obtain ⟨y,hy⟩:=List.exists_mem_of_ne_nil _ hne
        obtain ⟨hy1,hy2⟩:=sA.1 hy
        obtain ⟨a,ha,rfl⟩:=JT (gZ hy1)
        obtain ⟨b3,b4⟩:=Cv hs ha hy1
        have hsa:=Cu hs hk ht hy1
        rw [hy2] at hsa
        obtain ⟨w1,w2⟩:=(aay ha).2.2 hsa
        refine ⟨a,ha,w1,?_,b3,b4⟩
        rw [bS (by omega)]
        split
        ·omega
        ·by_cases haj : a < j
         ·rw [q2 a haj]
          unfold nw
          rw [if_neg (by rw [hy2];simp)]
          split
          ·split<;>omega
          ·omega
         ·rw [q3 a ha (by omega)];exact w2
      unfold nw
      rw [if_neg (by rw [hst];simp),if_pos hsd]
      by_cases hlv:eu c (mi c j).1=[]
      ·rw [if_pos hlv]
       rcases p3 with e|e
       ·exact absurd hlv (hiff.1 (p4.1 e))
       ·exact e
      ·rw [if_neg hlv];exact p4.2 (hiff.2 hlv)
     ·rw [p2 j ej,bS (by omega),if_neg fun e=>ej e.symm];exact q2 j (by omega)
    ·rw [p2 j (by omega),bS (by omega),if_neg (by omega)];exact q3 j hj (by omega)) (by
  rintro _ ⟨o1,rfl,q1,q2,q3⟩
  simp only [g92_6,ak,aa,aM]
  rw [if_neg (by omega)]
  exact ⟨_,rfl,o1,rfl,q1,q2⟩) (x:=(c,c.length,c.length,(0:Int),o,s,())) ⟨o,rfl,h.lo,fun j hj=>by omega,fun _ _ _=>rfl⟩
 exact ⟨o',h1,h2⟩
end
end Go.Proofs.Tryz
end
section
namespace Go.Proofs.Tryz
open Go.AM
set_option maxRecDepth 100000
set_option maxHeartbeats 2000000
section
variable {c:List Mg}
structure Stt (c:List Mg) (o:List Int):Prop where
  lo:o.length=c.length
  v:∀i<c.length,(o.getD i 0=4∨o.getD i 0=5)↔(tT c (mi c i).1).isSome=true
  s:∀i<c.length,2<o.getD i 0↔(nt c (mi c i).1).isSome=true
def bf (c : List Mg) : Nat → ByteArray → List ByteArray
  |0,_=>[]
  |n+1,x=>match eu c x with
    |[]=>[x]
    |k::l=>(k::l).flatMap (bf c n)
theorem AL {f g : ByteArray → List ByteArray} (h : ∀ a, (f a).Perm (g a)) : ∀ l : List ByteArray, (l.flatMap f).Perm (l.flatMap g)
  |[]=>.refl _
  |a::l=>by rw [List.flatMap_cons,List.flatMap_cons];exact (h a).append (AL h l)
theorem mo : ∀ {n : Nat} {x : ByteArray}, (cC c n x).Perm (bf c n x)
  |0,_=>.refl _
  |n+1,x=>by
    unfold cC bf
    cases eu c x with
    |nil=>exact .refl _
    |cons k l=>exact (dI (t:=.str) _).trans (AL (fun a=>mo) _)
theorem Qy {i:Nat} (h:i<c.length):mi c i=c[i]:=by unfold mi;rw [List.getD_eq_getElem?_getD,List.getElem?_eq_getElem h];rfl
def ixN (c:List Mg) (x:ByteArray):Nat:=c.findIdx fun m=>decide (m.1=x)
theorem JU (hs:SI c) {i:Nat} (hi:i<c.length):ixN c (mi c i).1=i:=by
  have h1:ixN c (mi c i).1<c.length:=List.findIdx_lt_length_of_exists ⟨mi c i,fL hi,by simp⟩
  have h2:=List.findIdx_getElem (w:=h1)
  refine HI hs h1 hi ?_
  have h3:(c[ixN c (mi c i).1]).1=(mi c i).1:=of_decide_eq_true h2
  rw [Qy h1];exact h3
def ixs (c:List Mg) (l:List ByteArray):List Int:=l.map fun y=>((ixN c y:Nat):Int)
theorem lB {l:List ByteArray}:(ixs c l).length=l.length:=List.length_map ..
def LV (c:List Mg) (x:ByteArray) (r:List Mg):List ByteArray:=((r.filter fun m=>decide (m.2.1=2∧m.2.2.1=x)).map (·.1)).filter fun k => !cR c k
theorem vM (x:ByteArray) (m:Mg) (r:List Mg):LV c x (m::r)=if m.2.1=2∧m.2.2.1=x∧cR c m.1=false then m.1::LV c x r else LV c x r:=by
  unfold LV
  by_cases h:m.2.1=2∧m.2.2.1=x
  · rw [List.filter_cons_of_pos (by simpa using h), List.map_cons]
    cases hst:cR c m.1 with
    |true=>rw [List.filter_cons_of_neg (by rw [hst];simp),if_neg fun h=>by cases h.2.2]
    |false=>rw [List.filter_cons_of_pos (by rw [hst];rfl),if_pos ⟨h.1,h.2,rfl⟩]
  · rw [List.filter_cons_of_neg (by simpa using h),if_neg fun hh=>h ⟨hh.1,hh.2.1⟩]
theorem Qz (x:ByteArray):LV c x c=eu c x:=rfl
theorem Cw (x:ByteArray) (a b:List Mg):LV c x (a++b)=LV c x a++LV c x b:=by
  unfold LV;rw [List.filter_append,List.map_append,List.filter_append]
abbrev LS:=Nat×List Int×List Int×Unit
theorem kH94 (hs:SI c) (hk:CH c) (hl:c.length≤1000) {o:List Int} (h:Stt c o) {i:Nat} (hi:i<c.length) {t:ByteArray} (ht:Tk c t) (hit:(mi c i).1=t):ah (FH94fix c c.length (i:Int) o)=some (((ixs c (bf c (c.length+1) t)).length,ixs c (bf c (c.length+1) t),o,())):=by
  have h0:ah (FH94fix c c.length (i:Int) o)=tw (A:=kK.T) (B:=kL.T) (fun r y=>run r (FH94 y.1 y.2.1 y.2.2.1 y.2.2.2.1)) (c,c.length,((i:Nat):Int),o,()):=rfl
  refine h0.trans ?_
  have hlo:=h.lo
  refine Co (A:=kK.T) (B:=kL.T) (fun n a b=>∃i d,a=(c,c.length,((i:Nat):Int),o,())∧i<c.length∧jD c t d (mi c i).1∧cR c (mi c i).1=false∧d+n=c.length∧b=((ixs c (bf c (n+1) (mi c i).1)).length,ixs c (bf c (n+1) (mi c i).1),o,())) ?_ c.length _ _ ⟨i,0,rfl,hi,by rw [hit];exact .zero,by rw [hit];exact Cs (ht.top hs),by omega,by rw [hit]⟩
  rintro rec n _ _ ⟨i,d,rfl,hi,hp,hst,hn,rfl⟩ ih
  have Qg:=hp.short hs (ht.top hs) ht.ids
  have QA:nt c (mi c i).1=some t:=(fe hs hk).2 ⟨ht,hst,d,hp⟩
  have hvl:(bf c (n+1) (mi c i).1).length≤c.length:=by
    rw [←mo.length_eq];exact ga hs (ht.top hs) ht.ids hp
  have CI:c.getD i (bs [],(0:Int),bs [],bs [],(0:Int))=mi c i:=rfl
  have ii:bZ (i:Int) ((c.length:Nat):Int)=true:=aR (by omega) (by omega)
  have iio:bZ (i:Int) ((o.length:Nat):Int)=true:=aR (by omega) (by omega)
  have Vb:decide (i<o.length)=true:=decide_eq_true (by omega)
  have hix:=JU hs hi
  have leaf:eu c (mi c i).1=[]↔(o.getD i 0=4∨o.getD i 0=5):=by
    rw [h.v i hi]
    unfold tT
    by_cases e:eu c (mi c i).1=[]
    · rw [if_pos e,QA];simp [e]
    · rw [if_neg e];simp [e]
  have hone:eu c (mi c i).1=[]→ixs c (bf c (n+1) (mi c i).1)=[(i:Int)]:=fun e=>by
    unfold bf;rw [e];unfold ixs;rw [List.map_cons,List.map_nil,hix]
  have QB:eu c (mi c i).1≠[]→bf c (n+1) (mi c i).1=(eu c (mi c i).1).flatMap (bf c n):=fun e=>by
    conv=>lhs;unfold bf
    cases hl:eu c (mi c i).1 with
    |nil=>exact absurd hl e
    |cons a l=>rfl
  have e:(run rec (FH94 c c.length (i:Int) o):Option LS)=need (bZ (i:Int) ((c.length:Nat):Int)) (need (decide (0+Int.toNat (i:Int)<o.length)) (kU (o.getD (0+Int.toNat (i:Int)) 0==4) (some (1,[(i:Int)],o,())) (need (bZ (i:Int) ((c.length:Nat):Int)) (need (decide (0+Int.toNat (i:Int)<o.length)) (kU (o.getD (0+Int.toNat (i:Int)) 0==5) (some (1,[(i:Int)],o,())) (cq (iter (fun a=>run rec (gH94_0 a)) (c,c.length,(i:Int),0,(0:Int),o,[],())) fun z1=>some (z1.1,z1.2.1,z1.2.2.1,()))))))):=rfl
  refine Eq.trans (α:=Option LS) e ?_
  simp only [Int.toNat_natCast,Nat.zero_add,ii,iio,Vb,af,bh]
  by_cases c4:o.getD i 0=4
  · rw [if_pos c4,hone (leaf.2 (.inl c4))];rfl
  rw [if_neg c4]
  by_cases c5:o.getD i 0=5
  · rw [if_pos c5,hone (leaf.2 (.inr c5))];rfl
  rw [if_neg c5]
  have hne : eu c (mi c i).1 ≠ [] := fun e => (leaf.1 e).elim c4 c5
  rw [QB hne] at hvl ⊢
  have hit : iter (fun a => run rec (gH94_0 a)) (c, c.length, (i : Int), 0, (0 : Int), o, [], ()) = some (((ixs c ((eu c (mi c i).1).flatMap (bf c n))).length, ixs c ((eu c (mi c i).1).flatMap (bf c n)), o, ())) := (aP c (fun k (acc : List ByteArray) => (c, c.length, (i : Int), (ixs c (acc)).length, ((k : Nat) : Int), o, ixs c (acc), ())) (fun acc r => ((ixs c (acc ++ (LV c (mi c i).1 r).flatMap (bf c n))).length, ixs c (acc ++ (LV c (mi c i).1 r).flatMap (bf c n)), o, ())) (fun pre acc => acc = (LV c (mi c i).1 pre).flatMap (bf c n)) (by
    rintro pre z post _ hz rfl
    have hlen:c.length=pre.length+(post.length+1):=by rw [hz];simp
    have hd:c.getD pre.length (bs [],(0:Int),bs [],bs [],(0:Int))=z:=by rw [hz];exact aU rfl
    have Fo:mi c pre.length=z:=hd
    have Mr:z∈c:=by rw [hz];simp
    have i1:bZ (pre.length:Int) ((c.length:Nat):Int)=true:=aR (by omega) (by omega)
    have i2:bZ (pre.length:Int) ((o.length:Nat):Int)=true:=aR (by omega) (by omega)
    have r1:de .i64 ((pre.length:Int)+1)=true:=aH (by omega) (by omega)
    have Qv:decide (pre.length<o.length)=true:=decide_eq_true (by omega)
    have u7:=vM (c:=c) (mi c i).1 z post
    have hcs:LV c (mi c i).1 (pre++[z])=LV c (mi c i).1 pre++LV c (mi c i).1 [z]:=Cw ..
    have hc1:=vM (c:=c) (mi c i).1 z []
    have e2:(run rec (gH94_0 (c,c.length,(i:Int),(ixs c ((LV c (mi c i).1 pre).flatMap (bf c n))).length,((pre.length:Nat):Int),o,ixs c ((LV c (mi c i).1 pre).flatMap (bf c n)),())):Option ((List Mg×Nat×Int×Nat×Int×List Int×List Int×Unit) ⊕ LS))=kU (decide (((pre.length:Nat):Int)<((c.length:Nat):Int))) (need (bZ ((pre.length:Nat):Int) ((c.length:Nat):Int)) (kU ((c.getD (Int.toNat ((pre.length:Nat):Int)) (bs [],(0:Int),bs [],bs [],(0:Int))).2.1==2) (need (bZ ((pre.length:Nat):Int) ((c.length:Nat):Int)) (need (bZ (i:Int) ((c.length:Nat):Int)) (kU (seq (c.getD (Int.toNat ((pre.length:Nat):Int)) (bs [],(0:Int),bs [],bs [],(0:Int))).2.2.1 (c.getD (Int.toNat (i:Int)) (bs [],(0:Int),bs [],bs [],(0:Int))).1) (need (bZ ((pre.length:Nat):Int) ((c.length:Nat):Int)) (need (decide (0+Int.toNat ((pre.length:Nat):Int)<o.length)) (kU (decide (2<o.getD (0+Int.toNat ((pre.length:Nat):Int)) 0)) (cq (rec (c,c.length,((pre.length:Nat):Int),o,()):Option LS) fun y0=>need (decide ((ixs c ((LV c (mi c i).1 pre).flatMap (bf c n))).length+((y0.2.1.drop 0).take y0.1).length<bI)) (need (de .i64 (((pre.length:Nat):Int)+1)) (some (.inl (c,c.length,(i:Int),(ixs c ((LV c (mi c i).1 pre).flatMap (bf c n))).length+((y0.2.1.drop 0).take y0.1).length,((pre.length:Nat):Int)+1,y0.2.2.1,(((ixs c ((LV c (mi c i).1 pre).flatMap (bf c n))).drop 0).take (ixs c ((LV c (mi c i).1 pre).flatMap (bf c n))).length)++((y0.2.1.drop 0).take y0.1),()))))) (need (de .i64 (((pre.length:Nat):Int)+1)) (some (.inl (c,c.length,(i:Int),(ixs c ((LV c (mi c i).1 pre).flatMap (bf c n))).length,((pre.length:Nat):Int)+1,o,(ixs c ((LV c (mi c i).1 pre).flatMap (bf c n))),()))))))) (need (de .i64 (((pre.length:Nat):Int)+1)) (some (.inl (c,c.length,(i:Int),(ixs c ((LV c (mi c i).1 pre).flatMap (bf c n))).length,((pre.length:Nat):Int)+1,o,(ixs c ((LV c (mi c i).1 pre).flatMap (bf c n))),()))))))) (need (de .i64 (((pre.length:Nat):Int)+1)) (some (.inl (c,c.length,(i:Int),(ixs c ((LV c (mi c i).1 pre).flatMap (bf c n))).length,((pre.length:Nat):Int)+1,o,(ixs c ((LV c (mi c i).1 pre).flatMap (bf c n))),())))))) (some (.inr ((ixs c ((LV c (mi c i).1 pre).flatMap (bf c n))).length,(ixs c ((LV c (mi c i).1 pre).flatMap (bf c n))),o,()))):=rfl
    left
    by_cases hq:z.2.1=2∧z.2.2.1=(mi c i).1
    · have pG : z.1 ∈ kids c (mi c i).1 := by rw [← hq.2]; exact tS Mr hq.1
      have h2:=h.s pre.length (by omega)
      rw [Fo,Cu hs hk QA pG] at h2
      cases hsz:cR c z.1 with
      |false =>
        rw [hsz] at h2
        rw [if_pos ⟨hq.1,hq.2,hsz⟩] at u7 hc1
        have ME:=hp.step pG
        have hsh:=ME.short hs (ht.top hs) ht.ids
        obtain ⟨n',rfl⟩:∃n',n=n'+1:=⟨n - 1,by omega⟩
        have hq1:(rec (c,c.length,((pre.length:Nat):Int),o,()):Option LS)=some (((ixs c (bf c (n'+1) z.1)).length,ixs c (bf c (n'+1) z.1),o,())):=ih n' _ _ (by omega) ⟨pre.length,d+1,rfl,by omega,by rw [Fo];exact ME,by rw [Fo];exact hsz,by omega,by rw [Fo]⟩
        have hle:((LV c (mi c i).1 pre).flatMap (bf c (n'+1))).length+(bf c (n'+1) z.1).length≤c.length:=by
          have e3:(eu c (mi c i).1).flatMap (bf c (n'+1))=(LV c (mi c i).1 pre).flatMap (bf c (n'+1))++(bf c (n'+1) z.1++(LV c (mi c i).1 post).flatMap (bf c (n'+1))):=by
            rw [←Qz,hz,←hz,show LV c (mi c i).1 c=LV c (mi c i).1 (pre++z::post) by rw [←hz],Cw,u7,List.flatMap_append,List.flatMap_cons]
          rw [e3,List.length_append,List.length_append] at hvl
          omega
        refine ⟨(LV c (mi c i).1 pre).flatMap (bf c (n'+1))++bf c (n'+1) z.1,?_,by rw [hcs,hc1];simp [LV],by rw [u7];simp⟩
        refine Eq.trans (α:=Option ((List Mg×Nat×Int×Nat×Int×List Int×List Int×Unit) ⊕ LS)) e2 ?_
        simp only [Int.toNat_natCast,Nat.zero_add,hd,CI,ii,i1,i2,Qv,af,bh,aM,seq_eq]
        rw [if_pos (by omega),if_pos hq.1,if_pos hq.2,if_pos (h2.2 rfl)]
        refine bind_eq (A:=LS) hq1 ?_
        simp only [List.drop_zero,List.take_length,lB,r1,af]
        rw [b7 (show _<bI by rw [ei,List.length_take,lB];omega)]
        unfold ixs
        rw [List.map_append]
        simp only [List.take_of_length_le,List.length_map,Nat.le_refl,List.length_append]
        rfl
      |true =>
        rw [hsz] at h2
        rw [if_neg fun hh=>by have:=hh.2.2;rw [hsz] at this;cases this] at u7 hc1
        refine ⟨(LV c (mi c i).1 pre).flatMap (bf c n),?_,by rw [hcs,hc1];simp [LV],by rw [u7]⟩
        refine Eq.trans (α:=Option ((List Mg×Nat×Int×Nat×Int×List Int×List Int×Unit) ⊕ LS)) e2 ?_
        simp only [Int.toNat_natCast,Nat.zero_add,hd,CI,ii,i1,i2,Qv,r1,af,bh,aM,seq_eq]
        rw [if_pos (by omega),if_pos hq.1,if_pos hq.2,if_neg fun hh=>by have:=h2.1 hh;cases this]
        rfl
    · rw [if_neg fun hh => hq ⟨hh.1, hh.2.1⟩] at u7 hc1
      refine ⟨(LV c (mi c i).1 pre).flatMap (bf c n),?_,by rw [hcs,hc1];simp [LV],by rw [u7]⟩
      refine Eq.trans (α:=Option ((List Mg×Nat×Int×Nat×Int×List Int×List Int×Unit) ⊕ LS)) e2 ?_
      simp only [Int.toNat_natCast,Nat.zero_add,hd,CI,ii,i1,i2,Qv,r1,af,bh,aM,seq_eq]
      rw [if_pos (by omega)]
      by_cases h2:z.2.1=2
      · rw [if_pos h2,if_neg fun e=>hq ⟨h2,e⟩];rfl
      · rw [if_neg h2];rfl) (by
    rintro acc _
    have e2:(run rec (gH94_0 (c,c.length,(i:Int),(ixs c (acc)).length,((c.length:Nat):Int),o,ixs c (acc),())):Option ((List Mg×Nat×Int×Nat×Int×List Int×List Int×Unit) ⊕ LS))=kU (decide (((c.length:Nat):Int)<((c.length:Nat):Int))) (need (bZ ((c.length:Nat):Int) ((c.length:Nat):Int)) (kU ((c.getD (Int.toNat ((c.length:Nat):Int)) (bs [],(0:Int),bs [],bs [],(0:Int))).2.1==2) (need (bZ ((c.length:Nat):Int) ((c.length:Nat):Int)) (need (bZ (i:Int) ((c.length:Nat):Int)) (kU (seq (c.getD (Int.toNat ((c.length:Nat):Int)) (bs [],(0:Int),bs [],bs [],(0:Int))).2.2.1 (c.getD (Int.toNat (i:Int)) (bs [],(0:Int),bs [],bs [],(0:Int))).1) (need (bZ ((c.length:Nat):Int) ((c.length:Nat):Int)) (need (decide (0+Int.toNat ((c.length:Nat):Int)<o.length)) (kU (decide (2<o.getD (0+Int.toNat ((c.length:Nat):Int)) 0)) (cq (rec (c,c.length,((c.length:Nat):Int),o,()):Option LS) fun y0=>need (decide ((ixs c (acc)).length+((y0.2.1.drop 0).take y0.1).length<bI)) (need (de .i64 (((c.length:Nat):Int)+1)) (some (.inl (c,c.length,(i:Int),(ixs c (acc)).length+((y0.2.1.drop 0).take y0.1).length,((c.length:Nat):Int)+1,y0.2.2.1,(((ixs c (acc)).drop 0).take (ixs c (acc)).length)++((y0.2.1.drop 0).take y0.1),()))))) (need (de .i64 (((c.length:Nat):Int)+1)) (some (.inl (c,c.length,(i:Int),(ixs c (acc)).length,((c.length:Nat):Int)+1,o,(ixs c (acc)),()))))))) (need (de .i64 (((c.length:Nat):Int)+1)) (some (.inl (c,c.length,(i:Int),(ixs c (acc)).length,((c.length:Nat):Int)+1,o,(ixs c (acc)),()))))))) (need (de .i64 (((c.length:Nat):Int)+1)) (some (.inl (c,c.length,(i:Int),(ixs c (acc)).length,((c.length:Nat):Int)+1,o,(ixs c (acc)),())))))) (some (.inr ((ixs c (acc)).length,(ixs c (acc)),o,()))):=rfl
    rw [e2,aM,if_neg (by omega)]
    simp [LV]) (s:=[]) rfl)
  refine bind_eq (A:=LS) hit ?_
  rfl
abbrev u9:=Nat×List Int×Unit
theorem Vd (hs:SI c) (hk:CH c) (hl:c.length≤1000) {o:List Int} (h:Stt c o) {i:Nat} (hi:i<c.length) {t:ByteArray} (ht:Tk c t) (hit:(mi c i).1=t):ah (FH94_v1fix c o (i:Int))=some (((ixs c (bf c (c.length+1) t)).length,ixs c (bf c (c.length+1) t),())):=by
  have h0:ah (FH94_v1fix c o (i:Int))=tw (A:=b8.T) (B:=cg.T) (fun r y=>run r (FH94_v1 y.1 y.2.1 y.2.2.1)) (c,o,((i:Nat):Int),()):=rfl
  refine h0.trans ?_
  have hlo:=h.lo
  refine Co (A:=b8.T) (B:=cg.T) (fun n a b=>∃i d,a=(c,o,((i:Nat):Int),())∧i<c.length∧jD c t d (mi c i).1∧cR c (mi c i).1=false∧d+n=c.length∧b=((ixs c (bf c (n+1) (mi c i).1)).length,ixs c (bf c (n+1) (mi c i).1),())) ?_ c.length _ _ ⟨i,0,rfl,hi,by rw [hit];exact .zero,by rw [hit];exact Cs (ht.top hs),by omega,by rw [hit]⟩
  rintro rec n _ _ ⟨i,d,rfl,hi,hp,hst,hn,rfl⟩ ih
  have Qg:=hp.short hs (ht.top hs) ht.ids
  have QA:nt c (mi c i).1=some t:=(fe hs hk).2 ⟨ht,hst,d,hp⟩
  have hvl:(bf c (n+1) (mi c i).1).length≤c.length:=by
    rw [←mo.length_eq];exact ga hs (ht.top hs) ht.ids hp
  have CI:c.getD i (bs [],(0:Int),bs [],bs [],(0:Int))=mi c i:=rfl
  have ii:bZ (i:Int) ((c.length:Nat):Int)=true:=aR (by omega) (by omega)
  have iio:bZ (i:Int) ((o.length:Nat):Int)=true:=aR (by omega) (by omega)
  have Vb:decide (i<o.length)=true:=decide_eq_true (by omega)
  have hix:=JU hs hi
  have leaf:eu c (mi c i).1=[]↔(o.getD i 0=4∨o.getD i 0=5):=by
    rw [h.v i hi]
    unfold tT
    by_cases e:eu c (mi c i).1=[]
    · rw [if_pos e,QA];simp [e]
    · rw [if_neg e];simp [e]
  have hone:eu c (mi c i).1=[]→ixs c (bf c (n+1) (mi c i).1)=[(i:Int)]:=fun e=>by
    unfold bf;rw [e];unfold ixs;rw [List.map_cons,List.map_nil,hix]
  have QB:eu c (mi c i).1≠[]→bf c (n+1) (mi c i).1=(eu c (mi c i).1).flatMap (bf c n):=fun e=>by
    conv=>lhs;unfold bf
    cases hl:eu c (mi c i).1 with
    |nil=>exact absurd hl e
    |cons a l=>rfl
  have e:(run rec (FH94_v1 c o (i:Int)):Option u9)=need (bZ (i:Int) ((o.length:Nat):Int)) (kU (o.getD (Int.toNat (i:Int)) 0==4) (some (1,[(i:Int)],())) (need (bZ (i:Int) ((o.length:Nat):Int)) (kU (o.getD (Int.toNat (i:Int)) 0==5) (some (1,[(i:Int)],())) (cq (iter (fun a=>run rec (gH94_v1_0 a)) (c,o,(i:Int),0,(0:Int),[],())) fun z1=>some (z1.1,z1.2.1,()))))):=rfl
  refine Eq.trans (α:=Option u9) e ?_
  simp only [Int.toNat_natCast,Nat.zero_add,ii,iio,Vb,af,bh]
  by_cases c4:o.getD i 0=4
  · rw [if_pos c4,hone (leaf.2 (.inl c4))];rfl
  rw [if_neg c4]
  by_cases c5:o.getD i 0=5
  · rw [if_pos c5,hone (leaf.2 (.inr c5))];rfl
  rw [if_neg c5]
  have hne : eu c (mi c i).1 ≠ [] := fun e => (leaf.1 e).elim c4 c5
  rw [QB hne] at hvl ⊢
  have hit : iter (fun a => run rec (gH94_v1_0 a)) (c, o, (i : Int), 0, (0 : Int), [], ()) = some (((ixs c ((eu c (mi c i).1).flatMap (bf c n))).length, ixs c ((eu c (mi c i).1).flatMap (bf c n)), ())) := (aP c (fun k (acc : List ByteArray) => (c, o, (i : Int), (ixs c (acc)).length, ((k : Nat) : Int), ixs c (acc), ())) (fun acc r => ((ixs c (acc ++ (LV c (mi c i).1 r).flatMap (bf c n))).length, ixs c (acc ++ (LV c (mi c i).1 r).flatMap (bf c n)), ())) (fun pre acc => acc = (LV c (mi c i).1 pre).flatMap (bf c n)) (by
    rintro pre z post _ hz rfl
    have hlen:c.length=pre.length+(post.length+1):=by rw [hz];simp
    have hd:c.getD pre.length (bs [],(0:Int),bs [],bs [],(0:Int))=z:=by rw [hz];exact aU rfl
    have Fo:mi c pre.length=z:=hd
    have Mr:z∈c:=by rw [hz];simp
    have i1:bZ (pre.length:Int) ((c.length:Nat):Int)=true:=aR (by omega) (by omega)
    have i2:bZ (pre.length:Int) ((o.length:Nat):Int)=true:=aR (by omega) (by omega)
    have r1:de .i64 ((pre.length:Int)+1)=true:=aH (by omega) (by omega)
    have Qv:decide (pre.length<o.length)=true:=decide_eq_true (by omega)
    have u7:=vM (c:=c) (mi c i).1 z post
    have hcs:LV c (mi c i).1 (pre++[z])=LV c (mi c i).1 pre++LV c (mi c i).1 [z]:=Cw ..
    have hc1:=vM (c:=c) (mi c i).1 z []
    have e2:(run rec (gH94_v1_0 (c,o,(i:Int),(ixs c ((LV c (mi c i).1 pre).flatMap (bf c n))).length,((pre.length:Nat):Int),ixs c ((LV c (mi c i).1 pre).flatMap (bf c n)),())):Option ((List Mg×List Int×Int×Nat×Int×List Int×Unit) ⊕ u9))=kU (decide (((pre.length:Nat):Int)<((c.length:Nat):Int))) (need (bZ ((pre.length:Nat):Int) ((c.length:Nat):Int)) (kU ((c.getD (Int.toNat ((pre.length:Nat):Int)) (bs [],(0:Int),bs [],bs [],(0:Int))).2.1==2) (need (bZ ((pre.length:Nat):Int) ((c.length:Nat):Int)) (need (bZ (i:Int) ((c.length:Nat):Int)) (kU (seq (c.getD (Int.toNat ((pre.length:Nat):Int)) (bs [],(0:Int),bs [],bs [],(0:Int))).2.2.1 (c.getD (Int.toNat (i:Int)) (bs [],(0:Int),bs [],bs [],(0:Int))).1) (need (bZ ((pre.length:Nat):Int) ((o.length:Nat):Int)) (kU (decide (2<o.getD (Int.toNat ((pre.length:Nat):Int)) 0)) (cq (rec (c,o,((pre.length:Nat):Int),()):Option u9) fun y0=>need (decide ((ixs c ((LV c (mi c i).1 pre).flatMap (bf c n))).length+((y0.2.1.drop 0).take y0.1).length<bI)) (need (de .i64 (((pre.length:Nat):Int)+1)) (some (.inl (c,o,(i:Int),(ixs c ((LV c (mi c i).1 pre).flatMap (bf c n))).length+((y0.2.1.drop 0).take y0.1).length,((pre.length:Nat):Int)+1,(((ixs c ((LV c (mi c i).1 pre).flatMap (bf c n))).drop 0).take (ixs c ((LV c (mi c i).1 pre).flatMap (bf c n))).length)++((y0.2.1.drop 0).take y0.1),()))))) (need (de .i64 (((pre.length:Nat):Int)+1)) (some (.inl (c,o,(i:Int),(ixs c ((LV c (mi c i).1 pre).flatMap (bf c n))).length,((pre.length:Nat):Int)+1,(ixs c ((LV c (mi c i).1 pre).flatMap (bf c n))),())))))) (need (de .i64 (((pre.length:Nat):Int)+1)) (some (.inl (c,o,(i:Int),(ixs c ((LV c (mi c i).1 pre).flatMap (bf c n))).length,((pre.length:Nat):Int)+1,(ixs c ((LV c (mi c i).1 pre).flatMap (bf c n))),()))))))) (need (de .i64 (((pre.length:Nat):Int)+1)) (some (.inl (c,o,(i:Int),(ixs c ((LV c (mi c i).1 pre).flatMap (bf c n))).length,((pre.length:Nat):Int)+1,(ixs c ((LV c (mi c i).1 pre).flatMap (bf c n))),())))))) (some (.inr ((ixs c ((LV c (mi c i).1 pre).flatMap (bf c n))).length,(ixs c ((LV c (mi c i).1 pre).flatMap (bf c n))),()))):=rfl
    left
    by_cases hq:z.2.1=2∧z.2.2.1=(mi c i).1
    · have pG : z.1 ∈ kids c (mi c i).1 := by rw [← hq.2]; exact tS Mr hq.1
      have h2:=h.s pre.length (by omega)
      rw [Fo,Cu hs hk QA pG] at h2
      cases hsz:cR c z.1 with
      |false =>
        rw [hsz] at h2
        rw [if_pos ⟨hq.1,hq.2,hsz⟩] at u7 hc1
        have ME:=hp.step pG
        have hsh:=ME.short hs (ht.top hs) ht.ids
        obtain ⟨n',rfl⟩:∃n',n=n'+1:=⟨n - 1,by omega⟩
        have hq1:(rec (c,o,((pre.length:Nat):Int),()):Option u9)=some (((ixs c (bf c (n'+1) z.1)).length,ixs c (bf c (n'+1) z.1),())):=ih n' _ _ (by omega) ⟨pre.length,d+1,rfl,by omega,by rw [Fo];exact ME,by rw [Fo];exact hsz,by omega,by rw [Fo]⟩
        have hle:((LV c (mi c i).1 pre).flatMap (bf c (n'+1))).length+(bf c (n'+1) z.1).length≤c.length:=by
          have e3:(eu c (mi c i).1).flatMap (bf c (n'+1))=(LV c (mi c i).1 pre).flatMap (bf c (n'+1))++(bf c (n'+1) z.1++(LV c (mi c i).1 post).flatMap (bf c (n'+1))):=by
            rw [←Qz,hz,←hz,show LV c (mi c i).1 c=LV c (mi c i).1 (pre++z::post) by rw [←hz],Cw,u7,List.flatMap_append,List.flatMap_cons]
          rw [e3,List.length_append,List.length_append] at hvl
          omega
        refine ⟨(LV c (mi c i).1 pre).flatMap (bf c (n'+1))++bf c (n'+1) z.1,?_,by rw [hcs,hc1];simp [LV],by rw [u7];simp⟩
        refine Eq.trans (α:=Option ((List Mg×List Int×Int×Nat×Int×List Int×Unit) ⊕ u9)) e2 ?_
        simp only [Int.toNat_natCast,Nat.zero_add,hd,CI,ii,i1,i2,Qv,af,bh,aM,seq_eq]
        rw [if_pos (by omega),if_pos hq.1,if_pos hq.2,if_pos (h2.2 rfl)]
        refine bind_eq (A:=u9) hq1 ?_
        simp only [List.drop_zero,List.take_length,lB,r1,af]
        rw [b7 (show _<bI by rw [ei,List.length_take,lB];omega)]
        unfold ixs
        rw [List.map_append]
        simp only [List.take_of_length_le,List.length_map,Nat.le_refl,List.length_append]
        rfl
      |true =>
        rw [hsz] at h2
        rw [if_neg fun hh=>by have:=hh.2.2;rw [hsz] at this;cases this] at u7 hc1
        refine ⟨(LV c (mi c i).1 pre).flatMap (bf c n),?_,by rw [hcs,hc1];simp [LV],by rw [u7]⟩
        refine Eq.trans (α:=Option ((List Mg×List Int×Int×Nat×Int×List Int×Unit) ⊕ u9)) e2 ?_
        simp only [Int.toNat_natCast,Nat.zero_add,hd,CI,ii,i1,i2,Qv,r1,af,bh,aM,seq_eq]
        rw [if_pos (by omega),if_pos hq.1,if_pos hq.2,if_neg fun hh=>by have:=h2.1 hh;cases this]
        rfl
    · rw [if_neg fun hh => hq ⟨hh.1, hh.2.1⟩] at u7 hc1
      refine ⟨(LV c (mi c i).1 pre).flatMap (bf c n),?_,by rw [hcs,hc1];simp [LV],by rw [u7]⟩
      refine Eq.trans (α:=Option ((List Mg×List Int×Int×Nat×Int×List Int×Unit) ⊕ u9)) e2 ?_
      simp only [Int.toNat_natCast,Nat.zero_add,hd,CI,ii,i1,i2,Qv,r1,af,bh,aM,seq_eq]
      rw [if_pos (by omega)]
      by_cases h2:z.2.1=2
      · rw [if_pos h2,if_neg fun e=>hq ⟨h2,e⟩];rfl
      · rw [if_neg h2];rfl) (by
    rintro acc _
    have e2:(run rec (gH94_v1_0 (c,o,(i:Int),(ixs c (acc)).length,((c.length:Nat):Int),ixs c (acc),())):Option ((List Mg×List Int×Int×Nat×Int×List Int×Unit) ⊕ u9))=kU (decide (((c.length:Nat):Int)<((c.length:Nat):Int))) (need (bZ ((c.length:Nat):Int) ((c.length:Nat):Int)) (kU ((c.getD (Int.toNat ((c.length:Nat):Int)) (bs [],(0:Int),bs [],bs [],(0:Int))).2.1==2) (need (bZ ((c.length:Nat):Int) ((c.length:Nat):Int)) (need (bZ (i:Int) ((c.length:Nat):Int)) (kU (seq (c.getD (Int.toNat ((c.length:Nat):Int)) (bs [],(0:Int),bs [],bs [],(0:Int))).2.2.1 (c.getD (Int.toNat (i:Int)) (bs [],(0:Int),bs [],bs [],(0:Int))).1) (need (bZ ((c.length:Nat):Int) ((o.length:Nat):Int)) (kU (decide (2<o.getD (Int.toNat ((c.length:Nat):Int)) 0)) (cq (rec (c,o,((c.length:Nat):Int),()):Option u9) fun y0=>need (decide ((ixs c (acc)).length+((y0.2.1.drop 0).take y0.1).length<bI)) (need (de .i64 (((c.length:Nat):Int)+1)) (some (.inl (c,o,(i:Int),(ixs c (acc)).length+((y0.2.1.drop 0).take y0.1).length,((c.length:Nat):Int)+1,(((ixs c (acc)).drop 0).take (ixs c (acc)).length)++((y0.2.1.drop 0).take y0.1),()))))) (need (de .i64 (((c.length:Nat):Int)+1)) (some (.inl (c,o,(i:Int),(ixs c (acc)).length,((c.length:Nat):Int)+1,(ixs c (acc)),())))))) (need (de .i64 (((c.length:Nat):Int)+1)) (some (.inl (c,o,(i:Int),(ixs c (acc)).length,((c.length:Nat):Int)+1,(ixs c (acc)),()))))))) (need (de .i64 (((c.length:Nat):Int)+1)) (some (.inl (c,o,(i:Int),(ixs c (acc)).length,((c.length:Nat):Int)+1,(ixs c (acc)),())))))) (some (.inr ((ixs c (acc)).length,(ixs c (acc)),()))):=rfl
    rw [e2,aM,if_neg (by omega)]
    simp [LV]) (s:=[]) rfl)
  refine bind_eq (A:=u9) hit ?_
  rfl
end
end Go.Proofs.Tryz
end
section
namespace Go.Proofs.Tryz
open Go.AM
set_option maxRecDepth 100000
set_option maxHeartbeats 2000000
section
variable {c:List Mg}
def fin5 (c:List Mg) (j:Nat):Int:=match tT c (mi c j).1 with
 |some t=>if 1<(jo c t).length then 5 else 4
 |none=>nw c j
theorem QC (hs:SI c) (hk:CH c) {j:Nat} {t:ByteArray} (h:tT c (mi c j).1=some t):nw c j=4:=by
 obtain ⟨h1,h2⟩:=jQ.1 h
 have h3:=((fe hs hk).1 h2).2.1
 unfold nw
 rw [if_neg (by rw [h3];simp),if_pos (by rw [h2];rfl),if_pos h1]
theorem aaz {j:Nat} (h:tT c (mi c j).1=none):nw c j≠4:=by
 unfold nw
 split
 ·omega
 ·split
  ·rename_i hs
   split
   ·rename_i hl
    obtain ⟨t,ht⟩:=Option.isSome_iff_exists.1 hs
    rw [jQ.2 ⟨hl,ht⟩] at h;cases h
   ·omega
  ·omega
theorem aaA (hs:SI c) (hk:CH c) (j:Nat):2<nw c j↔(nt c (mi c j).1).isSome=true:=by
 unfold nw
 by_cases h1:cR c (mi c j).1=true
 ·rw [if_pos h1]
  refine ⟨fun h=>by omega,fun h=>?_⟩
  obtain ⟨t,ht⟩:=Option.isSome_iff_exists.1 h
  have:=((fe hs hk).1 ht).2.1
  rw [h1] at this;cases this
 ·rw [if_neg h1]
  by_cases h2:(nt c (mi c j).1).isSome=true
  ·rw [if_pos h2];refine ⟨fun _=>h2,fun _=>?_⟩;split<;>omega
  ·rw [if_neg h2];exact ⟨fun h=>by omega,fun h=>absurd h h2⟩
theorem QD {x:ByteArray} (h:(tT c x).isSome=true):(nt c x).isSome=true:=by
 obtain ⟨t,ht⟩:=Option.isSome_iff_exists.1 h
 rw [(jQ.1 ht).2];rfl
def Pd (c:List Mg) (k j:Nat):Prop:=∃a,a<k∧a<c.length∧(mi c a).2.1=1∧1<(jo c (mi c a).1).length∧(mi c j).1∈jo c (mi c a).1
structure Dsp (c:List Mg) (k:Nat) (o:List Int):Prop where
 lo:o.length=c.length
 y:∀j<c.length,Pd c k j→o.getD j 0=5
 n:∀j<c.length,¬Pd c k j→o.getD j 0=nw c j
theorem Dsp.stt (hs:SI c) (hk:CH c) {k:Nat} {o:List Int} (h:Dsp c k o):Stt c o:=by
 have hp:∀j<c.length,Pd c k j→(tT c (mi c j).1).isSome=true:=fun j hj ⟨a,_,ha,h1,_,h2⟩=>by
  rw [(sB hs hk ⟨mi c a,fL ha,rfl,h1⟩).1 h2];rfl
 refine ⟨h.lo,fun j hj=>?_,fun j hj=>?_⟩
 ·by_cases hP : Pd c k j
  ·rw [h.y j hj hP];exact ⟨fun _=>hp j hj hP,fun _=>.inr rfl⟩
  ·rw [h.n j hj hP]
   cases hv:tT c (mi c j).1 with
   |some t=>rw [QC hs hk hv];simp
   |none =>
    have h4:=aaz hv
    refine ⟨fun hh=>?_,fun hh=>by cases hh⟩
    rcases hh with hh|hh
    ·exact absurd hh h4
    ·exfalso; unfold nw at hh; split at hh
     ·omega
     ·split at hh
      ·split at hh<;>omega
      ·omega
 ·by_cases hP : Pd c k j
  ·rw [h.y j hj hP];exact ⟨fun _=>QD (hp j hj hP),fun _=>by omega⟩
  ·rw [h.n j hj hP];exact aaA hs hk j
theorem agy (hs:SI c) (hl:c.length≤1000) {i:Nat} {w:List ByteArray} (hw:∀y∈w,y∈ids c) (hwl:w.length≤1000) {o:List Int} (ho:o.length=c.length) :
  ∃o':List Int,iter (fun a=>ah (g92_9 a)) (c,c.length,(i:Int),(ixs c w).length,(0:Int),o,ixs c w,())=some (c,c.length,(i:Int),o',())∧o'.length=c.length∧(∀j<c.length,1<w.length→(mi c j).1∈w→o'.getD j 0=5)∧∀j<c.length,¬(1<w.length∧(mi c j).1∈w)→o'.getD j 0=o.getD j 0:=by
 rw [lB]
 by_cases h1:1<w.length
 ·obtain ⟨r, h2, o', rfl, h3, h4, h5⟩ := ek (step := fun a => ah (g92_9 a)) w.length (fun k x => ∃ o', x = (c, c.length, (i : Int), w.length, (k : Int), o', ixs c w, ()) ∧ o'.length = c.length ∧ (∀ j < c.length, (mi c j).1 ∈ w.take k → o'.getD j 0 = 5) ∧ ∀ j < c.length, ¬ (mi c j).1 ∈ w.take k → o'.getD j 0 = o.getD j 0)
   (fun r=>∃o',r=(c,c.length,(i:Int),o',())∧o'.length=c.length∧(∀j<c.length,(mi c j).1∈w→o'.getD j 0=5)∧∀j<c.length,¬(mi c j).1∈w→o'.getD j 0=o.getD j 0) (by
   rintro k _ hk ⟨o1,rfl,q1,q2,q3⟩
   have hwk:w.getD k (bs [])∈w:=JS hk
   obtain ⟨a,ha,hea⟩:=JT (hw _ hwk)
   have e1:(ixs c w).getD k 0=(a:Int):=by
    unfold ixs
    rw [List.getD_eq_getElem?_getD,List.getElem?_map,List.getElem?_eq_getElem hk]
    have:w[k]=(mi c a).1:=by rw [hea,List.getD_eq_getElem?_getD,List.getElem?_eq_getElem hk];rfl
    simp only [Option.map_some,Option.getD_some]
    rw [this,JU hs ha]
   have i1:bZ (k:Int) ((w.length:Nat):Int)=true:=aR (by omega) (by omega)
   have ia:bZ (a:Int) ((c.length:Nat):Int)=true:=aR (by omega) (by omega)
   have r1:de .i64 ((k:Int)+1)=true:=aH (by omega) (by omega)
   have d1:decide (k<(ixs c w).length)=true:=decide_eq_true (by rw [lB];exact hk)
   have d2:decide (a<o1.length)=true:=decide_eq_true (by omega)
   have Rl:w.take (k+1)=w.take k++[w.getD k (bs [])]:=by
    rw [List.take_succ_eq_append_getElem hk,List.getD_eq_getElem?_getD,List.getElem?_eq_getElem hk];rfl
   simp only [g92_9,ak,aN,aS,aJ,aa,Int.toNat_natCast,Nat.zero_add,e1,i1,ia,r1,d1,d2,af,aM]
   rw [if_pos (by omega),if_pos (by omega)]
   refine ⟨_,rfl,o1.set a 5,rfl,by simp [q1],fun j hj hm=>?_,fun j hj hm=>?_⟩
   ·rw [bS (by omega)]
    split
    ·rfl
    ·rename_i haj
     rw [Rl,List.mem_append,List.mem_singleton] at hm
     rcases hm with hm|hm
     ·exact q2 j hj hm
     ·exact absurd (HI hs ha hj (by rw [hea,hm])) haj
   ·rw [Rl, List.mem_append, List.mem_singleton] at hm
    rw [bS (by omega),if_neg fun e=>hm (.inr (by rw [←e,hea]))]
    exact q3 j hj fun h=>hm (.inl h)) (by
   rintro _ ⟨o1,rfl,q1,q2,q3⟩
   simp only [g92_9,ak,aa,aM]
   rw [if_neg (by omega)]
   rw [List.take_length] at q2 q3
   exact ⟨_,rfl,o1,rfl,q1,q2,q3⟩) (x:=(c,c.length,(i:Int),w.length,(0:Int),o,ixs c w,())) ⟨o,rfl,ho,fun j hj h=>by simp at h,fun _ _ _=>rfl⟩
  exact ⟨o',h2,h3,fun j hj _ hm=>h4 j hj hm,fun j hj hm=>h5 j hj fun h=>hm ⟨h1,h⟩⟩
 ·refine ⟨o, j9 ?_, ho, fun j _ hh => absurd hh h1, fun _ _ _ => rfl⟩
  simp only [g92_9,ak,aN,aS,aJ,aa,aM]
  by_cases h0:(0:Int)<((w.length:Nat):Int)
  ·rw [if_pos h0,if_neg (by omega)]
  ·rw [if_neg h0]
theorem agz (hs:SI c) (hk:CH c) (hl:c.length≤1000) {o:List Int} (h:Dsp c 0 o) :
  ∃o':List Int,iter (fun a=>ah (g92_8 a)) (c,c.length,(0:Int),o,())=some (c.length,o',())∧Dsp c c.length o':=by
 obtain ⟨r, h1, o', rfl, h2⟩ := ek (step := fun a => ah (g92_8 a)) c.length (fun k x => ∃ o', x = (c, c.length, (k : Int), o', ()) ∧ Dsp c k o') (fun r => ∃ o', r = (c.length, o', ()) ∧ Dsp c c.length o') (by
  rintro i _ hi ⟨o1,rfl,q⟩
  have CI:c.getD i (bs [],(0:Int),bs [],bs [],(0:Int))=mi c i:=rfl
  have ii:bZ (i:Int) ((c.length:Nat):Int)=true:=aR (by omega) (by omega)
  have r1:de .i64 ((i:Int)+1)=true:=aH (by omega) (by omega)
  simp only [g92_8,ak,aN,aJ,aA,bB,aa,Int.toNat_natCast,CI,ii,af,aM,bh,bA]
  rw [if_pos (by omega)]
  by_cases c1:(mi c i).2.1=1
  ·have ht : Tk c (mi c i).1 := ⟨mi c i, fL hi, rfl, c1⟩
   have LU:(jo c (mi c i).1).Perm (bf c (c.length+1) (mi c i).1):=mo
   have hvl:(jo c (mi c i).1).length≤c.length:=ga hs (ht.top hs) ht.ids .zero
   rw [if_pos c1,ai (kH94 hs hk hl (q.stt hs hk) hi ht rfl)]
   simp only
   obtain ⟨o2,e,p1,p2,p3⟩:=agy hs hl (i:=i) (w:=bf c (c.length+1) (mi c i).1) (fun y hy=>by
    have:=Fc hs hk ht (LU.mem_iff.2 hy)
    exact bT.1 this) (by rw [←LU.length_eq];omega) q.lo
   rw [ai e]
   simp only [aJ,aa,r1,af]
   refine ⟨_,rfl,o2,rfl,p1,fun j hj hP=>?_,fun j hj hP=>?_⟩
   ·by_cases hh : 1 < (bf c (c.length + 1) (mi c i).1).length ∧ (mi c j).1 ∈ bf c (c.length + 1) (mi c i).1
    ·exact p2 j hj hh.1 hh.2
    ·rw [p3 j hj hh]
     obtain ⟨a,ha,hac,hb⟩:=hP
     by_cases e:a=i
     ·subst e
      exact absurd ⟨by rw [←LU.length_eq];exact hb.2.1,LU.mem_iff.1 hb.2.2⟩ hh
     ·exact q.y j hj ⟨a,by omega,hac,hb⟩
   ·have hh : ¬ (1 < (bf c (c.length + 1) (mi c i).1).length ∧ (mi c j).1 ∈ bf c (c.length + 1) (mi c i).1) := fun hh => hP ⟨i, by omega, hi, c1, by rw [LU.length_eq]; exact hh.1, LU.mem_iff.2 hh.2⟩
    rw [p3 j hj hh]
    exact q.n j hj fun ⟨a,ha,hb⟩=>hP ⟨a,by omega,hb⟩
  ·rw [if_neg c1, r1, af]
   refine ⟨_,rfl,o1,rfl,q.lo,fun j hj hP=>?_,fun j hj hP=>q.n j hj fun ⟨a,ha,hb⟩=>hP ⟨a,by omega,hb⟩⟩
   obtain ⟨a,ha,hac,hb⟩:=hP
   by_cases e:a=i
   ·subst e;exact absurd hb.1 c1
   ·exact q.y j hj ⟨a,by omega,hac,hb⟩) (by
  rintro _ ⟨o1,rfl,q⟩
  simp only [g92_8,ak,aa,aM]
  rw [if_neg (by omega)]
  exact ⟨_,rfl,o1,rfl,q⟩) (x:=(c,c.length,(0:Int),o,())) ⟨o,rfl,h⟩
 exact ⟨o',h1,h2⟩
theorem k92 (hs:SI c) (hk:CH c) (hl:c.length≤1000):∃o:List Int,ah (F92 c)=some (o,())∧Stt c o∧∀j<c.length,o.getD j 0=fin5 c j:=by
 obtain ⟨o0,e0,a1,a2⟩:=agm hl
 obtain ⟨o1,e1,b1,b2⟩:=ago hs hl a1 a2
 have hS:AK c o1 (List.replicate c.length false):=⟨b1,by simp,fun i hi=>by rw [b2 i hi];split<;>simp,(fun i hi hh=>by
  rw [b2 i hi] at hh
  split at hh
  ·rename_i h
   exact yB.2 ⟨_,_,(Fb hs (fL hi) h.1).1 h.2,.refl _⟩
  ·cases hh),(fun i hi hh=>by rw [HH] at hh;cases hh)⟩
 have hC:Vc c 0 o1 (List.replicate c.length false):=fun i hi=>⟨fun p y d hy hp hd=>by
  obtain rfl:d=0:=by omega
  rcases ew hp with ⟨_,e⟩|⟨_,_,h,_⟩
  ·have pG := pe hy
   rw [←e] at pG hy
   obtain ⟨h2,h3⟩:=Cv hs hi pG
   rw [b2 i hi,if_pos ⟨h2,(Fb hs (fL hi) h2).2 (by rw [h3];exact hy)⟩]
  ·omega,fun t d ht hp hd=>by omega⟩
 obtain ⟨o2,s2,e2,c1,c2⟩:=ags hs hl hS hC
 obtain ⟨o3,e3,d1,d2⟩:=agu hs hk hl c1 c2
 obtain ⟨o4,e4,f1⟩:=agz hs hk hl (o:=o3) ⟨d1,fun j hj ⟨a,ha,_⟩=>by omega,fun j hj _=>d2 j hj⟩
 have hib:need (bZ ((c.length:Nat):Int) ((bI:Nat):Int))=fun (x:Option (List Int×Unit))=>x:=by
  funext x;exact l5 (by omega) (by omega)
 refine ⟨o4,?_,f1.stt hs hk,fun j hj=>?_⟩
 ·unfold F92
  simp only [aN,aA,bB,Int.toNat_natCast]
  rw [l5 (by omega) (by omega),ai e0]
  simp only
  rw [ai e1]
  simp only
  rw [l5 (by omega) (by omega),ai e2]
  simp only
  rw [ai e3]
  simp only
  rw [ai e4]
  simp only [aa,List.drop_zero]
  rw [List.take_of_length_le (by rw [f1.lo];exact Nat.le_refl _)]
 ·unfold fin5
  cases hv:tT c (mi c j).1 with
  |none =>
   simp only
   refine f1.n j hj fun ⟨a,_,ha,h1,_,h2⟩=>?_
   rw [(sB hs hk ⟨mi c a,fL ha,rfl,h1⟩).1 h2] at hv;cases hv
  |some t =>
   simp only
   have ht:=((fe hs hk).1 (jQ.1 hv).2).1
   obtain ⟨a,ha,rfl⟩:=JT ht.ids
   have HX:(mi c a).2.1=1:=by
    obtain ⟨m,hm,e,h1⟩:=ht
    rw [hs.inj (fL ha) hm e.symm];exact h1
   by_cases h1:1<(jo c (mi c a).1).length
   ·rw [if_pos h1];exact f1.y j hj ⟨a,ha,ha,HX,h1,(sB hs hk ht).2 hv⟩
   ·rw [if_neg h1, f1.n j hj fun ⟨b, _, hb, iC, eC, zA⟩ => ?_, QC hs hk hv]
    have:=(sB hs hk ⟨mi c b,fL hb,rfl,iC⟩).1 zA
    rw [hv] at this
    rw [←Option.some.inj this] at eC
    exact h1 eC
def fR (c:List Mg) (a v:ByteArray):Int:=if a=bs [] then fT c v else fA c a v
structure Can (b:List Bool) (Z:Zs):Prop where
 lo:b.length=120001
 ok:∀x<120001,b.getD x false=true↔sD Z ((x:Int) - 60000)
theorem agA {a:ByteArray} {o5:List Int} {v7 v10:Int} {CF:Nat} {n:Int} {b0 b1:List Bool} {b2:List Int} (h0:b0.length=120001) (h1:b1.length=120001) (hb:∀x<120001,b0.getD x false=true→0≤(x:Int)+n∧(x:Int)+n<120001) :
  ∃qC:List Bool,iter (fun x=>ah (g70_2 x)) (c,a,o5,120001,v7,120001,CF,v10,n,(0:Int),b0,b1,b2,())=some (c,a,o5,120001,v7,120001,CF,v10,b0,qC,b2,())∧qC.length=120001∧∀y<120001,qC.getD y false=true↔b1.getD y false=true∨∃x<120001,b0.getD x false=true∧(y:Int)=x+n:=by
 obtain ⟨r, e, qC, rfl, q1, q2⟩ := ek (step := fun x => ah (g70_2 x)) 120001 (fun k x => ∃ qC, x = (c, a, o5, 120001, v7, 120001, CF, v10, n, (k : Int), b0, qC, b2, ()) ∧ qC.length = 120001 ∧ ∀ y < 120001, qC.getD y false = true ↔ b1.getD y false = true ∨ ∃ x < k, b0.getD x false = true ∧ (y : Int) = x + n)
  (fun r=>∃qC,r=(c,a,o5,120001,v7,120001,CF,v10,b0,qC,b2,())∧qC.length=120001∧∀y<120001,qC.getD y false=true↔b1.getD y false=true∨∃x<120001,b0.getD x false=true∧(y:Int)=x+n) (by
  rintro k _ hk ⟨b',rfl,p1,p2⟩
  have i1:bZ (k:Int) ((120001:Nat):Int)=true:=aR (by omega) (by omega)
  have r1:de .i64 ((k:Int)+1)=true:=aH (by omega) (by omega)
  have d1:decide (k<b0.length)=true:=decide_eq_true (by omega)
  simp only [g70_2,ak,aN,aS,aJ,aa,Int.toNat_natCast,Nat.zero_add,i1,d1,af,aM]
  rw [if_pos (by omega)]
  cases hc:b0.getD k false with
  |true =>
   obtain ⟨g1,g2⟩:=hb k hk hc
   have i2:bZ ((k:Int)+n) ((120001:Nat):Int)=true:=aR g1 (by omega)
   have r2:de .i64 ((k:Int)+n)=true:=aH (by omega) (by omega)
   have d2:decide (Int.toNat ((k:Int)+n)<b'.length)=true:=decide_eq_true (by omega)
   rw [bM]
   simp only [r1,r2,i2,d2,af]
   refine ⟨_,rfl,b'.set (Int.toNat ((k:Int)+n)) true,rfl,by simp [p1],fun y hy=>?_⟩
   rw [bS (by omega)]
   by_cases ey:Int.toNat ((k:Int)+n)=y
   ·rw [if_pos ey]
    exact ⟨fun _=>.inr ⟨k,by omega,hc,by omega⟩,fun _=>rfl⟩
   ·rw [if_neg ey, p2 y hy]
    refine or_congr_right ⟨fun ⟨x,hx,h⟩=>⟨x,by omega,h⟩,fun ⟨x,hx,h,he⟩=>⟨x,?_,h,he⟩⟩
    by_cases exk:x=k
    ·subst exk;omega
    ·omega
  |false =>
   rw [aY,r1,af]
   refine ⟨_,rfl,b',rfl,p1,fun y hy=>?_⟩
   rw [p2 y hy]
   refine or_congr_right ⟨fun ⟨x,hx,h⟩=>⟨x,by omega,h⟩,fun ⟨x,hx,h,he⟩=>⟨x,?_,h,he⟩⟩
   by_cases exk:x=k
   ·subst exk;rw [hc] at h;cases h
   ·omega) (by
  rintro _ ⟨b',rfl,p1,p2⟩
  simp only [g70_2,ak,aa,aM]
  rw [if_neg (by omega)]
  exact ⟨_,rfl,b',rfl,p1,p2⟩) (x:=(c,a,o5,120001,v7,120001,CF,v10,n,(0:Int),b0,b1,b2,())) ⟨b1,rfl,h1,fun y _=>⟨.inl,fun h=>h.elim id fun ⟨x,hx,_⟩=>by omega⟩⟩
 exact ⟨qC,e,q1,q2⟩
theorem agB (hs : SI c) (hl : c.length ≤ 1000) {a : ByteArray} {o5 : List Int} {v7 : Int} {b0 : List Bool} (h0 : b0.length = 120001) {w : List ByteArray} (hw : ∀ y ∈ w, y ∈ ids c) (hwl : w.length ≤ 1000)
  (hb:∀x<120001,b0.getD x false=true→1000≤(x:Int)∧(x:Int)<119001) (hf:∀y∈w,-1000≤fR c a y∧fR c a y≤1000) :
  ∃qC:List Bool,iter (fun x=>ah (g70_1 x)) (c,a,o5,120001,v7,120001,(ixs c w).length,(0:Int),b0,List.replicate 120001 false,ixs c w,())=some (c,a,o5,v7,120001,qC,())∧qC.length=120001∧∀y<120001,qC.getD y false=true↔∃v∈w,∃x<120001,b0.getD x false=true∧(y:Int)=x+fR c a v:=by
 rw [lB]
 obtain ⟨r, e, qC, rfl, q1, q2⟩ := ek (step := fun x => ah (g70_1 x)) w.length (fun k x => ∃ qC, x = (c, a, o5, 120001, v7, 120001, w.length, (k : Int), b0, qC, ixs c w, ()) ∧ qC.length = 120001 ∧ ∀ y < 120001, qC.getD y false = true ↔ ∃ v ∈ w.take k, ∃ x < 120001, b0.getD x false = true ∧ (y : Int) = x + fR c a v)
  (fun r=>∃qC,r=(c,a,o5,v7,120001,qC,())∧qC.length=120001∧∀y<120001,qC.getD y false=true↔∃v∈w,∃x<120001,b0.getD x false=true∧(y:Int)=x+fR c a v) (by
  rintro k _ hk ⟨b',rfl,p1,p2⟩
  have hwk:w.getD k (bs [])∈w:=JS hk
  obtain ⟨j,hj,hej⟩:=JT (hw _ hwk)
  have e1:(ixs c w).getD k 0=(j:Int):=by
   unfold ixs
   rw [List.getD_eq_getElem?_getD,List.getElem?_map,List.getElem?_eq_getElem hk]
   have:w[k]=(mi c j).1:=by rw [hej,List.getD_eq_getElem?_getD,List.getElem?_eq_getElem hk];rfl
   simp only [Option.map_some,Option.getD_some]
   rw [this,JU hs hj]
  have hdj:c.getD j (bs [],(0:Int),bs [],bs [],(0:Int))=mi c j:=rfl
  have i1:bZ (k:Int) ((w.length:Nat):Int)=true:=aR (by omega) (by omega)
  have ij:bZ (j:Int) ((c.length:Nat):Int)=true:=aR (by omega) (by omega)
  have r1:de .i64 ((k:Int)+1)=true:=aH (by omega) (by omega)
  have d1:decide (k<(ixs c w).length)=true:=decide_eq_true (by rw [lB];exact hk)
  have Rl:w.take (k+1)=w.take k++[w.getD k (bs [])]:=by
   rw [List.take_succ_eq_append_getElem hk,List.getD_eq_getElem?_getD,List.getElem?_eq_getElem hk];rfl
  have hfk:=hf _ hwk
  have aaC:msg c (w.getD k (bs []))=mi c j:=by rw [←hej];exact gy hs (fL hj)
  obtain ⟨b2',e2,s1,s2⟩:=agA (c:=c) (a:=a) (o5:=o5) (v7:=v7) (v10:=(k:Int)) (CF:=w.length) (n:=fR c a (w.getD k (bs []))) (b0:=b0) (b1:=b') (b2:=ixs c w) h0 p1 (fun x hx hh=>by have:=hb x hx hh;omega)
  have hout:∃qC:List Bool,(c,a,o5,120001,v7,120001,w.length,(k:Int)+1,b0,b2',ixs c w,())=(c,a,o5,120001,v7,120001,w.length,((k+1:Nat):Int),b0,qC,ixs c w,())∧qC.length=120001∧∀y<120001,qC.getD y false=true↔∃v∈w.take (k+1),∃x<120001,b0.getD x false=true∧(y:Int)=x+fR c a v:=by
   refine ⟨b2',rfl,s1,fun y hy=>?_⟩
   rw [s2 y hy,p2 y hy,Rl]
   simp only [List.mem_append,List.mem_singleton]
   constructor
   ·rintro (⟨v, hv, h⟩ | h)
    ·exact ⟨v,.inl hv,h⟩
    ·exact ⟨_,.inr rfl,h⟩
   ·rintro ⟨v, hv | rfl, h⟩
    ·exact .inl ⟨v,hv,h⟩
    ·exact .inr h
  simp only [g70_1,ak,aN,aS,aJ,Gl,aA,bB,aa,Int.toNat_natCast,Nat.zero_add,e1,hdj,i1,ij,d1,af,aM,seq_eq]
  rw [if_pos (by omega)]
  by_cases c1:a=bs []
  ·have mA : fR c a (w.getD k (bs [])) = (mi c j).2.2.2.2 := by unfold fR; rw [if_pos c1]; unfold fT; rw [aaC]
   rw [mA] at e2
   simp only [if_pos c1,aF,LM]
   rw [ai e2]
   simp only [r1,af]
   exact ⟨_,rfl,hout⟩
  ·by_cases c2 : (mi c j).2.2.2.1 = a
   ·have mA : fR c a (w.getD k (bs [])) = (mi c j).2.2.2.2 := by unfold fR; rw [if_neg c1]; unfold fA; rw [aaC, if_pos c2]
    rw [mA] at e2
    simp only [if_neg c1,if_pos c2,aF,LM]
    rw [ai e2]
    simp only [r1,af]
    exact ⟨_,rfl,hout⟩
   ·have mA : fR c a (w.getD k (bs [])) = 0 := by unfold fR; rw [if_neg c1]; unfold fA; rw [aaC, if_neg c2]
    rw [mA] at e2
    simp only [if_neg c1,if_neg c2,aF,LM]
    rw [ai e2]
    simp only [r1,af]
    exact ⟨_,rfl,hout⟩) (by
  rintro _ ⟨b',rfl,p1,p2⟩
  simp only [g70_1,ak,aa,aM]
  rw [if_neg (by omega)]
  rw [List.take_length] at p2
  exact ⟨_,rfl,b',rfl,p1,p2⟩) (x:=(c,a,o5,120001,v7,120001,w.length,(0:Int),b0,List.replicate 120001 false,ixs c w,())) ⟨_,rfl,List.length_replicate,fun y _=>by rw [HH];simp⟩
 exact ⟨qC,e,q1,q2⟩
theorem agC (hs:SI c) (hk:CH c) (hl:c.length≤60) {a:ByteArray} {o:List Int} (ho:Stt c o) (hB:QS c (fR c a)) {b0:List Bool} (h0:Can b0 cm) :
  ∃b:List Bool,iter (fun x=>ah (g70_0 x)) (c,a,o,120001,(0:Int),b0,())=some (120001,b,())∧Can b (ic c (fR c a) (uH c) cm):=by
 have hgd:∀k,ic c (fR c a) (((c.take (k+1)).filter fun m=>decide (m.2.1=1)).map (·.1)) cm=if k<c.length∧(mi c k).2.1=1 then mg (fR c a) (ic c (fR c a) (((c.take k).filter fun m=>decide (m.2.1=1)).map (·.1)) cm) (jo c (mi c k).1) else ic c (fR c a) (((c.take k).filter fun m=>decide (m.2.1=1)).map (·.1)) cm:=fun k=>by
  by_cases hkc:k<c.length
  ·rw [List.take_succ_eq_append_getElem hkc, List.filter_append, List.map_append, ← Qy hkc]
   by_cases h1:(mi c k).2.1=1
   ·rw [if_pos ⟨hkc, h1⟩, List.filter_cons_of_pos (by simpa using h1)]
    unfold ic
    rw [List.foldl_append]
    rfl
   ·rw [if_neg fun h=>h1 h.2,List.filter_cons_of_neg (by simpa using h1),List.filter_nil,List.map_nil,List.append_nil]
  ·rw [if_neg fun h=>hkc h.1,List.take_of_length_le (by omega),List.take_of_length_le (by omega)]
 obtain ⟨r, e, b, rfl, q1⟩ := ek (step := fun x => ah (g70_0 x)) c.length (fun k x => ∃ b, x = (c, a, o, 120001, (k : Int), b, ()) ∧ Can b (ic c (fR c a) (((c.take k).filter fun m => decide (m.2.1 = 1)).map (·.1)) cm) ∧ BZ (1000 * (k : Int)) (ic c (fR c a) (((c.take k).filter fun m => decide (m.2.1 = 1)).map (·.1)) cm))
  (fun r=>∃b,r=(120001,b,())∧Can b (ic c (fR c a) (uH c) cm)) (by
  rintro k _ hkc ⟨b,rfl,p1,p2⟩
  have hdk:c.getD k (bs [],(0:Int),bs [],bs [],(0:Int))=mi c k:=rfl
  have i1:bZ (k:Int) ((c.length:Nat):Int)=true:=aR (by omega) (by omega)
  have r1:de .i64 ((k:Int)+1)=true:=aH (by omega) (by omega)
  have e12:Int.toNat ((120001:Nat):Int)=120001:=rfl
  rw [hgd k]
  generalize ic c (fR c a) (((c.take k).filter fun m=>decide (m.2.1=1)).map (·.1)) cm=Z at p1 p2 ⊢
  simp only [g70_0,ak,aN,aS,aJ,aA,bB,aa,Int.toNat_natCast,hdk,i1,af,aM,bh,bA]
  rw [if_pos (by omega)]
  by_cases c1:(mi c k).2.1=1
  ·rw [if_pos c1, if_pos ⟨hkc, c1⟩, l5 (by omega) (by omega)]
   have ht:Tk c (mi c k).1:=⟨mi c k,fL hkc,rfl,c1⟩
   have LU:(jo c (mi c k).1).Perm (bf c (c.length+1) (mi c k).1):=mo
   have hvl:(jo c (mi c k).1).length≤c.length:=ga hs (ht.top hs) ht.ids .zero
   have hM:pF c (mi c k).1=true:=bT.2 ht.ids
   have hmk:(msg c (mi c k).1).2.1=1:=by rw [gy hs (fL hkc)];exact c1
   rw [ai (Vd hs hk (by omega) ho hkc ht rfl)]
   simp only
   obtain ⟨b1, e1, s1, s2⟩ := agB hs (by omega) (a := a) (o5 := o) (v7 := (k : Int)) p1.lo (w := bf c (c.length + 1) (mi c k).1) (fun y hy => bT.1 (Fc hs hk ht (LU.mem_iff.2 hy))) (by rw [← LU.length_eq]; omega)
    (fun x hx hh=>by have:=p2 _ ((p1.ok x hx).1 hh);omega) (fun y hy=>hB _ _ hM hmk (LU.mem_iff.2 hy))
   rw [ai e1]
   simp only [r1,af]
   refine ⟨_,rfl,b1,rfl,⟨s1,fun y hy=>?_⟩,?_⟩
   ·rw [s2 y hy, mh.2]
    constructor
    ·rintro ⟨v, hv, x, hx, hh, he⟩
     exact ⟨v,LU.mem_iff.2 hv,(x:Int) - 60000,(p1.ok x hx).1 hh,by omega⟩
    ·rintro ⟨v, hv, x, hx, he⟩
     have hb:=p2 x hx
     refine ⟨v,LU.mem_iff.1 hv,Int.toNat (x+60000),by omega,?_,by omega⟩
     rw [p1.ok _ (by omega),show ((Int.toNat (x+60000):Nat):Int) - 60000=x by omega]
     exact hx
   ·have := pg (f := fR c a) (vs := jo c (mi c k).1) p2 fun v hv => hB _ v hM hmk hv
    intro z hz
    have:=this z hz
    omega
  ·rw [if_neg c1, if_neg fun h => c1 h.2, r1, af]
   exact ⟨_,rfl,b,rfl,p1,fun z hz=>by have:=p2 z hz;omega⟩) (by
  rintro _ ⟨b,rfl,p1,p2⟩
  simp only [g70_0,ak,aa,aM]
  rw [if_neg (by omega)]
  rw [List.take_length] at p1
  exact ⟨_,rfl,b,rfl,p1⟩) (x:=(c,a,o,120001,(0:Int),b0,())) ⟨b0,rfl,by simpa [ic] using h0,fun z hz=>by
   have:z=0:=(cI.2 z).1 (by simpa [ic] using hz)
   rw [this];simp⟩
 exact ⟨b,e,q1⟩
theorem agD {b:List Bool} {Z:Zs} (h:Can b Z) (hB:BZ 60000 Z):∃l:List Int,iter (fun x=>ah (g70_3 x)) (120001,(0:Nat),(0:Int),b,[],())=some (l.length,l,())∧l.Pairwise (· < ·)∧∀z,z∈l↔sD Z z:=by
 have hlo:=h.lo
 obtain ⟨r, e, l, rfl, q1, q2⟩ := ek (step := fun x => ah (g70_3 x)) 120001 (fun k x => ∃ l : List Int, x = (120001, l.length, (k : Int), b, l, ()) ∧ l.length ≤ k ∧ l.Pairwise (· < ·) ∧ ∀ z, z ∈ l ↔ ∃ x < k, b.getD x false = true ∧ z = (x : Int) - 60000)
  (fun r=>∃l:List Int,r=(l.length,l,())∧l.Pairwise (· < ·)∧∀z,z∈l↔sD Z z) (by
  rintro k _ hk ⟨l,rfl,p0,p1,p2⟩
  have i1:bZ (k:Int) ((120001:Nat):Int)=true:=aR (by omega) (by omega)
  have r1:de .i64 ((k:Int)+1)=true:=aH (by omega) (by omega)
  have r2:de .i64 ((k:Int) - 60000)=true:=aH (by omega) (by omega)
  have d1:decide (k<b.length)=true:=decide_eq_true (by omega)
  have d2:decide (l.length+1<bI)=true:=decide_eq_true (by rw [ei];omega)
  simp only [g70_3,ak,aN,aS,aJ,aa,Int.toNat_natCast,Nat.zero_add,i1,d1,af,aM]
  rw [if_pos (by omega)]
  cases hc:b.getD k false with
  |true =>
   rw [bM]
   simp only [r1,r2,List.drop_zero,List.take_succ_cons,List.take_zero,List.length_singleton,d2,af,List.take_length]
   refine ⟨_,rfl,l++[(k:Int) - 60000],by rw [List.length_append];rfl,by simp;omega,?_,fun z=>?_⟩
   ·refine List.pairwise_append.2 ⟨p1, List.pairwise_singleton .., fun x hx y hy => ?_⟩
    obtain ⟨x',hx',_,rfl⟩:=(p2 x).1 hx
    rw [List.mem_singleton] at hy
    omega
   ·rw [List.mem_append, List.mem_singleton, p2]
    constructor
    ·rintro (⟨x, hx, h⟩ | rfl)
     ·exact ⟨x,by omega,h⟩
     ·exact ⟨k,by omega,hc,rfl⟩
    ·rintro ⟨x, hx, h, rfl⟩
     by_cases exk:x=k
     ·subst exk;exact .inr rfl
     ·exact .inl ⟨x,by omega,h,rfl⟩
  |false =>
   rw [aY,r1,af]
   refine ⟨_,rfl,l,rfl,by omega,p1,fun z=>?_⟩
   rw [p2]
   refine ⟨fun ⟨x,hx,h⟩=>⟨x,by omega,h⟩,fun ⟨x,hx,h,he⟩=>⟨x,?_,h,he⟩⟩
   by_cases exk:x=k
   ·subst exk;rw [hc] at h;cases h
   ·omega) (by
  rintro _ ⟨l,rfl,p0,p1,p2⟩
  simp only [g70_3,ak,aa,aM]
  rw [if_neg (by omega)]
  refine ⟨_,rfl,l,rfl,p1,fun z=>?_⟩
  rw [p2]
  constructor
  ·rintro ⟨x,hx,hh,rfl⟩;exact (h.ok x hx).1 hh
  ·intro hz
   have hb:=hB z hz
   exact ⟨Int.toNat (z+60000),by omega,(h.ok _ (by omega)).2 (by rw [show ((Int.toNat (z+60000):Nat):Int) - 60000=z by omega];exact hz),by omega⟩) (x:=(120001,(0:Nat),(0:Int),b,[],())) ⟨[],rfl,Nat.le_refl _,.nil,fun z=>by simp⟩
 exact ⟨l,e,q1,q2⟩
theorem bndR (hs:SI c) (hc:∀m∈c,uF m=0) (a:ByteArray):QS c (fR c a):=fun t v h1 h2 h3=>by
 unfold fR
 split
 ·exact aaq hs hc t v h1 h2 h3
 ·exact Qi hs hc a t v h1 h2 h3
theorem k70 (hs:SI c) (hk:CH c) (hl:c.length≤60) (hc:∀m∈c,uF m=0) (a:ByteArray):ah (F70 c a)=some (gJ c (fR c a),()):=by
 obtain ⟨o,e0,ho,_⟩:=k92 hs hk (by omega)
 have hB:=bndR hs hc a
 have h0:Can ((List.replicate 120001 false).set 60000 true) cm:=⟨by rw [List.length_set,List.length_replicate],fun x hx=>by
  rw [bS (by rw [List.length_replicate];omega),HH,cI.2]
  by_cases e:60000=x
  ·rw [if_pos e];simp;omega
  ·rw [if_neg e];simp;omega⟩
 obtain ⟨b,e1,hb⟩:=agC hs hk hl ho hB h0
 obtain ⟨l,e2,q1,q2⟩:=agD hb (JM hs hl hB)
 have e3:l=gJ c (fR c a):=U7 q1 Qs fun z=>by
  rw [q2]
  unfold gJ sD
  rw [List.mem_map]
  exact ⟨fun h=>⟨_,h,rfl⟩,fun ⟨e,he,h⟩=>by rw [←h];exact he⟩
 unfold F70
 simp only [aA,aN,aS,bB,Nat.zero_add]
 rw [ai e0]
 simp only
 rw [l5 (by omega) (by omega),iG (aR (by omega) (by decide)),b7 (by rw [List.length_replicate];decide)]
 refine Eq.trans (ai e1) ?_
 simp only
 refine Eq.trans (ai e2) ?_
 rw [e3]
 simp only [aa,List.drop_zero,List.take_length]
end
end Go.Proofs.Tryz
end
section
namespace Go.Proofs.Tryz
open Go.AM
set_option maxRecDepth 100000
set_option maxHeartbeats 2000000
theorem agE {c:List Mg} {a:ByteArray} (h:gx a=true):fR c a=fA c a:=by
 have ha:a≠bs []:=fun e=>by rw [e] at h;exact absurd h (by decide)
 funext v
 unfold fR
 rw [if_neg ha]
theorem aaD {L:List Mg} (h:mB L):CH (cnt L):=fun m hm=>Qr (nu h m hm)
theorem JV {L:List Mg} (h:mB L) (a:ByteArray):ah (FH24_v1 a L)=some ((mj (cnt L) a).1,(mj (cnt L) a).2,L,()):=by
 have hl:=h.len
 unfold FH24_v1 FH57_v1 mj
 simp only [aA,aa,aF,ak,aY]
 rw [ai (k69 a)]
 simp only [bA]
 by_cases hn:gx a=true
 ·rw [hn, bM, if_pos rfl, ai (k71 h.s (by omega))]
  simp only
  rw [ai (k70 (fK L) (aaD h) (jJ h) (nu h) a),agE hn]
 ·rw [show gx a = false by simpa using hn, aY]
  rfl
theorem Ve {L:List Mg} (h:mB L) (a:ByteArray):ah (FH26_v1 a L)=some ((yC (cnt L) a).1,(yC (cnt L) a).2,L,()):=by
 have hs:=fK L
 have hB:=Qi hs (nu h) a
 unfold FH26_v1
 simp only [aA]
 rw [ai (JV h a)]
 simp only [ak,bA,bh,aa,aN,aJ]
 unfold yC
 by_cases h0:(mj (cnt L) a).2=0
 ·rw [if_pos h0, if_pos h0]
  have h1:(mj (cnt L) a).1=gJ (cnt L) (fA (cnt L) a):=by
   revert h0
   unfold mj
   split
   ·intro _;rfl
   ·intro h;cases h
  have hne:=Cq hs (f:=fA (cnt L) a)
  have hlt:=sy hs (jJ h) hB
  rw [h1]
  generalize gJ (cnt L) (fA (cnt L) a)=S at *
  have i2:bZ (0:Int) ((S.length:Nat):Int)=true:=aR (by omega) (by omega)
  have i3:bZ (((S.length:Nat):Int) - 1) ((S.length:Nat):Int)=true:=aR (by omega) (by omega)
  have r2:de .i64 (((S.length:Nat):Int) - 1)=true:=aH (by omega) (by omega)
  have e1:Int.toNat (((S.length:Nat):Int) - 1)=S.length - 1:=by omega
  simp only [i2,i3,r2,e1,af,JI,Int.toNat_zero]
 ·rw [if_neg h0,if_neg h0]
theorem k16 {l:List Mg} (hl:l.length≤1000):∃b,ah (F16 l)=some (b,())∧(b=false→∀m∈l,P7 m):=by
 have hlt:∀{s:ByteArray},¬60<s.size→Sh s:=fun h=>by unfold Sh;omega
 have hi:iter (fun a=>ah (g16_0 a)) (l,(0:Int),())=some (if ∀m∈l,¬60<m.1.size∧¬60<m.2.2.1.size∧¬60<m.2.2.2.1.size then Sum.inr () else Sum.inl ()):=by
  refine aP l (fun k (_:Unit)=>(l,(k:Int),())) (fun _ r=>if ∀m∈r,¬60<m.1.size∧¬60<m.2.2.1.size∧¬60<m.2.2.2.1.size then Sum.inr () else Sum.inl ()) (fun _ _=>True) ?_ ?_ (s:=()) trivial
  ·intro pre x post _ hx _
   have hlen:l.length=pre.length+(post.length+1):=by rw [hx];simp
   have hd:l.getD pre.length (bs [],(0:Int),bs [],bs [],(0:Int))=x:=by rw [hx];exact aU rfl
   have i1:bZ (pre.length:Int) ((l.length:Nat):Int)=true:=aR (by omega) (by omega)
   have r1:de .i64 ((pre.length:Int)+1)=true:=aH (by omega) (by omega)
   simp only [g16_0,ak,aN,aJ,aa,Int.toNat_natCast,hd,i1,r1,af,aM]
   rw [if_pos (by omega)]
   by_cases h1:60<x.1.size
   ·right
    rw [if_pos (by omega),if_neg fun h=>(h x (List.mem_cons_self ..)).1 h1]
   ·rw [if_neg (by omega)]
    by_cases h2:60<x.2.2.1.size
    ·right
     rw [if_pos (by omega),if_neg fun h=>(h x (List.mem_cons_self ..)).2.1 h2]
    ·rw [if_neg (by omega)]
     by_cases h3:60<x.2.2.2.1.size
     ·right
      rw [if_pos (by omega),if_neg fun h=>(h x (List.mem_cons_self ..)).2.2 h3]
     ·rw [if_neg (by omega)]
      left
      refine ⟨(),rfl,trivial,?_⟩
      simp only [List.forall_mem_cons,h1,h2,h3,not_false_eq_true,and_self,true_and]
  ·intro _ _
   simp only [g16_0,ak,aM,aa]
   rw [if_neg (by omega),if_pos (fun m h=>nomatch h)]
 unfold F16
 simp only [aA,bB]
 rw [ai hi]
 by_cases hA:∀m∈l,¬60<m.1.size∧¬60<m.2.2.1.size∧¬60<m.2.2.2.1.size
 ·rw [if_pos hA]
  exact ⟨false,rfl,fun _ m hm=>⟨hlt (hA m hm).1,hlt (hA m hm).2.1,hlt (hA m hm).2.2⟩⟩
 ·rw [if_neg hA]
  exact ⟨true,rfl,fun h=>nomatch h⟩
theorem k4_0 {l:List Mg} {qs:List ByteArray} (hl:l.length≤30) (hs:∀m∈l,P7 m):iter (fun a=>ah (g4_0 a)) (l,qs,(0:Int),[],bk [],())=some (qs,yq l,bk (yq l),()):=by
 refine aP l (fun k (L:List Mg)=>(l,qs,(k:Int),L,bk L,())) (fun L r=>(qs,r.foldl (fun L m=>(gY L m).2) L,bk (r.foldl (fun L m=>(gY L m).2) L),())) (fun _ L=>mB L) ?_ ?_ (s:=[]) mB.nil
 ·intro pre x post L hx hL
  have hlen:l.length=pre.length+(post.length+1):=by rw [hx];simp
  have hd:l.getD pre.length (bs [],(0:Int),bs [],bs [],(0:Int))=x:=by rw [hx];exact aU rfl
  have i1:bZ (pre.length:Int) ((l.length:Nat):Int)=true:=aR (by omega) (by omega)
  have r1:de .i64 ((pre.length:Int)+1)=true:=aH (by omega) (by omega)
  left
  refine ⟨(gY L x).2,?_,hL.tell x,rfl⟩
  simp only [g4_0,ak,aN,aJ,aa,aA,Int.toNat_natCast,aM,hd,i1,r1,af]
  rw [if_pos (by omega)]
  have hk:=aak hL.s hL.len (hs x (by rw [hx];simp))
  rw [ai (show ah (FH20 (x.1,x.2.1,x.2.2.1,x.2.2.2.1,x.2.2.2.2) (bk L))=_ from hk)]
  simp only
  rw [ai (show ah (FH21_v1 (x.1,x.2.1,x.2.2.1,x.2.2.2.1,x.2.2.2.2) L)=_ from U8 hL x)]
  rfl
 ·intro L _
  simp only [g4_0,ak,aa,aM]
  rw [if_neg (by omega)]
  rfl
theorem k4_1 {L:List Mg} (hL:mB L) {qs:List ByteArray} (hq:qs.length≤4):iter (fun a=>ah (g4_1 a)) (qs,(0:Int),L,bk L,())=some (if ∀a∈qs,¬60<a.size then Sum.inr () else Sum.inl (true,())):=by
 refine aP qs (fun k (_:Unit)=>(qs,(k:Int),L,bk L,())) (fun _ r=>if ∀a∈r,¬60<a.size then Sum.inr () else Sum.inl (true,())) (fun _ _=>True) ?_ ?_ (s:=()) trivial
 ·intro pre a post _ hx _
  have hlen:qs.length=pre.length+(post.length+1):=by rw [hx];simp
  have hd:qs.getD pre.length (bs [])=a:=by rw [hx];exact aU rfl
  have i1:bZ (pre.length:Int) ((qs.length:Nat):Int)=true:=aR (by omega) (by omega)
  have r1:de .i64 ((pre.length:Int)+1)=true:=aH (by omega) (by omega)
  simp only [g4_1,ak,aN,aJ,aa,aA,Int.toNat_natCast,aM,hd,i1,r1,af]
  rw [if_pos (by omega)]
  by_cases h1:60<a.size
  ·right
   rw [if_pos (by omega),ai k17,if_neg fun h=>h a (List.mem_cons_self ..) h1]
  ·left
   have ha:Sh a:=by unfold Sh;omega
   rw [if_neg (by omega),ai (U0 hL ha)]
   simp only
   rw [ai (JV hL a)]
   simp only
   rw [ai (kH25 hL ha)]
   simp only
   rw [ai (Ve hL a)]
   simp only [List.drop_zero,List.take_length]
   rw [ai (k27 (Qp hL a))]
   refine ⟨(),?_,trivial,?_⟩
   ·simp only [decide_true, Bool.not_true, aY, beq_self_eq_true, Bool.and_self]
    rfl
   ·simp only [List.forall_mem_cons,h1,not_false_eq_true,true_and]
 ·intro _ _
  simp only [g4_1,ak,aM,aa]
  rw [if_neg (by omega),if_pos (fun m h=>nomatch h)]
theorem k4 (l:List Mg) (qs:List ByteArray):ah (F4 l qs)=some (true,()):=by
 unfold F4
 simp only [ak,aA,bB,aM,aa]
 by_cases h1:30<l.length
 ·rw [if_pos (by omega),ai k17]
 ·rw [if_neg (by omega)]
  by_cases h2:4<qs.length
  ·rw [if_pos (by omega),ai k17]
  ·rw [if_neg (by omega)]
   obtain ⟨b,e,hb⟩:=k16 (l:=l) (by omega)
   rw [ai e]
   cases b with
   |true=>simp only [bM];rw [ai k17]
   |false =>
    simp only [aY,FH18,FH19,aa,aF]
    refine Eq.trans (ai (k4_0 (by omega) (hb rfl))) ?_
    simp only
    rw [ai (k4_1 (mB.told l) (by omega))]
    by_cases h3:∀a∈qs,¬60<a.size
    ·rw [if_pos h3]
     simp only [kn,aA]
     rw [ai k17]
     rfl
    ·rw [if_neg h3]
     simp only [lJ,aa]
theorem law4 (l:List Mg) (qs:List ByteArray) (_:DT [.list tM,.list .str] (l,qs,())):ah (F4 l qs)=some (true,()):=k4 l qs
end Go.Proofs.Tryz
end
