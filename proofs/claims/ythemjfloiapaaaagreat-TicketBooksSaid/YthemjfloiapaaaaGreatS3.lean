/- A correction more; TicketCorrected. TicketCorrected: the row. TicketNames: other names in the same order. TicketFull. The reference: names, errors, books as lists in order, what counts. The reference: states. The reference: states, all rounds. The reference: versions. The reference: states whole, sums. TicketTotals: the two books. The reference: states, sums, joins of lists. The reference: accounts. The reference: versions; the same answers. TicketJoins: the same answers of the two books. TicketBooks: the two books. -/
import Derived.Test.YthemjfloiapaaaaGreatR03
set_option linter.unusedSectionVars false
set_option linter.unusedVariables false
set_option linter.unusedSimpArgs false
section
namespace Go.Proofs.Tryz
open Go.AM
set_option maxRecDepth 100000
set_option maxHeartbeats 2000000
section
variable {c:List Mg} {n m:Mg} {t:ByteArray}
end
end Go.Proofs.Tryz
end
section
namespace Go.Proofs.Tryz
open Go.AM
set_option maxRecDepth 100000
set_option maxHeartbeats 2000000
section
variable {c:List Mg} {n:Mg} {t:ByteArray}
end
end Go.Proofs.Tryz
end
section
namespace Go.Proofs.Tryz
open Go.AM
set_option maxRecDepth 100000
set_option maxHeartbeats 2000000
def rho (f g:ByteArray->ByteArray) (m:Mg):Mg:=(f m.1,m.2.1,f m.2.2.1,g m.2.2.2.1,m.2.2.2.2)
def nm8:List ByteArray:=bs []::id8
def na3:List ByteArray:=bs []::acc3
structure Mon (l:List ByteArray) (f:ByteArray->ByteArray):Prop where
 lt:∀x∈l,∀y∈l,slt (f x) (f y)=slt x y
structure NmM (m:Mg):Prop where
 id:m.1∈id8
 of:m.2.2.1∈nm8
 acc:m.2.2.2.1∈na3
section
variable {f g:ByteArray->ByteArray}
end
structure Ren (c:List Mg) (f g:ByteArray->ByteArray):Prop where
 si:SI c
 k3:wQ c
 si':SI (c.map (rho f g))
 nm:∀m∈c,NmM m
 f:Mon nm8 f
 g:Mon na3 g
section
variable {c:List Mg} {f g:ByteArray->ByteArray}
theorem Sf {vs:List ByteArray}:∀{m:Ss} {x:ByteArray},iq .str m->((x,())∈An c vs m↔(x,())∈m\/∃v∈vs,(Tryz.msg c v).2.2.2.1=x):=by
 unfold An
 induction vs with
 |nil=>intro m x _;simp
 |cons v vs ih =>
  intro m x hm
  rw [List.foldl_cons,ih (hm.iG kS),fP kS hm]
  simp only [List.mem_cons,exists_eq_or_imp]
  by_cases e:(Tryz.msg c v).2.2.2.1=x
  ·subst e;simp
  ·have : x ≠ (Tryz.msg c v).2.2.2.1 := fun h => e h.symm
   simp [e,this]
theorem Sg {ts:List ByteArray}:∀{m:Ss} {x:ByteArray},iq .str m->((x,())∈vY c ts m↔(x,())∈m\/∃t∈ts,∃v∈Tryz.ir c t,(Tryz.msg c v).2.2.2.1=x):=by
 induction ts with
 |nil=>intro m x _;simp [vY]
 |cons t ts ih =>
  intro m x hm
  rw [Ns,ih (FZ hm),Sf hm]
  simp only [List.mem_cons,exists_eq_or_imp,or_assoc]
theorem Si {x:ByteArray}:x∈tF c↔∃t∈Tryz.qo c,∃v∈Tryz.ir c t,(Tryz.msg c v).2.2.2.1=x:=by
 have:=Sg (c:=c) (ts:=Tryz.qo c) (m:=[]) (x:=x) .nil
 simp only [List.not_mem_nil,false_or] at this
 rw [<-this]
 unfold tF
 rw [List.mem_map]
 exact ⟨fun ⟨e,he,h⟩=>by rw [<-h];exact he,fun h=>⟨_,h,rfl⟩⟩
end
end Go.Proofs.Tryz
end
section
namespace Go.Proofs.Tryz
open Go.AM
set_option maxRecDepth 100000
set_option maxHeartbeats 2000000
def nmI (z:Int):ByteArray:=BE [109,48+Int.tdiv z 10,48+Int.tmod z 10]
def ana:ByteArray:=bs [97,110,97]
def E (i:Nat):Mg:=(nmI i,1,bs [],ana,1)
end Go.Proofs.Tryz
end
section
namespace Go.Proofs.Tryz
open Go.AM
set_option maxRecDepth 100000
set_option maxHeartbeats 2000000
theorem k69 (s:ByteArray):ai (F69 s)=some (jG s,()):=by
 have hl:(fH s).length=s.size:=vm s
 unfold F69 jG
 simp only [aj,aa,aA,bn,aZ,aK]
 by_cases h0:((s.size:Nat):Int)=0
 ·rw [if_pos h0,decide_eq_false (show ¬(0<s.size/\s.size<=10) by omega),Bool.and_false]
 rw [if_neg h0]
 by_cases h1:(10:Int)<((s.size:Nat):Int)
 ·rw [if_pos h1,decide_eq_false (show ¬(0<s.size/\s.size<=10) by omega),Bool.and_false]
 rw [if_neg h1,decide_eq_true (show 0<s.size/\s.size<=10 by omega),Bool.and_true]
 have hi:iter (fun a=>run (fun _=>none) (g69_0 a)) (s,(0:Int),())=some (if KF 0 (fH s)=true then Sum.inr () else Sum.inl ()):=by
  refine aQ (fH s) (fun k (_:Nat)=>(s,(k:Int),())) (fun k r=>if KF k r=true then Sum.inr () else Sum.inl ()) (fun pre k=>k=pre.length) ?_ ?_ (s:=0) rfl
  ·rintro pre b post k hx rfl
   have hlen:(fH s).length=pre.length+(post.length+1):=by rw [hx];simp
   have hd:tQ s pre.length=b:=by unfold tQ;rw [hx];exact aT rfl
   have i1:bT (pre.length:Int) ((s.size:Nat):Int)=true:=aP (by omega) (by omega)
   have r1:dc .i64 ((pre.length:Int)+1)=true:=aD (by omega) (by omega)
   have hok:KF pre.length (b::post)=(nZ pre.length b&&KF (pre.length+1) post):=rfl
   have hbo:nZ pre.length b=(decide (97<=b/\b<=122)||decide (pre.length≠0/\48<=b/\b<=57)):=rfl
   have key:run (fun _=>none) (g69_0 (s,(pre.length:Int),()))=if nZ pre.length b=true then some (.inl (s,((pre.length+1:Nat):Int),())) else some (.inr (.inl ())):=by
    rw [hbo]
    simp only [g69_0,aj,aJ,aI,aa,Int.toNat_natCast,hd,i1,r1,af,aK,bx,aZ]
    rw [if_pos (by omega)]
    simp only [Bool.or_eq_true,decide_eq_true_eq]
    by_cases c1:97<=b
    ·rw [if_pos c1, if_pos (by omega)]
     by_cases c2:b<=122
     ·rw [if_pos c2,if_pos (by omega)];rfl
     ·rw [if_neg c2,if_neg (show ¬b<=57 by omega),if_neg (by omega)]
    ·rw [if_neg c1]
     by_cases c3:48<=b
     ·rw [if_pos c3]
      by_cases c4:b<=57
      ·rw [if_pos c4]
       by_cases c5:(pre.length:Int)=0
       ·rw [if_pos c5,if_neg (by omega)]
       ·rw [if_neg c5,if_pos (by omega)];rfl
      ·rw [if_neg c4,if_neg (by omega)]
     ·rw [if_neg c3,if_neg (by omega)]
   by_cases hb:nZ pre.length b=true
   ·left
    exact ⟨pre.length+1,by rw [key,if_pos hb],by simp,by rw [hok,hb,Bool.true_and]⟩
   ·right
    rw [key,if_neg hb,hok,show nZ pre.length b=false by simpa using hb,Bool.false_and]
    rfl
  ·rintro k _
   simp only [g69_0,aj,aa,aK]
   rw [if_neg (by omega)]
   simp [KF]
 rw [ag hi]
 cases KF 0 (fH s) with
 |true=>rw [if_pos rfl];simp only [iW,aa]
 |false=>rw [if_neg (by simp)];simp only [mg,aa]
theorem k90 (a b c:Int):ai (F90 a b c)=some (decide (b<=a)&&decide (a<=c),()):=by
 unfold F90
 simp only [aj,aa,jR]
 cases decide (b<=a)<;>rfl
theorem k58 (m:Mg):ai (F58 m)=some (zx m,()):=by
 unfold F58 zx
 simp only [aA,k90,aF,aj,bx,aa]
 simp only [jR,Bool.and_eq_true,decide_eq_true_eq]
 by_cases h0:m.2.1<1\/3<m.2.1
 ·rw [if_neg (by omega),if_pos h0]
 ·rw [if_pos (by omega), if_neg h0]
  simp only [k69,aF,Hv,aj,aA,aa,bx,aZ,seq_eq,aK]
  simp only [jR]
  by_cases h1:jG m.1=true
  ·rw [if_pos h1, if_pos h1]
   unfold vA qH
   by_cases k1:m.2.1=1
   ·rw [if_pos k1, if_pos k1]
    by_cases o1:m.2.2.1=bs []
    ·simp only [if_pos o1, aF, ND]
     rw [if_neg (show ¬m.2.1=3 by omega),if_neg (show ¬m.2.1=3 by omega)]
     by_cases a1:jG m.2.2.2.1=true
     ·simp only [if_pos a1, k90, aF, Bool.and_eq_true, decide_eq_true_eq]
      by_cases z : -1000<=m.2.2.2.2/\m.2.2.2.2<=1000
      ·rw [if_pos z,if_pos z];rfl
      ·rw [if_neg z,if_neg z];rfl
     ·rw [if_neg a1,if_neg a1];rfl
    ·simp only [if_neg o1, aF, ND]
     rfl
   ·rw [if_neg k1, if_neg k1]
    by_cases o1:jG m.2.2.1=true
    ·simp only [if_pos o1]
     by_cases o2:m.2.2.1=m.1
     ·simp only [if_pos o2,aF,ND];rfl
     ·simp only [if_neg o2, aF, ND]
      by_cases k3:m.2.1=3
      ·rw [if_pos k3, if_pos k3]
       by_cases a1:m.2.2.2.1=bs []
       ·by_cases z : m.2.2.2.2 = 0
        ·simp only [if_pos a1,if_pos z,if_pos (And.intro a1 z)];rfl
        ·rw [if_pos a1,if_neg z,if_neg fun h=>z h.2];rfl
       ·rw [if_neg a1,if_neg fun h=>a1 h.1];rfl
      ·rw [if_neg k3, if_neg k3]
       by_cases a1:jG m.2.2.2.1=true
       ·simp only [if_pos a1, k90, aF, Bool.and_eq_true, decide_eq_true_eq]
        by_cases z : -1000<=m.2.2.2.2/\m.2.2.2.2<=1000
        ·rw [if_pos z,if_pos z];rfl
        ·rw [if_neg z,if_neg z];rfl
       ·rw [if_neg a1,if_neg a1];rfl
    ·simp only [if_neg o1,aF,ND];rfl
  ·rw [if_neg h1,if_neg h1]
theorem k91 (a b:Mg):ai (F91 a b)=some (fE tM a b,()):=by
 have e:fE tM a b=(slt a.1 b.1||(dV .str a.1 b.1&&(decide (a.2.1<b.2.1)||((a.2.1==b.2.1)&&(slt a.2.2.1 b.2.2.1||(dV .str a.2.2.1 b.2.2.1&&(slt a.2.2.2.1 b.2.2.2.1||(dV .str a.2.2.2.1 b.2.2.2.1&&decide (a.2.2.2.2<b.2.2.2.2))))))))):=rfl
 rw [e,tu,tu,tu]
 unfold F91
 simp only [aj,aa,bx,seq_eq,aZ,aK]
 by_cases c1:a.1=b.1
 ·rw [if_pos c1, c1, n9, decide_eq_true rfl, Bool.false_or, Bool.true_and]
  by_cases c2:a.2.1=b.2.1
  ·rw [if_pos c2, c2, decide_eq_false (Int.lt_irrefl _), beq_self_eq_true, Bool.false_or, Bool.true_and]
   by_cases c3:a.2.2.1=b.2.2.1
   ·rw [if_pos c3, c3, n9, decide_eq_true rfl, Bool.false_or, Bool.true_and]
    by_cases c4:a.2.2.2.1=b.2.2.2.1
    ·rw [if_pos c4,c4,n9,decide_eq_true rfl,Bool.false_or,Bool.true_and]
    ·rw [if_neg c4,decide_eq_false c4,Bool.false_and,Bool.or_false]
   ·rw [if_neg c3,decide_eq_false c3,Bool.false_and,Bool.or_false]
  ·rw [if_neg c2,beq_eq_false_iff_ne.2 c2,Bool.false_and,Bool.or_false]
 ·rw [if_neg c1,decide_eq_false c1,Bool.false_and,Bool.or_false]
def Gd (m : Mg) : Nat → List Mg → Nat
 |k,[]=>k
 |k,x::r=>if fE tM x m=true then Gd m (k+1) r else k
theorem Bx (m : Mg) : ∀ (r : List Mg) (k : Nat), ∃ a b, r = a ++ b ∧ Gd m k r = k + a.length ∧ (∀ x ∈ a, fE tM x m = true) ∧ (b = [] ∨ ∃ x b', b = x :: b' ∧ fE tM x m = false)
 |[],k=>⟨[],[],rfl,rfl,(fun x h=>(by cases h)),.inl rfl⟩
 |x::r,k=>by
  by_cases h:fE tM x m=true
  ·obtain ⟨a, b, h1, h2, h3, h4⟩ := Bx m r (k + 1)
   refine ⟨x::a,b,by rw [h1];rfl,?_,fun y hy=>?_,h4⟩
   ·unfold Gd;rw [if_pos h,h2,List.length_cons];omega
   ·rcases List.mem_cons.1 hy with rfl | hy
    ·exact h
    ·exact h3 y hy
  ·exact ⟨[],x::r,rfl,by unfold Gd;rw [if_neg h];rfl,(fun y hy=>(by cases hy)),.inr ⟨x,r,rfl,by simpa using h⟩⟩
theorem k59 {L:List Mg} (h:SL L) (hl:L.length<=1000) (m:Mg):ai (F59 L m)=some (mj L m,()):=by
 obtain ⟨a,b,h1,h2,h3,h4⟩:=Bx m L 0
 have hi:iter (fun x=>ai (g59_0 x)) (L,(0:Int),m.1,m.2.1,m.2.2.1,m.2.2.2.1,m.2.2.2.2,())=some (L,((Gd m 0 L:Nat):Int),m.1,m.2.1,m.2.2.1,m.2.2.2.1,m.2.2.2.2,()):=by
  refine aQ L (fun k (_:Nat)=>(L,(k:Int),m.1,m.2.1,m.2.2.1,m.2.2.2.1,m.2.2.2.2,())) (fun k r=>(L,((Gd m k r:Nat):Int),m.1,m.2.1,m.2.2.1,m.2.2.2.1,m.2.2.2.2,())) (fun pre k=>k=pre.length) ?_ ?_ (s:=0) rfl
  ·rintro pre x post k hx rfl
   have hlen:L.length=pre.length+(post.length+1):=by rw [hx];simp
   have hd:L.getD pre.length (bs [],(0:Int),bs [],bs [],(0:Int))=x:=by rw [hx];exact aT rfl
   have i1:bT (pre.length:Int) ((L.length:Nat):Int)=true:=aP (by omega) (by omega)
   have r1:dc .i64 ((pre.length:Int)+1)=true:=aD (by omega) (by omega)
   have h91:ai (F91 (x.1,x.2.1,x.2.2.1,x.2.2.2.1,x.2.2.2.2) (m.1,m.2.1,m.2.2.1,m.2.2.2.1,m.2.2.2.2))=_:=k91 x m
   by_cases hlt:fE tM x m=true
   ·left
    refine ⟨pre.length+1,?_,by simp,by simp only [Gd];rw [if_pos hlt]⟩
    simp only [g59_0,aj,aJ,aI,aA,aa,Int.toNat_natCast,hd,i1,af,aK]
    rw [if_pos (by omega),ag h91]
    simp only [hlt,bO,r1,af]
    rfl
   ·right
    simp only [g59_0,aj,aJ,aI,aA,aa,Int.toNat_natCast,hd,i1,af,aK]
    rw [if_pos (by omega),ag h91]
    simp only [show fE tM x m=false by simpa using hlt,aO]
    simp only [Gd];rw [if_neg hlt]
  ·rintro k rfl
   simp only [g59_0,aj,aa,aK]
   rw [if_neg (by omega)]
   rfl
 rw [h2,Nat.zero_add] at hi
 have acC:L.length=a.length+b.length:=by rw [h1,List.length_append]
 have eT:(L.drop 0).take (a.length - 0)=a:=by rw [List.drop_zero,Nat.sub_zero,h1,List.take_left]
 have eD:(L.drop a.length).take (L.length - a.length)=b:=by rw [h1,List.drop_left,List.take_of_length_le];rw [List.length_append];omega
 have vj:∀x,x∈mj L m↔x=m\/x∈L:=fun x=>zy h
 have hsa:SL (a++b):=by rw [<-h1];exact h
 have hab:=List.pairwise_append.1 hsa
 unfold F59
 simp only [aA,bn]
 rw [ag hi]
 simp only [aj,aK]
 have e0:Int.toNat 0=0:=rfl
 have fin:mj L m≠L->a++m::b=mj L m:=fun hne=>by
  refine SL.ext (L:=a++m::b) ?_ h.ins fun x=>?_
  ·refine List.pairwise_append.2 ⟨hab.1, List.pairwise_cons.2 ⟨fun y hy => ?_, hab.2.1⟩, fun x hx y hy => ?_⟩
   ·rcases h4 with rfl | ⟨z, b', rfl, hz⟩
    ·cases hy
    ·have Gt:fE tM m z=true:=by
      cases Gt:fE tM m z with
      |true=>rfl
      |false =>
       have:=gb kM Gt hz
       exact absurd (KH h (by rw [h1,this];simp)) hne
     rcases List.mem_cons.1 hy with rfl|hy
     ·exact Gt
     ·exact gX kM Gt ((List.pairwise_cons.1 hab.2.1).1 y hy)
   ·rcases List.mem_cons.1 hy with rfl | hy
    ·exact h3 x hx
    ·exact hab.2.2 x hx y hy
  ·rw [vj, h1]
   simp only [List.mem_append,List.mem_cons]
   constructor
   ·rintro (h | h | h)
    ·exact .inr (.inl h)
    ·exact .inl h
    ·exact .inr (.inr h)
   ·rintro (h | h | h)
    ·exact .inr (.inl h)
    ·exact .inl h
    ·exact .inr (.inr h)
 have d0:decide ((0:Int)<=0)=true:=rfl
 have d1:decide ((0:Int)<=(a.length:Int))=true:=decide_eq_true (by omega)
 have d2:decide ((a.length:Int)<=((L.length:Nat):Int))=true:=decide_eq_true (by omega)
 have d3:decide (((L.length:Nat):Int)<=((L.length:Nat):Int))=true:=decide_eq_true (by omega)
 have d4:decide (0+a.length<bp)=true:=decide_eq_true (by rw [cO];omega)
 have d5:decide (0+a.length+1<bp)=true:=decide_eq_true (by rw [cO];omega)
 have d6:decide (0+a.length+1+b.length<bp)=true:=decide_eq_true (by rw [cO];omega)
 have e1:((([(m.1,m.2.1,m.2.2.1,m.2.2.2.1,m.2.2.2.2)]:List Mg).drop 0).take 1)=[m]:=rfl
 have eB:(((((((([]:List Mg).drop 0).take 0++a).drop 0).take (0+a.length)++[m]).drop 0).take (0+a.length+1)++b).drop 0).take (0+a.length+1+b.length)=a++m::b:=by
  simp only [List.drop_zero,List.take_zero,List.nil_append,Nat.zero_add,List.take_length]
  rw [List.take_of_length_le (l:=a++[m]) (by simp),List.take_of_length_le (by simp;omega)]
  simp
 rcases h4 with rfl|⟨z,b',rfl,hz⟩
 ·rw [if_neg (by simp at acC; omega)]
  simp only [aS,aa,Int.toNat_natCast,e0,eT,eD,e1,List.length_singleton,d0,d1,d2,d3,d4,d5,d6,af]
  rw [eB,fin]
  intro e
  have hm:m∈L:=by rw [<-e];exact (vj m).2 (.inl rfl)
  rw [h1,List.append_nil] at hm
  have:=h3 m hm
  rw [fq kM] at this;cases this
 ·rw [if_pos (by simp at acC; omega)]
  have hd:L.getD a.length (bs [],(0:Int),bs [],bs [],(0:Int))=z:=by rw [h1];exact aT rfl
  have i1:bT (a.length:Int) ((L.length:Nat):Int)=true:=aP (by omega) (by simp at acC;omega)
  simp only [aJ,aj,aS,aa,Int.toNat_natCast,hd,i1,e0,eT,eD,e1,List.length_singleton,d0,d1,d2,d3,d4,d5,d6,af,seq_eq,jR,Bool.and_eq_true,decide_eq_true_eq,beq_iff_eq,and_true]
  by_cases hzm:z=m
  ·rw [if_pos (by rw [hzm];exact ⟨rfl,rfl,rfl,rfl,rfl⟩),KH h (by rw [h1,hzm];simp)]
  ·rw [if_neg fun hh => hzm (Prod.ext hh.1 (Prod.ext hh.2.1 (Prod.ext hh.2.2.1 (Prod.ext hh.2.2.2.1 hh.2.2.2.2)))), eB, fin]
   intro e
   have hm:m∈a++z::b':=by rw [<-h1,<-e];exact (vj m).2 (.inl rfl)
   rcases List.mem_append.1 hm with hm|hm
   ·have := h3 m hm
    rw [fq kM] at this;cases this
   ·rcases List.mem_cons.1 hm with hm | hm
    ·exact hzm hm.symm
    ·have := (List.pairwise_cons.1 hab.2.1).1 m hm
     rw [hz] at this;cases this
theorem W4 {L:List Mg} (h:lG L) (m:Mg):ai (FH21_v1 m L)=some ((iA L m).1,(iA L m).2,()):=by
 have hl:=h.len
 unfold FH21_v1 FH57_v1 iA
 simp only [aA,aa,aF,aj,aO]
 rw [ag (show ai (F58 (m.1,m.2.1,m.2.2.1,m.2.2.2.1,m.2.2.2.2))=_ from k58 m)]
 simp only [bx,aZ]
 by_cases hc:zx m=0
 ·rw [if_pos hc, if_pos hc]
  rw [ag (show ai (F59 L (m.1,m.2.1,m.2.2.1,m.2.2.2.1,m.2.2.2.2))=_ from k59 h.s (by omega) m)]
  simp only [aK]
  by_cases h60:60<(mj L m).length
  ·rw [if_pos (by omega),if_pos h60]
  ·rw [if_neg (by omega),if_neg h60]
 ·rw [if_neg hc,if_neg hc]
def pQ : Option ByteArray → List Mg → List Mg
 |_,[]=>[]
 |p,x::r=>if p=some x.1 then pQ (some x.1) r else x::pQ (some x.1) r
theorem SL.ids {a b:Mg} (h:fE tM a b=true):slt a.1 b.1=true\/a.1=b.1:=by
 have e:fE tM a b=(slt a.1 b.1||(dV .str a.1 b.1&&fE (.prod (.int .i64) (.prod .str (.prod .str (.int .i64)))) a.2 b.2)):=rfl
 rw [e,Bool.or_eq_true,Bool.and_eq_true,tu,decide_eq_true_eq] at h
 rcases h with h|⟨h,_⟩
 ·exact .inl h
 ·exact .inr h
theorem Gf {m : Mg} : ∀ {r pre : List Mg}, SL (pre ++ r) → (m ∈ pQ (pre.getLast?.map (·.1)) r ↔ m ∈ r ∧ ∀ x ∈ pre ++ r, x.1 = m.1 → x = m ∨ fE tM m x = true)
 |[],pre,_=>by simp [pQ]
 |z::r,pre,h=>by
  have h':SL ((pre++[z])++r):=by simpa using h
  have ih:=Gf (m:=m) (r:=r) (pre:=pre++[z]) h'
  have e1:((pre++[z]).getLast?.map (·.1))=some z.1:=by simp
  have e2:pre++[z]++r=pre++z::r:=by simp
  rw [e1,e2] at ih
  have hp:=List.pairwise_append.1 h
  have hpz:=List.pairwise_cons.1 hp.2.1
  unfold pQ
  by_cases hc:pre.getLast?.map (·.1)=some z.1
  ·rw [if_pos hc, ih]
   obtain ⟨p,hp1,hp2⟩:=Option.map_eq_some_iff.1 hc
   have hpm:p∈pre:=List.mem_of_getLast? hp1
   constructor
   ·rintro ⟨h1,h2⟩;exact ⟨List.mem_cons_of_mem _ h1,h2⟩
   ·rintro ⟨h1, h2⟩
    refine ⟨?_,h2⟩
    rcases List.mem_cons.1 h1 with rfl|h1
    ·have hlt := hp.2.2 p hpm m (List.mem_cons_self ..)
     rcases h2 p (by simp [hpm]) hp2 with e|h3
     ·rw [e,fq kM] at hlt;cases hlt
     ·exact (di kM h3 hlt).elim
    ·exact h1
  ·rw [if_neg hc, List.mem_cons, ih]
   constructor
   ·rintro (rfl | ⟨h1, h2⟩)
    ·refine ⟨List.mem_cons_self .., fun x hx e => ?_⟩
     rcases List.mem_append.1 hx with hx|hx
     ·exfalso
      have hx2:=hp.2.2 x hx m (List.mem_cons_self ..)
      cases hl:pre.getLast? with
      |none=>rw [List.getLast?_eq_none_iff.1 hl] at hx;cases hx
      |some p =>
       have hpm:p∈pre:=List.mem_of_getLast? hl
       have hpm2:=hp.2.2 p hpm m (List.mem_cons_self ..)
       have hne:p.1≠m.1:=fun e=>hc (by rw [hl,Option.map_some,e])
       have hp3:=(SL.ids hpm2).resolve_right hne
       have hxp:x=p\/fE tM x p=true:=by
        obtain ⟨l',hl'⟩:=List.getLast?_eq_some_iff.1 hl
        rw [hl'] at hx
        rcases List.mem_append.1 hx with hx|hx
        ·right
         have:=hp.1
         rw [hl'] at this
         exact (List.pairwise_append.1 this).2.2 x hx p (by simp)
        ·exact .inl (List.mem_singleton.1 hx)
       rcases hxp with rfl|hxp
       ·exact hne e
       ·rcases SL.ids hxp with h5 | h5
        ·rw [e] at h5;exact Dk h5 hp3
        ·exact hne (h5.symm.trans e)
     ·rcases List.mem_cons.1 hx with rfl | hx
      ·exact .inl rfl
      ·exact .inr (hpz.1 x hx)
    ·exact ⟨List.mem_cons_of_mem _ h1,h2⟩
   ·rintro ⟨h1, h2⟩
    rcases List.mem_cons.1 h1 with rfl|h1
    ·exact .inl rfl
    ·exact .inr ⟨h1,h2⟩
theorem zL : ∀ {r : List Mg} {p : Option ByteArray}, (pQ p r).Sublist r
 |[],_=>.slnil
 |z::r,p=>by
  unfold pQ
  split
  ·exact .cons _ zL
  ·exact .cons_cons _ zL
theorem W5 {L:List Mg} (h:SL L):pQ none L=cnt L:=by
 have hm:=fun m=>Gf (m:=m) (r:=L) (pre:=[]) (by simpa using h)
 simp only [List.getLast?_nil,Option.map_none,List.nil_append] at hm
 refine acB ?_ (fe L) fun m=>?_
 ·have hs : SL (pQ none L) := List.Pairwise.sublist zL h
  refine List.Pairwise.imp_of_mem (fun {a b} ha hb hab=>?_) hs
  rcases SL.ids hab with h1|h1
  ·exact h1
  ·rcases ((hm b).1 hb).2 a ((hm a).1 ha).1 h1 with e | h2
   ·rw [e,fq kM] at hab;cases hab
   ·exact (di kM hab h2).elim
 ·rw [hm,WI h]
theorem k71 {L:List Mg} (h:SL L) (hl:L.length<=1000):ai (F71 L)=some (cnt L,()):=by
 have hi:iter (fun x=>ai (g71_0 x)) (L,(0:Nat),(0:Int),[],())=some ((pQ none L).length,pQ none L,()):=by
  refine aQ L (fun k (s:List Mg×Option ByteArray)=>(L,s.1.length,(k:Int),s.1,())) (fun s r=>((s.1++pQ s.2 r).length,s.1++pQ s.2 r,())) (fun pre s=>s.1.length<=pre.length/\s.2=pre.getLast?.map (·.1)) ?_ ?_ (s:=([],none)) ⟨Nat.le_refl _,rfl⟩
  ·rintro pre x post ⟨o, p⟩ hx ⟨ho, rfl⟩
   have hlen:L.length=pre.length+(post.length+1):=by rw [hx];simp
   have hd:L.getD pre.length (bs [],(0:Int),bs [],bs [],(0:Int))=x:=by rw [hx];exact aT rfl
   have i1:bT (pre.length:Int) ((L.length:Nat):Int)=true:=aP (by omega) (by omega)
   have r1:dc .i64 ((pre.length:Int)+1)=true:=aD (by omega) (by omega)
   have d1:decide (o.length+1<bp)=true:=decide_eq_true (by rw [cO];simp only at ho;omega)
   have e1:(([(x.1,x.2.1,x.2.2.1,x.2.2.2.1,x.2.2.2.2)]:List Mg).take 1)=[x]:=rfl
   have Sj:(pre++[x]).getLast?.map (·.1)=some x.1:=by simp
   left
   by_cases h0:pre=[]
   ·subst h0
    refine ⟨(o++[x],some x.1),?_,⟨by simp at ho ⊢;omega,Sj.symm⟩,by simp [pQ]⟩
    simp only [List.length_nil,Int.natCast_zero] at hd i1 r1 ho ⊢
    simp only [g71_0,aj,aJ,aS,aI,aa,aK,aZ,reduceIte,Int.toNat_zero,hd,i1,r1,d1,e1,af,List.drop_zero,List.length_singleton,List.take_length,List.length_append]
    rw [if_pos (by simp only [List.length_nil] at hlen;omega)]
    rfl
   ·obtain ⟨p,hp⟩:∃p,pre.getLast?=some p:=by
     cases hl:pre.getLast? with
     |none=>exact absurd (List.getLast?_eq_none_iff.1 hl) h0
     |some p=>exact ⟨p,rfl⟩
    obtain ⟨l',hl'⟩:=List.getLast?_eq_some_iff.1 hp
    have hpl:pre.length=l'.length+1:=by rw [hl'];simp
    have hd2:L.getD (pre.length - 1) (bs [],(0:Int),bs [],bs [],(0:Int))=p:=by
     rw [hx,hl',List.append_assoc]
     exact aT (by simp)
    have i2:bT ((pre.length:Int) - 1) ((L.length:Nat):Int)=true:=aP (by omega) (by omega)
    have r2:dc .i64 ((pre.length:Int) - 1)=true:=aD (by omega) (by omega)
    have e2:Int.toNat ((pre.length:Int) - 1)=pre.length - 1:=by omega
    have hpp:pre.getLast?.map (·.1)=some p.1:=by rw [hp];rfl
    simp only [hpp]
    by_cases he:x.1=p.1
    ·refine ⟨(o, some x.1), ?_, ⟨by simp at ho ⊢; omega, Sj.symm⟩, by simp only [pQ]; rw [if_pos (by rw [he])]⟩
     simp only [g71_0,aj,aJ,aS,aI,aa,aK,aZ,bx,seq_eq,Int.toNat_natCast,hd,e2,hd2,i1,i2,r1,r2,af]
     rw [if_pos (by omega),if_neg (by omega),if_pos he]
     rfl
    ·refine ⟨(o ++ [x], some x.1), ?_, ⟨by simp at ho ⊢; omega, Sj.symm⟩, by simp only [pQ]; rw [if_neg fun e => he (Option.some.inj e).symm]; simp⟩
     simp only [g71_0,aj,aJ,aS,aI,aa,aK,aZ,bx,seq_eq,Int.toNat_natCast,hd,e2,hd2,i1,i2,r1,r2,d1,e1,af,List.drop_zero,List.length_singleton,List.take_length,List.length_append]
     rw [if_pos (by omega),if_neg (by omega),if_neg he]
     rfl
  ·rintro ⟨o, p⟩ _
   simp only [g71_0,aj,aa,aK]
   rw [if_neg (by omega)]
   simp [pQ]
 unfold F71
 simp only [aA,bn]
 rw [ag hi,W5 h]
 simp only [aa,List.drop_zero,List.take_length]
theorem k116 {c:List Mg} (hc:c.length<1000000) (x:ByteArray):ai (F116 c x)=some (NJ c x,()):=by
 have hi:iter (fun a=>ai (g116_0 a)) (c,x,(0:Int),())=some (if NJ c x=true then Sum.inl () else Sum.inr ()):=by
  refine aQ c (fun k (_:Unit)=>(c,x,(k:Int),())) (fun _ r=>if NJ r x=true then Sum.inl () else Sum.inr ()) (fun _ _=>True) ?_ ?_ (s:=()) trivial
  ·intro pre z post _ hz _
   have hlen:c.length=pre.length+(post.length+1):=by rw [hz];simp
   have hd:c.getD pre.length (bs [],(0:Int),bs [],bs [],(0:Int))=z:=by rw [hz];exact aT rfl
   have i1:bT (pre.length:Int) ((c.length:Nat):Int)=true:=aP (by omega) (by omega)
   have r1:dc .i64 ((pre.length:Int)+1)=true:=aD (by omega) (by omega)
   by_cases h:z.1=x/\z.2.1≠3
   ·right
    rw [if_pos (by unfold NJ;rw [List.any_cons,decide_eq_true h];rfl)]
    simp only [g116_0,aj,aJ,aI,aa,Int.toNat_natCast,hd,i1,af,aK,aZ,bx,seq_eq]
    rw [if_pos (by omega),if_pos h.1,if_neg h.2]
   ·left
    refine ⟨(),?_,trivial,by unfold NJ;rw [List.any_cons,decide_eq_false h,Bool.false_or]⟩
    simp only [g116_0,aj,aJ,aI,aa,Int.toNat_natCast,hd,i1,r1,af,aK,aZ,bx,seq_eq]
    rw [if_pos (by omega)]
    by_cases h1:z.1=x
    ·rw [if_pos h1,if_pos (Classical.byContradiction fun h3=>h ⟨h1,h3⟩)];rfl
    ·rw [if_neg h1];rfl
  ·intro _ _
   simp only [g116_0,aj,aa,aK]
   rw [if_neg (by omega)]
   simp [NJ]
 unfold F116
 simp only [aA,bn]
 rw [ag hi]
 cases NJ c x with
 |true=>rw [if_pos rfl];simp only [mg,aa]
 |false=>rw [if_neg (by simp)];simp only [iW,aa]
theorem k117 {c:List Mg} (hc:c.length<1000000) (x:ByteArray):ai (F117 c x)=some (fD c x,()):=by
 have hi:iter (fun a=>ai (g117_0 a)) (c,x,(0:Int),())=some (if fD c x=true then Sum.inl () else Sum.inr ()):=by
  refine aQ c (fun k (_:Unit)=>(c,x,(k:Int),())) (fun _ r=>if fD r x=true then Sum.inl () else Sum.inr ()) (fun _ _=>True) ?_ ?_ (s:=()) trivial
  ·intro pre z post _ hz _
   have hlen:c.length=pre.length+(post.length+1):=by rw [hz];simp
   have hd:c.getD pre.length (bs [],(0:Int),bs [],bs [],(0:Int))=z:=by rw [hz];exact aT rfl
   have i1:bT (pre.length:Int) ((c.length:Nat):Int)=true:=aP (by omega) (by omega)
   have r1:dc .i64 ((pre.length:Int)+1)=true:=aD (by omega) (by omega)
   by_cases h:z.2.1=3/\z.2.2.1=x
   ·right
    rw [if_pos (by unfold fD;rw [List.any_cons,decide_eq_true h];rfl)]
    simp only [g117_0,aj,aJ,aI,aa,Int.toNat_natCast,hd,i1,af,aK,aZ,seq_eq]
    rw [if_pos (by omega),if_pos h.1,if_pos h.2]
   ·left
    refine ⟨(),?_,trivial,by unfold fD;rw [List.any_cons,decide_eq_false h,Bool.false_or]⟩
    simp only [g117_0,aj,aJ,aI,aa,Int.toNat_natCast,hd,i1,r1,af,aK,aZ,seq_eq]
    rw [if_pos (by omega)]
    by_cases h1:z.2.1=3
    ·rw [if_pos h1,if_neg fun h3=>h ⟨h1,h3⟩];rfl
    ·rw [if_neg h1];rfl
  ·intro _ _
   simp only [g117_0,aj,aa,aK]
   rw [if_neg (by omega)]
   simp [fD]
 unfold F117
 simp only [aA,bn]
 rw [ag hi]
 cases fD c x with
 |true=>rw [if_pos rfl];simp only [mg,aa]
 |false=>rw [if_neg (by simp)];simp only [iW,aa]
end Go.Proofs.Tryz
end
section
namespace Go.Proofs.Tryz
open Go.AM
set_option maxRecDepth 100000
set_option maxHeartbeats 2000000
theorem bW {α:Type} {l:List α} {i j:Nat} {v d:α} (hi:i<l.length):(l.set i v).getD j d=if i=j then v else l.getD j d:=by
 rw [List.getD_eq_getElem?_getD,List.getD_eq_getElem?_getD,List.getElem?_set]
 by_cases e:i=j
 ·subst e;rw [if_pos rfl,if_pos rfl,if_pos hi];rfl
 ·rw [if_neg e,if_neg e]
theorem IJ {α:Type} {n j:Nat} {v:α}:(List.replicate n v).getD j v=v:=by
 rw [List.getD_eq_getElem?_getD,List.getElem?_replicate]
 split<;>rfl
section
variable {c:List Mg}
def mi (c:List Mg) (i:Nat):Mg:=c.getD i zM
theorem cK {i:Nat} (h:i<c.length):mi c i∈c:=by
 unfold mi;rw [List.getD_eq_getElem?_getD,List.getElem?_eq_getElem h];exact List.getElem_mem h
theorem Sk {m:Mg} (h:m∈c):∃i,i<c.length/\mi c i=m:=by
 obtain ⟨i,hi,e⟩:=List.getElem_of_mem h
 exact ⟨i,hi,by unfold mi;rw [List.getD_eq_getElem?_getD,List.getElem?_eq_getElem hi];exact e⟩
theorem IK (hs:SI c) {i j:Nat} (hi:i<c.length) (hj:j<c.length) (e:(mi c i).1=(mi c j).1):i=j:=by
 have key:∀{i j:Nat},i<j->j<c.length->(mi c i).1=(mi c j).1->False:=fun {i j} hij hj e=>by
  have:=(List.pairwise_iff_getElem.1 hs) i j (by omega) hj hij
  unfold mi at e
  rw [List.getD_eq_getElem?_getD,List.getD_eq_getElem?_getD,List.getElem?_eq_getElem hj,List.getElem?_eq_getElem (show i<c.length by omega)] at e
  simp only [Option.getD_some] at e
  rw [e,n9] at this;cases this
 rcases Nat.lt_trichotomy i j with h|h|h
 ·exact (key h hj e).elim
 ·exact h
 ·exact (key h hi e.symm).elim
theorem Bz {x:ByteArray} (h:x∈ids c):∃i,i<c.length/\(mi c i).1=x:=by
 obtain ⟨m,hm,rfl⟩:=List.mem_map.1 h
 obtain ⟨i,hi,e⟩:=Sk hm
 exact ⟨i,hi,by rw [e]⟩
theorem acD {i k:Nat} (hi:i<c.length) (h2:(mi c i).2.1=2) (e:(mi c k).1=(mi c i).2.2.1):(mi c i).1∈kids c (mi c k).1:=by
 rw [e];exact uO (cK hi) h2
theorem Dl (hs:SI c) {i:Nat} (hi:i<c.length) {x:ByteArray} (h:(mi c i).1∈kids c x):(mi c i).2.1=2/\(mi c i).2.2.1=x:=KW hs (cK hi) h
theorem ais (hl:c.length<=1000):∃o:List Int,iter (fun a=>ai (g92_0 a)) (c,c.length,(0:Int),List.replicate c.length (0:Int),())=some (c,c.length,o,())/\o.length=c.length/\∀j<c.length,o.getD j 0=1:=by
 obtain ⟨r, h1, o, rfl, h2, h3⟩ := dI (step := fun a => ai (g92_0 a)) c.length (fun k x => ∃ o : List Int, x = (c, c.length, (k : Int), o, ()) ∧ o.length = c.length ∧ ∀ j < k, o.getD j 0 = 1) (fun r => ∃ o : List Int, r = (c, c.length, o, ()) ∧ o.length = c.length ∧ ∀ j < c.length, o.getD j 0 = 1) (by
  rintro k _ hk ⟨o,rfl,ho,hj⟩
  have i1:bT (k:Int) ((c.length:Nat):Int)=true:=aP (by omega) (by omega)
  have r1:dc .i64 ((k:Int)+1)=true:=aD (by omega) (by omega)
  have d1:decide (k<o.length)=true:=decide_eq_true (by omega)
  refine ⟨(c,c.length,((k+1:Nat):Int),o.set k 1,()),?_,o.set k 1,rfl,by simp [ho],fun j hj'=>?_⟩
  ·simp only [g92_0, aj, aJ, aS, aI, aa, Int.toNat_natCast, Nat.zero_add, i1, r1, d1, af, aK]
   rw [if_pos (by omega)]
   rfl
  ·rw [bW (by omega)]
   split
   ·rfl
   ·exact hj j (by omega)) (by
  rintro _ ⟨o,rfl,ho,hj⟩
  simp only [g92_0,aj,aa,aK]
  rw [if_neg (by omega)]
  exact ⟨_,rfl,o,rfl,ho,hj⟩) (x:=(c,c.length,(0:Int),List.replicate c.length (0:Int),())) ⟨List.replicate c.length 0,rfl,by simp,fun j h=>by omega⟩
 exact ⟨o,h1,h2,h3⟩
theorem ait (hs:SI c) (hl:c.length<=1000) {i:Nat} (hi:i<c.length) {RA RB:List Mg} {v44:Int} {RC:ByteArray} {RD v49:Bool} {o:List Int} :
  iter (fun a=>ai (g92_2 a)) (c,c.length,(i:Int),(0:Int),(0:Int),RA,RB,v44,RC,RD,v49,o,()) =
   some (c,c.length,(i:Int),(((c.filter fun m=>decide (m.2.1=2/\m.2.2.1=(mi c i).2.2.1/\m.1≠(mi c i).1/\fD c m.1=true)).length:Nat):Int),RA,RB,v44,RC,RD,v49,o,()):=by
 have wT:c.getD i (bs [],(0:Int),bs [],bs [],(0:Int))=mi c i:=rfl
 have ii:bT (i:Int) ((c.length:Nat):Int)=true:=aP (by omega) (by omega)
 refine (aQ c (fun k (n : Nat) => (c, c.length, (i : Int), (n : Int), (k : Int), RA, RB, v44, RC, RD, v49, o, ()))
  (fun n r=>(c,c.length,(i:Int),((n+(r.filter fun m=>decide (m.2.1=2/\m.2.2.1=(mi c i).2.2.1/\m.1≠(mi c i).1/\fD c m.1=true)).length:Nat):Int),RA,RB,v44,RC,RD,v49,o,())) (fun pre n=>n<=pre.length) ?_ ?_ (s:=0) (Nat.le_refl _)).trans (by rw [Nat.zero_add])
 ·intro pre z post n hz hn
  have hlen:c.length=pre.length+(post.length+1):=by rw [hz];simp
  have hd:c.getD pre.length (bs [],(0:Int),bs [],bs [],(0:Int))=z:=by rw [hz];exact aT rfl
  have Gt:mi c pre.length=z:=hd
  have hne:z.1≠(mi c i).1↔pre.length≠i:=by
   rw [<-Gt]
   exact ⟨fun h e=>h (by rw [e]),fun h e=>h (IK hs (by omega) hi e)⟩
  have i1:bT (pre.length:Int) ((c.length:Nat):Int)=true:=aP (by omega) (by omega)
  have r1:dc .i64 ((pre.length:Int)+1)=true:=aD (by omega) (by omega)
  have r2:dc .i64 ((n:Int)+1)=true:=aD (by omega) (by omega)
  have W6:=k117 (c:=c) (by omega) z.1
  left
  by_cases h:z.2.1=2/\z.2.2.1=(mi c i).2.2.1/\z.1≠(mi c i).1/\fD c z.1=true
  ·refine ⟨n + 1, ?_, by simp; omega, by rw [List.filter_cons_of_pos (by simpa using h), List.length_cons, show n + 1 + (post.filter fun m => decide (m.2.1 = 2 ∧ m.2.2.1 = (mi c i).2.2.1 ∧ m.1 ≠ (mi c i).1 ∧ fD c m.1 = true)).length = n + ((post.filter fun m => decide (m.2.1 = 2 ∧ m.2.2.1 = (mi c i).2.2.1 ∧ m.1 ≠ (mi c i).1 ∧ fD c m.1 = true)).length + 1) by omega]⟩
   simp only [g92_2,aj,aJ,aI,aA,aa,Int.toNat_natCast,hd,wT,ii,i1,af,aK,aZ,bx,seq_eq]
   rw [if_pos (by omega),if_neg (by have:=hne.1 h.2.2.1;omega),if_pos h.1,if_pos h.2.1,ag W6]
   simp only [h.2.2.2,bO,r1,r2,af]
   rfl
  ·refine ⟨n, ?_, by simp; omega, by rw [List.filter_cons_of_neg (by simpa using h)]⟩
   simp only [g92_2,aj,aJ,aI,aA,aa,Int.toNat_natCast,hd,wT,ii,i1,r1,af,aK,aZ,bx,seq_eq]
   rw [if_pos (by omega)]
   by_cases c1:(pre.length:Int)=(i:Int)
   ·rw [if_pos c1];rfl
   ·rw [if_neg c1]
    by_cases c2:z.2.1=2
    ·rw [if_pos c2]
     by_cases c3:z.2.2.1=(mi c i).2.2.1
     ·rw [if_pos c3, ag W6]
      have:fD c z.1=false:=by
       cases hr:fD c z.1 with
       |false=>rfl
       |true=>exact absurd ⟨c2,c3,hne.2 (by omega),hr⟩ h
      simp only [this,aO]
      rfl
     ·rw [if_neg c3];rfl
    ·rw [if_neg c2];rfl
 ·intro n _
  simp only [g92_2,aj,aa,aK]
  rw [if_neg (by omega)]
  simp
theorem aiu (hs:SI c) (hl:c.length<=1000) {o0:List Int} (h0:o0.length=c.length) (h1:∀j<c.length,o0.getD j 0=1) :
  ∃o:List Int,iter (fun a=>ai (g92_1 a)) (c,c.length,(0:Int),o0,())=some (c,c.length,o,())/\o.length=c.length/\∀j<c.length,o.getD j 0=if (mi c j).2.1=2/\rF c (mi c j)=true then 2 else 1:=by
 obtain ⟨r, h1, o, rfl, h2, h3⟩ := dI (step := fun a => ai (g92_1 a)) c.length (fun k x => ∃ o : List Int, x = (c, c.length, (k : Int), o, ()) ∧ o.length = c.length ∧ ∀ j < c.length, o.getD j 0 = if j < k ∧ (mi c j).2.1 = 2 ∧ rF c (mi c j) = true then 2 else 1)
  (fun r=>∃o:List Int,r=(c,c.length,o,())/\o.length=c.length/\∀j<c.length,o.getD j 0=if (mi c j).2.1=2/\rF c (mi c j)=true then 2 else 1) (by
  rintro k _ hk ⟨o,rfl,ho,hj⟩
  have hd:c.getD k (bs [],(0:Int),bs [],bs [],(0:Int))=mi c k:=rfl
  have i1:bT (k:Int) ((c.length:Nat):Int)=true:=aP (by omega) (by omega)
  have r1:dc .i64 ((k:Int)+1)=true:=aD (by omega) (by omega)
  have d1:decide (k<o.length)=true:=decide_eq_true (by omega)
  have h116:=k116 (c:=c) (by omega) (mi c k).2.2.1
  have W6:=k117 (c:=c) (by omega) (mi c k).1
  have stay:¬((mi c k).2.1=2/\rF c (mi c k)=true)->∀j<c.length,o.getD j 0=if j<k+1/\(mi c j).2.1=2/\rF c (mi c j)=true then 2 else 1:=fun hn j hj'=>by
   rw [hj j hj']
   by_cases e:j=k
   ·subst e;rw [if_neg (fun h=>hn h.2),if_neg (fun h=>hn h.2)]
   ·by_cases hh : j < k ∧ (mi c j).2.1 = 2 ∧ rF c (mi c j) = true
    ·rw [if_pos hh,if_pos ⟨by omega,hh.2⟩]
    ·rw [if_neg hh,if_neg fun h=>hh ⟨by omega,h.2⟩]
  simp only [g92_1,aj,aJ,aS,aI,aA,bn,aa,Int.toNat_natCast,Nat.zero_add,hd,i1,af,aK,aZ,bx]
  rw [if_pos (by omega)]
  by_cases c1:(mi c k).2.1=2
  ·rw [if_pos c1, ag h116]
   cases ht:NJ c (mi c k).2.2.1 with
   |false =>
    simp only [aO,r1,af]
    exact ⟨_,rfl,o,rfl,ho,stay fun h=>by have:=h.2;unfold rF at this;rw [ht] at this;simp at this⟩
   |true =>
    simp only [bO]
    rw [ag (ait hs hl hk)]
    simp only
    by_cases c2:(((c.filter fun m=>decide (m.2.1=2/\m.2.2.1=(mi c k).2.2.1/\m.1≠(mi c k).1/\fD c m.1=true)).length:Nat):Int)=1
    ·rw [if_pos c2, i1, af]
     simp only [Int.toNat_natCast,hd]
     rw [ag W6]
     cases hr:fD c (mi c k).1 with
     |true =>
      simp only [bO,r1,af]
      exact ⟨_,rfl,o,rfl,ho,stay fun h=>by have:=h.2;unfold rF at this;rw [hr] at this;simp at this⟩
     |false =>
      simp only [aO,i1,d1,r1,af]
      refine ⟨_,rfl,o.set k 2,rfl,by simp [ho],fun j hj'=>?_⟩
      have hsb:rF c (mi c k)=true:=by unfold rF;rw [ht,hr,decide_eq_true (by omega)];rfl
      rw [bW (by omega)]
      by_cases e:k=j
      ·subst e;rw [if_pos rfl,if_pos ⟨by omega,c1,hsb⟩]
      ·rw [if_neg e, hj j hj']
       by_cases hh:j<k/\(mi c j).2.1=2/\rF c (mi c j)=true
       ·rw [if_pos hh,if_pos ⟨by omega,hh.2⟩]
       ·rw [if_neg hh,if_neg fun h=>hh ⟨by omega,h.2⟩]
    ·rw [if_neg c2, r1, af]
     refine ⟨_,rfl,o,rfl,ho,stay fun h=>?_⟩
     have:=h.2
     unfold rF at this
     rw [decide_eq_false (show ¬(c.filter fun m=>decide (m.2.1=2/\m.2.2.1=(mi c k).2.2.1/\m.1≠(mi c k).1/\fD c m.1=true)).length=1 by omega),Bool.and_false] at this
     cases this
  ·rw [if_neg c1, r1, af]
   exact ⟨_,rfl,o,rfl,ho,stay fun h=>c1 h.1⟩) (by
  rintro _ ⟨o,rfl,ho,hj⟩
  simp only [g92_1,aj,aa,aK]
  rw [if_neg (by omega)]
  refine ⟨_,rfl,o,rfl,ho,fun j hj'=>?_⟩
  rw [hj j hj']
  by_cases hh:(mi c j).2.1=2/\rF c (mi c j)=true
  ·rw [if_pos ⟨hj',hh⟩,if_pos hh]
  ·rw [if_neg fun h=>hh h.2,if_neg hh]) (x:=(c,c.length,(0:Int),o0,())) ⟨o0,rfl,h0,fun j hj=>by rw [h1 j hj,if_neg (by omega)]⟩
 exact ⟨o,h1,h2,h3⟩
structure BA (c:List Mg) (o:List Int) (s:List Bool):Prop where
 lo:o.length=c.length
 ls:s.length=c.length
 o12:∀i<c.length,o.getD i 0=1\/o.getD i 0=2
 YZ:∀i<c.length,o.getD i 0=2->dg c (mi c i).1=true
 Y4:∀i<c.length,s.getD i false=true->∃t d,Tk c t/\jU c t d (mi c i).1
def Ge (c:List Mg) (o:List Int) (s:List Bool) (o':List Int) (s':List Bool):Prop:=∀i<c.length,(o.getD i 0=2->o'.getD i 0=2)/\(s.getD i false=true->s'.getD i false=true)
def zN (c:List Mg) (o:List Int) (s:List Bool) (o':List Int) (s':List Bool) (i k:Nat):Prop :=
 (mi c i).2.1=2->(mi c k).2.1≠3->(mi c k).1=(mi c i).2.2.1->(o.getD k 0=2->o'.getD i 0=2)/\(s.getD k false=true->s'.getD i false=true\/dg c (mi c i).1=true)
theorem Ge.rfl {o:List Int} {s:List Bool}:Ge c o s o s:=fun _ _=>⟨id,id⟩
theorem Ge.trans {o o1 o2:List Int} {s s1 s2:List Bool} (h:Ge c o s o1 s1) (h':Ge c o1 s1 o2 s2):Ge c o s o2 s2:=fun i hi=>⟨fun x=>(h' i hi).1 ((h i hi).1 x),fun x=>(h' i hi).2 ((h i hi).2 x)⟩
theorem zN.mono {o o1 o2:List Int} {s s1 s2:List Bool} {i k:Nat} (hi:i<c.length) (h:zN c o s o1 s1 i k) (h':Ge c o1 s1 o2 s2):zN c o s o2 s2 i k:=fun a b e=>by
 obtain ⟨q1,q2⟩:=h a b e
 exact ⟨fun x=>(h' i hi).1 (q1 x),fun x=>(q2 x).imp (h' i hi).2 id⟩
theorem acE (hs:SI c) (hl:c.length<=1000) {i k:Nat} (hi:i<c.length) (hk:k<c.length) {v9:Int} {o:List Int} {s:List Bool} (h:BA c o s) :
  ∃o' s',ai (g92_5 (c,c.length,c.length,v9,(i:Int),(k:Int),o,s,()))=some (.inl (c,c.length,c.length,v9,(i:Int),((k+1:Nat):Int),o',s',()))/\BA c o' s'/\Ge c o s o' s'/\zN c o s o' s' i k:=by
 have wT:c.getD i (bs [],(0:Int),bs [],bs [],(0:Int))=mi c i:=rfl
 have hdk:c.getD k (bs [],(0:Int),bs [],bs [],(0:Int))=mi c k:=rfl
 have ii:bT (i:Int) ((c.length:Nat):Int)=true:=aP (by omega) (by omega)
 have ik:bT (k:Int) ((c.length:Nat):Int)=true:=aP (by omega) (by omega)
 have r1:dc .i64 ((k:Int)+1)=true:=aD (by omega) (by omega)
 have hlo:=h.lo
 have hls:=h.ls
 have W7:decide (k<o.length)=true:=decide_eq_true (by omega)
 have Sl:decide (i<o.length)=true:=decide_eq_true (by omega)
 have ds1:decide (i<s.length)=true:=decide_eq_true (by omega)
 have ds2:decide (k<s.length)=true:=decide_eq_true (by omega)
 simp only [g92_5,aj,aJ,aS,aI,Hv,aa,Int.toNat_natCast,Nat.zero_add,wT,hdk,ii,ik,af,aK,aZ,bx,seq_eq]
 rw [if_pos (by omega)]
 by_cases c1:(mi c i).2.1=2
 ·rw [if_pos c1]
  by_cases c2:(mi c k).2.1=3
  ·rw [if_pos c2, r1, af]
   exact ⟨o,s,rfl,h,.rfl,fun _ hn=>absurd c2 hn⟩
  ·rw [if_neg c2]
   by_cases c3:(mi c k).1=(mi c i).2.2.1
   ·rw [if_pos c3, W7, af]
    have qp:=acD hi c1 c3
    -- the state's mark
    have hA:∃o1,(if o.getD k 0=2 then (need (decide (i<o.length)) (some (Sum.inl (c,c.length,c.length,v9,(i:Int),(k:Int),c,(k:Int),(mi c k).2.1,((mi c k).2.1==3),c,(k:Int),(mi c k).1,c,(i:Int),(mi c i).2.2.1,(!(decide ((mi c k).1=(mi c i).2.2.1))),o.set i 2,s,())))) else some (Sum.inl (c,c.length,c.length,v9,(i:Int),(k:Int),c,(k:Int),(mi c k).2.1,((mi c k).2.1==3),c,(k:Int),(mi c k).1,c,(i:Int),(mi c i).2.2.1,(!(decide ((mi c k).1=(mi c i).2.2.1))),o,s,())):Option ((List Mg×Nat×Nat×Int×Int×Int×List Mg×Int×Int×Bool×List Mg×Int×ByteArray×List Mg×Int×ByteArray×Bool×List Int×List Bool×Unit) ⊕ ((List Mg×Nat×Nat×Int×Int×Int×List Int×List Bool×Unit) ⊕ (List Mg×Nat×Nat×Int×Int×List Int×List Bool×Unit)))) =
      some (Sum.inl (c,c.length,c.length,v9,(i:Int),(k:Int),c,(k:Int),(mi c k).2.1,((mi c k).2.1==3),c,(k:Int),(mi c k).1,c,(i:Int),(mi c i).2.2.1,(!(decide ((mi c k).1=(mi c i).2.2.1))),o1,s,()))/\BA c o1 s/\Ge c o s o1 s/\(o.getD k 0=2->o1.getD i 0=2):=by
     by_cases c4:o.getD k 0=2
     ·rw [if_pos c4, Sl, af]
      have hst:dg c (mi c i).1=true:=Da (h.YZ k hk c4) qp
      refine ⟨o.set i 2,rfl,⟨by simp [hlo],hls,fun j hj=>?_,fun j hj hh=>?_,h.Y4⟩,fun j hj=>⟨fun hh=>?_,id⟩,fun _=>by rw [bW (by omega),if_pos rfl]⟩
      ·rw [bW (by omega)]; split
       ·exact .inr rfl
       ·exact h.o12 j hj
      ·rw [bW (by omega)] at hh; split at hh
       ·rename_i e;rw [<-e];exact hst
       ·exact h.YZ j hj hh
      ·rw [bW (by omega)]; split
       ·rfl
       ·exact hh
     ·rw [if_neg c4]
      exact ⟨o,rfl,h,.rfl,fun hh=>absurd hh c4⟩
    obtain ⟨o1,hA1,Y5,hA3,hA4⟩:=hA
    rw [ag hA1]
    have acF:=Y5.lo
    have do3:decide (i<o1.length)=true:=decide_eq_true (by omega)
    simp only [ND,aJ,aS,aj,aI,aa,Int.toNat_natCast,Nat.zero_add,ii,ik,ds1,ds2,do3,r1,af]
    cases c5:s.getD i false with
    |true =>
     rw [bO]
     refine ⟨o1,s.set i true,rfl,⟨acF,by simp [hls],Y5.o12,Y5.YZ,fun j hj hh=>?_⟩,fun j hj=>⟨(hA3 j hj).1,fun hh=>?_⟩,fun _ _ _=>⟨hA4,fun _=>.inl (by rw [bW (by omega),if_pos rfl])⟩⟩
     ·rw [bW (by omega)] at hh; split at hh
      ·rename_i e;rw [<-e];exact h.Y4 i hi c5
      ·exact h.Y4 j hj hh
     ·rw [bW (by omega)]; split
      ·rfl
      ·exact hh
    |false =>
     rw [aO]
     cases c6:s.getD k false with
     |true =>
      rw [bO]
      refine ⟨o1,s.set i (!(o1.getD i 0==2)),rfl,⟨acF,by simp [hls],Y5.o12,Y5.YZ,fun j hj hh=>?_⟩,fun j hj=>⟨(hA3 j hj).1,fun hh=>?_⟩,fun _ _ _=>⟨hA4,fun _=>?_⟩⟩
      ·rw [bW (by omega)] at hh; split at hh
       ·rename_i e
        rw [<-e]
        obtain ⟨t,d,ht,hp⟩:=h.Y4 k hk c6
        exact ⟨t,d+1,ht,.step hp qp⟩
       ·exact h.Y4 j hj hh
      ·rw [bW (by omega)]; split
       ·rename_i e;rw [<-e,c5] at hh;cases hh
       ·exact hh
      ·rw [bW (by omega), if_pos rfl]
       cases c7:(o1.getD i 0==2) with
       |false=>exact .inl rfl
       |true=>exact .inr (Y5.YZ i hi (by simpa using c7))
     |false =>
      rw [aO]
      refine ⟨o1,s.set i false,rfl,⟨acF,by simp [hls],Y5.o12,Y5.YZ,fun j hj hh=>?_⟩,fun j hj=>⟨(hA3 j hj).1,fun hh=>?_⟩,fun _ _ _=>⟨hA4,fun hh=>by rw [c6] at hh;cases hh⟩⟩
      ·rw [bW (by omega)] at hh; split at hh
       ·cases hh
       ·exact h.Y4 j hj hh
      ·rw [bW (by omega)]; split
       ·rename_i e;rw [<-e,c5] at hh;cases hh
       ·exact hh
   ·rw [if_neg c3, r1, af]
    exact ⟨o,s,rfl,h,.rfl,fun _ _ e=>absurd e c3⟩
 ·rw [if_neg c1, r1, af]
  exact ⟨o,s,rfl,h,.rfl,fun h2=>absurd h2 c1⟩
end
end Go.Proofs.Tryz
end
section
namespace Go.Proofs.Tryz
open Go.AM
set_option maxRecDepth 100000
set_option maxHeartbeats 2000000
section
variable {c:List Mg}
theorem zN.old {o o1 o2:List Int} {s s1 s2:List Bool} {i k:Nat} (hk:k<c.length) (h:Ge c o s o1 s1) (h':zN c o1 s1 o2 s2 i k):zN c o s o2 s2 i k:=fun a b e=>by
 obtain ⟨q1,q2⟩:=h' a b e
 exact ⟨fun x=>q1 ((h k hk).1 x),fun x=>q2 ((h k hk).2 x)⟩
theorem aiw (hs:SI c) (hl:c.length<=1000) {i:Nat} (hi:i<c.length) {v9:Int} {o:List Int} {s:List Bool} (h:BA c o s) :
  ∃o' s',iter (fun a=>ai (g92_5 a)) (c,c.length,c.length,v9,(i:Int),(0:Int),o,s,())=some (c,c.length,c.length,v9,(i:Int),o',s',())/\BA c o' s'/\Ge c o s o' s'/\∀k<c.length,zN c o s o' s' i k:=by
 obtain ⟨r, h1, o', s', rfl, h2⟩ := dI (step := fun a => ai (g92_5 a)) c.length (fun k x => ∃ o' s', x = (c, c.length, c.length, v9, (i : Int), (k : Int), o', s', ()) ∧ BA c o' s' ∧ Ge c o s o' s' ∧ ∀ j < k, zN c o s o' s' i j)
  (fun r=>∃o' s',r=(c,c.length,c.length,v9,(i:Int),o',s',())/\BA c o' s'/\Ge c o s o' s'/\∀k<c.length,zN c o s o' s' i k) (by
  rintro k _ hk ⟨o1,s1,rfl,q1,q2,q3⟩
  obtain ⟨o2,s2,e,p1,p2,p3⟩:=acE hs hl hi hk (v9:=v9) q1
  refine ⟨_,e,o2,s2,rfl,p1,q2.trans p2,fun j hj=>?_⟩
  by_cases ej:j=k
  ·subst ej;exact p3.old hk q2
  ·exact (q3 j (by omega)).mono hi p2) (by
  rintro _ ⟨o1,s1,rfl,q⟩
  simp only [g92_5,aj,aa,aK]
  rw [if_neg (by omega)]
  exact ⟨_,rfl,o1,s1,rfl,q⟩) (x:=(c,c.length,c.length,v9,(i:Int),(0:Int),o,s,())) ⟨o,s,rfl,h,.rfl,fun j hj=>by omega⟩
 exact ⟨o',s',h1,h2⟩
def Dn (c:List Mg) (o0:List Int) (s0:List Bool) (o:List Int) (s:List Bool) (i:Nat):Prop:=((mi c i).2.1=1->s.getD i false=true)/\∀k<c.length,zN c o0 s0 o s i k
theorem aix (hs:SI c) (hl:c.length<=1000) {v9:Int} {o:List Int} {s:List Bool} (h:BA c o s) :
  ∃o' s',iter (fun a=>ai (g92_4 a)) (c,c.length,c.length,v9,(0:Int),o,s,())=some (c,c.length,c.length,v9,o',s',())/\BA c o' s'/\Ge c o s o' s'/\∀i<c.length,Dn c o s o' s' i:=by
 obtain ⟨r, h1, o', s', rfl, h2⟩ := dI (step := fun a => ai (g92_4 a)) c.length (fun k x => ∃ o' s', x = (c, c.length, c.length, v9, (k : Int), o', s', ()) ∧ BA c o' s' ∧ Ge c o s o' s' ∧ ∀ j < k, Dn c o s o' s' j)
  (fun r=>∃o' s',r=(c,c.length,c.length,v9,o',s',())/\BA c o' s'/\Ge c o s o' s'/\∀i<c.length,Dn c o s o' s' i) (by
  rintro i _ hi ⟨o1,s1,rfl,q1,q2,q3⟩
  have wT:c.getD i (bs [],(0:Int),bs [],bs [],(0:Int))=mi c i:=rfl
  have ii:bT (i:Int) ((c.length:Nat):Int)=true:=aP (by omega) (by omega)
  have r1:dc .i64 ((i:Int)+1)=true:=aD (by omega) (by omega)
  have hls:=q1.ls
  have ds1:decide (i<s1.length)=true:=decide_eq_true (by omega)
  have key:∀s2:List Bool,s2.length=c.length->(∀j<c.length,s1.getD j false=true->s2.getD j false=true)->(∀j<c.length,s2.getD j false=true->s1.getD j false=true\/(j=i/\(mi c i).2.1=1))->((mi c i).2.1=1->s2.getD i false=true) ->
    ∃o3 s3,iter (fun a=>ai (g92_5 a)) (c,c.length,c.length,v9,(i:Int),(0:Int),o1,s2,())=some (c,c.length,c.length,v9,(i:Int),o3,s3,())/\BA c o3 s3/\Ge c o s o3 s3/\∀j<i+1,Dn c o s o3 s3 j:=fun s2 Ds h1 h2 h3=>by
   have hsn:BA c o1 s2:=⟨q1.lo,Ds,q1.o12,q1.YZ,fun j hj hh=>by
    rcases h2 j hj hh with hh|⟨rfl,I6⟩
    ·exact q1.Y4 j hj hh
    ·exact ⟨(mi c j).1,0,⟨mi c j,cK hj,rfl,I6⟩,.zero⟩⟩
   have hge:Ge c o1 s1 o1 s2:=fun j hj=>⟨id,h1 j hj⟩
   obtain ⟨o3,s3,e,p1,p2,p3⟩:=aiw hs hl hi (v9:=v9) hsn
   refine ⟨o3,s3,e,p1,(q2.trans hge).trans p2,fun j hj=>?_⟩
   by_cases ej:j=i
   ·subst ej
    exact ⟨fun I6=>(p2 j hi).2 (h3 I6),fun k hk=>(p3 k hk).old hk (q2.trans hge)⟩
   ·obtain ⟨d1, d2⟩ := q3 j (by omega)
    exact ⟨fun I6=>((hge.trans p2) j (by omega)).2 (d1 I6),fun k hk=>(d2 k hk).mono (by omega) (hge.trans p2)⟩
  simp only [g92_4,aj,aJ,aS,aA,bn,Int.toNat_natCast,Nat.zero_add,wT,ii,ds1,af,aK]
  rw [if_pos (by omega)]
  cases c5:s1.getD i false with
  |true =>
   rw [bO]
   obtain ⟨o3,s3,e,p1,p2,p3⟩:=key (s1.set i true) (by simp [hls]) (fun j hj hh=>by
    rw [bW (by omega)]
    split
    ·rfl
    ·exact hh) (fun j hj hh=>by
    rw [bW (by omega)] at hh;split at hh
    ·rename_i e;rw [<-e];exact .inl c5
    ·exact .inl hh) (fun _=>by rw [bW (by omega),if_pos rfl])
   rw [ag e]
   simp only [aI,aa,r1,af]
   exact ⟨_,rfl,o3,s3,rfl,p1,p2,p3⟩
  |false =>
   rw [aO]
   obtain ⟨o3,s3,e,p1,p2,p3⟩:=key (s1.set i ((mi c i).2.1==1)) (by simp [hls]) (fun j hj hh=>by
    rw [bW (by omega)];split
    ·rename_i e;rw [<-e,c5] at hh;cases hh
    ·exact hh) (fun j hj hh=>by
    rw [bW (by omega)] at hh;split at hh
    ·rename_i e;exact .inr ⟨e.symm,by simpa using hh⟩
    ·exact .inl hh) (fun I6=>by rw [bW (by omega),if_pos rfl,I6];rfl)
   rw [ag e]
   simp only [aI,aa,r1,af]
   exact ⟨_,rfl,o3,s3,rfl,p1,p2,p3⟩) (by
  rintro _ ⟨o1,s1,rfl,q⟩
  simp only [g92_4,aj,aa,aK]
  rw [if_neg (by omega)]
  exact ⟨_,rfl,o1,s1,rfl,q⟩) (x:=(c,c.length,c.length,v9,(0:Int),o,s,())) ⟨o,s,rfl,h,.rfl,fun j hj=>by omega⟩
 exact ⟨o',s',h1,h2⟩
def W8 (c:List Mg) (r:Nat) (o:List Int) (s:List Bool):Prop:=∀i<c.length,(∀p y d,y∈D c p->jU c y d (mi c i).1->d<=r->o.getD i 0=2)/\(∀t d,Tk c t->jU c t d (mi c i).1->d<r->s.getD i false=true\/dg c (mi c i).1=true)
theorem Sm (hs:SI c) {r:Nat} {o o':List Int} {s s':List Bool} (h:W8 c r o s) (hg:Ge c o s o' s') (hd:∀i<c.length,Dn c o s o' s' i):W8 c (r+1) o' s':=fun i hi=>by
 obtain ⟨d1,d2⟩:=hd i hi
 constructor
 ·intro p y d hy hp hle
  rcases eS hp with ⟨h0,e⟩|⟨j,z,hj,h1,hz⟩
  ·exact (hg i hi).1 ((h i hi).1 p y 0 hy (by rw [e];exact .zero) (by omega))
  ·obtain ⟨m, hm, rfl, hm3⟩ := Dh h1 (KX (qh hy))
   obtain ⟨k,hk,rfl⟩:=Sk hm
   obtain ⟨h2,he⟩:=Dl hs hi hz
   exact (d2 k hk h2 hm3 he.symm).1 ((h k hk).1 p y j hy h1 (by omega))
 ·intro t d ht hp hlt
  rcases eS hp with ⟨h0,e⟩|⟨j,z,hj,h1,hz⟩
  ·left
   refine d1 ?_
   obtain ⟨m,hm,e',h1⟩:=ht
   rw [hs.inj (cK hi) hm (by rw [e,e'])];exact h1
  ·obtain ⟨m, hm, rfl, hm3⟩ := Dh h1 ht.nr
   obtain ⟨k,hk,rfl⟩:=Sk hm
   obtain ⟨h2,he⟩:=Dl hs hi hz
   rcases (h k hk).2 t j ht h1 (by omega) with hh|hh
   ·exact (d2 k hk h2 hm3 he.symm).2 hh
   ·exact .inr (Da hh hz)
theorem aiy (hs:SI c) (hl:c.length<=1000) {o:List Int} {s:List Bool} (h:BA c o s) (h0:W8 c 0 o s) :
  ∃o' s',iter (fun a=>ai (g92_3 a)) (c,c.length,c.length,(0:Int),o,s,())=some (c,c.length,c.length,o',s',())/\BA c o' s'/\W8 c (c.length+1) o' s':=by
 obtain ⟨r, h1, o', s', rfl, h2⟩ := dI (step := fun a => ai (g92_3 a)) (c.length + 1) (fun k x => ∃ o' s', x = (c, c.length, c.length, (k : Int), o', s', ()) ∧ BA c o' s' ∧ W8 c k o' s')
  (fun r=>∃o' s',r=(c,c.length,c.length,o',s',())/\BA c o' s'/\W8 c (c.length+1) o' s') (by
  rintro k _ hk ⟨o1,s1,rfl,q1,q2⟩
  have r1:dc .i64 ((k:Int)+1)=true:=aD (by omega) (by omega)
  obtain ⟨o2,s2,e,p1,p2,p3⟩:=aix hs hl (v9:=(k:Int)) q1
  simp only [g92_3,aj,aA,bn,aK]
  rw [if_pos (by omega),ag e]
  simp only [aI,aa,r1,af]
  exact ⟨_,rfl,o2,s2,rfl,p1,Sm hs q2 p2 p3⟩) (by
  rintro _ ⟨o1,s1,rfl,q⟩
  simp only [g92_3,aj,aa,aK]
  rw [if_neg (by omega)]
  exact ⟨_,rfl,o1,s1,rfl,q⟩) (x:=(c,c.length,c.length,(0:Int),o,s,())) ⟨o,s,rfl,h,h0⟩
 exact ⟨o',s',h1,h2⟩
theorem IL (hs:SI c) (hk:wQ c) {o:List Int} {s:List Bool} (h:BA c o s) (hc:W8 c (c.length+1) o s) {i:Nat} (hi:i<c.length) :
  (o.getD i 0=2↔dg c (mi c i).1=true)/\((s.getD i false=true/\o.getD i 0≠2)↔(mZ c (mi c i).1).isSome=true):=by
 have h1:o.getD i 0=2↔dg c (mi c i).1=true:=by
  refine ⟨h.YZ i hi,fun hst=>?_⟩
  obtain ⟨p,y,hy,hd⟩:=zH.1 hst
  obtain ⟨d,hp⟩:=hd.pth
  obtain ⟨d,hd,hp⟩:=Nq (iC (qh hy)) d hp
  exact (hc i hi).1 p y d hy hp (by omega)
 refine ⟨h1,?_⟩
 rw [Option.isSome_iff_exists]
 constructor
 ·rintro ⟨a, b⟩
  obtain ⟨t,d,ht,hp⟩:=h.Y4 i hi a
  refine ⟨t,(dn hs hk).2 ⟨ht,?_,d,hp⟩⟩
  cases hst:dg c (mi c i).1 with
  |false=>rfl
  |true=>exact absurd (h1.2 hst) b
 ·rintro ⟨t, ht⟩
  obtain ⟨a,b,d,hp⟩:=(dn hs hk).1 ht
  have hn:¬o.getD i 0=2:=fun e=>by rw [h1.1 e] at b;cases b
  refine ⟨((hc i hi).2 t d a hp (by have:=hp.short hs (a.top hs) a.ids;omega)).resolve_right (by rw [b];simp),hn⟩
def mo (c:List Mg) (i:Nat):Int:=if dg c (mi c i).1=true then 2 else if (mZ c (mi c i).1).isSome=true then (if eF c (mi c i).1=[] then 4 else 3) else 1
def Sn (c:List Mg) (o:List Int) (s:List Bool) (i k:Nat):Prop:=∃j<k,s.getD j false=true/\o.getD j 0≠2/\(mi c j).2.1=2/\(mi c j).2.2.1=(mi c i).1
theorem aiz (hl:c.length<=1000) {i:Nat} (hi:i<c.length) {o:List Int} {s:List Bool} (hlo:o.length=c.length) (hls:s.length=c.length) (hoi:o.getD i 0=4) {n210:Nat} {uH uI:Int} {uJ:Bool} :
  ∃o':List Int,iter (fun a=>ai (g92_7 a)) (c,c.length,c.length,(i:Int),(0:Int),n210,uH,uI,uJ,o,s,())=some (c,c.length,c.length,(i:Int),n210,uH,uI,uJ,o',s,())/\o'.length=c.length/\(∀j,j≠i->o'.getD j 0=o.getD j 0)/\(o'.getD i 0=3\/o'.getD i 0=4)/\(o'.getD i 0=3↔Sn c o s i c.length):=by
 obtain ⟨r, h1, o', rfl, h2⟩ := dI (step := fun a => ai (g92_7 a)) c.length (fun k x => ∃ o', x = (c, c.length, c.length, (i : Int), (k : Int), n210, uH, uI, uJ, o', s, ()) ∧ o'.length = c.length ∧ (∀ j, j ≠ i → o'.getD j 0 = o.getD j 0) ∧ (o'.getD i 0 = 3 ∨ o'.getD i 0 = 4) ∧ (o'.getD i 0 = 3 ↔ Sn c o s i k))
  (fun r=>∃o',r=(c,c.length,c.length,(i:Int),n210,uH,uI,uJ,o',s,())/\o'.length=c.length/\(∀j,j≠i->o'.getD j 0=o.getD j 0)/\(o'.getD i 0=3\/o'.getD i 0=4)/\(o'.getD i 0=3↔Sn c o s i c.length)) (by
  rintro k _ hk ⟨o1,rfl,q1,q2,q3,q4⟩
  have wT:c.getD i (bs [],(0:Int),bs [],bs [],(0:Int))=mi c i:=rfl
  have hdk:c.getD k (bs [],(0:Int),bs [],bs [],(0:Int))=mi c k:=rfl
  have ii:bT (i:Int) ((c.length:Nat):Int)=true:=aP (by omega) (by omega)
  have ik:bT (k:Int) ((c.length:Nat):Int)=true:=aP (by omega) (by omega)
  have r1:dc .i64 ((k:Int)+1)=true:=aD (by omega) (by omega)
  have W7:decide (k<o1.length)=true:=decide_eq_true (by omega)
  have Sl:decide (i<o1.length)=true:=decide_eq_true (by omega)
  have ds2:decide (k<s.length)=true:=decide_eq_true (by omega)
  have hok:o1.getD k 0=2↔o.getD k 0=2:=by
   by_cases e:k=i
   ·subst e;rw [hoi];rcases q3 with h|h<;>rw [h]<;>decide
   ·rw [q2 k e]
  have no:¬(s.getD k false=true/\o.getD k 0≠2/\(mi c k).2.1=2/\(mi c k).2.2.1=(mi c i).1)->(o1.getD i 0=3↔Sn c o s i (k+1)):=fun hn=>by
   rw [q4]
   constructor
   ·rintro ⟨j,hj,h⟩;exact ⟨j,by omega,h⟩
   ·rintro ⟨j, hj, h⟩
    by_cases e:j=k
    ·subst e;exact absurd h hn
    ·exact ⟨j,by omega,h⟩
  simp only [g92_7,aj,aJ,aS,aI,aa,Int.toNat_natCast,Nat.zero_add,wT,hdk,ii,ik,W7,Sl,ds2,r1,af,aK,aZ,bx,seq_eq]
  rw [if_pos (by omega)]
  cases c5:s.getD k false with
  |false =>
   rw [aO]
   exact ⟨_,rfl,o1,rfl,q1,q2,q3,no fun h=>by rw [c5] at h;cases h.1⟩
  |true =>
   rw [bO]
   by_cases c6:o1.getD k 0=2
   ·rw [if_pos c6]
    exact ⟨_,rfl,o1,rfl,q1,q2,q3,no fun h=>h.2.1 (hok.1 c6)⟩
   ·rw [if_neg c6]
    by_cases c7:(mi c k).2.1=2
    ·rw [if_pos c7]
     by_cases c8:(mi c k).2.2.1=(mi c i).1
     ·rw [if_pos c8]
      refine ⟨_,rfl,o1.set i 3,rfl,by simp [q1],fun j hj=>?_,?_,?_⟩
      ·rw [bW (by omega),if_neg fun e=>hj e.symm];exact q2 j hj
      ·left;rw [bW (by omega),if_pos rfl]
      ·rw [bW (by omega), if_pos rfl]
       exact ⟨fun _=>⟨k,by omega,c5,fun e=>c6 (hok.2 e),c7,c8⟩,fun _=>rfl⟩
     ·rw [if_neg c8]
      exact ⟨_,rfl,o1,rfl,q1,q2,q3,no fun h=>c8 h.2.2.2⟩
    ·rw [if_neg c7]
     exact ⟨_,rfl,o1,rfl,q1,q2,q3,no fun h=>c7 h.2.2.1⟩) (by
  rintro _ ⟨o1,rfl,q⟩
  simp only [g92_7,aj,aa,aK]
  rw [if_neg (by omega)]
  exact ⟨_,rfl,o1,rfl,q⟩) (x:=(c,c.length,c.length,(i:Int),(0:Int),n210,uH,uI,uJ,o,s,())) ⟨o,rfl,hlo,fun _ _=>rfl,.inr hoi,by rw [hoi];exact ⟨fun h=>by simp at h,fun ⟨j,hj,_⟩=>by omega⟩⟩
 exact ⟨o',h1,h2⟩
theorem aiA (hs:SI c) (hk:wQ c) (hl:c.length<=1000) {o:List Int} {s:List Bool} (h:BA c o s) (hc:W8 c (c.length+1) o s) :
  ∃o':List Int,iter (fun a=>ai (g92_6 a)) (c,c.length,c.length,(0:Int),o,s,())=some (c,c.length,o',())/\o'.length=c.length/\∀i<c.length,o'.getD i 0=mo c i:=by
 have acG:=fun {i:Nat} (hi:i<c.length)=>IL hs hk h hc hi
 have hls:=h.ls
 obtain ⟨r, h1, o', rfl, h2⟩ := dI (step := fun a => ai (g92_6 a)) c.length (fun k x => ∃ o', x = (c, c.length, c.length, (k : Int), o', s, ()) ∧ o'.length = c.length ∧ (∀ j < k, o'.getD j 0 = mo c j) ∧ ∀ j < c.length, k ≤ j → o'.getD j 0 = o.getD j 0)
  (fun r=>∃o',r=(c,c.length,o',())/\o'.length=c.length/\∀i<c.length,o'.getD i 0=mo c i) (by
  rintro i _ hi ⟨o1,rfl,q1,q2,q3⟩
  have ii:bT (i:Int) ((c.length:Nat):Int)=true:=aP (by omega) (by omega)
  have r1:dc .i64 ((i:Int)+1)=true:=aD (by omega) (by omega)
  have W7:decide (i<o1.length)=true:=decide_eq_true (by omega)
  have ds1:decide (i<s.length)=true:=decide_eq_true (by omega)
  obtain ⟨s1,s2⟩:=acG hi
  have hoi:=q3 i hi (Nat.le_refl _)
  have stay:o.getD i 0=mo c i->(∀j<i+1,o1.getD j 0=mo c j)/\∀j<c.length,i+1<=j->o1.getD j 0=o.getD j 0:=fun e=>by
   refine ⟨fun j hj=>?_,fun j hj hij=>q3 j hj (by omega)⟩
   by_cases ej:j=i
   ·subst ej;rw [hoi,e]
   ·exact q2 j (by omega)
  simp only [g92_6,aj,aJ,aS,aI,aA,bn,aa,Int.toNat_natCast,Nat.zero_add,ii,W7,ds1,af,aK,aZ,bx]
  rw [if_pos (by omega)]
  cases c5:s.getD i false with
  |false =>
   rw [aO,r1,af]
   refine ⟨_,rfl,o1,rfl,q1,stay ?_⟩
   unfold mo
   cases hst:dg c (mi c i).1 with
   |true=>rw [if_pos rfl];exact s1.2 hst
   |false =>
    rw [if_neg (by simp),if_neg fun hh=>by have:=(s2.2 hh).1;rw [c5] at this;cases this]
    rcases h.o12 i hi with e|e
    ·exact e
    ·rw [s1.1 e] at hst;cases hst
  |true =>
   rw [bO,hoi]
   by_cases c6:o.getD i 0=2
   ·rw [if_pos c6, r1, af]
    refine ⟨_,rfl,o1,rfl,q1,stay ?_⟩
    unfold mo
    rw [if_pos (s1.1 c6)];exact c6
   ·rw [if_neg c6]
    have hsd:=s2.1 ⟨c5,c6⟩
    obtain ⟨o2,e,p1,p2,p3,p4⟩:=aiz hl hi (o:=o1.set i 4) (s:=s) (n210:=c.length) (uH:=(i:Int)) (uI:=o.getD i 0) (uJ:=(o.getD i 0==2)) (by simp [q1]) hls (by rw [bW (by omega),if_pos rfl])
    rw [ag e]
    simp only [aI,aa,r1,af]
    refine ⟨_,rfl,o2,rfl,p1,fun j hj=>?_,fun j hj hij=>?_⟩
    ·by_cases ej : j = i
     ·subst ej
      have hst:dg c (mi c j).1=false:=by
       cases hst:dg c (mi c j).1 with
       |false=>rfl
       |true=>exact absurd (s1.2 hst) c6
      have hiff:Sn c (o1.set j 4) s j c.length↔eF c (mi c j).1≠[]:=by
       obtain ⟨t,ht⟩:=Option.isSome_iff_exists.1 hsd
       have h2f:∀a,a<c.length->(o1.set j 4).getD a 0≠2->dg c (mi c a).1=false:=fun a ha hne=>by
        cases hst:dg c (mi c a).1 with
        |false=>rfl
        |true =>
         exfalso
         apply hne
         rw [bW (by omega)]
         split
         ·rename_i e;rw [<-e] at hst;rename_i hst0;rw [hst] at hst0;cases hst0
         ·by_cases haj : a < j
          ·rw [q2 a haj];unfold mo;rw [if_pos hst]
          ·rw [q3 a ha (by omega)];exact (acG ha).1.2 hst
       constructor
       ·rintro ⟨a, ha, b1, b2, b3, b4⟩ e
        have:(mi c a).1∈eF c (mi c j).1:=tH.2 ⟨by rw [<-b4];exact uO (cK ha) b3,h2f a ha b2⟩
        rw [e] at this;cases this
       ·intro hne
        obtain ⟨y,hy⟩:=List.exists_mem_of_ne_nil _ hne
        obtain ⟨hy1,hy2⟩:=tH.1 hy
        obtain ⟨a,ha,rfl⟩:=Bz (iC hy1)
        obtain ⟨b3,b4⟩:=Dl hs ha hy1
        have hsa:=Dj hs hk ht hy1
        rw [hy2] at hsa
        obtain ⟨w1,w2⟩:=(acG ha).2.2 hsa
        refine ⟨a,ha,w1,?_,b3,b4⟩
        rw [bW (by omega)]
        split
        ·omega
        ·by_cases haj : a < j
         ·rw [q2 a haj]
          unfold mo
          rw [if_neg (by rw [hy2];simp)]
          split
          ·split<;>omega
          ·omega
         ·rw [q3 a ha (by omega)];exact w2
      unfold mo
      rw [if_neg (by rw [hst];simp),if_pos hsd]
      by_cases hlv:eF c (mi c j).1=[]
      ·rw [if_pos hlv]
       rcases p3 with e|e
       ·exact absurd hlv (hiff.1 (p4.1 e))
       ·exact e
      ·rw [if_neg hlv];exact p4.2 (hiff.2 hlv)
     ·rw [p2 j ej,bW (by omega),if_neg fun e=>ej e.symm];exact q2 j (by omega)
    ·rw [p2 j (by omega),bW (by omega),if_neg (by omega)];exact q3 j hj (by omega)) (by
  rintro _ ⟨o1,rfl,q1,q2,q3⟩
  simp only [g92_6,aj,aa,aK]
  rw [if_neg (by omega)]
  exact ⟨_,rfl,o1,rfl,q1,q2⟩) (x:=(c,c.length,c.length,(0:Int),o,s,())) ⟨o,rfl,h.lo,fun j hj=>by omega,fun _ _ _=>rfl⟩
 exact ⟨o',h1,h2⟩
end
end Go.Proofs.Tryz
end
section
namespace Go.Proofs.Tryz
open Go.AM
set_option maxRecDepth 100000
set_option maxHeartbeats 2000000
section
variable {c:List Mg}
structure Stt (c:List Mg) (o:List Int):Prop where
 lo:o.length=c.length
 v:∀i<c.length,(o.getD i 0=4\/o.getD i 0=5)↔(fQ c (mi c i).1).isSome=true
 s:∀i<c.length,2<o.getD i 0↔(mZ c (mi c i).1).isSome=true
def aY (c : List Mg) : Nat → ByteArray → List ByteArray
 |0,_=>[]
 |n+1,x=>match eF c x with
  |[]=>[x]
  |k::l=>(k::l).flatMap (aY c n)
theorem BC {f g : ByteArray → List ByteArray} (h : ∀ a, (f a).Perm (g a)) : ∀ l : List ByteArray, (l.flatMap f).Perm (l.flatMap g)
 |[]=>.refl _
 |a::l=>by rw [List.flatMap_cons,List.flatMap_cons];exact (h a).append (BC h l)
theorem kA : ∀ {n : Nat} {x : ByteArray}, (cB c n x).Perm (aY c n x)
 |0,_=>.refl _
 |n+1,x=>by
  unfold cB aY
  cases eF c x with
  |nil=>exact .refl _
  |cons k l=>exact (dS (t:=.str) _).trans (BC (fun a=>kA) _)
theorem IM {i:Nat} (h:i<c.length):mi c i=c[i]:=by unfold mi;rw [List.getD_eq_getElem?_getD,List.getElem?_eq_getElem h];rfl
def ixN (c:List Mg) (x:ByteArray):Nat:=c.findIdx fun m=>decide (m.1=x)
theorem vC (hs:SI c) {i:Nat} (hi:i<c.length):ixN c (mi c i).1=i:=by
 have h1:ixN c (mi c i).1<c.length:=List.findIdx_lt_length_of_exists ⟨mi c i,cK hi,by simp⟩
 have h2:=List.findIdx_getElem (w:=h1)
 refine IK hs h1 hi ?_
 have h3:(c[ixN c (mi c i).1]).1=(mi c i).1:=of_decide_eq_true h2
 rw [IM h1];exact h3
def ixs (c:List Mg) (l:List ByteArray):List Int:=l.map fun y=>((ixN c y:Nat):Int)
theorem j7 {l:List ByteArray}:(ixs c l).length=l.length:=List.length_map ..
def LV (c:List Mg) (x:ByteArray) (r:List Mg):List ByteArray:=((r.filter fun m=>decide (m.2.1=2/\m.2.2.1=x)).map (·.1)).filter fun k => !dg c k
theorem wU (x:ByteArray) (m:Mg) (r:List Mg):LV c x (m::r)=if m.2.1=2/\m.2.2.1=x/\dg c m.1=false then m.1::LV c x r else LV c x r:=by
 unfold LV
 by_cases h:m.2.1=2/\m.2.2.1=x
 ·rw [List.filter_cons_of_pos (by simpa using h), List.map_cons]
  cases hst:dg c m.1 with
  |true=>rw [List.filter_cons_of_neg (by rw [hst];simp),if_neg fun h=>by cases h.2.2]
  |false=>rw [List.filter_cons_of_pos (by rw [hst];rfl),if_pos ⟨h.1,h.2,rfl⟩]
 ·rw [List.filter_cons_of_neg (by simpa using h),if_neg fun hh=>h ⟨hh.1,hh.2.1⟩]
theorem Sq (x:ByteArray):LV c x c=eF c x:=rfl
theorem Dm (x:ByteArray) (a b:List Mg):LV c x (a++b)=LV c x a++LV c x b:=by
 unfold LV;rw [List.filter_append,List.map_append,List.filter_append]
abbrev NK:=Nat×List Int×List Int×Unit
theorem kH94 (hs:SI c) (hk:wQ c) (hl:c.length<=1000) {o:List Int} (h:Stt c o) {i:Nat} (hi:i<c.length) {t:ByteArray} (ht:Tk c t) (hit:(mi c i).1=t):ai (FH94fix c c.length (i:Int) o)=some (((ixs c (aY c (c.length+1) t)).length,ixs c (aY c (c.length+1) t),o,())):=by
 have h0:ai (FH94fix c c.length (i:Int) o)=uA (A:=lq.T) (B:=lu.T) (fun r y=>run r (FH94 y.1 y.2.1 y.2.2.1 y.2.2.2.1)) (c,c.length,((i:Nat):Int),o,()):=rfl
 refine h0.trans ?_
 have hlo:=h.lo
 refine Db (A:=lq.T) (B:=lu.T) (fun n a b=>∃i d,a=(c,c.length,((i:Nat):Int),o,())/\i<c.length/\jU c t d (mi c i).1/\dg c (mi c i).1=false/\d+n=c.length/\b=((ixs c (aY c (n+1) (mi c i).1)).length,ixs c (aY c (n+1) (mi c i).1),o,())) ?_ c.length _ _ ⟨i,0,rfl,hi,by rw [hit];exact .zero,by rw [hit];exact Di (ht.top hs),by omega,by rw [hit]⟩
 rintro rec n _ _ ⟨i,d,rfl,hi,hp,hst,hn,rfl⟩ ih
 have R4:=hp.short hs (ht.top hs) ht.ids
 have Sr:mZ c (mi c i).1=some t:=(dn hs hk).2 ⟨ht,hst,d,hp⟩
 have hvl:(aY c (n+1) (mi c i).1).length<=c.length:=by
  rw [<-kA.length_eq];exact gG hs (ht.top hs) ht.ids hp
 have wT:c.getD i (bs [],(0:Int),bs [],bs [],(0:Int))=mi c i:=rfl
 have ii:bT (i:Int) ((c.length:Nat):Int)=true:=aP (by omega) (by omega)
 have iio:bT (i:Int) ((o.length:Nat):Int)=true:=aP (by omega) (by omega)
 have W7:decide (i<o.length)=true:=decide_eq_true (by omega)
 have hix:=vC hs hi
 have leaf:eF c (mi c i).1=[]↔(o.getD i 0=4\/o.getD i 0=5):=by
  rw [h.v i hi]
  unfold fQ
  by_cases e:eF c (mi c i).1=[]
  ·rw [if_pos e,Sr];simp [e]
  ·rw [if_neg e];simp [e]
 have hone:eF c (mi c i).1=[]->ixs c (aY c (n+1) (mi c i).1)=[(i:Int)]:=fun e=>by
  unfold aY;rw [e];unfold ixs;rw [List.map_cons,List.map_nil,hix]
 have Su:eF c (mi c i).1≠[]->aY c (n+1) (mi c i).1=(eF c (mi c i).1).flatMap (aY c n):=fun e=>by
  conv=>lhs;unfold aY
  cases hl:eF c (mi c i).1 with
  |nil=>exact absurd hl e
  |cons a l=>rfl
 have e:(run rec (FH94 c c.length (i:Int) o):Option NK)=need (bT (i:Int) ((c.length:Nat):Int)) (need (decide (0+Int.toNat (i:Int)<o.length)) (lF (o.getD (0+Int.toNat (i:Int)) 0==4) (some (1,[(i:Int)],o,())) (need (bT (i:Int) ((c.length:Nat):Int)) (need (decide (0+Int.toNat (i:Int)<o.length)) (lF (o.getD (0+Int.toNat (i:Int)) 0==5) (some (1,[(i:Int)],o,())) (cI (iter (fun a=>run rec (gH94_0 a)) (c,c.length,(i:Int),0,(0:Int),o,[],())) fun z1=>some (z1.1,z1.2.1,z1.2.2.1,()))))))):=rfl
 refine Eq.trans (α:=Option NK) e ?_
 simp only [Int.toNat_natCast,Nat.zero_add,ii,iio,W7,af,aZ]
 by_cases c4:o.getD i 0=4
 ·rw [if_pos c4,hone (leaf.2 (.inl c4))];rfl
 rw [if_neg c4]
 by_cases c5:o.getD i 0=5
 ·rw [if_pos c5,hone (leaf.2 (.inr c5))];rfl
 rw [if_neg c5]
 have hne:eF c (mi c i).1≠[]:=fun e=>(leaf.1 e).elim c4 c5
 rw [Su hne] at hvl ⊢
 have hit : iter (fun a => run rec (gH94_0 a)) (c, c.length, (i : Int), 0, (0 : Int), o, [], ()) = some (((ixs c ((eF c (mi c i).1).flatMap (aY c n))).length, ixs c ((eF c (mi c i).1).flatMap (aY c n)), o, ())) := (aQ c (fun k (acc : List ByteArray) => (c, c.length, (i : Int), (ixs c (acc)).length, ((k : Nat) : Int), o, ixs c (acc), ())) (fun acc r => ((ixs c (acc ++ (LV c (mi c i).1 r).flatMap (aY c n))).length, ixs c (acc ++ (LV c (mi c i).1 r).flatMap (aY c n)), o, ())) (fun pre acc => acc = (LV c (mi c i).1 pre).flatMap (aY c n)) (by
  rintro pre z post _ hz rfl
  have hlen:c.length=pre.length+(post.length+1):=by rw [hz];simp
  have hd:c.getD pre.length (bs [],(0:Int),bs [],bs [],(0:Int))=z:=by rw [hz];exact aT rfl
  have Gt:mi c pre.length=z:=hd
  have Od:z∈c:=by rw [hz];simp
  have i1:bT (pre.length:Int) ((c.length:Nat):Int)=true:=aP (by omega) (by omega)
  have i2:bT (pre.length:Int) ((o.length:Nat):Int)=true:=aP (by omega) (by omega)
  have r1:dc .i64 ((pre.length:Int)+1)=true:=aD (by omega) (by omega)
  have Sl:decide (pre.length<o.length)=true:=decide_eq_true (by omega)
  have vW:=wU (c:=c) (mi c i).1 z post
  have hcs:LV c (mi c i).1 (pre++[z])=LV c (mi c i).1 pre++LV c (mi c i).1 [z]:=Dm ..
  have hc1:=wU (c:=c) (mi c i).1 z []
  have e2:(run rec (gH94_0 (c,c.length,(i:Int),(ixs c ((LV c (mi c i).1 pre).flatMap (aY c n))).length,((pre.length:Nat):Int),o,ixs c ((LV c (mi c i).1 pre).flatMap (aY c n)),())):Option ((List Mg×Nat×Int×Nat×Int×List Int×List Int×Unit) ⊕ NK))=lF (decide (((pre.length:Nat):Int)<((c.length:Nat):Int))) (need (bT ((pre.length:Nat):Int) ((c.length:Nat):Int)) (lF ((c.getD (Int.toNat ((pre.length:Nat):Int)) (bs [],(0:Int),bs [],bs [],(0:Int))).2.1==2) (need (bT ((pre.length:Nat):Int) ((c.length:Nat):Int)) (need (bT (i:Int) ((c.length:Nat):Int)) (lF (seq (c.getD (Int.toNat ((pre.length:Nat):Int)) (bs [],(0:Int),bs [],bs [],(0:Int))).2.2.1 (c.getD (Int.toNat (i:Int)) (bs [],(0:Int),bs [],bs [],(0:Int))).1) (need (bT ((pre.length:Nat):Int) ((c.length:Nat):Int)) (need (decide (0+Int.toNat ((pre.length:Nat):Int)<o.length)) (lF (decide (2<o.getD (0+Int.toNat ((pre.length:Nat):Int)) 0)) (cI (rec (c,c.length,((pre.length:Nat):Int),o,()):Option NK) fun y0=>need (decide ((ixs c ((LV c (mi c i).1 pre).flatMap (aY c n))).length+((y0.2.1.drop 0).take y0.1).length<bp)) (need (dc .i64 (((pre.length:Nat):Int)+1)) (some (.inl (c,c.length,(i:Int),(ixs c ((LV c (mi c i).1 pre).flatMap (aY c n))).length+((y0.2.1.drop 0).take y0.1).length,((pre.length:Nat):Int)+1,y0.2.2.1,(((ixs c ((LV c (mi c i).1 pre).flatMap (aY c n))).drop 0).take (ixs c ((LV c (mi c i).1 pre).flatMap (aY c n))).length)++((y0.2.1.drop 0).take y0.1),()))))) (need (dc .i64 (((pre.length:Nat):Int)+1)) (some (.inl (c,c.length,(i:Int),(ixs c ((LV c (mi c i).1 pre).flatMap (aY c n))).length,((pre.length:Nat):Int)+1,o,(ixs c ((LV c (mi c i).1 pre).flatMap (aY c n))),()))))))) (need (dc .i64 (((pre.length:Nat):Int)+1)) (some (.inl (c,c.length,(i:Int),(ixs c ((LV c (mi c i).1 pre).flatMap (aY c n))).length,((pre.length:Nat):Int)+1,o,(ixs c ((LV c (mi c i).1 pre).flatMap (aY c n))),()))))))) (need (dc .i64 (((pre.length:Nat):Int)+1)) (some (.inl (c,c.length,(i:Int),(ixs c ((LV c (mi c i).1 pre).flatMap (aY c n))).length,((pre.length:Nat):Int)+1,o,(ixs c ((LV c (mi c i).1 pre).flatMap (aY c n))),())))))) (some (.inr ((ixs c ((LV c (mi c i).1 pre).flatMap (aY c n))).length,(ixs c ((LV c (mi c i).1 pre).flatMap (aY c n))),o,()))):=rfl
  left
  by_cases hq:z.2.1=2/\z.2.2.1=(mi c i).1
  ·have qp : z.1 ∈ kids c (mi c i).1 := by rw [← hq.2]; exact uO Od hq.1
   have h2:=h.s pre.length (by omega)
   rw [Gt,Dj hs hk Sr qp] at h2
   cases hsz:dg c z.1 with
   |false =>
    rw [hsz] at h2
    rw [if_pos ⟨hq.1,hq.2,hsz⟩] at vW hc1
    have Ot:=hp.step qp
    have hsh:=Ot.short hs (ht.top hs) ht.ids
    obtain ⟨n',rfl⟩:∃n',n=n'+1:=⟨n - 1,by omega⟩
    have hq1:(rec (c,c.length,((pre.length:Nat):Int),o,()):Option NK)=some (((ixs c (aY c (n'+1) z.1)).length,ixs c (aY c (n'+1) z.1),o,())):=ih n' _ _ (by omega) ⟨pre.length,d+1,rfl,by omega,by rw [Gt];exact Ot,by rw [Gt];exact hsz,by omega,by rw [Gt]⟩
    have hle:((LV c (mi c i).1 pre).flatMap (aY c (n'+1))).length+(aY c (n'+1) z.1).length<=c.length:=by
     have e3:(eF c (mi c i).1).flatMap (aY c (n'+1))=(LV c (mi c i).1 pre).flatMap (aY c (n'+1))++(aY c (n'+1) z.1++(LV c (mi c i).1 post).flatMap (aY c (n'+1))):=by
      rw [<-Sq,hz,<-hz,show LV c (mi c i).1 c=LV c (mi c i).1 (pre++z::post) by rw [<-hz],Dm,vW,List.flatMap_append,List.flatMap_cons]
     rw [e3,List.length_append,List.length_append] at hvl
     omega
    refine ⟨(LV c (mi c i).1 pre).flatMap (aY c (n'+1))++aY c (n'+1) z.1,?_,by rw [hcs,hc1];simp [LV],by rw [vW];simp⟩
    refine Eq.trans (α:=Option ((List Mg×Nat×Int×Nat×Int×List Int×List Int×Unit) ⊕ NK)) e2 ?_
    simp only [Int.toNat_natCast,Nat.zero_add,hd,wT,ii,i1,i2,Sl,af,aZ,aK,seq_eq]
    rw [if_pos (by omega),if_pos hq.1,if_pos hq.2,if_pos (h2.2 rfl)]
    refine bind_eq (A:=NK) hq1 ?_
    simp only [List.drop_zero,List.take_length,j7,r1,af]
    rw [cm (show _<bp by rw [cO,List.length_take,j7];omega)]
    unfold ixs
    rw [List.map_append]
    simp only [List.take_of_length_le,List.length_map,Nat.le_refl,List.length_append]
    rfl
   |true =>
    rw [hsz] at h2
    rw [if_neg fun hh=>by have:=hh.2.2;rw [hsz] at this;cases this] at vW hc1
    refine ⟨(LV c (mi c i).1 pre).flatMap (aY c n),?_,by rw [hcs,hc1];simp [LV],by rw [vW]⟩
    refine Eq.trans (α:=Option ((List Mg×Nat×Int×Nat×Int×List Int×List Int×Unit) ⊕ NK)) e2 ?_
    simp only [Int.toNat_natCast,Nat.zero_add,hd,wT,ii,i1,i2,Sl,r1,af,aZ,aK,seq_eq]
    rw [if_pos (by omega),if_pos hq.1,if_pos hq.2,if_neg fun hh=>by have:=h2.1 hh;cases this]
    rfl
  ·rw [if_neg fun hh => hq ⟨hh.1, hh.2.1⟩] at vW hc1
   refine ⟨(LV c (mi c i).1 pre).flatMap (aY c n),?_,by rw [hcs,hc1];simp [LV],by rw [vW]⟩
   refine Eq.trans (α:=Option ((List Mg×Nat×Int×Nat×Int×List Int×List Int×Unit) ⊕ NK)) e2 ?_
   simp only [Int.toNat_natCast,Nat.zero_add,hd,wT,ii,i1,i2,Sl,r1,af,aZ,aK,seq_eq]
   rw [if_pos (by omega)]
   by_cases h2:z.2.1=2
   ·rw [if_pos h2,if_neg fun e=>hq ⟨h2,e⟩];rfl
   ·rw [if_neg h2];rfl) (by
  rintro acc _
  have e2:(run rec (gH94_0 (c,c.length,(i:Int),(ixs c (acc)).length,((c.length:Nat):Int),o,ixs c (acc),())):Option ((List Mg×Nat×Int×Nat×Int×List Int×List Int×Unit) ⊕ NK))=lF (decide (((c.length:Nat):Int)<((c.length:Nat):Int))) (need (bT ((c.length:Nat):Int) ((c.length:Nat):Int)) (lF ((c.getD (Int.toNat ((c.length:Nat):Int)) (bs [],(0:Int),bs [],bs [],(0:Int))).2.1==2) (need (bT ((c.length:Nat):Int) ((c.length:Nat):Int)) (need (bT (i:Int) ((c.length:Nat):Int)) (lF (seq (c.getD (Int.toNat ((c.length:Nat):Int)) (bs [],(0:Int),bs [],bs [],(0:Int))).2.2.1 (c.getD (Int.toNat (i:Int)) (bs [],(0:Int),bs [],bs [],(0:Int))).1) (need (bT ((c.length:Nat):Int) ((c.length:Nat):Int)) (need (decide (0+Int.toNat ((c.length:Nat):Int)<o.length)) (lF (decide (2<o.getD (0+Int.toNat ((c.length:Nat):Int)) 0)) (cI (rec (c,c.length,((c.length:Nat):Int),o,()):Option NK) fun y0=>need (decide ((ixs c (acc)).length+((y0.2.1.drop 0).take y0.1).length<bp)) (need (dc .i64 (((c.length:Nat):Int)+1)) (some (.inl (c,c.length,(i:Int),(ixs c (acc)).length+((y0.2.1.drop 0).take y0.1).length,((c.length:Nat):Int)+1,y0.2.2.1,(((ixs c (acc)).drop 0).take (ixs c (acc)).length)++((y0.2.1.drop 0).take y0.1),()))))) (need (dc .i64 (((c.length:Nat):Int)+1)) (some (.inl (c,c.length,(i:Int),(ixs c (acc)).length,((c.length:Nat):Int)+1,o,(ixs c (acc)),()))))))) (need (dc .i64 (((c.length:Nat):Int)+1)) (some (.inl (c,c.length,(i:Int),(ixs c (acc)).length,((c.length:Nat):Int)+1,o,(ixs c (acc)),()))))))) (need (dc .i64 (((c.length:Nat):Int)+1)) (some (.inl (c,c.length,(i:Int),(ixs c (acc)).length,((c.length:Nat):Int)+1,o,(ixs c (acc)),())))))) (some (.inr ((ixs c (acc)).length,(ixs c (acc)),o,()))):=rfl
  rw [e2,aK,if_neg (by omega)]
  simp [LV]) (s:=[]) rfl)
 refine bind_eq (A:=NK) hit ?_
 rfl
abbrev vZ:=Nat×List Int×Unit
theorem K2 (hs:SI c) (hk:wQ c) (hl:c.length<=1000) {o:List Int} (h:Stt c o) {i:Nat} (hi:i<c.length) {t:ByteArray} (ht:Tk c t) (hit:(mi c i).1=t):ai (FH94_v1fix c o (i:Int))=some (((ixs c (aY c (c.length+1) t)).length,ixs c (aY c (c.length+1) t),())):=by
 have h0:ai (FH94_v1fix c o (i:Int))=uA (A:=cn.T) (B:=cq.T) (fun r y=>run r (FH94_v1 y.1 y.2.1 y.2.2.1)) (c,o,((i:Nat):Int),()):=rfl
 refine h0.trans ?_
 have hlo:=h.lo
 refine Db (A:=cn.T) (B:=cq.T) (fun n a b=>∃i d,a=(c,o,((i:Nat):Int),())/\i<c.length/\jU c t d (mi c i).1/\dg c (mi c i).1=false/\d+n=c.length/\b=((ixs c (aY c (n+1) (mi c i).1)).length,ixs c (aY c (n+1) (mi c i).1),())) ?_ c.length _ _ ⟨i,0,rfl,hi,by rw [hit];exact .zero,by rw [hit];exact Di (ht.top hs),by omega,by rw [hit]⟩
 rintro rec n _ _ ⟨i,d,rfl,hi,hp,hst,hn,rfl⟩ ih
 have R4:=hp.short hs (ht.top hs) ht.ids
 have Sr:mZ c (mi c i).1=some t:=(dn hs hk).2 ⟨ht,hst,d,hp⟩
 have hvl:(aY c (n+1) (mi c i).1).length<=c.length:=by
  rw [<-kA.length_eq];exact gG hs (ht.top hs) ht.ids hp
 have wT:c.getD i (bs [],(0:Int),bs [],bs [],(0:Int))=mi c i:=rfl
 have ii:bT (i:Int) ((c.length:Nat):Int)=true:=aP (by omega) (by omega)
 have iio:bT (i:Int) ((o.length:Nat):Int)=true:=aP (by omega) (by omega)
 have W7:decide (i<o.length)=true:=decide_eq_true (by omega)
 have hix:=vC hs hi
 have leaf:eF c (mi c i).1=[]↔(o.getD i 0=4\/o.getD i 0=5):=by
  rw [h.v i hi]
  unfold fQ
  by_cases e:eF c (mi c i).1=[]
  ·rw [if_pos e,Sr];simp [e]
  ·rw [if_neg e];simp [e]
 have hone:eF c (mi c i).1=[]->ixs c (aY c (n+1) (mi c i).1)=[(i:Int)]:=fun e=>by
  unfold aY;rw [e];unfold ixs;rw [List.map_cons,List.map_nil,hix]
 have Su:eF c (mi c i).1≠[]->aY c (n+1) (mi c i).1=(eF c (mi c i).1).flatMap (aY c n):=fun e=>by
  conv=>lhs;unfold aY
  cases hl:eF c (mi c i).1 with
  |nil=>exact absurd hl e
  |cons a l=>rfl
 have e:(run rec (FH94_v1 c o (i:Int)):Option vZ)=need (bT (i:Int) ((o.length:Nat):Int)) (lF (o.getD (Int.toNat (i:Int)) 0==4) (some (1,[(i:Int)],())) (need (bT (i:Int) ((o.length:Nat):Int)) (lF (o.getD (Int.toNat (i:Int)) 0==5) (some (1,[(i:Int)],())) (cI (iter (fun a=>run rec (gH94_v1_0 a)) (c,o,(i:Int),0,(0:Int),[],())) fun z1=>some (z1.1,z1.2.1,()))))):=rfl
 refine Eq.trans (α:=Option vZ) e ?_
 simp only [Int.toNat_natCast,Nat.zero_add,ii,iio,W7,af,aZ]
 by_cases c4:o.getD i 0=4
 ·rw [if_pos c4,hone (leaf.2 (.inl c4))];rfl
 rw [if_neg c4]
 by_cases c5:o.getD i 0=5
 ·rw [if_pos c5,hone (leaf.2 (.inr c5))];rfl
 rw [if_neg c5]
 have hne:eF c (mi c i).1≠[]:=fun e=>(leaf.1 e).elim c4 c5
 rw [Su hne] at hvl ⊢
 have hit : iter (fun a => run rec (gH94_v1_0 a)) (c, o, (i : Int), 0, (0 : Int), [], ()) = some (((ixs c ((eF c (mi c i).1).flatMap (aY c n))).length, ixs c ((eF c (mi c i).1).flatMap (aY c n)), ())) := (aQ c (fun k (acc : List ByteArray) => (c, o, (i : Int), (ixs c (acc)).length, ((k : Nat) : Int), ixs c (acc), ())) (fun acc r => ((ixs c (acc ++ (LV c (mi c i).1 r).flatMap (aY c n))).length, ixs c (acc ++ (LV c (mi c i).1 r).flatMap (aY c n)), ())) (fun pre acc => acc = (LV c (mi c i).1 pre).flatMap (aY c n)) (by
  rintro pre z post _ hz rfl
  have hlen:c.length=pre.length+(post.length+1):=by rw [hz];simp
  have hd:c.getD pre.length (bs [],(0:Int),bs [],bs [],(0:Int))=z:=by rw [hz];exact aT rfl
  have Gt:mi c pre.length=z:=hd
  have Od:z∈c:=by rw [hz];simp
  have i1:bT (pre.length:Int) ((c.length:Nat):Int)=true:=aP (by omega) (by omega)
  have i2:bT (pre.length:Int) ((o.length:Nat):Int)=true:=aP (by omega) (by omega)
  have r1:dc .i64 ((pre.length:Int)+1)=true:=aD (by omega) (by omega)
  have Sl:decide (pre.length<o.length)=true:=decide_eq_true (by omega)
  have vW:=wU (c:=c) (mi c i).1 z post
  have hcs:LV c (mi c i).1 (pre++[z])=LV c (mi c i).1 pre++LV c (mi c i).1 [z]:=Dm ..
  have hc1:=wU (c:=c) (mi c i).1 z []
  have e2:(run rec (gH94_v1_0 (c,o,(i:Int),(ixs c ((LV c (mi c i).1 pre).flatMap (aY c n))).length,((pre.length:Nat):Int),ixs c ((LV c (mi c i).1 pre).flatMap (aY c n)),())):Option ((List Mg×List Int×Int×Nat×Int×List Int×Unit) ⊕ vZ))=lF (decide (((pre.length:Nat):Int)<((c.length:Nat):Int))) (need (bT ((pre.length:Nat):Int) ((c.length:Nat):Int)) (lF ((c.getD (Int.toNat ((pre.length:Nat):Int)) (bs [],(0:Int),bs [],bs [],(0:Int))).2.1==2) (need (bT ((pre.length:Nat):Int) ((c.length:Nat):Int)) (need (bT (i:Int) ((c.length:Nat):Int)) (lF (seq (c.getD (Int.toNat ((pre.length:Nat):Int)) (bs [],(0:Int),bs [],bs [],(0:Int))).2.2.1 (c.getD (Int.toNat (i:Int)) (bs [],(0:Int),bs [],bs [],(0:Int))).1) (need (bT ((pre.length:Nat):Int) ((o.length:Nat):Int)) (lF (decide (2<o.getD (Int.toNat ((pre.length:Nat):Int)) 0)) (cI (rec (c,o,((pre.length:Nat):Int),()):Option vZ) fun y0=>need (decide ((ixs c ((LV c (mi c i).1 pre).flatMap (aY c n))).length+((y0.2.1.drop 0).take y0.1).length<bp)) (need (dc .i64 (((pre.length:Nat):Int)+1)) (some (.inl (c,o,(i:Int),(ixs c ((LV c (mi c i).1 pre).flatMap (aY c n))).length+((y0.2.1.drop 0).take y0.1).length,((pre.length:Nat):Int)+1,(((ixs c ((LV c (mi c i).1 pre).flatMap (aY c n))).drop 0).take (ixs c ((LV c (mi c i).1 pre).flatMap (aY c n))).length)++((y0.2.1.drop 0).take y0.1),()))))) (need (dc .i64 (((pre.length:Nat):Int)+1)) (some (.inl (c,o,(i:Int),(ixs c ((LV c (mi c i).1 pre).flatMap (aY c n))).length,((pre.length:Nat):Int)+1,(ixs c ((LV c (mi c i).1 pre).flatMap (aY c n))),())))))) (need (dc .i64 (((pre.length:Nat):Int)+1)) (some (.inl (c,o,(i:Int),(ixs c ((LV c (mi c i).1 pre).flatMap (aY c n))).length,((pre.length:Nat):Int)+1,(ixs c ((LV c (mi c i).1 pre).flatMap (aY c n))),()))))))) (need (dc .i64 (((pre.length:Nat):Int)+1)) (some (.inl (c,o,(i:Int),(ixs c ((LV c (mi c i).1 pre).flatMap (aY c n))).length,((pre.length:Nat):Int)+1,(ixs c ((LV c (mi c i).1 pre).flatMap (aY c n))),())))))) (some (.inr ((ixs c ((LV c (mi c i).1 pre).flatMap (aY c n))).length,(ixs c ((LV c (mi c i).1 pre).flatMap (aY c n))),()))):=rfl
  left
  by_cases hq:z.2.1=2/\z.2.2.1=(mi c i).1
  ·have qp : z.1 ∈ kids c (mi c i).1 := by rw [← hq.2]; exact uO Od hq.1
   have h2:=h.s pre.length (by omega)
   rw [Gt,Dj hs hk Sr qp] at h2
   cases hsz:dg c z.1 with
   |false =>
    rw [hsz] at h2
    rw [if_pos ⟨hq.1,hq.2,hsz⟩] at vW hc1
    have Ot:=hp.step qp
    have hsh:=Ot.short hs (ht.top hs) ht.ids
    obtain ⟨n',rfl⟩:∃n',n=n'+1:=⟨n - 1,by omega⟩
    have hq1:(rec (c,o,((pre.length:Nat):Int),()):Option vZ)=some (((ixs c (aY c (n'+1) z.1)).length,ixs c (aY c (n'+1) z.1),())):=ih n' _ _ (by omega) ⟨pre.length,d+1,rfl,by omega,by rw [Gt];exact Ot,by rw [Gt];exact hsz,by omega,by rw [Gt]⟩
    have hle:((LV c (mi c i).1 pre).flatMap (aY c (n'+1))).length+(aY c (n'+1) z.1).length<=c.length:=by
     have e3:(eF c (mi c i).1).flatMap (aY c (n'+1))=(LV c (mi c i).1 pre).flatMap (aY c (n'+1))++(aY c (n'+1) z.1++(LV c (mi c i).1 post).flatMap (aY c (n'+1))):=by
      rw [<-Sq,hz,<-hz,show LV c (mi c i).1 c=LV c (mi c i).1 (pre++z::post) by rw [<-hz],Dm,vW,List.flatMap_append,List.flatMap_cons]
     rw [e3,List.length_append,List.length_append] at hvl
     omega
    refine ⟨(LV c (mi c i).1 pre).flatMap (aY c (n'+1))++aY c (n'+1) z.1,?_,by rw [hcs,hc1];simp [LV],by rw [vW];simp⟩
    refine Eq.trans (α:=Option ((List Mg×List Int×Int×Nat×Int×List Int×Unit) ⊕ vZ)) e2 ?_
    simp only [Int.toNat_natCast,Nat.zero_add,hd,wT,ii,i1,i2,Sl,af,aZ,aK,seq_eq]
    rw [if_pos (by omega),if_pos hq.1,if_pos hq.2,if_pos (h2.2 rfl)]
    refine bind_eq (A:=vZ) hq1 ?_
    simp only [List.drop_zero,List.take_length,j7,r1,af]
    rw [cm (show _<bp by rw [cO,List.length_take,j7];omega)]
    unfold ixs
    rw [List.map_append]
    simp only [List.take_of_length_le,List.length_map,Nat.le_refl,List.length_append]
    rfl
   |true =>
    rw [hsz] at h2
    rw [if_neg fun hh=>by have:=hh.2.2;rw [hsz] at this;cases this] at vW hc1
    refine ⟨(LV c (mi c i).1 pre).flatMap (aY c n),?_,by rw [hcs,hc1];simp [LV],by rw [vW]⟩
    refine Eq.trans (α:=Option ((List Mg×List Int×Int×Nat×Int×List Int×Unit) ⊕ vZ)) e2 ?_
    simp only [Int.toNat_natCast,Nat.zero_add,hd,wT,ii,i1,i2,Sl,r1,af,aZ,aK,seq_eq]
    rw [if_pos (by omega),if_pos hq.1,if_pos hq.2,if_neg fun hh=>by have:=h2.1 hh;cases this]
    rfl
  ·rw [if_neg fun hh => hq ⟨hh.1, hh.2.1⟩] at vW hc1
   refine ⟨(LV c (mi c i).1 pre).flatMap (aY c n),?_,by rw [hcs,hc1];simp [LV],by rw [vW]⟩
   refine Eq.trans (α:=Option ((List Mg×List Int×Int×Nat×Int×List Int×Unit) ⊕ vZ)) e2 ?_
   simp only [Int.toNat_natCast,Nat.zero_add,hd,wT,ii,i1,i2,Sl,r1,af,aZ,aK,seq_eq]
   rw [if_pos (by omega)]
   by_cases h2:z.2.1=2
   ·rw [if_pos h2,if_neg fun e=>hq ⟨h2,e⟩];rfl
   ·rw [if_neg h2];rfl) (by
  rintro acc _
  have e2:(run rec (gH94_v1_0 (c,o,(i:Int),(ixs c (acc)).length,((c.length:Nat):Int),ixs c (acc),())):Option ((List Mg×List Int×Int×Nat×Int×List Int×Unit) ⊕ vZ))=lF (decide (((c.length:Nat):Int)<((c.length:Nat):Int))) (need (bT ((c.length:Nat):Int) ((c.length:Nat):Int)) (lF ((c.getD (Int.toNat ((c.length:Nat):Int)) (bs [],(0:Int),bs [],bs [],(0:Int))).2.1==2) (need (bT ((c.length:Nat):Int) ((c.length:Nat):Int)) (need (bT (i:Int) ((c.length:Nat):Int)) (lF (seq (c.getD (Int.toNat ((c.length:Nat):Int)) (bs [],(0:Int),bs [],bs [],(0:Int))).2.2.1 (c.getD (Int.toNat (i:Int)) (bs [],(0:Int),bs [],bs [],(0:Int))).1) (need (bT ((c.length:Nat):Int) ((o.length:Nat):Int)) (lF (decide (2<o.getD (Int.toNat ((c.length:Nat):Int)) 0)) (cI (rec (c,o,((c.length:Nat):Int),()):Option vZ) fun y0=>need (decide ((ixs c (acc)).length+((y0.2.1.drop 0).take y0.1).length<bp)) (need (dc .i64 (((c.length:Nat):Int)+1)) (some (.inl (c,o,(i:Int),(ixs c (acc)).length+((y0.2.1.drop 0).take y0.1).length,((c.length:Nat):Int)+1,(((ixs c (acc)).drop 0).take (ixs c (acc)).length)++((y0.2.1.drop 0).take y0.1),()))))) (need (dc .i64 (((c.length:Nat):Int)+1)) (some (.inl (c,o,(i:Int),(ixs c (acc)).length,((c.length:Nat):Int)+1,(ixs c (acc)),())))))) (need (dc .i64 (((c.length:Nat):Int)+1)) (some (.inl (c,o,(i:Int),(ixs c (acc)).length,((c.length:Nat):Int)+1,(ixs c (acc)),()))))))) (need (dc .i64 (((c.length:Nat):Int)+1)) (some (.inl (c,o,(i:Int),(ixs c (acc)).length,((c.length:Nat):Int)+1,(ixs c (acc)),())))))) (some (.inr ((ixs c (acc)).length,(ixs c (acc)),()))):=rfl
  rw [e2,aK,if_neg (by omega)]
  simp [LV]) (s:=[]) rfl)
 refine bind_eq (A:=vZ) hit ?_
 rfl
end
end Go.Proofs.Tryz
end
section
namespace Go.Proofs.Tryz
open Go.AM
set_option maxRecDepth 100000
set_option maxHeartbeats 2000000
section
variable {c:List Mg}
def W9 (c:List Mg) (j:Nat):Int:=match fQ c (mi c j).1 with
 |some t=>if 1<(ir c t).length then 5 else 4
 |none=>mo c j
theorem Sv (hs:SI c) (hk:wQ c) {j:Nat} {t:ByteArray} (h:fQ c (mi c j).1=some t):mo c j=4:=by
 obtain ⟨h1,h2⟩:=eX.1 h
 have h3:=((dn hs hk).1 h2).2.1
 unfold mo
 rw [if_neg (by rw [h3];simp),if_pos (by rw [h2];rfl),if_pos h1]
theorem acH {j:Nat} (h:fQ c (mi c j).1=none):mo c j≠4:=by
 unfold mo
 split
 ·omega
 ·split
  ·rename_i hs
   split
   ·rename_i hl
    obtain ⟨t,ht⟩:=Option.isSome_iff_exists.1 hs
    rw [eX.2 ⟨hl,ht⟩] at h;cases h
   ·omega
  ·omega
theorem acI (hs:SI c) (hk:wQ c) (j:Nat):2<mo c j↔(mZ c (mi c j).1).isSome=true:=by
 unfold mo
 by_cases h1:dg c (mi c j).1=true
 ·rw [if_pos h1]
  refine ⟨fun h=>by omega,fun h=>?_⟩
  obtain ⟨t,ht⟩:=Option.isSome_iff_exists.1 h
  have:=((dn hs hk).1 ht).2.1
  rw [h1] at this;cases this
 ·rw [if_neg h1]
  by_cases h2:(mZ c (mi c j).1).isSome=true
  ·rw [if_pos h2];refine ⟨fun _=>h2,fun _=>?_⟩;split<;>omega
  ·rw [if_neg h2];exact ⟨fun h=>by omega,fun h=>absurd h h2⟩
theorem Sw {x:ByteArray} (h:(fQ c x).isSome=true):(mZ c x).isSome=true:=by
 obtain ⟨t,ht⟩:=Option.isSome_iff_exists.1 h
 rw [(eX.1 ht).2];rfl
def Pd (c:List Mg) (k j:Nat):Prop:=∃a,a<k/\a<c.length/\(mi c a).2.1=1/\1<(ir c (mi c a).1).length/\(mi c j).1∈ir c (mi c a).1
structure Dsp (c:List Mg) (k:Nat) (o:List Int):Prop where
 lo:o.length=c.length
 y:∀j<c.length,Pd c k j->o.getD j 0=5
 n:∀j<c.length,¬Pd c k j->o.getD j 0=mo c j
theorem Dsp.stt (hs:SI c) (hk:wQ c) {k:Nat} {o:List Int} (h:Dsp c k o):Stt c o:=by
 have hp:∀j<c.length,Pd c k j->(fQ c (mi c j).1).isSome=true:=fun j hj ⟨a,_,ha,h1,_,h2⟩=>by
  rw [(jf hs hk ⟨mi c a,cK ha,rfl,h1⟩).1 h2];rfl
 refine ⟨h.lo,fun j hj=>?_,fun j hj=>?_⟩
 ·by_cases hP : Pd c k j
  ·rw [h.y j hj hP];exact ⟨fun _=>hp j hj hP,fun _=>.inr rfl⟩
  ·rw [h.n j hj hP]
   cases hv:fQ c (mi c j).1 with
   |some t=>rw [Sv hs hk hv];simp
   |none =>
    have h4:=acH hv
    refine ⟨fun hh=>?_,fun hh=>by cases hh⟩
    rcases hh with hh|hh
    ·exact absurd hh h4
    ·exfalso; unfold mo at hh; split at hh
     ·omega
     ·split at hh
      ·split at hh<;>omega
      ·omega
 ·by_cases hP : Pd c k j
  ·rw [h.y j hj hP];exact ⟨fun _=>Sw (hp j hj hP),fun _=>by omega⟩
  ·rw [h.n j hj hP];exact acI hs hk j
theorem aiC (hs:SI c) (hl:c.length<=1000) {i:Nat} {w:List ByteArray} (hw:∀y∈w,y∈ids c) (hwl:w.length<=1000) {o:List Int} (ho:o.length=c.length) :
  ∃o':List Int,iter (fun a=>ai (g92_9 a)) (c,c.length,(i:Int),(ixs c w).length,(0:Int),o,ixs c w,())=some (c,c.length,(i:Int),o',())/\o'.length=c.length/\(∀j<c.length,1<w.length->(mi c j).1∈w->o'.getD j 0=5)/\∀j<c.length,¬(1<w.length/\(mi c j).1∈w)->o'.getD j 0=o.getD j 0:=by
 rw [j7]
 by_cases h1:1<w.length
 ·obtain ⟨r, h2, o', rfl, h3, h4, h5⟩ := dI (step := fun a => ai (g92_9 a)) w.length (fun k x => ∃ o', x = (c, c.length, (i : Int), w.length, (k : Int), o', ixs c w, ()) ∧ o'.length = c.length ∧ (∀ j < c.length, (mi c j).1 ∈ w.take k → o'.getD j 0 = 5) ∧ ∀ j < c.length, ¬ (mi c j).1 ∈ w.take k → o'.getD j 0 = o.getD j 0)
   (fun r=>∃o',r=(c,c.length,(i:Int),o',())/\o'.length=c.length/\(∀j<c.length,(mi c j).1∈w->o'.getD j 0=5)/\∀j<c.length,¬(mi c j).1∈w->o'.getD j 0=o.getD j 0) (by
   rintro k _ hk ⟨o1,rfl,q1,q2,q3⟩
   have hwk:w.getD k (bs [])∈w:=K1 hk
   obtain ⟨a,ha,hea⟩:=Bz (hw _ hwk)
   have e1:(ixs c w).getD k 0=(a:Int):=by
    unfold ixs
    rw [List.getD_eq_getElem?_getD,List.getElem?_map,List.getElem?_eq_getElem hk]
    have:w[k]=(mi c a).1:=by rw [hea,List.getD_eq_getElem?_getD,List.getElem?_eq_getElem hk];rfl
    simp only [Option.map_some,Option.getD_some]
    rw [this,vC hs ha]
   have i1:bT (k:Int) ((w.length:Nat):Int)=true:=aP (by omega) (by omega)
   have ia:bT (a:Int) ((c.length:Nat):Int)=true:=aP (by omega) (by omega)
   have r1:dc .i64 ((k:Int)+1)=true:=aD (by omega) (by omega)
   have d1:decide (k<(ixs c w).length)=true:=decide_eq_true (by rw [j7];exact hk)
   have d2:decide (a<o1.length)=true:=decide_eq_true (by omega)
   have Ts:w.take (k+1)=w.take k++[w.getD k (bs [])]:=by
    rw [List.take_succ_eq_append_getElem hk,List.getD_eq_getElem?_getD,List.getElem?_eq_getElem hk];rfl
   simp only [g92_9,aj,aJ,aS,aI,aa,Int.toNat_natCast,Nat.zero_add,e1,i1,ia,r1,d1,d2,af,aK]
   rw [if_pos (by omega),if_pos (by omega)]
   refine ⟨_,rfl,o1.set a 5,rfl,by simp [q1],fun j hj hm=>?_,fun j hj hm=>?_⟩
   ·rw [bW (by omega)]
    split
    ·rfl
    ·rename_i haj
     rw [Ts,List.mem_append,List.mem_singleton] at hm
     rcases hm with hm|hm
     ·exact q2 j hj hm
     ·exact absurd (IK hs ha hj (by rw [hea,hm])) haj
   ·rw [Ts, List.mem_append, List.mem_singleton] at hm
    rw [bW (by omega),if_neg fun e=>hm (.inr (by rw [<-e,hea]))]
    exact q3 j hj fun h=>hm (.inl h)) (by
   rintro _ ⟨o1,rfl,q1,q2,q3⟩
   simp only [g92_9,aj,aa,aK]
   rw [if_neg (by omega)]
   rw [List.take_length] at q2 q3
   exact ⟨_,rfl,o1,rfl,q1,q2,q3⟩) (x:=(c,c.length,(i:Int),w.length,(0:Int),o,ixs c w,())) ⟨o,rfl,ho,fun j hj h=>by simp at h,fun _ _ _=>rfl⟩
  exact ⟨o',h2,h3,fun j hj _ hm=>h4 j hj hm,fun j hj hm=>h5 j hj fun h=>hm ⟨h1,h⟩⟩
 ·refine ⟨o, jt ?_, ho, fun j _ hh => absurd hh h1, fun _ _ _ => rfl⟩
  simp only [g92_9,aj,aJ,aS,aI,aa,aK]
  by_cases h0:(0:Int)<((w.length:Nat):Int)
  ·rw [if_pos h0,if_neg (by omega)]
  ·rw [if_neg h0]
theorem aiD (hs:SI c) (hk:wQ c) (hl:c.length<=1000) {o:List Int} (h:Dsp c 0 o) :
  ∃o':List Int,iter (fun a=>ai (g92_8 a)) (c,c.length,(0:Int),o,())=some (c.length,o',())/\Dsp c c.length o':=by
 obtain ⟨r, h1, o', rfl, h2⟩ := dI (step := fun a => ai (g92_8 a)) c.length (fun k x => ∃ o', x = (c, c.length, (k : Int), o', ()) ∧ Dsp c k o') (fun r => ∃ o', r = (c.length, o', ()) ∧ Dsp c c.length o') (by
  rintro i _ hi ⟨o1,rfl,q⟩
  have wT:c.getD i (bs [],(0:Int),bs [],bs [],(0:Int))=mi c i:=rfl
  have ii:bT (i:Int) ((c.length:Nat):Int)=true:=aP (by omega) (by omega)
  have r1:dc .i64 ((i:Int)+1)=true:=aD (by omega) (by omega)
  simp only [g92_8,aj,aJ,aI,aA,bn,aa,Int.toNat_natCast,wT,ii,af,aK,aZ,bx]
  rw [if_pos (by omega)]
  by_cases c1:(mi c i).2.1=1
  ·have ht : Tk c (mi c i).1 := ⟨mi c i, cK hi, rfl, c1⟩
   have Gg:(ir c (mi c i).1).Perm (aY c (c.length+1) (mi c i).1):=kA
   have hvl:(ir c (mi c i).1).length<=c.length:=gG hs (ht.top hs) ht.ids .zero
   rw [if_pos c1,ag (kH94 hs hk hl (q.stt hs hk) hi ht rfl)]
   simp only
   obtain ⟨o2,e,p1,p2,p3⟩:=aiC hs hl (i:=i) (w:=aY c (c.length+1) (mi c i).1) (fun y hy=>by
    have:=tJ hs hk ht (Gg.mem_iff.2 hy)
    exact bF.1 this) (by rw [<-Gg.length_eq];omega) q.lo
   rw [ag e]
   simp only [aI,aa,r1,af]
   refine ⟨_,rfl,o2,rfl,p1,fun j hj hP=>?_,fun j hj hP=>?_⟩
   ·by_cases hh : 1 < (aY c (c.length + 1) (mi c i).1).length ∧ (mi c j).1 ∈ aY c (c.length + 1) (mi c i).1
    ·exact p2 j hj hh.1 hh.2
    ·rw [p3 j hj hh]
     obtain ⟨a,ha,hac,hb⟩:=hP
     by_cases e:a=i
     ·subst e
      exact absurd ⟨by rw [<-Gg.length_eq];exact hb.2.1,Gg.mem_iff.1 hb.2.2⟩ hh
     ·exact q.y j hj ⟨a,by omega,hac,hb⟩
   ·have hh : ¬ (1 < (aY c (c.length + 1) (mi c i).1).length ∧ (mi c j).1 ∈ aY c (c.length + 1) (mi c i).1) := fun hh => hP ⟨i, by omega, hi, c1, by rw [Gg.length_eq]; exact hh.1, Gg.mem_iff.2 hh.2⟩
    rw [p3 j hj hh]
    exact q.n j hj fun ⟨a,ha,hb⟩=>hP ⟨a,by omega,hb⟩
  ·rw [if_neg c1, r1, af]
   refine ⟨_,rfl,o1,rfl,q.lo,fun j hj hP=>?_,fun j hj hP=>q.n j hj fun ⟨a,ha,hb⟩=>hP ⟨a,by omega,hb⟩⟩
   obtain ⟨a,ha,hac,hb⟩:=hP
   by_cases e:a=i
   ·subst e;exact absurd hb.1 c1
   ·exact q.y j hj ⟨a,by omega,hac,hb⟩) (by
  rintro _ ⟨o1,rfl,q⟩
  simp only [g92_8,aj,aa,aK]
  rw [if_neg (by omega)]
  exact ⟨_,rfl,o1,rfl,q⟩) (x:=(c,c.length,(0:Int),o,())) ⟨o,rfl,h⟩
 exact ⟨o',h1,h2⟩
theorem k92 (hs:SI c) (hk:wQ c) (hl:c.length<=1000):∃o:List Int,ai (F92 c)=some (o,())/\Stt c o/\∀j<c.length,o.getD j 0=W9 c j:=by
 obtain ⟨o0,e0,a1,a2⟩:=ais hl
 obtain ⟨o1,e1,b1,b2⟩:=aiu hs hl a1 a2
 have hS:BA c o1 (List.replicate c.length false):=⟨b1,by simp,fun i hi=>by rw [b2 i hi];split<;>simp,(fun i hi hh=>by
  rw [b2 i hi] at hh
  split at hh
  ·rename_i h
   exact zH.2 ⟨_,_,(Gc hs (cK hi) h.1).1 h.2,.refl _⟩
  ·cases hh),(fun i hi hh=>by rw [IJ] at hh;cases hh)⟩
 have hC:W8 c 0 o1 (List.replicate c.length false):=fun i hi=>⟨fun p y d hy hp hd=>by
  obtain rfl:d=0:=by omega
  rcases eS hp with ⟨_,e⟩|⟨_,_,h,_⟩
  ·have qp := qh hy
   rw [<-e] at qp hy
   obtain ⟨h2,h3⟩:=Dl hs hi qp
   rw [b2 i hi,if_pos ⟨h2,(Gc hs (cK hi) h2).2 (by rw [h3];exact hy)⟩]
  ·omega,fun t d ht hp hd=>by omega⟩
 obtain ⟨o2,s2,e2,c1,c2⟩:=aiy hs hl hS hC
 obtain ⟨o3,e3,d1,d2⟩:=aiA hs hk hl c1 c2
 obtain ⟨o4,e4,f1⟩:=aiD hs hk hl (o:=o3) ⟨d1,fun j hj ⟨a,ha,_⟩=>by omega,fun j hj _=>d2 j hj⟩
 have hib:need (bT ((c.length:Nat):Int) ((bp:Nat):Int))=fun (x:Option (List Int×Unit))=>x:=by
  funext x;exact mR (by omega) (by omega)
 refine ⟨o4,?_,f1.stt hs hk,fun j hj=>?_⟩
 ·unfold F92
  simp only [aJ,aA,bn,Int.toNat_natCast]
  rw [mR (by omega) (by omega),ag e0]
  simp only
  rw [ag e1]
  simp only
  rw [mR (by omega) (by omega),ag e2]
  simp only
  rw [ag e3]
  simp only
  rw [ag e4]
  simp only [aa,List.drop_zero]
  rw [List.take_of_length_le (by rw [f1.lo];exact Nat.le_refl _)]
 ·unfold W9
  cases hv:fQ c (mi c j).1 with
  |none =>
   simp only
   refine f1.n j hj fun ⟨a,_,ha,h1,_,h2⟩=>?_
   rw [(jf hs hk ⟨mi c a,cK ha,rfl,h1⟩).1 h2] at hv;cases hv
  |some t =>
   simp only
   have ht:=((dn hs hk).1 (eX.1 hv).2).1
   obtain ⟨a,ha,rfl⟩:=Bz ht.ids
   have I6:(mi c a).2.1=1:=by
    obtain ⟨m,hm,e,h1⟩:=ht
    rw [hs.inj (cK ha) hm e.symm];exact h1
   by_cases h1:1<(ir c (mi c a).1).length
   ·rw [if_pos h1];exact f1.y j hj ⟨a,ha,ha,I6,h1,(jf hs hk ht).2 hv⟩
   ·rw [if_neg h1, f1.n j hj fun ⟨b, _, hb, iP, fF, AB⟩ => ?_, Sv hs hk hv]
    have:=(jf hs hk ⟨mi c b,cK hb,rfl,iP⟩).1 AB
    rw [hv] at this
    rw [<-Option.some.inj this] at fF
    exact h1 fF
def fR (c:List Mg) (a v:ByteArray):Int:=if a=bs [] then fT c v else fA c a v
structure Can (b:List Bool) (Z:Zs):Prop where
 lo:b.length=120001
 ok:∀x<120001,b.getD x false=true↔tN Z ((x:Int) - 60000)
theorem aiE {a:ByteArray} {o5:List Int} {v7 v10:Int} {vz:Nat} {n:Int} {b0 b1:List Bool} {b2:List Int} (h0:b0.length=120001) (h1:b1.length=120001) (hb:∀x<120001,b0.getD x false=true->0<=(x:Int)+n/\(x:Int)+n<120001) :
  ∃rG:List Bool,iter (fun x=>ai (g70_2 x)) (c,a,o5,120001,v7,120001,vz,v10,n,(0:Int),b0,b1,b2,())=some (c,a,o5,120001,v7,120001,vz,v10,b0,rG,b2,())/\rG.length=120001/\∀y<120001,rG.getD y false=true↔b1.getD y false=true\/∃x<120001,b0.getD x false=true/\(y:Int)=x+n:=by
 obtain ⟨r, e, rG, rfl, q1, q2⟩ := dI (step := fun x => ai (g70_2 x)) 120001 (fun k x => ∃ rG, x = (c, a, o5, 120001, v7, 120001, vz, v10, n, (k : Int), b0, rG, b2, ()) ∧ rG.length = 120001 ∧ ∀ y < 120001, rG.getD y false = true ↔ b1.getD y false = true ∨ ∃ x < k, b0.getD x false = true ∧ (y : Int) = x + n)
  (fun r=>∃rG,r=(c,a,o5,120001,v7,120001,vz,v10,b0,rG,b2,())/\rG.length=120001/\∀y<120001,rG.getD y false=true↔b1.getD y false=true\/∃x<120001,b0.getD x false=true/\(y:Int)=x+n) (by
  rintro k _ hk ⟨b',rfl,p1,p2⟩
  have i1:bT (k:Int) ((120001:Nat):Int)=true:=aP (by omega) (by omega)
  have r1:dc .i64 ((k:Int)+1)=true:=aD (by omega) (by omega)
  have d1:decide (k<b0.length)=true:=decide_eq_true (by omega)
  simp only [g70_2,aj,aJ,aS,aI,aa,Int.toNat_natCast,Nat.zero_add,i1,d1,af,aK]
  rw [if_pos (by omega)]
  cases hc:b0.getD k false with
  |true =>
   obtain ⟨g1,g2⟩:=hb k hk hc
   have i2:bT ((k:Int)+n) ((120001:Nat):Int)=true:=aP g1 (by omega)
   have r2:dc .i64 ((k:Int)+n)=true:=aD (by omega) (by omega)
   have d2:decide (Int.toNat ((k:Int)+n)<b'.length)=true:=decide_eq_true (by omega)
   rw [bO]
   simp only [r1,r2,i2,d2,af]
   refine ⟨_,rfl,b'.set (Int.toNat ((k:Int)+n)) true,rfl,by simp [p1],fun y hy=>?_⟩
   rw [bW (by omega)]
   by_cases ey:Int.toNat ((k:Int)+n)=y
   ·rw [if_pos ey]
    exact ⟨fun _=>.inr ⟨k,by omega,hc,by omega⟩,fun _=>rfl⟩
   ·rw [if_neg ey, p2 y hy]
    refine or_congr_right ⟨fun ⟨x,hx,h⟩=>⟨x,by omega,h⟩,fun ⟨x,hx,h,he⟩=>⟨x,?_,h,he⟩⟩
    by_cases exk:x=k
    ·subst exk;omega
    ·omega
  |false =>
   rw [aO,r1,af]
   refine ⟨_,rfl,b',rfl,p1,fun y hy=>?_⟩
   rw [p2 y hy]
   refine or_congr_right ⟨fun ⟨x,hx,h⟩=>⟨x,by omega,h⟩,fun ⟨x,hx,h,he⟩=>⟨x,?_,h,he⟩⟩
   by_cases exk:x=k
   ·subst exk;rw [hc] at h;cases h
   ·omega) (by
  rintro _ ⟨b',rfl,p1,p2⟩
  simp only [g70_2,aj,aa,aK]
  rw [if_neg (by omega)]
  exact ⟨_,rfl,b',rfl,p1,p2⟩) (x:=(c,a,o5,120001,v7,120001,vz,v10,n,(0:Int),b0,b1,b2,())) ⟨b1,rfl,h1,fun y _=>⟨.inl,fun h=>h.elim id fun ⟨x,hx,_⟩=>by omega⟩⟩
 exact ⟨rG,e,q1,q2⟩
theorem aiF (hs : SI c) (hl : c.length ≤ 1000) {a : ByteArray} {o5 : List Int} {v7 : Int} {b0 : List Bool} (h0 : b0.length = 120001) {w : List ByteArray} (hw : ∀ y ∈ w, y ∈ ids c) (hwl : w.length ≤ 1000)
  (hb:∀x<120001,b0.getD x false=true->1000<=(x:Int)/\(x:Int)<119001) (hf:∀y∈w,-1000<=fR c a y/\fR c a y<=1000) :
  ∃rG:List Bool,iter (fun x=>ai (g70_1 x)) (c,a,o5,120001,v7,120001,(ixs c w).length,(0:Int),b0,List.replicate 120001 false,ixs c w,())=some (c,a,o5,v7,120001,rG,())/\rG.length=120001/\∀y<120001,rG.getD y false=true↔∃v∈w,∃x<120001,b0.getD x false=true/\(y:Int)=x+fR c a v:=by
 rw [j7]
 obtain ⟨r, e, rG, rfl, q1, q2⟩ := dI (step := fun x => ai (g70_1 x)) w.length (fun k x => ∃ rG, x = (c, a, o5, 120001, v7, 120001, w.length, (k : Int), b0, rG, ixs c w, ()) ∧ rG.length = 120001 ∧ ∀ y < 120001, rG.getD y false = true ↔ ∃ v ∈ w.take k, ∃ x < 120001, b0.getD x false = true ∧ (y : Int) = x + fR c a v)
  (fun r=>∃rG,r=(c,a,o5,v7,120001,rG,())/\rG.length=120001/\∀y<120001,rG.getD y false=true↔∃v∈w,∃x<120001,b0.getD x false=true/\(y:Int)=x+fR c a v) (by
  rintro k _ hk ⟨b',rfl,p1,p2⟩
  have hwk:w.getD k (bs [])∈w:=K1 hk
  obtain ⟨j,hj,hej⟩:=Bz (hw _ hwk)
  have e1:(ixs c w).getD k 0=(j:Int):=by
   unfold ixs
   rw [List.getD_eq_getElem?_getD,List.getElem?_map,List.getElem?_eq_getElem hk]
   have:w[k]=(mi c j).1:=by rw [hej,List.getD_eq_getElem?_getD,List.getElem?_eq_getElem hk];rfl
   simp only [Option.map_some,Option.getD_some]
   rw [this,vC hs hj]
  have hdj:c.getD j (bs [],(0:Int),bs [],bs [],(0:Int))=mi c j:=rfl
  have i1:bT (k:Int) ((w.length:Nat):Int)=true:=aP (by omega) (by omega)
  have ij:bT (j:Int) ((c.length:Nat):Int)=true:=aP (by omega) (by omega)
  have r1:dc .i64 ((k:Int)+1)=true:=aD (by omega) (by omega)
  have d1:decide (k<(ixs c w).length)=true:=decide_eq_true (by rw [j7];exact hk)
  have Ts:w.take (k+1)=w.take k++[w.getD k (bs [])]:=by
   rw [List.take_succ_eq_append_getElem hk,List.getD_eq_getElem?_getD,List.getElem?_eq_getElem hk];rfl
  have hfk:=hf _ hwk
  have acK:msg c (w.getD k (bs []))=mi c j:=by rw [<-hej];exact eo hs (cK hj)
  obtain ⟨b2',e2,s1,s2⟩:=aiE (c:=c) (a:=a) (o5:=o5) (v7:=v7) (v10:=(k:Int)) (vz:=w.length) (n:=fR c a (w.getD k (bs []))) (b0:=b0) (b1:=b') (b2:=ixs c w) h0 p1 (fun x hx hh=>by have:=hb x hx hh;omega)
  have hout:∃rG:List Bool,(c,a,o5,120001,v7,120001,w.length,(k:Int)+1,b0,b2',ixs c w,())=(c,a,o5,120001,v7,120001,w.length,((k+1:Nat):Int),b0,rG,ixs c w,())/\rG.length=120001/\∀y<120001,rG.getD y false=true↔∃v∈w.take (k+1),∃x<120001,b0.getD x false=true/\(y:Int)=x+fR c a v:=by
   refine ⟨b2',rfl,s1,fun y hy=>?_⟩
   rw [s2 y hy,p2 y hy,Ts]
   simp only [List.mem_append,List.mem_singleton]
   constructor
   ·rintro (⟨v, hv, h⟩ | h)
    ·exact ⟨v,.inl hv,h⟩
    ·exact ⟨_,.inr rfl,h⟩
   ·rintro ⟨v, hv | rfl, h⟩
    ·exact .inl ⟨v,hv,h⟩
    ·exact .inr h
  simp only [g70_1,aj,aJ,aS,aI,Hv,aA,bn,aa,Int.toNat_natCast,Nat.zero_add,e1,hdj,i1,ij,d1,af,aK,seq_eq]
  rw [if_pos (by omega)]
  by_cases c1:a=bs []
  ·have nt : fR c a (w.getD k (bs [])) = (mi c j).2.2.2.2 := by unfold fR; rw [if_pos c1]; unfold fT; rw [acK]
   rw [nt] at e2
   simp only [if_pos c1,aF,ND]
   rw [ag e2]
   simp only [r1,af]
   exact ⟨_,rfl,hout⟩
  ·by_cases c2 : (mi c j).2.2.2.1 = a
   ·have nt : fR c a (w.getD k (bs [])) = (mi c j).2.2.2.2 := by unfold fR; rw [if_neg c1]; unfold fA; rw [acK, if_pos c2]
    rw [nt] at e2
    simp only [if_neg c1,if_pos c2,aF,ND]
    rw [ag e2]
    simp only [r1,af]
    exact ⟨_,rfl,hout⟩
   ·have nt : fR c a (w.getD k (bs [])) = 0 := by unfold fR; rw [if_neg c1]; unfold fA; rw [acK, if_neg c2]
    rw [nt] at e2
    simp only [if_neg c1,if_neg c2,aF,ND]
    rw [ag e2]
    simp only [r1,af]
    exact ⟨_,rfl,hout⟩) (by
  rintro _ ⟨b',rfl,p1,p2⟩
  simp only [g70_1,aj,aa,aK]
  rw [if_neg (by omega)]
  rw [List.take_length] at p2
  exact ⟨_,rfl,b',rfl,p1,p2⟩) (x:=(c,a,o5,120001,v7,120001,w.length,(0:Int),b0,List.replicate 120001 false,ixs c w,())) ⟨_,rfl,List.length_replicate,fun y _=>by rw [IJ];simp⟩
 exact ⟨rG,e,q1,q2⟩
theorem aiH (hs:SI c) (hk:wQ c) (hl:c.length<=60) {a:ByteArray} {o:List Int} (ho:Stt c o) (hB:SS c (fR c a)) {b0:List Bool} (h0:Can b0 cC) :
  ∃b:List Bool,iter (fun x=>ai (g70_0 x)) (c,a,o,120001,(0:Int),b0,())=some (120001,b,())/\Can b (iD c (fR c a) (qo c) cC):=by
 have hgd:∀k,iD c (fR c a) (((c.take (k+1)).filter fun m=>decide (m.2.1=1)).map (·.1)) cC=if k<c.length/\(mi c k).2.1=1 then nj (fR c a) (iD c (fR c a) (((c.take k).filter fun m=>decide (m.2.1=1)).map (·.1)) cC) (ir c (mi c k).1) else iD c (fR c a) (((c.take k).filter fun m=>decide (m.2.1=1)).map (·.1)) cC:=fun k=>by
  by_cases hkc:k<c.length
  ·rw [List.take_succ_eq_append_getElem hkc, List.filter_append, List.map_append, ← IM hkc]
   by_cases h1:(mi c k).2.1=1
   ·rw [if_pos ⟨hkc, h1⟩, List.filter_cons_of_pos (by simpa using h1)]
    unfold iD
    rw [List.foldl_append]
    rfl
   ·rw [if_neg fun h=>h1 h.2,List.filter_cons_of_neg (by simpa using h1),List.filter_nil,List.map_nil,List.append_nil]
  ·rw [if_neg fun h=>hkc h.1,List.take_of_length_le (by omega),List.take_of_length_le (by omega)]
 obtain ⟨r, e, b, rfl, q1⟩ := dI (step := fun x => ai (g70_0 x)) c.length (fun k x => ∃ b, x = (c, a, o, 120001, (k : Int), b, ()) ∧ Can b (iD c (fR c a) (((c.take k).filter fun m => decide (m.2.1 = 1)).map (·.1)) cC) ∧ BZ (1000 * (k : Int)) (iD c (fR c a) (((c.take k).filter fun m => decide (m.2.1 = 1)).map (·.1)) cC))
  (fun r=>∃b,r=(120001,b,())/\Can b (iD c (fR c a) (qo c) cC)) (by
  rintro k _ hkc ⟨b,rfl,p1,p2⟩
  have hdk:c.getD k (bs [],(0:Int),bs [],bs [],(0:Int))=mi c k:=rfl
  have i1:bT (k:Int) ((c.length:Nat):Int)=true:=aP (by omega) (by omega)
  have r1:dc .i64 ((k:Int)+1)=true:=aD (by omega) (by omega)
  have e12:Int.toNat ((120001:Nat):Int)=120001:=rfl
  rw [hgd k]
  generalize iD c (fR c a) (((c.take k).filter fun m=>decide (m.2.1=1)).map (·.1)) cC=Z at p1 p2 ⊢
  simp only [g70_0,aj,aJ,aS,aI,aA,bn,aa,Int.toNat_natCast,hdk,i1,af,aK,aZ,bx]
  rw [if_pos (by omega)]
  by_cases c1:(mi c k).2.1=1
  ·rw [if_pos c1, if_pos ⟨hkc, c1⟩, mR (by omega) (by omega)]
   have ht:Tk c (mi c k).1:=⟨mi c k,cK hkc,rfl,c1⟩
   have Gg:(ir c (mi c k).1).Perm (aY c (c.length+1) (mi c k).1):=kA
   have hvl:(ir c (mi c k).1).length<=c.length:=gG hs (ht.top hs) ht.ids .zero
   have hM:oy c (mi c k).1=true:=bF.2 ht.ids
   have hmk:(msg c (mi c k).1).2.1=1:=by rw [eo hs (cK hkc)];exact c1
   rw [ag (K2 hs hk (by omega) ho hkc ht rfl)]
   simp only
   obtain ⟨b1, e1, s1, s2⟩ := aiF hs (by omega) (a := a) (o5 := o) (v7 := (k : Int)) p1.lo (w := aY c (c.length + 1) (mi c k).1) (fun y hy => bF.1 (tJ hs hk ht (Gg.mem_iff.2 hy))) (by rw [← Gg.length_eq]; omega)
    (fun x hx hh=>by have:=p2 _ ((p1.ok x hx).1 hh);omega) (fun y hy=>hB _ _ hM hmk (Gg.mem_iff.2 hy))
   rw [ag e1]
   simp only [r1,af]
   refine ⟨_,rfl,b1,rfl,⟨s1,fun y hy=>?_⟩,?_⟩
   ·rw [s2 y hy, nk.2]
    constructor
    ·rintro ⟨v, hv, x, hx, hh, he⟩
     exact ⟨v,Gg.mem_iff.2 hv,(x:Int) - 60000,(p1.ok x hx).1 hh,by omega⟩
    ·rintro ⟨v, hv, x, hx, he⟩
     have hb:=p2 x hx
     refine ⟨v,Gg.mem_iff.1 hv,Int.toNat (x+60000),by omega,?_,by omega⟩
     rw [p1.ok _ (by omega),show ((Int.toNat (x+60000):Nat):Int) - 60000=x by omega]
     exact hx
   ·have := qi (f := fR c a) (vs := ir c (mi c k).1) p2 fun v hv => hB _ v hM hmk hv
    intro z hz
    have:=this z hz
    omega
  ·rw [if_neg c1, if_neg fun h => c1 h.2, r1, af]
   exact ⟨_,rfl,b,rfl,p1,fun z hz=>by have:=p2 z hz;omega⟩) (by
  rintro _ ⟨b,rfl,p1,p2⟩
  simp only [g70_0,aj,aa,aK]
  rw [if_neg (by omega)]
  rw [List.take_length] at p1
  exact ⟨_,rfl,b,rfl,p1⟩) (x:=(c,a,o,120001,(0:Int),b0,())) ⟨b0,rfl,by simpa [iD] using h0,fun z hz=>by
   have:z=0:=(cQ.2 z).1 (by simpa [iD] using hz)
   rw [this];simp⟩
 exact ⟨b,e,q1⟩
theorem aiI {b:List Bool} {Z:Zs} (h:Can b Z) (hB:BZ 60000 Z):∃l:List Int,iter (fun x=>ai (g70_3 x)) (120001,(0:Nat),(0:Int),b,[],())=some (l.length,l,())/\l.Pairwise (· < ·)/\∀z,z∈l↔tN Z z:=by
 have hlo:=h.lo
 obtain ⟨r, e, l, rfl, q1, q2⟩ := dI (step := fun x => ai (g70_3 x)) 120001 (fun k x => ∃ l : List Int, x = (120001, l.length, (k : Int), b, l, ()) ∧ l.length ≤ k ∧ l.Pairwise (· < ·) ∧ ∀ z, z ∈ l ↔ ∃ x < k, b.getD x false = true ∧ z = (x : Int) - 60000)
  (fun r=>∃l:List Int,r=(l.length,l,())/\l.Pairwise (· < ·)/\∀z,z∈l↔tN Z z) (by
  rintro k _ hk ⟨l,rfl,p0,p1,p2⟩
  have i1:bT (k:Int) ((120001:Nat):Int)=true:=aP (by omega) (by omega)
  have r1:dc .i64 ((k:Int)+1)=true:=aD (by omega) (by omega)
  have r2:dc .i64 ((k:Int) - 60000)=true:=aD (by omega) (by omega)
  have d1:decide (k<b.length)=true:=decide_eq_true (by omega)
  have d2:decide (l.length+1<bp)=true:=decide_eq_true (by rw [cO];omega)
  simp only [g70_3,aj,aJ,aS,aI,aa,Int.toNat_natCast,Nat.zero_add,i1,d1,af,aK]
  rw [if_pos (by omega)]
  cases hc:b.getD k false with
  |true =>
   rw [bO]
   simp only [r1,r2,List.drop_zero,List.take_succ_cons,List.take_zero,List.length_singleton,d2,af,List.take_length]
   refine ⟨_,rfl,l++[(k:Int) - 60000],by rw [List.length_append];rfl,by simp;omega,?_,fun z=>?_⟩
   ·refine List.pairwise_append.2 ⟨p1, List.pairwise_singleton .., fun x hx y hy => ?_⟩
    obtain ⟨x',hx',_,rfl⟩:=(p2 x).1 hx
    rw [List.mem_singleton] at hy
    omega
   ·rw [List.mem_append, List.mem_singleton, p2]
    constructor
    ·rintro (⟨x, hx, h⟩ | rfl)
     ·exact ⟨x,by omega,h⟩
     ·exact ⟨k,by omega,hc,rfl⟩
    ·rintro ⟨x, hx, h, rfl⟩
     by_cases exk:x=k
     ·subst exk;exact .inr rfl
     ·exact .inl ⟨x,by omega,h,rfl⟩
  |false =>
   rw [aO,r1,af]
   refine ⟨_,rfl,l,rfl,by omega,p1,fun z=>?_⟩
   rw [p2]
   refine ⟨fun ⟨x,hx,h⟩=>⟨x,by omega,h⟩,fun ⟨x,hx,h,he⟩=>⟨x,?_,h,he⟩⟩
   by_cases exk:x=k
   ·subst exk;rw [hc] at h;cases h
   ·omega) (by
  rintro _ ⟨l,rfl,p0,p1,p2⟩
  simp only [g70_3,aj,aa,aK]
  rw [if_neg (by omega)]
  refine ⟨_,rfl,l,rfl,p1,fun z=>?_⟩
  rw [p2]
  constructor
  ·rintro ⟨x,hx,hh,rfl⟩;exact (h.ok x hx).1 hh
  ·intro hz
   have hb:=hB z hz
   exact ⟨Int.toNat (z+60000),by omega,(h.ok _ (by omega)).2 (by rw [show ((Int.toNat (z+60000):Nat):Int) - 60000=z by omega];exact hz),by omega⟩) (x:=(120001,(0:Nat),(0:Int),b,[],())) ⟨[],rfl,Nat.le_refl _,.nil,fun z=>by simp⟩
 exact ⟨l,e,q1,q2⟩
theorem bndR (hs:SI c) (hc:∀m∈c,zx m=0) (a:ByteArray):SS c (fR c a):=fun t v h1 h2 h3=>by
 unfold fR
 split
 ·exact WT hs hc t v h1 h2 h3
 ·exact acv hs hc a t v h1 h2 h3
theorem k70 (hs:SI c) (hk:wQ c) (hl:c.length<=60) (hc:∀m∈c,zx m=0) (a:ByteArray):ai (F70 c a)=some (iE c (fR c a),()):=by
 obtain ⟨o,e0,ho,_⟩:=k92 hs hk (by omega)
 have hB:=bndR hs hc a
 have h0:Can ((List.replicate 120001 false).set 60000 true) cC:=⟨by rw [List.length_set,List.length_replicate],fun x hx=>by
  rw [bW (by rw [List.length_replicate];omega),IJ,cQ.2]
  by_cases e:60000=x
  ·rw [if_pos e];simp;omega
  ·rw [if_neg e];simp;omega⟩
 obtain ⟨b,e1,hb⟩:=aiH hs hk hl ho hB h0
 obtain ⟨l,e2,q1,q2⟩:=aiI hb (KV hs hl hB)
 have e3:l=iE c (fR c a):=W3 q1 Se fun z=>by
  rw [q2]
  unfold iE tN
  rw [List.mem_map]
  exact ⟨fun h=>⟨_,h,rfl⟩,fun ⟨e,he,h⟩=>by rw [<-h];exact he⟩
 unfold F70
 simp only [aA,aJ,aS,bn,Nat.zero_add]
 rw [ag e0]
 simp only
 rw [mR (by omega) (by omega),iU (aP (by omega) (by decide)),cm (by rw [List.length_replicate];decide)]
 refine Eq.trans (ag e1) ?_
 simp only
 refine Eq.trans (ag e2) ?_
 rw [e3]
 simp only [aa,List.drop_zero,List.take_length]
end
end Go.Proofs.Tryz
end
section
namespace Go.Proofs.Tryz
open Go.AM
set_option maxRecDepth 100000
set_option maxHeartbeats 2000000
theorem Dp {L:List Mg} (h:lG L):wQ (cnt L):=fun m hm=>Sd (qj h m hm)
theorem k16 {l:List Mg} (hl:l.length<=1000):∃b,ai (F16 l)=some (b,())/\(b=false->∀m∈l,SR m):=by
 have hlt:∀{s:ByteArray},¬60<s.size->Sh s:=fun h=>by unfold Sh;omega
 have hi:iter (fun a=>ai (g16_0 a)) (l,(0:Int),())=some (if ∀m∈l,¬60<m.1.size/\¬60<m.2.2.1.size/\¬60<m.2.2.2.1.size then Sum.inr () else Sum.inl ()):=by
  refine aQ l (fun k (_:Unit)=>(l,(k:Int),())) (fun _ r=>if ∀m∈r,¬60<m.1.size/\¬60<m.2.2.1.size/\¬60<m.2.2.2.1.size then Sum.inr () else Sum.inl ()) (fun _ _=>True) ?_ ?_ (s:=()) trivial
  ·intro pre x post _ hx _
   have hlen:l.length=pre.length+(post.length+1):=by rw [hx];simp
   have hd:l.getD pre.length (bs [],(0:Int),bs [],bs [],(0:Int))=x:=by rw [hx];exact aT rfl
   have i1:bT (pre.length:Int) ((l.length:Nat):Int)=true:=aP (by omega) (by omega)
   have r1:dc .i64 ((pre.length:Int)+1)=true:=aD (by omega) (by omega)
   simp only [g16_0,aj,aJ,aI,aa,Int.toNat_natCast,hd,i1,r1,af,aK]
   rw [if_pos (by omega)]
   by_cases h1:60<x.1.size
   ·right
    rw [if_pos (by omega),if_neg fun h=>(h x (List.mem_cons_self ..)).1 h1]
   ·rw [if_neg (by omega)]
    by_cases h2:60<x.2.2.1.size
    ·right
     rw [if_pos (by omega),if_neg fun h=>(h x (List.mem_cons_self ..)).2.1 h2]
    ·rw [if_neg (by omega)]
     by_cases h3:60<x.2.2.2.1.size
     ·right
      rw [if_pos (by omega),if_neg fun h=>(h x (List.mem_cons_self ..)).2.2 h3]
     ·rw [if_neg (by omega)]
      left
      refine ⟨(),rfl,trivial,?_⟩
      simp only [List.forall_mem_cons,h1,h2,h3,not_false_eq_true,and_self,true_and]
  ·intro _ _
   simp only [g16_0,aj,aK,aa]
   rw [if_neg (by omega),if_pos (fun m h=>nomatch h)]
 unfold F16
 simp only [aA,bn]
 rw [ag hi]
 by_cases hA:∀m∈l,¬60<m.1.size/\¬60<m.2.2.1.size/\¬60<m.2.2.2.1.size
 ·rw [if_pos hA]
  exact ⟨false,rfl,fun _ m hm=>⟨hlt (hA m hm).1,hlt (hA m hm).2.1,hlt (hA m hm).2.2⟩⟩
 ·rw [if_neg hA]
  exact ⟨true,rfl,fun h=>nomatch h⟩
end Go.Proofs.Tryz
end
section
namespace Go.Proofs.Tryz
open Go.AM
set_option maxRecDepth 100000
set_option maxHeartbeats 2000000
def Y6 (x : ByteArray) : Nat → List Mg → Option Nat
 |_,[]=>none
 |k,m::r=>if m.1=x then some k else Y6 x (k+1) r
theorem Gi (x : ByteArray) : ∀ (r : List Mg) (k : Nat), (∃ i, i < r.length ∧ (mi r i).1 = x ∧ Y6 x k r = some (k + i)) ∨ ((∀ m ∈ r, m.1 ≠ x) ∧ Y6 x k r = none)
 |[],k=>.inr ⟨by simp,rfl⟩
 |m::r,k=>by
  unfold Y6
  by_cases h:m.1=x
  ·rw [if_pos h];exact .inl ⟨0,by simp,h,rfl⟩
  ·rw [if_neg h]
   rcases Gi x r (k+1) with ⟨i,h1,h2,h3⟩|⟨h1,h2⟩
   ·exact .inl ⟨i+1,by simp only [List.length_cons];omega,h2,by rw [h3];congr 1;omega⟩
   ·exact .inr ⟨List.forall_mem_cons.2 ⟨h,h1⟩,h2⟩
section
variable {c:List Mg}
theorem k93 (hl:c.length<=1000) (x:ByteArray):(∃i,i<c.length/\(mi c i).1=x/\ai (F93 c x)=some ((i:Int),0,()))\/(oy c x=false/\ai (F93 c x)=some (0,5,())):=by
 have hi:iter (fun a=>ai (g93_0 a)) (c,x,(0:Int),())=some (match Y6 x 0 c with|some k=>Sum.inl (((k:Nat):Int),(0:Int),())|none=>Sum.inr ()):=by
  refine aQ c (fun k (_:Nat)=>(c,x,(k:Int),())) (fun k r=>match Y6 x k r with|some k=>Sum.inl (((k:Nat):Int),(0:Int),())|none=>Sum.inr ()) (fun pre k=>k=pre.length) ?_ ?_ (s:=0) rfl
  ·rintro pre m post k hx rfl
   have hlen:c.length=pre.length+(post.length+1):=by rw [hx];simp
   have hd:c.getD pre.length (bs [],(0:Int),bs [],bs [],(0:Int))=m:=by rw [hx];exact aT rfl
   have i1:bT (pre.length:Int) ((c.length:Nat):Int)=true:=aP (by omega) (by omega)
   have r1:dc .i64 ((pre.length:Int)+1)=true:=aD (by omega) (by omega)
   simp only [g93_0,aj,aJ,aI,aa,Int.toNat_natCast,hd,i1,r1,af,aK,seq_eq]
   rw [if_pos (by omega)]
   by_cases h:m.1=x
   ·right
    rw [if_pos h];simp only [Y6,if_pos h]
   ·left
    refine ⟨pre.length+1,?_,by simp,?_⟩
    ·rw [if_neg h];rfl
    ·simp only [Y6,if_neg h]
  ·rintro k rfl
   simp only [g93_0,aj,aK,aa]
   rw [if_neg (by omega)]
   rfl
 unfold F93
 simp only [aA,bn]
 rcases Gi x c 0 with ⟨i,h1,h2,h3⟩|⟨h1,h2⟩
 ·refine .inl ⟨i, h1, h2, ?_⟩
  rw [ag hi,h3,Nat.zero_add]
  rfl
 ·refine .inr ⟨?_, ?_⟩
  ·rw [Bool.eq_false_iff]
   intro h
   obtain ⟨m,hm,e⟩:=List.mem_map.1 (bF.1 h)
   exact h1 m hm e
  ·rw [ag hi, h2]
   rfl
theorem IP (hs:SI c) (hk:wQ c) {i:Nat} (hi:i<c.length) (h3:(mi c i).2.1≠3):dU c (mi c i).1=(W9 c i,0):=by
 have hM:oy c (mi c i).1=true:=bF.2 (List.mem_map.2 ⟨_,cK hi,rfl⟩)
 unfold dU W9
 rw [if_pos hM,eo hs (cK hi),if_neg h3]
 cases hst:mZ c (mi c i).1 with
 |none =>
  have hv:fQ c (mi c i).1=none:=by unfold fQ;split<;>simp [hst]
  rw [hv]
  simp only [mo,hst,Option.isSome_none]
  split<;>rfl
 |some t =>
  obtain ⟨h1,h2,h4⟩:=(dn hs hk).1 hst
  have hmem:=jf hs hk (y:=(mi c i).1) h1
  rw [h2]
  simp only [Bool.false_eq_true,if_false]
  by_cases hl:eF c (mi c i).1=[]
  ·have hv := eX.2 ⟨hl, hst⟩
   rw [hv,if_pos (tD.2 (hmem.2 hv))]
   simp only
   split<;>rfl
  ·have hv : fQ c (mi c i).1 = none := by unfold fQ; rw [if_neg hl]
   rw [hv,if_neg (fun h=>by rw [hmem.1 (tD.1 h)] at hv;cases hv)]
   simp only [mo,hst,h2,Option.isSome_some,Bool.false_eq_true,if_false,if_true,if_neg hl]
end
theorem Xa {L:List Mg} (h:lG L):ai (FH60_v1 L)=some (L.length,L,L,()):=by
 have hl:=h.len
 have d1:decide (L.length<bp)=true:=decide_eq_true (by rw [cO];omega)
 unfold FH60_v1 FH57_v1
 simp only [aA,aa,aF,aj,aO,aS,Nat.zero_add,d1,af,List.drop_zero,List.take_zero,List.nil_append]
theorem Xb {L:List Mg} (h:lG L):ai (FH62_v1 L)=some (WY (cnt L),0,L,()):=by
 have hl:=h.len
 have hs:=fe L
 have hne:=Dg hs (f:=fT (cnt L))
 have hlt:=zJ hs (gd h) (WT hs (qj h))
 have hf:fR (cnt L) (bs [])=fT (cnt L):=by funext v;unfold fR;rw [if_pos rfl]
 unfold FH62_v1 FH57_v1 WY
 simp only [aA,aa,aF,aj,aO]
 rw [ag (k71 h.s (by omega))]
 simp only
 rw [ag (k70 hs (Dp h) (gd h) (qj h) (bs [])),hf]
 generalize iE (cnt L) (fT (cnt L))=S at *
 have i2:bT (0:Int) ((S.length:Nat):Int)=true:=aP (by omega) (by omega)
 have i3:bT (((S.length:Nat):Int) - 1) ((S.length:Nat):Int)=true:=aP (by omega) (by omega)
 have r2:dc .i64 (((S.length:Nat):Int) - 1)=true:=aD (by omega) (by omega)
 have e1:Int.toNat (((S.length:Nat):Int) - 1)=S.length - 1:=by omega
 simp only [aJ,aI,aa,i2,i3,r2,e1,af,KP,Int.toNat_zero]
theorem Xc {L:List Mg} (h:lG L) (x:ByteArray):ai (FH63_v1 x L)=some ((dU (cnt L) x).1,(dU (cnt L) x).2,L,()):=by
 have hl:=h.len
 have hs:=fe L
 have hk:=Dp h
 have hc:=gd h
 unfold FH63_v1 FH57_v1
 simp only [aA,aa,aF,aj,aO]
 rw [ag (k71 h.s (by omega))]
 simp only
 rcases k93 (c:=cnt L) (by omega) x with ⟨i,hi,hx,e⟩|⟨hM,e⟩
 ·rw [ag e]
  have wT:(cnt L).getD i (bs [],(0:Int),bs [],bs [],(0:Int))=mi (cnt L) i:=rfl
  have i1:bT (i:Int) (((cnt L).length:Nat):Int)=true:=aP (by omega) (by omega)
  simp only [bx,aZ,aJ,i1,af,Int.toNat_natCast,wT,if_true,if_pos,aj]
  by_cases h3:(mi (cnt L) i).2.1=3
  ·rw [if_pos h3]
   have hM:oy (cnt L) x=true:=bF.2 (List.mem_map.2 ⟨_,cK hi,hx⟩)
   unfold dU
   rw [if_pos hM,<-hx,eo hs (cK hi),if_pos h3]
   rfl
  ·rw [if_neg h3, aA]
   obtain ⟨o,e0,ho,h5⟩:=k92 hs hk (by omega)
   rw [ag e0]
   have i2:bT (i:Int) ((o.length:Nat):Int)=true:=aP (by omega) (by rw [ho.lo];omega)
   simp only [aJ,aa,i2,af,Int.toNat_natCast]
   rw [h5 i hi,<-hx,IP hs hk hi h3]
 ·rw [ag e]
  simp only [bx,aZ]
  rw [if_neg (by omega)]
  unfold dU
  rw [if_neg (by rw [hM];simp)]
end Go.Proofs.Tryz
end
section
namespace Go.Proofs.Tryz
open Go.AM
set_option maxRecDepth 100000
set_option maxHeartbeats 2000000
def SU (a:ByteArray) (A:List ByteArray):List ByteArray:=A.takeWhile fun y=>slt y a
def SV (a:ByteArray) (A:List ByteArray):List ByteArray:=A.dropWhile fun y=>slt y a
def IQ (a:ByteArray) (A:List ByteArray):List ByteArray:=if (SV a A).head?=some a then A else SU a A++a::SV a A
theorem Sx (a:ByteArray) (A:List ByteArray):SU a A++SV a A=A:=List.takeWhile_append_dropWhile
theorem aiJ (a:ByteArray) (A:List ByteArray):(SU a A).length<=A.length:=by
 have:=congrArg List.length (Sx a A)
 rw [List.length_append] at this;omega
theorem acL {a b d:ByteArray} (h:slt a b=true) (h':slt b d=true):slt a d=true:=gX (t:=.str) kS h h'
abbrev SA (A:List ByteArray):Prop:=A.Pairwise fun x y=>slt x y=true
theorem Xd {a:ByteArray} {A:List ByteArray} (h:SA A):SA (IQ a A)/\(∀x,x∈IQ a A↔x=a\/x∈A)/\(IQ a A).length<=A.length+1:=by
 have hA:=Sx a A
 have ht:∀x∈SU a A,slt x a=true:=fun x hx=>by
  have:=List.all_eq_true.1 (List.all_takeWhile (l:=A) (p:=fun y=>slt y a)) x hx
  exact this
 unfold IQ
 by_cases hh:(SV a A).head?=some a
 ·rw [if_pos hh]
  refine ⟨h,fun x=>⟨.inr,fun hx=>hx.elim (fun e=>?_) id⟩,by omega⟩
  subst e
  rw [<-hA]
  exact List.mem_append_right _ (List.mem_of_mem_head? hh)
 ·rw [if_neg hh]
  rw [<-hA] at h
  obtain ⟨h1,h2,h3⟩:=List.pairwise_append.1 h
  have hd:∀y∈SV a A,slt a y=true:=fun y hy=>by
   cases GI:SV a A with
   |nil=>rw [GI] at hy;cases hy
   |cons b r =>
    have hb:slt b a=false:=by
     have:=List.head?_dropWhile_not (fun y=>slt y a) A
     unfold SV at GI
     rw [GI] at this
     simpa using this
    have hba:slt a b=true:=by
     rcases Bool.eq_false_or_eq_true (slt a b) with h|h
     ·exact h
     ·exact absurd (by rw [GI,gb (t:=.str) kS h hb];rfl) hh
    rw [GI] at hy h2
    rcases List.mem_cons.1 hy with rfl|hy
    ·exact hba
    ·exact acL hba ((List.pairwise_cons.1 h2).1 y hy)
  refine ⟨List.pairwise_append.2 ⟨h1,List.pairwise_cons.2 ⟨hd,h2⟩,fun x hx y hy=>?_⟩,fun x=>?_,?_⟩
  ·rcases List.mem_cons.1 hy with rfl | hy
   ·exact ht x hx
   ·exact h3 x hx y hy
  ·rw [List.mem_append, List.mem_cons]
   conv=>rhs;rw [<-hA,List.mem_append]
   constructor
   ·rintro (h | h | h)
    ·exact .inr (.inl h)
    ·exact .inl h
    ·exact .inr (.inr h)
   ·rintro (h | h | h)
    ·exact .inr (.inl h)
    ·exact .inl h
    ·exact .inr (.inr h)
  ·have := congrArg List.length hA
   rw [List.length_append] at this
   simp only [List.length_append,List.length_cons];omega
section
variable {c:List Mg}
theorem aiK {o:List Int} {A:List ByteArray} {i:Nat} (hi:i<c.length) (hl:c.length<=1000) (hA:A.length<=1000) {Ww:List Mg} {v37 v40:Int} {v41:Bool} {L:List Mg} :
  iter (fun x=>ai (gH61_v1_1 x)) (c,o,A.length,(i:Int),(0:Int),Ww,v37,v40,v41,A,L,())=some (c,o,A.length,(i:Int),(((SU (mi c i).2.2.2.1 A).length:Nat):Int),Ww,v37,v40,v41,A,L,()):=by
 have := aQ (f := fun x => ai (gH61_v1_1 x)) A (fun k (_ : Nat) => (c, o, A.length, (i : Int), (k : Int), Ww, v37, v40, v41, A, L, ())) (fun k r => (c, o, A.length, (i : Int), ((k + (SU (mi c i).2.2.2.1 r).length : Nat) : Int), Ww, v37, v40, v41, A, L, ())) (fun pre k => k = pre.length) (by
  rintro pre x post k hx rfl
  have hlen:A.length=pre.length+(post.length+1):=by rw [hx];simp
  have hd:A.getD pre.length (bs [])=x:=by rw [hx];exact aT rfl
  have wT:c.getD i (bs [],(0:Int),bs [],bs [],(0:Int))=mi c i:=rfl
  have i1:bT (pre.length:Int) ((A.length:Nat):Int)=true:=aP (by omega) (by omega)
  have i2:bT (i:Int) ((c.length:Nat):Int)=true:=aP (by omega) (by omega)
  have r1:dc .i64 ((pre.length:Int)+1)=true:=aD (by omega) (by omega)
  have d1:decide (pre.length<A.length)=true:=decide_eq_true (by omega)
  simp only [gH61_v1_1,aj,aJ,aS,aI,aa,Int.toNat_natCast,Nat.zero_add,hd,wT,i1,i2,d1,r1,af,aK]
  rw [if_pos (by omega)]
  cases h:slt x (mi c i).2.2.2.1 with
  |true =>
   left
   refine ⟨pre.length+1,?_,by simp,?_⟩
   ·rw [bO];rfl
   ·simp only [SU, List.takeWhile_cons_of_pos (p := fun y => slt y (mi c i).2.2.2.1) h, List.length_cons]
    rw [show pre.length+(List.length (List.takeWhile (fun y=>slt y (mi c i).2.2.2.1) post)+1)=pre.length+1+List.length (List.takeWhile (fun y=>slt y (mi c i).2.2.2.1) post) by omega]
  |false =>
   right
   rw [aO]
   simp only [SU,List.takeWhile_cons_of_neg (p:=fun y=>slt y (mi c i).2.2.2.1) (by rw [h];simp),List.length_nil,Nat.add_zero]) (by
  rintro k rfl
  simp only [gH61_v1_1,aj,aK,aa]
  rw [if_neg (by omega)]
  rfl) (s:=0) rfl
 rw [Nat.zero_add] at this
 exact this
theorem aiL (hs:SI c) (hk:wQ c) (hl:c.length<=1000) {o:List Int} (ho:Stt c o) {L:List Mg} :
  ∃A,iter (fun x=>ai (gH61_v1_0 x)) (c,o,(0:Nat),(0:Int),[],L,())=some (A.length,A,L,())/\SA A/\∀x,x∈A↔∃j<c.length,(fQ c (mi c j).1).isSome=true/\(mi c j).2.2.2.1=x:=by
 obtain ⟨r, e, A, rfl, q1, q2⟩ := dI (step := fun x => ai (gH61_v1_0 x)) c.length (fun k x => ∃ A : List ByteArray, x = (c, o, A.length, (k : Int), A, L, ()) ∧ SA A ∧ A.length ≤ k ∧ ∀ x, x ∈ A ↔ ∃ j < k, (fQ c (mi c j).1).isSome = true ∧ (mi c j).2.2.2.1 = x)
  (fun r=>∃A:List ByteArray,r=(A.length,A,L,())/\SA A/\∀x,x∈A↔∃j<c.length,(fQ c (mi c j).1).isSome=true/\(mi c j).2.2.2.1=x) (by
  rintro k _ hkc ⟨A,rfl,p1,p2,p3⟩
  have hdk:c.getD k (bs [],(0:Int),bs [],bs [],(0:Int))=mi c k:=rfl
  have hlo:=ho.lo
  have i1:bT (k:Int) ((c.length:Nat):Int)=true:=aP (by omega) (by omega)
  have i2:bT (k:Int) ((o.length:Nat):Int)=true:=aP (by omega) (by omega)
  have r1:dc .i64 ((k:Int)+1)=true:=aD (by omega) (by omega)
  have hv:=ho.v k hkc
  simp only [gH61_v1_0,aj,aJ,aI,aA,bn,aa,Int.toNat_natCast,hdk,i1,i2,af,aK,bx,aZ]
  rw [if_pos (by omega)]
  by_cases hV:(fQ c (mi c k).1).isSome=true
  ·have h3 := Nr hs hk (cK hkc) hV
   have aiM:o.getD k 0=4\/(o.getD k 0≠4/\o.getD k 0=5):=by have:=hv.2 hV;omega
   have hT:=aiJ (mi c k).2.2.2.1 A
   have hAD:=Sx (mi c k).2.2.2.1 A
   obtain ⟨s1,s2,s3⟩:=Xd (a:=(mi c k).2.2.2.1) p1
   have Ae:∃A':List ByteArray,(c,o,(IQ (mi c k).2.2.2.1 A).length,(k:Int)+1,IQ (mi c k).2.2.2.1 A,L,())=(c,o,A'.length,((k+1:Nat):Int),A',L,())/\SA A'/\A'.length<=k+1/\∀x,x∈A'↔∃j<k+1,(fQ c (mi c j).1).isSome=true/\(mi c j).2.2.2.1=x:=by
    refine ⟨_,rfl,s1,by omega,fun x=>?_⟩
    rw [s2,p3]
    constructor
    ·rintro (rfl | ⟨j, hj, h⟩)
     ·exact ⟨k,by omega,hV,rfl⟩
     ·exact ⟨j,by omega,h⟩
    ·rintro ⟨j, hj, h, h'⟩
     by_cases ejk:j=k
     ·subst ejk;exact .inl h'.symm
     ·exact .inr ⟨j,by omega,h,h'⟩
   have hin:=aiK (c:=c) (o:=o) (A:=A) (i:=k) (Ww:=c) (v37:=(k:Int)) (v40:=(mi c k).2.1) (v41:=(mi c k).2.1==3) (L:=L) hkc hl (by omega)
   rcases aiM with h|⟨h,h'⟩
   case' inl=>rw [if_pos h]
   case' inr=>rw [if_neg h,if_pos h']
   all_goals
    rw [if_neg h3]
    rw [ag hin]
    have hins:IQ (mi c k).2.2.2.1 A=if (SV (mi c k).2.2.2.1 A).head?=some (mi c k).2.2.2.1 then A else SU (mi c k).2.2.2.1 A++(mi c k).2.2.2.1::SV (mi c k).2.2.2.1 A:=rfl
    rw [hins] at Ae s3
    clear hins hin s1 s2
    generalize SU (mi c k).2.2.2.1 A=T at *
    generalize SV (mi c k).2.2.2.1 A=D at *
    have el:A.length=T.length+D.length:=by rw [<-hAD,List.length_append]
    have et:A.take T.length=T:=by rw [<-hAD];exact List.take_left' rfl
    have ed:A.drop T.length=D:=by rw [<-hAD];exact List.drop_left' rfl
    have ek:D.take (A.length - T.length)=D:=List.take_of_length_le (by omega)
    have l0:decide ((0:Int)<=0)=true:=rfl
    have l1:decide ((0:Int)<=((T.length:Nat):Int))=true:=decide_eq_true (by omega)
    have l2:decide (((T.length:Nat):Int)<=((A.length:Nat):Int))=true:=decide_eq_true (by omega)
    have l3:decide (((A.length:Nat):Int)<=((A.length:Nat):Int))=true:=decide_eq_true (by omega)
    have b1:decide (T.length<bp)=true:=decide_eq_true (by rw [cO];omega)
    have b2:decide (T.length+1<bp)=true:=decide_eq_true (by rw [cO];omega)
    have b3:decide (T.length+1+D.length<bp)=true:=decide_eq_true (by rw [cO];omega)
    simp only [aj,aJ,aS,aI,aa,aZ,bx,seq_eq,Int.toNat_natCast,Int.toNat_zero,Nat.zero_add,Nat.sub_zero,List.drop_zero,List.take_zero,List.nil_append,l0,l1,l2,l3,i1,r1,af,hdk,et,ed,ek,List.length_append,List.length_cons,List.length_nil,List.take_succ_cons,b1,b2,b3]
    have e4:((T++[(mi c k).2.2.2.1]).take (T.length+1))=T++[(mi c k).2.2.2.1]:=List.take_of_length_le (by simp)
    have e5:T.take T.length=T:=List.take_length
    simp only [e5,e4]
    have hOut:D.head?≠some (mi c k).2.2.2.1->∃y,some (Sum.inl (c,o,T.length+1+D.length,(k:Int)+1,T++[(mi c k).2.2.2.1]++D,L,()))=some (Sum.inl (β:=Nat×List ByteArray×List Mg×Unit) y)/\∃A':List ByteArray,y=(c,o,A'.length,((k+1:Nat):Int),A',L,())/\SA A'/\A'.length<=k+1/\∀x,x∈A'↔∃j<k+1,(fQ c (mi c j).1).isSome=true/\(mi c j).2.2.2.1=x:=fun hne=>by
     rw [if_neg hne] at Ae
     obtain ⟨A',e,hA'⟩:=Ae
     refine ⟨_,rfl,A',?_,hA'⟩
     rw [<-e]
     simp only [List.append_assoc,List.singleton_append,List.length_append,List.length_cons,Prod.mk.injEq,and_true,true_and]
     omega
    cases D with
    |nil =>
     rw [if_pos (by simp at el;omega)]
     exact hOut (by simp)
    |cons b r =>
     have hb:A.getD T.length (bs [])=b:=by rw [<-hAD];exact aT rfl
     have i5:bT ((T.length:Nat):Int) ((A.length:Nat):Int)=true:=aP (by omega) (by simp at el;omega)
     have d5:decide (T.length<A.length)=true:=decide_eq_true (by simp at el;omega)
     rw [if_neg (by simp at el;omega)]
     simp only [hb,i5,d5,af,aK]
     by_cases hba:b=(mi c k).2.2.2.1
     ·rw [if_pos hba]
      rw [if_pos (by rw [hba];rfl)] at Ae
      obtain ⟨A',e,hA'⟩:=Ae
      exact ⟨_,rfl,A',e,hA'⟩
     ·rw [if_neg hba]
      exact hOut (by simpa using hba)
  ·have h4 : o.getD k 0 ≠ 4 := fun h => hV (hv.1 (.inl h))
   have h5:o.getD k 0≠5:=fun h=>hV (hv.1 (.inr h))
   rw [if_neg h4,if_neg h5,r1,af]
   refine ⟨_,rfl,A,rfl,p1,by omega,fun x=>?_⟩
   rw [p3]
   refine ⟨fun ⟨j,hj,h⟩=>⟨j,by omega,h⟩,fun ⟨j,hj,h,h'⟩=>⟨j,?_,h,h'⟩⟩
   by_cases ejk:j=k
   ·subst ejk;exact absurd h hV
   ·omega) (by
  rintro _ ⟨A,rfl,p1,p2,p3⟩
  simp only [gH61_v1_0,aj,aa,aK]
  rw [if_neg (by omega)]
  exact ⟨_,rfl,A,rfl,p1,p3⟩) (x:=(c,o,(0:Nat),(0:Int),[],L,())) ⟨[],rfl,.nil,Nat.le_refl _,fun x=>by simp⟩
 exact ⟨A,e,q1,q2⟩
theorem Sy:SA (tF c):=by
 have h:=Ga (c:=c) (ts:=Tryz.qo c) (m:=[]) .nil
 unfold tF
 exact List.pairwise_map.2 h
theorem Sz (hs:SI c) (hk:wQ c) {x:ByteArray}:x∈tF c↔∃j<c.length,(fQ c (mi c j).1).isSome=true/\(mi c j).2.2.2.1=x:=by
 rw [Si]
 constructor
 ·rintro ⟨t, ht, v, hv, e⟩
  unfold Tryz.qo at ht
  obtain ⟨m,hm,rfl⟩:=List.mem_map.1 ht
  obtain ⟨gz,hm2⟩:=List.mem_filter.1 hm
  have hT:Tk c m.1:=⟨m,gz,rfl,of_decide_eq_true hm2⟩
  obtain ⟨j,hj,hej⟩:=Bz (bF.1 (tJ hs hk hT hv))
  refine ⟨j,hj,?_,?_⟩
  ·rw [hej,(jf hs hk hT).1 hv];rfl
  ·rw [<-e,<-hej,eo hs (cK hj)]
 ·rintro ⟨j, hj, hv, e⟩
  obtain ⟨t,ht⟩:=Option.isSome_iff_exists.1 hv
  have hT:=((dn hs hk).1 (eX.1 ht).2).1
  obtain ⟨m,hm,e1,h1⟩:=id hT
  refine ⟨t,?_,_,(jf hs hk hT).2 ht,by rw [eo hs (cK hj)];exact e⟩
  unfold Tryz.qo
  exact List.mem_map.2 ⟨m,List.mem_filter.2 ⟨hm,decide_eq_true h1⟩,e1⟩
end
theorem Xe {L:List Mg} (h:lG L):ai (FH61_v1 L)=some ((tF (cnt L)).length,tF (cnt L),L,()):=by
 have hl:=h.len
 have hs:=fe L
 have hk:=Dp h
 have hc:=gd h
 obtain ⟨o,e0,ho,_⟩:=k92 hs hk (by omega)
 obtain ⟨A,e1,q1,q2⟩:=aiL (L:=L) hs hk (by omega) ho
 have e:A=tF (cnt L):=K0 q1 Sy fun x=>by rw [q2,Sz hs hk]
 unfold FH61_v1 FH57_v1
 simp only [aA,aa,aF,aj,aO]
 rw [ag (k71 h.s (by omega))]
 simp only
 rw [ag e0]
 simp only [bn]
 refine Eq.trans (ag e1) ?_
 rw [e]
end Go.Proofs.Tryz
end
section
namespace Go.Proofs.Tryz
open Go.AM
set_option maxRecDepth 100000
set_option maxHeartbeats 2000000
section
variable {c:List Mg}
theorem aiN {W:List Int} (hW:W.length<=1000) {k:Nat} (hk:k<c.length) (hl:c.length<=1000) {L:List Mg} {B:List ByteArray} (hB:B.length<=1000) :
  iter (fun x=>ai (gH64_v1_1 x)) (c,W.length,B.length,(k:Int),(0:Int),W,B,L,())=some (c,W.length,(B++(W.filter fun z=>decide (z=(k:Int))).map fun _=>(mi c k).1).length,(k:Int),W,B++(W.filter fun z=>decide (z=(k:Int))).map fun _=>(mi c k).1,L,()):=by
 refine aQ W (fun i (A:List ByteArray)=>(c,W.length,A.length,(k:Int),(i:Int),W,A,L,())) (fun A r=>(c,W.length,(A++(r.filter fun z=>decide (z=(k:Int))).map fun _=>(mi c k).1).length,(k:Int),W,A++(r.filter fun z=>decide (z=(k:Int))).map fun _=>(mi c k).1,L,())) (fun pre A=>A.length<=B.length+pre.length) ?_ ?_ (s:=B) (by simp)
 ·intro pre z post A hx hA
  have hlen:W.length=pre.length+(post.length+1):=by rw [hx];simp
  have hd:W.getD pre.length 0=z:=by rw [hx];exact aT rfl
  have hdk:c.getD k (bs [],(0:Int),bs [],bs [],(0:Int))=mi c k:=rfl
  have i1:bT (pre.length:Int) ((W.length:Nat):Int)=true:=aP (by omega) (by omega)
  have i2:bT (k:Int) ((c.length:Nat):Int)=true:=aP (by omega) (by omega)
  have r1:dc .i64 ((pre.length:Int)+1)=true:=aD (by omega) (by omega)
  have d1:decide (pre.length<W.length)=true:=decide_eq_true (by omega)
  have b1:decide (A.length+1<bp)=true:=decide_eq_true (by rw [cO];omega)
  left
  simp only [gH64_v1_1,aj,aJ,aS,aI,aa,Int.toNat_natCast,Nat.zero_add,hd,hdk,i1,i2,d1,r1,af,aK,aZ,List.drop_zero,List.take_succ_cons,List.take_zero,List.length_cons,List.length_nil,b1,List.take_length]
  rw [if_pos (by omega)]
  by_cases h:z=(k:Int)
  ·refine ⟨A ++ [(mi c k).1], ?_, by simp; omega, ?_⟩
   ·rw [if_pos h]
    simp only [List.length_append,List.length_cons,List.length_nil,Nat.zero_add]
    rfl
   ·rw [List.filter_cons_of_pos (by simpa using h)]
    simp only [List.map_cons,List.append_assoc,List.singleton_append]
  ·refine ⟨A, ?_, by simp; omega, ?_⟩
   ·rw [if_neg h];rfl
   ·rw [List.filter_cons_of_neg (by simpa using h)]
 ·intro A _
  simp only [gH64_v1_1,aj,aa,aK]
  rw [if_neg (by omega)]
  simp
theorem Xf {W:List Int} (h:W.Nodup) (k:Int) (a:ByteArray):(W.filter fun z=>decide (z=k)).map (fun _=>a)=if k∈W then [a] else []:=by
 induction W with
 |nil=>simp
 |cons z W ih =>
  obtain ⟨h1,h2⟩:=List.nodup_cons.1 h
  by_cases e:z=k
  ·subst e
   rw [List.filter_cons_of_pos (by simp),List.map_cons,ih h2,if_neg h1,if_pos (List.mem_cons_self ..)]
  ·rw [List.filter_cons_of_neg (by simpa using e), ih h2]
   have:k∈z::W↔k∈W:=by rw [List.mem_cons];exact ⟨fun h=>h.resolve_left fun e'=>e e'.symm,.inr⟩
   by_cases hk:k∈W
   ·rw [if_pos hk,if_pos (this.2 hk)]
   ·rw [if_neg hk,if_neg fun h=>hk (this.1 h)]
theorem aiO (hs:SI c) (hk:wQ c) (hl:c.length<=1000) {t:ByteArray} (ht:Tk c t) {L:List Mg} :
  iter (fun x=>ai (gH64_v1_0 x)) (c,(ixs c (aY c (c.length+1) t)).length,(0:Nat),(0:Int),ixs c (aY c (c.length+1) t),[],L,())=some ((ir c t).length,ir c t,L,()):=by
 have Gg:(ir c t).Perm (aY c (c.length+1) t):=kA
 have hve:=acA hs hk ht
 have hvn:(ir c t).Nodup:=by
  rw [hve]
  unfold List.Nodup
  rw [List.pairwise_map]
  refine List.Pairwise.imp (fun {a b} h e=>?_) (List.Pairwise.filter _ hs)
  rw [e,n9] at h;cases h
 have hUn:(aY c (c.length+1) t).Nodup:=Gg.nodup_iff.1 hvn
 have hUi:∀y∈aY c (c.length+1) t,∃j<c.length,(mi c j).1=y:=fun y hy=>Bz (bF.1 (tJ hs hk ht (Gg.mem_iff.2 hy)))
 have hUl:(aY c (c.length+1) t).length<=1000:=by
  rw [<-Gg.length_eq,hve,List.length_map]
  exact Nat.le_trans (List.length_filter_le ..) hl
 have hWn:(ixs c (aY c (c.length+1) t)).Nodup:=by
  unfold ixs List.Nodup
  rw [List.pairwise_map]
  refine List.Pairwise.imp_of_mem (fun {a b} ha hb h e=>?_) hUn
  obtain ⟨j,hj,rfl⟩:=hUi a ha
  obtain ⟨j',hj',rfl⟩:=hUi b hb
  rw [vC hs hj,vC hs hj'] at e
  have:j=j':=by omega
  subst this;exact h rfl
 have hWm:∀k<c.length,((k:Nat):Int)∈ixs c (aY c (c.length+1) t)↔fQ c (mi c k).1=some t:=fun k hkc=>by
  rw [<-jf hs hk ht,Gg.mem_iff]
  unfold ixs
  rw [List.mem_map]
  constructor
  ·rintro ⟨y, hy, e⟩
   obtain ⟨j,hj,rfl⟩:=hUi y hy
   rw [vC hs hj] at e
   have:j=k:=by omega
   subst this;exact hy
  ·intro h
   exact ⟨_,h,by rw [vC hs hkc]⟩
 have hWl:(ixs c (aY c (c.length+1) t)).length<=1000:=by rw [j7];exact hUl
 generalize ixs c (aY c (c.length+1) t)=W at *
 obtain ⟨r, e, h⟩ := dI (step := fun x => ai (gH64_v1_0 x)) c.length (fun k x => x = (c, W.length, (((c.take k).filter fun m => decide (fQ c m.1 = some t)).map (·.1)).length, (k : Int), W, ((c.take k).filter fun m => decide (fQ c m.1 = some t)).map (·.1), L, ()))
  (fun r=>r=((ir c t).length,ir c t,L,())) (by
  rintro k _ hkc rfl
  have r1:dc .i64 ((k:Int)+1)=true:=aD (by omega) (by omega)
  have hBl:(((c.take k).filter fun m=>decide (fQ c m.1=some t)).map (·.1)).length<=1000:=by
   rw [List.length_map]
   exact Nat.le_trans (List.length_filter_le ..) (by rw [List.length_take];omega)
  have Gl:((c.take (k+1)).filter fun m=>decide (fQ c m.1=some t)).map (·.1)=((c.take k).filter fun m=>decide (fQ c m.1=some t)).map (·.1)++(W.filter fun z=>decide (z=(k:Int))).map fun _=>(mi c k).1:=by
   rw [List.take_succ_eq_append_getElem hkc,List.filter_append,List.map_append,<-IM hkc,Xf hWn]
   refine congrArg (List.map (·.1) (List.filter (fun m=>decide (fQ c m.1=some t)) (c.take k))++·) ?_
   by_cases hv:fQ c (mi c k).1=some t
   ·rw [if_pos ((hWm k hkc).2 hv),List.filter_cons_of_pos (by simpa using hv)];rfl
   ·rw [if_neg fun h=>hv ((hWm k hkc).1 h),List.filter_cons_of_neg (by simpa using hv)];rfl
  rw [Gl]
  generalize ((c.take k).filter fun m=>decide (fQ c m.1=some t)).map (·.1)=B at hBl ⊢
  simp only [gH64_v1_0,aj,aA,bn,aK]
  rw [if_pos (by omega),ag (aiN hWl hkc hl hBl)]
  simp only [aI,aa,r1,af]
  exact ⟨_,rfl,rfl⟩) (by
  rintro _ rfl
  simp only [gH64_v1_0,aj,aa,aK]
  rw [if_neg (by omega),List.take_length,<-hve]
  exact ⟨_,rfl,rfl⟩) (x:=(c,W.length,(0:Nat),(0:Int),W,[],L,())) rfl
 rw [h] at e
 exact e
end
theorem Xg {L:List Mg} (h:lG L) (x:ByteArray):ai (FH64_v1 x L)=some ((nc (cnt L) x).1.length,(nc (cnt L) x).2,(nc (cnt L) x).1,L,()):=by
 have hl:=h.len
 have hs:=fe L
 have hk:=Dp h
 have hc:=gd h
 unfold FH64_v1 FH57_v1
 simp only [aA,aa,aF,aj,aO]
 rw [ag (k71 h.s (by omega))]
 simp only
 rcases k93 (c:=cnt L) (by omega) x with ⟨i,hi,hx,e⟩|⟨hM,e⟩
 ·rw [ag e]
  have hM:oy (cnt L) x=true:=bF.2 (List.mem_map.2 ⟨_,cK hi,hx⟩)
  have wT:(cnt L).getD i (bs [],(0:Int),bs [],bs [],(0:Int))=mi (cnt L) i:=rfl
  have i1:bT (i:Int) (((cnt L).length:Nat):Int)=true:=aP (by omega) (by omega)
  simp only [bx,aZ,aJ,i1,af,Int.toNat_natCast,wT,if_true,if_pos,aj]
  unfold nc
  rw [if_pos hM,<-hx,eo hs (cK hi)]
  by_cases h1:(mi (cnt L) i).2.1=1
  ·rw [if_pos h1, if_pos h1, aA]
   have ht:Tk (cnt L) (mi (cnt L) i).1:=⟨_,cK hi,rfl,h1⟩
   obtain ⟨o,e0,ho,h5⟩:=k92 hs hk (by omega)
   rw [ag e0]
   simp only [aA]
   rw [ag (K2 hs hk (by omega) ho hi ht rfl)]
   simp only [bn]
   refine Eq.trans (ag (aiO (L:=L) hs hk (by omega) ht)) ?_
   rfl
  ·rw [if_neg h1,if_neg h1];rfl
 ·rw [ag e]
  simp only [bx,aZ]
  rw [if_neg (by omega)]
  unfold nc
  rw [if_neg (by rw [hM];simp)]
  rfl
end Go.Proofs.Tryz
end
section
namespace Go.Proofs.Tryz
open Go.AM
set_option maxRecDepth 100000
set_option maxHeartbeats 2000000
theorem aiP {L:List Mg} (hl:L.length<=1000) {qs:List ByteArray} {A:List Mg} {m2:List (Mg×Bool)} :
  iter (fun x=>ai (gH22_v1_0 x)) (qs,L.length,L.length,(0:Int),A,L,L,m2,())=some (.inr (qs,A,m2,())):=by
 refine yD L.length (fun k=>(qs,L.length,L.length,(k:Int),A,L,L,m2,())) (fun k hk=>?_) ?_
 ·have i1 : bT (k : Int) ((L.length : Nat) : Int) = true := aP (by omega) (by omega)
  have r1:dc .i64 ((k:Int)+1)=true:=aD (by omega) (by omega)
  have d1:decide (k<L.length)=true:=decide_eq_true hk
  simp only [gH22_v1_0,aj,aJ,aS,aI,aa,Int.toNat_natCast,Nat.zero_add,i1,d1,r1,af,aK,seq_eq,decide_true,beq_self_eq_true,Bool.and_self,Bool.not_true,aO]
  rw [if_pos (by omega)]
  rfl
 ·simp only [gH22_v1_0, aj, aa, aK]
  rw [if_neg (by omega)]
theorem aiQ {L:List Mg} (h:lG L) {qs:List ByteArray} (hq:qs.length<=1000) :
  iter (fun x=>ai (gH22_v1_1 x)) (qs,(0:Int),L,bk L,())=some (.inr (bk L,L,())):=by
 refine yD qs.length (fun k=>(qs,(k:Int),L,bk L,())) (fun k hk=>?_) ?_
 ·have i1 : bT (k : Int) ((qs.length : Nat) : Int) = true := aP (by omega) (by omega)
  have r1:dc .i64 ((k:Int)+1)=true:=aD (by omega) (by omega)
  simp only [gH22_v1_1,aj,aJ,aA,aI,aa,Int.toNat_natCast,i1,r1,af,aK]
  rw [if_pos (by omega),ag (kH32 h _)]
  simp only
  rw [ag (Xc h _)]
  simp only
  rw [ag (kH33 h _)]
  simp only
  rw [ag (Xg h _)]
  simp only [List.drop_zero,List.take_length,beq_self_eq_true,Bool.not_true,aO]
  rw [ag (k36 (Np h _))]
  simp only [decide_true,Bool.not_true,aO]
  rfl
 ·simp only [gH22_v1_1, aj, aa, aK]
  rw [if_neg (by omega)]
theorem Xh {L:List Mg} (h:lG L) {qs:List ByteArray} (hq:qs.length<=1000):ai (FH22_v1 qs L (bk L))=some (true,bk L,L,()):=by
 have hl:=h.len
 unfold FH22_v1
 simp only [aA]
 rw [ag (acp h.s (by omega))]
 simp only
 rw [ag (Xa h)]
 simp only [aj,beq_self_eq_true,Bool.not_true,aO,aA]
 rw [ag (kH45 h)]
 simp only
 rw [ag (Xe h)]
 simp only [List.drop_zero,List.take_length]
 rw [ag (k36 (Sa h))]
 simp only [aj,decide_true,Bool.not_true,aO,aA,bn]
 refine Eq.trans (ag (aiP (by omega))) ?_
 simp only [iW,aA]
 rw [ag (kH37 h)]
 simp only
 rw [ag (Xb h)]
 simp only [aj,beq_self_eq_true,Bool.and_self,Bool.not_true,aO,aA,bn]
 refine Eq.trans (ag (aiQ h hq)) ?_
 rfl
end Go.Proofs.Tryz
end
section
namespace Go.Proofs.Tryz
open Go.AM
set_option maxRecDepth 100000
set_option maxHeartbeats 2000000
theorem r3_0 {l:List Mg} {qs:List ByteArray} (hl:l.length<=1000) (hs:∀m∈l,SR m):iter (fun a=>ai (g3_0 a)) (l,qs,(0:Int),[],bk [],())=some (.inr (qs,zz l,bk (zz l),())):=by
 refine aQ l (fun k (L:List Mg)=>(l,qs,(k:Int),L,bk L,())) (fun L r=>Sum.inr (α:=Unit) (qs,r.foldl (fun L m=>(iA L m).2) L,bk (r.foldl (fun L m=>(iA L m).2) L),())) (fun _ L=>lG L) ?_ ?_ (s:=[]) lG.nil
 ·intro pre x post L hx hL
  have hlen:l.length=pre.length+(post.length+1):=by rw [hx];simp
  have hd:l.getD pre.length (bs [],(0:Int),bs [],bs [],(0:Int))=x:=by rw [hx];exact aT rfl
  have i1:bT (pre.length:Int) ((l.length:Nat):Int)=true:=aP (by omega) (by omega)
  have r1:dc .i64 ((pre.length:Int)+1)=true:=aD (by omega) (by omega)
  left
  refine ⟨(iA L x).2,?_,hL.tell x,rfl⟩
  simp only [g3_0,aj,aJ,aI,aa,aA,Int.toNat_natCast,aK,hd,i1,r1,af]
  rw [if_pos (by omega)]
  have hk:=acn hL.s hL.len (hs x (by rw [hx];simp))
  rw [ag (show ai (FH20 (x.1,x.2.1,x.2.2.1,x.2.2.2.1,x.2.2.2.2) (bk L))=_ from hk)]
  simp only
  rw [ag (show ai (FH21_v1 (x.1,x.2.1,x.2.2.1,x.2.2.2.1,x.2.2.2.2) L)=_ from W4 hL x)]
  simp only [beq_self_eq_true,Bool.not_true,aO]
  rfl
 ·intro L _
  simp only [g3_0,aj,aa,aK]
  rw [if_neg (by omega)]
  rfl
theorem r3_1 {qs:List ByteArray} (hq:qs.length<=1000) {A:List Mg} {m2:List (Mg×Bool)} :
  iter (fun x=>ai (g3_1 x)) (qs,(0:Int),A,m2,())=some (if ∀a∈qs,¬60<a.size then Sum.inr (qs,A,m2,()) else Sum.inl (true,())):=by
 refine aQ qs (fun k (_:Unit)=>(qs,(k:Int),A,m2,())) (fun _ r=>if ∀a∈r,¬60<a.size then Sum.inr (qs,A,m2,()) else Sum.inl (true,())) (fun _ _=>True) ?_ ?_ (s:=()) trivial
 ·intro pre a post _ hx _
  have hlen:qs.length=pre.length+(post.length+1):=by rw [hx];simp
  have hd:qs.getD pre.length (bs [])=a:=by rw [hx];exact aT rfl
  have i1:bT (pre.length:Int) ((qs.length:Nat):Int)=true:=aP (by omega) (by omega)
  have r1:dc .i64 ((pre.length:Int)+1)=true:=aD (by omega) (by omega)
  simp only [g3_1,aj,aJ,aI,aa,aA,Int.toNat_natCast,aK,hd,i1,r1,af]
  rw [if_pos (by omega)]
  by_cases h1:60<a.size
  ·right
   rw [if_pos (by omega),ag k17,if_neg fun h=>h a (List.mem_cons_self ..) h1]
  ·left
   rw [if_neg (by omega)]
   refine ⟨(),rfl,trivial,?_⟩
   simp only [List.forall_mem_cons,h1,not_false_eq_true,true_and]
 ·intro _ _
  simp only [g3_1,aj,aK,aa]
  rw [if_neg (by omega),if_pos (fun m h=>nomatch h)]
theorem k3 (l:List Mg) (qs:List ByteArray):ai (F3 l qs)=some (true,()):=by
 unfold F3
 simp only [aj,aA,bn,aK,aa]
 by_cases h1:30<l.length
 ·rw [if_pos (by omega),ag k17]
 rw [if_neg (by omega)]
 by_cases h2:30<qs.length
 ·rw [if_pos (by omega),ag k17]
 rw [if_neg (by omega)]
 obtain ⟨b,e,hb⟩:=k16 (l:=l) (by omega)
 rw [ag e]
 cases b with
 |true=>simp only [bO];rw [ag k17]
 |false =>
  simp only [aO,FH18,FH19,aa,aF]
  refine Eq.trans (ag (r3_0 (by omega) (hb rfl))) ?_
  simp only [iW,aA,bn]
  rw [ag (r3_1 (by omega))]
  by_cases h4:∀a∈qs,¬60<a.size
  ·rw [if_pos h4]
   simp only [iW,aA]
   rw [ag (Xh (lG.told l) (by omega))]
   simp only [aj,bO,aA]
   rw [ag k17]
   rfl
  ·rw [if_neg h4]
   simp only [mg,aa]
theorem law3 (l:List Mg) (qs:List ByteArray) (_:EF [.list tM,.list .str] (l,qs,())):ai (F3 l qs)=some (true,()):=k3 l qs
end Go.Proofs.Tryz
end
