/- Points: within bounds, in order, sorted. The hull of points, as the program finds it. The hull of points, as the program finds it: chains, and the hull itself. Which points lie in the hull of others: all are tried. Units that are hulls: those of the statements are made so, and are accepted; all sums of their corners. The units of the statements; all sums of corners; sides in order of their directions. Sides sorted by their directions. The sum of units as the program walks it. The sum of units: F16. The sum of units: F16, its last rounds. Sum, Most. What the statements hand in. Is a point in a polygon taken so many times: F15. Can: F5. A point of the sum as corners' mix: F17. Divide: F6. Divided: F8. Prove: F7; its check: F17; a part among a unit's corners: F19. The fixed plant: its balance, closed. The fixed plant: what is found. The fixed plant, closed. A boiler and a wheel: what they can give. The masses in truth. Bagasse that is found fires the boilers: the law. -/
import Derived.Test.YtgmflfkhjjjhmaaR03
set_option linter.unusedSectionVars false
set_option linter.unusedVariables false
set_option linter.unusedSimpArgs false
section
namespace Go.Proofs.Try
open Go.AM Go.fD
set_option maxRecDepth 100000
def nN (a b:Int):Int:=if a<b then -1 else if b<a then 1 else 0
theorem bC {A B:Type} (p:A×B):(p.1,p.2)=p:=rfl
theorem k69 (a:Int):ag (F58 a)=some (false,()):=by simp [F58,aa]
theorem k54 (a b:Int):ag (F45 a b)=some (nN a b,()):=by
 simp only [F45,aB,ak,aa,k69,aP,aY,aW,nN]
 split
 ·rfl
 ·split<;>rfl
def EU : List Int → Int
 |[]=>0
 |a::r=>if a=0 then EU r else a
theorem k52 (l:List Int) (hl:l.length<=1000):ag (F43 l)=some (EU l,()):=by
 simp only [F43,aB,bq]
 refine bind_eq (lp l (fun k (_:Unit)=>((0:Int),l,((l.length:Nat):Int),(k:Int),())) (fun _ r=>if EU r=0 then .inr (0,()) else .inl (EU r,())) (fun _ _=>True) ?_ ?_ (s:=()) trivial) ?_
 ·rintro pre x post _ hx -
  have hlen:l.length=pre.length+(post.length+1):=by rw [hx];simp
  have hd:l.getD pre.length 0=x:=by rw [hx];exact dQ rfl
  have i1:cR (pre.length:Int) ((l.length:Nat):Int)=true:=bg (by omega) (by omega)
  have r1:cS .i64 ((pre.length:Int)+1)=true:=aH (by omega) (by omega)
  simp only [g43_0,ak,aV,aJ,bz,aa,Int.toNat_natCast,hd,i1,r1,ax,aW,fj,fB]
  rw [if_pos (by omega)]
  by_cases h:x=0
  ·left
   refine ⟨(),?_,trivial,by simp [EU,h]⟩
   rw [if_pos h];rfl
  ·right
   rw [if_neg h]
   have:EU (x::post)=x:=by simp [EU,h]
   rw [this,if_neg h]
 ·rintro _ _
  simp only [g43_0,ak,aW,aa]
  rw [if_neg (by omega)]
  simp [EU]
 ·by_cases h : EU l = 0
  ·rw [if_pos h,h];rfl
  ·rw [if_neg h];rfl
theorem k62 (a b:Pt):∃z,ag (F69 a b)=some (z,())/\(z<0↔wS a b=true):=by
 refine ⟨EU [nN a.1 b.1,nN a.2 b.2],?_,?_⟩
 ·simp only [F69, aB, k54, aP, List.drop_zero, List.take_succ_cons, List.take_zero, aa]
  rw [az (k52 _ (by simp))]
 ·have c1:∀x y:Int,(nN x y<0↔x<y)/\(nN x y=0↔x=y):=fun x y=>by
   unfold nN
   split
   ·constructor<;>constructor<;>intro h<;>omega
   ·split<;>constructor<;>constructor<;>intro h<;>omega
  have e1:=c1 a.1 b.1
  have e2:=c1 a.2 b.2
  simp only [EU,wS]
  generalize nN a.1 b.1=p at e1 ⊢
  generalize nN a.2 b.2=q at e2 ⊢
  simp only [Bool.or_eq_true,Bool.and_eq_true,decide_eq_true_eq]
  by_cases h1:p=0
  ·have := e1.2.1 h1
   rw [if_pos h1]
   by_cases h2:q=0
   ·have := e2.2.1 h2
    rw [if_pos h2];omega
   ·rw [if_neg h2];omega
  ·rw [if_neg h1]
   have:a.1≠b.1:=fun h=>h1 (e1.2.2 h)
   omega
theorem kH76 {l T:List Pt} (hl:l.length<=1000):ag (FH81 l.length 0 l.length (l++T))=some (bP wS l++T,()):=by
 simp only [FH81,aJ,aB,bq,aa]
 rw [av (by omega) (by omega)]
 refine bind_eq (uJ (lt:=wS) (Good:=fun _=>True) (n:=l.length) (fun k m=>(l.length,(0:Int),((l.length:Nat):Int),(k:Int),m++T,())) (fun m=>(m++T,())) ?_ ?_ (fun _ _=>trivial) rfl) rfl
 ·intro R x Q hR hg' hn
  simp only [gH81_0,ak,aB,bq,aa,aJ,aW]
  rw [if_pos (by omega)]
  refine bind_eq (oD (lt:=wS) (Good:=fun _=>True) (n:=l.length) (fun k m=>(l.length,(0:Int),((l.length:Nat):Int),(R.length:Int),(k:Int),m++T,())) (fun m=>(l.length,(0:Int),((l.length:Nat):Int),(R.length:Int),m++T,())) ?_ ?_ R x Q hg' hn) ?_
  ·intro L y x Q hg2 hn2
   have e0:L++y::x::Q++T=L++y::x::(Q++T):=by simp
   rw [e0]
   generalize hW:Q++T=W
   have t1:Int.toNat (((L.length+1:Nat):Int) - 1)=L.length:=by omega
   have g1:(L++y::x::W).getD (L.length+1) ((0:Int),(0:Int))=x:=by
    rw [show L++y::x::W=(L++[y])++x::W by simp];exact dQ (by simp)
   have g2:(L++y::x::W).getD L.length ((0:Int),(0:Int))=y:=dQ rfl
   have s1:(L++y::x::W).set (L.length+1) y=L++y::y::W:=by
    rw [show L++y::x::W=(L++[y])++x::W by simp,lf (by simp)];simp
   have s2:(L++y::y::W).set L.length x=L++x::y::W:=lf rfl
   have i1:cR ((L.length+1:Nat):Int) ((l.length:Nat):Int)=true:=bg (by omega) (by omega)
   have i2:cR (((L.length+1:Nat):Int) - 1) ((l.length:Nat):Int)=true:=bg (by omega) (by omega)
   have r1:cS .i64 (((L.length+1:Nat):Int) - 1)=true:=aH (by omega) (by omega)
   have d1:decide (L.length+1<(L++y::x::W).length)=true:=decide_eq_true (by simp)
   have d2:decide (L.length<(L++y::x::W).length)=true:=decide_eq_true (by simp)
   have d3:decide (L.length<(L++y::y::W).length)=true:=decide_eq_true (by simp)
   obtain ⟨z,hz,Je⟩:=k62 x y
   simp only [gH81_1,ak,aB,aV,bz,aJ,aa,Int.toNat_natCast,t1,Nat.zero_add,g1,g2,bC,hz,aP,i1,i2,r1,d1,d2,ax,aW,s1,s2,d3]
   rw [if_pos (by omega)]
   by_cases hc:z<0
   ·rw [if_pos hc, if_pos (Je.1 hc)]
    have:(((L.length+1:Nat):Int) - 1)=(L.length:Int):=by omega
    rw [this,<-hW];simp
   ·rw [if_neg hc,if_neg (fun h=>hc (Je.2 h))]
  ·intro m
   simp only [gH81_1,ak,aW,aa]
   rw [if_neg (by omega)]
  ·simp only []
   rw [av (by omega) (by omega)]
   simp
 ·intro k m hk
  simp only [gH81_0,ak,aW,aa]
  rw [if_neg (by omega)]
theorem k71 {n:Nat} (hn:n<=20):∃y,ag (F77 (n:Int))=some (y,()):=by
 match n with
 |0=>exact ⟨0,ay 60 (by kernel_rfl)⟩
 |1=>exact ⟨1,ay 60 (by kernel_rfl)⟩
 |2=>exact ⟨2,ay 60 (by kernel_rfl)⟩
 |3=>exact ⟨2,ay 60 (by kernel_rfl)⟩
 |4=>exact ⟨3,ay 60 (by kernel_rfl)⟩
 |5=>exact ⟨3,ay 60 (by kernel_rfl)⟩
 |6=>exact ⟨3,ay 60 (by kernel_rfl)⟩
 |7=>exact ⟨3,ay 60 (by kernel_rfl)⟩
 |8=>exact ⟨4,ay 60 (by kernel_rfl)⟩
 |9=>exact ⟨4,ay 60 (by kernel_rfl)⟩
 |10=>exact ⟨4,ay 60 (by kernel_rfl)⟩
 |11=>exact ⟨4,ay 60 (by kernel_rfl)⟩
 |12=>exact ⟨4,ay 60 (by kernel_rfl)⟩
 |13=>exact ⟨4,ay 60 (by kernel_rfl)⟩
 |14=>exact ⟨4,ay 60 (by kernel_rfl)⟩
 |15=>exact ⟨4,ay 60 (by kernel_rfl)⟩
 |16=>exact ⟨5,ay 60 (by kernel_rfl)⟩
 |17=>exact ⟨5,ay 60 (by kernel_rfl)⟩
 |18=>exact ⟨5,ay 60 (by kernel_rfl)⟩
 |19=>exact ⟨5,ay 60 (by kernel_rfl)⟩
 |20=>exact ⟨5,ay 60 (by kernel_rfl)⟩
 |n+21=>omega
theorem kH61 {l:List Pt} (hl:l.length<=12):ag (FH68 l.length l)=some (bP wS l,()):=by
 obtain ⟨y,hy⟩:=k71 (n:=l.length) (by omega)
 have hu:cS .u64 ((l.length:Nat):Int)=true:=KQ (by omega) (by omega)
 have r1:cS .i64 (((l.length:Nat):Int) - 0)=true:=aH (by omega) (by omega)
 simp only [FH68,bz,hu,ax,aB,aa]
 refine bind_eq hy (bind_eq (a:=(bP wS l,())) ?_ rfl)
 simp only [FH76,aB,bq,aa]
 have:=kH76 (l:=l) (T:=[]) (by omega)
 simp only [List.append_nil] at this
 rw [bn (b := (bP wS l, ())) (by
  simp only [gH76_0,aJ,r1,ax,ak,aW,aB]
  rw [if_pos (by omega)]
  exact bind_eq this (by simp only [aa]))]
 simp only [aP]
end Go.Proofs.Try
end
section
namespace Go.Proofs.Try
open Go.AM Go.fD
set_option maxRecDepth 100000
theorem jI (x y : Pt) : ∀ A : List Pt, bw (A ++ [x, y]) = if x = y then bw (A ++ [x]) else bw (A ++ [x]) ++ [y]
 |[]=>by simp only [List.nil_append,bw];split<;>simp_all
 |[a]=>by
  simp only [List.cons_append,List.nil_append,bw]
  by_cases h1:a=x<;>by_cases h2:x=y<;>simp [h1,h2]
 |a::b::A=>by
  have ih:=jI x y (b::A)
  simp only [List.cons_append] at ih ⊢
  simp only [bw] at ih ⊢
  rw [ih]
  by_cases h:a=b
  ·rw [if_pos h,if_pos h]
  ·rw [if_neg h,if_neg h];split<;>simp
theorem Ym (x y:Pt):(x.1==y.1&&(x.2==y.2&&true))=decide (x=y):=by
 rcases x with ⟨a,b⟩;rcases y with ⟨c,d⟩
 simp only [Prod.mk.injEq,Bool.and_true]
 by_cases h1:a=c<;>by_cases h2:b=d<;>simp [h1,h2]
theorem Ni {P R:List Pt} {x:Pt} {n:Nat} (hn:n=P.length+2+R.length) (lY:n<=1000) (h0:bw (P++[x])=P++[x]) :
  ∃r,iter (fun s=>ag (gH70_1 s)) (n,((P.length+1:Nat):Int),P.length+1,n - (P.length+1),(1:Int),P++x::x::R,())=some r /\
   r.1=n/\r.2.1=(((bw (P++x::x::R)).length:Nat):Int)/\(bw (P++x::x::R)).length<=n/\r.2.2.1.length=n/\r.2.2.1.take (bw (P++x::x::R)).length=bw (P++x::x::R):=by
 refine fk (step := fun s => ag (gH70_1 s)) R.length
  (fun k s=>∃C J z,s=(n,((C.length:Nat):Int),P.length+1,n - (P.length+1),((k+1:Nat):Int),C++J++z::R.drop k,())/\C=bw (P++x::x::R.take k)/\(x::R.take k).getLast?=some z/\C.length+J.length=P.length+1+k)
  (fun r=>r.1=n/\r.2.1=(((bw (P++x::x::R)).length:Nat):Int)/\(bw (P++x::x::R)).length<=n/\r.2.2.1.length=n/\r.2.2.1.take (bw (P++x::x::R)).length=bw (P++x::x::R)) ?_ ?_ ?_
 ·rintro k s hk ⟨C, J, z, rfl, hC, hz, hl⟩
  have hR:R.drop k=R[k]::R.drop (k+1):=List.drop_eq_getElem_cons hk
  generalize hy:R[k]=y at hR
  have Gf:R.take (k+1)=R.take k++[y]:=by rw [List.take_succ_eq_append_getElem hk,hy]
  have hsn:bw (P++x::x::R.take (k+1))=if z=y then C else C++[y]:=by
   obtain ⟨A,hA⟩:∃A,x::R.take k=A++[z]:=by
    obtain ⟨A,hA⟩:=List.getLast?_eq_some_iff.1 hz
    exact ⟨A,hA⟩
   have e1:P++x::x::R.take k=(P++x::A)++[z]:=by rw [hA];simp
   have e2:P++x::x::R.take (k+1)=(P++x::A)++[z,y]:=by
    rw [Gf,show x::(R.take k++[y])=(x::R.take k)++[y] by simp,hA];simp
   rw [e2,jI,hC,e1]
  rw [hR]
  have i1:cR ((k+1:Nat):Int) (((n - (P.length+1):Nat)):Int)=true:=bg (by omega) (by omega)
  have i2:cR (((k+1:Nat):Int) - 1) (((n - (P.length+1):Nat)):Int)=true:=bg (by omega) (by omega)
  have t1:Int.toNat (((k+1:Nat):Int) - 1)=k:=by omega
  have p1:P.length+1+(k+1)=(C++J++[z]).length:=by simp;omega
  have p2:P.length+1+k=(C++J).length:=by simp;omega
  have e3:C++J++z::y::R.drop (k+1)=(C++J++[z])++y::R.drop (k+1):=by simp
  have g1:(C++J++z::y::R.drop (k+1)).getD (P.length+1+(k+1)) ((0:Int),(0:Int))=y:=by rw [e3];exact dQ p1
  have g2:(C++J++z::y::R.drop (k+1)).getD (P.length+1+k) ((0:Int),(0:Int))=z:=dQ p2
  have hlen:(C++J++z::y::R.drop (k+1)).length=n:=by simp;omega
  have d1:decide (P.length+1+(k+1)<(C++J++z::y::R.drop (k+1)).length)=true:=decide_eq_true (by rw [hlen];omega)
  have d2:decide (P.length+1+k<(C++J++z::y::R.drop (k+1)).length)=true:=decide_eq_true (by rw [hlen];omega)
  have d3:decide (C.length<(C++J++z::y::R.drop (k+1)).length)=true:=decide_eq_true (by rw [hlen];omega)
  have i3:cR ((C.length:Nat):Int) ((n:Nat):Int)=true:=bg (by omega) (by omega)
  have r1:cS .i64 (((k+1:Nat):Int) - 1)=true:=aH (by omega) (by omega)
  have r2:cS .i64 (((k+1:Nat):Int)+1)=true:=aH (by omega) (by omega)
  have r3:cS .i64 (((C.length:Nat):Int)+1)=true:=aH (by omega) (by omega)
  simp only [gH70_1,ak,aB,aV,bz,aJ,aa,Int.toNat_natCast,t1,i1,i2,i3,r1,r2,r3,ax,aW,fj,g1,g2,d1,d2,d3,Ym,Nat.zero_add,bC]
  rw [if_pos (by omega)]
  by_cases Yn:y=z
  ·rw [if_pos Yn]
   refine ⟨_,rfl,C,J++[z],y,?_,?_,?_,by simp;omega⟩
   ·simp
   ·rw [hsn,if_pos Yn.symm]
   ·rw [Gf,List.getLast?_cons];simp
  ·rw [if_neg Yn]
   obtain ⟨j,J',hJ⟩:∃j J',J++[z]=j::J':=by
    cases J with
    |nil=>exact ⟨z,[],rfl⟩
    |cons j J=>exact ⟨j,J++[z],rfl⟩
   have e4:C++J++z::y::R.drop (k+1)=C++j::(J'++y::R.drop (k+1)):=by
    rw [show C++J++z::y::R.drop (k+1)=C++(J++[z])++y::R.drop (k+1) by simp,hJ];simp
   have hjl:J'.length+1=J.length+1:=by have:=congrArg List.length hJ;simpa using this.symm
   refine ⟨_,rfl,C++[y],J',y,?_,?_,?_,by simp;omega⟩
   ·rw [e4,lf rfl];simp
   ·rw [hsn,if_neg (fun h=>Yn h.symm)]
   ·rw [Gf,List.getLast?_cons];simp
 ·rintro s ⟨C, J, z, rfl, hC, hz, hl⟩
  simp only [List.take_length,List.drop_length] at hC hz ⊢
  simp only [gH70_1,ak,aW,aa]
  rw [if_neg (by omega)]
  refine ⟨_,rfl,rfl,by rw [<-hC],by rw [<-hC];omega,by simp;omega,?_⟩
  simp only
  rw [<-hC,List.append_assoc,List.take_left' rfl]
 ·refine ⟨P ++ [x], [], x, by simp, ?_, by simp, by simp⟩
  rw [List.take_zero,show P++[x,x]=P++[x,x] from rfl,jI,if_pos rfl,h0]
theorem kH63 {l:List Pt} (hl:l.length<=1000):∃n b,ag (FH70 l.length l)=some (0,n,b,())/\n=(bw l).length/\b.take n=bw l:=by
 by_cases h2:l.length<2
 ·refine ⟨l.length, l, ?_, ?_⟩
  ·simp only [FH70, ak, aW, aa]
   rw [if_pos (by omega)]
  ·match l,h2 with
   |[],_=>exact ⟨rfl,rfl⟩
   |[a],_=>exact ⟨rfl,rfl⟩
 have key:∀m k,m+k=l.length->1<=k->bw (l.take k)=l.take k->∃r,iter (fun s=>ag (gH70_0 s)) (l.length,((k:Nat):Int),l,())=some r /\
   ((∃n b,r = .inl (0,n,b,())/\n=(bw l).length/\b.take n=bw l)\/(r = .inr (l.length,l,())/\bw l=l)):=by
  intro m
  induction m with
  |zero =>
   intro k hk h1 hc
   rw [List.take_of_length_le (by omega)] at hc
   refine ⟨_,bn (b:=.inr (l.length,l,())) ?_,.inr ⟨rfl,hc⟩⟩
   simp only [gH70_0,ak,aW,aa]
   rw [if_neg (by omega)]
  |succ m ih =>
   intro k hk h1 hc
   have hlt:k<l.length:=by omega
   have e0:l=l.take (k - 1)++l[k - 1]::l[k]::l.drop (k+1):=by
    have a1:l.drop (k - 1)=l[k - 1]::l.drop (k - 1+1):=List.drop_eq_getElem_cons (by omega)
    rw [show k - 1+1=k by omega] at a1
    have a2:l.drop k=l[k]::l.drop (k+1):=List.drop_eq_getElem_cons (by omega)
    rw [<-a2,<-a1,List.take_append_drop]
   generalize hP:l.take (k - 1)=P at e0
   generalize hx:l[k - 1]=x at e0
   generalize hy:l[k]=y at e0
   generalize hR:l.drop (k+1)=R at e0
   have hPl:P.length=k - 1:=by rw [<-hP];simp;omega
   have hRl:R.length=l.length - (k+1):=by rw [<-hR];simp
   have Gf:l.take k=P++[x]:=by
    rw [e0,show P++x::y::R=(P++[x])++y::R by simp,List.take_left' (by simp;omega)]
   rw [Gf] at hc
   have g1:l.getD k ((0:Int),(0:Int))=y:=by rw [<-hy];simp [List.getD,hlt]
   have g2:l.getD (k - 1) ((0:Int),(0:Int))=x:=by rw [<-hx];simp [List.getD,show k - 1<l.length by omega]
   have t1:Int.toNat ((k:Int) - 1)=k - 1:=by omega
   have i1:cR (k:Int) ((l.length:Nat):Int)=true:=bg (by omega) (by omega)
   have i2:cR ((k:Int) - 1) ((l.length:Nat):Int)=true:=bg (by omega) (by omega)
   have d1:decide (k<l.length)=true:=decide_eq_true hlt
   have d2:decide (k - 1<l.length)=true:=decide_eq_true (by omega)
   have r1:cS .i64 ((k:Int) - 1)=true:=aH (by omega) (by omega)
   have r2:cS .i64 ((k:Int)+1)=true:=aH (by omega) (by omega)
   by_cases Yo:y=x
   ·subst Yo
    obtain ⟨r,q1,q2,q3,q4,q5,q6⟩:=Ni (P:=P) (R:=R) (x:=y) (n:=l.length) (by omega) hl hc
    rw [<-e0] at q1 q3 q4 q6
    obtain ⟨rn,rv,rb,_⟩:=r
    simp only at q2 q3 q5 q6
    subst q2;subst q3
    have f1:((P.length+1:Nat):Int)=(k:Int):=by omega
    have f2:P.length+1=k:=by omega
    rw [f1,f2] at q1
    refine ⟨_,bn (b:=.inl (0,(bw l).length,xp ((0:Int),(0:Int)) rb (bw l).length (l.length - (bw l).length),())) ?_,.inl ⟨_,_,rfl,rfl,?_⟩⟩
    ·have c1 : decide ((0 : Int) ≤ (k : Int)) = true := decide_eq_true (by omega)
     have c2:decide ((k:Int)<=((l.length:Nat):Int))=true:=decide_eq_true (by omega)
     have c3:decide (((l.length:Nat):Int)<=((l.length:Nat):Int))=true:=decide_eq_true (by omega)
     have c4:decide ((0:Int)<=(((bw l).length:Nat):Int))=true:=decide_eq_true (by omega)
     have c5:decide ((((bw l).length:Nat):Int)<=((l.length:Nat):Int))=true:=decide_eq_true (by omega)
     have c6:decide ((0:Int)<=(0:Int))=true:=rfl
     simp only [gH70_0,ak,aB,bq,aV,bz,aJ,aa,Int.toNat_natCast,Nat.zero_add,t1,g1,g2,i1,i2,d1,d2,r1,r2,ax,aW,Ym,c1,c2,c3]
     rw [if_pos (by omega),if_pos trivial]
     refine bind_eq q1 ?_
     simp only [c1,c3,c4,c5,c6,ax,Int.toNat_natCast,Int.toNat_zero,Nat.sub_zero]
    ·unfold xp
     rw [List.append_assoc,List.take_left' (by simp;omega)]
     exact q6
   ·obtain ⟨r, q1, q2⟩ := ih (k + 1) (by omega) (by omega) (by
     rw [List.take_succ_eq_append_getElem hlt,hy,Gf,List.append_assoc]
     show bw (P++[x,y])=_
     rw [jI,if_neg (fun h=>Yo h.symm),hc];simp)
    refine ⟨r,aE ?_ q1,q2⟩
    simp only [gH70_0,ak,aB,bq,aV,bz,aJ,aa,Int.toNat_natCast,Nat.zero_add,t1,g1,g2,i1,i2,d1,d2,r1,r2,ax,aW,Ym]
    rw [if_pos (by omega),if_neg Yo]
    rfl
 obtain ⟨r, q1, q2⟩ := key (l.length - 1) 1 (by omega) (by omega) (by
  match l,h2 with
  |a::l,_=>rfl)
 rcases q2 with ⟨n,b,rfl,h3,h4⟩|⟨rfl,h3⟩
 ·refine ⟨n, b, ?_, h3, h4⟩
  simp only [FH70,ak,aW,aB,bq]
  rw [if_neg (by omega)]
  exact bind_eq q1 rfl
 ·refine ⟨l.length, l, ?_, by rw [h3], by rw [h3]; simp⟩
  simp only [FH70,ak,aW,aB,bq]
  rw [if_neg (by omega)]
  exact bind_eq q1 rfl
end Go.Proofs.Try
end
section
namespace Go.Proofs.Try
open Go.AM Go.fD
set_option maxRecDepth 100000
def Bd (K:Int) (p:Pt):Prop := -K<=p.1/\p.1<=K /\ -K<=p.2/\p.2<=K
theorem qe {a b K M:Int} (h1 : -K<=a) (h2:a<=K) (h3 : -M<=b) (h4:b<=M) : -(K * M)<=a * b/\a * b<=K * M:=by
 have e1:0<=(K - a) * (M - b):=Int.mul_nonneg (by omega) (by omega)
 have e2:0<=(K+a) * (M+b):=Int.mul_nonneg (by omega) (by omega)
 have e3:0<=(K - a) * (M+b):=Int.mul_nonneg (by omega) (by omega)
 have e4:0<=(K+a) * (M - b):=Int.mul_nonneg (by omega) (by omega)
 simp only [Int.sub_mul,Int.mul_sub,Int.add_mul,Int.mul_add] at e1 e2 e3 e4
 constructor<;>omega
theorem JE {a b:Pt} (ha:Bd 2000000000000 a) (hb:Bd 2000000000000 b):ag (F40 a b)=some (sub a b,()):=by
 obtain ⟨h1,h2,h3,h4⟩:=ha
 obtain ⟨g1,g2,g3,g4⟩:=hb
 simp only [F40,aJ,aa]
 rw [av (by omega) (by omega),av (by omega) (by omega)]
 rfl
theorem SU {a b:Pt} (ha:Bd 2000000000 a) (hb:Bd 2000000000 b):ag (F39 a b)=some (cr a b,()):=by
 obtain ⟨h1,h2,h3,h4⟩:=ha
 obtain ⟨g1,g2,g3,g4⟩:=hb
 have m1:=qe h1 h2 g3 g4
 have m2:=qe h3 h4 g1 g2
 simp only [F39,aJ,aa]
 rw [av (by omega) (by omega),av (by omega) (by omega),av (by omega) (by omega)]
 rfl
theorem jJ {K M:Int} {a b:Pt} (ha:Bd K a) (hb:Bd M b):Bd (K+M) (sub a b):=by
 obtain ⟨h1,h2,h3,h4⟩:=ha
 obtain ⟨g1,g2,g3,g4⟩:=hb
 exact ⟨by simp only [sub];omega,by simp only [sub];omega,by simp only [sub];omega,by simp only [sub];omega⟩
theorem sS {K M:Int} {a b:Pt} (ha:Bd K a) (hb:Bd M b):Bd (K+M) (add a b):=by
 obtain ⟨h1,h2,h3,h4⟩:=ha
 obtain ⟨g1,g2,g3,g4⟩:=hb
 exact ⟨by simp only [add];omega,by simp only [add];omega,by simp only [add];omega,by simp only [add];omega⟩
theorem Bd.le {K M:Int} {a:Pt} (ha:Bd K a) (h:K<=M):Bd M a:=by
 obtain ⟨h1,h2,h3,h4⟩:=ha
 exact ⟨by omega,by omega,by omega,by omega⟩
theorem k65 {a b c:Pt} (ha:Bd 1000 a) (hb:Bd 1000 b) (hc:Bd 1000 c):ag (F72 a b c)=some (decide (0<turn a b c),()):=by
 simp only [F72,aB,aa,bC]
 refine bind_eq (JE (hb.le (by omega)) (ha.le (by omega))) (bind_eq (JE (hc.le (by omega)) (ha.le (by omega))) ?_)
 simp only [bC]
 refine bind_eq (SU ((jJ hb ha).le (by omega)) ((jJ hc ha).le (by omega))) ?_
 rw [M4]
theorem C2 {x:Pt} (hx:Bd 1000 x) {n:Nat}:∀(st W:List Pt),(∀p∈st,Bd 1000 p)->(st.reverse++W).length<=1000 ->
  ∃st',kp x st=x::st'/\iter (fun s=>ag (gH71_0 s)) ((0:Nat),st.length,st.reverse++W,x.1,x.2,())=some (0,st'.length,st.reverse++W,x.1,x.2,())/\st'.length<=st.length/\(st.reverse++W).take st'.length=st'.reverse
 |[],W,_,_=>⟨[],rfl,bn (by simp only [gH71_0,ak,aW,aa,List.length_nil];rw [if_neg (by omega)]),by simp,by simp⟩
 |[b],W,_,_=>⟨[b],rfl,bn (by simp only [gH71_0,ak,aW,aa,List.length_singleton];rw [if_neg (by omega)]),by simp,by simp⟩
 |b::a::r,W,hb,hl=>by
  have e0:(b::a::r).reverse++W=r.reverse++a::b::W:=by simp
  have g1:(r.reverse++a::b::W).getD r.length ((0:Int),(0:Int))=a:=dQ (by simp)
  have g2:(r.reverse++a::b::W).getD (r.length+1) ((0:Int),(0:Int))=b:=by
   rw [show r.reverse++a::b::W=(r.reverse++[a])++b::W by simp];exact dQ (by simp)
  have hlen:(r.reverse++a::b::W).length<=1000:=by rw [<-e0];exact hl
  have hlen2:(r.reverse++a::b::W).length=r.length+2+W.length:=by simp;omega
  rw [e0]
  have ln:(b::a::r).length=r.length+2:=rfl
  rw [ln]
  have t1:Int.toNat (((r.length+2:Nat):Int) - 2)=r.length:=by omega
  have t2:Int.toNat (((r.length+2:Nat):Int) - 1)=r.length+1:=by omega
  have i1:cR (((r.length+2:Nat):Int) - 2) ((r.length+2:Nat):Int)=true:=bg (by omega) (by omega)
  have i2:cR (((r.length+2:Nat):Int) - 1) ((r.length+2:Nat):Int)=true:=bg (by omega) (by omega)
  have r1:cS .i64 (((r.length+2:Nat):Int) - 2)=true:=aH (by omega) (by omega)
  have r2:cS .i64 (((r.length+2:Nat):Int) - 1)=true:=aH (by omega) (by omega)
  have d1:decide (r.length<(r.reverse++a::b::W).length)=true:=decide_eq_true (by omega)
  have d2:decide (r.length+1<(r.reverse++a::b::W).length)=true:=decide_eq_true (by omega)
  have d3:decide ((0:Int)<=(0:Int))=true:=rfl
  have d4:decide ((0:Int)<=((r.length+2:Nat):Int) - 1)=true:=decide_eq_true (by omega)
  have d5:decide (((r.length+2:Nat):Int) - 1<=((r.length+2:Nat):Int))=true:=decide_eq_true (by omega)
  have hk:=k65 (hb a (by simp)) (hb b (by simp)) hx
  have hstep:ag (gH71_0 ((0:Nat),r.length+2,r.reverse++a::b::W,x.1,x.2,()))=if 0<turn a b x then some (.inr (0,r.length+2,r.reverse++a::b::W,x.1,x.2,())) else some (.inl (0,r.length+1,r.reverse++a::b::W,x.1,x.2,())):=by
   simp only [gH71_0,ak,aB,aV,bz,aJ,aa,t1,t2,i1,i2,r1,r2,ax,aW,fj,Nat.zero_add,g1,g2,d1,d2,d3,d4,d5,bC,hk,aP]
   rw [if_pos (by omega)]
   by_cases h:0<turn a b x<;>simp [h]
  unfold kp
  by_cases h:0<turn a b x
  ·rw [if_pos h] at hstep
   rw [if_pos h]
   refine ⟨b::a::r,rfl,bn hstep,by simp,?_⟩
   have:(b::a::r).length=((b::a::r).reverse).length:=by simp
   rw [<-e0,this,List.take_left' rfl]
  ·rw [if_neg h] at hstep
   rw [if_neg h]
   obtain ⟨st',q1,q2,q3,q4⟩:=C2 hx (n:=n) (a::r) (b::W) (fun p hp=>hb p (List.mem_cons_of_mem _ hp)) (by simp at hl ⊢;omega)
   have e1:(a::r).reverse++b::W=r.reverse++a::b::W:=by simp
   rw [e1] at q2 q4
   exact ⟨st',q1,aE hstep q2,Nat.le_succ_of_le q3,q4⟩
theorem Xy {x:Pt} (hx:Bd 1000 x) {st:List Pt} (hb:∀p∈st,Bd 1000 p) (hl:st.length<=900):ag (FH71 st.length x st.reverse)=some ((kp x st).length,(kp x st).reverse,()):=by
 obtain ⟨st',q1,q2,q3,q4⟩:=C2 hx (n:=0) st [] hb (by simp;omega)
 simp only [List.append_nil] at q2 q4
 simp only [FH71,aB,bq,bz,aa]
 refine bind_eq q2 ?_
 simp only [List.drop_zero,List.take_succ_cons,List.take_zero,List.length_nil,Nat.zero_add,q4,q1,List.length_cons,List.reverse_cons,bC]
 rw [kM (by omega)]
theorem Jf {x v : Pt} : ∀ {st : List Pt}, v ∈ kp x st → v = x ∨ v ∈ st
 |[],h=>by simpa [kp] using h
 |[b],h=>by simpa [kp] using h
 |b::a::r,h=>by
  unfold kp at h
  split at h
  ·simpa using h
  ·rcases Jf h with h | h
   ·exact .inl h
   ·exact .inr (List.mem_cons_of_mem _ h)
theorem Jg {x : Pt} : ∀ {st : List Pt}, (kp x st).length ≤ st.length + 1
 |[]=>by simp [kp]
 |[b]=>by simp [kp]
 |b::a::r=>by
  unfold kp
  split
  ·simp
  ·have := Jg (x := x) (st := a :: r)
   simp at this ⊢;omega
theorem nO (l:List Pt) (x:Pt):fZ (l++[x])=kp x (fZ l):=by simp [fZ,List.foldl_append]
theorem lu {l:List Pt} (hb:∀p∈l,Bd 1000 p):(∀p∈fZ l,Bd 1000 p)/\(fZ l).length<=l.length:=by
 have key:∀n (l:List Pt),l.length=n->(∀p∈l,Bd 1000 p)->(∀p∈fZ l,Bd 1000 p)/\(fZ l).length<=l.length:=by
  intro n
  induction n with
  |zero=>intro l hl _;rw [List.length_eq_zero_iff.1 hl];exact ⟨by simp [fZ],by simp [fZ]⟩
  |succ n ih =>
   intro l hl hb
   have hne:l≠[]:=fun e=>by rw [e] at hl;simp at hl
   have e:=List.dropLast_concat_getLast hne
   rw [<-e] at hb ⊢
   have ih:=ih l.dropLast (by simp;omega) fun p hp=>hb p (List.mem_append_left _ hp)
   rw [nO]
   refine ⟨fun p hp=>?_,?_⟩
   ·rcases Jf hp with h | h
    ·subst h;exact hb _ (by simp)
    ·exact ih.1 p h
   ·have := Jg (x := l.getLast hne) (st := fZ l.dropLast)
    simp only [List.length_append,List.length_singleton];omega
 exact key _ l rfl hb
theorem kH55 {l:List Pt} (hl:l.length<=1000):ag (FH46 l)=some (l.length,l,()):=by
 simp only [FH46,ak,HF,bz,aa,fB]
 rw [kM (by omega)]
 split
 ·have : l = [] := List.length_eq_zero_iff.1 (by omega)
  subst this
  simp only [List.length_nil,List.drop_nil,List.take_nil,List.append_nil,Nat.add_zero]
  exact uu
 ·simp
theorem k67 {ls:List (List Pt)} (hl:ls.length<=10) (hb:ls.flatten.length<=1000):ag (F74 ls)=some (ls.flatten,()):=by
 have hpre:∀k,k<=ls.length->(ls.take k).flatten.length<=1000:=fun k _=>by
  have:(ls.take k).flatten.length<=ls.flatten.length:=by
   conv=>rhs;rw [<-List.take_append_drop k ls,List.flatten_append,List.length_append]
   omega
  omega
 have hk:∀k (h:k<ls.length),(ls.take (k+1)).flatten=(ls.take k).flatten++ls[k]:=fun k h=>by
  rw [List.take_succ_eq_append_getElem h,List.flatten_append];simp
 obtain ⟨r, q1, q2⟩ := fk (step := fun s => ag (g74_0 s)) ls.length (fun k s => s = (ls, (((ls.take k).flatten.length : Nat) : Int), ls, ((ls.length : Nat) : Int), ((k : Nat) : Int), ()))
  (fun r=>r=(ls,((ls.flatten.length:Nat):Int),())) (fun k s Oy hs=>by
   subst hs
   have g1:ls.getD k []=ls[k]:=by simp [List.getD,Oy]
   have h1:=hpre (k+1) (by omega)
   rw [hk k Oy,List.length_append] at h1
   have i1:cR (k:Int) ((ls.length:Nat):Int)=true:=bg (by omega) (by omega)
   have r1:cS .i64 ((((ls.take k).flatten.length:Nat):Int)+((ls[k].length:Nat):Int))=true:=aH (by omega) (by omega)
   have r2:cS .i64 ((k:Int)+1)=true:=aH (by omega) (by omega)
   refine ⟨_,?_,rfl⟩
   simp only [g74_0,ak,aV,aJ,aa,HE,Int.toNat_natCast,g1,i1,r1,r2,ax,aW]
   rw [if_pos (by omega),if_neg (by omega),hk k Oy,List.length_append]
   simp only [Int.natCast_add,Int.natCast_one]) (fun s hs=>by
   subst hs
   refine ⟨_,?_,rfl⟩
   simp only [g74_0,ak,aa,aW,List.take_length]
   rw [if_neg (by omega)]) (x:=(ls,0,ls,((ls.length:Nat):Int),0,())) (by simp)
 subst q2
 simp only [F74,aB,bq,aa]
 refine bind_eq q1 ?_
 have hg:∃b,ag (FH79 ((ls.flatten.length:Nat):Int))=some (0,0,b,()):=by
  simp only [FH79,ak,aW,aJ,bz,aV,aa,HE]
  rw [if_neg (by omega),av (by omega) (by omega),av (by omega) (by omega)]
  split
  ·have d1 : ((0 : Int) == (0 : Int)) = true := rfl
   have d2:decide ((0:Int)<=(0:Int))=true:=rfl
   have d3:decide ((0:Int)<=((Int.toNat (((ls.flatten.length:Nat):Int) - 0):Nat):Int))=true:=decide_eq_true (by omega)
   rw [sv (by omega) (by omega)]
   simp only [d1,d2,d3,ax]
   exact ⟨_,rfl⟩
  ·exact ⟨_,rfl⟩
 obtain ⟨b,hg⟩:=hg
 refine bind_eq hg ?_
 simp only
 obtain ⟨r, p1, p2⟩ := fk (step := fun s => ag (g74_1 s)) ls.length (fun k s => ∃ lo n b, s = (lo, n, ls, ((ls.length : Nat) : Int), ((k : Nat) : Int), b, ()) ∧ (b.drop lo).take n = (ls.take k).flatten ∧ n = (ls.take k).flatten.length)
  (fun r=>(r.2.2.1.drop r.1).take r.2.1=ls.flatten) (fun k s Oy hs=>by
   obtain ⟨lo,n,b,rfl,e1,e2⟩:=hs
   have g1:ls.getD k []=ls[k]:=by simp [List.getD,Oy]
   have h1:=hpre (k+1) (by omega)
   rw [hk k Oy,List.length_append] at h1
   have i1:cR (k:Int) ((ls.length:Nat):Int)=true:=bg (by omega) (by omega)
   have r2:cS .i64 ((k:Int)+1)=true:=aH (by omega) (by omega)
   refine ⟨_,?_,0,n+ls[k].length,(ls.take k).flatten++ls[k],rfl,?_,?_⟩
   ·simp only [g74_1, ak, aV, bz, aJ, aa, Int.toNat_natCast, g1, i1, r2, ax, aW, e1]
    rw [if_pos (by omega),kM (by omega)]
    simp only [Int.natCast_add,Int.natCast_one]
   ·rw [hk k Oy,List.drop_zero,List.take_of_length_le (by rw [List.length_append];omega)]
   ·rw [hk k Oy,List.length_append];omega) (fun s hs=>by
   obtain ⟨lo,n,b,rfl,e1,e2⟩:=hs
   refine ⟨(lo,n,b,()),?_,?_⟩
   ·simp only [g74_1, ak, aa, aW]
    rw [if_neg (by omega)]
   ·simp only;rw [e1,List.take_length]) (x:=((0:Nat),(0:Nat),ls,((ls.length:Nat):Int),0,b,())) ⟨0,0,b,by simp,by simp,by simp⟩
 exact bind_eq p1 (by rw [p2])
theorem k46 {l:List Pt} (hl:l.length<=12) (hb:∀p∈l,Bd 1000 p):ag (F63 l)=some (uU l,()):=by
 obtain ⟨n,b,q1,q2,q3⟩:=kH63 (l:=bP wS l) (by rw [fl];omega)
 rw [fl] at q1
 simp only [F63,aB,bq]
 refine bind_eq (kH55 (by omega)) ?_
 simp only
 refine bind_eq (kH61 hl) ?_
 simp only
 refine bind_eq q1 ?_
 simp only [ak,aW,aa,List.drop_zero,q3]
 have hs:uU l=CX (bw (bP wS l)):=rfl
 rw [hs]
 have SV:∀p∈bw (bP wS l),Bd 1000 p:=fun p hp=>hb p ((fK l).mem_iff.1 (jn.1 hp))
 have hnl:(bw (bP wS l)).length<=12:=by
  have key:∀k:List Pt,(bw k).length<=k.length:=by
   intro k
   match k with
   |[]=>simp [bw]
   |[a]=>simp [bw]
   |a::b::r =>
    have key2:∀n (k:List Pt),k.length=n->(bw k).length<=k.length:=by
     intro n
     induction n with
     |zero=>intro k hk;rw [List.length_eq_zero_iff.1 hk];simp [bw]
     |succ n ih =>
      intro k hk
      match k,hk with
      |[a],_=>simp [bw]
      |a::b::r,hk =>
       have:=ih (b::r) (by simpa using hk)
       unfold bw
       split
       ·simp at this ⊢;omega
       ·simp at this ⊢;omega
    exact key2 _ _ rfl
  have:=key (bP wS l)
  rw [fl] at this;omega
 generalize bw (bP wS l)=s at *
 subst q2
 unfold CX
 by_cases h3:s.length<3
 ·rw [if_pos (by omega),if_pos h3]
 rw [if_neg (by omega),if_neg h3]
 have Fg:∀k (h:k<s.length),b.getD k ((0:Int),(0:Int))=s[k]:=fun k h=>by
  have e:b[k]?=some s[k]:=by
   rw [<-List.getElem?_eq_getElem h,<-q3,List.getElem?_take,if_pos h]
  rw [List.getD_eq_getElem?_getD,e];rfl
 have tn:s.length<=b.length:=by
  have:=congrArg List.length q3
  rw [List.length_take] at this;omega
 have Gf:∀(u:List Pt) k (h:k<u.length),u.take (k+1)=u.take k++[u[k]]:=fun u k h=>List.take_succ_eq_append_getElem h
 -- there
 obtain ⟨r, p1, p2⟩ := fk (step := fun x => ag (g63_0 x)) s.length (fun k x => x = ((0 : Nat), s.length, (fZ (s.take k)).length, (0 : Nat), s.length, ((s.length : Nat) : Int), ((k : Nat) : Int), b, (fZ (s.take k)).reverse, ()))
  (fun r=>r=((0:Nat),s.length,(fZ s).length,b,(fZ s).reverse,())) (fun k x hk hx=>by
   subst hx
   obtain ⟨f1,f2⟩:=lu (l:=s.take k) fun p hp=>SV p (List.mem_of_mem_take hp)
   have f3:(s.take k).length<=12:=by simp;omega
   have i1:cR (k:Int) ((s.length:Nat):Int)=true:=bg (by omega) (by omega)
   have d1:decide (k<b.length)=true:=decide_eq_true (by omega)
   have r2:cS .i64 ((k:Int)+1)=true:=aH (by omega) (by omega)
   refine ⟨_,?_,rfl⟩
   simp only [g63_0,ak,aB,aV,bz,aJ,aa,Int.toNat_natCast,Nat.zero_add,Fg k hk,i1,d1,r2,ax,aW,bC]
   rw [if_pos (by omega)]
   refine bind_eq (Xy (SV _ (List.getElem_mem hk)) f1 (by omega)) ?_
   rw [Gf s k hk,nO]
   simp only [Int.natCast_add,Int.natCast_one]) (fun x hx=>by
   subst hx
   refine ⟨_,?_,rfl⟩
   simp only [g63_0,ak,aa,aW,List.take_length]
   rw [if_neg (by omega)]) (x:=((0:Nat),s.length,(0:Nat),(0:Nat),s.length,((s.length:Nat):Int),0,b,[],())) (by simp [fZ])
 subst p2
 refine bind_eq p1 ?_
 simp only [F73,aB,aa,aP,List.drop_zero,q3]
 -- back
 obtain ⟨r, u1, u2⟩ := fk (step := fun x => ag (g63_1i_0 x)) s.length
  (fun k x=>x=(s,((s.length:Nat):Int) - 1 - (k:Int),(fZ s).length,s,(fZ s).reverse,(fZ (s.reverse.take k)).length,(fZ (s.reverse.take k)).reverse,()))
  (fun r=>r=((fZ s.reverse).length,(fZ s).length,s,(fZ s).reverse,(fZ s.reverse).reverse,())) (fun k x hk hx=>by
   subst hx
   obtain ⟨f1,f2⟩:=lu (l:=s.reverse.take k) fun p hp=>SV p (by simpa using List.mem_of_mem_take hp)
   have f3:(s.reverse.take k).length<=12:=by simp;omega
   have t1:Int.toNat (((s.length:Nat):Int) - 1 - (k:Int))=s.length - 1 - k:=by omega
   have hk2:k<s.reverse.length:=by simpa using hk
   have g1:s.getD (s.length - 1 - k) ((0:Int),(0:Int))=s.reverse[k]:=by
    rw [List.getElem_reverse,List.getD_eq_getElem?_getD,List.getElem?_eq_getElem (by omega)];rfl
   have i1:cR (((s.length:Nat):Int) - 1 - (k:Int)) ((s.length:Nat):Int)=true:=bg (by omega) (by omega)
   have r2:cS .i64 (((s.length:Nat):Int) - 1 - (k:Int) - 1)=true:=aH (by omega) (by omega)
   refine ⟨_,?_,rfl⟩
   simp only [g63_1i_0,ak,aB,aV,bz,aJ,aa,t1,g1,i1,r2,ax,aW,bC]
   rw [if_pos (by omega)]
   refine bind_eq (Xy (SV _ (by simp)) f1 (by omega)) ?_
   rw [Gf s.reverse k hk2,nO]
   simp only [Int.natCast_add,Int.natCast_one,<-Int.sub_sub]) (fun x hx=>by
   subst hx
   refine ⟨_,?_,rfl⟩
   simp only [g63_1i_0,ak,aa,aW]
   rw [if_neg (by omega),show s.reverse.take s.length=s.reverse from List.take_of_length_le (by simp)]) (x:=(s,((s.length:Nat):Int) - 1,(fZ s).length,s,(fZ s).reverse,(0:Nat),[],())) (by simp [fZ])
 subst u2
 have hg:ag (g63_1 ((fZ s).length,s,(fZ s).reverse,()))=some ((fZ s).length,(fZ s).reverse,(fZ s.reverse).length,(fZ s.reverse).reverse,()):=by
  simp only [g63_1,aJ,aB,bq,aa]
  rw [av (by omega) (by omega)]
  exact bind_eq u1 rfl
 refine bind_eq hg ?_
 obtain ⟨f1,f2⟩:=lu SV
 obtain ⟨g1,g2⟩:=lu (l:=s.reverse) fun p hp=>SV p (by simpa using hp)
 rw [List.length_reverse] at g2
 have hne:∀u:List Pt,u≠[]->0<(fZ u).length:=fun u hu=>by
  have e:=List.dropLast_concat_getLast hu
  rw [<-e,nO]
  generalize fZ u.dropLast=st
  match st with
  |[]=>simp [kp]
  |[b]=>simp [kp]
  |b::a::r =>
   obtain ⟨st',w1,-⟩:∃st',kp (u.getLast hu) (b::a::r)=u.getLast hu::st'/\True:=by
    have key:∀st:List Pt,∃st',kp (u.getLast hu) st=u.getLast hu::st':=by
     intro st
     induction st with
     |nil=>exact ⟨[],rfl⟩
     |cons b r ih =>
      cases r with
      |nil=>exact ⟨[b],rfl⟩
      |cons a r =>
       unfold kp
       split
       ·exact ⟨_,rfl⟩
       ·exact ih
    obtain ⟨st',h⟩:=key (b::a::r)
    exact ⟨st',h,trivial⟩
   rw [w1];simp
 have hs1:=hne s (fun e=>by rw [e] at h3;simp at h3)
 have hs2:=hne s.reverse (fun e=>by
  have:=List.reverse_eq_nil_iff.1 e
  rw [this] at h3;simp at h3)
 have c1:decide ((0:Int)<=(0:Int))=true:=rfl
 have c2:decide ((0:Int)<=(((fZ s).length:Nat):Int) - 1)=true:=decide_eq_true (by omega)
 have c3:decide ((((fZ s).length:Nat):Int) - 1<=(((fZ s).length:Nat):Int))=true:=decide_eq_true (by omega)
 have c4:decide ((0:Int)<=(((fZ s.reverse).length:Nat):Int) - 1)=true:=decide_eq_true (by omega)
 have c5:decide ((((fZ s.reverse).length:Nat):Int) - 1<=(((fZ s.reverse).length:Nat):Int))=true:=decide_eq_true (by omega)
 have r1:cS .i64 ((((fZ s).length:Nat):Int) - 1)=true:=aH (by omega) (by omega)
 have r2:cS .i64 ((((fZ s.reverse).length:Nat):Int) - 1)=true:=aH (by omega) (by omega)
 simp only [aJ,bz,aB,aa,r1,r2,c1,c2,c3,c4,c5,ax,Int.toNat_zero,Nat.add_zero,List.drop_zero,Nat.sub_zero,List.take_succ_cons,List.take_zero]
 have e1:(fZ s).reverse.take (Int.toNat ((((fZ s).length:Nat):Int) - 1))=(fZ s).reverse.dropLast:=by
  rw [List.dropLast_eq_take,List.length_reverse];congr 1;omega
 have e2:(fZ s.reverse).reverse.take (Int.toNat ((((fZ s.reverse).length:Nat):Int) - 1))=(fZ s.reverse).reverse.dropLast:=by
  rw [List.dropLast_eq_take,List.length_reverse];congr 1;omega
 rw [e1,e2,az (k67 (ls:=[(fZ s).reverse.dropLast,(fZ s.reverse).reverse.dropLast]) (by simp) (by simp;omega))]
 simp
end Go.Proofs.Try
end
section
namespace Go.Proofs.Try
open Go.AM Go.fD
set_option maxRecDepth 100000
def c3 (a b c p:Pt):Bool:=decide (0<turn a b c)&&(decide (0<=turn a b p)&&(decide (0<=turn b c p)&&decide (0<=turn c a p)))
def c2 (a b p:Pt):Bool:=decide (turn a b p=0)&&(decide ((a.1 - p.1) * (b.1 - p.1)<=0)&&decide ((a.2 - p.2) * (b.2 - p.2)<=0))
section
variable {l:List Pt} {p:Pt} (hl:l.length<=1000000) (hb:∀v∈l,Bd 1000000000 v) (hp:Bd 1000000000 p)
include hl hb hp
end
end Go.Proofs.Try
end
section
namespace Go.Proofs.Try
open Go.AM Go.fD
set_option maxRecDepth 100000
theorem k45 {p:Pt} (h:Bd 1000 p):ag (F62 p)=some (false,()):=by
 obtain ⟨h1,h2,h3,h4⟩:=h
 have e:∀z:Int,-1000<=z->z<=1000->ag (F50 z 1000)=some (true,()):=fun z h1 h2=>by
  simp only [F50,aJ,ak,aW,aa]
  rw [av (by omega) (by omega),if_pos (by omega)]
  simp [h2]
 simp only [F62,F23,aB,ak,aa,e _ h1 h2,e _ h3 h4,aP,cu]
 rfl
theorem k44 {l:List Pt} (hl:l.length<=1000) (hb:∀p∈l,Bd 1000 p):ag (F61 l)=some (false,()):=by
 have h60:ag (F67 l)=some (-1,()):=by
  simp only [F67,aB,bq]
  refine bind_eq (lp l (fun k (_:Unit)=>(l,((l.length:Nat):Int),(k:Int),())) (fun _ _=>.inr ()) (fun _ _=>True) ?_ ?_ (s:=()) trivial) rfl
  ·rintro pre x post _ hx -
   have hlen:l.length=pre.length+(post.length+1):=by rw [hx];simp
   have hd:l.getD pre.length ((0:Int),(0:Int))=x:=by rw [hx];exact dQ rfl
   have i1:cR (pre.length:Int) ((l.length:Nat):Int)=true:=bg (by omega) (by omega)
   have r1:cS .i64 ((pre.length:Int)+1)=true:=aH (by omega) (by omega)
   left
   refine ⟨(),?_,trivial,rfl⟩
   simp only [g67_0,ak,aV,aB,aJ,aa,Int.toNat_natCast,hd,i1,r1,ax,aW,bC,k45 (hb x (by rw [hx];simp)),aP,aY]
   rw [if_pos (by omega)];rfl
  ·rintro _ _
   simp only [g67_0,ak,aW,aa]
   rw [if_neg (by omega)]
 simp only [F61,aB,h60,aP,aa]
 rfl
theorem k24 {l:List Pt} (h1:l≠[]) (hl:l.length<=12) (hb:∀p∈l,Bd 1000 p):ag (F55 l)=some (uU l,0,()):=by
 have h0:l.length≠0:=fun e=>h1 (List.length_eq_zero_iff.1 e)
 simp only [F55,ak,aW,fB,aB,aa]
 rw [if_neg (by omega),if_neg (by omega)]
 refine bind_eq (k44 (by omega) hb) ?_
 rw [aY]
 exact bind_eq (k46 hl hb) rfl
theorem k47 {l:List Pt} (hl:l.length<=1000):ag (F56 l l)=some (true,()):=by
 simp only [F56,ak,fj,fB,aB,bq,aa]
 rw [if_pos trivial]
 refine bind_eq (lp l (fun k (_:Unit)=>(l,l,((l.length:Nat):Int),(k:Int),())) (fun _ _=>.inr ()) (fun _ _=>True) ?_ ?_ (s:=()) trivial) rfl
 ·rintro pre x post _ hx -
  have hlen:l.length=pre.length+(post.length+1):=by rw [hx];simp
  have i1:cR (pre.length:Int) ((l.length:Nat):Int)=true:=bg (by omega) (by omega)
  have r1:cS .i64 ((pre.length:Int)+1)=true:=aH (by omega) (by omega)
  left
  refine ⟨(),?_,trivial,rfl⟩
  simp only [g56_0,ak,aV,aJ,aa,Int.toNat_natCast,i1,r1,ax,aW,fj,Ym]
  rw [if_pos (by omega),if_pos trivial];rfl
 ·rintro _ _
  simp only [g56_0,ak,aW,aa]
  rw [if_neg (by omega)]
structure SW (ls:List (List Pt)):Prop where
 len:ls.length<=6
 ne:∀l∈ls,l≠[]
 le:∀l∈ls,l.length<=8
 bd:∀l∈ls,∀p∈l,Bd 1000 p
 hull:∀l∈ls,uU l=l
theorem k29 {ls:List (List Pt)} (h:SW ls):ag (F38 ls)=some (0,()):=by
 have hlen:=h.len
 simp only [F38,ak,aW,aB,bq,aa]
 rw [if_neg (by omega)]
 refine bind_eq (lp ls (fun k (_:Unit)=>(ls,((ls.length:Nat):Int),(k:Int),())) (fun _ _=>.inr ()) (fun _ _=>True) ?_ ?_ (s:=()) trivial) rfl
 ·rintro pre x post _ hx -
  have hlen:ls.length=pre.length+(post.length+1):=by rw [hx];simp
  have Yp:x∈ls:=by rw [hx];simp
  have hd:ls.getD pre.length []=x:=by rw [hx];exact dQ rfl
  have i1:cR (pre.length:Int) ((ls.length:Nat):Int)=true:=bg (by omega) (by omega)
  have r1:cS .i64 ((pre.length:Int)+1)=true:=aH (by omega) (by omega)
  have hle:=h.le x Yp
  have q1:=k24 (h.ne x Yp) (by omega) (h.bd x Yp)
  rw [h.hull x Yp] at q1
  left
  refine ⟨(),?_,trivial,rfl⟩
  simp only [g38_0,ak,aV,aB,aJ,aa,Int.toNat_natCast,hd,i1,r1,ax,aW,fj,fB,q1,aP,k47 (l:=x) (by omega)]
  rw [if_pos (by omega),if_neg (by omega),if_pos trivial,cu];rfl
 ·rintro _ _
  simp only [g38_0,ak,aW,aa]
  rw [if_neg (by omega)]
def oct (p:Pt):Pt:=(Int.tdiv p.1 8,Int.tdiv p.2 8)
def cl (a:List Pt):List Pt:=if a=[] then [(1,1)] else (a.take 4).map oct
end Go.Proofs.Try
end
section
namespace Go.Proofs.Try
open Go.AM Go.fD
set_option maxRecDepth 100000
theorem Bf (o:List Pt) (U:List (List Pt)) (l:List Pt):jS o (U++[l])=(jS o U).flatMap fun p=>l.map fun q=>add p q:=by simp [jS,List.foldl_append]
end Go.Proofs.Try
end
section
namespace Go.Proofs.Try
open Go.AM Go.fD
set_option maxRecDepth 100000
theorem sU {α : Type} {lt lt' : α → α → Bool} {x : α} : ∀ {R : List α}, (∀ y ∈ R, lt x y = lt' x y) → fX lt x R = fX lt' x R
 |[],_=>rfl
 |y::R,h=>by
  unfold fX
  rw [h y (by simp),sU fun z hz=>h z (by simp [hz])]
theorem pM {α : Type} {lt lt' : α → α → Bool} : ∀ {l R : List α}, l.Pairwise (fun y x => lt x y = lt' x y) → (∀ x ∈ l, ∀ y ∈ R, lt x y = lt' x y) → jQ lt R l = jQ lt' R l
 |[],R,_,_=>rfl
 |x::l,R,hp,h=>by
  have Tn:=List.pairwise_cons.1 hp
  show jQ lt (fX lt x R) l=jQ lt' (fX lt' x R) l
  rw [<-sU (fun y hy=>h x (by simp) y hy)]
  refine pM Tn.2 fun z hz y hy=>?_
  rcases List.mem_cons.1 ((fJ x R).mem_iff.1 hy) with rfl|hy
  ·exact Tn.1 z hz
  ·exact h z (by simp [hz]) y hy
theorem zn {α:Type} {lt lt':α->α->Bool} {l:List α} (h:l.Pairwise (fun y x=>lt x y=lt' x y)):bP lt l=bP lt' l:=by
 unfold bP;rw [pM h (by simp)]
theorem zo {α β : Type} {f : α → β} {lt : β → β → Bool} {x : α} : ∀ {R : List α}, (fX (fun a b => lt (f a) (f b)) x R).map f = fX lt (f x) (R.map f)
 |[]=>rfl
 |y::R=>by
  unfold fX
  simp only [List.map_cons]
  split
  ·rw [List.map_cons,zo]
  ·rfl
theorem EW {α β:Type} {f:α->β} {lt:β->β->Bool} {l:List α}:(bP (fun a b=>lt (f a) (f b)) l).map f=bP lt (l.map f):=by
 have key:∀(l R:List α),(jQ (fun a b=>lt (f a) (f b)) R l).map f=jQ lt (R.map f) (l.map f):=by
  intro l
  induction l with
  |nil=>intro R;rfl
  |cons x l ih =>
   intro R
   show (jQ _ (fX _ x R) l).map f=jQ lt (fX lt (f x) (R.map f)) (l.map f)
   rw [ih,zo]
 unfold bP
 rw [List.map_reverse,key];rfl
abbrev xe:=(Pt×Pt)×Int
def EX (x:xe):Go.fD.Own:=(x.1.2,x.2.toNat)
def zq (a b:xe):Bool:=if a.1=b.1 then decide (a.2<b.2) else RX a.1.2 b.1.2
structure nP (x:xe):Prop where
 bd:Bd 2000 x.1.2
 u0:0<=x.2
 u1:x.2<=100
theorem k53 (d:Pt):ag (F44 d)=some (if h0 d=true then 0 else 1,()):=by
 simp only [F44,ak,aW,fB,aa,h0]
 by_cases h1:0<d.1
 ·simp [h1]
 ·by_cases h2 : d.1 = 0
  ·by_cases h3:0<d.2<;>simp [h1,h2,h3]
  ·simp [h1,h2]
theorem eq4 (a b:Pt×Pt):(a.1.1==b.1.1&&(a.1.2==b.1.2&&(a.2.1==b.2.1&&(a.2.2==b.2.2&&true))))=decide (a=b):=by
 rcases a with ⟨⟨a1,a2⟩,⟨a3,a4⟩⟩;rcases b with ⟨⟨b1,b2⟩,⟨b3,b4⟩⟩
 simp only [Prod.mk.injEq,Bool.and_true]
 by_cases h1:a1=b1<;>by_cases h2:a2=b2<;>by_cases h3:a3=b3<;>by_cases h4:a4=b4<;>simp [h1,h2,h3,h4]
theorem k51 {a b:xe} (ha:nP a) (hb:nP b):∃z,ag (F42 (a.1.1.1,a.1.1.2,a.1.2.1,a.1.2.2,a.2) (b.1.1.1,b.1.1.2,b.1.2.1,b.1.2.2,b.2))=some (z,())/\(z<0↔zq a b=true):=by
 have Fa:=ha.u0;have Jx:=ha.u1;have jv:=hb.u0;have iF:=hb.u1
 simp only [F42,ak,eq4,aW,aJ,aB,aa,bC,k53,aP]
 unfold zq
 by_cases h:a.1=b.1
 ·rw [if_pos h, if_pos h, av (by omega) (by omega)]
  exact ⟨_,rfl,by simp;omega⟩
 ·rw [if_neg h, if_neg h]
  refine ⟨EU [(if h0 a.1.2=true then (0:Int) else 1) - (if h0 b.1.2=true then (0:Int) else 1),nN 0 (cr a.1.2 b.1.2)],?_,?_⟩
  ·rw [av (by split <;> split <;> omega) (by split <;> split <;> omega)]
   refine bind_eq (SU (ha.bd.le (by omega)) (hb.bd.le (by omega))) ?_
   simp only [k54,aP,List.drop_zero,List.take_succ_cons,List.take_zero]
   rw [az (k52 _ (by simp))]
  ·have c0:(nN 0 (cr a.1.2 b.1.2)<0↔0<cr a.1.2 b.1.2)/\(nN 0 (cr a.1.2 b.1.2)=0↔cr a.1.2 b.1.2=0):=by
    unfold nN
    split
    ·constructor<;>constructor<;>intro h<;>omega
    ·split<;>constructor<;>constructor<;>intro h<;>omega
   rw [lq]
   unfold al
   generalize nN 0 (cr a.1.2 b.1.2)=q at c0 ⊢
   cases e1:h0 a.1.2<;>cases e2:h0 b.1.2<;>simp [EU]<;>first|(split<;>omega)|omega|skip
theorem kH74 {l:List xe} (hg:∀x∈l,nP x) (hl:l.length<=1000):ag (FH64_v1 l.length 0 l.length l)=some (bP zq l,()):=by
 simp only [FH64_v1,aJ,aB,bq,aa]
 rw [av (by omega) (by omega)]
 refine bind_eq (uJ (lt:=zq) (Good:=nP) (n:=l.length) (fun k m=>(l.length,(0:Int),((l.length:Nat):Int),(k:Int),m,())) (fun m=>(m,())) ?_ ?_ hg rfl) rfl
 ·intro R x Q hR hg' hn
  simp only [gH64_v1_0,ak,aB,bq,aa,aJ,aW]
  rw [if_pos (by omega)]
  refine bind_eq (oD (lt:=zq) (Good:=nP) (n:=l.length) (fun k m=>(l.length,(0:Int),((l.length:Nat):Int),(R.length:Int),(k:Int),m,())) (fun m=>(l.length,(0:Int),((l.length:Nat):Int),(R.length:Int),m,())) ?_ ?_ R x Q hg' hn) ?_
  ·intro L y x W hg2 hn2
   have t1:Int.toNat (((L.length+1:Nat):Int) - 1)=L.length:=by omega
   have g1:(L++y::x::W).getD (L.length+1) ((((0:Int),(0:Int)),(0:Int),(0:Int)),(0:Int))=x:=by
    rw [show L++y::x::W=(L++[y])++x::W by simp];exact dQ (by simp)
   have g2:(L++y::x::W).getD L.length ((((0:Int),(0:Int)),(0:Int),(0:Int)),(0:Int))=y:=dQ rfl
   have s1:(L++y::x::W).set (L.length+1) y=L++y::y::W:=by
    rw [show L++y::x::W=(L++[y])++x::W by simp,lf (by simp)];simp
   have s2:(L++y::y::W).set L.length x=L++x::y::W:=lf rfl
   have i1:cR ((L.length+1:Nat):Int) ((l.length:Nat):Int)=true:=bg (by omega) (by omega)
   have i2:cR (((L.length+1:Nat):Int) - 1) ((l.length:Nat):Int)=true:=bg (by omega) (by omega)
   have r1:cS .i64 (((L.length+1:Nat):Int) - 1)=true:=aH (by omega) (by omega)
   have d1:decide (L.length+1<(L++y::x::W).length)=true:=decide_eq_true (by simp)
   have d2:decide (L.length<(L++y::x::W).length)=true:=decide_eq_true (by simp)
   have d3:decide (L.length<(L++y::y::W).length)=true:=decide_eq_true (by simp)
   obtain ⟨z,hz,Je⟩:=k51 (hg2 x (by simp)) (hg2 y (by simp))
   simp only [gH64_v1_1,ak,aB,aV,bz,aJ,aa,Int.toNat_natCast,t1,Nat.zero_add,g1,g2,hz,aP,i1,i2,r1,d1,d2,ax,aW,bC,s1,s2,d3]
   rw [if_pos (by omega)]
   by_cases hc:z<0
   ·rw [if_pos hc, if_pos (Je.1 hc)]
    have:(((L.length+1:Nat):Int) - 1)=(L.length:Int):=by omega
    rw [this]
   ·rw [if_neg hc,if_neg (fun h=>hc (Je.2 h))]
  ·intro m
   simp only [gH64_v1_1,ak,aW,aa]
   rw [if_neg (by omega)]
  ·simp only []
   rw [av (by omega) (by omega)]
   simp
 ·intro k m hk
  simp only [gH64_v1_0,ak,aW,aa]
  rw [if_neg (by omega)]
theorem kH50 {l:List xe} (hg:∀x∈l,nP x) (hl:l.length<=19):ag (FH41_v1 l.length l)=some (bP zq l,()):=by
 simp only [FH41_v1,FH57_v1,aB,bq,aa]
 rw [bn (b := (l.length, ((l.length : Nat) : Int), (20 : Int), (0 : Int), l, ())) (by
  simp only [gH57_v1_0,ak,aW,aa];rw [if_neg (by omega)])]
 simp only [aP]
 rw [az (kH74 hg (by omega))]
 rw [bn (b := (bP zq l, ())) (by
  simp only [gH57_v1_1,ak,aW,aa];rw [if_neg (by omega)])]
 simp only [aP]
def aO (l:List Pt):List (Pt×Pt):=if 1<l.length then (List.range l.length).map fun i=>(l.getD i (0,0),sub (l.getD ((i+1) % l.length) (0,0)) (l.getD i (0,0))) else []
theorem Bg (a:Pt) (ds:List Pt):(sd a ds).length=ds.length:=by
 induction ds generalizing a with
 |nil=>rfl
 |cons d r ih=>simp [sd,ih]
theorem Bh {a:Pt} {ds:List Pt} {i:Nat} (h:i<ds.length):(sd a ds)[i]?=some (iC a ds i,ds[i]):=by
 induction ds generalizing a i with
 |nil=>simp at h
 |cons d r ih =>
  cases i with
  |zero=>simp [sd,nI]
  |succ i =>
   simp only [sd,List.getElem?_cons_succ,List.getElem_cons_succ]
   rw [ih (a:=add a d) (by simpa using h)]
   simp [iC,sm,add_assoc]
theorem Bi {ds:List Pt} (h:Sd ds) (hne:ds≠[]):2<=ds.length:=by
 by_cases hl:3<=ds.length
 ·omega
 ·rcases Ba h hl with rfl | ⟨d, rfl, -⟩
  ·exact (hne rfl).elim
  ·simp
theorem sV {a:Pt} {ds:List Pt} (hne:ds≠[]) {i:Nat} (h:i<ds.length):(cs a ds).getD i (0,0)=iC a ds i:=by
 unfold cs
 rw [if_neg hne,List.getD_eq_getElem?_getD,List.getElem?_eq_getElem (by rw [A5];exact h)]
 exact RP h
theorem mJ {a:Pt} {ds:List Pt} (hne:ds≠[]):(cs a ds).length=ds.length:=by unfold cs;rw [if_neg hne,A5]
theorem oW {a:Pt} {ds:List Pt} (h:Sd ds):aO (cs a ds)=sd a ds:=by
 by_cases hne:ds=[]
 ·subst hne;simp [aO,cs,sd]
 have h2:=Bi h hne
 unfold aO
 rw [mJ hne,if_pos (by omega)]
 apply List.ext_getElem?
 intro i
 by_cases hi:i<ds.length
 ·rw [Bh hi, List.getElem?_map, List.getElem?_range hi]
  simp only [Option.map_some,Option.some.injEq,Prod.mk.injEq]
  rw [sV hne hi]
  refine ⟨rfl,?_⟩
  have e:(cs a ds).getD ((i+1) % ds.length) (0,0)=iC a ds (i+1):=by
   by_cases hl:i+1<ds.length
   ·rw [Nat.mod_eq_of_lt hl,sV hne hl]
   ·have : i + 1 = ds.length := by omega
    rw [this,Nat.mod_self,sV hne (by omega),sM h,nI]
  rw [e,zg hi]
  simp only [sub,add]
  exact Prod.ext (by simp only [];omega) (by simp only [];omega)
 ·rw [List.getElem?_eq_none (by simp;omega),List.getElem?_eq_none (by rw [Bg];omega)]
def cP (ls:List (List Pt)):List xe:=(ls.zipIdx.map fun x=>(aO x.1).map fun s=>(s,(x.2:Int))).flatten
theorem lz (ls:List (List Pt)) (l:List Pt):cP (ls++[l])=cP ls++(aO l).map fun s=>(s,(ls.length:Int)):=by
 unfold cP
 rw [List.zipIdx_append,List.map_append,List.flatten_append]
 simp
theorem zu {U:List cL} (h:∀x∈U,Sd x.2):(cP (bM U)).map EX=jH U 0:=by
 have R1:∀(a:Pt) (ds:List Pt),(sd a ds).map (·.2)=ds:=by
  intro a ds
  induction ds generalizing a with
  |nil=>rfl
  |cons d r ih=>simp [sd,ih]
 have key:∀(U:List cL) (k:Nat),(∀x∈U,Sd x.2)->((((bM U).zipIdx k).map fun x=>(aO x.1).map fun s=>((s,(x.2:Int)):xe)).flatten).map EX=jH U k:=by
  intro U
  induction U with
  |nil=>intro k _;rfl
  |cons x U ih =>
   intro k h
   simp only [bM,List.map_cons,List.zipIdx_cons,List.flatten_cons,List.map_append]
   have:=ih (k+1) fun y hy=>h y (by simp [hy])
   simp only [bM] at this
   rw [this,oW (h x (by simp)),List.map_map,jH]
   congr 1
   conv=>rhs;rw [<-R1 x.1 x.2,List.map_map]
   exact List.map_congr_left fun s _=>by simp [EX]
 exact key U 0 h
theorem pN (ls:List (List Pt)):(cP ls).Pairwise (fun a b=>a.2<=b.2)/\∀x∈cP ls,0<=x.2/\x.2<ls.length:=by
 have key:∀n (ls:List (List Pt)),ls.length=n->(cP ls).Pairwise (fun a b=>a.2<=b.2)/\∀x∈cP ls,0<=x.2/\x.2<ls.length:=by
  intro n
  induction n with
  |zero=>intro ls hl;rw [List.length_eq_zero_iff.1 hl];exact ⟨.nil,by simp [cP]⟩
  |succ n ih =>
   intro ls hl
   have hne:ls≠[]:=fun e=>by rw [e] at hl;simp at hl
   have e:=List.dropLast_concat_getLast hne
   obtain ⟨i1,i2⟩:=ih ls.dropLast (by simp;omega)
   rw [<-e,lz]
   refine ⟨List.pairwise_append.2 ⟨i1,?_,fun a ha b hb=>?_⟩,fun x hx=>?_⟩
   ·rw [List.pairwise_map]
    exact List.pairwise_of_forall fun _ _=>Int.le_refl _
   ·obtain ⟨s, _, rfl⟩ := List.mem_map.1 hb
    have:=(i2 a ha).2
    simp only;omega
   ·rcases List.mem_append.1 hx with hx | hx
    ·have := i2 x hx
     simp only [List.length_append,List.length_singleton];omega
    ·obtain ⟨s, _, rfl⟩ := List.mem_map.1 hx
     simp only [List.length_append,List.length_singleton];omega
 exact key _ ls rfl
theorem C3 {U:List cL} (h:∀x∈U,Sd x.2):(bP zq (cP (bM U))).map EX=gW U:=by
 have e1:bP zq (cP (bM U))=bP (fun a b=>(fun x y:Go.fD.Own=>RX x.1 y.1) (EX a) (EX b)) (cP (bM U)):=by
  refine zn ((pN (bM U)).1.imp fun {y x} Yo=>?_)
  simp only [zq,EX]
  split
  ·rename_i e
   rw [e]
   have:¬al y.1.2 y.1.2:=A4
   rw [<-lq,Bool.not_eq_true] at this
   rw [this]
   exact decide_eq_false (by omega)
  ·rfl
 rw [e1]
 refine (EW (f:=EX) (lt:=fun x y:Go.fD.Own=>RX x.1 y.1)).trans ?_
 rw [zu h]
 rfl
end Go.Proofs.Try
end
section
namespace Go.Proofs.Try
open Go.AM Go.fD
set_option maxRecDepth 100000
theorem Gu {K:Int} (h:0<=K):Bd K ((0:Int),(0:Int)):=⟨by simp;omega,by simp;omega,by simp;omega,by simp;omega⟩
theorem k35 {a b:Pt} (ha:Bd 1000000000 a) (hb:Bd 1000000000 b):ag (F18 a b)=some (add a b,()):=by
 have h1:=ha.1;have h2:=ha.2;have h3:=hb.1;have h4:=hb.2
 obtain ⟨a1,a2,a3,a4⟩:=ha;obtain ⟨b1,b2,b3,b4⟩:=hb
 simp only [F18,aJ,aa]
 rw [av (by omega) (by omega),av (by omega) (by omega)]
 rfl
theorem Xz {l:List Pt} (hl:l.length<=1000):ag (FH46_v1 l.length l)=some (l.length,l,l,()):=by
 have d1:decide ((0:Nat)+((l.drop 0).take l.length).length<bU)=true:=decide_eq_true (by rw [k9];simp;omega)
 simp only [FH46_v1,ak,HF,bz,aa,d1,ax]
 cases l with
 |nil=>simp
 |cons a l =>
  rw [qd (by simp;omega)]
  simp
theorem zw {α:Type} {l:List α} {x:α} (h:l≠[]):l.set (l.length - 1) x=l.dropLast++[x]:=by
 have e:=List.dropLast_concat_getLast h
 have:l.length - 1=l.dropLast.length:=by simp
 rw [this]
 conv=>lhs;rw [<-e]
 exact lf (A:=l.dropLast) (B:=[]) (by simp)
theorem zx {α:Type} {l:List α} (h:l≠[]) {x:α}:(l.dropLast++[x]).length=l.length:=by
 cases l with
 |nil=>exact (h rfl).elim
 |cons a l=>simp
theorem in33 {l:List Pt} {ls:List (List Pt)} {n k:Nat} {IB fC c1 c2:Int} {b3:List Pt} {B:List xe} (hl:l.length<=1000) (hb:∀p∈l,Bd 1000 p) (hB:B.length<=100000) :
  ag (g16_1 (n,ls,IB,fC,l,B.length,c1,c2,b3,(k:Int),B,()))=some (n,ls,IB,fC,(B++(aO l).map fun s=>(s,(k:Int))).length,c1,c2,b3,(B++(aO l).map fun s=>(s,(k:Int))),()):=by
 have hgd:∀i,Bd 1000 (l.getD i (0,0)):=fun i=>by
  by_cases h:i<l.length
  ·exact hb _ (cB h)
  ·rw [gT _ (by omega)];exact Gu (by omega)
 obtain ⟨r, q1, q2⟩ := fk (step := fun s => ag (g16_1i_0 s)) l.length (fun i s => s = (l, l, ((l.length : Nat) : Int), (i : Int), n, ls, IB, fC, l, (B ++ ((aO l).take i).map fun s => (s, (k : Int))).length, c1, c2, b3, (k : Int), (B ++ ((aO l).take i).map fun s => (s, (k : Int))), ()))
  (fun r=>r=((B++(aO l).map fun s=>(s,(k:Int))).length,c1,c2,(k:Int),n,ls,IB,fC,l,b3,(B++(aO l).map fun s=>(s,(k:Int))),())) (fun i s hi hs=>by
   subst hs
   have j1:cR (i:Int) ((l.length:Nat):Int)=true:=bg (by omega) (by omega)
   have r3:cS .i64 ((i:Int)+1)=true:=aH (by omega) (by omega)
   by_cases h1:1<l.length
   ·have Dd : (aO l).length = l.length := by unfold aO; rw [if_pos h1]; simp
    have e1:(aO l).take (i+1)=(aO l).take i++[(l.getD i (0,0),sub (l.getD ((i+1) % l.length) (0,0)) (l.getD i (0,0)))]:=by
     rw [List.take_succ_eq_append_getElem (by omega)]
     simp [aO,h1]
    have tm:Int.tmod ((i:Int)+1) ((l.length:Nat):Int)=(((i+1) % l.length:Nat):Int):=by
     have e:((i:Int)+1)=((i+1:Nat):Int):=by omega
     rw [e];exact Int.ofNat_tmod _ _
    have hlt:(i+1) % l.length<l.length:=Nat.mod_lt _ (by omega)
    have j2:cR (((i+1) % l.length:Nat):Int) ((l.length:Nat):Int)=true:=bg (Int.natCast_nonneg _) (Int.ofNat_lt.2 hlt)
    have z0:(!(((l.length:Nat):Int)==0))=true:=by rw [Bool.not_eq_true',beq_eq_false_iff_ne];omega
    have lb:((aO l).take i).length<=1000:=by rw [List.length_take];omega
    have hM:(B++((aO l).take i).map fun s=>((s,(k:Int)):xe)).length<=200000:=by rw [List.length_append,List.length_map];omega
    have em:(B++((aO l).take (i+1)).map fun s=>((s,(k:Int)):xe))=(B++((aO l).take i).map fun s=>((s,(k:Int)):xe))++[((l.getD i (0,0),sub (l.getD ((i+1) % l.length) (0,0)) (l.getD i (0,0))),(k:Int))]:=by
     rw [e1];simp
    generalize (B++((aO l).take i).map fun s=>((s,(k:Int)):xe))=M at hM em
    have d1:∀x:xe,decide (M.length+(List.take 1 (List.drop 0 [x])).length<bU)=true:=fun x=>decide_eq_true (by rw [k9];simp;omega)
    rw [em]
    refine ⟨_,?_,rfl⟩
    simp only [g16_1i_0,ak,aV,aJ,bz,aB,aa,j1,r3,ax,aW,tm,Int.toNat_natCast,z0,j2,bC]
    rw [if_pos (by omega),if_pos (by omega),az (JE ((hgd _).le (by omega)) ((hgd _).le (by omega)))]
    simp only [d1,ax]
    simp
   ·have Dd : aO l = [] := by unfold aO; rw [if_neg h1]
    refine ⟨_,?_,rfl⟩
    simp only [g16_1i_0,ak,aV,aJ,bz,aB,aa,j1,r3,ax,aW]
    rw [if_pos (by omega),if_neg (by omega)]
    simp [Dd]) (fun s hs=>by
   subst hs
   refine ⟨_,?_,rfl⟩
   have:(aO l).take l.length=aO l:=List.take_of_length_le (by unfold aO;split<;>simp)
   simp only [g16_1i_0,ak,aa,aW,this]
   rw [if_neg (by omega)]) (x:=(l,l,((l.length:Nat):Int),0,n,ls,IB,fC,l,B.length,c1,c2,b3,(k:Int),B,())) (by simp)
 subst q2
 simp only [g16_1,aB,bq,aa]
 rw [az q1]
end Go.Proofs.Try
end
section
namespace Go.Proofs.Try
open Go.AM Go.fD
set_option maxRecDepth 100000
theorem uX {a:Pt} {ds:List Pt}:(cs a ds).getD 0 (0,0)=a/\0<(cs a ds).length:=by
 unfold cs
 cases ds with
 |nil=>simp
 |cons d r=>simp [vs]
theorem Jh {l:List Pt} {K:Int} {n:Nat} (hn:l.length<=n) (h:∀p∈l,Bd K p) (hK:0<=K):Bd (K * n) (sm l):=by
 induction l generalizing n with
 |nil=>simp only [sm];exact Gu (Int.mul_nonneg hK (Int.natCast_nonneg _))
 |cons a l ih =>
  obtain ⟨m,rfl⟩:∃m,n=m+1:=⟨n - 1,by simp at hn;omega⟩
  have:=sS (h a (by simp)) (ih (n:=m) (by simpa using hn) fun p hp=>h p (by simp [hp]))
  refine this.le ?_
  have e:K * ((m+1:Nat):Int)=K * m+K:=by rw [Int.natCast_add,Int.mul_add];simp
  omega
structure zy (U:List cL):Prop where
 len:U.length<=4
 sd:∀x∈U,Sd x.2
 bd:∀l∈bM U,∀p∈l,Bd 1000 p
 sz:∀l∈bM U,l.length<=1000
 tot:(cP (bM U)).length<=19
theorem wU {U:List cL} {k:Nat} (h:k<U.length):(bM U).getD k []=cs U[k].1 U[k].2:=by
 simp [bM,List.getD,h]
theorem zy.hd {U:List cL} (h:zy U) {x:cL} (hx:x∈U):Bd 1000 x.1:=by
 have hm:cs x.1 x.2∈bM U:=List.mem_map.2 ⟨x,hx,rfl⟩
 have:=h.bd _ hm _ (cB (d:=(0,0)) (uX (a:=x.1) (ds:=x.2)).2)
 rwa [uX.1] at this
theorem tF (ls:List (List Pt)):∀k,(cP (ls.take k)).length<=(cP ls).length:=by
 intro k
 have:∀m,(cP (ls.take k)).length<=(cP (ls.take (k+m))).length:=by
  intro m
  induction m with
  |zero=>exact Nat.le_refl _
  |succ m ih =>
   refine Nat.le_trans ih ?_
   by_cases h:k+m<ls.length
   ·rw [show k+(m+1)=(k+m)+1 by omega,List.take_succ_eq_append_getElem h,lz];simp
   ·rw [List.take_of_length_le (by omega),List.take_of_length_le (by omega)];exact Nat.le_refl _
 have:=this ls.length
 have e:ls.take (k+ls.length)=ls:=List.take_of_length_le (by omega)
 rw [e] at this
 exact this
theorem R2 {U:List cL} (h:zy U):iter (fun s=>ag (g16_0 s)) (0,bM U,(((bM U).length:Nat):Int),0,0,0,0,[],[],())=some (U.length,(cP (bM U)).length,(jr U).1,(jr U).2,U.map (·.1),cP (bM U),()):=by
 have XA:(bM U).length=U.length:=by simp [bM]
 obtain ⟨r, q1, q2⟩ := fk (step := fun s => ag (g16_0 s)) U.length (fun k s => s = (k, bM U, (((bM U).length : Nat) : Int), (k : Int), (cP ((bM U).take k)).length, (sm ((U.take k).map (·.1))).1, (sm ((U.take k).map (·.1))).2, (U.take k).map (·.1), cP ((bM U).take k), ()))
  (fun r=>r=(U.length,(cP (bM U)).length,(jr U).1,(jr U).2,U.map (·.1),cP (bM U),())) (fun k s hk hs=>by
   subst hs
   have hU:=h.len
   have j1:cR (k:Int) (((bM U).length:Nat):Int)=true:=bg (by omega) (by omega)
   have r3:cS .i64 ((k:Int)+1)=true:=aH (by omega) (by omega)
   have hx:U[k]∈U:=List.getElem_mem hk
   have hm:cs U[k].1 U[k].2∈bM U:=List.mem_map.2 ⟨_,hx,rfl⟩
   have g1:=wU hk
   obtain ⟨g2,g3⟩:=uX (a:=U[k].1) (ds:=U[k].2)
   have j2:cR (0:Int) (((cs U[k].1 U[k].2).length:Nat):Int)=true:=bg (by omega) (by omega)
   have Fg:Bd 1000000 (sm ((U.take k).map (·.1))):=by
    refine (Jh (n:=4) (K:=1000) (by simp;omega) (fun p hp=>?_) (by omega)).le (by omega)
    obtain ⟨y,hy,rfl⟩:=List.mem_map.1 hp
    exact h.hd (List.mem_of_mem_take hy)
   have d1:∀x:Pt,decide (k+(List.take 1 (List.drop 0 [x])).length<bU)=true:=fun x=>decide_eq_true (by rw [k9];simp;omega)
   have eB:(U.take (k+1)).map (·.1)=(U.take k).map (·.1)++[U[k].1]:=by rw [List.take_succ_eq_append_getElem hk,List.map_append];rfl
   have eS:sm ((U.take (k+1)).map (·.1))=add (sm ((U.take k).map (·.1))) U[k].1:=by rw [eB,bZ];simp [sm,add_zero]
   have eO:cP ((bM U).take (k+1))=cP ((bM U).take k)++(aO (cs U[k].1 U[k].2)).map fun s=>(s,(k:Int)):=by
    rw [List.take_succ_eq_append_getElem (by omega),lz]
    have:(bM U)[k]'(by omega)=cs U[k].1 U[k].2:=by simp [bM]
    rw [this,List.length_take,Nat.min_eq_left (by omega)]
   have hle:(cP ((bM U).take k)).length<=100000:=by have:=tF (bM U) k;have:=h.tot;omega
   have tk:((U.take k).map (·.1)).take k=(U.take k).map (·.1):=List.take_of_length_le (by simp;omega)
   refine ⟨_,?_,rfl⟩
   simp only [g16_0,ak,aV,aJ,bz,aB,aa,j1,r3,ax,aW,Int.toNat_natCast,g1,j2,Int.toNat_zero,g2,bC,F20]
   rw [if_pos (by omega),az (k35 (Fg.le (by omega)) ((h.hd hx).le (by omega)))]
   simp only [d1,ax,aP]
   rw [az (in33 (h.sz _ hm) (h.bd _ hm) hle)]
   simp only [r3,ax]
   rw [eO,eS,eB,List.drop_zero,List.drop_zero,tk]
   simp) (fun s hs=>by
   subst hs
   refine ⟨_,?_,rfl⟩
   simp only [g16_0,ak,aa,aW,XA]
   rw [if_neg (by omega),<-XA,List.take_length,XA,List.take_length]
   rfl) (x:=(0,bM U,(((bM U).length:Nat):Int),0,0,0,0,[],[],())) (by simp [sm,cP])
 rw [q1,q2]
structure SB (U:List cL) (k:Nat) (s:Jb):Prop where
 at_:Bd (4000+2000 * k) s.1
 len:s.2.1.length=U.length
 now:∀p∈s.2.1,Bd (1000+2000 * k) p
 c:s.2.2.1≠[]/\s.2.2.1.length<=k+1
 l2:s.2.2.2.1.length=s.2.2.1.length
 d:Bd 2000 s.2.2.2.2
theorem SB.step {U:List cL} {k:Nat} {s:Jb} (h:SB U k s) {x:Go.fD.Own} (hx:Bd 2000 x.1):SB U (k+1) (nT s x):=by
 have e:(4000+2000 * ((k+1:Nat):Int))=4000+2000 * (k:Int)+2000:=by omega
 have hl:(if s.2.2.2.2≠(0,0)/\nS s.2.2.2.2 x.1 then s.2.2.1.dropLast else s.2.2.1).length<=s.2.2.1.length:=by split<;>simp
 refine ⟨?_,?_,?_,⟨by simp [nT],?_⟩,?_,hx⟩
 ·rw [e];exact sS h.at_ hx
 ·simp only [nT,List.length_set];exact h.len
 ·intro p hp
  rcases List.mem_or_eq_of_mem_set hp with hp|rfl
  ·exact (h.now p hp).le (by omega)
  ·have:Bd (1000+2000 * (k:Int)) (s.2.1.getD x.2 (0,0)):=by
    by_cases hi:x.2<s.2.1.length
    ·exact h.now _ (cB hi)
    ·rw [gT _ (by omega)];exact Gu (by omega)
   exact (sS this hx).le (by omega)
 ·have := h.c.2
  simp only [nT,List.length_append,List.length_singleton];omega
 ·simp only [nT, List.length_append, List.length_singleton]
  split
  ·simp [h.l2]
  ·rw [h.l2]
end Go.Proofs.Try
end
section
namespace Go.Proofs.Try
open Go.AM Go.fD
set_option maxRecDepth 100000
def fs (U:List cL) (L:List xe):Jb:=(L.map EX).foldl nT (m5 U)
theorem eqz (a b:Int):(a==0&&(b==0&&true))=decide ((a,b)=((0:Int),(0:Int))):=by
 by_cases h1:a=0<;>by_cases h2:b=0<;>simp [h1,h2]
theorem Oz {d e:Pt}:(((if h0 d=true then (0:Int) else 1)==(if h0 e=true then (0:Int) else 1))=true)↔h0 d=h0 e:=by
 cases h0 d<;>cases h0 e<;>simp
abbrev C4:=Nat×Nat×Int×Int×Nat×Int×Int×(List (Int×Int))×Nat×Nat×Int×Int×(List (((Int×Int)×Int×Int)×Int))×(List (Int×Int))×(List (List (Int×Int)))×Unit
def C4.mk (U:List cL) (L:List xe) (k:Nat) (s:Jb):C4:=(U.length,L.length,((L.length:Nat):Int),(k:Int),L.length,s.1.1,s.1.2,s.2.1,s.2.2.1.length,s.2.2.2.1.length,s.2.2.2.2.1,s.2.2.2.2.2,L,s.2.2.1,s.2.2.2.1,())
theorem XB {a d e:Pt} {now pL:List Pt} {zJ:List (List Pt)} {o:Nat} (h:d≠(0,0)/\nS d e):nT (a,now,pL,zJ,d) (e,o)=(add a e,now.set o (add (now.getD o (0,0)) e),pL.dropLast++[add a e],zJ.dropLast++[now.set o (add (now.getD o (0,0)) e)],e):=by
 unfold nT;simp only [];rw [if_pos h,if_pos h]
theorem XC {a d e:Pt} {now pL:List Pt} {zJ:List (List Pt)} {o:Nat} (h:¬(d≠(0,0)/\nS d e)):nT (a,now,pL,zJ,d) (e,o)=(add a e,now.set o (add (now.getD o (0,0)) e),pL++[add a e],zJ++[now.set o (add (now.getD o (0,0)) e)],e):=by
 unfold nT;simp only [];rw [if_neg h,if_neg h]
theorem st33 {U:List cL} {L:List xe} {k:Nat} (hU:U.length<=4) (hL:L.length<=19) (hg:∀x∈L,nP x/\x.2<U.length) (hk:k<L.length) {s:Jb} (hs:SB U k s) :
  ag (g16_2 (C4.mk U L k s))=some (.inl (C4.mk U L (k+1) (nT s (EX L[k])))):=by
 obtain ⟨⟨xb,x0,x1⟩,xu⟩:=hg _ (List.getElem_mem hk)
 have gx:L.getD k ((((0:Int),(0:Int)),(0:Int),(0:Int)),(0:Int))=L[k]:=iz _ hk
 obtain ⟨o,ho⟩:∃o:Nat,L[k].2=(o:Int):=⟨L[k].2.toNat,by omega⟩
 have hou:o<U.length:=by omega
 have eP:EX L[k]=(L[k].1.2,o):=by simp [EX,ho]
 generalize L[k]=x at *
 obtain ⟨E7,hln,ET,⟨Dc,Sw⟩,xL,hd⟩:=hs
 obtain ⟨at_,now,pL,zJ,d⟩:=s
 simp only at E7 hln ET Dc Sw xL hd
 have Yq:zJ≠[]:=fun e=>by rw [e] at xL;simp at xL;exact Dc (List.length_eq_zero_iff.1 xL.symm)
 have j1:cR (k:Int) ((L.length:Nat):Int)=true:=bg (by omega) (by omega)
 have d0:decide (0+k<L.length)=true:=decide_eq_true (by omega)
 have r3:cS .i64 ((k:Int)+1)=true:=aH (by omega) (by omega)
 have j2:cR (o:Int) ((U.length:Nat):Int)=true:=bg (by omega) (by omega)
 have d2:decide (0+o<now.length)=true:=decide_eq_true (by omega)
 have lc:0<pL.length:=List.length_pos_iff.2 Dc
 have r4:cS .i64 (((pL.length:Nat):Int) - 1)=true:=aH (by omega) (by omega)
 have j3:cR (((pL.length:Nat):Int) - 1) ((pL.length:Nat):Int)=true:=bg (by omega) (by omega)
 have t3:Int.toNat (((pL.length:Nat):Int) - 1)=pL.length - 1:=by omega
 have d3:decide (pL.length - 1<pL.length)=true:=decide_eq_true (by omega)
 have gn:Bd (1000+2000 * (k:Int)) (now.getD o (0,0)):=ET _ (cB (by omega))
 have d4:∀x:Pt,decide (pL.length+(List.take 1 (List.drop 0 [x])).length<bU)=true:=fun x=>decide_eq_true (by rw [k9];simp;omega)
 have d5:∀x:List Pt,decide (pL.length+(List.take 1 (List.drop 0 [x])).length<bU)=true:=fun x=>decide_eq_true (by rw [k9];simp;omega)
 have c55:=Xz (l:=now) (by omega)
 rw [hln] at c55
 have tk:∀y:Pt,((now.set o y).drop 0).take U.length=now.set o y:=fun y=>by rw [List.drop_zero];exact List.take_of_length_le (by simp [hln])
 unfold C4.mk
 simp only [g16_2,ak,aV,aJ,bz,aB,aa,wj,Int.toNat_natCast,Nat.zero_add,j1,gx,ax,aW,bC]
 rw [if_pos (by omega)]
 rw [dL (by simpa using d0)]
 rw [az (k35 (E7.le (by omega)) (xb.le (by omega)))]
 rw [az c55]
 simp only [ho,j2,ax,Int.toNat_natCast]
 rw [dL (by simpa using d2),az (k35 (gn.le (by omega)) (xb.le (by omega)))]
 rw [dL (by simpa using d2)]
 simp only [k53,aP,r4,ax,t3,j3,d3,xL,d4,d5,tk,bC]
 have i4:(((k+1:Nat):Int))=(k:Int)+1:=by omega
 have R3:¬(d≠(0,0)/\nS d x.1.2)->some (Sum.inl (U.length,L.length,((L.length:Nat):Int),(k:Int)+1,L.length,(add at_ x.1.2).1,(add at_ x.1.2).2,now.set o (add (now.getD o (0,0)) x.1.2),pL.length+(List.take 1 (List.drop 0 [add at_ x.1.2])).length,
   pL.length+(List.take 1 (List.drop 0 [now.set o (add (now.getD o (0,0)) x.1.2)])).length,x.1.2.1,x.1.2.2,L,List.take pL.length (List.drop 0 pL)++List.take 1 (List.drop 0 [add at_ x.1.2]),List.take pL.length (List.drop 0 zJ)++List.take 1 (List.drop 0 [now.set o (add (now.getD o (0,0)) x.1.2)]),())) =
   some (Sum.inl (β:=Nat×Nat×Nat×(List (((Int×Int)×Int×Int)×Int))×(List (Int×Int))×(List (List (Int×Int)))×Unit) (C4.mk U L (k+1) (nT (at_,now,pL,zJ,d) (x.1.2,o)))):=by
  intro hn
  have e5:List.take pL.length (List.drop 0 zJ)=zJ:=by rw [<-xL];simp
  rw [XC hn,e5]
  simp only [C4.mk,i4]
  simp [xL]
 rw [eP]
 by_cases e1:h0 d=h0 x.1.2
 ·rw [wh (Oz.2 e1), az (SU (hd.le (by omega)) (xb.le (by omega)))]
  by_cases e2:cr d x.1.2=0
  ·rw [wh (by simp [e2]), eqz]
   by_cases e3:d=(0,0)
   ·rw [qd (by simp [e3])]
    simp only [aP,HD,r3,ax]
    exact R3 fun h=>h.1 e3
   ·rw [wh (by simp [e3])]
    simp only [aP,HD,r3,ax]
    rw [XB ⟨e3,e1,e2⟩]
    simp only [C4.mk,i4]
    rw [zw Dc,zx Dc,zx Yq]
    have:=zw (x:=now.set o (add (now.getD o (0,0)) x.1.2)) Yq
    rw [xL] at this
    rw [this,xL]
  ·rw [qd (by simp [e2])]
   simp only [aP,HD,r3,ax]
   exact R3 fun h=>e2 h.2.2
 ·rw [qd (by rw [← Bool.not_eq_true, Oz]; exact e1)]
  simp only [aP,HD,r3,ax]
  exact R3 fun h=>e1 h.2.1
theorem Ji {U:List cL} {L:List xe} (hU:U.length<=4) (hL:L.length<=19) (hg:∀x∈L,nP x/\x.2<U.length) (h0:SB U 0 (m5 U)) :
  iter (fun s=>ag (g16_2 s)) (C4.mk U L 0 (m5 U))=some (L.length,(fs U L).2.2.1.length,(fs U L).2.2.2.1.length,L,(fs U L).2.2.1,(fs U L).2.2.2.1,())/\SB U L.length (fs U L):=by
 have Fg:∀k,k<=L.length->SB U k (fs U (L.take k)):=by
  intro k
  induction k with
  |zero=>intro _;exact h0
  |succ k ih =>
   intro hk
   have Jw:k<L.length:=by omega
   have e:fs U (L.take (k+1))=nT (fs U (L.take k)) (EX L[k]):=by
    unfold fs;rw [List.take_succ_eq_append_getElem Jw,List.map_append,List.foldl_append];rfl
   rw [e]
   exact (ih (by omega)).step (hg _ (List.getElem_mem Jw)).1.bd
 have hall:=Fg _ (Nat.le_refl _)
 rw [List.take_length] at hall
 refine ⟨?_,hall⟩
 obtain ⟨r, q1, q2⟩ := fk (step := fun s => ag (g16_2 s)) L.length (fun k s => s = C4.mk U L k (fs U (L.take k)))
  (fun r=>r=(L.length,(fs U L).2.2.1.length,(fs U L).2.2.2.1.length,L,(fs U L).2.2.1,(fs U L).2.2.2.1,())) (fun k s hk hs=>by
   subst hs
   refine ⟨_,st33 hU hL hg hk (Fg k (by omega)),?_⟩
   unfold fs;rw [List.take_succ_eq_append_getElem hk,List.map_append,List.foldl_append];rfl) (fun s hs=>by
   subst hs
   rw [List.take_length]
   refine ⟨_,?_,rfl⟩
   unfold C4.mk
   simp only [g16_2,ak,aa,aW]
   rw [if_neg (by omega)]) (x:=C4.mk U L 0 (m5 U)) rfl
 rw [q1,q2]
theorem zy.good {U:List cL} (h:zy U):∀x∈bP zq (cP (bM U)),nP x/\x.2<U.length:=by
 intro x hx
 have hx:=(fK _).mem_iff.1 hx
 have hn:=(pN (bM U)).2 x hx
 rw [show (bM U).length=U.length by simp [bM]] at hn
 have hl:=h.len
 refine ⟨⟨?_,hn.1,by omega⟩,hn.2⟩
 unfold cP at hx
 obtain ⟨z,hz,hx⟩:=List.mem_flatten.1 hx
 obtain ⟨⟨l,i⟩,SD,rfl⟩:=List.mem_map.1 hz
 obtain ⟨s,hs,rfl⟩:=List.mem_map.1 hx
 have hl:l∈bM U:=List.fst_mem_of_mem_zipIdx SD
 have hgd:∀i,Bd 1000 (l.getD i (0,0)):=fun i=>by
  by_cases hh:i<l.length
  ·exact h.bd _ hl _ (cB hh)
  ·rw [gT _ (by omega)];exact Gu (by omega)
 unfold aO at hs
 split at hs
 ·obtain ⟨j, -, rfl⟩ := List.mem_map.1 hs
  exact (jJ (hgd _) (hgd _)).le (by omega)
 ·cases hs
theorem zy.sb0 {U:List cL} (h:zy U):SB U 0 (m5 U):=by
 have hb:∀p∈U.map (·.1),Bd 1000 p:=fun p hp=>by
  obtain ⟨y,hy,rfl⟩:=List.mem_map.1 hp
  exact h.hd hy
 refine ⟨?_,by simp [m5],fun p hp=>(hb p hp).le (by simp),⟨by simp [m5],by simp [m5]⟩,by simp [m5],Gu (by omega)⟩
 exact (Jh (n:=4) (K:=1000) (by have:=h.len;simp;omega) hb (by omega)).le (by simp)
theorem XD {U:List cL} (h:zy U):ag (F16 (bM U))=some (eG U,()):=by
 have hg:=h.good
 have ht:=h.tot
 have hlen:(bP zq (cP (bM U))).length=(cP (bM U)).length:=fl _
 obtain ⟨q,hb⟩:=Ji h.len (by omega) hg h.sb0
 have efs:fs U (bP zq (cP (bM U)))=(gW U).foldl nT (m5 U):=by unfold fs;rw [C3 h.sd]
 rw [efs] at q hb
 simp only [F16,aB,bq,ak,aJ,bz,aa]
 rw [az (R2 h),az (kH50 (fun x hx=>(hg x ((fK _).mem_iff.2 hx)).1) ht)]
 have e0:(U.length,(cP (bM U)).length,(((cP (bM U)).length:Nat):Int),(0:Int),(cP (bM U)).length,(jr U).1,(jr U).2,U.map (·.1),(1:Nat),(1:Nat),(0:Int),(0:Int),bP zq (cP (bM U)),[((jr U).1,(jr U).2)],[((U.map (·.1)).drop 0).take U.length],())=C4.mk U (bP zq (cP (bM U))) 0 (m5 U):=by
  unfold C4.mk
  rw [hlen,List.drop_zero,List.take_of_length_le (by simp)]
  simp [m5]
 simp only [e0]
 rw [az q]
 have hc:=hb.c.1
 have hl:=hb.l2
 have hk:=hb.c.2
 generalize hs:(gW U).foldl nT (m5 U)=s at hb hc hl hk
 have hpos:0<s.2.2.1.length:=List.length_pos_iff.2 hc
 have r1:cS .i64 (((s.2.2.1.length:Nat):Int) - 1)=true:=aH (by omega) (by omega)
 have d1:decide ((0:Int)<=((s.2.2.1.length:Nat):Int) - 1)=true:=decide_eq_true (by omega)
 have d2:decide (((s.2.2.1.length:Nat):Int) - 1<=((s.2.2.1.length:Nat):Int))=true:=decide_eq_true (by omega)
 have t1:Int.toNat (((s.2.2.1.length:Nat):Int) - 1)=s.2.2.1.length - 1:=by omega
 have t2:s.2.2.1.take (s.2.2.1.length - 1)=s.2.2.1.dropLast:=List.dropLast_eq_take.symm
 have t3:s.2.2.2.1.take (s.2.2.1.length - 1)=s.2.2.2.1.dropLast:=by rw [<-hl];exact List.dropLast_eq_take.symm
 have hall:(cP (bM U)).length=(jH U 0).length:=by rw [<-zu h.sd,List.length_map]
 simp only [hl,r1,d1,d2,t1,ax,aW,List.drop_zero,Nat.zero_add,Int.toNat_zero,Nat.sub_zero,t2,t3,Int.le_refl,decide_true]
 unfold eG
 by_cases he:jH U 0=[]
 ·have e1 : gW U = [] := List.Perm.eq_nil (he ▸ eX U)
  rw [e1] at hs
  simp only [List.foldl_nil] at hs
  subst hs
  rw [if_neg (by rw [hlen,hall,he];simp),if_pos he,List.take_length]
  rw [<-hl,List.take_length]
 ·have e2 : 0 < (jH U 0).length := List.length_pos_iff.2 he
  rw [if_pos (by rw [hlen];omega),if_neg he,hs]
end Go.Proofs.Try
end
section
namespace Go.Proofs.Try
open Go.AM Go.fD
set_option maxRecDepth 100000
theorem zz {f : Pt → Int} {M : Int} : ∀ {l : List Pt} {b : Int}, b ≤ M → (∀ v ∈ l, f v ≤ M) → (b = M ∨ ∃ v ∈ l, f v = M) → l.foldl (fun s p => imax s (f p)) b = M
 |[],b,_,_,h=>by
  rcases h with h|⟨v,hv,-⟩
  ·exact h
  ·cases hv
 |x::l,b,hb,h1,h2=>by
  rw [List.foldl_cons]
  have hx:=h1 x (by simp)
  have e:imax b (f x)=if b<f x then f x else b:=by unfold imax;split<;>(try split)<;>omega
  refine zz ?_ (fun v hv=>h1 v (by simp [hv])) ?_
  ·rw [e];split<;>omega
  ·rcases h2 with h | ⟨v, hv, hm⟩
   ·left;rw [e];split<;>omega
   ·rcases List.mem_cons.1 hv with rfl | hv
    ·left;rw [e];split<;>omega
    ·exact .inr ⟨v,hv,hm⟩
theorem dtb {u p:Pt} (hu:Bd 200000 u) (hp:Bd 200000 p) : -40000000000<=u.1 * p.1/\u.1 * p.1<=40000000000 /\ -40000000000<=u.2 * p.2/\u.2 * p.2<=40000000000:=by
 obtain ⟨u1,u2,u3,u4⟩:=hu;obtain ⟨p1,p2,p3,p4⟩:=hp
 have a:=qe u1 u2 p1 p2
 have b:=qe u3 u4 p3 p4
 omega
theorem k57 {u p:Pt} (hu:Bd 200000 u) (hp:Bd 200000 p):ag (F48 p u.1 u.2)=some (dt u p,()):=by
 have:=dtb hu hp
 simp only [F48,aJ,aa]
 rw [av (by omega) (by omega),av (by omega) (by omega),av (by omega) (by omega)]
 rfl
theorem k58 {u:Pt} {l:List Pt} {M:Int} (hu:Bd 200000 u) (hl:l.length<=1000000) (hb:∀p∈l,Bd 200000 p) (hne:l≠[]) (h1:∀v∈l,dt u v<=M) (h2:∃v∈l,dt u v=M):ag (F49 u.1 u.2 (l.getD 0 (0,0)) l)=some (M,()):=by
 have h0:l.getD 0 (0,0)∈l:=cB (List.length_pos_iff.2 hne)
 have q:=(DW (step:=fun s=>ag (g49_0 s)) l ((0:Int),(0:Int)) (fun s p=>imax s (dt u p)) (fun k s=>(u.1,u.2,s,l,((l.length:Nat):Int),((k:Nat):Int),())) (dt u (l.getD 0 (0,0))) (fun _=>True) (out:=fun s=>(s,())) trivial (fun k s hk _=>⟨trivial,by
  have j1:cR (k:Int) ((l.length:Nat):Int)=true:=bg (by omega) (by omega)
  have r3:cS .i64 ((k:Int)+1)=true:=aH (by omega) (by omega)
  simp only [g49_0,ak,aV,aB,aJ,aa,Int.toNat_natCast,j1,r3,ax,aW,bC]
  rw [if_pos (by omega),az (k57 hu (hb _ (cB hk)))]
  rfl⟩) (fun s _=>by
  simp only [g49_0,ak,aa,aW]
  rw [if_neg (by omega)])).1
 rw [zz (M:=M) (h1 _ h0) h1 (.inr h2)] at q
 simp only [F49,aB,bq,aa,bC]
 rw [az (k57 hu (hb _ h0))]
 exact bind_eq q rfl
theorem zy.take {U:List cL} (h:zy U):∀x∈U,Sd x.2/\(∀p∈cs x.1 x.2,Bd 1000 p)/\(cs x.1 x.2).length<=1000:=fun x hx=>by
 have hm:cs x.1 x.2∈bM U:=List.mem_map.2 ⟨x,hx,rfl⟩
 exact ⟨h.sd x hx,h.bd _ hm,h.sz _ hm⟩
theorem XE {u:Pt} {x:cL} (hu:Bd 200000 u) (hs:Sd x.2) (hb:∀p∈cs x.1 x.2,Bd 1000 p) : -100000000000<=dt u x.1+mF u x.2/\dt u x.1+mF u x.2<=100000000000:=by
 obtain ⟨v,hv,e⟩:=uR (u:=u) (a:=x.1) hs
 have:=dtb hu ((hb v hv).le (by omega:(1000:Int)<=200000))
 unfold dt at e
 unfold dt
 omega
theorem sW {u:Pt} {U:List cL} {k:Nat} (hk:k<U.length):kP u (U.take (k+1))=kP u (U.take k)+(dt u U[k].1+mF u U[k].2):=by
 unfold kP;rw [List.take_succ_eq_append_getElem hk,List.map_append,List.sum_append];simp
theorem k39 {u:Pt} {U:List cL} (h:zy U) (hu:Bd 200000 u):ag (F22 (bM U) u.1 u.2)=some (kP u U,()):=by
 have XA:(bM U).length=U.length:=by simp [bM]
 have hU:=h.len
 have hbd:∀k:Nat,k<=U.length -> -100000000000 * (k:Int)<=kP u (U.take k)/\kP u (U.take k)<=100000000000 * (k:Int):=by
  intro k
  induction k with
  |zero=>intro _;simp [kP]
  |succ k ih =>
   intro hk
   have:=ih (by omega)
   obtain ⟨h1,h2,h3⟩:=h.take _ (List.getElem_mem (show k<U.length by omega))
   have:=XE hu h1 h2
   rw [sW (by omega)]
   omega
 obtain ⟨r, q1, q2⟩ := fk (step := fun s => ag (g22_0 s)) U.length (fun k s => s = (u.1, u.2, kP u (U.take k), bM U, (((bM U).length : Nat) : Int), (k : Int), ()))
  (fun r=>r=(kP u U,())) (fun k s hk hs=>by
   subst hs
   have hx:U[k]∈U:=List.getElem_mem hk
   have j1:cR (k:Int) (((bM U).length:Nat):Int)=true:=bg (by omega) (by omega)
   have r3:cS .i64 ((k:Int)+1)=true:=aH (by omega) (by omega)
   have g1:=wU hk
   obtain ⟨g2,g3⟩:=uX (a:=U[k].1) (ds:=U[k].2)
   have j2:cR (0:Int) (((cs U[k].1 U[k].2).length:Nat):Int)=true:=bg (by omega) (by omega)
   obtain ⟨h1,h2,h3⟩:=h.take _ hx
   have q:=k58 (u:=u) (l:=cs U[k].1 U[k].2) (M:=dt u U[k].1+mF u U[k].2) hu (by omega) (fun p hp=>(h2 p hp).le (by omega)) (List.length_pos_iff.1 g3) (fun v hv=>sL h1 hv) (uR h1)
   have b1:=hbd k (by omega)
   have b2:=hbd (k+1) (by omega)
   rw [sW hk] at b2
   refine ⟨_,?_,rfl⟩
   simp only [g22_0,ak,aV,aJ,aB,aa,j1,r3,ax,aW,Int.toNat_natCast,g1,j2,Int.toNat_zero,bC,F21,aP]
   rw [if_pos (by omega),az q,sW hk]
   rw [av (by omega) (by omega)]
   rfl) (fun s hs=>by
   subst hs
   refine ⟨_,?_,rfl⟩
   simp only [g22_0,ak,aa,aW,XA]
   rw [if_neg (by omega),List.take_length]) (x:=(u.1,u.2,0,bM U,(((bM U).length:Nat):Int),0,())) (by simp [kP])
 simp only [F22,aB,bq,aa]
 subst q2
 rw [az q1]
theorem Yr {a K:Int} (h0:0<=K) (h1:K<=1000000000):ag (F50 a K)=some (decide (-K<=a/\a<=K),()):=by
 simp only [F50,aJ,ak,aa,aW]
 rw [av (by omega) (by omega)]
 by_cases h:0 - K<=a
 ·rw [if_pos h]
  have:(-K<=a/\a<=K)↔a<=K:=by omega
  simp only [this]
 ·rw [if_neg h]
  have:¬(-K<=a/\a<=K):=by omega
  simp [this]
theorem k40 {ls:List (List Pt)} (h:SW ls) {u:Pt} (hu:Bd 100000 u):ag (F25 ls u.1 u.2)=some (0,()):=by
 obtain ⟨u1,u2,u3,u4⟩:=hu
 simp only [F25,aB,ak,aa]
 rw [az (k29 h),beq_self_eq_true,cu,az (Yr (by omega) (by omega)),decide_eq_true (by omega),Bool.not_true,aY,az (Yr (by omega) (by omega)),decide_eq_true (by omega),Bool.not_true,aY]
theorem k21 {U:List cL} (h:zy U) (h2:SW (bM U)) {u:Pt} (hu:Bd 100000 u):ag (F10 (bM U) u.1 u.2)=some (kP u U,0,()):=by
 simp only [F10,aB,ak,aa]
 rw [az (k40 h2 hu),beq_self_eq_true,Bool.not_true,aY,az (k39 h (hu.le (by omega)))]
theorem k16 {U:List cL} (h:zy U) (h2:SW (bM U)):ag (F24 (bM U))=some ((eG U).1,0,()):=by
 simp only [F24,aB,ak,aa]
 rw [az (k29 h2),beq_self_eq_true,Bool.not_true,aY,az (XD h)]
end Go.Proofs.Try
end
section
namespace Go.Proofs.Try
open Go.AM Go.fD
set_option maxRecDepth 100000
theorem Jj (m:Nat):∀n (ls:List (List Pt)),ls.length=n->(∀l∈ls,l.length<=m)->(cP ls).length<=m * n:=by
 intro n
 induction n with
 |zero=>intro ls hl _;rw [List.length_eq_zero_iff.1 hl];simp [cP]
 |succ n ih =>
  intro ls hl hm
  have hne:ls≠[]:=fun e=>by rw [e] at hl;simp at hl
  have e:=List.dropLast_concat_getLast hne
  have i1:=ih ls.dropLast (by simp;omega) fun l h=>hm l (List.dropLast_subset _ h)
  have i2:=hm _ (List.getLast_mem hne)
  have i3:(aO (ls.getLast hne)).length<=(ls.getLast hne).length:=by unfold aO;split<;>simp
  rw [<-e,lz,List.length_append,List.length_map,Nat.mul_succ]
  omega
theorem jK {U:List cL}:(bM U).length=U.length:=by simp [bM]
structure Us (x:List (List Pt)) (U:List cL):Prop where
 s:zy U
 u:SW (bM U)
 l3:U.length<=3
 l4:∀l∈bM U,l.length<=4
theorem Bk {ls:List (List Pt)} (h1:ls.length<=3) (hb:∀l∈ls,∀p∈l,Bd 1000 p):∀p∈Go.fD.jU ls,Bd 3000 p:=by
 have facts:∀k,k<=ls.length->∀p∈Go.fD.jU (ls.take k),Bd (1000 * k) p:=by
  intro k
  induction k with
  |zero =>
   intro _ p hp
   simp [Go.fD.jU,jS] at hp
   subst hp
   exact ⟨by simp,by simp,by simp,by simp⟩
  |succ k ih =>
   intro hk
   have i2:=ih (by omega)
   have Jw:k<ls.length:=by omega
   have hm:ls[k]∈ls:=List.getElem_mem Jw
   have e:Go.fD.jU (ls.take (k+1))=(Go.fD.jU (ls.take k)).flatMap fun p=>ls[k].map fun q=>add p q:=by
    rw [List.take_succ_eq_append_getElem Jw];exact Bf _ _ _
   rw [e]
   intro p hp
   obtain ⟨a,ha,hp⟩:=List.mem_flatMap.1 hp
   obtain ⟨q,hq,rfl⟩:=List.mem_map.1 hp
   have:=sS (i2 a ha) (hb _ hm q hq)
   exact this.le (by omega)
 have:=facts ls.length (Nat.le_refl _)
 rw [List.take_length] at this
 exact fun p hp=>(this p hp).le (by omega)
abbrev sC (U:List cL):List Pt:=cs (jr U) (lP U)
theorem Jk {U:List cL} (h:zy U):(eG U).1.length<=20:=by
 have ht:=h.tot
 have hlen:(bP zq (cP (bM U))).length=(cP (bM U)).length:=fl _
 have hb:=(Ji h.len (by omega) h.good h.sb0).2
 have efs:fs U (bP zq (cP (bM U)))=(gW U).foldl nT (m5 U):=by unfold fs;rw [C3 h.sd]
 rw [efs] at hb
 have:=hb.c.2
 unfold eG
 split
 ·simp [m5]
 ·simp only [List.length_dropLast];omega
theorem Us.sum {x:List (List Pt)} {U:List cL} (h:Us x U):ag (F24 (bM U))=some (sC U,0,())/\CZ U (jr U) (lP U)/\(∀p∈sC U,Bd 3000 p)/\(sC U).length<=20:=by
 obtain ⟨a1,-,a3⟩:=qz h.s.sd
 refine ⟨by rw [k16 h.s h.u,a1],a3,fun p hp=>Bk (by rw [jK];exact h.l3) h.s.bd p (ES a3 p hp),by have:=Jk h.s;rw [a1] at this;exact this⟩
end Go.Proofs.Try
end
section
namespace Go.Proofs.Try
open Go.AM Go.fD
set_option maxRecDepth 100000
theorem k49b {a b:Pt} (ha:Bd 100000000000000000 a) (hb:Bd 100000000000000000 b):ag (F40 a b)=some (sub a b,()):=by
 obtain ⟨h1,h2,h3,h4⟩:=ha
 obtain ⟨g1,g2,g3,g4⟩:=hb
 simp only [F40,aJ,aa]
 rw [av (by omega) (by omega),av (by omega) (by omega)]
 rfl
theorem k48b {a b:Pt} (ha:Bd 10000 a) (hb:Bd 100000000000000 b):ag (F39 a b)=some (cr a b,()):=by
 obtain ⟨h1,h2,h3,h4⟩:=ha
 obtain ⟨g1,g2,g3,g4⟩:=hb
 have m1:=qe h1 h2 g3 g4
 have m2:=qe h3 h4 g1 g2
 simp only [F39,aJ,aa]
 rw [av (by omega) (by omega),av (by omega) (by omega),av (by omega) (by omega)]
 rfl
theorem R4 {n K:Int} {p:Pt} (h0:0<=n) (h1:n<=K) (hp:Bd 100000 p):Bd (K * 100000) (cY n p):=by
 obtain ⟨p1,p2,p3,p4⟩:=hp
 have a:=qe (K:=K) (a:=n) (by omega) h1 p1 p2
 have b:=qe (K:=K) (a:=n) (by omega) h1 p3 p4
 exact ⟨a.1,a.2,b.1,b.2⟩
theorem wV {n K M:Int} {p:Pt} (h0:0<=n) (h1:n<=K) (hp:Bd M p):Bd (K * M) (cY n p):=by
 obtain ⟨p1,p2,p3,p4⟩:=hp
 have a:=qe (K:=K) (a:=n) (by omega) h1 p1 p2
 have b:=qe (K:=K) (a:=n) (by omega) h1 p3 p4
 exact ⟨a.1,a.2,b.1,b.2⟩
theorem SX {n:Int} {p:Pt} (h0:0<=n) (h1:n<=1000000000) (hp:Bd 100000 p):ag (F19 p n)=some (cY n p,()):=by
 obtain ⟨b1,b2,b3,b4⟩:=R4 h0 h1 hp
 simp only [cY] at b1 b2 b3 b4
 simp only [F19,aJ,aa]
 rw [av (by omega) (by omega),av (by omega) (by omega)]
 rfl
def pO (f:Pt->Int) (b:Int) (l:List Pt):Int:=l.foldl (fun s q=>en s (f q)) b
def qf (f:Pt->Int) (b:Int) (l:List Pt):Int:=l.foldl (fun s q=>imax s (f q)) b
theorem wW {f : Pt → Int} : ∀ {l : List Pt} {b : Int}, pO f b l ≤ b ∧ (∀ v ∈ l, pO f b l ≤ f v) ∧ (pO f b l = b ∨ ∃ v ∈ l, pO f b l = f v)
 |[],b=>⟨Int.le_refl _,by simp,.inl rfl⟩
 |x::l,b=>by
  have e:pO f b (x::l)=pO f (en b (f x)) l:=rfl
  have hm:en b (f x)<=b/\en b (f x)<=f x/\(en b (f x)=b\/en b (f x)=f x):=by unfold en;split<;>omega
  obtain ⟨h1,h2,h3⟩:=wW (f:=f) (l:=l) (b:=en b (f x))
  rw [e]
  refine ⟨by omega,fun v hv=>?_,?_⟩
  ·rcases List.mem_cons.1 hv with rfl | hv
   ·omega
   ·exact h2 v hv
  ·rcases h3 with h | ⟨v, hv, h⟩
   ·rcases hm.2.2 with h' | h'
    ·left;omega
    ·right;exact ⟨x,by simp,by omega⟩
   ·exact .inr ⟨v,by simp [hv],h⟩
theorem wX {f : Pt → Int} : ∀ {l : List Pt} {b : Int}, b ≤ qf f b l ∧ (∀ v ∈ l, f v ≤ qf f b l) ∧ (qf f b l = b ∨ ∃ v ∈ l, qf f b l = f v)
 |[],b=>⟨Int.le_refl _,by simp,.inl rfl⟩
 |x::l,b=>by
  have e:qf f b (x::l)=qf f (imax b (f x)) l:=rfl
  have hm:b<=imax b (f x)/\f x<=imax b (f x)/\(imax b (f x)=b\/imax b (f x)=f x):=by unfold imax;split<;>omega
  obtain ⟨h1,h2,h3⟩:=wX (f:=f) (l:=l) (b:=imax b (f x))
  rw [e]
  refine ⟨by omega,fun v hv=>?_,?_⟩
  ·rcases List.mem_cons.1 hv with rfl | hv
   ·omega
   ·exact h2 v hv
  ·rcases h3 with h | ⟨v, hv, h⟩
   ·rcases hm.2.2 with h' | h'
    ·left;omega
    ·right;exact ⟨x,by simp,by omega⟩
   ·exact .inr ⟨v,by simp [hv],h⟩
theorem Jl {f:Pt->Int} {l:List Pt} {d:Pt} (hd:d∈l) {n x:Int} (hn:0<=n):n * pO f (f d) l<=x↔∃v∈l,n * f v<=x:=by
 obtain ⟨h1,h2,h3⟩:=wW (f:=f) (l:=l) (b:=f d)
 constructor
 ·intro h
  rcases h3 with e|⟨v,hv,e⟩
  ·exact ⟨d,hd,by rw [<-e];exact h⟩
  ·exact ⟨v,hv,by rw [<-e];exact h⟩
 ·rintro ⟨v, hv, h⟩
  have:=Int.mul_le_mul_of_nonneg_left (h2 v hv) hn
  omega
theorem Jm {f:Pt->Int} {l:List Pt} {d:Pt} (hd:d∈l) {n x:Int} (hn:0<=n):x<=n * qf f (f d) l↔∃v∈l,x<=n * f v:=by
 obtain ⟨h1,h2,h3⟩:=wX (f:=f) (l:=l) (b:=f d)
 constructor
 ·intro h
  rcases h3 with e|⟨v,hv,e⟩
  ·exact ⟨d,hd,by rw [<-e];exact h⟩
  ·exact ⟨v,hv,by rw [<-e];exact h⟩
 ·rintro ⟨v, hv, h⟩
  have:=Int.mul_le_mul_of_nonneg_left (h2 v hv) hn
  omega
theorem zA {f:Pt->Int} {b:Int} {l:List Pt} {x:Pt}:pO f b (l++[x])=en (pO f b l) (f x):=by unfold pO;rw [List.foldl_append];rfl
theorem zB {f:Pt->Int} {b:Int} {l:List Pt} {x:Pt}:qf f b (l++[x])=imax (qf f b l) (f x):=by unfold qf;rw [List.foldl_append];rfl
theorem C5 {a:Pt} {ds:List Pt} (h:Sd ds) (hne:ds≠[]) {i:Nat} (hi:i<ds.length):(cs a ds).getD i (0,0)=iC a ds i/\sub ((cs a ds).getD ((i+1) % ds.length) (0,0)) (iC a ds i)=ds[i]:=by
 have h1:=sV (a:=a) hne hi
 refine ⟨h1,?_⟩
 have q:=congrArg (fun l=>l[i]?) (oW (a:=a) h)
 simp only [Bh hi] at q
 unfold aO at q
 rw [mJ hne,if_pos (show 1<ds.length from Bi h hne),List.getElem?_map,List.getElem?_range hi] at q
 simp only [Option.map_some,Option.some.injEq,Prod.mk.injEq] at q
 rw [<-h1];exact q.2
theorem k32 {a p:Pt} {ds:List Pt} {n:Int} (hs:Sd ds) (hl:ds.length<=1000) (h0:0<=n) (h1:n<=1000000000) (hb:∀v∈cs a ds,Bd 3000 v) (hp:Bd 10000000000000 p) [Decidable (Has a ds n p)] :
  ag (F15 (cs a ds) p n)=some (decide (Has a ds n p),()):=by
 have zC:a∈cs a ds:=nJ
 obtain ⟨Fe,Ny⟩:=uX (a:=a) (ds:=ds)
 have j0:∀m:Nat,0<m->cR (0:Int) ((m:Nat):Int)=true:=fun m hm=>bg (by omega) (by omega)
 by_cases hne:ds=[]
 ·subst hne
  have e:cs a []=[a]:=by simp [cs]
  rw [e] at hb ⊢
  have hh:Has a [] n p↔p=cY n a:=by
   constructor
   ·intro h;exact h.1 rfl
   ·intro h
    refine ⟨fun _=>h,by simp [sd],?_,?_,?_,?_⟩<;>(rw [e];exact ⟨a,by simp,by rw [h];simp [cY]⟩)
  have ha:=hb a (by simp)
  simp only [F15,ak,aV,aB,aa,List.length_singleton]
  rw [wh (show (((1:Nat):Int)==1)=true from rfl),dL (j0 1 (by omega))]
  have g:([a]:List Pt).getD (Int.toNat 0) (0,0)=a:=rfl
  simp only [g,bC]
  rw [az (SX h0 h1 (ha.le (by omega)))]
  congr 2
  rw [Bool.and_true,show decide (Has a [] n p)=decide (p=cY n a) from decide_eq_decide.2 hh]
  by_cases h:p=cY n a
  ·simp [h]
  ·rw [decide_eq_false h, ← Bool.not_eq_true, Bool.and_eq_true, beq_iff_eq, beq_iff_eq]
   exact fun ⟨x,y⟩=>h (Prod.ext x.symm y.symm)
 ·have h2 := Bi hs hne
  have tS:=mJ (a:=a) hne
  have hgd:∀i,Bd 3000 ((cs a ds).getD i (0,0)):=fun i=>by
   by_cases hh:i<(cs a ds).length
   ·exact hb _ (cB hh)
   ·rw [gT _ (by omega)];exact Gu (by omega)
  have q := ld (step := fun s => ag (g15_0i_0 s)) (γ := Nat) (b := .inr (p.1, p.2, n, pO (·.1) a.1 (cs a ds), pO (·.2) a.2 (cs a ds), qf (·.1) a.1 (cs a ds), qf (·.2) a.2 (cs a ds), cs a ds, ()))
   ds.length (fun k=>(cs a ds,cs a ds,(((cs a ds).length:Nat):Int),(k:Int),cs a ds,p.1,p.2,n,pO (·.1) a.1 ((cs a ds).take k),pO (·.2) a.2 ((cs a ds).take k),qf (·.1) a.1 ((cs a ds).take k),qf (·.2) a.2 ((cs a ds).take k),()))
   (fun k=>if cr (ds.getD k (0,0)) (sub p (cY n (iC a ds k)))<0 then some k else none)
   (fun k=>.inl (p.1,p.2,n,pO (·.1) a.1 ((cs a ds).take k),pO (·.2) a.2 ((cs a ds).take k),qf (·.1) a.1 ((cs a ds).take k),qf (·.2) a.2 ((cs a ds).take k),cs a ds,()))
   (fun k hk _=>by
    obtain ⟨s1,s2⟩:=C5 (a:=a) hs hne hk
    have j1:cR (k:Int) (((cs a ds).length:Nat):Int)=true:=bg (by omega) (by omega)
    have r3:cS .i64 ((k:Int)+1)=true:=aH (by omega) (by omega)
    have tm:Int.tmod ((k:Int)+1) (((cs a ds).length:Nat):Int)=(((k+1) % (cs a ds).length:Nat):Int):=by
     have e:((k:Int)+1)=((k+1:Nat):Int):=by omega
     rw [e];exact Int.ofNat_tmod _ _
    have hlt:(k+1) % (cs a ds).length<(cs a ds).length:=Nat.mod_lt _ (by omega)
    have j2:cR (((k+1) % (cs a ds).length:Nat):Int) (((cs a ds).length:Nat):Int)=true:=bg (Int.natCast_nonneg _) (Int.ofNat_lt.2 hlt)
    have z0:(!((((cs a ds).length:Nat):Int)==0))=true:=by rw [Bool.not_eq_true',beq_eq_false_iff_ne];omega
    have b1:=hgd k
    have b2:=hgd ((k+1) % (cs a ds).length)
    have eN:ds.getD k (0,0)=ds[k]:=iz _ hk
    have tk:(cs a ds).take (k+1)=(cs a ds).take k++[(cs a ds).getD k (0,0)]:=kL _ (by omega)
    have s3:sub ((cs a ds).getD ((k+1) % (cs a ds).length) (0,0)) ((cs a ds).getD k (0,0))=ds[k]:=by rw [tS,s1];exact s2
    have bt:=wV h0 h1 b1
    simp only [g15_0i_0,ak,aV,aJ,bz,aB,aa,j1,r3,ax,aW,tm,Int.toNat_natCast,z0,j2,bC]
    rw [if_pos (by omega),if_pos (by omega),az (JE (b2.le (by omega)) (b1.le (by omega))),s3]
    have b3:Bd 6000 ds[k]:=by rw [<-s3];exact (jJ b2 b1).le (by omega)
    rw [az (SX h0 h1 (b1.le (by omega)))]
    simp only [bC]
    rw [az (k49b (hp.le (by omega)) (bt.le (by omega)))]
    simp only [bC]
    rw [az (k48b (b3.le (by omega)) ((jJ hp bt).le (by omega)))]
    rw [eN,<-s1]
    by_cases hc:cr ds[k] (sub p (cY n ((cs a ds).getD k (0,0))))<0
    ·rw [if_pos hc,if_pos hc]
    ·rw [if_neg hc, if_neg hc, tk, zA, zA, zB, zB]
     rfl) (fun _=>by
    simp only [g15_0i_0,ak,aa,aW]
    rw [if_neg (by omega),<-tS,List.take_length])
  simp only [F15,g15_0,F20,ak,aV,aB,bq,aa,aP]
  rw [qd (by rw [beq_eq_false_iff_ne];omega),dL (j0 _ Ny),dL (j0 _ Ny)]
  have R5:(cs a ds).getD (Int.toNat 0) (0,0)=a:=Fe
  simp only [R5]
  have q':iter (fun s=>ag (g15_0i_0 s)) (cs a ds,cs a ds,(((cs a ds).length:Nat):Int),0,cs a ds,p.1,p.2,n,a.1,a.2,a.1,a.2,())=_:=q
  by_cases hall:∃k,k<ds.length/\cr (ds.getD k (0,0)) (sub p (cY n (iC a ds k)))<0
  ·have hnot:¬Has a ds n p:=fun hh=>by
    obtain ⟨k,hk,hc⟩:=hall
    have:=hh.2.1 _ _ (Ou (a:=a) hk)
    rw [iz _ hk] at hc
    omega
   cases hf:(List.range ds.length).findSome? (fun k=>if cr (ds.getD k (0,0)) (sub p (cY n (iC a ds k)))<0 then some k else none) with
   |none =>
    obtain ⟨k,hk,hc⟩:=hall
    have:=List.findSome?_eq_none_iff.1 hf k (List.mem_range.2 hk)
    rw [if_pos hc] at this;cases this
   |some k =>
    rw [hf] at q'
    rw [az q']
    simp only [Option.elim_some,aP,AB,aa]
    rw [decide_eq_false hnot]
  ·have hf:(List.range ds.length).findSome? (fun k=>if cr (ds.getD k (0,0)) (sub p (cY n (iC a ds k)))<0 then some k else none)=none:=by
    rw [List.findSome?_eq_none_iff]
    intro k hk
    rw [if_neg fun hc=>hall ⟨k,List.mem_range.1 hk,hc⟩]
   rw [hf] at q'
   rw [az q']
   simp only [Option.elim_none,HG,aB,ak,aa,aP]
   have bmn:Bd 3000 (pO (·.1) a.1 (cs a ds),pO (·.2) a.2 (cs a ds)):=by
    have ha:=hb a zC
    obtain ⟨-,-,e1⟩:=wW (f:=(·.1)) (l:=cs a ds) (b:=a.1)
    obtain ⟨-,-,e2⟩:=wW (f:=(·.2)) (l:=cs a ds) (b:=a.2)
    have c1 : -3000<=pO (·.1) a.1 (cs a ds)/\pO (·.1) a.1 (cs a ds)<=3000:=by
     rcases e1 with e|⟨v,hv,e⟩
     ·rw [e];exact ⟨ha.1,ha.2.1⟩
     ·rw [e];have:=hb v hv;exact ⟨this.1,this.2.1⟩
    have c2 : -3000<=pO (·.2) a.2 (cs a ds)/\pO (·.2) a.2 (cs a ds)<=3000:=by
     rcases e2 with e|⟨v,hv,e⟩
     ·rw [e];exact ⟨ha.2.2.1,ha.2.2.2⟩
     ·rw [e];have:=hb v hv;exact ⟨this.2.2.1,this.2.2.2⟩
    exact ⟨c1.1,c1.2,c2.1,c2.2⟩
   have bmx:Bd 3000 (qf (·.1) a.1 (cs a ds),qf (·.2) a.2 (cs a ds)):=by
    have ha:=hb a zC
    obtain ⟨-,-,e1⟩:=wX (f:=(·.1)) (l:=cs a ds) (b:=a.1)
    obtain ⟨-,-,e2⟩:=wX (f:=(·.2)) (l:=cs a ds) (b:=a.2)
    have c1 : -3000<=qf (·.1) a.1 (cs a ds)/\qf (·.1) a.1 (cs a ds)<=3000:=by
     rcases e1 with e|⟨v,hv,e⟩
     ·rw [e];exact ⟨ha.1,ha.2.1⟩
     ·rw [e];have:=hb v hv;exact ⟨this.1,this.2.1⟩
    have c2 : -3000<=qf (·.2) a.2 (cs a ds)/\qf (·.2) a.2 (cs a ds)<=3000:=by
     rcases e2 with e|⟨v,hv,e⟩
     ·rw [e];exact ⟨ha.2.2.1,ha.2.2.2⟩
     ·rw [e];have:=hb v hv;exact ⟨this.2.2.1,this.2.2.2⟩
    exact ⟨c1.1,c1.2,c2.1,c2.2⟩
   rw [az (SX h0 h1 (bmn.le (by omega))),az (SX h0 h1 (bmx.le (by omega)))]
   simp only [cY,aW]
   have hh:Has a ds n p↔n * pO (·.1) a.1 (cs a ds)<=p.1/\p.1<=n * qf (·.1) a.1 (cs a ds)/\n * pO (·.2) a.2 (cs a ds)<=p.2/\p.2<=n * qf (·.2) a.2 (cs a ds):=by
    rw [Jl zC h0,Jm zC h0,Jl zC h0,Jm zC h0]
    constructor
    ·intro h;exact h.2.2
    ·intro h
     refine ⟨fun e=>(hne e).elim,fun v d hvd=>?_,h⟩
     obtain ⟨i,hi,e⟩:=List.getElem_of_mem hvd
     rw [Bg] at hi
     have e':(sd a ds)[i]?=some (v,d):=by rw [List.getElem?_eq_getElem (by rw [Bg];exact hi),e]
     rw [Bh hi] at e'
     simp only [Option.some.injEq,Prod.mk.injEq] at e'
     rcases Int.lt_or_le (cr d (sub p (cY n v))) 0 with hc|hc
     ·exact (hall ⟨i,hi,by rw [iz _ hi,e'.1,e'.2];exact hc⟩).elim
     ·exact hc
   rw [show decide (Has a ds n p)=decide _ from decide_eq_decide.2 hh]
   by_cases t1:n * pO (·.1) a.1 (cs a ds)<=p.1<;>by_cases t2:p.1<=n * qf (·.1) a.1 (cs a ds)<;>by_cases t3:n * pO (·.2) a.2 (cs a ds)<=p.2<;>simp [t1,t2,t3]<;>exact decide_eq_decide.2 Iff.rfl
theorem XF {ls:List (List Pt)} (h:SW ls) {p:Pt} (hp:Bd 100000 p):ag (F14 ls p)=some (0,()):=by
 obtain ⟨u1,u2,u3,u4⟩:=hp
 simp only [F14,F23,aB,ak,aa]
 rw [az (k29 h),beq_self_eq_true,cu,az (Yr (by omega) (by omega)),decide_eq_true (by omega),cu,az (Yr (by omega) (by omega)),decide_eq_true (by omega)]
 simp only [aP,Bool.not_true,aY]
theorem Us.dsl {x:List (List Pt)} {U:List cL} (h:Us x U):(lP U).length<=20:=by
 by_cases hne:lP U=[]
 ·rw [hne];simp
 ·rw [<-mJ (a:=jr U) hne];exact h.sum.2.2.2
noncomputable instance (a:Pt) (ds:List Pt) (n:Int) (p:Pt):Decidable (Has a ds n p):=Classical.propDecidable _
theorem k13 {x:List (List Pt)} {U:List cL} (h:Us x U) {p:Pt} (hp:Bd 100000 p):ag (F5 (bM U) p)=some (decide (Has (jr U) (lP U) 1 p),0,()):=by
 obtain ⟨a1,-,a3⟩:=qz h.s.sd
 have hl:=h.dsl
 simp only [F5,aB,ak,aa,bC]
 rw [az (XF h.u hp),beq_self_eq_true,Bool.not_true,aY,az (XD h.s)]
 simp only [a1]
 rw [az (k32 a3.sd (by omega) (by omega) (by omega) h.sum.2.2.1 (hp.le (by omega)))]
end Go.Proofs.Try
end
section
namespace Go.Proofs.Try
open Go.AM Go.fD
set_option maxRecDepth 100000
theorem R6 (p:Pt):cY 1 p=p:=by simp [cY]
theorem Jn (a b p:Pt):turn a b p=cr (sub a p) (sub b p):=by simp only [turn,cr,sub];grind
theorem R7 {a p:Pt} {ds:List Pt} {K:Int} (hb:∀v∈cs a ds,Bd K v) (hh:Has a ds 1 p):Bd K p:=by
 obtain ⟨-,-,⟨v1,m1,e1⟩,⟨v2,m2,e2⟩,⟨v3,m3,e3⟩,⟨v4,m4,e4⟩⟩:=hh
 have:=hb _ m1;have:=hb _ m2;have:=hb _ m3;have:=hb _ m4
 unfold Bd at *
 omega
theorem crb {a b:Pt} (ha:Bd 6000 a) (hb:Bd 6000 b) : -72000000<=cr a b/\cr a b<=72000000:=by
 obtain ⟨h1,h2,h3,h4⟩:=ha
 obtain ⟨g1,g2,g3,g4⟩:=hb
 have m1:=qe h1 h2 g3 g4
 have m2:=qe h3 h4 g1 g2
 unfold cr;omega
structure Mix (C:List Pt) (p:Pt) (i0 i1 i2:Nat) (w0 w1 w2:Int):Prop where
 n0:i0<C.length
 n1:i1<C.length
 n2:i2<C.length
 p0:0<=w0
 p1:0<=w1
 p2:0<=w2
 one:1<=w0+w1+w2
 le:w0+w1+w2<=1000000000
 eq:add (add (cY w0 (C.getD i0 (0,0))) (cY w1 (C.getD i1 (0,0)))) (cY w2 (C.getD i2 (0,0)))=cY (w0+w1+w2) p
theorem cr0 {x y u v:Int} (s1:0<=x * v - y * u) (s2:0 <= -x * (v - y) - -y * (u - x)):x * v=y * u:=by
 have:=Int.mul_comm x y
 simp only [Int.mul_sub,Int.neg_mul] at s2
 omega
theorem mix3 (a b c p:Pt):add (add (cY (cr (sub b p) (sub c p)) a) (cY (cr (sub c p) (sub a p)) b)) (cY (cr (sub a p) (sub b p)) c)=cY (cr (sub b p) (sub c p)+cr (sub c p) (sub a p)+cr (sub a p) (sub b p)) p:=by
 simp only [add,cY,cr,sub]
 exact Prod.ext (by simp only [];grind) (by simp only [];grind)
theorem Jo (a b c p:Pt):cr (sub b p) (sub c p)+cr (sub c p) (sub a p)+cr (sub a p) (sub b p)=turn a b c:=by
 simp only [cr,sub,turn];grind
theorem k34 {a p:Pt} {ds:List Pt} (hs:Sd ds) (hl:ds.length<=1000) (hb:∀v∈cs a ds,Bd 3000 v) (hh:Has a ds 1 p) :
  ∃(i0 i1 i2:Nat) (w0 w1 w2:Int),ag (F17 (cs a ds) p)=some (((i0:Int),(i1:Int),(i2:Int)),(w0,w1,w2),())/\Mix (cs a ds) p i0 i1 i2 w0 w1 w2:=by
 have hp:=R7 hb hh
 have zC:a∈cs a ds:=nJ
 have ha:=hb a zC
 obtain ⟨Fe,Ny⟩:=uX (a:=a) (ds:=ds)
 have j0:cR (0:Int) (((cs a ds).length:Nat):Int)=true:=bg (by omega) (by omega)
 by_cases h3:3<=ds.length
 ·have hne : ds ≠ [] := fun e => by rw [e] at h3; simp at h3
  have tS:=mJ (a:=a) hne
  have hgd:∀i,Bd 3000 ((cs a ds).getD i (0,0)):=fun i=>by
   by_cases hi:i<(cs a ds).length
   ·exact hb _ (cB hi)
   ·rw [gT _ (by omega)];exact Gu (by omega)
  let A:Pt:=sub a p
  let V:Nat->Pt:=fun i=>sub ((cs a ds).getD i (0,0)) p
  have bA:Bd 6000 A:=(jJ ha hp).le (by omega)
  have bV:∀i,Bd 6000 (V i):=fun i=>(jJ (hgd i) hp).le (by omega)
  let ok:Nat->Prop:=fun k=>0<=cr (V (k+1)) (V (k+2))/\0<=cr (V (k+2)) A/\0<=cr A (V (k+1))
  have q := ld (step := fun s => ag (g17_0 s)) (γ := Nat) (b := .inr ((List.replicate 3 (0 : Int)), (List.replicate 3 (0 : Int)), ()))
   (ds.length - 2) (fun k=>(cs a ds,((k+1:Nat):Int),p.1,p.2,(List.replicate 3 (0:Int)),(List.replicate 3 (0:Int)),()))
   (fun k=>if ok k then some k else none)
   (fun k=>.inl ([(0:Int),((k+1:Nat):Int),((k+2:Nat):Int)],[cr (V (k+1)) (V (k+2)),cr (V (k+2)) A,cr A (V (k+1))],()))
   (fun k hk _=>by
    have e2:((k+1:Nat):Int)+1=((k+2:Nat):Int):=by omega
    have j1:cR ((k+1:Nat):Int) (((cs a ds).length:Nat):Int)=true:=bg (by omega) (by omega)
    have j2:cR ((k+2:Nat):Int) (((cs a ds).length:Nat):Int)=true:=bg (by omega) (by omega)
    have r3:cS .i64 ((k+2:Nat):Int)=true:=aH (by omega) (by omega)
    have R5:(cs a ds).getD (Int.toNat 0) (0,0)=a:=Fe
    simp only [g17_0,ak,aV,aJ,bz,aB,aa,e2,j0,j1,j2,r3,ax,aW,Int.toNat_natCast,bC,R5]
    rw [if_pos (by omega),az (JE (ha.le (by omega)) (hp.le (by omega))),az (JE ((hgd _).le (by omega)) (hp.le (by omega))),az (JE ((hgd _).le (by omega)) (hp.le (by omega)))]
    simp only [bC]
    rw [az (SU ((bV (k+1)).le (by omega)) ((bV (k+2)).le (by omega))),az (SU ((bV (k+2)).le (by omega)) (bA.le (by omega))),az (SU (bA.le (by omega)) ((bV (k+1)).le (by omega)))]
    simp only []
    by_cases c1:0<=cr (V (k+1)) (V (k+2))
    ·by_cases c2 : 0 ≤ cr (V (k + 2)) A
     ·by_cases c3 : 0 ≤ cr A (V (k + 1))
      ·rw [if_pos c1,if_pos c2,if_pos c3,if_pos (show ok k from ⟨c1,c2,c3⟩)]
      ·rw [if_pos c1,if_pos c2,if_neg c3,if_neg (show ¬ok k from fun h=>c3 h.2.2)]
     ·rw [if_pos c1,if_neg c2,if_neg (show ¬ok k from fun h=>c2 h.2.1)]
    ·rw [if_neg c1,if_neg (show ¬ok k from fun h=>c1 h.1)]) (fun _=>by
    have e2:((ds.length - 2+1:Nat):Int)+1=((ds.length:Nat):Int):=by omega
    simp only [g17_0,ak,aJ,aa,aW,e2]
    rw [av (by omega) (by omega),if_neg (by omega)])
  obtain ⟨i,i1,i2,f1,f2,f3⟩:=fan hs (by omega) hh h3
  simp only [R6] at f1 f2 f3
  have eV:∀j,j<ds.length->V j=sub (iC a ds j) p:=fun j hj=>by show sub _ _=_;rw [sV hne hj]
  have okk:ok (i - 1):=by
   have e1:i - 1+1=i:=by omega
   have e2:i - 1+2=i+1:=by omega
   show 0<=cr (V (i - 1+1)) (V (i - 1+2))/\0<=cr (V (i - 1+2)) A/\0<=cr A (V (i - 1+1))
   rw [e1,e2,eV i (by omega),eV (i+1) (by omega)]
   rw [Jn] at f1 f2 f3
   exact ⟨f1,f2,f3⟩
  cases hf:(List.range (ds.length - 2)).findSome? (fun k=>if ok k then some k else none) with
  |none =>
   have:=List.findSome?_eq_none_iff.1 hf (i - 1) (List.mem_range.2 (by omega))
   rw [if_pos okk] at this;cases this
  |some k =>
   obtain ⟨k',hk',e⟩:=List.exists_of_findSome?_eq_some hf
   have hok:ok k/\k<ds.length - 2:=by
    by_cases ho:ok k'
    ·rw [if_pos ho] at e;cases e;exact ⟨ho,List.mem_range.1 hk'⟩
    ·rw [if_neg ho] at e;cases e
   obtain ⟨⟨c1,c2,c3⟩,hk⟩:=hok
   rw [hf] at q
   have q':iter (fun s=>ag (g17_0 s)) (cs a ds,1,p.1,p.2,(List.replicate 3 (0:Int)),(List.replicate 3 (0:Int)),())=_:=q
   have b1:=crb (bV (k+1)) (bV (k+2))
   have b2:=crb (bV (k+2)) bA
   have b3:=crb bA (bV (k+1))
   have nK:cr (V (k+1)) (V (k+2))+cr (V (k+2)) A+cr A (V (k+1))=turn a (iC a ds (k+1)) (iC a ds (k+2)):=by
    rw [eV _ (by omega),eV _ (by omega)];exact Jo _ _ _ _
   have hpos:=CW (a:=a) hs (i:=k+1) (by omega) (by omega)
   refine ⟨0,k+1,k+2,_,_,_,?_,⟨by omega,by omega,by omega,c1,c2,c3,?_,by omega,?_⟩⟩
   ·simp only [F17, ak, aV, aJ, bz, aB, bq, aa, j0, ax]
    rw [av (by omega) (by omega),dP (by omega) (by omega),qd (by rw [beq_eq_false_iff_ne];omega),qd (by rw [beq_eq_false_iff_ne];omega),az q']
    simp only [Option.elim_some,AB,aa]
    rfl
   ·rw [nK];exact hpos
   ·rw [Fe]
    have:=mix3 a ((cs a ds).getD (k+1) (0,0)) ((cs a ds).getD (k+2) (0,0)) p
    exact this
 ·rcases Ba hs h3 with rfl | ⟨d, rfl, hdz⟩
  ·have e : cs a [] = [a] := by simp [cs]
   have hpa:p=a:=by have:=hh.1 rfl;rw [R6] at this;exact this
   refine ⟨0,0,0,1,0,0,?_,⟨by rw [e];simp,by rw [e];simp,by rw [e];simp,by omega,by omega,by omega,by omega,by omega,?_⟩⟩
   ·rw [e]
    simp only [F17,ak,aV,aJ,bz,aB,bq,aa,List.length_singleton]
    rw [dP (by omega) (by omega),av (by omega) (by omega),dP (by omega) (by omega),wh (show (((1:Nat):Int)==1)=true from rfl)]
    rfl
   ·rw [e,hpa];simp [cY,add]
  ·have e : cs a [d, neg d] = [a, add a d] := by simp [cs, vs]
   have XV:h0 d=true:=by
    have:=hs.x7
    simp only [List.pairwise_cons,List.mem_singleton,forall_eq] at this
    rcases this.1 with ⟨h,-⟩|⟨-,h⟩
    ·exact h
    ·exfalso;simp only [cr,neg] at h;grind
   rw [fL] at XV
   have s1:=hh.2.1 a d (by simp [sd])
   have s2:=hh.2.1 (add a d) (neg d) (by simp [sd])
   simp only [R6] at s1 s2
   have XS:d.1 * (p.2 - a.2)=d.2 * (p.1 - a.1):=by
    simp only [cr,neg,sub,add] at s1 s2
    exact cr0 s1 (by
     have e1:p.2 - (a.2+d.2)=p.2 - a.2 - d.2:=by omega
     have e2:p.1 - (a.1+d.1)=p.1 - a.1 - d.1:=by omega
     rw [e1,e2] at s2;exact s2)
   have box:(p.1<=a.1\/p.1<=a.1+d.1)/\(a.1<=p.1\/a.1+d.1<=p.1)/\(p.2<=a.2\/p.2<=a.2+d.2)/\(a.2<=p.2\/a.2+d.2<=p.2):=by
    obtain ⟨-,-,⟨v1,m1,e1⟩,⟨v2,m2,e2⟩,⟨v3,m3,e3⟩,⟨v4,m4,e4⟩⟩:=hh
    rw [e] at m1 m2 m3 m4
    simp only [List.mem_cons,List.not_mem_nil,or_false] at m1 m2 m3 m4
    refine ⟨?_,?_,?_,?_⟩
    ·rcases m2 with rfl | rfl
     ·left;omega
     ·right;simp only [add] at e2;omega
    ·rcases m1 with rfl | rfl
     ·left;omega
     ·right;simp only [add] at e1;omega
    ·rcases m4 with rfl | rfl
     ·left;omega
     ·right;simp only [add] at e4;omega
    ·rcases m3 with rfl | rfl
     ·left;omega
     ·right;simp only [add] at e3;omega
   have XG:=hb (add a d) (by rw [e];simp)
   rw [e]
   have w:∀w0 w1:Int,ag (F17 [a,add a d] p)=some (((0:Int),(1:Int),(0:Int)),(w0,w1,(0:Int)),())->0<=w0->0<=w1->1<=w0+w1->w0+w1<=1000000000->w1 * d.1=(w0+w1) * (p.1 - a.1)->w1 * d.2=(w0+w1) * (p.2 - a.2) ->
     ∃(i0 i1 i2:Nat) (w0 w1 w2:Int),ag (F17 [a,add a d] p)=some (((i0:Int),(i1:Int),(i2:Int)),(w0,w1,w2),())/\Mix [a,add a d] p i0 i1 i2 w0 w1 w2:=by
    intro w0 w1 hr a1 a2 a3 a4 a5 a6
    refine ⟨0,1,0,w0,w1,0,hr,⟨by simp,by simp,by simp,a1,a2,by omega,by omega,by omega,?_⟩⟩
    simp only [List.getD_cons_zero,List.getD_cons_succ,cY,add]
    exact Prod.ext (by simp only [];grind) (by simp only [];grind)
   have ed:sub (add a d) a=d:=by simp only [sub,add];exact Prod.ext (by simp only [];omega) (by simp only [];omega)
   have run:ag (F17 [a,add a d] p)=jN (d.1==0) (need (cS .i64 (d.2 - (sub p a).2)) (some (((0:Int),(1:Int),(0:Int)),(d.2 - (sub p a).2,(sub p a).2,(0:Int)),()))) (need (cS .i64 (d.1 - (sub p a).1)) (some (((0:Int),(1:Int),(0:Int)),(d.1 - (sub p a).1,(sub p a).1,(0:Int)),()))):=by
    have g1:[a,add a d].getD (Int.toNat (((2:Nat):Int) - 1)) (0,0)=add a d:=rfl
    have g0:[a,add a d].getD (Int.toNat 0) (0,0)=a:=rfl
    simp only [F17,ak,aV,aJ,bz,aB,bq,aa,List.length_cons,List.length_nil,Nat.zero_add,g1,g0,bC]
    rw [dP (by omega) (by omega),av (by omega) (by omega),dP (by omega) (by omega),qd (show (((1+1:Nat):Int)==1)=false from rfl),wh (show (((1+1:Nat):Int)==2)=true from rfl)]
    rw [az (JE (XG.le (by omega)) (ha.le (by omega))),az (JE (hp.le (by omega)) (ha.le (by omega))),ed]
    rfl
   obtain ⟨p1,p2,p3,p4⟩:=hp
   obtain ⟨x1,x2,x3,x4⟩:=ha
   obtain ⟨y1,y2,y3,y4⟩:=XG
   simp only [add] at y1 y2 y3 y4
   by_cases hz:d.1=0
   ·rw [hz, Int.zero_mul] at XS
    have Ny:0<d.2:=by omega
    have Yq:p.1 - a.1=0:=by
     rcases Int.mul_eq_zero.1 XS.symm with h|h
     ·omega
     ·exact h
    refine w (d.2 - (p.2 - a.2)) (p.2 - a.2) ?_ (by omega) (by omega) (by omega) (by omega) ?_ ?_
    ·rw [run, wh (by simp [hz])]
     show need (cS .i64 (d.2 - (p.2 - a.2))) _=_
     rw [av (by omega) (by omega)]
     rfl
    ·rw [hz,Yq];simp
    ·grind
   ·have Fe : 0 < d.1 := by omega
    refine w (d.1 - (p.1 - a.1)) (p.1 - a.1) ?_ (by omega) (by omega) (by omega) (by omega) ?_ ?_
    ·rw [run, qd (by simp [hz])]
     show need (cS .i64 (d.1 - (p.1 - a.1))) _=_
     rw [av (by omega) (by omega)]
     rfl
    ·grind
    ·grind
end Go.Proofs.Try
end
section
namespace Go.Proofs.Try
open Go.AM Go.fD
set_option maxRecDepth 100000
theorem XH {a b:Pt} (ha:Bd 100000000000000000 a) (hb:Bd 100000000000000000 b):ag (F18 a b)=some (add a b,()):=by
 obtain ⟨a1,a2,a3,a4⟩:=ha;obtain ⟨b1,b2,b3,b4⟩:=hb
 simp only [F18,aJ,aa]
 rw [av (by omega) (by omega),av (by omega) (by omega)]
 rfl
def mk (n:Nat) (f:Nat->Pt):List Pt:=(List.range n).map f
theorem Bl {n:Nat} {f:Nat->Pt}:(mk n f).length=n:=by simp [mk]
theorem Jp {n i:Nat} {f:Nat->Pt} (h:i<n):(mk n f).getD i (0,0)=f i:=by simp [mk,List.getD,h]
theorem R8 {n i:Nat} {f:Nat->Pt} {x:Pt}:(mk n f).set i x=mk n (fun j=>if j=i then x else f j):=by
 apply List.ext_getElem?
 intro j
 unfold mk
 rw [List.getElem?_set]
 by_cases h:j<n
 ·by_cases e : i = j
  ·subst e;simp [h]
  ·rw [if_neg e];simp [h,Ne.symm e]
 ·by_cases e : i = j
  ·subst e;simp [h]
  ·rw [if_neg e];simp [h]
theorem R9 {n:Nat}:List.replicate n ((0:Int),(0:Int))=mk n (fun _=>(0,0)):=by
 apply List.ext_getElem?
 intro j
 unfold mk
 by_cases h:j<n
 ·simp [h]
 ·simp [h]
theorem mk_congr {n:Nat} {f g:Nat->Pt} (h:∀i,i<n->f i=g i):mk n f=mk n g:=List.map_congr_left fun i hi=>h i (List.mem_range.1 hi)
theorem wY {l:List Pt}:mk l.length (fun i=>l.getD i (0,0))=l:=by
 apply List.ext_getElem?
 intro j
 unfold mk
 by_cases h:j<l.length
 ·simp [h]
 ·simp [h]
theorem qA {n:Nat} {f:Nat->Pt}:mk (n+1) f=mk n f++[f n]:=by unfold mk;rw [List.range_succ,List.map_append];rfl
theorem nQ (l:List Pt) (x:Pt):sm (l++[x])=add (sm l) x:=by rw [bZ];simp [sm,add_zero]
theorem oX {n:Nat} {f g:Nat->Pt} {w:Int}:sm (mk n (fun i=>add (f i) (cY w (g i))))=add (sm (mk n f)) (cY w (sm (mk n g))):=by
 induction n with
 |zero=>simp [mk,sm,add,cY]
 |succ n ih =>
  rw [qA,qA,qA,nQ,nQ,nQ,ih]
  simp only [add,cY]
  exact Prod.ext (by simp only [];grind) (by simp only [];grind)
theorem Bm {n:Nat}:sm (mk n (fun _=>(0,0)))=(0,0):=by
 induction n with
 |zero=>rfl
 |succ n ih=>rw [qA,nQ,ih];rfl
theorem qB {U:List cL} (hs:∀x∈U,Sd x.2) {now:List Pt} {v:Pt} (h:Ng U now v) {i:Nat} {x:cL} (hx:U[i]?=some x):now.getD i (0,0)∈cs x.1 x.2:=by
 obtain ⟨j,hj,e⟩:=h.pt i x hx
 have hS:=hs x (List.mem_of_getElem? hx)
 rw [List.getD_eq_getElem?_getD,e,Option.getD_some]
 by_cases hl:j<x.2.length
 ·exact A9 hl
 ·have e2 : j = x.2.length := by omega
  subst e2
  have:=sM (a:=x.1) hS
  unfold iC at this
  rw [this];exact nJ
def acc (f:Nat->Pt) (w:Int) (now:List Pt):Nat->Pt:=fun i=>add (f i) (cY w (now.getD i (0,0)))
theorem Sa {n k : Nat} {wk w0 w1 w2 W : Int} {ls P : List (List Pt)} {C : List Pt} {at_ : List Int} {f : Nat → Pt} {nF : Int × Int × Int} {c0 : Int} {i : Nat} (hn : n = ls.length) (hn4 : n ≤ 1000) (hk : k < 3) (E7 : at_.length = 3) (hai : at_.getD k 0 = (i : Int)) (hi : i < P.length)
  (hlen:(P.getD i []).length=n) (h0:0<=wk) (h1:wk<=1000000000) (hb:∀j,Bd 3000 ((P.getD i []).getD j (0,0))) (hf:∀j,j<n->Bd 10000000000000 (f j)) :
  iter (fun s=>ag (g6_1 s)) (ls,(k:Int),wk,nF,(k:Int),(((ls).length:Nat):Int),0,c0,C,P,at_,W,n,mk n f,()) =
   some (ls,nF,(k:Int),c0,C,P,at_,W,n,mk n (acc f wk (P.getD i [])),()):=by
 obtain ⟨r, q1, q2⟩ := fk (step := fun s => ag (g6_1 s)) n (fun m s => s = (ls, (k : Int), wk, nF, (k : Int), ((ls.length : Nat) : Int), (m : Int), c0, C, P, at_, W, n, mk n (fun j => if j < m then acc f wk (P.getD i []) j else f j), ()))
  (fun r=>r=(ls,nF,(k:Int),c0,C,P,at_,W,n,mk n (acc f wk (P.getD i [])),())) (fun m s hm hs=>by
   subst hs
   have j1:cR (m:Int) ((n:Nat):Int)=true:=bg (by omega) (by omega)
   have j2:cR (k:Int) 3=true:=bg (by omega) (by omega)
   have j3:cR (i:Int) ((P.length:Nat):Int)=true:=bg (by omega) (by omega)
   have j4:cR (m:Int) (((P.getD i []).length:Nat):Int)=true:=bg (by omega) (by omega)
   have r3:cS .i64 ((m:Int)+1)=true:=aH (by omega) (by omega)
   have d1:decide (k<at_.length)=true:=decide_eq_true (by omega)
   have d2:∀g:Nat->Pt,decide (m<(mk n g).length)=true:=fun g=>decide_eq_true (by rw [Bl];exact hm)
   have em:(mk n (fun j=>if j<m then acc f wk (P.getD i []) j else f j)).set m (acc f wk (P.getD i []) m)=mk n (fun j=>if j<m+1 then acc f wk (P.getD i []) j else f j):=by
    rw [R8]
    refine mk_congr fun j _=>?_
    by_cases e:j=m
    ·subst e;simp
    ·simp only [if_neg e]
     by_cases h:j<m
     ·rw [if_pos h,if_pos (by omega)]
     ·rw [if_neg h,if_neg (by omega)]
   refine ⟨_,?_,rfl⟩
   simp only [g6_1,ak,aV,aJ,bz,aB,aa,Int.toNat_natCast,Nat.zero_add,j1,j2,r3,d1,d2,ax,aW,hai,j3,j4,bC]
   rw [if_pos (by omega),az (SX h0 h1 ((hb m).le (by omega)))]
   rw [Jp hm,if_neg (by omega)]
   simp only [bC]
   rw [az (XH ((hf m hm).le (by omega)) ((wV h0 h1 (hb m)).le (by omega)))]
   show some (Sum.inl (ls,(k:Int),wk,nF,(k:Int),((ls.length:Nat):Int),(m:Int)+1,c0,C,P,at_,W,n,(mk n (fun j=>if j<m then acc f wk (P.getD i []) j else f j)).set m (acc f wk (P.getD i []) m),()))=_
   rw [em]
   rfl) (fun s hs=>by
   subst hs
   refine ⟨_,?_,rfl⟩
   simp only [g6_1,ak,aa,aW]
   rw [if_neg (by omega)]
   rw [mk_congr (g:=acc f wk (P.getD i [])) fun j hj=>if_pos hj]) (x:=(ls,(k:Int),wk,nF,(k:Int),((ls.length:Nat):Int),0,c0,C,P,at_,W,n,mk n f,())) (by simp)
 rw [q1,q2]
theorem r14 {n k : Nat} {wk w0 w1 w2 W : Int} {ls P : List (List Pt)} {C : List Pt} {at_ : List Int} {f : Nat → Pt} {c0 : Int} {i : Nat} (hn : n = ls.length) (hn4 : n ≤ 1000) (hk : k < 3) (E7 : at_.length = 3) (hai : at_.getD k 0 = (i : Int)) (hi : i < P.length) (hwk : [w0, w1, w2].getD k 0 = wk)
  (hlen:(P.getD i []).length=n) (h0:0<=wk) (h1:wk<=1000000000) (hW:0<=W) (hW2:W<=10000000000) (hb:∀j,Bd 3000 ((P.getD i []).getD j (0,0))) (hf:∀j,j<n->Bd 10000000000000 (f j)) :
  ag (g6_0 (ls,(w0,w1,w2),(k:Int),c0,C,P,at_,W,n,mk n f,()))=some (.inl (ls,(w0,w1,w2),((k+1:Nat):Int),c0,C,P,at_,W+wk,n,mk n (acc f wk (P.getD i [])),())):=by
 have j2:cR (k:Int) 3=true:=bg (by omega) (by omega)
 simp only [g6_0,ak,aV,aJ,bz,aB,bq,aa,Int.toNat_natCast,j2,ax,aW,hwk]
 rw [if_pos (by omega),av (by omega) (by omega)]
 refine bind_eq (Sa (w0:=0) (w1:=0) (w2:=0) hn hn4 hk E7 hai hi hlen h0 h1 hb hf) ?_
 simp only []
 rw [av (by omega) (by omega)]
 rfl
theorem Jq {f:Nat->Pt} {w K:Int} {now:List Pt} {n:Nat} (h0:0<=w) (h1:w<=1000000000) (hb:∀j,Bd 3000 (now.getD j (0,0))) (hf:∀j,j<n->Bd K (f j)):∀j,j<n->Bd (K+3000000000000) (acc f w now j):=fun j hj =>
 sS (hf j hj) ((wV h0 h1 (hb j)).le (by omega))
theorem Bn {U:List cL} (h:zy U) {now:List Pt} {v:Pt} (hp:Ng U now v):∀j,Bd 3000 (now.getD j (0,0)):=fun j=>by
 by_cases hj:j<now.length
 ·rw [hp.len] at hj
  have e:U[j]?=some U[j]:=List.getElem?_eq_getElem hj
  have:=qB h.sd hp e
  exact ((h.take _ (List.getElem_mem hj)).2.1 _ this).le (by omega)
 ·rw [gT _ (by omega)];exact Gu (by omega)
theorem k14 {x:List (List Pt)} {U:List cL} (h:Us x U) {p:Pt} (hp:Bd 100000 p) :
  (¬Has (jr U) (lP U) 1 p->ag (F6 (bM U) p)=some ((0,[]),10,())) /\
  (Has (jr U) (lP U) 1 p->∃(W:Int) (f:Nat->Pt),ag (F6 (bM U) p)=some ((W,mk U.length f),0,())/\1<=W/\W<=1000000000/\(∀(i:Nat) (y:cL),U[i]?=some y->Has y.1 y.2 W (f i))/\sm (mk U.length f)=cY W p):=by
 obtain ⟨a1,a2,a3⟩:=qz h.s.sd
 have hl:=h.dsl
 have hn4:=h.l3
 have Ys:=k32 a3.sd (by omega) (by omega) (by omega) h.sum.2.2.1 (hp.le (by omega):Bd 10000000000000 p) (n:=1)
 constructor
 ·intro hnot
  simp only [F6,aB,ak,aa,bC]
  rw [az (XF h.u hp),beq_self_eq_true,Bool.not_true,aY,az (XD h.s)]
  simp only [a1]
  rw [az Ys,decide_eq_false hnot,Bool.not_false,cu]
 ·intro hh
  obtain ⟨i0,i1,i2,w0,w1,w2,q34,hm⟩:=k34 a3.sd (by omega) h.sum.2.2.1 hh
  -- the parts
  have Jd:∀i,i<(cs (jr U) (lP U)).length->i<(eG U).2.length/\Ng U ((eG U).2.getD i []) ((cs (jr U) (lP U)).getD i (0,0)):=by
   intro i hi
   have hpl:=a2.1
   rw [a1] at hpl
   obtain ⟨now,e,hP⟩:=a2.2 i ((cs (jr U) (lP U)).getD i (0,0)) (by rw [a1,List.getD_eq_getElem?_getD,List.getElem?_eq_getElem hi];rfl)
   refine ⟨by omega,?_⟩
   rw [List.getD_eq_getElem?_getD,e]
   exact hP
  obtain ⟨l0,P0⟩:=Jd _ hm.n0
  obtain ⟨l1,P1⟩:=Jd _ hm.n1
  obtain ⟨l2,P2⟩:=Jd _ hm.n2
  have hm0:=hm.p0;have jM:=hm.p1;have hm2:=hm.p2;have hone:=hm.one;have hle:=hm.le
  have b0:=Bn h.s P0
  have b1:=Bn h.s P1
  have b2:=Bn h.s P2
  have z0:∀j,j<U.length->Bd 0 ((fun _=>((0:Int),(0:Int))) j):=fun j _=>Gu (by omega)
  have c0:=Jq (n:=U.length) hm0 (by omega) b0 z0
  have c1:=Jq (n:=U.length) jM (by omega) b1 c0
  let f0:Nat->Pt:=acc (fun _=>(0,0)) w0 ((eG U).2.getD i0 [])
  let f1:Nat->Pt:=acc f0 w1 ((eG U).2.getD i1 [])
  let f2:Nat->Pt:=acc f1 w2 ((eG U).2.getD i2 [])
  have t0:=r14 (n:=U.length) (k:=0) (wk:=w0) (w0:=w0) (w1:=w1) (w2:=w2) (W:=0) (ls:=bM U) (P:=(eG U).2) (C:=cs (jr U) (lP U)) (at_:=[(i0:Int),(i1:Int),(i2:Int)]) (f:=fun _=>(0,0)) (c0:=0) (i:=i0) jK.symm (by omega) (by omega) rfl rfl l0 rfl P0.len hm0 (by omega) (by omega) (by omega) b0 (fun j hj=>(z0 j hj).le (by omega))
  have t1:=r14 (n:=U.length) (k:=1) (wk:=w1) (w0:=w0) (w1:=w1) (w2:=w2) (W:=0+w0) (ls:=bM U) (P:=(eG U).2) (C:=cs (jr U) (lP U)) (at_:=[(i0:Int),(i1:Int),(i2:Int)]) (f:=f0) (c0:=0) (i:=i1) jK.symm (by omega) (by omega) rfl rfl l1 rfl P1.len jM (by omega) (by omega) (by omega) b1 (fun j hj=>(c0 j hj).le (by omega))
  have t2:=r14 (n:=U.length) (k:=2) (wk:=w2) (w0:=w0) (w1:=w1) (w2:=w2) (W:=0+w0+w1) (ls:=bM U) (P:=(eG U).2) (C:=cs (jr U) (lP U)) (at_:=[(i0:Int),(i1:Int),(i2:Int)]) (f:=f1) (c0:=0) (i:=i2) jK.symm (by omega) (by omega) rfl rfl l2 rfl P2.len hm2 (by omega) (by omega) (by omega) b2 (fun j hj=>(c1 j hj).le (by omega))
  have t3:ag (g6_0 (bM U,(w0,w1,w2),((2+1:Nat):Int),0,cs (jr U) (lP U),(eG U).2,[(i0:Int),(i1:Int),(i2:Int)],0+w0+w1+w2,U.length,mk U.length f2,()))=some (.inr (0,0+w0+w1+w2,U.length,mk U.length f2,())):=by
   simp only [g6_0,ak,aa,aW]
   rw [if_neg (by omega)]
  have q:iter (fun s=>ag (g6_0 s)) (bM U,(w0,w1,w2),0,0,cs (jr U) (lP U),(eG U).2,[(i0:Int),(i1:Int),(i2:Int)],0,U.length,mk U.length (fun _=>(0,0)),())=some (0,0+w0+w1+w2,U.length,mk U.length f2,()) :=
   aE (step:=fun s=>ag (g6_0 s)) t0 (aE (step:=fun s=>ag (g6_0 s)) t1 (aE (step:=fun s=>ag (g6_0 s)) t2 (bn (step:=fun s=>ag (g6_0 s)) t3)))
  have hW:0+w0+w1+w2=w0+w1+w2:=by omega
  rw [hW] at q
  refine ⟨w0+w1+w2,f2,?_,hone,hle,?_,?_⟩
  ·simp only [F6, aB, ak, aV, bq, aa, bC]
   rw [az (XF h.u hp),beq_self_eq_true,Bool.not_true,aY,az (XD h.s)]
   simp only [a1]
   rw [az Ys,decide_eq_true hh,Bool.not_true,aY,az q34]
   rw [jK,sv (by omega) (by omega),Int.toNat_natCast,R9]
   refine bind_eq q ?_
   simp only [List.drop_zero]
   rw [List.take_of_length_le (by rw [Bl];omega)]
  ·intro i y hy
   have hS:=h.s.sd y (List.mem_of_getElem? hy)
   refine I3 hS (by omega) fun u=>?_
   obtain ⟨v,hv,e⟩:=uR (u:=u) (a:=y.1) hS
   refine ⟨v,hv,?_⟩
   have e0:=sL (u:=u) hS (qB h.s.sd P0 hy)
   have e1:=sL (u:=u) hS (qB h.s.sd P1 hy)
   have e2:=sL (u:=u) hS (qB h.s.sd P2 hy)
   rw [<-e] at e0 e1 e2
   have m0:=Int.mul_le_mul_of_nonneg_left e0 hm0
   have m1:=Int.mul_le_mul_of_nonneg_left e1 jM
   have m2:=Int.mul_le_mul_of_nonneg_left e2 hm2
   show dt u (add (add (add (0,0) (cY w0 _)) (cY w1 _)) (cY w2 _))<=_
   rw [iL,iL,iL,wP,wP,wP]
   have z:dt u (0,0)=0:=by simp [dt]
   rw [z,Int.add_mul,Int.add_mul]
   omega
  ·show sm (mk U.length (fun i => add (f1 i) (cY w2 (((eG U).2.getD i2 []).getD i (0, 0))))) = _
   rw [oX]
   show add (sm (mk U.length (fun i=>add (f0 i) (cY w1 (((eG U).2.getD i1 []).getD i (0,0)))))) _=_
   rw [oX]
   show add (add (sm (mk U.length (fun i=>add (0,0) (cY w0 (((eG U).2.getD i0 []).getD i (0,0)))))) _) _=_
   rw [oX (f:=fun _=>(0,0)),Bm]
   have s0:mk U.length (fun i=>((eG U).2.getD i0 []).getD i (0,0))=(eG U).2.getD i0 []:=by rw [<-P0.len];exact wY
   have s1:mk U.length (fun i=>((eG U).2.getD i1 []).getD i (0,0))=(eG U).2.getD i1 []:=by rw [<-P1.len];exact wY
   have s2:mk U.length (fun i=>((eG U).2.getD i2 []).getD i (0,0))=(eG U).2.getD i2 []:=by rw [<-P2.len];exact wY
   rw [s0,s1,s2,P0.sum,P1.sum,P2.sum,zero_add]
   exact hm.eq
end Go.Proofs.Try
end
section
namespace Go.Proofs.Try
open Go.AM Go.fD
set_option maxRecDepth 100000
theorem XI {a K:Int} (h0:0<=K) (h1:K<=1000000000000000):ag (F50 a K)=some (decide (-K<=a/\a<=K),()):=by
 simp only [F50,aJ,ak,aa,aW]
 rw [av (by omega) (by omega)]
 by_cases h:0 - K<=a
 ·rw [if_pos h]
  have:(-K<=a/\a<=K)↔a<=K:=by omega
  simp only [this]
 ·rw [if_neg h]
  have:¬(-K<=a/\a<=K):=by omega
  simp [this]
noncomputable instance (K:Int) (p:Pt):Decidable (Bd K p):=Classical.propDecidable _
theorem k41 {q:Pt} {K:Int} (h0:0<=K) (h1:K<=1000000000000000):ag (F23 q K)=some (decide (Bd K q),()):=by
 simp only [F23,aB,ak,aa]
 rw [az (XI h0 h1),aW]
 by_cases h : -K<=q.1/\q.1<=K
 ·rw [if_pos h, az (XI h0 h1)]
  have:Bd K q ↔ -K<=q.2/\q.2<=K:=⟨fun h=>h.2.2,fun g=>⟨h.1,h.2,g⟩⟩
  rw [decide_eq_decide.2 this]
 ·rw [if_neg h,decide_eq_false fun g=>h ⟨g.1,g.2.1⟩]
theorem Nj {a p:Pt} {ds:List Pt} {n K:Int} (hn:0<=n) (hb:∀v∈cs a ds,Bd K v) (hh:Has a ds n p):Bd (K * n) p:=by
 obtain ⟨-,-,⟨v1,m1,e1⟩,⟨v2,m2,e2⟩,⟨v3,m3,e3⟩,⟨v4,m4,e4⟩⟩:=hh
 have a1:=Int.mul_le_mul_of_nonneg_left (hb _ m1).1 hn
 have a2:=Int.mul_le_mul_of_nonneg_left (hb _ m2).2.1 hn
 have a3:=Int.mul_le_mul_of_nonneg_left (hb _ m3).2.2.1 hn
 have a4:=Int.mul_le_mul_of_nonneg_left (hb _ m4).2.2.2 hn
 rw [Int.mul_neg] at a1 a3
 rw [Int.mul_comm K n]
 exact ⟨by omega,by omega,by omega,by omega⟩
def zK (U:List cL) (W:Int) (runs:List Pt) (i:Nat):Prop:=Bd (1000 * W) (runs.getD i (0,0))/\Has (U.getD i ((0,0),[])).1 (U.getD i ((0,0),[])).2 W (runs.getD i (0,0))
noncomputable instance (U:List cL) (W:Int) (runs:List Pt) (i:Nat):Decidable (zK U W runs i):=Classical.propDecidable _
theorem k20 {x:List (List Pt)} {U:List cL} (h:Us x U) {p:Pt} (hp:Bd 100000 p) {W:Int} {runs:List Pt} (h0:1<=W) (h1:W<=1000000000) (hl:runs.length=U.length) :
  ∃z,ag (F8 (bM U) p (W,runs))=some (z,())/\((z=10/\¬ ∀i,i<U.length->zK U W runs i)\/((∀i,i<U.length->zK U W runs i)/\z=if sm runs=cY W p then 0 else 19)):=by
 have h3:=h.l3
 have nK:∀k,k<=U.length->(∀j,j<k->zK U W runs j)->Bd (1000000000000 * k) (sm (runs.take k)):=by
  intro k hk hj
  refine Jh (by simp;omega) (fun q hq=>?_) (by omega)
  obtain ⟨j,hj1,e⟩:=List.getElem_of_mem hq
  rw [List.length_take] at hj1
  have:=(hj j (by omega)).1
  rw [iz _ (by omega)] at this
  rw [List.getElem_take] at e
  rw [e] at this
  exact this.le (by omega)
 have q := ld (step := fun s => ag (g8_0 s)) (γ := Unit) (b := .inr (p.1, p.2, W, runs, (sm runs).1, (sm runs).2, ()))
  U.length (fun k=>(bM U,runs,((runs.length:Nat):Int),(k:Int),p.1,p.2,W,runs,(sm (runs.take k)).1,(sm (runs.take k)).2,()))
  (fun k=>if zK U W runs k then none else some ())
  (fun _=>.inl (10,()))
  (fun k hk hpre=>by
   have hok:∀j,j<k->zK U W runs j:=fun j hj=>by
    have:=hpre j hj
    by_cases ho:zK U W runs j
    ·exact ho
    ·rw [if_neg ho] at this;cases this
   have bS:=nK k (by omega) hok
   have j1:cR (k:Int) ((runs.length:Nat):Int)=true:=bg (by omega) (by omega)
   have j2:cR (k:Int) (((bM U).length:Nat):Int)=true:=bg (by omega) (by rw [jK];omega)
   have r3:cS .i64 ((k:Int)+1)=true:=aH (by omega) (by omega)
   have gU:U.getD k ((0,0),[])=U[k]:=iz _ hk
   have hx:U[k]∈U:=List.getElem_mem hk
   obtain ⟨t1,t2,t3⟩:=h.s.take _ hx
   have hlen:U[k].2.length<=1000:=by
    by_cases hne:U[k].2=[]
    ·rw [hne];simp
    ·rw [<-mJ (a:=U[k].1) hne];exact t3
   have eT:sm (runs.take (k+1))=add (sm (runs.take k)) (runs.getD k (0,0)):=by
    rw [kL (0,0) (by omega),nQ]
   simp only [g8_0,ak,aV,aJ,bz,aB,aa,Int.toNat_natCast,j1,j2,ax,bC]
   rw [wh (decide_eq_true (by omega)),av (by omega) (by omega),az (k41 (by omega) (by omega))]
   by_cases c1:Bd (1000 * W) (runs.getD k (0,0))
   ·rw [decide_eq_true c1, Bool.not_true, aY, wU hk]
    have Ys:=k32 t1 hlen (by omega) h1 (fun v hv=>(t2 v hv).le (by omega)) (c1.le (by omega):Bd 10000000000000 (runs.getD k (0,0))) (n:=W)
    rw [az Ys]
    by_cases c2:Has U[k].1 U[k].2 W (runs.getD k (0,0))
    ·rw [decide_eq_true c2, Bool.not_true, aY, az (XH (bS.le (by omega)) (c1.le (by omega)))]
     rw [if_pos (show zK U W runs k from ⟨c1,by rw [gU];exact c2⟩)]
     simp only [r3,ax,eT]
     rfl
    ·rw [decide_eq_false c2,Bool.not_false,cu,if_neg (show ¬zK U W runs k from fun ho=>c2 (by have:=ho.2;rw [gU] at this;exact this))]
   ·rw [decide_eq_false c1,Bool.not_false,cu,if_neg (show ¬zK U W runs k from fun ho=>c1 ho.1)]) (fun _=>by
   simp only [g8_0,ak,aa]
   rw [qd (decide_eq_false (by omega)),<-hl,List.take_length])
 have q':iter (fun s=>ag (g8_0 s)) (bM U,runs,((runs.length:Nat):Int),0,p.1,p.2,W,runs,0,0,())=_:=q
 have start:∀z,(cz (iter (fun s=>ag (g8_0 s)) (bM U,runs,((runs.length:Nat):Int),0,p.1,p.2,W,runs,0,0,())) fun z4=>ag (.sm z4 (fun z5=>.ret (z5.1,())) fun z6=>.bd (F19 (z6.1,z6.2.1) z6.2.2.1) fun y7=>.br (!((z6.2.2.2.2.1==y7.1.1)&&((z6.2.2.2.2.2.1==y7.1.2)&&true))) (.ret ((19:Int),())) (.ret ((0:Int),()))))=some (z,())->ag (F8 (bM U) p (W,runs))=some (z,()):=by
  intro z hz
  simp only [F8,aB,ak,bq,aa,bC]
  rw [az (XF h.u hp),beq_self_eq_true,Bool.not_true,aY,qd (decide_eq_false (by omega)),qd (decide_eq_false (by omega)),jK,hl,beq_self_eq_true,Bool.not_true,aY]
  rw [hl] at hz
  exact hz
 by_cases hall:∀i,i<U.length->zK U W runs i
 ·have hf:(List.range U.length).findSome? (fun k=>if zK U W runs k then none else some ())=none:=by
   rw [List.findSome?_eq_none_iff]
   intro k hk
   rw [if_pos (hall k (List.mem_range.1 hk))]
  rw [hf] at q'
  refine ⟨_,start (if sm runs=cY W p then 0 else 19) ?_,.inr ⟨hall,rfl⟩⟩
  rw [az q']
  simp only [Option.elim_none,HG,aB,ak,aa]
  have hk:=SX (p:=p) (n:=W) (by omega) h1 hp
  rw [az hk]
  simp only []
  by_cases e:sm runs=cY W p
  ·rw [if_pos e,e];simp
  ·rw [if_neg e, wh ?_]
   rw [Bool.not_eq_true',<-Bool.not_eq_true,Bool.and_true,Bool.and_eq_true,beq_iff_eq,beq_iff_eq]
   exact fun g=>e (Prod.ext g.1 g.2)
 ·refine ⟨10, start 10 ?_, .inl ⟨rfl, hall⟩⟩
  cases hf:(List.range U.length).findSome? (fun k=>if zK U W runs k then none else some ()) with
  |none =>
   exfalso
   refine hall fun i hi=>?_
   have:=List.findSome?_eq_none_iff.1 hf i (List.mem_range.2 hi)
   by_cases ho:zK U W runs i
   ·exact ho
   ·rw [if_neg ho] at this;cases this
  |some u =>
   rw [hf] at q'
   rw [az q']
   simp only [Option.elim_some,AB,aa]
theorem Sb {U:List cL} (h:zy U) {W:Int} {f:Nat->Pt} (hW:0<=W) (hf:∀(i:Nat) (y:cL),U[i]?=some y->Has y.1 y.2 W (f i)):∀i,i<U.length->zK U W (mk U.length f) i:=by
 intro i hi
 have e:U[i]?=some U[i]:=List.getElem?_eq_getElem hi
 have hh:=hf i _ e
 unfold zK
 rw [Jp hi,iz _ hi]
 exact ⟨Nj hW (h.take _ (List.getElem_mem hi)).2.1 hh,hh⟩
theorem Sc {x:List (List Pt)} {U:List cL} (h:Us x U) {p:Pt} (hp:Bd 100000 p) {W:Int} {f:Nat->Pt} (h0:1<=W) (h1:W<=1000000000) (hf:∀(i:Nat) (y:cL),U[i]?=some y->Has y.1 y.2 W (f i)) (hs:sm (mk U.length f)=cY W p) :
  ag (F8 (bM U) p (W,mk U.length f))=some (0,()):=by
 obtain ⟨z,q,hz⟩:=k20 h hp h0 h1 (runs:=mk U.length f) Bl
 rcases hz with ⟨-,hn⟩|⟨-,e⟩
 ·exact (hn (Sb h.s (by omega) hf)).elim
 ·rw [if_pos hs] at e;rw [q,e]
end Go.Proofs.Try
end
section
namespace Go.Proofs.Try
open Go.AM Go.fD
set_option maxRecDepth 100000
def XJ:List Pt:=[(1,0),(-1,0),(0,1),(0,-1)]
theorem Se {l B:List Pt} {ls:List (List Pt)} {v4 v5 v6 c0 c1:Int} (hl:l.length<=1000) (hb:∀p∈l,Bd 3000 p) (hB:B.length<=1000) :
  ag (g7_0 (ls,v4,v5,v6,l,c0,c1,B.length,B,()))=some (ls,c0,c1,(B++(aO l).map fun s=>out s.2).length,(B++(aO l).map fun s=>out s.2),()):=by
 have hgd:∀i,Bd 3000 (l.getD i (0,0)):=fun i=>by
  by_cases h:i<l.length
  ·exact hb _ (cB h)
  ·rw [gT _ (by omega)];exact Gu (by omega)
 obtain ⟨r, q1, q2⟩ := fk (step := fun s => ag (g7_0i_0 s)) l.length (fun i s => s = (l, l, ((l.length : Nat) : Int), (i : Int), ls, v4, v5, v6, l, c0, c1, (B ++ ((aO l).take i).map fun s => out s.2).length, (B ++ ((aO l).take i).map fun s => out s.2), ()))
  (fun r=>r=(c0,c1,(B++(aO l).map fun s=>out s.2).length,ls,v4,v5,v6,l,(B++(aO l).map fun s=>out s.2),())) (fun i s hi hs=>by
   subst hs
   have j1:cR (i:Int) ((l.length:Nat):Int)=true:=bg (by omega) (by omega)
   have r3:cS .i64 ((i:Int)+1)=true:=aH (by omega) (by omega)
   by_cases h1:1<l.length
   ·have Dd : (aO l).length = l.length := by unfold aO; rw [if_pos h1]; simp
    have e1:(aO l).take (i+1)=(aO l).take i++[(l.getD i (0,0),sub (l.getD ((i+1) % l.length) (0,0)) (l.getD i (0,0)))]:=by
     rw [List.take_succ_eq_append_getElem (by omega)]
     simp [aO,h1]
    have tm:Int.tmod ((i:Int)+1) ((l.length:Nat):Int)=(((i+1) % l.length:Nat):Int):=by
     have e:((i:Int)+1)=((i+1:Nat):Int):=by omega
     rw [e];exact Int.ofNat_tmod _ _
    have hlt:(i+1) % l.length<l.length:=Nat.mod_lt _ (by omega)
    have j2:cR (((i+1) % l.length:Nat):Int) ((l.length:Nat):Int)=true:=bg (Int.natCast_nonneg _) (Int.ofNat_lt.2 hlt)
    have z0:(!(((l.length:Nat):Int)==0))=true:=by rw [Bool.not_eq_true',beq_eq_false_iff_ne];omega
    have lb:((aO l).take i).length<=1000:=by rw [List.length_take];omega
    have hM:(B++((aO l).take i).map fun s=>out s.2).length<=200000:=by rw [List.length_append,List.length_map];omega
    have em:(B++((aO l).take (i+1)).map fun s=>out s.2)=(B++((aO l).take i).map fun s=>out s.2)++[out (sub (l.getD ((i+1) % l.length) (0,0)) (l.getD i (0,0)))]:=by
     rw [e1];simp
    generalize (B++((aO l).take i).map fun s=>out s.2)=M at hM em
    have bs:Bd 6000 (sub (l.getD ((i+1) % l.length) (0,0)) (l.getD i (0,0))):=(jJ (hgd _) (hgd _)).le (by omega)
    have d1:∀x:Pt,decide (M.length+(List.take 1 (List.drop 0 [x])).length<bU)=true:=fun x=>decide_eq_true (by rw [k9];simp;omega)
    rw [em]
    refine ⟨_,?_,rfl⟩
    simp only [g7_0i_0,ak,aV,aJ,bz,aB,aa,j1,r3,ax,aW,tm,Int.toNat_natCast,z0,j2,bC]
    rw [if_pos (by omega),if_pos (by omega),az (JE ((hgd _).le (by omega)) ((hgd _).le (by omega)))]
    have b1:=bs.1;have b2:=bs.2.1
    simp only []
    rw [av (by omega) (by omega)]
    simp only [d1,ax]
    simp [out]
   ·have Dd : aO l = [] := by unfold aO; rw [if_neg h1]
    refine ⟨_,?_,rfl⟩
    simp only [g7_0i_0,ak,aV,aJ,bz,aB,aa,j1,r3,ax,aW]
    rw [if_pos (by omega),if_neg (by omega)]
    simp [Dd]) (fun s hs=>by
   subst hs
   refine ⟨_,?_,rfl⟩
   have:(aO l).take l.length=aO l:=List.take_of_length_le (by unfold aO;split<;>simp)
   simp only [g7_0i_0,ak,aa,aW,this]
   rw [if_neg (by omega)]) (x:=(l,l,((l.length:Nat):Int),0,ls,v4,v5,v6,l,c0,c1,B.length,B,())) (by simp)
 subst q2
 simp only [g7_0,aB,bq,aa]
 rw [az q1]
theorem Sf {x:List (List Pt)} {U:List cL} (h:Us x U) {p:Pt} (hp:Bd 100000 p) {D:List Pt} (hD:∀u∈D,Bd 6000 u) (hl:D.length<=1000) :
  ((∃u∈D,kP u U<dt u p)->∃u,kP u U<dt u p/\Bd 6000 u/\iter (fun s=>ag (g7_1 s)) (bM U,D.length,((D.length:Nat):Int),0,p.1,p.2,D,())=some (.inl (u.1,u.2,0,()))) /\
  ((∀u∈D,dt u p<=kP u U)->iter (fun s=>ag (g7_1 s)) (bM U,D.length,((D.length:Nat):Int),0,p.1,p.2,D,())=some (.inr ())):=by
 have q := ld (step := fun s => ag (g7_1 s)) (γ := Pt) (b := .inr ()) D.length (fun k => (bM U, D.length, ((D.length : Nat) : Int), (k : Int), p.1, p.2, D, ()))
  (fun k=>if kP (D.getD k (0,0)) U<dt (D.getD k (0,0)) p then some (D.getD k (0,0)) else none) (fun u=>.inl (u.1,u.2,0,())) (fun k hk _=>by
   have j1:cR (k:Int) ((D.length:Nat):Int)=true:=bg (by omega) (by omega)
   have r3:cS .i64 ((k:Int)+1)=true:=aH (by omega) (by omega)
   have d1:decide (k<D.length)=true:=decide_eq_true hk
   have hu:=hD _ (cB (d:=((0:Int),(0:Int))) hk)
   simp only [g7_1,ak,aV,aJ,bz,aB,aa,Int.toNat_natCast,Nat.zero_add,j1,d1,ax,aW,F21,aP,bC]
   rw [if_pos (by omega),az (k57 (hu.le (by omega)) (hp.le (by omega))),az (k39 h.s (hu.le (by omega)))]
   simp only []
   by_cases hc:kP (D.getD k (0,0)) U<dt (D.getD k (0,0)) p
   ·rw [if_pos hc,if_pos hc]
   ·rw [if_neg hc, if_neg hc]
    simp only [r3,ax]
    rfl) (fun _=>by
   simp only [g7_1,ak,aa,aW]
   rw [if_neg (by omega)])
 have q':iter (fun s=>ag (g7_1 s)) (bM U,D.length,((D.length:Nat):Int),0,p.1,p.2,D,())=_:=q
 constructor
 ·rintro ⟨u, hu, hc⟩
  obtain ⟨k,hk,e⟩:=List.getElem_of_mem hu
  cases hf:(List.range D.length).findSome? (fun k=>if kP (D.getD k (0,0)) U<dt (D.getD k (0,0)) p then some (D.getD k (0,0)) else none) with
  |none =>
   have:=List.findSome?_eq_none_iff.1 hf k (List.mem_range.2 hk)
   rw [iz _ hk,e,if_pos hc] at this;cases this
  |some v =>
   obtain ⟨k',hk',e⟩:=List.exists_of_findSome?_eq_some hf
   rw [hf] at q'
   by_cases ho:kP (D.getD k' (0,0)) U<dt (D.getD k' (0,0)) p
   ·rw [if_pos ho] at e
    cases e
    exact ⟨_,ho,hD _ (cB (List.mem_range.1 hk')),q'⟩
   ·rw [if_neg ho] at e;cases e
 ·intro hall
  have hf:(List.range D.length).findSome? (fun k=>if kP (D.getD k (0,0)) U<dt (D.getD k (0,0)) p then some (D.getD k (0,0)) else none)=none:=by
   rw [List.findSome?_eq_none_iff]
   intro k hk
   have:=hall _ (cB (d:=((0:Int),(0:Int))) (List.mem_range.1 hk))
   rw [if_neg (by omega)]
  rw [hf] at q'
  exact q'
theorem Sg {x:List (List Pt)} {U:List cL} (h:Us x U):∀d∈lP U,Bd 6000 d:=by
 intro d hd
 obtain ⟨i,hi,e⟩:=List.getElem_of_mem hd
 have hne:lP U≠[]:=fun e=>by rw [e] at hi;simp at hi
 obtain ⟨s1,s2⟩:=C5 (a:=jr U) h.sum.2.1.sd hne hi
 rw [<-e,<-s2,<-s1]
 have tS:=mJ (a:=jr U) hne
 have hb:=h.sum.2.2.1
 have b1:=hb _ (cB (d:=(0,0)) (by rw [tS];exact hi))
 have b2:=hb _ (cB (d:=(0,0)) (by rw [tS];exact Nat.mod_lt (i+1) (by omega)))
 exact (jJ b2 b1).le (by omega)
theorem k15 {x:List (List Pt)} {U:List cL} (h:Us x U) {p:Pt} (hp:Bd 100000 p) :
  (¬Has (jr U) (lP U) 1 p->∃u,kP u U<dt u p/\Bd 6000 u/\ag (F7 (bM U) p)=some (u.1,u.2,0,())) /\
  (Has (jr U) (lP U) 1 p->ag (F7 (bM U) p)=some (0,0,5,())):=by
 obtain ⟨a1,-,a3⟩:=qz h.s.sd
 have hl:=h.dsl
 let D:List Pt:=XJ++(lP U).map out
 have hD:∀u∈D,Bd 6000 u:=by
  intro u hu
  rcases List.mem_append.1 hu with hu|hu
  ·simp only [XJ, List.mem_cons, List.not_mem_nil, or_false] at hu
   rcases hu with rfl|rfl|rfl|rfl<;>exact ⟨by simp,by simp,by simp,by simp⟩
  ·obtain ⟨d, hd, rfl⟩ := List.mem_map.1 hu
   obtain ⟨b1,b2,b3,b4⟩:=Sg h d hd
   exact ⟨by simp only [out];omega,by simp only [out];omega,by simp only [out];omega,by simp only [out];omega⟩
 have hDl:D.length<=1000:=by simp [D,XJ];omega
 have sds2:∀(a:Pt) (ds:List Pt),(sd a ds).map (fun s=>out s.2)=ds.map out:=by
  intro a ds
  induction ds generalizing a with
  |nil=>rfl
  |cons d r ih=>simp [sd,ih]
 have q0:=Se (l:=cs (jr U) (lP U)) (B:=XJ) (ls:=bM U) (v4:=0) (v5:=0) (v6:=0) (c0:=p.1) (c1:=p.2) (Nat.le_trans h.sum.2.2.2 (by omega)) h.sum.2.2.1 (by simp [XJ])
 rw [oW a3.sd,sds2] at q0
 obtain ⟨r1,r2⟩:=Sf h hp hD hDl
 have start:∀z,(cz (iter (fun s=>ag (g7_1 s)) (bM U,D.length,((D.length:Nat):Int),0,p.1,p.2,D,())) fun z9=>ag (.sm z9 (fun oR=>.ret (oR.1,oR.2.1,oR.2.2.1,())) fun _=>.ret ((0:Int),(0:Int),(5:Int),())))=some z->ag (F7 (bM U) p)=some z:=by
  intro z hz
  simp only [F7,F20,aB,ak,bq,aa,bC,aP]
  rw [az (XF h.u hp),beq_self_eq_true,Bool.not_true,aY,az (XD h.s)]
  simp only [a1]
  refine bind_eq q0 ?_
  exact hz
 constructor
 ·intro hnot
  obtain ⟨u,hu,hc⟩:=Nd a3.sd hnot
  rw [a3.mx u] at hc
  obtain ⟨v,v1,v2,v3⟩:=r1 ⟨u,by
   rcases hu with hu|⟨d,hd,rfl⟩
   ·exact List.mem_append_left _ hu
   ·exact List.mem_append_right _ (List.mem_map.2 ⟨d,hd,rfl⟩),hc⟩
  refine ⟨v,v1,v2,start _ ?_⟩
  rw [az v3]
  rfl
 ·intro hh
  have hs:=(has_sup a3.sd (by omega)).1 hh
  rw [I7 a3.sd (by omega)] at hs
  refine start _ ?_
  rw [az (r2 fun u _=>by have:=hs u;rw [a3.mx u,Int.one_mul] at this;exact this)]
  rfl
end Go.Proofs.Try
end
section
namespace Go.Proofs.Try
open Go.AM
set_option maxRecDepth 100000
abbrev Ms:=Int×Int×Int×Int
abbrev Fl:=Int×Int×Bool×Int×Int×Int×Int
def zF:Fl:=((0:Int),(0:Int),false,(0:Int),(0:Int),(0:Int),(0:Int))
def qg (x y z:Ms):List Fl:=[(-1,0,true,x),(0,1,false,0,0,0,0),(0,2,false,0,0,0,0),(1,-1,true,y),(1,-1,true,z),(2,-1,false,0,0,0,0)]
def M1:List (Int×Int):=[(0,-1),(2,0)]
def M2:List (Int×Int):=[(1,0),(2,-1)]
def M5:List (Int×Int):=[(1,0),(2,0)]
theorem j1 (x y z:Ms):ag (FH33 (3,qg x y z) 1)=some (M1,()):=ay 60 (by kernel_rfl)
theorem j2 (x y z:Ms):ag (FH33 (3,qg x y z) 2)=some (M2,()):=ay 60 (by kernel_rfl)
theorem j5 (x y z:Ms):ag (FH33 (3,qg x y z) 5)=some (M5,()):=ay 60 (by kernel_rfl)
theorem kb12 (x y z:Ms):ag (F12 (3,qg x y z))=some ([],0,false,()):=ay 60 (by kernel_rfl)
def nU (m:Ms) (t:Int) (o:Ms):Ms:=(m.1+t * o.1,m.2.1+t * o.2.1,m.2.2.1+t * o.2.2.1,m.2.2.2+t * o.2.2.2)
structure xg (K:Int) (m:Ms):Prop where
 a : -K<=m.1/\m.1<=K
 b : -K<=m.2.1/\m.2.1<=K
 c : -K<=m.2.2.1/\m.2.2.1<=K
 d : -K<=m.2.2.2/\m.2.2.2<=K
theorem Yt {t:Int} {A B z:List Int} {k:Nat} (hk:k<4) (hA:A.length=4) (hB:B.length=4) (h1:cS .i64 (t * B.getD k 0)=true) (h2:cS .i64 (A.getD k 0+t * B.getD k 0)=true) :
  ag (g36_0 (t,(k:Int),A,B,z,()))=some (.inl (t,((k+1:Nat):Int),A.set k (A.getD k 0+t * B.getD k 0),B,z,())):=by
 have i1:cR (k:Int) (4:Int)=true:=bg (by omega) (by omega)
 have r1:cS .i64 ((k:Int)+1)=true:=aH (by omega) (by omega)
 have d1:decide (k<4)=true:=decide_eq_true hk
 simp only [g36_0,ak,aV,bz,aJ,aa,aW,Int.toNat_natCast,hA,hB,i1,d1,r1,h1,h2,ax]
 rw [if_pos (by omega)]
 rfl
theorem wZ {m o:Ms} {t:Int} (ht:t=1\/t = -1) (hm:xg 1000000 m) (ho:xg 1000000 o):ag (F36 m t o)=some (nU m t o,()):=by
 obtain ⟨a0,a1,a2,a3⟩:=m
 obtain ⟨b0,b1,b2,b3⟩:=o
 obtain ⟨p0,p1,p2,p3⟩:=hm
 obtain ⟨q0,q1,q2,q3⟩:=ho
 simp only at p0 p1 p2 p3 q0 q1 q2 q3
 have g:∀a b:Int,(-1000000<=a/\a<=1000000)->(-1000000<=b/\b<=1000000)->cS .i64 (t * b)=true/\cS .i64 (a+t * b)=true:=fun a b h1 h2=>by
  rcases ht with rfl|rfl
  ·exact ⟨aH (by omega) (by omega),aH (by omega) (by omega)⟩
  ·exact ⟨aH (by omega) (by omega),aH (by omega) (by omega)⟩
 have hit:iter (fun x=>ag (g36_0 x)) (t,(0:Int),[a0,a1,a2,a3],[b0,b1,b2,b3],List.replicate 4 (0:Int),())=some ([a0+t * b0,a1+t * b1,a2+t * b2,a3+t * b3],List.replicate 4 (0:Int),()):=by
  refine aE (Yt (k:=0) (by decide) rfl rfl (g a0 b0 p0 q0).1 (g a0 b0 p0 q0).2) ?_
  refine aE (Yt (k:=1) (by decide) rfl rfl (g a1 b1 p1 q1).1 (g a1 b1 p1 q1).2) ?_
  refine aE (Yt (k:=2) (by decide) rfl rfl (g a2 b2 p2 q2).1 (g a2 b2 p2 q2).2) ?_
  refine aE (Yt (k:=3) (by decide) rfl rfl (g a3 b3 p3 q3).1 (g a3 b3 p3 q3).2) ?_
  refine bn ?_
  simp only [g36_0,ak,aa,aW]
  rw [if_neg (by omega)]
  rfl
 simp only [F36,aB,bq,aa]
 exact bind_eq hit rfl
theorem tG {v1 c : Int} {F : List Fl} {k : Nat} {b3 b4 : List Int} {m : List (Int × Int)} {f : Fl} {t0 t1 : Bool} (hl : F.length = 6) (hk : k < 6) (hd : F.getD k zF = f)
  (h0:ag (Ln f.2.1 c m)=some (t0,())) (h1:ag (FH35 f.1 c m)=some (t1,m,c,())) (hs:f.2.2.1=false\/(k:Int)=v1\/t0=t1) :
  ag (gH30_0 (v1,F,(6:Int),(k:Int),c,b3,b4,m,()))=some (.inl (v1,F,(6:Int),((k+1:Nat):Int),c,b3,b4,m,())):=by
 have i1:cR (k:Int) ((6:Nat):Int)=true:=bg (by omega) (by omega)
 have r1:cS .i64 ((k:Int)+1)=true:=aH (by omega) (by omega)
 unfold zF at hd
 simp only [gH30_0,ak,aV,aB,aJ,aa,aW,Int.toNat_natCast,hl,hd,i1,r1,ax,fj]
 rw [if_pos (by omega),az h0,az h1]
 cases hf:f.2.2.1
 ·rw [aY];rfl
 ·rw [cu, fB]
  by_cases hv:(k:Int)=v1
  ·rw [if_pos hv];rfl
  ·rw [if_neg hv]
   rcases hs with h|h|h
   ·rw [hf] at h;cases h
   ·exact absurd h hv
   ·subst h;simp only [beq_self_eq_true,cu];rfl
theorem zD {v1 c : Int} {F : List Fl} {k : Nat} {b3 : List Int} {s d : Ms} {m : List (Int × Int)} {f : Fl} {t0 t1 : Bool} (hl : F.length = 6) (hk : k < 6) (hd : F.getD k zF = f)
  (h0:ag (Ln f.2.1 c m)=some (t0,())) (h1:ag (FH35 f.1 c m)=some (t1,m,c,())) (hf:f.2.2.1=true) (hv:(k:Int)≠v1) (ht:t0≠t1) (h36:ag (F36 s (if t0=true then 1 else -1) f.2.2.2)=some (d,())) :
  ag (gH30_0 (v1,F,(6:Int),(k:Int),c,b3,[s.1,s.2.1,s.2.2.1,s.2.2.2],m,()))=some (.inl (v1,F,(6:Int),((k+1:Nat):Int),c,b3,[d.1,d.2.1,d.2.2.1,d.2.2.2],m,())):=by
 have i1:cR (k:Int) ((6:Nat):Int)=true:=bg (by omega) (by omega)
 have r1:cS .i64 ((k:Int)+1)=true:=aH (by omega) (by omega)
 unfold zF at hd
 simp only [gH30_0,ak,aV,aB,aJ,aa,aW,Int.toNat_natCast,hl,hd,i1,r1,ax,fj]
 rw [if_pos (by omega),az h0,az h1,hf,cu,fB,if_neg hv]
 have e:(t0==t1)=false:=by cases t0<;>cases t1<;>simp at ht ⊢
 rw [e,aY]
 cases t0
 ·rw [aY]
  refine bind_eq h36 rfl
 ·rw [cu]
  refine bind_eq h36 rfl
theorem e30 {v1 c:Int} {F:List Fl} {b3 b4:List Int} {m:List (Int×Int)}:ag (gH30_0 (v1,F,(6:Int),(6:Int),c,b3,b4,m,()))=some (.inr (b3,b4,m,c,())):=by
 simp only [gH30_0,ak,aa,aW]
 rw [if_neg (by omega)]
theorem f30v:FH30_v1=FH30:=by kernel_rfl
end Go.Proofs.Try
end
section
namespace Go.Proofs.Try
open Go.AM
set_option maxRecDepth 100000
theorem mK {K L:Int} {m o:Ms} {t:Int} (ht:t=1\/t = -1) (hm:xg K m) (ho:xg L o):xg (K+L) (nU m t o):=by
 obtain ⟨p0,p1,p2,p3⟩:=hm
 obtain ⟨q0,q1,q2,q3⟩:=ho
 rcases ht with rfl|rfl
 ·exact ⟨by simp only [nU];omega,by simp only [nU];omega,by simp only [nU];omega,by simp only [nU];omega⟩
 ·exact ⟨by simp only [nU];omega,by simp only [nU];omega,by simp only [nU];omega,by simp only [nU];omega⟩
theorem xg.le {K L:Int} {m:Ms} (h:xg K m) (hk:K<=L):xg L m:=by
 obtain ⟨p0,p1,p2,p3⟩:=h
 exact ⟨by omega,by omega,by omega,by omega⟩
def z0:Ms:=(0,0,0,0)
theorem pP:xg 0 z0:=⟨by simp [z0],by simp [z0],by simp [z0],by simp [z0]⟩
def lD (x y z:Ms):Ms:=nU (nU (nU z0 1 x) (-1) y) (-1) z
def Nk (y z:Ms):Ms:=nU z0 (-1) (nU (nU z0 (-1) y) (-1) z)
section
variable {x y z:Ms} (hx:xg 10000 x) (hy:xg 10000 y) (hz:xg 10000 z)
include hx hy hz
theorem ex2:ag (FH30 (3,qg x y z) 2 0 M2)=some (lD x y z,M2,0,()):=by
 have b1:=mK (t:=1) (.inl rfl) pP hx
 have b2:=mK (t := -1) (.inr rfl) b1 hy
 have hit:iter (fun s=>ag (gH30_0 s)) (2,qg x y z,(6:Int),(0:Int),0,List.replicate 4 (0:Int),[z0.1,z0.2.1,z0.2.2.1,z0.2.2.2],M2,())=some (List.replicate 4 (0:Int),[(lD x y z).1,(lD x y z).2.1,(lD x y z).2.2.1,(lD x y z).2.2.2],M2,0,()):=by
  refine aE (zD (k:=0) (f:=(-1,0,true,x)) (s:=z0) (t0:=true) (t1:=false) rfl (by decide) rfl (ay 20 (by kernel_rfl)) (ay 20 (by kernel_rfl)) rfl (by decide) (by decide) (wZ (.inl rfl) (pP.le (by decide)) (hx.le (by decide)))) ?_
  refine aE (tG (k:=1) (f:=(0,1,false,0,0,0,0)) (t0:=true) (t1:=true) rfl (by decide) rfl (ay 20 (by kernel_rfl)) (ay 20 (by kernel_rfl)) (.inl rfl)) ?_
  refine aE (tG (k:=2) (f:=(0,2,false,0,0,0,0)) (t0:=false) (t1:=true) rfl (by decide) rfl (ay 20 (by kernel_rfl)) (ay 20 (by kernel_rfl)) (.inl rfl)) ?_
  refine aE (zD (k:=3) (f:=(1,-1,true,y)) (t0:=false) (t1:=true) rfl (by decide) rfl (ay 20 (by kernel_rfl)) (ay 20 (by kernel_rfl)) rfl (by decide) (by decide) (wZ (.inr rfl) (b1.le (by decide)) (hy.le (by decide)))) ?_
  refine aE (zD (k:=4) (f:=(1,-1,true,z)) (t0:=false) (t1:=true) rfl (by decide) rfl (ay 20 (by kernel_rfl)) (ay 20 (by kernel_rfl)) rfl (by decide) (by decide) (wZ (.inr rfl) (b2.le (by decide)) (hz.le (by decide)))) ?_
  refine aE (tG (k:=5) (f:=(2,-1,false,0,0,0,0)) (t0:=false) (t1:=false) rfl (by decide) rfl (ay 20 (by kernel_rfl)) (ay 20 (by kernel_rfl)) (.inl rfl)) ?_
  exact bn e30
 simp only [FH30,aB,bq,aa]
 exact bind_eq hit rfl
theorem ex5:ag (FH30 (3,qg x y z) 5 0 M5)=some (lD x y z,M5,0,()):=by
 have b1:=mK (t:=1) (.inl rfl) pP hx
 have b2:=mK (t := -1) (.inr rfl) b1 hy
 have hit:iter (fun s=>ag (gH30_0 s)) (5,qg x y z,(6:Int),(0:Int),0,List.replicate 4 (0:Int),[z0.1,z0.2.1,z0.2.2.1,z0.2.2.2],M5,())=some (List.replicate 4 (0:Int),[(lD x y z).1,(lD x y z).2.1,(lD x y z).2.2.1,(lD x y z).2.2.2],M5,0,()):=by
  refine aE (zD (k:=0) (f:=(-1,0,true,x)) (s:=z0) (t0:=true) (t1:=false) rfl (by decide) rfl (ay 20 (by kernel_rfl)) (ay 20 (by kernel_rfl)) rfl (by decide) (by decide) (wZ (.inl rfl) (pP.le (by decide)) (hx.le (by decide)))) ?_
  refine aE (tG (k:=1) (f:=(0,1,false,0,0,0,0)) (t0:=true) (t1:=true) rfl (by decide) rfl (ay 20 (by kernel_rfl)) (ay 20 (by kernel_rfl)) (.inl rfl)) ?_
  refine aE (tG (k:=2) (f:=(0,2,false,0,0,0,0)) (t0:=true) (t1:=true) rfl (by decide) rfl (ay 20 (by kernel_rfl)) (ay 20 (by kernel_rfl)) (.inl rfl)) ?_
  refine aE (zD (k:=3) (f:=(1,-1,true,y)) (t0:=false) (t1:=true) rfl (by decide) rfl (ay 20 (by kernel_rfl)) (ay 20 (by kernel_rfl)) rfl (by decide) (by decide) (wZ (.inr rfl) (b1.le (by decide)) (hy.le (by decide)))) ?_
  refine aE (zD (k:=4) (f:=(1,-1,true,z)) (t0:=false) (t1:=true) rfl (by decide) rfl (ay 20 (by kernel_rfl)) (ay 20 (by kernel_rfl)) rfl (by decide) (by decide) (wZ (.inr rfl) (b2.le (by decide)) (hz.le (by decide)))) ?_
  refine aE (tG (k:=5) (f:=(2,-1,false,0,0,0,0)) (t0:=false) (t1:=true) rfl (by decide) rfl (ay 20 (by kernel_rfl)) (ay 20 (by kernel_rfl)) (.inl rfl)) ?_
  exact bn e30
 simp only [FH30,aB,bq,aa]
 exact bind_eq hit rfl
theorem ex1:ag (FH30 (3,qg x y z) 1 1 M1)=some (nU (nU z0 (-1) y) (-1) z,M1,1,()):=by
 have b2:=mK (t := -1) (.inr rfl) pP hy
 have hit:iter (fun s=>ag (gH30_0 s)) (1,qg x y z,(6:Int),(0:Int),1,List.replicate 4 (0:Int),[z0.1,z0.2.1,z0.2.2.1,z0.2.2.2],M1,())=some (List.replicate 4 (0:Int),[(nU (nU z0 (-1) y) (-1) z).1,(nU (nU z0 (-1) y) (-1) z).2.1,(nU (nU z0 (-1) y) (-1) z).2.2.1,(nU (nU z0 (-1) y) (-1) z).2.2.2],M1,1,()):=by
  refine aE (tG (k:=0) (f:=(-1,0,true,x)) (t0:=false) (t1:=false) rfl (by decide) rfl (ay 20 (by kernel_rfl)) (ay 20 (by kernel_rfl)) (.inr (.inr rfl))) ?_
  refine aE (tG (k:=1) (f:=(0,1,false,0,0,0,0)) (t0:=true) (t1:=false) rfl (by decide) rfl (ay 20 (by kernel_rfl)) (ay 20 (by kernel_rfl)) (.inl rfl)) ?_
  refine aE (tG (k:=2) (f:=(0,2,false,0,0,0,0)) (t0:=false) (t1:=false) rfl (by decide) rfl (ay 20 (by kernel_rfl)) (ay 20 (by kernel_rfl)) (.inl rfl)) ?_
  refine aE (zD (k:=3) (f:=(1,-1,true,y)) (s:=z0) (t0:=false) (t1:=true) rfl (by decide) rfl (ay 20 (by kernel_rfl)) (ay 20 (by kernel_rfl)) rfl (by decide) (by decide) (wZ (.inr rfl) (pP.le (by decide)) (hy.le (by decide)))) ?_
  refine aE (zD (k:=4) (f:=(1,-1,true,z)) (t0:=false) (t1:=true) rfl (by decide) rfl (ay 20 (by kernel_rfl)) (ay 20 (by kernel_rfl)) rfl (by decide) (by decide) (wZ (.inr rfl) (b2.le (by decide)) (hz.le (by decide)))) ?_
  refine aE (tG (k:=5) (f:=(2,-1,false,0,0,0,0)) (t0:=false) (t1:=false) rfl (by decide) rfl (ay 20 (by kernel_rfl)) (ay 20 (by kernel_rfl)) (.inl rfl)) ?_
  exact bn e30
 simp only [FH30,aB,bq,aa]
 exact bind_eq hit rfl
theorem fd2:ag (F13 (3,qg x y z) 2)=some (lD x y z,true,()):=by
 have i1:cR (2:Int) (((qg x y z).length:Nat):Int)=true:=bg (by omega) (by show (2:Int)<6;omega)
 simp only [F13,aV,aB,ak,aa,i1,ax]
 refine bind_eq (j2 x y z) ?_
 refine bind_eq (show ag (oE 0 M2)=some (0,()) from ay 20 (by kernel_rfl)) ?_
 refine bind_eq (show ag (oE 2 M2)=some (-1,()) from ay 20 (by kernel_rfl)) ?_
 show jN ((0:Int) == -1) _ (jN (!((0:Int) == -1)) _ _)=_
 rw [fB,if_neg (by decide),fj,fB,if_neg (by decide)]
 exact bind_eq (ex2 hx hy hz) rfl
theorem fd5:ag (F13 (3,qg x y z) 5)=some (lD x y z,true,()):=by
 have i1:cR (5:Int) (((qg x y z).length:Nat):Int)=true:=bg (by omega) (by show (5:Int)<6;omega)
 simp only [F13,aV,aB,ak,aa,i1,ax]
 refine bind_eq (j5 x y z) ?_
 refine bind_eq (show ag (oE 2 M5)=some (0,()) from ay 20 (by kernel_rfl)) ?_
 refine bind_eq (show ag (oE (-1) M5)=some (-1,()) from ay 20 (by kernel_rfl)) ?_
 show jN ((0:Int) == -1) _ (jN (!((0:Int) == -1)) _ _)=_
 rw [fB,if_neg (by decide),fj,fB,if_neg (by decide)]
 exact bind_eq (ex5 hx hy hz) rfl
theorem fd1:ag (F13 (3,qg x y z) 1)=some (Nk y z,true,()):=by
 have i1:cR (1:Int) (((qg x y z).length:Nat):Int)=true:=bg (by omega) (by show (1:Int)<6;omega)
 have b2:=mK (t := -1) (.inr rfl) (mK (t := -1) (.inr rfl) pP hy) hz
 simp only [F13,aV,aB,ak,aa,i1,ax,f30v]
 refine bind_eq (j1 x y z) ?_
 refine bind_eq (show ag (oE 0 M1)=some (-1,()) from ay 20 (by kernel_rfl)) ?_
 refine bind_eq (show ag (oE 1 M1)=some (1,()) from ay 20 (by kernel_rfl)) ?_
 show jN ((-1:Int)==1) _ (jN (!((-1:Int) == -1)) _ _)=_
 rw [fB,if_neg (by decide),fj,fB,if_pos (by decide)]
 refine bind_eq (ex1 hx hy hz) ?_
 exact bind_eq (wZ (m:=z0) (t := -1) (.inr rfl) (pP.le (by decide)) (b2.le (by decide))) rfl
end
def Nn (m:Ms):Prop:=(0<=m.1/\m.1<=1000000000)/\(0<=m.2.1/\m.2.1<=1000000000)/\(0<=m.2.2.1/\m.2.2.1<=1000000000)/\(0<=m.2.2.2/\m.2.2.2<=1000000000)
theorem Sh {a b c:Int}:ag (F26 a b c)=some (decide (a<=b/\b<=c),()):=by
 simp only [F26,ak,aa,aW]
 by_cases h:a<=b
 ·rw [if_pos h];simp [h]
 ·rw [if_neg h];simp [h]
theorem Yu {l:List Int} {k:Nat} (hk:k<4) (hl:l.length=4) (h:0<=l.getD k 0/\l.getD k 0<=1000000000):ag (g66_0 (l,(0:Int),(1000000000:Int),(4:Int),(k:Int),()))=some (.inl (l,(0:Int),(1000000000:Int),(4:Int),((k+1:Nat):Int),())):=by
 have i1:cR (k:Int) ((4:Nat):Int)=true:=bg (by omega) (by omega)
 have r1:cS .i64 ((k:Int)+1)=true:=aH (by omega) (by omega)
 simp only [g66_0,F60,ak,aV,aB,aJ,aa,aW,Int.toNat_natCast,hl,i1,r1,ax,Sh,aP,decide_eq_true h,Bool.not_true,aY]
 rw [if_pos (by omega)]
 rfl
theorem kb51 {m:Ms} (h:Nn m):ag (F51 m 0 1000000000)=some (true,()):=by
 obtain ⟨a0,a1,a2,a3⟩:=m
 have hit:iter (fun s=>ag (g66_0 s)) ([a0,a1,a2,a3],(0:Int),(1000000000:Int),(4:Int),(0:Int),())=some (.inr ()):=by
  refine aE (Yu (k:=0) (by decide) rfl h.1) ?_
  refine aE (Yu (k:=1) (by decide) rfl h.2.1) ?_
  refine aE (Yu (k:=2) (by decide) rfl h.2.2.1) ?_
  refine aE (Yu (k:=3) (by decide) rfl h.2.2.2) ?_
  refine bn ?_
  simp only [g66_0,ak,aa,aW]
  rw [if_neg (by omega)]
 have h66:ag (F66 [a0,a1,a2,a3] 0 1000000000)=some (-1,()):=by
  simp only [F66,aB,bq]
  exact bind_eq hit rfl
 simp only [F51,F59,aB,aa]
 refine bind_eq (bind_eq h66 rfl) rfl
theorem EY {F:List Fl} {f:Fl} (h1 : -1<=f.1/\f.1<=2) (h2 : -1<=f.2.1/\f.2.1<=2) (h3:f.1≠f.2.1) (h4:f.2.2.1=true->Nn f.2.2.2):ag (F28 (3,F) f)=some (0,()):=by
 have e:(3:Int) - 1=2:=rfl
 simp only [F28,aJ,aB,ak,aa,Sh,aP,e]
 rw [av (by decide) (by decide),decide_eq_true h1,Bool.not_true,aY,av (by decide) (by decide),decide_eq_true h2,Bool.not_true,aY,fB,if_neg h3]
 cases hm:f.2.2.1
 ·rw [aY]
 ·rw [cu]
  exact bind_eq (kb51 (h4 hm)) (by show jN (!true) _ _=_;rw [Bool.not_true,aY])
theorem SY {F G:List Fl} {k:Nat} {f:Fl} (hl:F.length=6) (hk:k<6) (hd:F.getD k zF=f) (h:ag (F28 (3,G) f)=some (0,())):ag (g27_0 ((3,G),F,(6:Int),(k:Int),()))=some (.inl ((3,G),F,(6:Int),((k+1:Nat):Int),())):=by
 have i1:cR (k:Int) ((6:Nat):Int)=true:=bg (by omega) (by omega)
 have r1:cS .i64 ((k:Int)+1)=true:=aH (by omega) (by omega)
 unfold zF at hd
 simp only [g27_0,ak,aV,aB,aJ,aa,aW,Int.toNat_natCast,hl,hd,i1,r1,ax]
 rw [if_pos (by omega)]
 refine bind_eq h ?_
 show jN (!((0:Int)==0)) _ _=_
 rw [fj,fB,if_pos rfl]
 rfl
theorem kb11 {x y z:Ms} (hx:Nn x) (hy:Nn y) (hz:Nn z):ag (F11 (3,qg x y z))=some (0,()):=by
 have hit:iter (fun s=>ag (g27_0 s)) ((3,qg x y z),qg x y z,(6:Int),(0:Int),())=some (.inr ()):=by
  refine aE (SY (k:=0) (f:=(-1,0,true,x)) rfl (by decide) rfl (EY (by simp) (by simp) (by simp) fun _=>hx)) ?_
  refine aE (SY (k:=1) (f:=(0,1,false,0,0,0,0)) rfl (by decide) rfl (EY (by simp) (by simp) (by simp) fun h=>by cases h)) ?_
  refine aE (SY (k:=2) (f:=(0,2,false,0,0,0,0)) rfl (by decide) rfl (EY (by simp) (by simp) (by simp) fun h=>by cases h)) ?_
  refine aE (SY (k:=3) (f:=(1,-1,true,y)) rfl (by decide) rfl (EY (by simp) (by simp) (by simp) fun _=>hy)) ?_
  refine aE (SY (k:=4) (f:=(1,-1,true,z)) rfl (by decide) rfl (EY (by simp) (by simp) (by simp) fun _=>hz)) ?_
  refine aE (SY (k:=5) (f:=(2,-1,false,0,0,0,0)) rfl (by decide) rfl (EY (by simp) (by simp) (by simp) fun h=>by cases h)) ?_
  refine bn ?_
  simp only [g27_0,ak,aa,aW]
  rw [if_neg (by omega)]
 have h27:ag (F27 (qg x y z) (3,qg x y z))=some (0,()):=by
  simp only [F27,aB,bq]
  exact bind_eq hit rfl
 simp only [F11,aB,ak,aa,Sh,aP,aW]
 rw [decide_eq_true (by decide),Bool.not_true,aY,if_neg (by show ¬(20:Int)<6;omega)]
 exact bind_eq h27 rfl
end Go.Proofs.Try
end
section
namespace Go.Proofs.Try
open Go.AM
set_option maxRecDepth 100000
abbrev Kn:=Int×Int×Int×Int×Int
theorem r4m {F:List Fl} {B:List Kn} {n k:Nat} {f:Fl} (hn:n=B.length) (hB:n<1000) (hl:F.length=6) (hk:k<6) (hd:F.getD k zF=f) (hm:f.2.2.1=true) :
  ag (g4_0 (n,F,(6:Int),(k:Int),(3:Int),F,B,()))=some (.inl (n+1,F,(6:Int),((k+1:Nat):Int),(3:Int),F,B++[(1,f.2.2.2)],())):=by
 have i1:cR (k:Int) ((6:Nat):Int)=true:=bg (by omega) (by omega)
 have r1:cS .i64 ((k:Int)+1)=true:=aH (by omega) (by omega)
 have lY:=nv
 unfold zF at hd
 subst hn
 simp only [g4_0,ak,aV,aB,bz,aJ,wj,aa,aW,Int.toNat_natCast,hl,hd,hm,i1,r1,ax,Bool.not_true,aY,aP,List.drop_zero,List.take_length,List.length_cons,List.length_nil,List.take_succ_cons,List.take_zero]
 rw [if_pos (by omega)]
 show need (decide (B.length+(0+1)<bU)) (need (cS .i64 ((k:Int)+1)) (some (Sum.inl (B.length+(0+1),F,(6:Int),(k:Int)+1,(3:Int),F,List.take B.length B++[(1,f.2.2.2.1,f.2.2.2.2.1,f.2.2.2.2.2.1,f.2.2.2.2.2.2)],()))))=_
 rw [fh (by omega),dL r1,List.take_length]
 rfl
theorem r4f {F:List Fl} {B:List Kn} {n k:Nat} {f:Fl} {m:Ms} (hn:n=B.length) (hB:n<1000) (hl:F.length=6) (hk:k<6) (hd:F.getD k zF=f) (hm:f.2.2.1=false) (hf:ag (F13 (3,F) (k:Int))=some (m,true,())) :
  ag (g4_0 (n,F,(6:Int),(k:Int),(3:Int),F,B,()))=some (.inl (n+1,F,(6:Int),((k+1:Nat):Int),(3:Int),F,B++[(2,m)],())):=by
 have i1:cR (k:Int) ((6:Nat):Int)=true:=bg (by omega) (by omega)
 have r1:cS .i64 ((k:Int)+1)=true:=aH (by omega) (by omega)
 have lY:=nv
 unfold zF at hd
 subst hn
 simp only [g4_0,ak,aV,aB,bz,aJ,wj,aa,aW,Int.toNat_natCast,hl,hd,hm,i1,r1,ax,Bool.not_false,cu,List.drop_zero,List.take_length,List.length_cons,List.length_nil,List.take_succ_cons,List.take_zero]
 rw [if_pos (by omega),az hf,cu,aP]
 show need (decide (B.length+(0+1)<bU)) (need (cS .i64 ((k:Int)+1)) (some (Sum.inl (B.length+(0+1),F,(6:Int),(k:Int)+1,(3:Int),F,List.take B.length B++[(2,m.1,m.2.1,m.2.2.1,m.2.2.2)],()))))=_
 rw [fh (by omega),dL r1,List.take_length]
 rfl
def kn (x y z:Ms):List Kn:=[(1,x),(2,Nk y z),(2,lD x y z),(1,y),(1,z),(2,lD x y z)]
theorem kb4 {x y z:Ms} (hx:xg 10000 x) (hy:xg 10000 y) (hz:xg 10000 z) (nx:Nn x) (ny:Nn y) (nz:Nn z):ag (F4 (3,qg x y z))=some (kn x y z,0,()):=by
 have hit:iter (fun s=>ag (g4_0 s)) (0,qg x y z,(6:Int),(0:Int),(3:Int),qg x y z,[],())=some (6,kn x y z,()):=by
  refine aE (r4m (k:=0) (B:=[]) (f:=(-1,0,true,x)) rfl (by decide) rfl (by decide) rfl rfl) ?_
  refine aE (r4f (k:=1) (f:=(0,1,false,0,0,0,0)) rfl (by decide) rfl (by decide) rfl rfl (fd1 hx hy hz)) ?_
  refine aE (r4f (k:=2) (f:=(0,2,false,0,0,0,0)) rfl (by decide) rfl (by decide) rfl rfl (fd2 hx hy hz)) ?_
  refine aE (r4m (k:=3) (f:=(1,-1,true,y)) rfl (by decide) rfl (by decide) rfl rfl) ?_
  refine aE (r4m (k:=4) (f:=(1,-1,true,z)) rfl (by decide) rfl (by decide) rfl rfl) ?_
  refine aE (r4f (k:=5) (f:=(2,-1,false,0,0,0,0)) rfl (by decide) rfl (by decide) rfl rfl (fd5 hx hy hz)) ?_
  refine bn ?_
  simp only [g4_0,ak,aa,aW]
  rw [if_neg (by omega)]
  rfl
 simp only [F4,aB,ak,bq,aa]
 refine bind_eq (kb11 nx ny nz) ?_
 show jN (!((0:Int)==0)) _ _=_
 rw [fj,fB,if_pos rfl]
 refine bind_eq (kb12 x y z) ?_
 show jN false _ _=_
 rw [aY]
 exact bind_eq hit rfl
end Go.Proofs.Try
end
section
namespace Go.Proofs.Try
open Go.AM Go.fD
set_option maxRecDepth 100000
theorem Jr {d:Pt} (hd:h0 d=true):Sd [d,(-d.1,-d.2)]:=by
 have hi:=fL.1 hd
 refine ⟨?_,fun x hx e=>?_,?_⟩
 ·simp only [List.pairwise_cons, List.mem_singleton, List.not_mem_nil]
  refine ⟨fun y hy=>?_,by simp⟩
  subst hy
  refine .inl ⟨hd,?_⟩
  rw [oS];simp only;omega
 ·subst e
  simp only [List.mem_cons,List.not_mem_nil,or_false] at hx
  rcases hx with hx|hx
  ·rw [<-hx] at hi;simp at hi
  ·have e1 := congrArg Prod.fst hx; have e2 := congrArg Prod.snd hx
   simp only at e1 e2;omega
 ·simp only [sm, add]
  exact Prod.ext (by simp only;omega) (by simp only;omega)
def Ub (f:Int):cL:=((0,0),if f=0 then [] else [(f,0),(-f,0)])
def Uw (a b:Int):cL:=((-a,b),[(a,-b),(-a,b)])
def U2 (f a b:Int):List cL:=[Ub f,Uw a b]
def bl (f:Int):List Pt:=if f=0 then [(0,0)] else [(0,0),(f,0)]
theorem cs_b (f:Int):cs (Ub f).1 (Ub f).2=bl f:=by
 unfold Ub bl cs
 split
 ·rfl
 ·simp [vs,add]
theorem cs_w (a b:Int):cs (Uw a b).1 (Uw a b).2=[(-a,b),(0,0)]:=by
 have h1 : -a+a=0:=by omega
 have h2:b + -b=0:=by omega
 simp [Uw,cs,vs,add,h1,h2]
theorem EZ (f a b:Int):bM (U2 f a b)=[bl f,[(-a,b),(0,0)]]:=by
 simp only [bM,U2,List.map_cons,List.map_nil,cs_b,cs_w]
theorem C6 : ∀ {l k : List Pt}, l.Pairwise lx → k.Pairwise lx → (∀ v, v ∈ l ↔ v ∈ k) → l = k
 |[],[],_,_,_=>rfl
 |[],b::s,_,_,h=>by have:=(h b).2 (List.mem_cons_self ..);cases this
 |a::r,[],_,_,h=>by have:=(h a).1 (List.mem_cons_self ..);cases this
 |a::l,b::s,h1,h2,h=>by
  have p1:=List.pairwise_cons.1 h1
  have p2:=List.pairwise_cons.1 h2
  have hab:a=b:=by
   rcases List.mem_cons.1 ((h a).1 (List.mem_cons_self ..)) with e|ha
   ·exact e
   ·rcases List.mem_cons.1 ((h b).2 (List.mem_cons_self ..)) with e | hb
    ·exact e.symm
    ·exact absurd (I4 (p1.1 b hb) (p2.1 a ha)) Bb
  subst hab
  refine congrArg _ (C6 p1.2 p2.2 fun v=>?_)
  constructor
  ·intro hv
   rcases List.mem_cons.1 ((h v).1 (List.mem_cons_of_mem _ hv)) with e|h'
   ·subst e;exact absurd (p1.1 _ hv) Bb
   ·exact h'
  ·intro hv
   rcases List.mem_cons.1 ((h v).2 (List.mem_cons_of_mem _ hv)) with e|h'
   ·subst e;exact absurd (p2.1 _ hv) Bb
   ·exact h'
theorem Js {l:List Pt} (h:l.Pairwise lx) (hl:l.length<3):uU l=l:=by
 unfold uU
 rw [C6 (zj l) h fun v=>I9]
 unfold CX;rw [if_pos hl]
section
variable {f a b:Int} (hf:0<=f/\f<=1000) (ha:1<=a/\a<=40) (hb:0<=b/\b<=29)
include hf ha hb
theorem XK:∀x∈U2 f a b,Sd x.2:=by
 intro x hx
 simp only [U2,List.mem_cons,List.not_mem_nil,or_false] at hx
 rcases hx with rfl|rfl
 ·unfold Ub
  split
  ·exact ⟨.nil,by simp,rfl⟩
  ·have := Jr (d := (f, 0)) (fL.2 (.inl (by simp only; omega)))
   simpa using this
 ·have := Jr (d := (a, -b)) (fL.2 (.inl (by simp only; omega)))
  simpa [Uw] using this
theorem Si:∀l∈bM (U2 f a b),l≠[]/\l.length<=2/\l.Pairwise lx/\∀p∈l,Bd 1000 p:=by
 rw [EZ]
 intro l hl
 simp only [List.mem_cons,List.not_mem_nil,or_false] at hl
 rcases hl with rfl|rfl
 ·unfold bl
  split
  ·refine ⟨by simp, by simp, by simp, fun p hp => ?_⟩
   rw [List.mem_singleton.1 hp];exact ⟨by simp,by simp,by simp,by simp⟩
  ·refine ⟨by simp, by simp, ?_, fun p hp => ?_⟩
   ·simp only [List.pairwise_cons, List.mem_singleton, List.not_mem_nil]
    refine ⟨fun y hy=>?_,by simp⟩
    subst hy;rw [gh];simp only;omega
   ·simp only [List.mem_cons, List.not_mem_nil, or_false] at hp
    rcases hp with rfl|rfl
    ·exact ⟨by simp,by simp,by simp,by simp⟩
    ·exact ⟨by simp only;omega,by simp only;omega,by simp,by simp⟩
 ·refine ⟨by simp, by simp, ?_, fun p hp => ?_⟩
  ·simp only [List.pairwise_cons, List.mem_singleton, List.not_mem_nil]
   refine ⟨fun y hy=>?_,by simp⟩
   subst hy;rw [gh];simp only;omega
  ·simp only [List.mem_cons, List.not_mem_nil, or_false] at hp
   rcases hp with rfl|rfl
   ·exact ⟨by simp only;omega,by simp only;omega,by simp only;omega,by simp only;omega⟩
   ·exact ⟨by simp,by simp,by simp,by simp⟩
theorem Jv:Us [] (U2 f a b):=by
 have hl:=Si hf ha hb
 refine ⟨⟨by simp [U2],XK hf ha hb,fun l h=>(hl l h).2.2.2,fun l h=>by have:=(hl l h).2.1;omega,?_⟩,⟨by simp [bM,U2],fun l h=>(hl l h).1,fun l h=>by have:=(hl l h).2.1;omega,fun l h=>(hl l h).2.2.2,fun l h=>Js (hl l h).2.2.1 (by have:=(hl l h).2.1;omega)⟩,by simp [U2],fun l h=>by have:=(hl l h).2.1;omega⟩
 have:=Jj 2 _ (bM (U2 f a b)) rfl (fun l h=>(hl l h).2.1)
 have h2:(bM (U2 f a b)).length=2:=by simp [bM,U2]
 omega
def tru (f a b:Int) (p:Pt):Prop:=(b=0/\p.2=0 /\ -a<=p.1/\p.1<=f)\/(b≠0/\0<=p.2/\p.2<=b /\ -a * p.2<=b * p.1/\b * p.1<=b * f - a * p.2)
theorem Sj {v:Pt} (hv:v∈Go.fD.jU (bM (U2 f a b))):v=(-a,b)\/v=(0,0)\/v=(f - a,b)\/v=(f,0):=by
 rw [EZ] at hv
 unfold bl at hv
 split at hv
 ·simp [Go.fD.jU, jS, add] at hv
  rcases hv with h|h
  ·exact .inl h
  ·exact .inr (.inl h)
 ·simp [Go.fD.jU, jS, add] at hv
  rcases hv with h|h|h|h
  ·exact .inl h
  ·exact .inr (.inl h)
  ·refine .inr (.inr (.inl ?_));rw [h];exact Prod.ext (by simp only;omega) rfl
  ·exact .inr (.inr (.inr h))
theorem Sk {v:Pt} (hv:v=(-a,b)\/v=(0,0)\/v=(f - a,b)\/v=(f,0)):v∈Go.fD.jU (bM (U2 f a b)):=by
 rw [EZ]
 unfold bl
 split
 ·rename_i e; subst e
  simp [Go.fD.jU,jS,add]
  rcases hv with h|h|h|h
  ·exact .inl h
  ·exact .inr h
  ·left;rw [h];exact Prod.ext (by simp only;omega) rfl
  ·exact .inr h
 ·simp [Go.fD.jU, jS, add]
  rcases hv with h|h|h|h
  ·exact .inl h
  ·exact .inr (.inl h)
  ·refine .inr (.inr (.inl ?_));rw [h];exact Prod.ext (by simp only;omega) rfl
  ·exact .inr (.inr (.inr h))
theorem has2 (p:Pt):Has (jr (U2 f a b)) (lP (U2 f a b)) 1 p↔∀u,∃v,(v=(-a,b)\/v=(0,0)\/v=(f - a,b)\/v=(f,0))/\dt u p<=dt u v:=by
 have h:=Jv hf ha hb
 rw [has_sup h.sum.2.1.sd (by omega),ER h.s.sd h.sum.2.1 p]
 constructor
 ·intro hs u
  obtain ⟨v,hv,h1⟩:=hs u
  exact ⟨v,Sj hf ha hb hv,by omega⟩
 ·intro hs u
  obtain ⟨v,hv,h1⟩:=hs u
  exact ⟨v,Sk hf ha hb hv,by omega⟩
theorem Nl (p:Pt):Has (jr (U2 f a b)) (lP (U2 f a b)) 1 p↔tru f a b p:=by
 rw [has2 hf ha hb]
 obtain ⟨H,P⟩:=p
 have JF:∀(u:Pt) (x y:Int),dt u (x,y)=u.1 * x+u.2 * y:=fun u x y=>rfl
 constructor
 ·intro hs
  have get:∀u:Pt,u.1 * H+u.2 * P<=u.1 * -a+u.2 * b\/u.1 * H+u.2 * P<=0\/u.1 * H+u.2 * P<=u.1 * (f - a)+u.2 * b\/u.1 * H+u.2 * P<=u.1 * f:=fun u=>by
   obtain ⟨v,hv,h1⟩:=hs u
   rcases hv with rfl|rfl|rfl|rfl<;>simp only [JF,Int.mul_zero,Int.add_zero] at h1
   ·exact .inl h1
   ·exact .inr (.inl h1)
   ·exact .inr (.inr (.inl h1))
   ·exact .inr (.inr (.inr h1))
  have u1:=get (0,-1)
  have u2:=get (0,1)
  simp only [Int.zero_mul,Int.zero_add,Int.one_mul,Int.neg_mul] at u1 u2
  by_cases hb0:b=0
  ·have u3 := get (1, 0)
   have u4:=get (-1,0)
   simp only [Int.zero_mul,Int.add_zero,Int.one_mul,Int.neg_mul] at u3 u4
   exact .inl ⟨hb0,by simp only;omega,by simp only;omega,by simp only;omega⟩
  ·have u3 := get (-b, -a)
   have u4:=get (b,a)
   simp only at u3 u4
   have e1 : -b * -a=a * b:=by grind
   have e2 : -a * b = -(a * b):=by grind
   have e3:b * -a = -(a * b):=by grind
   have e4 : -b * H = -(b * H):=by grind
   have e5 : -a * P = -(a * P):=by grind
   have e6 : -b * (f - a)=a * b - b * f:=by grind
   have e7:b * (f - a)=b * f - a * b:=by grind
   have e8 : -b * f = -(b * f):=by grind
   have e9:0<=b * f:=Int.mul_nonneg hb.1 hf.1
   rw [e1,e2,e4,e5,e6,e8] at u3
   rw [e3,e7] at u4
   refine .inr ⟨hb0,?_,?_,?_,?_⟩
   ·simp only;omega
   ·simp only;omega
   ·simp only;rw [e5];omega
   ·simp only;omega
 ·rintro (⟨h0, h1, h2, h3⟩ | ⟨h0, h1, h2, h3, h4⟩) u
  ·simp only at h1 h2 h3
   subst h1
   rcases Int.le_total 0 u.1 with hu|hu
   ·refine ⟨(f, 0), .inr (.inr (.inr rfl)), ?_⟩
    rw [JF,JF]
    have:=Int.mul_le_mul_of_nonneg_left h3 hu
    simp only [Int.mul_zero];omega
   ·refine ⟨(-a, b), .inl rfl, ?_⟩
    rw [JF,JF,h0]
    have:=Int.mul_le_mul_of_nonpos_left hu h2
    simp only [Int.mul_zero];omega
  ·simp only at h1 h2 h3 h4
   have Yv:0<b:=by omega
   have e5 : -a * P = -(a * P):=by grind
   rw [e5] at h3
   obtain ⟨X,hX⟩:∃X,X=b * H+a * P:=⟨_,rfl⟩
   obtain ⟨W,hW⟩:∃W,W=b * u.2 - a * u.1:=⟨_,rfl⟩
   have x0:0<=X:=by omega
   have x1:X<=b * f:=by omega
   have key:b * dt u (H,P)=u.1 * X+P * W:=by rw [JF,hX,hW];grind
   rcases Int.le_total 0 u.1 with hu|hu<;>rcases Int.le_total 0 W with hw|hw
   ·refine ⟨(f - a, b), .inr (.inr (.inl rfl)), Int.le_of_mul_le_mul_left ?_ Yv⟩
    have q1:=Int.mul_le_mul_of_nonneg_left x1 hu
    have q2:=Int.mul_le_mul_of_nonneg_right h2 hw
    have e:b * dt u (f - a,b)=u.1 * (b * f)+b * W:=by rw [JF,hW];grind
    rw [key,e];omega
   ·refine ⟨(f, 0), .inr (.inr (.inr rfl)), Int.le_of_mul_le_mul_left ?_ Yv⟩
    have q1:=Int.mul_le_mul_of_nonneg_left x1 hu
    have q2:=Int.mul_nonneg h1 (show 0 <= -W by omega)
    have q3:P * -W = -(P * W):=by grind
    have e:b * dt u (f,0)=u.1 * (b * f):=by rw [JF];grind
    rw [key,e];omega
   ·refine ⟨(-a, b), .inl rfl, Int.le_of_mul_le_mul_left ?_ Yv⟩
    have q1:=Int.mul_nonneg (show 0 <= -u.1 by omega) x0
    have q3 : -u.1 * X = -(u.1 * X):=by grind
    have q2:=Int.mul_le_mul_of_nonneg_right h2 hw
    have e:b * dt u (-a,b)=b * W:=by rw [JF,hW];grind
    rw [key,e];omega
   ·refine ⟨(0, 0), .inr (.inl rfl), Int.le_of_mul_le_mul_left ?_ Yv⟩
    have q1:=Int.mul_nonneg (show 0 <= -u.1 by omega) x0
    have q3 : -u.1 * X = -(u.1 * X):=by grind
    have q2:=Int.mul_nonneg h1 (show 0 <= -W by omega)
    have q4:P * -W = -(P * W):=by grind
    have e:b * dt u (0,0)=0:=by rw [JF];simp
    rw [key,e];omega
end
end Go.Proofs.Try
end
section
namespace Go.Proofs.Try
open Go.AM Go.fD
set_option maxRecDepth 100000
theorem im (a b:Int):en a b=min a b:=by show (if b<a then b else a)=_;split<;>omega
theorem w7 {l:List Int} {k:Nat} {v:Int} (h:k<l.length):(l.set k v).getD k 0=v:=by
 simp [List.getD_eq_getElem?_getD,h]
theorem r3 {k : Nat} (hk : k < 4) {b0 b1 b2 b3 b4 b5 b6 b7 b8 b9 : List Int} (l0 : b0.length = 4) (l1 : b1.length = 4) (l2 : b2.length = 4) (l5 : b5.length = 4) (l6 : b6.length = 4) (l7 : b7.length = 4) (l8 : b8.length = 4) (l9 : b9.length = 4)
  {c j m:Int} (e0:b0.getD k 0=c) (e1:b1.getD k 0=j) (e2:b2.getD k 0=m) (u0:0<=c/\c<=255) (u1:0<=j/\j<=255) (u2:0<=m/\m<=255) :
  ag (g3_0 ((k:Int),b0,b1,b2,b3,b4,b5,b6,b7,b8,b9,()))=some (.inl (((k+1:Nat):Int),b0,b1,b2,b3,b4,b5.set k (c+10),b6.set k (min (c+10) j),b7.set k (min (min (c+10) j) m),b8.set k (c+10 - min (c+10) j),b9.set k (min (c+10) j - min (min (c+10) j) m),())):=by
 have i1:cR (k:Int) (4:Int)=true:=bg (by omega) (by omega)
 have r1:cS .i64 ((k:Int)+1)=true:=aH (by omega) (by omega)
 have r2:cS .i64 c=true:=aH (by omega) (by omega)
 have r3:cS .i64 j=true:=aH (by omega) (by omega)
 have r4:cS .i64 m=true:=aH (by omega) (by omega)
 have r5:cS .i64 (c+10)=true:=aH (by omega) (by omega)
 have r6:cS .i64 (c+10 - min (c+10) j)=true:=aH (by omega) (by omega)
 have r7:cS .i64 (min (c+10) j - min (min (c+10) j) m)=true:=aH (by omega) (by omega)
 have d1:decide (k<4)=true:=decide_eq_true hk
 have g5:=w7 (l:=b5) (k:=k) (v:=c+10) (by omega)
 have g6:=w7 (l:=b6) (k:=k) (v:=min (c+10) j) (by omega)
 have g7:=w7 (l:=b7) (k:=k) (v:=min (min (c+10) j) m) (by omega)
 simp only [g3_0,ak,aV,bz,aJ,aa,aW,Int.toNat_natCast,e0,e1,e2,im,g5,g6,g7,List.length_set,l0,l1,l2,l5,l6,l7,l8,l9,i1,d1,r1,r2,r3,r4,r5,r6,r7,ax]
 rw [if_pos (by omega)]
 rfl
structure U4 (m:Ms):Prop where
 a:0<=m.1/\m.1<=255
 b:0<=m.2.1/\m.2.1<=255
 c:0<=m.2.2.1/\m.2.2.1<=255
 d:0<=m.2.2.2/\m.2.2.2<=255
def mapM (f:Int->Int->Int->Int) (c j m:Ms):Ms:=(f c.1 j.1 m.1,f c.2.1 j.2.1 m.2.1,f c.2.2.1 j.2.2.1 m.2.2.1,f c.2.2.2 j.2.2.2 m.2.2.2)
def E0 (c j m:Ms):Ms:=mapM (fun c _ _=>c+10) c j m
def XL (c j m:Ms):Ms:=mapM (fun c j _=>min (c+10) j) c j m
def Bo (c j m:Ms):Ms:=mapM (fun c j m=>min (min (c+10) j) m) c j m
def Nm (c j m:Ms):Ms:=mapM (fun c j _=>c+10 - min (c+10) j) c j m
def Bp (c j m:Ms):Ms:=mapM (fun c j m=>min (c+10) j - min (min (c+10) j) m) c j m
def lM (m:Ms):List Int:=[m.1,m.2.1,m.2.2.1,m.2.2.2]
theorem it3 {c j m:Ms} (hc:U4 c) (hj:U4 j) (hm:U4 m) (tu lo:List Int) :
  iter (fun s=>ag (g3_0 s)) ((0:Int),lM c,lM j,lM m,tu,lo,List.replicate 4 (0:Int),List.replicate 4 (0:Int),List.replicate 4 (0:Int),List.replicate 4 (0:Int),List.replicate 4 (0:Int),()) =
   some (tu,lo,lM (E0 c j m),lM (XL c j m),lM (Bo c j m),lM (Nm c j m),lM (Bp c j m),()):=by
 refine aE (r3 (k:=0) (by decide) rfl rfl rfl rfl rfl rfl rfl rfl rfl rfl rfl hc.a hj.a hm.a) ?_
 refine aE (r3 (k:=1) (by decide) rfl rfl rfl rfl rfl rfl rfl rfl rfl rfl rfl hc.b hj.b hm.b) ?_
 refine aE (r3 (k:=2) (by decide) rfl rfl rfl rfl rfl rfl rfl rfl rfl rfl rfl hc.c hj.c hm.c) ?_
 refine aE (r3 (k:=3) (by decide) rfl rfl rfl rfl rfl rfl rfl rfl rfl rfl rfl hc.d hj.d hm.d) ?_
 refine bn ?_
 simp only [g3_0,ak,aa,aW]
 rw [if_neg (by omega)]
 rfl
section
variable {c j m:Ms} (hc:U4 c) (hj:U4 j) (hm:U4 m)
include hc hj hm
theorem OA:xg 10000 (E0 c j m)/\Nn (E0 c j m):=by
 obtain ⟨c0,c1,c2,c3⟩:=hc
 exact ⟨⟨by simp only [E0,mapM];omega,by simp only [E0,mapM];omega,by simp only [E0,mapM];omega,by simp only [E0,mapM];omega⟩,by simp only [Nn,E0,mapM];omega⟩
theorem OB:xg 10000 (Bo c j m)/\Nn (Bo c j m):=by
 obtain ⟨c0,c1,c2,c3⟩:=hc
 obtain ⟨j0,j1,j2,j3⟩:=hj
 obtain ⟨m0,m1,m2,m3⟩:=hm
 exact ⟨⟨by simp only [Bo,mapM];omega,by simp only [Bo,mapM];omega,by simp only [Bo,mapM];omega,by simp only [Bo,mapM];omega⟩,by simp only [Nn,Bo,mapM];omega⟩
theorem OC:xg 10000 (Bp c j m)/\Nn (Bp c j m):=by
 obtain ⟨c0,c1,c2,c3⟩:=hc
 obtain ⟨j0,j1,j2,j3⟩:=hj
 obtain ⟨m0,m1,m2,m3⟩:=hm
 exact ⟨⟨by simp only [Bp,mapM];omega,by simp only [Bp,mapM];omega,by simp only [Bp,mapM];omega,by simp only [Bp,mapM];omega⟩,by simp only [Nn,Bp,mapM];omega⟩
omit hc hj hm in
theorem Sl:Nk (Bp c j m) (Bo c j m)=XL c j m:=by
 simp only [Nk,nU,z0,Bp,Bo,XL,mapM]
 refine Prod.ext ?_ (Prod.ext ?_ (Prod.ext ?_ ?_))<;>simp only<;>omega
omit hc hj hm in
theorem Sm:lD (E0 c j m) (Bp c j m) (Bo c j m)=Nm c j m:=by
 simp only [lD,nU,z0,Bp,Bo,E0,Nm,mapM]
 refine Prod.ext ?_ (Prod.ext ?_ (Prod.ext ?_ ?_))<;>simp only<;>omega
theorem kC:ag (F4 (3,qg (E0 c j m) (Bp c j m) (Bo c j m)))=some ([(1,E0 c j m),(2,XL c j m),(2,Nm c j m),(1,Bp c j m),(1,Bo c j m),(2,Nm c j m)],0,()):=by
 rw [kb4 (OA hc hj hm).1 (OC hc hj hm).1 (OB hc hj hm).1 (OA hc hj hm).2 (OC hc hj hm).2 (OB hc hj hm).2]
 simp only [kn,Sl,Sm]
theorem Np:0<=(Nm c j m).2.2.1/\(Nm c j m).2.2.1<=1000:=by
 obtain ⟨c0,c1,c2,c3⟩:=hc
 obtain ⟨j0,j1,j2,j3⟩:=hj
 simp only [Nm,mapM];omega
end
theorem Jt:ag F9=some (true,()):=ay 200 (by kernel_rfl)
end Go.Proofs.Try
end
section
namespace Go.Proofs.Try
open Go.AM Go.fD
set_option maxRecDepth 100000
theorem Sn:IntKind.u8.min=0:=by decide
theorem So:IntKind.u8.max=255:=by decide
theorem XM:IntKind.i8.min = -128:=by decide
theorem XN:IntKind.i8.max=127:=by decide
theorem uY {K x y:Int} (hx : -K<=x/\x<=K) (hy : -K<=y/\y<=K) : -(K * K)<=x * y/\x * y<=K * K:=by
 have a1:=Int.mul_nonneg (show 0<=K - x by omega) (show 0<=K - y by omega)
 have a2:=Int.mul_nonneg (show 0<=K+x by omega) (show 0<=K+y by omega)
 have a3:=Int.mul_nonneg (show 0<=K - x by omega) (show 0<=K+y by omega)
 have a4:=Int.mul_nonneg (show 0<=K+x by omega) (show 0<=K - y by omega)
 have e1:(K - x) * (K - y)=K * K - K * y - K * x+x * y:=by grind
 have e2:(K+x) * (K+y)=K * K+K * y+K * x+x * y:=by grind
 have e3:(K - x) * (K+y)=K * K+K * y - K * x - x * y:=by grind
 have e4:(K+x) * (K - y)=K * K - K * y+K * x - x * y:=by grind
 rw [e1] at a1;rw [e2] at a2;rw [e3] at a3;rw [e4] at a4
 omega
theorem law3 (a0 a1 a2:Int×Int×Int×Int) (a3 a4:Int×Int) (hW:yF [.prod (.int .u8) (.prod (.int .u8) (.prod (.int .u8) (.int .u8))),.prod (.int .u8) (.prod (.int .u8) (.prod (.int .u8) (.int .u8))),.prod (.int .u8) (.prod (.int .u8) (.prod (.int .u8) (.int .u8))),.prod (.int .u8) (.int .u8),.prod (.int .i8) (.int .i8)] (a0,a1,a2,a3,a4,())):ag (F3 a0 a1 a2 a3 a4)=some (true,()):=by
 obtain ⟨h0,h1,h2,h3,h4,-⟩:=hW
 simp only [Wf,Sn,So,XM,XN] at h0 h1 h2 h3 h4
 have hc:U4 a0:=⟨h0.1,h0.2.1,h0.2.2.1,h0.2.2.2⟩
 have hj:U4 a1:=⟨h1.1,h1.2.1,h1.2.2.1,h1.2.2.2⟩
 have hm:U4 a2:=⟨h2.1,h2.2.1,h2.2.2.1,h2.2.2.2⟩
 have t1:0<=a3.1/\a3.1<=255:=h3.1
 have t2:0<=a3.2/\a3.2<=255:=h3.2
 have l1 : -128<=a4.1/\a4.1<=127:=h4.1
 have l2 : -128<=a4.2/\a4.2<=127:=h4.2
 clear h0 h1 h2 h3 h4
 simp only [F3,aB,ak,aJ,bz,aV,bq,wj,aa,fj,fB,aW]
 refine bind_eq (it3 hc hj hm [a3.1,a3.2] [a4.1,a4.2]) ?_
 simp only []
 refine bind_eq (show ag (F4 _)=_ from kC hc hj hm) ?_
 have hf:=Np hc hj hm
 obtain ⟨o,ho⟩:∃o,XL a0 a1 a2=o:=⟨_,rfl⟩
 obtain ⟨g,hg⟩:∃g,Nm a0 a1 a2=g:=⟨_,rfl⟩
 rw [ho,hg]
 rw [hg] at hf
 simp only []
 rw [if_pos trivial]
 generalize hL:([(1,E0 a0 a1 a2),(2,o),(2,g),(1,Bp a0 a1 a2),(1,Bo a0 a1 a2),(2,g)]:List Kn)=L
 have e1:L.getD (Int.toNat 1) (0,0,0,0,0)=(2,o):=by subst hL;rfl
 have e2:L.getD (Int.toNat 2) (0,0,0,0,0)=(2,g):=by subst hL;rfl
 have e5:L.getD (Int.toNat 5) (0,0,0,0,0)=(2,g):=by subst hL;rfl
 have eL:L.length=6:=by subst hL;rfl
 have q0:∀m:Ms,(lM m).getD 0 0=m.1:=fun _=>rfl
 have q1:∀m:Ms,(lM m).getD 1 0=m.2.1:=fun _=>rfl
 have q2:∀m:Ms,(lM m).getD 2 0=m.2.2.1:=fun _=>rfl
 have q3:∀m:Ms,(lM m).getD 3 0=m.2.2.2:=fun _=>rfl
 have lg:(lM g).length=4:=rfl
 simp only [e1,e2,e5,eL,q0,q1,q2,q3,beq_self_eq_true,Bool.and_true,cu]
 rw [if_pos (by decide),dP (by decide) (by decide),dP (by decide) (by decide),dP (by decide) (by decide),dP (by decide) (by decide),dP (by decide) (by decide)]
 obtain ⟨f,hff⟩:∃f,g.2.2.1=f:=⟨_,rfl⟩
 rw [hff] at hf ⊢
 refine bind_eq (a:=.inl (f,0,(if f=0 then 1 else 2),[a3.1,a3.2],[a4.1,a4.2],lM g,[(0,0),(f,0)],())) ?_ ?_
 ·by_cases h : f = 0
  ·rw [if_pos h,if_pos h,fh (by decide),fh (by decide),fh (by decide)];rfl
  ·rw [if_neg h,if_neg h]
 have tn:List.take (if f=0 then 1 else 2) [((0:Int),(0:Int)),(f,0)]=bl f:=by
  unfold bl;split<;>rfl
 simp only [HD,List.length_cons,List.length_nil,List.getD_cons_zero,List.getD_cons_succ,tn,q2,hff,lg,List.drop_zero,List.take_succ_cons,List.take_zero,Int.zero_sub]
 rw [if_neg (show ¬f<0 by omega),if_neg (show ¬1000<f by omega)]
 -- numbers
 have d1:=Int.tmod_nonneg 40 t1.1
 have d2:=Int.tmod_lt_of_pos a3.1 (show (0:Int)<40 by decide)
 have d3:=Int.tmod_nonneg 30 t2.1
 have d4:=Int.tmod_lt_of_pos a3.2 (show (0:Int)<30 by decide)
 obtain ⟨a,ha⟩:∃a,1+Int.tmod a3.1 40=a:=⟨_,rfl⟩
 obtain ⟨b,hb⟩:∃b,Int.tmod a3.2 30=b:=⟨_,rfl⟩
 obtain ⟨H,hH⟩:∃H,a4.1=H:=⟨_,rfl⟩
 have hP0 : -128<=Int.tdiv a4.2 4/\Int.tdiv a4.2 4<=127:=by
  rcases Int.le_total 0 a4.2 with h|h
  ·rw [Int.tdiv_eq_ediv_of_nonneg h];omega
  ·have e : Int.tdiv a4.2 4 = -(Int.tdiv (-a4.2) 4) := by rw [Int.neg_tdiv]; omega
   rw [e,Int.tdiv_eq_ediv_of_nonneg (by omega)];omega
 obtain ⟨P,hP⟩:∃P,Int.tdiv a4.2 4=P:=⟨_,rfl⟩
 rw [hP] at hP0
 rw [fh (by decide),av (by omega) (by omega),dL (show (!((40:Int)==0))=true from rfl),ha,av (by omega) (by omega),fh (by decide),av (by omega) (by omega),dL (show (!((30:Int)==0))=true from rfl),av (by omega) (by omega),fh (by decide),av (by omega) (by omega),fh (by decide),av (by omega) (by omega),dL (show (!((4:Int)==0))=true from rfl)]
 simp only [ha,hb,hH,hP]
 rw [av (by omega) (by omega)]
 have hA:1<=a/\a<=40:=by omega
 have hB:0<=b/\b<=29:=by omega
 have hU:=Jv hf hA hB
 have hp:Bd 100000 (H,P):=⟨by simp only;omega,by simp only;omega,by simp only;omega,by simp only;omega⟩
 have eU:[bl f,[(-a,b),(0,0)]]=bM (U2 f a b):=(EZ f a b).symm
 have SO:=Nl hf hA hB (H,P)
 rw [eU]
 refine bind_eq (k13 hU hp) ?_
 simp only []
 rw [if_pos trivial]
 have mbH:=uY (K:=1000) (x:=b) (y:=H) (by omega) (by omega)
 have mbP:=uY (K:=1000) (x := -a) (y:=P) (by omega) (by omega)
 have mbF:=uY (K:=1000) (x:=b) (y:=f) (by omega) (by omega)
 have mbA:=uY (K:=1000) (x:=a) (y:=P) (by omega) (by omega)
 obtain ⟨K14,K14'⟩:=k14 hU hp
 obtain ⟨K15,K15'⟩:=k15 hU hp
 by_cases hh:tru f a b (H,P)
 ·have Bq := SO.2 hh
  refine bind_eq (a:=.inl (2,true,true,bM (U2 f a b),H,P,())) ?_ ?_
  ·rw [decide_eq_true Bq]
   rcases hh with ⟨g0,g1,g2,g3⟩|⟨g0,g1,g2,g3,g4⟩
   ·simp only at g1 g2 g3
    rw [if_pos g0,if_pos g1,av (by omega) (by omega),if_pos g2,fh (by decide),decide_eq_true g3]
   ·simp only at g1 g2 g3 g4
    rw [if_neg g0,if_pos g1,if_pos g2,av (by omega) (by omega),av (by omega) (by omega),av (by omega) (by omega),if_pos g3,av (by omega) (by omega),fh (by decide),av (by omega) (by omega),av (by omega) (by omega),av (by omega) (by omega),decide_eq_true g4]
  ·have eT : List.take 2 (bM (U2 f a b)) = bM (U2 f a b) := by rw [EZ]; rfl
   simp only [HD,eT]
   show jN (true==true) _ _=_
   rw [beq_self_eq_true,cu]
   obtain ⟨W,fn,e6,w0,w1,w2,w3⟩:=K14' Bq
   refine bind_eq e6 ?_
   refine bind_eq (K15' Bq) ?_
   show jN true _ _=_
   rw [cu]
   simp only []
   rw [if_pos trivial,if_pos trivial]
   refine bind_eq (Sc hU hp w0 w1 w2 w3) ?_
   simp only []
   rw [if_pos trivial]
   exact bind_eq Jt rfl
 ·have Bq : ¬ Has (jr (U2 f a b)) (lP (U2 f a b)) 1 (H, P) := fun h => hh (SO.1 h)
  refine bind_eq (a:=.inl (2,false,false,bM (U2 f a b),H,P,())) ?_ ?_
  ·rw [decide_eq_false Bq]
   unfold tru at hh
   simp only at hh
   by_cases g0:b=0
   ·rw [if_pos g0]
    by_cases g1:P=0
    ·rw [if_pos g1, av (by omega) (by omega)]
     by_cases g2 : -a<=H
     ·rw [if_pos g2,fh (by decide),decide_eq_false (fun g3=>hh (.inl ⟨g0,g1,g2,g3⟩))]
     ·rw [if_neg g2]
    ·rw [if_neg g1]
   ·rw [if_neg g0]
    by_cases g1:0<=P
    ·rw [if_pos g1]
     by_cases g2:P<=b
     ·rw [if_pos g2, av (by omega) (by omega), av (by omega) (by omega), av (by omega) (by omega)]
      by_cases g3 : -a * P<=b * H
      ·rw [if_pos g3,av (by omega) (by omega),fh (by decide),av (by omega) (by omega),av (by omega) (by omega),av (by omega) (by omega),decide_eq_false (fun g4=>hh (.inr ⟨g0,g1,g2,g3,g4⟩))]
      ·rw [if_neg g3]
     ·rw [if_neg g2]
    ·rw [if_neg g1]
  ·have eT : List.take 2 (bM (U2 f a b)) = bM (U2 f a b) := by rw [EZ]; rfl
   simp only [HD,eT]
   show jN (false==false) _ _=_
   rw [beq_self_eq_true,cu]
   refine bind_eq (K14 Bq) ?_
   obtain ⟨u,c1,c2,c3⟩:=K15 Bq
   refine bind_eq c3 ?_
   show jN false _ _=_
   rw [aY]
   refine bind_eq (k21 hU.s hU.u (c2.le (by omega))) ?_
   simp only []
   rw [if_pos trivial,if_pos trivial,if_pos trivial]
   obtain ⟨b1,b2,b3,b4⟩:=c2
   have m1:=uY (K:=6000) (x:=u.1) (y:=H) (by omega) (by omega)
   have m2:=uY (K:=6000) (x:=u.2) (y:=P) (by omega) (by omega)
   rw [av (by omega) (by omega),av (by omega) (by omega),av (by omega) (by omega),if_pos (show kP u (U2 f a b)<u.1 * H+u.2 * P from c1)]
   exact bind_eq Jt rfl
end Go.Proofs.Try
end
