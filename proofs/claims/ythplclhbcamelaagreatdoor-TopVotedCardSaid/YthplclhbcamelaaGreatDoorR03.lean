/- The states of two laws together, as the program has them. The walk over the states of two laws. The walk over the states of two laws: all rounds. The walk over the states of two laws: the states that are met, and which are good. One more look at the classes: keys, their numbers. Classes are split. Classes that are split no more; a state of each. The table of the classes: the walk over them. The table of the classes: its states, their numbers. The table of the classes, whole; the least table of two laws together. Check, Both. The states of two laws together, as the program has them. (Either.) The walk over the states of two laws. (Either.) The walk over the states of two laws: all rounds. (Either.) The walk over the states of two laws: the states that are met, and which are good. (Either.) Classes are split. (Either.) Classes that are split no more; a state of each. (Either.) The table of the classes: the walk over them. (Either.) The table of the classes: its states, their numbers. (Either.) The table of the classes, whole; the least table of two laws together. (Either.) Check, Both. (Either.) Allows; a law by numbers. Differ: where two laws allow the same, none is found. -/
import Derived.Test.YthplclhbcamelaaGreatDoorG3
set_option linter.unusedSectionVars false
set_option linter.unusedVariables false
set_option linter.unusedSimpArgs false
section
namespace Go.Proofs.Tryz
open Go.AM Go.Rs
set_option maxRecDepth 100000
section
variable {a b:Lw} {s t c:Int}
theorem vN (ha:Wf a) (hs:0<=s/\s<a.1.length):(((a.1.getD s.toNat []).length:Nat):Int)=2:=by
 have hi:s.toNat<a.1.length:=by omega
 obtain ⟨x,y,e,_⟩:=ha.rows _ (List.getElem_mem hi)
 have e':a.1.getD s.toNat []=[x,y]:=by rw [List.getD_eq_getElem?_getD,List.getElem?_eq_getElem hi];exact e
 rw [e'];rfl
theorem RM (hc:c=0\/c=1):gz c 2=true:=by rcases hc with rfl|rfl<;>decide
theorem Ss (ha:Wf a) (hb:Wf b) (hp:(s,t)∈pairs a b) (hc:c=0\/c=1):ag (F54 (s,t) c a b)=some ((iL a s c,iL b t c),()):=by
 rw [j6] at hp
 obtain ⟨h1,h2⟩:=hp
 simp only at h1 h2
 show need (decide ((0:Nat)<2)) (need (gz s ((a.1.length:Nat):Int)) (need (gz c (((a.1.getD s.toNat []).length:Nat):Int)) (need (decide ((1:Nat)<2)) (need (gz t ((b.1.length:Nat):Int)) (need (gz c (((b.1.getD t.toNat []).length:Nat):Int)) (some ((iL a s c,iL b t c),())))))))=_
 rw [vN ha h1,vN hb h2,aL (by decide),aA (cm h1.1 h1.2),aA (RM hc),aL (by decide),aA (cm h2.1 h2.2),aA (RM hc)]
theorem k55 (ha:Wf a) (hb:Wf b) (hp:(s,t)∈pairs a b):ag (F55 (s,t) a b)=some (((aE (·&&·) a b).good (s,t)),()):=by
 rw [j6] at hp
 obtain ⟨h1,h2⟩:=hp
 simp only at h1 h2
 have h22:∀x y:Bool,ag (F22 x y)=some (x&&y,()):=fun x y=>by
  simp only [F22,ax,aa]
  cases x<;>simp
 show need (decide ((0:Nat)<2)) (need (gz s ((a.2.length:Nat):Int)) (need (decide ((1:Nat)<2)) (need (gz t ((b.2.length:Nat):Int)) (cZ (ag (F22 (a.2.getD s.toNat false) (b.2.getD t.toNat false))) fun y=>some (y.1,())))))=_
 rw [aL (by decide),aA (cm h1.1 (by rw [ha.len];exact h1.2)),aL (by decide),aA (cm h2.1 (by rw [hb.len];exact h2.2)),af (h22 _ _)]
 rfl
end
theorem k83 (xs:List Int):ag (F83 xs)=some (xs,()):=by
 show need _ (need _ (need _ (some (xs,()))))=_
 rw [aA (by decide),aA (by simp),aA (by simp)]
theorem k82 {xs:List Int} (h:xs.length<1000000):ag (F82 xs)=some (xs,()):=by
 have hb:=ek
 have e:((((([]:List Int).drop (0:Nat)).take (0:Nat))++xs).drop (0:Nat)).take ((0:Nat)+xs.length)=xs:=by simp
 simp only [F82,ax,Zf,bq,aa,e]
 rw [aL (by omega)]
 by_cases hx:xs=[]
 ·subst hx;simp
 ·have:((((xs).length:Nat):Int)==(0:Int))=false:=by
   have:=List.length_pos_iff.2 hx
   simp;omega
  rw [this];simp
end Go.Proofs.Tryz
end
section
namespace Go.Proofs.Tryz
open Go.AM Go.Rs
set_option maxRecDepth 100000
theorem aF {α β:Type} (p:α×β):(p.1,p.2)=p:=rfl
@[reducible] def I1 (a b:Lw) (lo n:Nat) (c:Int) (m:List ((Int×Int)×Bool)) (q:List ((Int×Int)×List Int)) (p:Int×Int) (ys:List Int) (nc:Nat) (P:List (Int×Int)) (f:List ((Int×Int)×Int)) :=
 ((2:Int),(0:Int),(0:Int),a,b,a,b,lo,n,(2:Int),c,(2:Int),(0:Int),(0:Int),a,b,a,b,m,q,p.1,p.2,ys,(2:Int),(0:Int),(0:Int),a,b,a,b,nc,P,f,())
section
variable {a b:Lw} {p:Int×Int} {c:Int} {lo n nc:Nat} {m:List ((Int×Int)×Bool)} {q:List ((Int×Int)×List Int)} {ys:List Int} {P:List (Int×Int)} {f:List ((Int×Int)×Int)}
theorem abi (ha:Wf a) (hb:Wf b) (hp:p∈pairs a b) (hc:c=0\/c=1) (hm:aN tP false m ((aE (·&&·) a b).nx p c)=true) :
  ag (g50_0i_1 (I1 a b lo n c m q p ys nc P f))=some (.inl (I1 a b lo n (c+1) m q p ys nc P f)):=by
 obtain ⟨s,t⟩:=p
 have h2:c<2:=by rcases hc with rfl|rfl<;>decide
 have hr:cP .i64 (c+1)=true:=by rcases hc with rfl|rfl<;>decide
 have hm':aN (.prod (.int .i64) (.int .i64)) false m (iL a s c,iL b t c)=true:=hm
 simp only [I1,g50_0i_1,ax,az,bq,aS,aa,bw,if_pos h2,aF]
 rw [af (Ss ha hb hp hc)]
 simp only [List.getD_cons_zero,List.getD_cons_succ,hm',Bool.not_true,aZ,aA hr]
theorem abj (ha:Wf a) (hb:Wf b) (hp:p∈pairs a b) (hc:c=0\/c=1) (hm:aN tP false m ((aE (·&&·) a b).nx p c)=false) (hy:ys.length<1000000) (hn:n<1000000) :
  ag (g50_0i_1 (I1 a b lo n c m q p ys nc P f))=some (.inl (I1 a b 0 (n+1) (c+1) (bh tP m ((aE (·&&·) a b).nx p c) true) ((q.drop lo).take n++[((aE (·&&·) a b).nx p c,ys++[c])]) p ys nc P f)):=by
 obtain ⟨s,t⟩:=p
 have h2:c<2:=by rcases hc with rfl|rfl<;>decide
 have hr:cP .i64 (c+1)=true:=by rcases hc with rfl|rfl<;>decide
 have hm':aN (.prod (.int .i64) (.int .i64)) false m (iL a s c,iL b t c)=false:=hm
 have MO:=ek
 simp only [I1,g50_0i_1,ax,az,bq,aS,aa,bw,if_pos h2,aF]
 rw [af (Ss ha hb hp hc)]
 simp only [List.getD_cons_zero,List.getD_cons_succ,hm',Bool.not_false,cQ]
 rw [af (k83 ys)]
 have e1:(ys++((([c]).drop 0).take 1)).drop 0=ys++[c]:=by simp
 have e2:(ys++[c]).take (ys.length+(0+1))=ys++[c]:=List.take_of_length_le (by simp)
 simp only [e1,List.drop_zero,List.take_succ_cons,List.take_zero,List.length_cons,List.length_nil,e2]
 rw [aL (by omega),aL (by omega),aL (by omega),aA hr]
 rfl
theorem abk:ag (g50_0i_1 (I1 a b lo n 2 m q p ys nc P f))=some (.inr ((2:Int),(0:Int),(0:Int),a,b,a,b,lo,n,(2:Int),(0:Int),(0:Int),a,b,a,b,m,q,(2:Int),(0:Int),(0:Int),a,b,a,b,nc,P,f,())):=by
 simp only [I1,g50_0i_1,ax,az,bq,aS,aa,bw,if_neg (show ¬(2:Int)<2 by decide),aF]
end
end Go.Proofs.Tryz
end
section
namespace Go.Proofs.Tryz
open Go.AM Go.Rs
set_option maxRecDepth 100000
def Vw {α:Type} (lo n:Nat) (q F:List α):Prop:=(q.drop lo).take n=F/\F.length=n
theorem lU {α:Type} {F:List α} {n:Nat} (h:F.length=n):Vw 0 n F F:=⟨by subst h;simp,h⟩
theorem jk {α:Type} {lo n:Nat} {q F:List α} {x:α} (d:α) (h:Vw lo n q (x::F)):0<n/\lo<q.length/\q.getD lo d=x/\Vw (lo+1) (n - 1) q F:=by
 obtain ⟨h1,h2⟩:=h
 simp only [List.length_cons] at h2
 subst h2
 have hlt:lo<q.length:=Nat.lt_of_not_le fun hle=>by rw [List.drop_eq_nil_of_le hle] at h1;simp at h1
 rw [List.drop_eq_getElem_cons hlt,List.take_succ_cons] at h1
 injection h1 with e1 e2
 exact ⟨by omega,hlt,by rw [List.getD_eq_getElem?_getD,List.getElem?_eq_getElem hlt];exact e1,e2,by simp⟩
theorem yI {α:Type} {lo n:Nat} {q:List α} (h:Vw lo n q []):n=0:=h.2.symm
def gj (m:List ((Int×Int)×Bool)) (K:List (Int×Int)):Prop:=KD tP m/\∀s,aN tP false m s=decide (s∈K)
theorem gj.add {m:List ((Int×Int)×Bool)} {K:List (Int×Int)} (h:gj m K) (s:Int×Int):gj (bh tP m s true) (K++[s]) :=
 ⟨KD.fM h.1,fun y=>by
  rw [ny BQ h.1,h.2 y]
  by_cases e:y=s
  ·subst e;rw [if_pos (BQ y)];simp
  ·rw [if_neg (fun hd=>e (T5.1 hd))];simp [e]⟩
theorem j7 {P:List (Int×Int)} {F:List ((Int×Int)×List Int)} {p s:Int×Int} {ys zs:List Int}:bJ P ((p,ys)::F) s zs=(p,ys)::bJ (P++[p]) F s zs:=by
 unfold bJ
 have:(s∈P++((p,ys)::F).map (·.1))↔(s∈(P++[p])++F.map (·.1)):=by simp
 by_cases h:s∈P++((p,ys)::F).map (·.1)
 ·rw [if_pos h,if_pos (this.1 h)]
 ·rw [if_neg h,if_neg (fun h'=>h (this.2 h'))];rfl
section
variable {a b:Lw} {p:Int×Int} {c:Int} {lo n nc:Nat} {m:List ((Int×Int)×Bool)} {q F:List ((Int×Int)×List Int)} {ys:List Int} {P P2:List (Int×Int)} {f:List ((Int×Int)×Int)}
theorem J6 (ha:Wf a) (hb:Wf b) (hp:p∈pairs a b) (hc:c=0\/c=1) (hv:Vw lo n q F) (hM:gj m (P++F.map (·.1))) (hy:ys.length<1000000) (hn:n<1000000) :
  ∃lo' n' q' m',ag (g50_0i_1 (I1 a b lo n c m q p ys nc P2 f))=some (.inl (I1 a b lo' n' (c+1) m' q' p ys nc P2 f))/\n'<=n+1 /\
   Vw lo' n' q' (bJ P F ((aE (·&&·) a b).nx p c) (ys++[c]))/\gj m' (P++(bJ P F ((aE (·&&·) a b).nx p c) (ys++[c])).map (·.1)):=by
 by_cases h:(aE (·&&·) a b).nx p c∈P++F.map (·.1)
 ·refine ⟨lo, n, q, m, abi ha hb hp hc ?_, by omega, ?_, ?_⟩
  ·rw [hM.2];exact decide_eq_true h
  ·unfold bJ;rw [if_pos h];exact hv
  ·unfold bJ;rw [if_pos h];exact hM
 ·refine ⟨0, n + 1, _, _, abj ha hb hp hc ?_ hy hn, Nat.le_refl _, ?_, ?_⟩
  ·rw [hM.2];exact decide_eq_false h
  ·unfold bJ;rw [if_neg h,hv.1];exact lU (by simp [hv.2])
  ·unfold bJ;rw [if_neg h,List.map_append,<-List.append_assoc];exact hM.add _
theorem Wg (ha:Wf a) (hb:Wf b) (hp:p∈pairs a b) (hv:Vw lo n q F) (hM:gj m (P++F.map (·.1))) (hy:ys.length<1000000) (hn:n<100000) :
  ∃lo' n' q' m',iter (fun x=>ag (g50_0i_1 x)) (I1 a b lo n 0 m q p ys nc P2 f)=some ((2:Int),(0:Int),(0:Int),a,b,a,b,lo',n',(2:Int),(0:Int),(0:Int),a,b,a,b,m',q',(2:Int),(0:Int),(0:Int),a,b,a,b,nc,P2,f,()) /\
   Vw lo' n' q' (bJ P (bJ P F ((aE (·&&·) a b).nx p 0) (ys++[0])) ((aE (·&&·) a b).nx p 1) (ys++[1])) /\
   gj m' (P++(bJ P (bJ P F ((aE (·&&·) a b).nx p 0) (ys++[0])) ((aE (·&&·) a b).nx p 1) (ys++[1])).map (·.1)):=by
 obtain ⟨lo1,n1,q1,m1,h1,h2,h3,h4⟩:=J6 (nc:=nc) (P2:=P2) (f:=f) ha hb hp (.inl rfl) hv hM hy (by omega)
 obtain ⟨Wh,n2,q2,m2,g1,g2,g3,g4⟩:=J6 (nc:=nc) (P2:=P2) (f:=f) ha hb hp (.inr rfl) h3 h4 hy (by omega)
 exact ⟨Wh,n2,q2,m2,aW h1 (aW g1 (bk abk)),g3,g4⟩
end
end Go.Proofs.Tryz
end
section
namespace Go.Proofs.Tryz
open Go.AM Go.Rs
set_option maxRecDepth 100000
@[reducible] def J0 (a b:Lw) (lo n:Nat) (m:List ((Int×Int)×Bool)) (q:List ((Int×Int)×List Int)) (nc:Nat) (P:List (Int×Int)) (f:List ((Int×Int)×Int)) :=
 ((2:Int),(0:Int),(0:Int),a,b,a,b,lo,n,(2:Int),(0:Int),(0:Int),a,b,a,b,m,q,(2:Int),(0:Int),(0:Int),a,b,a,b,nc,P,f,())
@[reducible] def J9 (a b:Lw) (nc:Nat) (P:List (Int×Int)) (f:List ((Int×Int)×Int)) :=
 ((2:Int),(0:Int),(0:Int),a,b,a,b,nc,(2:Int),(0:Int),(0:Int),a,b,a,b,P,f,())
def mN (g:Int×Int->Bool) (P:List (Int×Int)) (f:List ((Int×Int)×Int)):Prop:=KD tP f/\∀s,aN tP (0:Int) f s=if s∈P/\g s=true then 1 else 0
theorem mN.no {g:Int×Int->Bool} {P:List (Int×Int)} {f:List ((Int×Int)×Int)} (h:mN g P f) {p:Int×Int} (hg:g p=false):mN g (P++[p]) f:=⟨h.1,fun s=>by
 rw [h.2 s]
 have:(s∈P++[p]/\g s=true)↔(s∈P/\g s=true):=by
  simp only [List.mem_append,List.mem_singleton]
  constructor
  ·rintro ⟨h1 | rfl, h2⟩
   ·exact ⟨h1,h2⟩
   ·rw [hg] at h2;cases h2
  ·rintro ⟨h1,h2⟩;exact ⟨.inl h1,h2⟩
 by_cases h1:s∈P/\g s=true
 ·rw [if_pos h1,if_pos (this.2 h1)]
 ·rw [if_neg h1,if_neg (fun h2=>h1 (this.1 h2))]⟩
theorem mN.yes {g:Int×Int->Bool} {P:List (Int×Int)} {f:List ((Int×Int)×Int)} (h:mN g P f) {p:Int×Int} (hg:g p=true):mN g (P++[p]) (bh tP f p (1:Int)):=⟨KD.fM h.1,fun s=>by
 rw [ny BQ h.1,h.2 s]
 by_cases e:s=p
 ·subst e;rw [if_pos (BQ s),if_pos ⟨by simp,hg⟩]
 ·rw [if_neg (fun hd => e (T5.1 hd))]
  simp [e]⟩
section
variable {a b:Lw} {lo n:Nat} {m:List ((Int×Int)×Bool)} {q F:List ((Int×Int)×List Int)} {ys:List Int} {P:List (Int×Int)} {f:List ((Int×Int)×Int)}
theorem Wi (ha : Wf a) (hb : Wf b) {p : Int × Int} (hp : p ∈ pairs a b) (hv : Vw lo n q ((p, ys) :: F)) (hM : gj m (P ++ ((p, ys) :: F).map (·.1))) (hf : mN (aE (· && ·) a b).good P f)
  (hy:ys.length<1000000) (hn:n<100000) (hP:P.length<1000000) :
  ∃lo' n' q' m' f',ag (g50_0i_0 (J0 a b lo n m q P.length P f))=some (.inl (J0 a b lo' n' m' q' (P.length+1) (P++[p]) f')) /\
   Vw lo' n' q' (bJ (P++[p]) (bJ (P++[p]) F ((aE (·&&·) a b).nx p 0) (ys++[0])) ((aE (·&&·) a b).nx p 1) (ys++[1])) /\
   gj m' ((P++[p])++(bJ (P++[p]) (bJ (P++[p]) F ((aE (·&&·) a b).nx p 0) (ys++[0])) ((aE (·&&·) a b).nx p 1) (ys++[1])).map (·.1)) /\
   mN (aE (·&&·) a b).good (P++[p]) f':=by
 obtain ⟨s,t⟩:=p
 obtain ⟨h0,hlt,nU,_⟩:=jk (((0:Int),(0:Int)),[]) hv
 have MO:=ek
 have i0:(0:Int)<((n:Nat):Int):=by omega
 have key:∀f':List ((Int×Int)×Int),∃lo' n' q' m',iter (fun x=>ag (g50_0i_1 x)) (I1 a b lo n 0 m q (s,t) ys (P.length+1) (P++[(s,t)]) f')=some ((2:Int),(0:Int),(0:Int),a,b,a,b,lo',n',(2:Int),(0:Int),(0:Int),a,b,a,b,m',q',(2:Int),(0:Int),(0:Int),a,b,a,b,P.length+1,P++[(s,t)],f',()) /\
   0<n'/\Vw (lo'+1) (n' - 1) q' (bJ (P++[(s,t)]) (bJ (P++[(s,t)]) F ((aE (·&&·) a b).nx (s,t) 0) (ys++[0])) ((aE (·&&·) a b).nx (s,t) 1) (ys++[1])) /\
   gj m' ((P++[(s,t)])++(bJ (P++[(s,t)]) (bJ (P++[(s,t)]) F ((aE (·&&·) a b).nx (s,t) 0) (ys++[0])) ((aE (·&&·) a b).nx (s,t) 1) (ys++[1])).map (·.1)):=by
  intro f'
  obtain ⟨lo',n',q',m',h1,h2,h3⟩:=Wg (nc:=P.length+1) (P2:=P++[(s,t)]) (f:=f') ha hb hp hv hM hy hn
  rw [j7,j7] at h2 h3
  obtain ⟨k0,k1,k2,k3⟩:=jk (((0:Int),(0:Int)),[]) h2
  exact ⟨lo',n',q',m',h1,k0,k3,by simpa using h3⟩
 have eP:P.take P.length++[(s,t)]=P++[(s,t)]:=by simp
 cases hg:(aE (·&&·) a b).good (s,t) with
 |true =>
  obtain ⟨lo',n',q',m',h1,h2,h3,h4⟩:=key (bh tP f (s,t) 1)
  refine ⟨lo'+1,n' - 1,q',m',bh tP f (s,t) 1,?_,h3,h4,hf.yes hg⟩
  simp only [J0,g50_0i_0,ax,az,bq,bz,aS,bC,aa,bw,aF,if_pos i0,Int.toNat_zero,Nat.add_zero,nU,List.getD_cons_zero,List.getD_cons_succ,List.drop_zero,List.take_succ_cons,List.take_zero,List.length_cons,List.length_nil,eP,Nat.zero_add]
  rw [aA (cm (by omega) i0),aL hlt,af (k82 hy),aL (by omega),af (k55 ha hb hp)]
  simp only [hg,cQ]
  rw [af h1]
  dsimp only
  rw [aL (by omega),aL (by omega),aL (by omega)]
  rfl
 |false =>
  obtain ⟨lo',n',q',m',h1,h2,h3,h4⟩:=key f
  refine ⟨lo'+1,n' - 1,q',m',f,?_,h3,h4,hf.no hg⟩
  simp only [J0,g50_0i_0,ax,az,bq,bz,aS,bC,aa,bw,aF,if_pos i0,Int.toNat_zero,Nat.add_zero,nU,List.getD_cons_zero,List.getD_cons_succ,List.drop_zero,List.take_succ_cons,List.take_zero,List.length_cons,List.length_nil,eP,Nat.zero_add]
  rw [aA (cm (by omega) i0),aL hlt,af (k82 hy),aL (by omega),af (k55 ha hb hp)]
  simp only [hg,aZ]
  rw [af h1]
  dsimp only
  rw [aL (by omega),aL (by omega),aL (by omega)]
  rfl
theorem abl:ag (g50_0i_0 (J0 a b lo 0 m q n P f))=some (.inr (J9 a b n P f)):=by
 simp only [J0,J9,g50_0i_0,ax,aa,bw,aF]
 rw [if_neg (by simp)]
structure WS where
 lo:Nat
 n:Nat
 q:List ((Int×Int)×List Int)
 F:List ((Int×Int)×List Int)
 m:List ((Int×Int)×Bool)
 P:List (Int×Int)
 f:List ((Int×Int)×Int)
theorem Wj (ha:Wf a) (hb:Wf b) (hU:(pairs a b).length<10000) (k:WS) (hB:BF (aE (·&&·) a b) (pairs a b) k.P k.F) (hv:Vw k.lo k.n k.q k.F) (hM:gj k.m (k.P++k.F.map (·.1))) (hf:mN (aE (·&&·) a b).good k.P k.f) :
  ∃P f,iter (fun x=>ag (g50_0i_0 x)) (J0 a b k.lo k.n k.m k.q k.P.length k.P k.f)=some (J9 a b P.length P f)/\mM (aE (·&&·) a b) (pairs a b) P/\mN (aE (·&&·) a b).good P f:=by
 have := dJ (step := fun x => ag (g50_0i_0 x)) (κ := WS) (fun k => J0 a b k.lo k.n k.m k.q k.P.length k.P k.f) (fun k => (pairs a b).length - k.P.length)
  (fun r=>∃P f,r=J9 a b P.length P f/\mM (aE (·&&·) a b) (pairs a b) P/\mN (aE (·&&·) a b).good P f)
  (fun k=>BF (aE (·&&·) a b) (pairs a b) k.P k.F/\Vw k.lo k.n k.q k.F/\gj k.m (k.P++k.F.map (·.1))/\mN (aE (·&&·) a b).good k.P k.f) ?_ k ⟨hB,hv,hM,hf⟩
 ·obtain ⟨r,h1,P,f,rfl,h2,h3⟩:=this;exact ⟨P,f,h1,h2,h3⟩
 ·rintro ⟨lo, n, q, F, m, P, f⟩ ⟨hB, hv, hM, hf⟩
  simp only at hB hv hM hf ⊢
  cases F with
  |nil =>
   right
   have:=yI hv
   subst this
   exact ⟨_,abl,P,f,rfl,hB.done,hf⟩
  |cons e F =>
   obtain ⟨p,ys⟩:=e
   left
   have hp:p∈pairs a b:=hB.sub p (by simp)
   have hl:=hB.len
   have hy:=(hB.reach (p,ys) (by simp)).2.2
   simp only [List.length_cons] at hl
   simp only at hy
   have hn:n=F.length+1:=hv.2.symm
   obtain ⟨lo',n',q',m',f',h1,h2,h3,h4⟩:=Wi ha hb hp hv hM hf (by omega) (by omega) (by omega)
   refine ⟨⟨lo',n',q',_,m',P++[p],f'⟩,?_,⟨hB.round fun c hc=>xW ha hb hp hc,h2,h3,h4⟩,?_⟩
   ·rw [h1];simp
   ·simp only [List.length_append,List.length_cons,List.length_nil];omega
end
end Go.Proofs.Tryz
end
section
namespace Go.Proofs.Tryz
open Go.AM Go.Rs
set_option maxRecDepth 100000
abbrev K5:=Int×Int×Int×Int×Int
structure vO (key:Int×Int->K5) (Q:List (Int×Int)) (m3:List (K5×Int)) (m4:List ((Int×Int)×Int)):Prop where
 kd3:KD tK m3
 kd4:KD tP m4
 has:∀k:K5,bT tK m3 k=true↔∃s∈Q,key s=k
 cP:∀s∈Q,0<=aN tK (0:Int) m3 (key s)/\aN tK (0:Int) m3 (key s)<m3.length
 inj:∀s∈Q,∀t∈Q,aN tK (0:Int) m3 (key s)=aN tK (0:Int) m3 (key t)->key s=key t
 So:∀j:Nat,j<m3.length->∃s∈Q,aN tK (0:Int) m3 (key s)=j
 out:∀s∈Q,aN tP (0:Int) m4 s=aN tK (0:Int) m3 (key s)
 len:m3.length<=Q.length
section
variable {key:Int×Int->K5} {Q:List (Int×Int)} {m3:List (K5×Int)} {m4:List ((Int×Int)×Int)} {s:Int×Int}
theorem vO.nil:vO key [] [] []:=⟨jc,jc,fun k=>by simp [bT],by simp,by simp,by simp,by simp,by simp⟩
theorem vO.old (h:vO key Q m3 m4) (hk:bT tK m3 (key s)=true):vO key (Q++[s]) m3 (bh tP m4 s (aN tK (0:Int) m3 (key s))):=by
 obtain ⟨s0,hs0,e0⟩:=(h.has _).1 hk
 have mem:∀{t},t∈Q++[s]->∃u∈Q,key u=key t:=fun {t} ht=>by
  rcases List.mem_append.1 ht with ht|ht
  ·exact ⟨t,ht,rfl⟩
  ·rw [List.mem_singleton.1 ht];exact ⟨s0,hs0,e0⟩
 refine ⟨h.kd3,KD.fM h.kd4,fun k=>?_,fun t ht=>?_,fun t ht u hu e=>?_,fun j hj=>?_,fun t ht=>?_,by have:=h.len;simp;omega⟩
 ·rw [h.has]
  constructor
  ·rintro ⟨t,ht,e⟩;exact ⟨t,List.mem_append_left _ ht,e⟩
  ·rintro ⟨t,ht,e⟩;obtain ⟨u,hu,e2⟩:=mem ht;exact ⟨u,hu,e2.trans e⟩
 ·obtain ⟨u,hu,e2⟩:=mem ht;rw [<-e2];exact h.cP u hu
 ·obtain ⟨t', ht', e1⟩ := mem ht
  obtain ⟨u',hu',e2⟩:=mem hu
  rw [<-e1,<-e2] at e ⊢
  exact h.inj _ ht' _ hu' e
 ·obtain ⟨t,ht,e⟩:=h.So j hj;exact ⟨t,List.mem_append_left _ ht,e⟩
 ·rw [ny BQ h.kd4]
  by_cases e:t=s
  ·subst e;rw [if_pos (BQ t)]
  ·rw [if_neg (fun hd => e (T5.1 hd))]
   rcases List.mem_append.1 ht with ht|ht
   ·exact h.out t ht
   ·exact absurd (List.mem_singleton.1 ht) e
theorem vO.new (h:vO key Q m3 m4) (hk:bT tK m3 (key s)=false) :
  vO key (Q++[s]) (bh tK m3 (key s) (m3.length:Int)) (bh tP m4 s (aN tK (0:Int) (bh tK m3 (key s) (m3.length:Int)) (key s))):=by
 have hl:=Zw (v:=(m3.length:Int)) hk
 have hne:∀t∈Q,key t≠key s:=fun t ht e=>by
  have:=(h.has (key s)).2 ⟨t,ht,e⟩
  rw [hk] at this;cases this
 have gs:aN tK (0:Int) (bh tK m3 (key s) (m3.length:Int)) (key s)=m3.length:=by rw [ny PL h.kd3,if_pos (PL _)]
 have gt:∀t∈Q,aN tK (0:Int) (bh tK m3 (key s) (m3.length:Int)) (key t)=aN tK (0:Int) m3 (key t):=fun t ht=>by
  rw [ny PL h.kd3,if_neg (fun hd=>hne t ht (deqK.1 hd))]
 refine ⟨KD.fM h.kd3,KD.fM h.kd4,fun k=>?_,fun t ht=>?_,fun t ht u hu e=>?_,fun j hj=>?_,fun t ht=>?_,by rw [hl];have:=h.len;simp;omega⟩
 ·rw [IJ PL, Bool.or_eq_true, deqK, h.has]
  constructor
  ·rintro (e | ⟨t, ht, e⟩)
   ·exact ⟨s,by simp,e.symm⟩
   ·exact ⟨t,List.mem_append_left _ ht,e⟩
  ·rintro ⟨t, ht, e⟩
   rcases List.mem_append.1 ht with ht|ht
   ·exact .inr ⟨t,ht,e⟩
   ·rw [List.mem_singleton.1 ht] at e;exact .inl e.symm
 ·rw [hl]
  rcases List.mem_append.1 ht with ht|ht
  ·rw [gt t ht];have:=h.cP t ht;omega
  ·rw [List.mem_singleton.1 ht,gs];omega
 ·rcases List.mem_append.1 ht with ht | ht <;> rcases List.mem_append.1 hu with hu | hu
  ·rw [gt t ht,gt u hu] at e;exact h.inj _ ht _ hu e
  ·rw [List.mem_singleton.1 hu,gt t ht,gs] at e;have:=h.cP t ht;omega
  ·rw [List.mem_singleton.1 ht,gt u hu,gs] at e;have:=h.cP u hu;omega
  ·rw [List.mem_singleton.1 ht,List.mem_singleton.1 hu]
 ·rw [hl] at hj
  rcases Nat.lt_or_ge j m3.length with hj'|hj'
  ·obtain ⟨t, ht, e⟩ := h.So j hj'
   exact ⟨t,List.mem_append_left _ ht,by rw [gt t ht];exact e⟩
  ·have : j = m3.length := by omega
   subst this
   exact ⟨s,by simp,gs⟩
 ·rw [ny BQ h.kd4]
  by_cases e:t=s
  ·subst e;rw [if_pos (BQ t)]
  ·rw [if_neg (fun hd => e (T5.1 hd))]
   rcases List.mem_append.1 ht with ht|ht
   ·rw [gt t ht];exact h.out t ht
   ·exact absurd (List.mem_singleton.1 ht) e
theorem vO.cls (h:vO key Q m3 m4):Nj Q (fun s=>aN tP (0:Int) m4 s) m3.length where
 cP s hs:=by simp only [h.out s hs];exact h.cP s hs
 So j hj:=by
  obtain ⟨s,hs,e⟩:=h.So j hj
  exact ⟨s,hs,by simp only [h.out s hs];exact e⟩
theorem vO.iff (h:vO key Q m3 m4) {t:Int×Int} (hs:s∈Q) (ht:t∈Q):aN tP (0:Int) m4 s=aN tP (0:Int) m4 t↔key s=key t:=by
 rw [h.out s hs,h.out t ht]
 exact ⟨h.inj s hs t ht,fun e=>by rw [e]⟩
end
end Go.Proofs.Tryz
end
section
namespace Go.Proofs.Tryz
open Go.AM Go.Rs
set_option maxRecDepth 100000
@[reducible] def cT (m1:List ((Int×Int)×Int)) (s:Int×Int):Int:=aN tP (0:Int) m1 s
def qX (g:Bool->Bool->Bool) (a b:Lw) (m1:List ((Int×Int)×Int)) (s:Int×Int):K5:=(cT m1 s,cT m1 ((aE g a b).nx s 0),cT m1 ((aE g a b).nx s 1),0,0)
@[reducible] def S1 (a b:Lw) (n:Nat) (i c:Int) (m1:List ((Int×Int)×Int)) (m3:List (K5×Int)) (m4:List ((Int×Int)×Int)) (b5 b6:List Int) (P:List (Int×Int)) :=
 (n,(n:Int),i,(2:Int),c,m1,(2:Int),(0:Int),(0:Int),a,b,a,b,m3,m4,b5,b6,P,())
@[reducible] def S0 (a b:Lw) (n:Nat) (i:Int) (m1:List ((Int×Int)×Int)) (m3:List (K5×Int)) (m4:List ((Int×Int)×Int)) (P:List (Int×Int)) :=
 (n,(n:Int),i,m1,(2:Int),(0:Int),(0:Int),a,b,a,b,m3,m4,P,())
section
variable {a b:Lw} {n:Nat} {i c:Int} {m1 m4:List ((Int×Int)×Int)} {m3:List (K5×Int)} {P:List (Int×Int)} {s t:Int} {b6:List Int}
theorem sp_1 (ha:Wf a) (hb:Wf b) (hp:(s,t)∈pairs a b) (hc:c=0\/c=1) (h6:b6.length=5) :
  ag (gH77_v1_1 (S1 a b n i c m1 m3 m4 [s,t] b6 P))=some (.inl (S1 a b n i (c+1) m1 m3 m4 [s,t] (b6.set (Int.toNat (c+1)) (cT m1 (iL a s c,iL b t c))) P)):=by
 have h2:c<2:=by rcases hc with rfl|rfl<;>decide
 have hr:cP .i64 (c+1)=true:=by rcases hc with rfl|rfl<;>decide
 have hi:gz (c+1) 5=true:=by rcases hc with rfl|rfl<;>decide
 have hl:Int.toNat (c+1)<b6.length:=by rw [h6];rcases hc with rfl|rfl<;>decide
 simp only [S1,gH77_v1_1,ax,az,bq,bz,aS,aa,bw,if_pos h2,aF,List.getD_cons_zero,List.getD_cons_succ]
 rw [aA hr,af (Ss ha hb hp hc),aA hi,aL hl,aA hr]
theorem agT {b5:List Int}:ag (gH77_v1_1 (S1 a b n i 2 m1 m3 m4 b5 b6 P))=some (.inr (n,(n:Int),i,m1,(2:Int),(0:Int),(0:Int),a,b,a,b,m3,m4,b5,b6,P,())):=by
 simp only [S1,gH77_v1_1,ax,az,bq,bz,aS,aa,bw,if_neg (show ¬(2:Int)<2 by decide),aF]
theorem agU (ha:Wf a) (hb:Wf b) (hp:(s,t)∈pairs a b) :
  iter (fun x=>ag (gH77_v1_1 x)) (S1 a b n i 0 m1 m3 m4 [s,t] [cT m1 (s,t),0,0,0,0] P) =
   some (n,(n:Int),i,m1,(2:Int),(0:Int),(0:Int),a,b,a,b,m3,m4,[s,t],[cT m1 (s,t),cT m1 (iL a s 0,iL b t 0),cT m1 (iL a s 1,iL b t 1),0,0],P,()) :=
 aW (sp_1 ha hb hp (.inl rfl) rfl) (aW (sp_1 ha hb hp (.inr rfl) rfl) (bk agT))
theorem sp_0 (ha : Wf a) (hb : Wf b) {k : Nat} (hn : n = P.length) (hP : P.length < 100000) (hk : k < P.length) (hp : P.getD k (0, 0) ∈ pairs a b) {g : Bool → Bool → Bool}
  (h:vO (qX g a b m1) (P.take k) m3 m4):∃Wk Wl,ag (gH77_v1_0 (S0 a b n k m1 m3 m4 P))=some (.inl (S0 a b n ((k+1:Nat):Int) m1 Wk Wl P))/\vO (qX g a b m1) (P.take (k+1)) Wk Wl:=by
 have h1:((k:Nat):Int)<((n:Nat):Int):=by omega
 have h2:gz ((k:Nat):Int) ((n:Nat):Int)=true:=cm (by omega) h1
 have h3:(0:Nat)+Int.toNat ((k:Nat):Int)<P.length:=by simp;exact hk
 have e4:(0:Nat)+Int.toNat ((k:Nat):Int)=k:=by simp
 have hr:cP .i64 (((k:Nat):Int)+1)=true:=bL (by omega) (by omega)
 have Yo:P.take (k+1)=P.take k++[P.getD k (0,0)]:=dN (0,0) hk
 generalize hs:P.getD k (0,0)=st at hp Yo
 obtain ⟨s,t⟩:=st
 rw [Yo]
 have hin:=agU (n:=n) (i:=((k:Nat):Int)) (m1:=m1) (m3:=m3) (m4:=m4) (P:=P) ha hb hp
 cases hh:bT tK m3 (qX g a b m1 (s,t)) with
 |true =>
  refine ⟨m3,_,?_,h.old hh⟩
  have hh':bT (.prod (.int .i64) (.prod (.int .i64) (.prod (.int .i64) (.prod (.int .i64) (.int .i64))))) m3 (cT m1 (s,t),cT m1 (iL a s 0,iL b t 0),cT m1 (iL a s 1,iL b t 1),0,0)=true:=hh
  simp only [S0,gH77_v1_0,ax,az,xM,bq,bz,aS,bC,aa,bw,if_pos h1,aF,e4,hs,List.getD_cons_zero,List.getD_cons_succ]
  rw [aA h2,aL hk,af hin]
  simp only [List.getD_cons_zero,List.getD_cons_succ,hh',Bool.not_true,aZ,bg,TP]
  rw [aA hr]
  rfl
 |false =>
  refine ⟨_,_,?_,h.new hh⟩
  have hh':bT (.prod (.int .i64) (.prod (.int .i64) (.prod (.int .i64) (.prod (.int .i64) (.int .i64))))) m3 (cT m1 (s,t),cT m1 (iL a s 0,iL b t 0),cT m1 (iL a s 1,iL b t 1),0,0)=false:=hh
  simp only [S0,gH77_v1_0,ax,az,xM,bq,bz,aS,bC,aa,bw,if_pos h1,aF,e4,hs,List.getD_cons_zero,List.getD_cons_succ]
  rw [aA h2,aL hk,af hin]
  simp only [List.getD_cons_zero,List.getD_cons_succ,hh',Bool.not_false,cQ,bg,TP]
  rw [aA hr]
  rfl
theorem sp_e (hn:n=P.length):ag (gH77_v1_0 (S0 a b n (n:Int) m1 m3 m4 P))=some (.inr (m3,m4,m1,P,())):=by
 simp only [S0,gH77_v1_0,ax,aa,bw]
 rw [if_neg (by omega)]
theorem kH77 (ha:Wf a) (hb:Wf b) (hP:P.length<100000) (hp:∀s∈P,s∈pairs a b) (g:Bool->Bool->Bool) :
  ∃m3 m4,ag (FH77_v1 2 0 0 a b a b P.length P m1)=some ((m3.length:Int),m4,m1,P,())/\vO (qX g a b m1) P m3 m4:=by
 have := dJ (step := fun x => ag (gH77_v1_0 x)) (κ := Nat × List (K5 × Int) × List ((Int × Int) × Int)) (fun k => S0 a b P.length (k.1 : Int) m1 k.2.1 k.2.2 P) (fun k => P.length - k.1)
  (fun r=>∃m3 m4,r=(m3,m4,m1,P,())/\vO (qX g a b m1) P m3 m4) (fun k=>k.1<=P.length/\vO (qX g a b m1) (P.take k.1) k.2.1 k.2.2) ?_ (0,[],[]) ⟨Nat.zero_le _,vO.nil⟩
 ·obtain ⟨r, h1, m3, m4, rfl, h2⟩ := this
  refine ⟨m3,m4,?_,h2⟩
  have Cr:iter (fun x=>ag (gH77_v1_0 x)) (P.length,((P.length:Nat):Int),(0:Int),m1,(2:Int),(0:Int),(0:Int),a,b,a,b,[],[],P,())=some (m3,m4,m1,P,()):=h1
  simp only [FH77_v1,az,bC,aa,aF]
  rw [af Cr]
 ·rintro ⟨k, m3, m4⟩ ⟨hk, h⟩
  simp only at hk h ⊢
  rcases Nat.lt_or_ge k P.length with hlt|hge
  ·left
   obtain ⟨Wk,Wl,h1,h2⟩:=sp_0 ha hb rfl hP hlt (hp _ (jA hlt)) h
   exact ⟨(k+1,Wk,Wl),h1,⟨hlt,h2⟩,by simp only;omega⟩
  ·right
   have:k=P.length:=by omega
   subst this
   rw [List.take_length] at h
   exact ⟨_,sp_e rfl,m3,m4,rfl,h⟩
end
end Go.Proofs.Tryz
end
section
namespace Go.Proofs.Tryz
open Go.AM Go.Rs
set_option maxRecDepth 100000
section
variable {a b:Lw} {P:List (Int×Int)} {f:List ((Int×Int)×Int)} {g:Bool->Bool->Bool}
@[reducible] def C0 (a b:Lw) (v:Int) (P:List (Int×Int)) (f:List ((Int×Int)×Int)):=(v,(2:Int),(0:Int),(0:Int),a,b,a,b,P.length,P,f,())
theorem EK {s t:Int×Int}:qX g a b f s=qX g a b f t↔Lr (aE g a b) (cT f) s=Lr (aE g a b) (cT f) t:=by
 unfold qX Lr
 simp [Prod.ext_iff]
theorem J7 {S:Type} {P:List S} {f:S->Int} {n:Nat} {p:S} (h:Nj P f n) (hp:p∈P):0<n:=by have:=h.cP p hp;omega
theorem Wm (ha:Wf a) (hb:Wf b) (hU:(pairs a b).length<10000) (hd:mM (aE g a b) (pairs a b) P) (hf:mN (aE g a b).good P f) :
  ∃f',iter (fun x=>ag (g50_1 x)) (C0 a b 0 P f)=some ((2:Int),(0:Int),(0:Int),a,b,a,b,P.length,P,f',())/\FN (aE g a b) P (cT f'):=by
 have hPl:P.length<=(pairs a b).length:=kH hd.nd hd.sub
 have p0:=hd.ug
 have := dJ (step := fun x => ag (g50_1 x)) (κ := Nat × List ((Int × Int) × Int)) (fun k => C0 a b (k.1 : Int) P k.2) (fun k => P.length - k.1)
  (fun r=>∃f',r=((2:Int),(0:Int),(0:Int),a,b,a,b,P.length,P,f',())/\FN (aE g a b) P (cT f'))
  (fun k=>(k.1=0\/Nj P (cT k.2) k.1)/\k.1<=P.length/\∀s∈P,∀t∈P,cT k.2 s=cT k.2 t->(aE g a b).good s=(aE g a b).good t) ?_ (0,f) ⟨.inl rfl,Nat.zero_le _,fun s hs t ht e=>?_⟩
 ·obtain ⟨r,h1,f',rfl,h2⟩:=this;exact ⟨f',h1,h2⟩
 ·rintro ⟨n, f⟩ ⟨h1, h2, h3⟩
  simp only at h1 h2 h3 ⊢
  obtain ⟨m3,m4,e1,hs⟩:=kH77 (m1:=f) ha hb (by omega) hd.sub g
  have hc:=hs.cls
  have hpos:=J7 hc p0
  have hr:∀s∈P,∀t∈P,cT m4 s=cT m4 t->cT f s=cT f t:=fun s hs' t ht e=>congrArg (·.1) ((hs.iff hs' ht).1 e)
  have hrun:ag (g50_1 (C0 a b (n:Int) P f))=vq ((m3.length:Int)==(n:Int)) (some (.inr ((2:Int),(0:Int),(0:Int),a,b,a,b,P.length,P,m4,()))) (some (.inl (C0 a b (m3.length:Int) P m4))):=by
   simp only [C0,g50_1,az,ax,aa,aF]
   rw [af e1]
  rw [hrun]
  by_cases e:m3.length=n
  ·right
   subst e
   refine ⟨_,by simp,m4,rfl,?_⟩
   rcases h1 with h1|h1
   ·omega
   ·exact II ((aE g a b).st) hd.closed h1 hc (fun s hs' t ht=>(hs.iff hs' ht).trans EK) h3
  ·left
   have hle:n<=m3.length:=by
    rcases h1 with h1|h1
    ·omega
    ·exact PF ((aE g a b).st) h1 hc hr
   have hlen:=hs.len
   have hne:((m3.length:Int)==(n:Int))=false:=by simp;omega
   refine ⟨(m3.length,m4),by rw [hne,aZ],⟨.inr hc,hlen,fun s hs' t ht e=>h3 s hs' t ht (hr s hs' t ht e)⟩,by simp only;omega⟩
 ·simp only [cT, hf.2] at e
  by_cases h1:(aE g a b).good s=true<;>by_cases h2:(aE g a b).good t=true
  ·rw [h1,h2]
  ·rw [if_pos ⟨hs,h1⟩,if_neg (fun h=>h2 h.2)] at e;cases e
  ·rw [if_neg (fun h=>h1 h.2),if_pos ⟨ht,h2⟩] at e;cases e
  ·simp at h1 h2;rw [h1,h2]
@[reducible] def O0 (a b:Lw) (n:Nat) (i:Int) (k:Int) (P:List (Int×Int)) (f:List ((Int×Int)×Int)) (m:List (Int×Int×Int)):=(n,(n:Int),i,(2:Int),(0:Int),(0:Int),a,b,a,b,(2:Int),k,P,f,m,())
structure Su (f:List ((Int×Int)×Int)) (P Q:List (Int×Int)) (m:List (Int×Int×Int)):Prop where
 kd:KD (t:=.int .i64) (β:=Int×Int) m
 has:∀k:Int,bT (.int .i64) (β:=Int×Int) m k=true↔∃s∈Q,cT f s=k
 one:∀s∈Q,aN (.int .i64) ((0:Int),(0:Int)) m (cT f s)∈P/\cT f (aN (.int .i64) ((0:Int),(0:Int)) m (cT f s))=cT f s
theorem J8 {Q:List (Int×Int)} {m:List (Int×Int×Int)} (h:Su f P Q m) {s:Int×Int} (hs:s∈P) :
  Su f P (Q++[s]) (if bT (.int .i64) (β:=Int×Int) m (cT f s)=true then m else bh (.int .i64) m (cT f s) s):=by
 split
 ·rename_i hh
  obtain ⟨s0,h0,e0⟩:=(h.has _).1 hh
  refine ⟨h.kd,fun k=>?_,fun t ht=>?_⟩
  ·rw [h.has]
   constructor
   ·rintro ⟨t,ht,e⟩;exact ⟨t,List.mem_append_left _ ht,e⟩
   ·rintro ⟨t, ht, e⟩
    rcases List.mem_append.1 ht with ht|ht
    ·exact ⟨t,ht,e⟩
    ·rw [List.mem_singleton.1 ht] at e;exact ⟨s0,h0,e0.trans e⟩
  ·rcases List.mem_append.1 ht with ht | ht
   ·exact h.one t ht
   ·rw [List.mem_singleton.1 ht,<-e0];exact h.one s0 h0
 ·rename_i hh
  have hh:bT (.int .i64) (β:=Int×Int) m (cT f s)=false:=by simpa using hh
  refine ⟨KD.fM h.kd,fun k=>?_,fun t ht=>?_⟩
  ·rw [IJ D4, Bool.or_eq_true, h.has]
   constructor
   ·rintro (e | ⟨t, ht, e⟩)
    ·exact ⟨s,by simp,(di e).symm⟩
    ·exact ⟨t,List.mem_append_left _ ht,e⟩
   ·rintro ⟨t, ht, e⟩
    rcases List.mem_append.1 ht with ht|ht
    ·exact .inr ⟨t,ht,e⟩
    ·rw [List.mem_singleton.1 ht] at e;subst e;exact .inl (D4 _)
  ·rw [ny D4 h.kd]
   by_cases e:cT f t=cT f s
   ·rw [e,if_pos (D4 _)];exact ⟨hs,rfl⟩
   ·rw [if_neg (fun hd => e (di hd))]
    rcases List.mem_append.1 ht with ht|ht
    ·exact h.one t ht
    ·exact absurd (by rw [List.mem_singleton.1 ht]) e
theorem abn (hP:P.length<100000) (k:Int):∃m,iter (fun x=>ag (g50_2 x)) (O0 a b P.length 0 k P f [])=some ((2:Int),(0:Int),(0:Int),a,b,a,b,(2:Int),k,f,m,())/\Su f P P m:=by
 have := dJ (step := fun x => ag (g50_2 x)) (κ := Nat × List (Int × Int × Int)) (fun j => O0 a b P.length (j.1 : Int) k P f j.2) (fun j => P.length - j.1)
  (fun r=>∃m,r=((2:Int),(0:Int),(0:Int),a,b,a,b,(2:Int),k,f,m,())/\Su f P P m) (fun j=>j.1<=P.length/\Su f P (P.take j.1) j.2) ?_ (0,[]) ⟨Nat.zero_le _,jc,fun k=>by simp [bT],by simp⟩
 ·obtain ⟨r,h1,m,rfl,h2⟩:=this;exact ⟨m,h1,h2⟩
 ·rintro ⟨i, m⟩ ⟨hi, h⟩
  simp only at hi h ⊢
  rcases Nat.lt_or_ge i P.length with hlt|hge
  ·left
   have h1:((i:Nat):Int)<((P.length:Nat):Int):=by omega
   have e4:(0:Nat)+Int.toNat ((i:Nat):Int)=i:=by simp
   have hr:cP .i64 (((i:Nat):Int)+1)=true:=bL (by omega) (by omega)
   have hst:=J8 h (jA (d:=(0,0)) hlt)
   rw [<-dN (0,0) hlt] at hst
   refine ⟨(i+1,_),?_,⟨hlt,hst⟩,by simp only;omega⟩
   generalize hs:P.getD i (0,0)=st
   obtain ⟨s,t⟩:=st
   simp only [O0,g50_2,ax,az,bq,bz,aS,aa,bw,if_pos h1,aF,e4,hs,List.getD_cons_zero,List.getD_cons_succ]
   rw [aA (cm (by omega) h1),aL hlt]
   cases hh:bT (.int .i64) (β:=Int×Int) m (cT f (s,t)) with
   |true =>
    simp only [hh,Bool.not_true,aZ,aA hr,if_true]
    rfl
   |false =>
    simp only [hh,Bool.not_false,cQ,aA hr]
    rfl
  ·right
   have:i=P.length:=by omega
   subst this
   rw [List.take_length] at h
   refine ⟨_,?_,m,rfl,h⟩
   simp only [O0,g50_2,ax,aa,bw,aF]
   rw [if_neg (by omega)]
end
end Go.Proofs.Tryz
end
section
namespace Go.Proofs.Tryz
open Go.AM Go.Rs
set_option maxRecDepth 100000
structure nF (a b:Lw) (P:List (Int×Int)) (f:List ((Int×Int)×Int)) (m:List (Int×Int×Int)):Prop where
 ha:Wf a
 hb:Wf b
 sub:∀s∈P,s∈pairs a b
 cl:∀s∈P,∀c,c=0\/c=1->(aE (·&&·) a b).nx s c∈P
 on:Su f P P m
@[reducible] def sP (m:List (Int×Int×Int)) (k:Int):Int×Int:=aN (.int .i64) ((0:Int),(0:Int)) m k
@[reducible] def MS (a b:Lw) (f:List ((Int×Int)×Int)) (m:List (Int×Int×Int)):Rs.Sys Int:=mrg (aE (·&&·) a b) (cT f) (sP m)
section
variable {a b:Lw} {P:List (Int×Int)} {f:List ((Int×Int)×Int)} {mo:List (Int×Int×Int)} {k c:Int}
theorem nF.one (h:nF a b P f mo) (hk:k∈P.map (cT f)):sP mo k∈P/\cT f (sP mo k)=k:=by
 obtain ⟨s,hs,rfl⟩:=List.mem_map.1 hk
 exact h.on.one s hs
theorem nF.nx (h:nF a b P f mo) (hk:k∈P.map (cT f)) (hc:c=0\/c=1):(MS a b f mo).nx k c∈P.map (cT f) :=
 List.mem_map.2 ⟨_,h.cl _ (h.one hk).1 c hc,rfl⟩
theorem k78 (h:nF a b P f mo) (hk:k∈P.map (cT f)) (hc:c=0\/c=1):ag (FH78 k c 2 0 0 a b a b f mo)=some ((MS a b f mo).nx k c,f,(2:Int),(0:Int),(0:Int),a,b,a,b,mo,()):=by
 have hp:=h.sub _ (h.one hk).1
 simp only [FH78,az,aa,aF]
 generalize hg:sP mo k=st at hp
 obtain ⟨s,t⟩:=st
 have hg':aN (.int .i64) ((0:Int),(0:Int)) mo k=(s,t):=hg
 rw [hg',af (Ss h.ha h.hb hp hc)]
 show some (cT f (iL a s c,iL b t c),_)=some (cT f ((aE (·&&·) a b).nx (sP mo k) c),_)
 rw [hg];rfl
theorem kg78 (h:nF a b P f mo) (hk:k∈P.map (cT f)) (hc:c=0\/c=1):ag (Ve k c 2 0 0 a b a b f mo)=some ((MS a b f mo).nx k c,()):=by
 simp only [Ve,az,aa]
 rw [af (k78 h hk hc)]
theorem kg79 (h:nF a b P f mo) (hk:k∈P.map (cT f)):ag (Vg k 2 0 0 a b a b mo)=some ((MS a b f mo).good k,()):=by
 have hp:=h.sub _ (h.one hk).1
 simp only [Vg,FH79,az,aa,aF]
 generalize hg:sP mo k=st at hp
 obtain ⟨s,t⟩:=st
 have hg':aN (.int .i64) ((0:Int),(0:Int)) mo k=(s,t):=hg
 rw [hg',af (k55 h.ha h.hb hp),bg]
 show some ((aE (·&&·) a b).good (s,t),())=some ((aE (·&&·) a b).good (sP mo k),())
 rw [hg]
end
def kN (m:List (Int×Bool)) (K:List Int):Prop:=KD (t:=.int .i64) (β:=Bool) m/\∀s:Int,aN (.int .i64) false m s=decide (s∈K)
theorem kN.add {m:List (Int×Bool)} {K:List Int} (h:kN m K) (s:Int):kN (bh (.int .i64) m s true) (K++[s]) :=
 ⟨KD.fM h.1,fun y=>by
  rw [ny D4 h.1,h.2 y]
  by_cases e:y=s
  ·subst e;rw [if_pos (D4 y)];simp
  ·rw [if_neg (fun hd=>e (di hd))];simp [e]⟩
theorem pG {P:List Int} {F:List (Int×List Int)} {p s:Int} {ys zs:List Int}:bJ P ((p,ys)::F) s zs=(p,ys)::bJ (P++[p]) F s zs:=by
 unfold bJ
 have:(s∈P++((p,ys)::F).map (·.1))↔(s∈(P++[p])++F.map (·.1)):=by simp
 by_cases h:s∈P++((p,ys)::F).map (·.1)
 ·rw [if_pos h,if_pos (this.1 h)]
 ·rw [if_neg h,if_neg (fun h'=>h (this.2 h'))];rfl
@[reducible] def T1 (a b:Lw) (f:List ((Int×Int)×Int)) (mo:List (Int×Int×Int)) (st:Int) (lo n:Nat) (c:Int) (m:List (Int×Bool)) (q:List (Int×List Int)) (k:Int) (ys:List Int) (n7 n9:Nat) (lP:List (List Int)) (lQ:List (Int×Int)) (lR:List Int) :=
 (lo,n,(2:Int),c,(2:Int),st,m,q,k,ys,(2:Int),st,f,(2:Int),(0:Int),(0:Int),a,b,a,b,mo,n7,n9,lP,lQ,lR,())
section
variable {a b:Lw} {P:List (Int×Int)} {f:List ((Int×Int)×Int)} {mo:List (Int×Int×Int)} {k c st:Int} {lo n n7 n9:Nat} {m:List (Int×Bool)} {q F:List (Int×List Int)} {ys:List Int} {lP:List (List Int)} {lQ:List (Int×Int)} {lR P2:List Int}
theorem abo (h:nF a b P f mo) (hk:k∈P.map (cT f)) (hc:c=0\/c=1) (hm:aN (.int .i64) false m ((MS a b f mo).nx k c)=true) :
  ag (gH80_0i_1 (T1 a b f mo st lo n c m q k ys n7 n9 lP lQ lR))=some (.inl (T1 a b f mo st lo n (c+1) m q k ys n7 n9 lP lQ lR)):=by
 have h2:c<2:=by rcases hc with rfl|rfl<;>decide
 have hr:cP .i64 (c+1)=true:=by rcases hc with rfl|rfl<;>decide
 simp only [T1,gH80_0i_1,ax,az,bq,aS,aa,bw,if_pos h2,aF]
 rw [af (k78 h hk hc)]
 simp only [hm,Bool.not_true,aZ,aA hr]
theorem abp (h:nF a b P f mo) (hk:k∈P.map (cT f)) (hc:c=0\/c=1) (hm:aN (.int .i64) false m ((MS a b f mo).nx k c)=false) (hy:ys.length<1000000) (hn:n<1000000) :
  ag (gH80_0i_1 (T1 a b f mo st lo n c m q k ys n7 n9 lP lQ lR))=some (.inl (T1 a b f mo st 0 (n+1) (c+1) (bh (.int .i64) m ((MS a b f mo).nx k c) true) ((q.drop lo).take n++[((MS a b f mo).nx k c,ys++[c])]) k ys n7 n9 lP lQ lR)):=by
 have h2:c<2:=by rcases hc with rfl|rfl<;>decide
 have hr:cP .i64 (c+1)=true:=by rcases hc with rfl|rfl<;>decide
 have MO:=ek
 simp only [T1,gH80_0i_1,ax,az,bq,aS,aa,bw,if_pos h2,aF]
 rw [af (k78 h hk hc)]
 simp only [hm,Bool.not_false,cQ]
 rw [af (k83 ys)]
 have e1:(ys++((([c]).drop 0).take 1)).drop 0=ys++[c]:=by simp
 have e2:(ys++[c]).take (ys.length+(0+1))=ys++[c]:=List.take_of_length_le (by simp)
 simp only [e1,List.drop_zero,List.take_succ_cons,List.take_zero,List.length_cons,List.length_nil,e2]
 rw [aL (by omega),aL (by omega),aL (by omega),aA hr]
@[reducible] def T1e (a b:Lw) (f:List ((Int×Int)×Int)) (mo:List (Int×Int×Int)) (st:Int) (lo n:Nat) (m:List (Int×Bool)) (q:List (Int×List Int)) (n7 n9:Nat) (lP:List (List Int)) (lQ:List (Int×Int)) (lR:List Int) :=
 (lo,n,(2:Int),st,m,q,(2:Int),st,f,(2:Int),(0:Int),(0:Int),a,b,a,b,mo,n7,n9,lP,lQ,lR,())
theorem abq:ag (gH80_0i_1 (T1 a b f mo st lo n 2 m q k ys n7 n9 lP lQ lR))=some (.inr (T1e a b f mo st lo n m q n7 n9 lP lQ lR)):=by
 simp only [T1,T1e,gH80_0i_1,ax,az,bq,aS,aa,bw,if_neg (show ¬(2:Int)<2 by decide),aF]
theorem Ka (h:nF a b P f mo) (hk:k∈P.map (cT f)) (hc:c=0\/c=1) (hv:Vw lo n q F) (hM:kN m (P2++F.map (·.1))) (hy:ys.length<1000000) (hn:n<1000000) :
  ∃lo' n' q' m',ag (gH80_0i_1 (T1 a b f mo st lo n c m q k ys n7 n9 lP lQ lR))=some (.inl (T1 a b f mo st lo' n' (c+1) m' q' k ys n7 n9 lP lQ lR))/\n'<=n+1 /\
   Vw lo' n' q' (bJ P2 F ((MS a b f mo).nx k c) (ys++[c]))/\kN m' (P2++(bJ P2 F ((MS a b f mo).nx k c) (ys++[c])).map (·.1)):=by
 by_cases hx:(MS a b f mo).nx k c∈P2++F.map (·.1)
 ·refine ⟨lo, n, q, m, abo h hk hc ?_, by omega, ?_, ?_⟩
  ·rw [hM.2];exact decide_eq_true hx
  ·unfold bJ;rw [if_pos hx];exact hv
  ·unfold bJ;rw [if_pos hx];exact hM
 ·refine ⟨0, n + 1, _, _, abp h hk hc ?_ hy hn, Nat.le_refl _, ?_, ?_⟩
  ·rw [hM.2];exact decide_eq_false hx
  ·unfold bJ;rw [if_neg hx,hv.1];exact lU (by simp [hv.2])
  ·unfold bJ;rw [if_neg hx,List.map_append,<-List.append_assoc];exact hM.add _
theorem Wn (h:nF a b P f mo) (hk:k∈P.map (cT f)) (hv:Vw lo n q F) (hM:kN m (P2++F.map (·.1))) (hy:ys.length<1000000) (hn:n<100000) :
  ∃lo' n' q' m',iter (fun x=>ag (gH80_0i_1 x)) (T1 a b f mo st lo n 0 m q k ys n7 n9 lP lQ lR)=some (T1e a b f mo st lo' n' m' q' n7 n9 lP lQ lR) /\
   Vw lo' n' q' (bJ P2 (bJ P2 F ((MS a b f mo).nx k 0) (ys++[0])) ((MS a b f mo).nx k 1) (ys++[1])) /\
   kN m' (P2++(bJ P2 (bJ P2 F ((MS a b f mo).nx k 0) (ys++[0])) ((MS a b f mo).nx k 1) (ys++[1])).map (·.1)):=by
 obtain ⟨lo1,n1,q1,m1,h1,h2,h3,h4⟩:=Ka (st:=st) (n7:=n7) (n9:=n9) (lP:=lP) (lQ:=lQ) (lR:=lR) h hk (.inl rfl) hv hM hy (by omega)
 obtain ⟨Wh,n2,q2,m2,g1,g2,g3,g4⟩:=Ka (st:=st) (n7:=n7) (n9:=n9) (lP:=lP) (lQ:=lQ) (lR:=lR) h hk (.inr rfl) h3 h4 hy (by omega)
 exact ⟨Wh,n2,q2,m2,aW h1 (aW g1 (bk abq)),g3,g4⟩
end
end Go.Proofs.Tryz
end
section
namespace Go.Proofs.Tryz
open Go.AM Go.Rs
set_option maxRecDepth 100000
@[reducible] def T0 (a b:Lw) (f:List ((Int×Int)×Int)) (mo:List (Int×Int×Int)) (st:Int) (lo n:Nat) (m:List (Int×Bool)) (q:List (Int×List Int)) (n7 n9:Nat) (iI:List (List Int)) (kU:List (Int×Int)) (Vi:List Int) :=
 (lo,n,(2:Int),st,m,q,(2:Int),st,f,(2:Int),(0:Int),(0:Int),a,b,a,b,mo,n7,n9,iI,kU,Vi,())
@[reducible] def T9 (a b:Lw) (f:List ((Int×Int)×Int)) (mo:List (Int×Int×Int)) (st:Int) (n7 n9:Nat) (iI:List (List Int)) (kU:List (Int×Int)) (Vi:List Int) :=
 (f,(2:Int),(0:Int),(0:Int),a,b,a,b,mo,(2:Int),st,n7,n9,(2:Int),st,iI,kU,Vi,())
def qY (m:List (Int×Int)) (P:List Int):Prop:=KD (t:=.int .i64) (β:=Int) m/\∀(i:Nat) (h:i<P.length),aN (.int .i64) (0:Int) m P[i]=i
theorem qY.add {m:List (Int×Int)} {P:List Int} (h:qY m P) {k:Int} (hk:k∉P):qY (bh (.int .i64) m k (P.length:Int)) (P++[k]):=⟨KD.fM h.1,fun i hi=>by
 rw [ny D4 h.1]
 rcases Nat.lt_or_ge i P.length with hlt|hge
 ·have e : (P ++ [k])[i] = P[i] := List.getElem_append_left hlt
  rw [e,if_neg (fun hd=>hk (by rw [<-di hd];exact List.getElem_mem hlt))]
  exact h.2 i hlt
 ·have : i = P.length := by simp at hi; omega
  subst this
  have e:(P++[k])[P.length]=k:=by simp
  rw [e,if_pos (D4 k)]⟩
section
variable {a b:Lw} {P:List (Int×Int)} {f:List ((Int×Int)×Int)} {mo:List (Int×Int×Int)} {k c st:Int} {lo n:Nat} {m:List (Int×Bool)} {q F:List (Int×List Int)} {ys:List Int} {iI:List (List Int)} {kU:List (Int×Int)} {P2:List Int}
theorem Wo (h : nF a b P f mo) (hk : k ∈ P.map (cT f)) (hv : Vw lo n q ((k, ys) :: F)) (hM : kN m (P2 ++ ((k, ys) :: F).map (·.1))) (hN : qY kU P2) (hkn : k ∉ P2) (RN : iI.length = P2.length)
  (hy:ys.length<1000000) (hn:n<100000) (hP:P2.length<1000000) :
  ∃lo' n' q' m' RO,ag (gH80_0i_0 (T0 a b f mo st lo n m q P2.length P2.length iI kU P2))=some (.inl (T0 a b f mo st lo' n' m' q' (P2.length+1) (P2.length+1) RO (bh (.int .i64) kU k (P2.length:Int)) (P2++[k])))/\RO.length=P2.length+1 /\
   Vw lo' n' q' (bJ (P2++[k]) (bJ (P2++[k]) F ((MS a b f mo).nx k 0) (ys++[0])) ((MS a b f mo).nx k 1) (ys++[1])) /\
   kN m' ((P2++[k])++(bJ (P2++[k]) (bJ (P2++[k]) F ((MS a b f mo).nx k 0) (ys++[0])) ((MS a b f mo).nx k 1) (ys++[1])).map (·.1)):=by
 obtain ⟨h0,hlt,nU,_⟩:=jk ((0:Int),[]) hv
 have MO:=ek
 have i0:(0:Int)<((n:Nat):Int):=by omega
 obtain ⟨lo',n',q',m',h1,h2,h3⟩:=Wn (st:=st) (n7:=P2.length+1) (n9:=P2.length+1) (lP:=iI++[ys]) (lQ:=bh (.int .i64) kU k (P2.length:Int)) (lR:=P2++[k]) h hk hv hM hy hn
 rw [pG,pG] at h2 h3
 obtain ⟨k0,k1,k2,k3⟩:=jk ((0:Int),[]) h2
 refine ⟨lo'+1,n' - 1,q',m',iI++[ys],?_,by simp [RN],k3,by simpa using h3⟩
 have eP:P2.take P2.length++[k]=P2++[k]:=by simp
 have eB:iI.take P2.length++[ys]=iI++[ys]:=by rw [<-RN];simp
 simp only [T0,gH80_0i_0,ax,az,bq,bz,aS,bC,aa,bw,aF,if_pos i0,Int.toNat_zero,Nat.add_zero,nU]
 rw [aA (cm (by omega) i0),aL hlt,af (k82 hy)]
 simp only [List.drop_zero,List.take_succ_cons,List.take_zero,List.length_cons,List.length_nil,eP,eB,Nat.zero_add]
 rw [aL (by omega),aL (by omega),af h1]
 dsimp only
 rw [aL (by omega),aL (by omega),aL (by omega)]
 rfl
theorem abr {n7 n9:Nat}:ag (gH80_0i_0 (T0 a b f mo st lo 0 m q n7 n9 iI kU P2))=some (.inr (T9 a b f mo st n7 n9 iI kU P2)):=by
 simp only [T0,T9,gH80_0i_0,ax,aa,bw,aF]
 rw [if_neg (by simp)]
structure WT where
 lo:Nat
 n:Nat
 q:List (Int×List Int)
 F:List (Int×List Int)
 m:List (Int×Bool)
 P:List Int
 b:List (List Int)
 f:List (Int×Int)
theorem Wp (h:nF a b P f mo) (hU:P.length<10000) (k:WT) (hB:BF (MS a b f mo) (P.map (cT f)) k.P k.F) (hv:Vw k.lo k.n k.q k.F) (hM:kN k.m (k.P++k.F.map (·.1))) (hN:qY k.f k.P) (hb:k.b.length=k.P.length) :
  ∃P2 iI kU,iter (fun x=>ag (gH80_0i_0 x)) (T0 a b f mo st k.lo k.n k.m k.q k.P.length k.P.length k.b k.f k.P)=some (T9 a b f mo st P2.length P2.length iI kU P2)/\mM (MS a b f mo) (P.map (cT f)) P2/\qY kU P2:=by
 have := dJ (step := fun x => ag (gH80_0i_0 x)) (κ := WT) (fun k => T0 a b f mo st k.lo k.n k.m k.q k.P.length k.P.length k.b k.f k.P) (fun k => P.length - k.P.length)
  (fun r=>∃P2 iI kU,r=T9 a b f mo st P2.length P2.length iI kU P2/\mM (MS a b f mo) (P.map (cT f)) P2/\qY kU P2)
  (fun k=>BF (MS a b f mo) (P.map (cT f)) k.P k.F/\Vw k.lo k.n k.q k.F/\kN k.m (k.P++k.F.map (·.1))/\qY k.f k.P/\k.b.length=k.P.length) ?_ k ⟨hB,hv,hM,hN,hb⟩
 ·obtain ⟨r,h1,P2,iI,kU,rfl,h2,h3⟩:=this;exact ⟨P2,iI,kU,h1,h2,h3⟩
 ·rintro ⟨lo, n, q, F, m, P2, iI, kU⟩ ⟨hB, hv, hM, hN, hb⟩
  simp only at hB hv hM hN hb ⊢
  cases F with
  |nil =>
   right
   have:=yI hv
   subst this
   exact ⟨_,abr,P2,iI,kU,rfl,hB.done,hN⟩
  |cons e F =>
   obtain ⟨p,ys⟩:=e
   left
   have hp:p∈P.map (cT f):=hB.sub p (by simp)
   have hl:=hB.len
   have hy:=(hB.reach (p,ys) (by simp)).2.2
   simp only [List.length_cons,List.length_map] at hl
   simp only at hy
   have hn:n=F.length+1:=hv.2.symm
   have hkn:p∉P2:=fun hm=>by
    have:=hB.nd
    rw [List.nodup_append] at this
    exact this.2.2 p hm p (by simp) rfl
   obtain ⟨lo',n',q',m',b',h1,h2,h3,h4⟩:=Wo (st:=st) h hp hv hM hN hkn hb (by omega) (by omega) (by omega)
   refine ⟨⟨lo',n',q',_,m',P2++[p],b',bh (.int .i64) kU p (P2.length:Int)⟩,?_,⟨hB.round fun c hc=>h.nx hp hc,h3,h4,hN.add hkn,by simp [h2]⟩,?_⟩
   ·rw [h1];simp
   ·simp only [List.length_append,List.length_cons,List.length_nil];omega
end
end Go.Proofs.Tryz
end
section
namespace Go.Proofs.Tryz
open Go.AM Go.Rs
set_option maxRecDepth 100000
@[reducible] def nL (num:List (Int×Int)) (k:Int):Int:=aN (.int .i64) (0:Int) num k
@[reducible] def R2 (a b:Lw) (f:List ((Int×Int)×Int)) (mo:List (Int×Int×Int)) (st k:Int) (nv n:Nat) (i c:Int) (n6 MP n7:Nat) (row P2:List Int) (oM:List (List Int)) (oN:List Bool) (qQ:List (List Int)) (num:List (Int×Int)) :=
 (k,nv,n,(n:Int),i,(2:Int),c,(2:Int),st,n6,MP,n7,row,P2,f,(2:Int),(0:Int),(0:Int),a,b,a,b,mo,oM,oN,qQ,num,())
@[reducible] def R1 (a b:Lw) (f:List ((Int×Int)×Int)) (mo:List (Int×Int×Int)) (st:Int) (n:Nat) (i:Int) (n6 MP n7:Nat) (P2:List Int) (oM:List (List Int)) (oN:List Bool) (qQ:List (List Int)) (num:List (Int×Int)) :=
 (n,(n:Int),i,(2:Int),st,n6,MP,n7,P2,f,(2:Int),(0:Int),(0:Int),a,b,a,b,mo,oM,oN,qQ,num,())
section
variable {a b:Lw} {P:List (Int×Int)} {f:List ((Int×Int)×Int)} {mo:List (Int×Int×Int)} {k c st i:Int} {nv n n6 MP n7:Nat} {row P2:List Int} {oM qQ:List (List Int)} {oN:List Bool} {num:List (Int×Int)}
theorem Kb (h:nF a b P f mo) (hk:k∈P.map (cT f)) (hc:c=0\/c=1) (hr:row.length=nv) (hn:nv<100) :
  ag (gH80_2 (R2 a b f mo st k nv n i c n6 MP n7 row P2 oM oN qQ num))=some (.inl (R2 a b f mo st k (nv+1) n i (c+1) n6 MP n7 (row++[nL num ((MS a b f mo).nx k c)]) P2 oM oN qQ num)):=by
 have h2:c<2:=by rcases hc with rfl|rfl<;>decide
 have Sh:cP .i64 (c+1)=true:=by rcases hc with rfl|rfl<;>decide
 have MO:=ek
 simp only [R2,gH80_2,ax,az,bq,aS,aa,bw,if_pos h2,aF]
 rw [af (kg78 h hk hc)]
 have e:row.take nv=row:=by rw [<-hr];simp
 simp only [List.drop_zero,List.take_succ_cons,List.take_zero,List.length_cons,List.length_nil,e]
 rw [aL (by omega),aA Sh]
theorem Wq (h:nF a b P f mo) (hk:k∈P.map (cT f)) :
  iter (fun x=>ag (gH80_2 x)) (R2 a b f mo st k 0 n i 0 n6 MP n7 [] P2 oM oN qQ num) =
   some (k,2,n,(n:Int),i,(2:Int),st,n6,MP,n7,[nL num ((MS a b f mo).nx k 0),nL num ((MS a b f mo).nx k 1)],P2,f,(2:Int),(0:Int),(0:Int),a,b,a,b,mo,oM,oN,qQ,num,()):=by
 refine aW (Kb h hk (.inl rfl) rfl (by omega)) (aW (Kb h hk (.inr rfl) rfl (by omega)) (bk ?_))
 have:¬((0:Int)+1+1<2):=by decide
 simp only [R2,gH80_2,ax,aa,bw,aF]
 rw [if_neg this]
 rfl
theorem Wr (h:nF a b P f mo) {j:Nat} (hj:j<P2.length) (hP:P2.length<100000) (hs:∀x∈P2,x∈P.map (cT f)) (h11:oM.length=j) (h12:oN.length=j) :
  ag (gH80_1 (R1 a b f mo st P2.length (j : Int) j j n7 P2 oM oN qQ num)) = some (.inl (R1 a b f mo st P2.length ((j + 1 : Nat) : Int) (j + 1) (j + 1) n7 P2
   (oM++[[nL num ((MS a b f mo).nx (P2.getD j 0) 0),nL num ((MS a b f mo).nx (P2.getD j 0) 1)]]) (oN++[(MS a b f mo).good (P2.getD j 0)]) qQ num)):=by
 have h1:((j:Nat):Int)<((P2.length:Nat):Int):=by omega
 have e4:(0:Nat)+Int.toNat ((j:Nat):Int)=j:=by simp
 have hr:cP .i64 (((j:Nat):Int)+1)=true:=bL (by omega) (by omega)
 have MO:=ek
 have hk:P2.getD j 0∈P.map (cT f):=hs _ (jA hj)
 simp only [R1,gH80_1,ax,az,bq,bz,aS,bC,aa,bw,if_pos h1,aF,e4]
 generalize P2.getD j 0=k at hk
 rw [aA (cm (by omega) h1),aL hj,af (Wq h hk)]
 have e1:oM.take j=oM:=by rw [<-h11];simp
 have e2:oN.take j=oN:=by rw [<-h12];simp
 simp only [List.drop_zero,List.take_succ_cons,List.take_zero,List.length_cons,List.length_nil,e1,e2]
 rw [aL (by omega),af (kg79 h hk),aL (by omega),aA hr]
 rfl
theorem Ws (h:nF a b P f mo) (hP:P2.length<100000) (hs:∀x∈P2,x∈P.map (cT f)) :
  iter (fun x=>ag (gH80_1 x)) (R1 a b f mo st P2.length 0 0 0 n7 P2 [] [] qQ num) =
   some (P2.length,P2.length,n7,f,(2:Int),(0:Int),(0:Int),a,b,a,b,mo,(c8 (MS a b f mo) P2 (nL num)).1,(c8 (MS a b f mo) P2 (nL num)).2,qQ,()):=by
 have := dJ (step := fun x => ag (gH80_1 x)) (κ := Nat) (fun j => R1 a b f mo st P2.length (j : Int) j j n7 P2 (c8 (MS a b f mo) (P2.take j) (nL num)).1 (c8 (MS a b f mo) (P2.take j) (nL num)).2 qQ num) (fun j => P2.length - j)
  (fun r=>r=(P2.length,P2.length,n7,f,(2:Int),(0:Int),(0:Int),a,b,a,b,mo,(c8 (MS a b f mo) P2 (nL num)).1,(c8 (MS a b f mo) P2 (nL num)).2,qQ,())) (fun j=>j<=P2.length) ?_ 0 (Nat.zero_le _)
 ·obtain ⟨r,h1,rfl⟩:=this;exact h1
 ·intro j hj
  rcases Nat.lt_or_ge j P2.length with hlt|hge
  ·left
   refine ⟨j+1,?_,hlt,by omega⟩
   rw [Wr h hlt hP hs (by simp [c8];omega) (by simp [c8];omega)]
   rw [dN 0 hlt]
   simp [c8]
  ·right
   have:j=P2.length:=by omega
   subst this
   refine ⟨_,?_,rfl⟩
   simp only [R1,gH80_1,ax,aa,bw,aF,List.take_length]
   rw [if_neg (by omega)]
theorem kH80 (h:nF a b P f mo) (hP:P.length<10000) (hst:st∈P.map (cT f)) (hs:st=(MS a b f mo).st) :
  ∃P2 num iI,ag (FH80 2 st 2 0 0 a b a b f mo)=some (P2.length,P2.length,P2.length,(c8 (MS a b f mo) P2 (nL num)).1,(c8 (MS a b f mo) P2 (nL num)).2,iI,f,(2:Int),(0:Int),(0:Int),a,b,a,b,mo,()) /\
   mM (MS a b f mo) (P.map (cT f)) P2/\qY num P2:=by
 have hM:kN (bh (.int .i64) [] st true) ([]++[(st,([]:List Int))].map (·.1)):=by
  have:kN [] []:=⟨jc,fun s=>by simp [aN]⟩
  exact this.add st
 obtain ⟨P2,iI,num,h1,h2,h3⟩:=Wp (st:=st) h hP ⟨0,1,[(st,[])],[(st,[])],bh (.int .i64) [] st true,[],[],[]⟩ (by rw [hs];exact BF.start (by rw [<-hs];exact hst)) (lU rfl) hM ⟨jc,by simp⟩ rfl
 refine ⟨P2,num,iI,?_,h2,h3⟩
 have hl:P2.length<=P.length:=by have:=kH h2.nd h2.sub;simpa using this
 simp only [FH80,FH99,gH80_0,az,bC,aa,bg,aF]
 have Cr:iter (fun x=>ag (gH80_0i_0 x)) (0,1,(2:Int),st,bh (.int .i64) [] st true,[(st,[])],(2:Int),st,f,(2:Int),(0:Int),(0:Int),a,b,a,b,mo,0,0,[],[],[],())=some (T9 a b f mo st P2.length P2.length iI num P2):=h1
 rw [af Cr]
 simp only [T9,bg,aF]
 rw [af (Ws h (by omega) h2.sub)]
end
end Go.Proofs.Tryz
end
section
namespace Go.Proofs.Tryz
open Go.AM Go.Rs
set_option maxRecDepth 100000
section
variable {a b l:Lw}
theorem XU (h:Wf l):ag (F25 l)=some (2,()):=by
 have hp:=h.pos
 have h0:=vN h (s:=0) ⟨Int.le_refl _,by omega⟩
 simp only [F25,bz,aa]
 rw [aA (cm (Int.le_refl _) (by omega)),h0]
theorem k24 {x y z:Int}:ag (F24 x y z)=some (decide (x<=y/\y<=z),()):=by
 simp only [F24,ax,aa,bw]
 by_cases h:x<=y<;>simp [h]
theorem k26 {s:Int} (h:Wf l) (h4:l.1.length<1000000) (hs:0<=s/\s<l.1.length):ag (F26 s l)=some (false,()):=by
 simp only [F26,aS,az,aa]
 rw [aA (bL (by omega) (by omega)),af k24,decide_eq_true (by omega)]
 rfl
theorem k51 {x y:Int} (h:Wf l) (h4:l.1.length<1000000) (hx:0<=x/\x<l.1.length) (hy:0<=y/\y<l.1.length):ag (F51_v1 [x,y] l)=some (-1,()):=by
 have st:∀(i:Int) (z:Int),(i=0/\z=x)\/(i=1/\z=y)->ag (g51_v1_0 ([x,y],l,2,i,()))=some (.inl ([x,y],l,2,i+1,())):=fun i z hi=>by
  have h1:i<2:=by rcases hi with ⟨rfl,_⟩|⟨rfl,_⟩<;>decide
  have h2:gz i (([x,y].length:Nat):Int)=true:=by rcases hi with ⟨rfl,_⟩|⟨rfl,_⟩<;>rfl
  have h3:cP .i64 (i+1)=true:=by rcases hi with ⟨rfl,_⟩|⟨rfl,_⟩<;>decide
  have hz:[x,y].getD i.toNat 0=z:=by rcases hi with ⟨rfl,rfl⟩|⟨rfl,rfl⟩<;>rfl
  have hzr:0<=z/\z<l.1.length:=by rcases hi with ⟨_,rfl⟩|⟨_,rfl⟩<;>assumption
  simp only [g51_v1_0,ax,bz,az,aS,aa,bw,if_pos h1,hz,aF]
  rw [aA h2,af (k26 h h4 hzr)]
  simp only [aZ,aA h3]
 have en:ag (g51_v1_0 ([x,y],l,2,1+1,()))=some (.inr (.inr ())):=by
  have:¬((1:Int)+1<2):=by decide
  simp only [g51_v1_0,ax,aa,bw]
  rw [if_neg this]
 have hit:iter (fun x=>ag (g51_v1_0 x)) ([x,y],l,(([x,y].length:Nat):Int),0,())=some (.inr ()):=aW (st 0 x (.inl ⟨rfl,rfl⟩)) (aW (st 1 y (.inr ⟨rfl,rfl⟩)) (bk en))
 simp only [F51_v1,az,bC,aa,aF]
 rw [af hit]
 rfl
theorem k27 {x y:Int} (h:Wf l) (h4:l.1.length<1000000) (hx:0<=x/\x<l.1.length) (hy:0<=y/\y<l.1.length):ag (F27_v1 [x,y] l)=some (false,()):=by
 simp only [F27_v1,az,aa,aF]
 rw [af (k51 h h4 hx hy)]
 rfl
theorem k9 (h:Wf l) (h4:l.1.length<=40):ag (F9 l)=some (0,()):=by
 have hp:=h.pos
 have hit:iter (fun x=>ag (g9_0 x)) (l.1,((l.1.length:Nat):Int),0,l.1,l.2,())=some (.inr ()):=by
  refine iY (step:=fun x=>ag (g9_0 x)) l.1.length (fun k=>(l.1,((l.1.length:Nat):Int),(k:Int),l.1,l.2,())) ?_ ?_
  ·intro k hk
   have h1:((k:Nat):Int)<((l.1.length:Nat):Int):=by omega
   have hr:cP .i64 (((k:Nat):Int)+1)=true:=bL (by omega) (by omega)
   obtain ⟨x,y,e,hx,hy⟩:=h.rows _ (List.getElem_mem hk)
   have e':l.1.getD (Int.toNat ((k:Nat):Int)) []=[x,y]:=by rw [Int.toNat_natCast,List.getD_eq_getElem?_getD,List.getElem?_eq_getElem hk];exact e
   simp only [g9_0,ax,bz,az,aS,aa,bw,if_pos h1,e',aF]
   rw [aA (cm (by omega) h1),af (XU h)]
   have e2:((([x,y].length:Nat):Int)==(2:Int))=true:=rfl
   simp only [e2,Bool.not_true,aZ]
   rw [af (k27 h (by omega) hx hy)]
   simp only [aZ,aA hr]
   rfl
  ·simp only [g9_0, ax, aa, bw]
   rw [if_neg (by omega)]
 simp only [F9,ax,az,bC,aa,bw,jO,aF]
 rw [if_neg (by omega),if_neg (by omega),af (XU h),af k24]
 have e1:(!decide ((1:Int)<=2/\(2:Int)<=4))=false:=by decide
 have e2:(!(((l.2.length:Nat):Int)==((l.1.length:Nat):Int)))=false:=by rw [h.len];simp
 simp only [e1,e2,aZ]
 rw [af hit]
 rfl
theorem k36 (ha:Wf a) (hb:Wf b) (h4:a.1.length<=40) (h5:b.1.length<=40):ag (F36 a b)=some (0,()):=by
 have st:∀(i:Int) (z:Lw),(i=0/\z=a)\/(i=1/\z=b)->ag (g36_0 (2,2,i,a.1,a.2,b.1,b.2,[a,b],()))=some (.inl (2,2,i+1,a.1,a.2,b.1,b.2,[a,b],())):=fun i z hi=>by
  have h1:i<2:=by rcases hi with ⟨rfl,_⟩|⟨rfl,_⟩<;>decide
  have h2:gz i ((2:Nat):Int)=true:=by rcases hi with ⟨rfl,_⟩|⟨rfl,_⟩<;>decide
  have h3:cP .i64 (i+1)=true:=by rcases hi with ⟨rfl,_⟩|⟨rfl,_⟩<;>decide
  have h6:(0:Nat)+i.toNat<[a,b].length:=by rcases hi with ⟨rfl,_⟩|⟨rfl,_⟩<;>simp
  have hz:[a,b].getD ((0:Nat)+i.toNat) ([],[])=z:=by rcases hi with ⟨rfl,rfl⟩|⟨rfl,rfl⟩<;>rfl
  have hc:ag (F9 z)=some (0,()):=by rcases hi with ⟨_,rfl⟩|⟨_,rfl⟩<;>exact k9 (by assumption) (by assumption)
  simp only [g36_0,ax,bz,az,bq,aS,aa,bw,if_pos h1,hz,aF]
  rw [aA h2,aL h6,af hc]
  simp only [beq_self_eq_true,Bool.not_true,aZ,aA h3]
 have en:ag (g36_0 (2,2,1+1,a.1,a.2,b.1,b.2,[a,b],()))=some (.inr (.inr (a.1,a.2,b.1,b.2,()))):=by
  have:¬((1:Int)+1<2):=by decide
  simp only [g36_0,ax,aa,bw]
  rw [if_neg this]
 have hit:iter (fun x=>ag (g36_0 x)) (2,2,0,a.1,a.2,b.1,b.2,[a,b],())=some (.inr (a.1,a.2,b.1,b.2,())):=aW (st 0 a (.inl ⟨rfl,rfl⟩)) (aW (st 1 b (.inr ⟨rfl,rfl⟩)) (bk en))
 simp only [F36,az,bC,ax,aa,aF]
 rw [af hit]
 show cZ (ag (F25 a)) (fun y=>cZ (ag (F25 b)) fun z=>vq (!(y.1==z.1)) (some ((3:Int),())) (some ((0:Int),())))=_
 rw [af (XU ha),af (XU hb)]
 simp
theorem k37 (ha:Wf a):ag (F37 a b (0,0))=some (2,0,0,a,b,a,b,()):=by
 simp only [F37,az,aa,aF]
 rw [af (XU ha)]
 rfl
theorem k50 (ha:Wf a) (hb:Wf b) (hU:(pairs a b).length<10000):∃l s,ag (F50 2 0 0 a b a b)=some (l,s,())/\Fits (aE (·&&·) a b) l:=by
 have hM:gj (bh tP [] ((0:Int),(0:Int)) true) ([]++[(((0:Int),(0:Int)),([]:List Int))].map (·.1)):=by
  have:gj [] []:=⟨jc,fun s=>by simp [aN]⟩
  exact this.add (0,0)
 obtain ⟨P,f0,h1,hd,hf⟩:=Wj ha hb hU ⟨0,1,[((0,0),[])],[((0,0),[])],bh tP [] ((0:Int),(0:Int)) true,[],[]⟩ (BF.start (xX ha hb)) (lU rfl) hM ⟨jc,fun s=>by simp [aN]⟩
 obtain ⟨f,h2,hs⟩:=Wm ha hb hU hd hf
 have hPl:P.length<=(pairs a b).length:=kH hd.nd hd.sub
 obtain ⟨mo,h3,hon⟩:=abn (a:=a) (b:=b) (P:=P) (f:=f) (by omega) (cT f (0,0))
 have hT:nF a b P f mo:=⟨ha,hb,hd.sub,hd.closed,hon⟩
 obtain ⟨P2,num,iI,h4,NJ,hN⟩:=kH80 (st:=cT f (0,0)) hT (by omega) (List.mem_map.2 ⟨_,hd.ug,rfl⟩) rfl
 have hfit:=D3 hd hs hon.one (PJ (ix:=nL num) NJ hN.2)
 refine ⟨c8 (MS a b f mo) P2 (nL num),iI.take P2.length,?_,hfit⟩
 have Cr:iter (fun x=>ag (g50_0i_0 x)) (2,0,0,a,b,a,b,0,1,2,0,0,a,b,a,b,bh tP [] ((0:Int),(0:Int)) true,[((0,0),[])],2,0,0,a,b,a,b,0,[],[],())=some (J9 a b P.length P f0):=h1
 simp only [F50,F56,g50_0,az,bC,aa,bg,aF]
 rw [af Cr]
 simp only [J9,bg,aF]
 rw [af h2]
 dsimp only
 rw [af h3]
 dsimp only
 rw [af h4]
 have e1:(c8 (MS a b f mo) P2 (nL num)).1.take P2.length=(c8 (MS a b f mo) P2 (nL num)).1:=List.take_of_length_le (by simp [c8])
 have e2:(c8 (MS a b f mo) P2 (nL num)).2.take P2.length=(c8 (MS a b f mo) P2 (nL num)).2:=List.take_of_length_le (by simp [c8])
 simp only [List.drop_zero,e1,e2]
theorem k6 (ha:Wf a) (hb:Wf b) (h4:a.1.length<=40) (h5:b.1.length<=40) (hl:∀l,Fits (aE (·&&·) a b) l->l.1.length<=40) :
  ∃l,ag (F6 a b)=some (l,0,())/\Fits (aE (·&&·) a b) l:=by
 have hU:(pairs a b).length<10000:=by
  rw [uh]
  have:=Nat.mul_le_mul h4 h5
  omega
 obtain ⟨l,s,h1,h2⟩:=k50 ha hb hU
 refine ⟨l,?_,h2⟩
 have:=hl l h2
 simp only [F6,F21,az,ax,aa,aF]
 rw [af (k36 ha hb h4 h5)]
 simp only [beq_self_eq_true,Bool.not_true,aZ]
 rw [af (k37 ha)]
 dsimp only
 rw [af h1]
 dsimp only
 rw [bw,if_neg (by omega),bg]
end
end Go.Proofs.Tryz
end
section
namespace Go.Proofs.Tryz
open Go.AM Go.Rs
set_option maxRecDepth 100000
section
variable {a b:Lw} {s t c:Int}
theorem abt (ha:Wf a) (hb:Wf b) (hp:(s,t)∈pairs a b):ag (F55_v1 (s,t) a b)=some (((aE (·||·) a b).good (s,t)),()):=by
 rw [j6] at hp
 obtain ⟨h1,h2⟩:=hp
 simp only at h1 h2
 have h22:∀x y:Bool,ag (F23 x y)=some (x||y,()):=fun x y=>by
  simp only [F23,ax,aa]
  cases x<;>simp
 show need (decide ((0:Nat)<2)) (need (gz s ((a.2.length:Nat):Int)) (need (decide ((1:Nat)<2)) (need (gz t ((b.2.length:Nat):Int)) (cZ (ag (F23 (a.2.getD s.toNat false) (b.2.getD t.toNat false))) fun y=>some (y.1,())))))=_
 rw [aL (by decide),aA (cm h1.1 (by rw [ha.len];exact h1.2)),aL (by decide),aA (cm h2.1 (by rw [hb.len];exact h2.2)),af (h22 _ _)]
 rfl
end
end Go.Proofs.Tryz
end
section
namespace Go.Proofs.Tryz
open Go.AM Go.Rs
set_option maxRecDepth 100000
section
variable {a b:Lw} {p:Int×Int} {c:Int} {lo n nc:Nat} {m:List ((Int×Int)×Bool)} {q:List ((Int×Int)×List Int)} {ys:List Int} {P:List (Int×Int)} {f:List ((Int×Int)×Int)}
theorem Wt (ha:Wf a) (hb:Wf b) (hp:p∈pairs a b) (hc:c=0\/c=1) (hm:aN tP false m ((aE (·||·) a b).nx p c)=true) :
  ag (g50_v1_0i_1 (I1 a b lo n c m q p ys nc P f))=some (.inl (I1 a b lo n (c+1) m q p ys nc P f)):=by
 obtain ⟨s,t⟩:=p
 have h2:c<2:=by rcases hc with rfl|rfl<;>decide
 have hr:cP .i64 (c+1)=true:=by rcases hc with rfl|rfl<;>decide
 have hm':aN (.prod (.int .i64) (.int .i64)) false m (iL a s c,iL b t c)=true:=hm
 simp only [I1,g50_v1_0i_1,ax,az,bq,aS,aa,bw,if_pos h2,aF]
 rw [af (Ss ha hb hp hc)]
 simp only [List.getD_cons_zero,List.getD_cons_succ,hm',Bool.not_true,aZ,aA hr]
theorem Wu (ha:Wf a) (hb:Wf b) (hp:p∈pairs a b) (hc:c=0\/c=1) (hm:aN tP false m ((aE (·||·) a b).nx p c)=false) (hy:ys.length<1000000) (hn:n<1000000) :
  ag (g50_v1_0i_1 (I1 a b lo n c m q p ys nc P f))=some (.inl (I1 a b 0 (n+1) (c+1) (bh tP m ((aE (·||·) a b).nx p c) true) ((q.drop lo).take n++[((aE (·||·) a b).nx p c,ys++[c])]) p ys nc P f)):=by
 obtain ⟨s,t⟩:=p
 have h2:c<2:=by rcases hc with rfl|rfl<;>decide
 have hr:cP .i64 (c+1)=true:=by rcases hc with rfl|rfl<;>decide
 have hm':aN (.prod (.int .i64) (.int .i64)) false m (iL a s c,iL b t c)=false:=hm
 have MO:=ek
 simp only [I1,g50_v1_0i_1,ax,az,bq,aS,aa,bw,if_pos h2,aF]
 rw [af (Ss ha hb hp hc)]
 simp only [List.getD_cons_zero,List.getD_cons_succ,hm',Bool.not_false,cQ]
 rw [af (k83 ys)]
 have e1:(ys++((([c]).drop 0).take 1)).drop 0=ys++[c]:=by simp
 have e2:(ys++[c]).take (ys.length+(0+1))=ys++[c]:=List.take_of_length_le (by simp)
 simp only [e1,List.drop_zero,List.take_succ_cons,List.take_zero,List.length_cons,List.length_nil,e2]
 rw [aL (by omega),aL (by omega),aL (by omega),aA hr]
 rfl
theorem Wv:ag (g50_v1_0i_1 (I1 a b lo n 2 m q p ys nc P f))=some (.inr ((2:Int),(0:Int),(0:Int),a,b,a,b,lo,n,(2:Int),(0:Int),(0:Int),a,b,a,b,m,q,(2:Int),(0:Int),(0:Int),a,b,a,b,nc,P,f,())):=by
 simp only [I1,g50_v1_0i_1,ax,az,bq,aS,aa,bw,if_neg (show ¬(2:Int)<2 by decide),aF]
end
end Go.Proofs.Tryz
end
section
namespace Go.Proofs.Tryz
open Go.AM Go.Rs
set_option maxRecDepth 100000
section
variable {a b:Lw} {p:Int×Int} {c:Int} {lo n nc:Nat} {m:List ((Int×Int)×Bool)} {q F:List ((Int×Int)×List Int)} {ys:List Int} {P P2:List (Int×Int)} {f:List ((Int×Int)×Int)}
theorem EL (ha:Wf a) (hb:Wf b) (hp:p∈pairs a b) (hc:c=0\/c=1) (hv:Vw lo n q F) (hM:gj m (P++F.map (·.1))) (hy:ys.length<1000000) (hn:n<1000000) :
  ∃lo' n' q' m',ag (g50_v1_0i_1 (I1 a b lo n c m q p ys nc P2 f))=some (.inl (I1 a b lo' n' (c+1) m' q' p ys nc P2 f))/\n'<=n+1 /\
   Vw lo' n' q' (bJ P F ((aE (·||·) a b).nx p c) (ys++[c]))/\gj m' (P++(bJ P F ((aE (·||·) a b).nx p c) (ys++[c])).map (·.1)):=by
 by_cases h:(aE (·||·) a b).nx p c∈P++F.map (·.1)
 ·refine ⟨lo, n, q, m, Wt ha hb hp hc ?_, by omega, ?_, ?_⟩
  ·rw [hM.2];exact decide_eq_true h
  ·unfold bJ;rw [if_pos h];exact hv
  ·unfold bJ;rw [if_pos h];exact hM
 ·refine ⟨0, n + 1, _, _, Wu ha hb hp hc ?_ hy hn, Nat.le_refl _, ?_, ?_⟩
  ·rw [hM.2];exact decide_eq_false h
  ·unfold bJ;rw [if_neg h,hv.1];exact lU (by simp [hv.2])
  ·unfold bJ;rw [if_neg h,List.map_append,<-List.append_assoc];exact hM.add _
theorem RP (ha:Wf a) (hb:Wf b) (hp:p∈pairs a b) (hv:Vw lo n q F) (hM:gj m (P++F.map (·.1))) (hy:ys.length<1000000) (hn:n<100000) :
  ∃lo' n' q' m',iter (fun x=>ag (g50_v1_0i_1 x)) (I1 a b lo n 0 m q p ys nc P2 f)=some ((2:Int),(0:Int),(0:Int),a,b,a,b,lo',n',(2:Int),(0:Int),(0:Int),a,b,a,b,m',q',(2:Int),(0:Int),(0:Int),a,b,a,b,nc,P2,f,()) /\
   Vw lo' n' q' (bJ P (bJ P F ((aE (·||·) a b).nx p 0) (ys++[0])) ((aE (·||·) a b).nx p 1) (ys++[1])) /\
   gj m' (P++(bJ P (bJ P F ((aE (·||·) a b).nx p 0) (ys++[0])) ((aE (·||·) a b).nx p 1) (ys++[1])).map (·.1)):=by
 obtain ⟨lo1,n1,q1,m1,h1,h2,h3,h4⟩:=EL (nc:=nc) (P2:=P2) (f:=f) ha hb hp (.inl rfl) hv hM hy (by omega)
 obtain ⟨Wh,n2,q2,m2,g1,g2,g3,g4⟩:=EL (nc:=nc) (P2:=P2) (f:=f) ha hb hp (.inr rfl) h3 h4 hy (by omega)
 exact ⟨Wh,n2,q2,m2,aW h1 (aW g1 (bk Wv)),g3,g4⟩
end
end Go.Proofs.Tryz
end
section
namespace Go.Proofs.Tryz
open Go.AM Go.Rs
set_option maxRecDepth 100000
section
variable {a b:Lw} {lo n:Nat} {m:List ((Int×Int)×Bool)} {q F:List ((Int×Int)×List Int)} {ys:List Int} {P:List (Int×Int)} {f:List ((Int×Int)×Int)}
theorem RQ (ha : Wf a) (hb : Wf b) {p : Int × Int} (hp : p ∈ pairs a b) (hv : Vw lo n q ((p, ys) :: F)) (hM : gj m (P ++ ((p, ys) :: F).map (·.1))) (hf : mN (aE (· || ·) a b).good P f)
  (hy:ys.length<1000000) (hn:n<100000) (hP:P.length<1000000) :
  ∃lo' n' q' m' f',ag (g50_v1_0i_0 (J0 a b lo n m q P.length P f))=some (.inl (J0 a b lo' n' m' q' (P.length+1) (P++[p]) f')) /\
   Vw lo' n' q' (bJ (P++[p]) (bJ (P++[p]) F ((aE (·||·) a b).nx p 0) (ys++[0])) ((aE (·||·) a b).nx p 1) (ys++[1])) /\
   gj m' ((P++[p])++(bJ (P++[p]) (bJ (P++[p]) F ((aE (·||·) a b).nx p 0) (ys++[0])) ((aE (·||·) a b).nx p 1) (ys++[1])).map (·.1)) /\
   mN (aE (·||·) a b).good (P++[p]) f':=by
 obtain ⟨s,t⟩:=p
 obtain ⟨h0,hlt,nU,_⟩:=jk (((0:Int),(0:Int)),[]) hv
 have MO:=ek
 have i0:(0:Int)<((n:Nat):Int):=by omega
 have key:∀f':List ((Int×Int)×Int),∃lo' n' q' m',iter (fun x=>ag (g50_v1_0i_1 x)) (I1 a b lo n 0 m q (s,t) ys (P.length+1) (P++[(s,t)]) f')=some ((2:Int),(0:Int),(0:Int),a,b,a,b,lo',n',(2:Int),(0:Int),(0:Int),a,b,a,b,m',q',(2:Int),(0:Int),(0:Int),a,b,a,b,P.length+1,P++[(s,t)],f',()) /\
   0<n'/\Vw (lo'+1) (n' - 1) q' (bJ (P++[(s,t)]) (bJ (P++[(s,t)]) F ((aE (·||·) a b).nx (s,t) 0) (ys++[0])) ((aE (·||·) a b).nx (s,t) 1) (ys++[1])) /\
   gj m' ((P++[(s,t)])++(bJ (P++[(s,t)]) (bJ (P++[(s,t)]) F ((aE (·||·) a b).nx (s,t) 0) (ys++[0])) ((aE (·||·) a b).nx (s,t) 1) (ys++[1])).map (·.1)):=by
  intro f'
  obtain ⟨lo',n',q',m',h1,h2,h3⟩:=RP (nc:=P.length+1) (P2:=P++[(s,t)]) (f:=f') ha hb hp hv hM hy hn
  rw [j7,j7] at h2 h3
  obtain ⟨k0,k1,k2,k3⟩:=jk (((0:Int),(0:Int)),[]) h2
  exact ⟨lo',n',q',m',h1,k0,k3,by simpa using h3⟩
 have eP:P.take P.length++[(s,t)]=P++[(s,t)]:=by simp
 cases hg:(aE (·||·) a b).good (s,t) with
 |true =>
  obtain ⟨lo',n',q',m',h1,h2,h3,h4⟩:=key (bh tP f (s,t) 1)
  refine ⟨lo'+1,n' - 1,q',m',bh tP f (s,t) 1,?_,h3,h4,hf.yes hg⟩
  simp only [J0,g50_v1_0i_0,ax,az,bq,bz,aS,bC,aa,bw,aF,if_pos i0,Int.toNat_zero,Nat.add_zero,nU,List.getD_cons_zero,List.getD_cons_succ,List.drop_zero,List.take_succ_cons,List.take_zero,List.length_cons,List.length_nil,eP,Nat.zero_add]
  rw [aA (cm (by omega) i0),aL hlt,af (k82 hy),aL (by omega),af (abt ha hb hp)]
  simp only [hg,cQ]
  rw [af h1]
  dsimp only
  rw [aL (by omega),aL (by omega),aL (by omega)]
  rfl
 |false =>
  obtain ⟨lo',n',q',m',h1,h2,h3,h4⟩:=key f
  refine ⟨lo'+1,n' - 1,q',m',f,?_,h3,h4,hf.no hg⟩
  simp only [J0,g50_v1_0i_0,ax,az,bq,bz,aS,bC,aa,bw,aF,if_pos i0,Int.toNat_zero,Nat.add_zero,nU,List.getD_cons_zero,List.getD_cons_succ,List.drop_zero,List.take_succ_cons,List.take_zero,List.length_cons,List.length_nil,eP,Nat.zero_add]
  rw [aA (cm (by omega) i0),aL hlt,af (k82 hy),aL (by omega),af (abt ha hb hp)]
  simp only [hg,aZ]
  rw [af h1]
  dsimp only
  rw [aL (by omega),aL (by omega),aL (by omega)]
  rfl
theorem Ww:ag (g50_v1_0i_0 (J0 a b lo 0 m q n P f))=some (.inr (J9 a b n P f)):=by
 simp only [J0,J9,g50_v1_0i_0,ax,aa,bw,aF]
 rw [if_neg (by simp)]
theorem RR (ha:Wf a) (hb:Wf b) (hU:(pairs a b).length<10000) (k:WS) (hB:BF (aE (·||·) a b) (pairs a b) k.P k.F) (hv:Vw k.lo k.n k.q k.F) (hM:gj k.m (k.P++k.F.map (·.1))) (hf:mN (aE (·||·) a b).good k.P k.f) :
  ∃P f,iter (fun x=>ag (g50_v1_0i_0 x)) (J0 a b k.lo k.n k.m k.q k.P.length k.P k.f)=some (J9 a b P.length P f)/\mM (aE (·||·) a b) (pairs a b) P/\mN (aE (·||·) a b).good P f:=by
 have := dJ (step := fun x => ag (g50_v1_0i_0 x)) (κ := WS) (fun k => J0 a b k.lo k.n k.m k.q k.P.length k.P k.f) (fun k => (pairs a b).length - k.P.length)
  (fun r=>∃P f,r=J9 a b P.length P f/\mM (aE (·||·) a b) (pairs a b) P/\mN (aE (·||·) a b).good P f)
  (fun k=>BF (aE (·||·) a b) (pairs a b) k.P k.F/\Vw k.lo k.n k.q k.F/\gj k.m (k.P++k.F.map (·.1))/\mN (aE (·||·) a b).good k.P k.f) ?_ k ⟨hB,hv,hM,hf⟩
 ·obtain ⟨r,h1,P,f,rfl,h2,h3⟩:=this;exact ⟨P,f,h1,h2,h3⟩
 ·rintro ⟨lo, n, q, F, m, P, f⟩ ⟨hB, hv, hM, hf⟩
  simp only at hB hv hM hf ⊢
  cases F with
  |nil =>
   right
   have:=yI hv
   subst this
   exact ⟨_,Ww,P,f,rfl,hB.done,hf⟩
  |cons e F =>
   obtain ⟨p,ys⟩:=e
   left
   have hp:p∈pairs a b:=hB.sub p (by simp)
   have hl:=hB.len
   have hy:=(hB.reach (p,ys) (by simp)).2.2
   simp only [List.length_cons] at hl
   simp only at hy
   have hn:n=F.length+1:=hv.2.symm
   obtain ⟨lo',n',q',m',f',h1,h2,h3,h4⟩:=RQ ha hb hp hv hM hf (by omega) (by omega) (by omega)
   refine ⟨⟨lo',n',q',_,m',P++[p],f'⟩,?_,⟨hB.round fun c hc=>xW ha hb hp hc,h2,h3,h4⟩,?_⟩
   ·rw [h1];simp
   ·simp only [List.length_append,List.length_cons,List.length_nil];omega
end
end Go.Proofs.Tryz
end
section
namespace Go.Proofs.Tryz
open Go.AM Go.Rs
set_option maxRecDepth 100000
section
variable {a b:Lw} {n:Nat} {i c:Int} {m1 m4:List ((Int×Int)×Int)} {m3:List (K5×Int)} {P:List (Int×Int)} {s t:Int} {b6:List Int}
theorem XV (ha:Wf a) (hb:Wf b) (hp:(s,t)∈pairs a b) (hc:c=0\/c=1) (h6:b6.length=5) :
  ag (gH77_v3_1 (S1 a b n i c m1 m3 m4 [s,t] b6 P))=some (.inl (S1 a b n i (c+1) m1 m3 m4 [s,t] (b6.set (Int.toNat (c+1)) (cT m1 (iL a s c,iL b t c))) P)):=by
 have h2:c<2:=by rcases hc with rfl|rfl<;>decide
 have hr:cP .i64 (c+1)=true:=by rcases hc with rfl|rfl<;>decide
 have hi:gz (c+1) 5=true:=by rcases hc with rfl|rfl<;>decide
 have hl:Int.toNat (c+1)<b6.length:=by rw [h6];rcases hc with rfl|rfl<;>decide
 simp only [S1,gH77_v3_1,ax,az,bq,bz,aS,aa,bw,if_pos h2,aF,List.getD_cons_zero,List.getD_cons_succ]
 rw [aA hr,af (Ss ha hb hp hc),aA hi,aL hl,aA hr]
theorem abu {b5:List Int}:ag (gH77_v3_1 (S1 a b n i 2 m1 m3 m4 b5 b6 P))=some (.inr (n,(n:Int),i,m1,(2:Int),(0:Int),(0:Int),a,b,a,b,m3,m4,b5,b6,P,())):=by
 simp only [S1,gH77_v3_1,ax,az,bq,bz,aS,aa,bw,if_neg (show ¬(2:Int)<2 by decide),aF]
theorem abv (ha:Wf a) (hb:Wf b) (hp:(s,t)∈pairs a b) :
  iter (fun x=>ag (gH77_v3_1 x)) (S1 a b n i 0 m1 m3 m4 [s,t] [cT m1 (s,t),0,0,0,0] P) =
   some (n,(n:Int),i,m1,(2:Int),(0:Int),(0:Int),a,b,a,b,m3,m4,[s,t],[cT m1 (s,t),cT m1 (iL a s 0,iL b t 0),cT m1 (iL a s 1,iL b t 1),0,0],P,()) :=
 aW (XV ha hb hp (.inl rfl) rfl) (aW (XV ha hb hp (.inr rfl) rfl) (bk abu))
theorem agW (ha : Wf a) (hb : Wf b) {k : Nat} (hn : n = P.length) (hP : P.length < 100000) (hk : k < P.length) (hp : P.getD k (0, 0) ∈ pairs a b) {g : Bool → Bool → Bool}
  (h:vO (qX g a b m1) (P.take k) m3 m4):∃Wk Wl,ag (gH77_v3_0 (S0 a b n k m1 m3 m4 P))=some (.inl (S0 a b n ((k+1:Nat):Int) m1 Wk Wl P))/\vO (qX g a b m1) (P.take (k+1)) Wk Wl:=by
 have h1:((k:Nat):Int)<((n:Nat):Int):=by omega
 have h2:gz ((k:Nat):Int) ((n:Nat):Int)=true:=cm (by omega) h1
 have h3:(0:Nat)+Int.toNat ((k:Nat):Int)<P.length:=by simp;exact hk
 have e4:(0:Nat)+Int.toNat ((k:Nat):Int)=k:=by simp
 have hr:cP .i64 (((k:Nat):Int)+1)=true:=bL (by omega) (by omega)
 have Yo:P.take (k+1)=P.take k++[P.getD k (0,0)]:=dN (0,0) hk
 generalize hs:P.getD k (0,0)=st at hp Yo
 obtain ⟨s,t⟩:=st
 rw [Yo]
 have hin:=abv (n:=n) (i:=((k:Nat):Int)) (m1:=m1) (m3:=m3) (m4:=m4) (P:=P) ha hb hp
 cases hh:bT tK m3 (qX g a b m1 (s,t)) with
 |true =>
  refine ⟨m3,_,?_,h.old hh⟩
  have hh':bT (.prod (.int .i64) (.prod (.int .i64) (.prod (.int .i64) (.prod (.int .i64) (.int .i64))))) m3 (cT m1 (s,t),cT m1 (iL a s 0,iL b t 0),cT m1 (iL a s 1,iL b t 1),0,0)=true:=hh
  simp only [S0,gH77_v3_0,ax,az,xM,bq,bz,aS,bC,aa,bw,if_pos h1,aF,e4,hs,List.getD_cons_zero,List.getD_cons_succ]
  rw [aA h2,aL hk,af hin]
  simp only [List.getD_cons_zero,List.getD_cons_succ,hh',Bool.not_true,aZ,bg,TP]
  rw [aA hr]
  rfl
 |false =>
  refine ⟨_,_,?_,h.new hh⟩
  have hh':bT (.prod (.int .i64) (.prod (.int .i64) (.prod (.int .i64) (.prod (.int .i64) (.int .i64))))) m3 (cT m1 (s,t),cT m1 (iL a s 0,iL b t 0),cT m1 (iL a s 1,iL b t 1),0,0)=false:=hh
  simp only [S0,gH77_v3_0,ax,az,xM,bq,bz,aS,bC,aa,bw,if_pos h1,aF,e4,hs,List.getD_cons_zero,List.getD_cons_succ]
  rw [aA h2,aL hk,af hin]
  simp only [List.getD_cons_zero,List.getD_cons_succ,hh',Bool.not_false,cQ,bg,TP]
  rw [aA hr]
  rfl
theorem agX (hn:n=P.length):ag (gH77_v3_0 (S0 a b n (n:Int) m1 m3 m4 P))=some (.inr (m3,m4,m1,P,())):=by
 simp only [S0,gH77_v3_0,ax,aa,bw]
 rw [if_neg (by omega)]
theorem agY (ha:Wf a) (hb:Wf b) (hP:P.length<100000) (hp:∀s∈P,s∈pairs a b) (g:Bool->Bool->Bool) :
  ∃m3 m4,ag (FH77_v3 2 0 0 a b a b P.length P m1)=some ((m3.length:Int),m4,m1,P,())/\vO (qX g a b m1) P m3 m4:=by
 have := dJ (step := fun x => ag (gH77_v3_0 x)) (κ := Nat × List (K5 × Int) × List ((Int × Int) × Int)) (fun k => S0 a b P.length (k.1 : Int) m1 k.2.1 k.2.2 P) (fun k => P.length - k.1)
  (fun r=>∃m3 m4,r=(m3,m4,m1,P,())/\vO (qX g a b m1) P m3 m4) (fun k=>k.1<=P.length/\vO (qX g a b m1) (P.take k.1) k.2.1 k.2.2) ?_ (0,[],[]) ⟨Nat.zero_le _,vO.nil⟩
 ·obtain ⟨r, h1, m3, m4, rfl, h2⟩ := this
  refine ⟨m3,m4,?_,h2⟩
  have Cr:iter (fun x=>ag (gH77_v3_0 x)) (P.length,((P.length:Nat):Int),(0:Int),m1,(2:Int),(0:Int),(0:Int),a,b,a,b,[],[],P,())=some (m3,m4,m1,P,()):=h1
  simp only [FH77_v3,az,bC,aa,aF]
  rw [af Cr]
 ·rintro ⟨k, m3, m4⟩ ⟨hk, h⟩
  simp only at hk h ⊢
  rcases Nat.lt_or_ge k P.length with hlt|hge
  ·left
   obtain ⟨Wk,Wl,h1,h2⟩:=agW ha hb rfl hP hlt (hp _ (jA hlt)) h
   exact ⟨(k+1,Wk,Wl),h1,⟨hlt,h2⟩,by simp only;omega⟩
  ·right
   have:k=P.length:=by omega
   subst this
   rw [List.take_length] at h
   exact ⟨_,agX rfl,m3,m4,rfl,h⟩
end
end Go.Proofs.Tryz
end
section
namespace Go.Proofs.Tryz
open Go.AM Go.Rs
set_option maxRecDepth 100000
section
variable {a b:Lw} {P:List (Int×Int)} {f:List ((Int×Int)×Int)} {g:Bool->Bool->Bool}
theorem RS (ha:Wf a) (hb:Wf b) (hU:(pairs a b).length<10000) (hd:mM (aE g a b) (pairs a b) P) (hf:mN (aE g a b).good P f) :
  ∃f',iter (fun x=>ag (g50_v1_1 x)) (C0 a b 0 P f)=some ((2:Int),(0:Int),(0:Int),a,b,a,b,P.length,P,f',())/\FN (aE g a b) P (cT f'):=by
 have hPl:P.length<=(pairs a b).length:=kH hd.nd hd.sub
 have p0:=hd.ug
 have := dJ (step := fun x => ag (g50_v1_1 x)) (κ := Nat × List ((Int × Int) × Int)) (fun k => C0 a b (k.1 : Int) P k.2) (fun k => P.length - k.1)
  (fun r=>∃f',r=((2:Int),(0:Int),(0:Int),a,b,a,b,P.length,P,f',())/\FN (aE g a b) P (cT f'))
  (fun k=>(k.1=0\/Nj P (cT k.2) k.1)/\k.1<=P.length/\∀s∈P,∀t∈P,cT k.2 s=cT k.2 t->(aE g a b).good s=(aE g a b).good t) ?_ (0,f) ⟨.inl rfl,Nat.zero_le _,fun s hs t ht e=>?_⟩
 ·obtain ⟨r,h1,f',rfl,h2⟩:=this;exact ⟨f',h1,h2⟩
 ·rintro ⟨n, f⟩ ⟨h1, h2, h3⟩
  simp only at h1 h2 h3 ⊢
  obtain ⟨m3,m4,e1,hs⟩:=agY (m1:=f) ha hb (by omega) hd.sub g
  have hc:=hs.cls
  have hpos:=J7 hc p0
  have hr:∀s∈P,∀t∈P,cT m4 s=cT m4 t->cT f s=cT f t:=fun s hs' t ht e=>congrArg (·.1) ((hs.iff hs' ht).1 e)
  have hrun:ag (g50_v1_1 (C0 a b (n:Int) P f))=vq ((m3.length:Int)==(n:Int)) (some (.inr ((2:Int),(0:Int),(0:Int),a,b,a,b,P.length,P,m4,()))) (some (.inl (C0 a b (m3.length:Int) P m4))):=by
   simp only [C0,g50_v1_1,az,ax,aa,aF]
   rw [af e1]
  rw [hrun]
  by_cases e:m3.length=n
  ·right
   subst e
   refine ⟨_,by simp,m4,rfl,?_⟩
   rcases h1 with h1|h1
   ·omega
   ·exact II ((aE g a b).st) hd.closed h1 hc (fun s hs' t ht=>(hs.iff hs' ht).trans EK) h3
  ·left
   have hle:n<=m3.length:=by
    rcases h1 with h1|h1
    ·omega
    ·exact PF ((aE g a b).st) h1 hc hr
   have hlen:=hs.len
   have hne:((m3.length:Int)==(n:Int))=false:=by simp;omega
   refine ⟨(m3.length,m4),by rw [hne,aZ],⟨.inr hc,hlen,fun s hs' t ht e=>h3 s hs' t ht (hr s hs' t ht e)⟩,by simp only;omega⟩
 ·simp only [cT, hf.2] at e
  by_cases h1:(aE g a b).good s=true<;>by_cases h2:(aE g a b).good t=true
  ·rw [h1,h2]
  ·rw [if_pos ⟨hs,h1⟩,if_neg (fun h=>h2 h.2)] at e;cases e
  ·rw [if_neg (fun h=>h1 h.2),if_pos ⟨ht,h2⟩] at e;cases e
  ·simp at h1 h2;rw [h1,h2]
theorem Wx (hP:P.length<100000) (k:Int):∃m,iter (fun x=>ag (g50_v1_2 x)) (O0 a b P.length 0 k P f [])=some ((2:Int),(0:Int),(0:Int),a,b,a,b,(2:Int),k,f,m,())/\Su f P P m:=by
 have := dJ (step := fun x => ag (g50_v1_2 x)) (κ := Nat × List (Int × Int × Int)) (fun j => O0 a b P.length (j.1 : Int) k P f j.2) (fun j => P.length - j.1)
  (fun r=>∃m,r=((2:Int),(0:Int),(0:Int),a,b,a,b,(2:Int),k,f,m,())/\Su f P P m) (fun j=>j.1<=P.length/\Su f P (P.take j.1) j.2) ?_ (0,[]) ⟨Nat.zero_le _,jc,fun k=>by simp [bT],by simp⟩
 ·obtain ⟨r,h1,m,rfl,h2⟩:=this;exact ⟨m,h1,h2⟩
 ·rintro ⟨i, m⟩ ⟨hi, h⟩
  simp only at hi h ⊢
  rcases Nat.lt_or_ge i P.length with hlt|hge
  ·left
   have h1:((i:Nat):Int)<((P.length:Nat):Int):=by omega
   have e4:(0:Nat)+Int.toNat ((i:Nat):Int)=i:=by simp
   have hr:cP .i64 (((i:Nat):Int)+1)=true:=bL (by omega) (by omega)
   have hst:=J8 h (jA (d:=(0,0)) hlt)
   rw [<-dN (0,0) hlt] at hst
   refine ⟨(i+1,_),?_,⟨hlt,hst⟩,by simp only;omega⟩
   generalize hs:P.getD i (0,0)=st
   obtain ⟨s,t⟩:=st
   simp only [O0,g50_v1_2,ax,az,bq,bz,aS,aa,bw,if_pos h1,aF,e4,hs,List.getD_cons_zero,List.getD_cons_succ]
   rw [aA (cm (by omega) h1),aL hlt]
   cases hh:bT (.int .i64) (β:=Int×Int) m (cT f (s,t)) with
   |true =>
    simp only [hh,Bool.not_true,aZ,aA hr,if_true]
    rfl
   |false =>
    simp only [hh,Bool.not_false,cQ,aA hr]
    rfl
  ·right
   have:i=P.length:=by omega
   subst this
   rw [List.take_length] at h
   refine ⟨_,?_,m,rfl,h⟩
   simp only [O0,g50_v1_2,ax,aa,bw,aF]
   rw [if_neg (by omega)]
end
end Go.Proofs.Tryz
end
section
namespace Go.Proofs.Tryz
open Go.AM Go.Rs
set_option maxRecDepth 100000
structure iG (a b:Lw) (P:List (Int×Int)) (f:List ((Int×Int)×Int)) (m:List (Int×Int×Int)):Prop where
 ha:Wf a
 hb:Wf b
 sub:∀s∈P,s∈pairs a b
 cl:∀s∈P,∀c,c=0\/c=1->(aE (·||·) a b).nx s c∈P
 on:Su f P P m
@[reducible] def lE (a b:Lw) (f:List ((Int×Int)×Int)) (m:List (Int×Int×Int)):Rs.Sys Int:=mrg (aE (·||·) a b) (cT f) (sP m)
section
variable {a b:Lw} {P:List (Int×Int)} {f:List ((Int×Int)×Int)} {mo:List (Int×Int×Int)} {k c:Int}
theorem iG.one (h:iG a b P f mo) (hk:k∈P.map (cT f)):sP mo k∈P/\cT f (sP mo k)=k:=by
 obtain ⟨s,hs,rfl⟩:=List.mem_map.1 hk
 exact h.on.one s hs
theorem iG.nx (h:iG a b P f mo) (hk:k∈P.map (cT f)) (hc:c=0\/c=1):(lE a b f mo).nx k c∈P.map (cT f) :=
 List.mem_map.2 ⟨_,h.cl _ (h.one hk).1 c hc,rfl⟩
theorem abw (h:iG a b P f mo) (hk:k∈P.map (cT f)) (hc:c=0\/c=1):ag (FH78_v1 k c 2 0 0 a b a b f mo)=some ((lE a b f mo).nx k c,f,(2:Int),(0:Int),(0:Int),a,b,a,b,mo,()):=by
 have hp:=h.sub _ (h.one hk).1
 simp only [FH78_v1,az,aa,aF]
 generalize hg:sP mo k=st at hp
 obtain ⟨s,t⟩:=st
 have hg':aN (.int .i64) ((0:Int),(0:Int)) mo k=(s,t):=hg
 rw [hg',af (Ss h.ha h.hb hp hc)]
 show some (cT f (iL a s c,iL b t c),_)=some (cT f ((aE (·||·) a b).nx (sP mo k) c),_)
 rw [hg];rfl
theorem agZ (h:iG a b P f mo) (hk:k∈P.map (cT f)) (hc:c=0\/c=1):ag (vK k c 2 0 0 a b a b f mo)=some ((lE a b f mo).nx k c,()):=by
 simp only [vK,az,aa]
 rw [af (abw h hk hc)]
theorem ag0 (h:iG a b P f mo) (hk:k∈P.map (cT f)):ag (vL k 2 0 0 a b a b mo)=some ((lE a b f mo).good k,()):=by
 have hp:=h.sub _ (h.one hk).1
 simp only [vL,FH79_v1,az,aa,aF]
 generalize hg:sP mo k=st at hp
 obtain ⟨s,t⟩:=st
 have hg':aN (.int .i64) ((0:Int),(0:Int)) mo k=(s,t):=hg
 rw [hg',af (abt h.ha h.hb hp),bg]
 show some ((aE (·||·) a b).good (s,t),())=some ((aE (·||·) a b).good (sP mo k),())
 rw [hg]
end
section
variable {a b:Lw} {P:List (Int×Int)} {f:List ((Int×Int)×Int)} {mo:List (Int×Int×Int)} {k c st:Int} {lo n n7 n9:Nat} {m:List (Int×Bool)} {q F:List (Int×List Int)} {ys:List Int} {lP:List (List Int)} {lQ:List (Int×Int)} {lR P2:List Int}
theorem Wy (h:iG a b P f mo) (hk:k∈P.map (cT f)) (hc:c=0\/c=1) (hm:aN (.int .i64) false m ((lE a b f mo).nx k c)=true) :
  ag (gH80_v1_0i_1 (T1 a b f mo st lo n c m q k ys n7 n9 lP lQ lR))=some (.inl (T1 a b f mo st lo n (c+1) m q k ys n7 n9 lP lQ lR)):=by
 have h2:c<2:=by rcases hc with rfl|rfl<;>decide
 have hr:cP .i64 (c+1)=true:=by rcases hc with rfl|rfl<;>decide
 simp only [T1,gH80_v1_0i_1,ax,az,bq,aS,aa,bw,if_pos h2,aF]
 rw [af (abw h hk hc)]
 simp only [hm,Bool.not_true,aZ,aA hr]
theorem Wz (h:iG a b P f mo) (hk:k∈P.map (cT f)) (hc:c=0\/c=1) (hm:aN (.int .i64) false m ((lE a b f mo).nx k c)=false) (hy:ys.length<1000000) (hn:n<1000000) :
  ag (gH80_v1_0i_1 (T1 a b f mo st lo n c m q k ys n7 n9 lP lQ lR))=some (.inl (T1 a b f mo st 0 (n+1) (c+1) (bh (.int .i64) m ((lE a b f mo).nx k c) true) ((q.drop lo).take n++[((lE a b f mo).nx k c,ys++[c])]) k ys n7 n9 lP lQ lR)):=by
 have h2:c<2:=by rcases hc with rfl|rfl<;>decide
 have hr:cP .i64 (c+1)=true:=by rcases hc with rfl|rfl<;>decide
 have MO:=ek
 simp only [T1,gH80_v1_0i_1,ax,az,bq,aS,aa,bw,if_pos h2,aF]
 rw [af (abw h hk hc)]
 simp only [hm,Bool.not_false,cQ]
 rw [af (k83 ys)]
 have e1:(ys++((([c]).drop 0).take 1)).drop 0=ys++[c]:=by simp
 have e2:(ys++[c]).take (ys.length+(0+1))=ys++[c]:=List.take_of_length_le (by simp)
 simp only [e1,List.drop_zero,List.take_succ_cons,List.take_zero,List.length_cons,List.length_nil,e2]
 rw [aL (by omega),aL (by omega),aL (by omega),aA hr]
theorem WA:ag (gH80_v1_0i_1 (T1 a b f mo st lo n 2 m q k ys n7 n9 lP lQ lR))=some (.inr (T1e a b f mo st lo n m q n7 n9 lP lQ lR)):=by
 simp only [T1,T1e,gH80_v1_0i_1,ax,az,bq,aS,aa,bw,if_neg (show ¬(2:Int)<2 by decide),aF]
theorem EM (h:iG a b P f mo) (hk:k∈P.map (cT f)) (hc:c=0\/c=1) (hv:Vw lo n q F) (hM:kN m (P2++F.map (·.1))) (hy:ys.length<1000000) (hn:n<1000000) :
  ∃lo' n' q' m',ag (gH80_v1_0i_1 (T1 a b f mo st lo n c m q k ys n7 n9 lP lQ lR))=some (.inl (T1 a b f mo st lo' n' (c+1) m' q' k ys n7 n9 lP lQ lR))/\n'<=n+1 /\
   Vw lo' n' q' (bJ P2 F ((lE a b f mo).nx k c) (ys++[c]))/\kN m' (P2++(bJ P2 F ((lE a b f mo).nx k c) (ys++[c])).map (·.1)):=by
 by_cases hx:(lE a b f mo).nx k c∈P2++F.map (·.1)
 ·refine ⟨lo, n, q, m, Wy h hk hc ?_, by omega, ?_, ?_⟩
  ·rw [hM.2];exact decide_eq_true hx
  ·unfold bJ;rw [if_pos hx];exact hv
  ·unfold bJ;rw [if_pos hx];exact hM
 ·refine ⟨0, n + 1, _, _, Wz h hk hc ?_ hy hn, Nat.le_refl _, ?_, ?_⟩
  ·rw [hM.2];exact decide_eq_false hx
  ·unfold bJ;rw [if_neg hx,hv.1];exact lU (by simp [hv.2])
  ·unfold bJ;rw [if_neg hx,List.map_append,<-List.append_assoc];exact hM.add _
theorem RT (h:iG a b P f mo) (hk:k∈P.map (cT f)) (hv:Vw lo n q F) (hM:kN m (P2++F.map (·.1))) (hy:ys.length<1000000) (hn:n<100000) :
  ∃lo' n' q' m',iter (fun x=>ag (gH80_v1_0i_1 x)) (T1 a b f mo st lo n 0 m q k ys n7 n9 lP lQ lR)=some (T1e a b f mo st lo' n' m' q' n7 n9 lP lQ lR) /\
   Vw lo' n' q' (bJ P2 (bJ P2 F ((lE a b f mo).nx k 0) (ys++[0])) ((lE a b f mo).nx k 1) (ys++[1])) /\
   kN m' (P2++(bJ P2 (bJ P2 F ((lE a b f mo).nx k 0) (ys++[0])) ((lE a b f mo).nx k 1) (ys++[1])).map (·.1)):=by
 obtain ⟨lo1,n1,q1,m1,h1,h2,h3,h4⟩:=EM (st:=st) (n7:=n7) (n9:=n9) (lP:=lP) (lQ:=lQ) (lR:=lR) h hk (.inl rfl) hv hM hy (by omega)
 obtain ⟨Wh,n2,q2,m2,g1,g2,g3,g4⟩:=EM (st:=st) (n7:=n7) (n9:=n9) (lP:=lP) (lQ:=lQ) (lR:=lR) h hk (.inr rfl) h3 h4 hy (by omega)
 exact ⟨Wh,n2,q2,m2,aW h1 (aW g1 (bk WA)),g3,g4⟩
end
end Go.Proofs.Tryz
end
section
namespace Go.Proofs.Tryz
open Go.AM Go.Rs
set_option maxRecDepth 100000
section
variable {a b:Lw} {P:List (Int×Int)} {f:List ((Int×Int)×Int)} {mo:List (Int×Int×Int)} {k c st:Int} {lo n:Nat} {m:List (Int×Bool)} {q F:List (Int×List Int)} {ys:List Int} {iI:List (List Int)} {kU:List (Int×Int)} {P2:List Int}
theorem RU (h : iG a b P f mo) (hk : k ∈ P.map (cT f)) (hv : Vw lo n q ((k, ys) :: F)) (hM : kN m (P2 ++ ((k, ys) :: F).map (·.1))) (hN : qY kU P2) (hkn : k ∉ P2) (RN : iI.length = P2.length)
  (hy:ys.length<1000000) (hn:n<100000) (hP:P2.length<1000000) :
  ∃lo' n' q' m' RO,ag (gH80_v1_0i_0 (T0 a b f mo st lo n m q P2.length P2.length iI kU P2))=some (.inl (T0 a b f mo st lo' n' m' q' (P2.length+1) (P2.length+1) RO (bh (.int .i64) kU k (P2.length:Int)) (P2++[k])))/\RO.length=P2.length+1 /\
   Vw lo' n' q' (bJ (P2++[k]) (bJ (P2++[k]) F ((lE a b f mo).nx k 0) (ys++[0])) ((lE a b f mo).nx k 1) (ys++[1])) /\
   kN m' ((P2++[k])++(bJ (P2++[k]) (bJ (P2++[k]) F ((lE a b f mo).nx k 0) (ys++[0])) ((lE a b f mo).nx k 1) (ys++[1])).map (·.1)):=by
 obtain ⟨h0,hlt,nU,_⟩:=jk ((0:Int),[]) hv
 have MO:=ek
 have i0:(0:Int)<((n:Nat):Int):=by omega
 obtain ⟨lo',n',q',m',h1,h2,h3⟩:=RT (st:=st) (n7:=P2.length+1) (n9:=P2.length+1) (lP:=iI++[ys]) (lQ:=bh (.int .i64) kU k (P2.length:Int)) (lR:=P2++[k]) h hk hv hM hy hn
 rw [pG,pG] at h2 h3
 obtain ⟨k0,k1,k2,k3⟩:=jk ((0:Int),[]) h2
 refine ⟨lo'+1,n' - 1,q',m',iI++[ys],?_,by simp [RN],k3,by simpa using h3⟩
 have eP:P2.take P2.length++[k]=P2++[k]:=by simp
 have eB:iI.take P2.length++[ys]=iI++[ys]:=by rw [<-RN];simp
 simp only [T0,gH80_v1_0i_0,ax,az,bq,bz,aS,bC,aa,bw,aF,if_pos i0,Int.toNat_zero,Nat.add_zero,nU]
 rw [aA (cm (by omega) i0),aL hlt,af (k82 hy)]
 simp only [List.drop_zero,List.take_succ_cons,List.take_zero,List.length_cons,List.length_nil,eP,eB,Nat.zero_add]
 rw [aL (by omega),aL (by omega),af h1]
 dsimp only
 rw [aL (by omega),aL (by omega),aL (by omega)]
 rfl
theorem WB {n7 n9:Nat}:ag (gH80_v1_0i_0 (T0 a b f mo st lo 0 m q n7 n9 iI kU P2))=some (.inr (T9 a b f mo st n7 n9 iI kU P2)):=by
 simp only [T0,T9,gH80_v1_0i_0,ax,aa,bw,aF]
 rw [if_neg (by simp)]
theorem RW (h:iG a b P f mo) (hU:P.length<10000) (k:WT) (hB:BF (lE a b f mo) (P.map (cT f)) k.P k.F) (hv:Vw k.lo k.n k.q k.F) (hM:kN k.m (k.P++k.F.map (·.1))) (hN:qY k.f k.P) (hb:k.b.length=k.P.length) :
  ∃P2 iI kU,iter (fun x=>ag (gH80_v1_0i_0 x)) (T0 a b f mo st k.lo k.n k.m k.q k.P.length k.P.length k.b k.f k.P)=some (T9 a b f mo st P2.length P2.length iI kU P2)/\mM (lE a b f mo) (P.map (cT f)) P2/\qY kU P2:=by
 have := dJ (step := fun x => ag (gH80_v1_0i_0 x)) (κ := WT) (fun k => T0 a b f mo st k.lo k.n k.m k.q k.P.length k.P.length k.b k.f k.P) (fun k => P.length - k.P.length)
  (fun r=>∃P2 iI kU,r=T9 a b f mo st P2.length P2.length iI kU P2/\mM (lE a b f mo) (P.map (cT f)) P2/\qY kU P2)
  (fun k=>BF (lE a b f mo) (P.map (cT f)) k.P k.F/\Vw k.lo k.n k.q k.F/\kN k.m (k.P++k.F.map (·.1))/\qY k.f k.P/\k.b.length=k.P.length) ?_ k ⟨hB,hv,hM,hN,hb⟩
 ·obtain ⟨r,h1,P2,iI,kU,rfl,h2,h3⟩:=this;exact ⟨P2,iI,kU,h1,h2,h3⟩
 ·rintro ⟨lo, n, q, F, m, P2, iI, kU⟩ ⟨hB, hv, hM, hN, hb⟩
  simp only at hB hv hM hN hb ⊢
  cases F with
  |nil =>
   right
   have:=yI hv
   subst this
   exact ⟨_,WB,P2,iI,kU,rfl,hB.done,hN⟩
  |cons e F =>
   obtain ⟨p,ys⟩:=e
   left
   have hp:p∈P.map (cT f):=hB.sub p (by simp)
   have hl:=hB.len
   have hy:=(hB.reach (p,ys) (by simp)).2.2
   simp only [List.length_cons,List.length_map] at hl
   simp only at hy
   have hn:n=F.length+1:=hv.2.symm
   have hkn:p∉P2:=fun hm=>by
    have:=hB.nd
    rw [List.nodup_append] at this
    exact this.2.2 p hm p (by simp) rfl
   obtain ⟨lo',n',q',m',b',h1,h2,h3,h4⟩:=RU (st:=st) h hp hv hM hN hkn hb (by omega) (by omega) (by omega)
   refine ⟨⟨lo',n',q',_,m',P2++[p],b',bh (.int .i64) kU p (P2.length:Int)⟩,?_,⟨hB.round fun c hc=>h.nx hp hc,h3,h4,hN.add hkn,by simp [h2]⟩,?_⟩
   ·rw [h1];simp
   ·simp only [List.length_append,List.length_cons,List.length_nil];omega
end
end Go.Proofs.Tryz
end
section
namespace Go.Proofs.Tryz
open Go.AM Go.Rs
set_option maxRecDepth 100000
section
variable {a b:Lw} {P:List (Int×Int)} {f:List ((Int×Int)×Int)} {mo:List (Int×Int×Int)} {k c st i:Int} {nv n n6 MP n7:Nat} {row P2:List Int} {oM qQ:List (List Int)} {oN:List Bool} {num:List (Int×Int)}
theorem EN (h:iG a b P f mo) (hk:k∈P.map (cT f)) (hc:c=0\/c=1) (hr:row.length=nv) (hn:nv<100) :
  ag (gH80_v1_2 (R2 a b f mo st k nv n i c n6 MP n7 row P2 oM oN qQ num))=some (.inl (R2 a b f mo st k (nv+1) n i (c+1) n6 MP n7 (row++[nL num ((lE a b f mo).nx k c)]) P2 oM oN qQ num)):=by
 have h2:c<2:=by rcases hc with rfl|rfl<;>decide
 have Sh:cP .i64 (c+1)=true:=by rcases hc with rfl|rfl<;>decide
 have MO:=ek
 simp only [R2,gH80_v1_2,ax,az,bq,aS,aa,bw,if_pos h2,aF]
 rw [af (agZ h hk hc)]
 have e:row.take nv=row:=by rw [<-hr];simp
 simp only [List.drop_zero,List.take_succ_cons,List.take_zero,List.length_cons,List.length_nil,e]
 rw [aL (by omega),aA Sh]
theorem RX (h:iG a b P f mo) (hk:k∈P.map (cT f)) :
  iter (fun x=>ag (gH80_v1_2 x)) (R2 a b f mo st k 0 n i 0 n6 MP n7 [] P2 oM oN qQ num) =
   some (k,2,n,(n:Int),i,(2:Int),st,n6,MP,n7,[nL num ((lE a b f mo).nx k 0),nL num ((lE a b f mo).nx k 1)],P2,f,(2:Int),(0:Int),(0:Int),a,b,a,b,mo,oM,oN,qQ,num,()):=by
 refine aW (EN h hk (.inl rfl) rfl (by omega)) (aW (EN h hk (.inr rfl) rfl (by omega)) (bk ?_))
 have:¬((0:Int)+1+1<2):=by decide
 simp only [R2,gH80_v1_2,ax,aa,bw,aF]
 rw [if_neg this]
 rfl
theorem RY (h:iG a b P f mo) {j:Nat} (hj:j<P2.length) (hP:P2.length<100000) (hs:∀x∈P2,x∈P.map (cT f)) (h11:oM.length=j) (h12:oN.length=j) :
  ag (gH80_v1_1 (R1 a b f mo st P2.length (j : Int) j j n7 P2 oM oN qQ num)) = some (.inl (R1 a b f mo st P2.length ((j + 1 : Nat) : Int) (j + 1) (j + 1) n7 P2
   (oM++[[nL num ((lE a b f mo).nx (P2.getD j 0) 0),nL num ((lE a b f mo).nx (P2.getD j 0) 1)]]) (oN++[(lE a b f mo).good (P2.getD j 0)]) qQ num)):=by
 have h1:((j:Nat):Int)<((P2.length:Nat):Int):=by omega
 have e4:(0:Nat)+Int.toNat ((j:Nat):Int)=j:=by simp
 have hr:cP .i64 (((j:Nat):Int)+1)=true:=bL (by omega) (by omega)
 have MO:=ek
 have hk:P2.getD j 0∈P.map (cT f):=hs _ (jA hj)
 simp only [R1,gH80_v1_1,ax,az,bq,bz,aS,bC,aa,bw,if_pos h1,aF,e4]
 generalize P2.getD j 0=k at hk
 rw [aA (cm (by omega) h1),aL hj,af (RX h hk)]
 have e1:oM.take j=oM:=by rw [<-h11];simp
 have e2:oN.take j=oN:=by rw [<-h12];simp
 simp only [List.drop_zero,List.take_succ_cons,List.take_zero,List.length_cons,List.length_nil,e1,e2]
 rw [aL (by omega),af (ag0 h hk),aL (by omega),aA hr]
 rfl
theorem RZ (h:iG a b P f mo) (hP:P2.length<100000) (hs:∀x∈P2,x∈P.map (cT f)) :
  iter (fun x=>ag (gH80_v1_1 x)) (R1 a b f mo st P2.length 0 0 0 n7 P2 [] [] qQ num) =
   some (P2.length,P2.length,n7,f,(2:Int),(0:Int),(0:Int),a,b,a,b,mo,(c8 (lE a b f mo) P2 (nL num)).1,(c8 (lE a b f mo) P2 (nL num)).2,qQ,()):=by
 have := dJ (step := fun x => ag (gH80_v1_1 x)) (κ := Nat) (fun j => R1 a b f mo st P2.length (j : Int) j j n7 P2 (c8 (lE a b f mo) (P2.take j) (nL num)).1 (c8 (lE a b f mo) (P2.take j) (nL num)).2 qQ num) (fun j => P2.length - j)
  (fun r=>r=(P2.length,P2.length,n7,f,(2:Int),(0:Int),(0:Int),a,b,a,b,mo,(c8 (lE a b f mo) P2 (nL num)).1,(c8 (lE a b f mo) P2 (nL num)).2,qQ,())) (fun j=>j<=P2.length) ?_ 0 (Nat.zero_le _)
 ·obtain ⟨r,h1,rfl⟩:=this;exact h1
 ·intro j hj
  rcases Nat.lt_or_ge j P2.length with hlt|hge
  ·left
   refine ⟨j+1,?_,hlt,by omega⟩
   rw [RY h hlt hP hs (by simp [c8];omega) (by simp [c8];omega)]
   rw [dN 0 hlt]
   simp [c8]
  ·right
   have:j=P2.length:=by omega
   subst this
   refine ⟨_,?_,rfl⟩
   simp only [R1,gH80_v1_1,ax,aa,bw,aF,List.take_length]
   rw [if_neg (by omega)]
theorem ag1 (h:iG a b P f mo) (hP:P.length<10000) (hst:st∈P.map (cT f)) (hs:st=(lE a b f mo).st) :
  ∃P2 num iI,ag (FH80_v1 2 st 2 0 0 a b a b f mo)=some (P2.length,P2.length,P2.length,(c8 (lE a b f mo) P2 (nL num)).1,(c8 (lE a b f mo) P2 (nL num)).2,iI,f,(2:Int),(0:Int),(0:Int),a,b,a,b,mo,()) /\
   mM (lE a b f mo) (P.map (cT f)) P2/\qY num P2:=by
 have hM:kN (bh (.int .i64) [] st true) ([]++[(st,([]:List Int))].map (·.1)):=by
  have:kN [] []:=⟨jc,fun s=>by simp [aN]⟩
  exact this.add st
 obtain ⟨P2,iI,num,h1,h2,h3⟩:=RW (st:=st) h hP ⟨0,1,[(st,[])],[(st,[])],bh (.int .i64) [] st true,[],[],[]⟩ (by rw [hs];exact BF.start (by rw [<-hs];exact hst)) (lU rfl) hM ⟨jc,by simp⟩ rfl
 refine ⟨P2,num,iI,?_,h2,h3⟩
 have hl:P2.length<=P.length:=by have:=kH h2.nd h2.sub;simpa using this
 simp only [FH80_v1,FH99_v1,gH80_v1_0,az,bC,aa,bg,aF]
 have Cr:iter (fun x=>ag (gH80_v1_0i_0 x)) (0,1,(2:Int),st,bh (.int .i64) [] st true,[(st,[])],(2:Int),st,f,(2:Int),(0:Int),(0:Int),a,b,a,b,mo,0,0,[],[],[],())=some (T9 a b f mo st P2.length P2.length iI num P2):=h1
 rw [af Cr]
 simp only [T9,bg,aF]
 rw [af (RZ h (by omega) h2.sub)]
end
end Go.Proofs.Tryz
end
section
namespace Go.Proofs.Tryz
open Go.AM Go.Rs
set_option maxRecDepth 100000
section
variable {a b l:Lw}
theorem k37E (ha:Wf a):ag (F37_v1 a b (0,0))=some (2,0,0,a,b,a,b,()):=by
 simp only [F37_v1,az,aa,aF]
 rw [af (XU ha)]
 rfl
theorem k50E (ha:Wf a) (hb:Wf b) (hU:(pairs a b).length<10000):∃l s,ag (F50_v1 2 0 0 a b a b)=some (l,s,())/\Fits (aE (·||·) a b) l:=by
 have hM:gj (bh tP [] ((0:Int),(0:Int)) true) ([]++[(((0:Int),(0:Int)),([]:List Int))].map (·.1)):=by
  have:gj [] []:=⟨jc,fun s=>by simp [aN]⟩
  exact this.add (0,0)
 obtain ⟨P,f0,h1,hd,hf⟩:=RR ha hb hU ⟨0,1,[((0,0),[])],[((0,0),[])],bh tP [] ((0:Int),(0:Int)) true,[],[]⟩ (BF.start (xX ha hb)) (lU rfl) hM ⟨jc,fun s=>by simp [aN]⟩
 obtain ⟨f,h2,hs⟩:=RS ha hb hU hd hf
 have hPl:P.length<=(pairs a b).length:=kH hd.nd hd.sub
 obtain ⟨mo,h3,hon⟩:=Wx (a:=a) (b:=b) (P:=P) (f:=f) (by omega) (cT f (0,0))
 have hT:iG a b P f mo:=⟨ha,hb,hd.sub,hd.closed,hon⟩
 obtain ⟨P2,num,iI,h4,NJ,hN⟩:=ag1 (st:=cT f (0,0)) hT (by omega) (List.mem_map.2 ⟨_,hd.ug,rfl⟩) rfl
 have hfit:=D3 hd hs hon.one (PJ (ix:=nL num) NJ hN.2)
 refine ⟨c8 (lE a b f mo) P2 (nL num),iI.take P2.length,?_,hfit⟩
 have Cr:iter (fun x=>ag (g50_v1_0i_0 x)) (2,0,0,a,b,a,b,0,1,2,0,0,a,b,a,b,bh tP [] ((0:Int),(0:Int)) true,[((0,0),[])],2,0,0,a,b,a,b,0,[],[],())=some (J9 a b P.length P f0):=h1
 simp only [F50_v1,F56_v1,g50_v1_0,az,bC,aa,bg,aF]
 rw [af Cr]
 simp only [J9,bg,aF]
 rw [af h2]
 dsimp only
 rw [af h3]
 dsimp only
 rw [af h4]
 have e1:(c8 (lE a b f mo) P2 (nL num)).1.take P2.length=(c8 (lE a b f mo) P2 (nL num)).1:=List.take_of_length_le (by simp [c8])
 have e2:(c8 (lE a b f mo) P2 (nL num)).2.take P2.length=(c8 (lE a b f mo) P2 (nL num)).2:=List.take_of_length_le (by simp [c8])
 simp only [List.drop_zero,e1,e2]
theorem k6E (ha:Wf a) (hb:Wf b) (h4:a.1.length<=40) (h5:b.1.length<=40) (hl:∀l,Fits (aE (·||·) a b) l->l.1.length<=40) :
  ∃l,ag (F8 a b)=some (l,0,())/\Fits (aE (·||·) a b) l:=by
 have hU:(pairs a b).length<10000:=by
  rw [uh]
  have:=Nat.mul_le_mul h4 h5
  omega
 obtain ⟨l,s,h1,h2⟩:=k50E ha hb hU
 refine ⟨l,?_,h2⟩
 have:=hl l h2
 simp only [F8,F21_v1,az,ax,aa,aF]
 rw [af (k36 ha hb h4 h5)]
 simp only [beq_self_eq_true,Bool.not_true,aZ]
 rw [af (k37E ha)]
 dsimp only
 rw [af h1]
 dsimp only
 rw [bw,if_neg (by omega),bg]
end
end Go.Proofs.Tryz
end
section
namespace Go.Proofs.Tryz
open Go.AM Go.Rs
set_option maxRecDepth 100000
section
variable {l:Lw}
theorem k52 (h:Wf l) {c:Int} (hc:c=0\/c=1):ag (F52 c l)=some (false,()):=by
 simp only [F52,aS,az,aa,aF]
 rw [af (XU h),aA (by decide),af k24]
 rcases hc with rfl|rfl<;>rfl
theorem k27y (h:Wf l) {ys:List Int} (hy:Ys ys) (hl:ys.length<1000000):ag (F27_v2 ys l)=some (false,()):=by
 have hit:iter (fun x=>ag (g51_v2_0 x)) (ys,l,((ys.length:Nat):Int),0,())=some (.inr ()):=by
  refine iY (step:=fun x=>ag (g51_v2_0 x)) ys.length (fun k=>(ys,l,((ys.length:Nat):Int),(k:Int),())) ?_ ?_
  ·intro k hk
   have h1:((k:Nat):Int)<((ys.length:Nat):Int):=by omega
   have hr:cP .i64 (((k:Nat):Int)+1)=true:=bL (by omega) (by omega)
   have hc:=hy _ (jA (d:=0) hk)
   simp only [g51_v2_0,ax,bz,az,aS,aa,bw,if_pos h1,aF,Int.toNat_natCast]
   rw [aA (cm (by omega) h1),af (k52 h hc)]
   simp only [aZ,aA hr]
   rfl
  ·simp only [g51_v2_0, ax, aa, bw]
   rw [if_neg (by omega)]
 simp only [F27_v2,F51_v2,az,bC,aa,aF]
 rw [af hit]
 simp only [ga,aa,bg]
 rfl
theorem k29 (h:Wf l) {ys:List Int} (hy:Ys ys) (hl:ys.length<1000000):ag (F29 l [ys])=some ((dc l).run ys,()):=by
 have hin:iter (fun x=>ag (g29_1 x)) (0,[ys],1,0,ys,((ys.length:Nat):Int),0,l.1,l.2,())=some ((dc l).run ys,[ys],1,0,l.1,l.2,()):=by
  have:=iY (step:=fun x=>ag (g29_1 x)) (b:=((dc l).run ys,[ys],(1:Int),(0:Int),l.1,l.2,())) ys.length (fun k=>((dc l).run (ys.take k),[ys],(1:Int),(0:Int),ys,((ys.length:Nat):Int),(k:Int),l.1,l.2,())) ?_ ?_
  ·exact this
  ·intro k hk
   have h1:((k:Nat):Int)<((ys.length:Nat):Int):=by omega
   have hr:cP .i64 (((k:Nat):Int)+1)=true:=bL (by omega) (by omega)
   have hc:=hy _ (jA (d:=0) hk)
   have hyk:Ys (ys.take k):=fun x hx=>hy x (List.mem_of_mem_take hx)
   have hs:=h.run hyk
   have hrl:=vN h hs
   rw [dN 0 hk,Sys.gK]
   simp only [g29_1,ax,bz,az,aS,aa,bw,if_pos h1,aF,Int.toNat_natCast]
   rw [aA (cm (by omega) h1),aA (cm hs.1 hs.2),hrl,aA (RM hc),aA hr]
   rfl
  ·simp only [g29_1, ax, aa, bw, List.take_length]
   rw [if_neg (by omega)]
 have hout:iter (fun x=>ag (g29_0 x)) (0,[ys],1,0,l.1,l.2,())=some ((dc l).run ys,()):=by
  refine aW (y:=((dc l).run ys,[ys],1,0+1,l.1,l.2,())) ?_ (bk ?_)
  ·have h0 : (0 : Int) < 1 := by decide
   simp only [g29_0,ax,bz,az,aS,bC,aa,bw,if_pos h0,aF,Int.toNat_zero,List.getD_cons_zero]
   rw [aA (by rfl),af hin]
   dsimp only
   rw [aA (by decide)]
  ·have : ¬ ((0 : Int) + 1 < 1) := by decide
   simp only [g29_0,ax,aa,bw]
   rw [if_neg this]
 have ag2:iter (fun x=>ag (g29_0 x)) (0,[ys],(([ys].length:Nat):Int),0,l.1,l.2,())=some ((dc l).run ys,()):=hout
 simp only [F29,az,bC,aa,aF]
 rw [af ag2]
theorem k10 (h:Wf l) (h4:l.1.length<=40) {ys:List Int} (hy:Ys ys) (hl:ys.length<=60):ag (F10 l ys)=some ((dc l).good ((dc l).run ys),0,()):=by
 have hs:=h.run hy
 simp only [F10,F28,az,ax,bz,aa,aF,bw,List.drop_zero,List.take_succ_cons,List.take_zero]
 rw [af (k9 h h4)]
 simp only [beq_self_eq_true,Bool.not_true,aZ]
 rw [if_neg (by omega),af (k27y h hy (by omega))]
 simp only [aZ,bg,beq_self_eq_true,Bool.not_true]
 rw [af (k29 h hy (by omega)),aA (cm hs.1 (by rw [h.len];exact hs.2))]
 rfl
end
def EO (x:Int):List Int:=[Int.tmod x 3,Int.tmod (Int.tdiv x 3) 3]
def EP (x:Int×Int×Int):Lw:=([EO x.1,EO x.2.1,EO x.2.2],[decide (100<x.1),decide (100<x.2.1),decide (100<x.2.2)])
def U8 (x:Int):Prop:=0<=x/\x<256
theorem WC {x:Int×Int×Int} (h1:U8 x.1) (h2:U8 x.2.1) (h3:U8 x.2.2):Wf (EP x):=by
 have hr:∀z:Int,U8 z->∃a b:Int,EO z=[a,b]/\(0<=a/\a<3)/\(0<=b/\b<3):=fun z hz=>by
  have e1:Int.tmod z 3=z % 3:=Int.tmod_eq_emod_of_nonneg hz.1
  have e2:Int.tdiv z 3=z / 3:=Int.tdiv_eq_ediv_of_nonneg hz.1
  have e3:Int.tmod (z / 3) 3=z / 3 % 3:=Int.tmod_eq_emod_of_nonneg (by have:=hz.1;omega)
  refine ⟨_,_,rfl,?_,?_⟩
  ·rw [e1];omega
  ·rw [e2,e3];omega
 refine ⟨by simp [EP],by simp [EP],fun r hm=>?_⟩
 have:r=EO x.1\/r=EO x.2.1\/r=EO x.2.2:=by simpa [EP] using hm
 rcases this with rfl|rfl|rfl
 ·exact hr _ h1
 ·exact hr _ h2
 ·exact hr _ h3
theorem k7 {x:Int×Int×Int} (h1:U8 x.1) (h2:U8 x.2.1) (h3:U8 x.2.2):ag (F7 x)=some (EP x,()):=by
 have MO:=ek
 have st:∀(k:Nat) (v:Int) (A:List (List Int)) (B:List Bool),(k=0/\v=x.1)\/(k=1/\v=x.2.1)\/(k=2/\v=x.2.2)->A.length=k->B.length=k ->
   ag (g7_0 ((k:Int),[x.1,x.2.1,x.2.2],k,k,A,B,()))=some (.inl (((k+1:Nat):Int),[x.1,x.2.1,x.2.2],k+1,k+1,A++[EO v],B++[decide (100<v)],())):=by
  intro k v A B hk hA hB
  have hk3:((k:Nat):Int)<3:=by rcases hk with ⟨rfl,_⟩|⟨rfl,_⟩|⟨rfl,_⟩<;>decide
  have hl:Int.toNat ((k:Nat):Int)<[x.1,x.2.1,x.2.2].length:=by simp;omega
  have hz:[x.1,x.2.1,x.2.2].getD (Int.toNat ((k:Nat):Int)) 0=v:=by rcases hk with ⟨rfl,rfl⟩|⟨rfl,rfl⟩|⟨rfl,rfl⟩<;>rfl
  have hv:U8 v:=by rcases hk with ⟨_,rfl⟩|⟨_,rfl⟩|⟨_,rfl⟩<;>assumption
  have e2:Int.tdiv v 3=v / 3:=Int.tdiv_eq_ediv_of_nonneg hv.1
  have yS:cP .i64 v=true:=bL (by have:=hv.1;omega) (by have:=hv.2;omega)
  have A3:cP .i64 (Int.tdiv v 3)=true:=by rw [e2];exact bL (by have:=hv.1;omega) (by have:=hv.2;omega)
  have hr3:cP .i64 (((k:Nat):Int)+1)=true:=bL (by omega) (by omega)
  have eA:A.take k=A:=by rw [<-hA];simp
  have eB:B.take k=B:=by rw [<-hB];simp
  have h0:(!((3:Int)==0))=true:=by decide
  simp only [g7_0,ax,bz,bq,aS,aa,bw,if_pos hk3,hz,aA (cm (i:=((k:Nat):Int)) (n:=3) (by omega) hk3),aL hl,aA yS,aA A3,aA h0,aA hr3,List.drop_zero,List.take_succ_cons,List.take_zero,List.length_cons,List.length_nil,eA,eB]
  repeat rw [aL (by omega)]
  rfl
 have hit:iter (fun y=>ag (g7_0 y)) (0,[x.1,x.2.1,x.2.2],0,0,[],[],())=some (3,3,(EP x).1,(EP x).2,()):=by
  refine aW (st 0 x.1 [] [] (.inl ⟨rfl,rfl⟩) rfl rfl) (aW (st 1 x.2.1 _ _ (.inr (.inl ⟨rfl,rfl⟩)) rfl rfl) (aW (st 2 x.2.2 _ _ (.inr (.inr ⟨rfl,rfl⟩)) rfl rfl) (bk ?_)))
  have:¬(((2+1:Nat):Int)<3):=by decide
  simp only [g7_0,ax,aa,bw]
  rw [if_neg this]
  rfl
 simp only [F7,az,bC,aa]
 rw [af hit]
 rfl
end Go.Proofs.Tryz
end
section
namespace Go.Proofs.Tryz
open Go.AM Go.Rs
set_option maxRecDepth 100000
@[reducible] def gA (x y:Bool):Bool := !(x==y)
@[reducible] def I3 (a b:Lw) (lo n:Nat) (c:Int) (m:List ((Int×Int)×Bool)) (q:List ((Int×Int)×List Int)) (p:Int×Int) (ys:List Int) (_:Unit) :=
 ((2:Int),(0:Int),(0:Int),a,b,a,b,lo,n,(2:Int),c,(2:Int),(0:Int),(0:Int),a,b,a,b,m,q,p.1,p.2,ys,(2:Int),(0:Int),(0:Int),a,b,a,b,())
section
variable {a b:Lw} {p:Int×Int} {c:Int} {lo n:Nat} {m:List ((Int×Int)×Bool)} {q:List ((Int×Int)×List Int)} {ys:List Int}
theorem abx (ha:Wf a) (hb:Wf b) (hp:p∈pairs a b) (hc:c=0\/c=1) (hm:aN tP false m ((aE gA a b).nx p c)=true) :
  ag (g39_0i_1 (I3 a b lo n c m q p ys ()))=some (.inl (I3 a b lo n (c+1) m q p ys ())):=by
 obtain ⟨s,t⟩:=p
 have h2:c<2:=by rcases hc with rfl|rfl<;>decide
 have hr:cP .i64 (c+1)=true:=by rcases hc with rfl|rfl<;>decide
 have hm':aN (.prod (.int .i64) (.int .i64)) false m (iL a s c,iL b t c)=true:=hm
 simp only [I3,g39_0i_1,ax,az,bq,aS,aa,bw,if_pos h2,aF]
 rw [af (Ss ha hb hp hc)]
 simp only [List.getD_cons_zero,List.getD_cons_succ,hm',Bool.not_true,aZ,aA hr]
theorem aby (ha:Wf a) (hb:Wf b) (hp:p∈pairs a b) (hc:c=0\/c=1) (hm:aN tP false m ((aE gA a b).nx p c)=false) (hy:ys.length<1000000) (hn:n<1000000) :
  ag (g39_0i_1 (I3 a b lo n c m q p ys ()))=some (.inl (I3 a b 0 (n+1) (c+1) (bh tP m ((aE gA a b).nx p c) true) ((q.drop lo).take n++[((aE gA a b).nx p c,ys++[c])]) p ys ())):=by
 obtain ⟨s,t⟩:=p
 have h2:c<2:=by rcases hc with rfl|rfl<;>decide
 have hr:cP .i64 (c+1)=true:=by rcases hc with rfl|rfl<;>decide
 have hm':aN (.prod (.int .i64) (.int .i64)) false m (iL a s c,iL b t c)=false:=hm
 have MO:=ek
 simp only [I3,g39_0i_1,ax,az,bq,aS,aa,bw,if_pos h2,aF]
 rw [af (Ss ha hb hp hc)]
 simp only [List.getD_cons_zero,List.getD_cons_succ,hm',Bool.not_false,cQ]
 rw [af (k83 ys)]
 have e1:(ys++((([c]).drop 0).take 1)).drop 0=ys++[c]:=by simp
 have e2:(ys++[c]).take (ys.length+(0+1))=ys++[c]:=List.take_of_length_le (by simp)
 simp only [e1,List.drop_zero,List.take_succ_cons,List.take_zero,List.length_cons,List.length_nil,e2]
 rw [aL (by omega),aL (by omega),aL (by omega),aA hr]
 rfl
theorem abz:ag (g39_0i_1 (I3 a b lo n 2 m q p ys ()))=some (.inr ((2:Int),(0:Int),(0:Int),a,b,a,b,lo,n,(2:Int),(0:Int),(0:Int),a,b,a,b,m,q,(2:Int),(0:Int),(0:Int),a,b,a,b,())):=by
 simp only [I3,g39_0i_1,ax,az,bq,aS,aa,bw,if_neg (show ¬(2:Int)<2 by decide),aF]
end
section
variable {a b:Lw} {p:Int×Int} {c:Int} {lo n:Nat} {m:List ((Int×Int)×Bool)} {q F:List ((Int×Int)×List Int)} {ys:List Int} {P:List (Int×Int)}
theorem Ke (ha:Wf a) (hb:Wf b) (hp:p∈pairs a b) (hc:c=0\/c=1) (hv:Vw lo n q F) (hM:gj m (P++F.map (·.1))) (hy:ys.length<1000000) (hn:n<1000000) :
  ∃lo' n' q' m',ag (g39_0i_1 (I3 a b lo n c m q p ys ()))=some (.inl (I3 a b lo' n' (c+1) m' q' p ys ()))/\n'<=n+1 /\
   Vw lo' n' q' (bJ P F ((aE gA a b).nx p c) (ys++[c]))/\gj m' (P++(bJ P F ((aE gA a b).nx p c) (ys++[c])).map (·.1)):=by
 by_cases h:(aE gA a b).nx p c∈P++F.map (·.1)
 ·refine ⟨lo, n, q, m, abx ha hb hp hc ?_, by omega, ?_, ?_⟩
  ·rw [hM.2];exact decide_eq_true h
  ·unfold bJ;rw [if_pos h];exact hv
  ·unfold bJ;rw [if_pos h];exact hM
 ·refine ⟨0, n + 1, _, _, aby ha hb hp hc ?_ hy hn, Nat.le_refl _, ?_, ?_⟩
  ·rw [hM.2];exact decide_eq_false h
  ·unfold bJ;rw [if_neg h,hv.1];exact lU (by simp [hv.2])
  ·unfold bJ;rw [if_neg h,List.map_append,<-List.append_assoc];exact hM.add _
theorem WE (ha:Wf a) (hb:Wf b) (hp:p∈pairs a b) (hv:Vw lo n q F) (hM:gj m (P++F.map (·.1))) (hy:ys.length<1000000) (hn:n<100000) :
  ∃lo' n' q' m',iter (fun x=>ag (g39_0i_1 x)) (I3 a b lo n 0 m q p ys ())=some ((2:Int),(0:Int),(0:Int),a,b,a,b,lo',n',(2:Int),(0:Int),(0:Int),a,b,a,b,m',q',(2:Int),(0:Int),(0:Int),a,b,a,b,()) /\
   Vw lo' n' q' (bJ P (bJ P F ((aE gA a b).nx p 0) (ys++[0])) ((aE gA a b).nx p 1) (ys++[1])) /\
   gj m' (P++(bJ P (bJ P F ((aE gA a b).nx p 0) (ys++[0])) ((aE gA a b).nx p 1) (ys++[1])).map (·.1)):=by
 obtain ⟨lo1,n1,q1,m1,h1,h2,h3,h4⟩:=Ke ha hb hp (.inl rfl) hv hM hy (by omega)
 obtain ⟨Wh,n2,q2,m2,g1,g2,g3,g4⟩:=Ke ha hb hp (.inr rfl) h3 h4 hy (by omega)
 exact ⟨Wh,n2,q2,m2,aW h1 (aW g1 (bk abz)),g3,g4⟩
end
@[reducible] def J3 (a b:Lw) (lo n:Nat) (m:List ((Int×Int)×Bool)) (q:List ((Int×Int)×List Int)) :=
 ((2:Int),(0:Int),(0:Int),a,b,a,b,lo,n,(2:Int),(0:Int),(0:Int),a,b,a,b,m,q,(2:Int),(0:Int),(0:Int),a,b,a,b,())
section
variable {a b:Lw} {lo n:Nat} {m:List ((Int×Int)×Bool)} {q F:List ((Int×Int)×List Int)} {ys:List Int} {P:List (Int×Int)}
theorem k55A {s t:Int} (ha:Wf a) (hb:Wf b) (hp:(s,t)∈pairs a b):ag (F55_v2 (s,t) a b)=some (((aE gA a b).good (s,t)),()):=by
 rw [j6] at hp
 obtain ⟨h1,h2⟩:=hp
 simp only at h1 h2
 have h22:∀x y:Bool,ag (F38 x y)=some (gA x y,()):=fun x y=>rfl
 show need (decide ((0:Nat)<2)) (need (gz s ((a.2.length:Nat):Int)) (need (decide ((1:Nat)<2)) (need (gz t ((b.2.length:Nat):Int)) (cZ (ag (F38 (a.2.getD s.toNat false) (b.2.getD t.toNat false))) fun y=>some (y.1,())))))=_
 rw [aL (by decide),aA (cm h1.1 (by rw [ha.len];exact h1.2)),aL (by decide),aA (cm h2.1 (by rw [hb.len];exact h2.2)),af (h22 _ _)]
 rfl
theorem WG (ha : Wf a) (hb : Wf b) {p : Int × Int} (hp : p ∈ pairs a b) (hv : Vw lo n q ((p, ys) :: F)) (hM : gj m (P ++ ((p, ys) :: F).map (·.1))) (hg : (aE gA a b).good p = false)
  (hy:ys.length<1000000) (hn:n<100000) :
  ∃lo' n' q' m',ag (g39_0i_0 (J3 a b lo n m q))=some (.inl (J3 a b lo' n' m' q')) /\
   Vw lo' n' q' (bJ (P++[p]) (bJ (P++[p]) F ((aE gA a b).nx p 0) (ys++[0])) ((aE gA a b).nx p 1) (ys++[1])) /\
   gj m' ((P++[p])++(bJ (P++[p]) (bJ (P++[p]) F ((aE gA a b).nx p 0) (ys++[0])) ((aE gA a b).nx p 1) (ys++[1])).map (·.1)):=by
 obtain ⟨s,t⟩:=p
 obtain ⟨h0,hlt,nU,_⟩:=jk (((0:Int),(0:Int)),[]) hv
 have i0:(0:Int)<((n:Nat):Int):=by omega
 obtain ⟨lo',n',q',m',h1,h2,h3⟩:=WE ha hb hp hv hM hy hn
 rw [j7,j7] at h2 h3
 obtain ⟨k0,k1,k2,k3⟩:=jk (((0:Int),(0:Int)),[]) h2
 refine ⟨lo'+1,n' - 1,q',m',?_,k3,by simpa using h3⟩
 simp only [J3,g39_0i_0,ax,az,bq,bz,aS,bC,aa,bw,aF,if_pos i0,Int.toNat_zero,Nat.add_zero,nU,List.getD_cons_zero,List.getD_cons_succ]
 rw [aA (cm (by omega) i0),aL hlt,af (k82 hy),af (k55A ha hb hp)]
 simp only [hg,aZ]
 rw [af h1]
 dsimp only
 rw [aL (by omega),aL (by omega),aL (by omega)]
 rfl
structure WD where
 lo:Nat
 n:Nat
 q:List ((Int×Int)×List Int)
 F:List ((Int×Int)×List Int)
 m:List ((Int×Int)×Bool)
 P:List (Int×Int)
theorem WH (ha:Wf a) (hb:Wf b) (hU:(pairs a b).length<10000) (hg:∀ys,Ys ys->(aE gA a b).good ((aE gA a b).run ys)=false) (k:WD) (hB:BF (aE gA a b) (pairs a b) k.P k.F) (hv:Vw k.lo k.n k.q k.F) (hM:gj k.m (k.P++k.F.map (·.1))) :
  iter (fun x=>ag (g39_0i_0 x)) (J3 a b k.lo k.n k.m k.q)=some (.inr ((2:Int),(0:Int),(0:Int),a,b,a,b,(2:Int),(0:Int),(0:Int),a,b,a,b,())):=by
 have := dJ (step := fun x => ag (g39_0i_0 x)) (κ := WD) (fun k => J3 a b k.lo k.n k.m k.q) (fun k => (pairs a b).length - k.P.length)
  (fun r=>r = .inr ((2:Int),(0:Int),(0:Int),a,b,a,b,(2:Int),(0:Int),(0:Int),a,b,a,b,()))
  (fun k=>BF (aE gA a b) (pairs a b) k.P k.F/\Vw k.lo k.n k.q k.F/\gj k.m (k.P++k.F.map (·.1))) ?_ k ⟨hB,hv,hM⟩
 ·obtain ⟨r,h1,rfl⟩:=this;exact h1
 ·rintro ⟨lo, n, q, F, m, P⟩ ⟨hB, hv, hM⟩
  simp only at hB hv hM ⊢
  cases F with
  |nil =>
   right
   have:=yI hv
   subst this
   refine ⟨_,?_,rfl⟩
   simp only [J3,g39_0i_0,ax,aa,bw,aF]
   rw [if_neg (by simp)]
  |cons e F =>
   obtain ⟨p,ys⟩:=e
   left
   have hp:p∈pairs a b:=hB.sub p (by simp)
   have hl:=hB.len
   obtain ⟨hy1,hy2,hy⟩:=hB.reach (p,ys) (by simp)
   simp only [List.length_cons] at hl
   simp only at hy1 hy2 hy
   have hgp:(aE gA a b).good p=false:=by rw [<-hy2];exact hg ys hy1
   have hn:n=F.length+1:=hv.2.symm
   obtain ⟨lo',n',q',m',h1,h2,h3⟩:=WG ha hb hp hv hM hgp (by omega) (by omega)
   refine ⟨⟨lo',n',q',_,m',P++[p]⟩,h1,⟨hB.round fun c hc=>xW ha hb hp hc,h2,h3⟩,?_⟩
   simp only [List.length_append,List.length_cons,List.length_nil];omega
theorem k37A (ha:Wf a):ag (F37_v2 a b (0,0))=some (2,0,0,a,b,a,b,()):=by
 simp only [F37_v2,az,aa,aF]
 rw [af (XU ha)]
 rfl
theorem k13 (ha:Wf a) (hb:Wf b) (h4:a.1.length<=40) (h5:b.1.length<=40) (hg:∀ys,Ys ys->(dc a).good ((dc a).run ys)=(dc b).good ((dc b).run ys)):ag (F13 a b)=some ([],5,()):=by
 have hU:(pairs a b).length<10000:=by
  rw [uh]
  have:=Nat.mul_le_mul h4 h5
  omega
 have hM:gj (bh tP [] ((0:Int),(0:Int)) true) ([]++[(((0:Int),(0:Int)),([]:List Int))].map (·.1)):=by
  have:gj [] []:=⟨jc,fun s=>by simp [aN]⟩
  exact this.add (0,0)
 have h1:=WH ha hb hU (fun ys hy=>by
  rw [pq]
  have:=hg ys hy
  show gA ((dc a).good ((dc a).run ys)) ((dc b).good ((dc b).run ys))=false
  rw [this];simp [gA]) ⟨0,1,[((0,0),[])],[((0,0),[])],bh tP [] ((0:Int),(0:Int)) true,[]⟩ (BF.start (xX ha hb)) (lU rfl) hM
 have Cr:iter (fun x=>ag (g39_0i_0 x)) (2,0,0,a,b,a,b,0,1,2,0,0,a,b,a,b,bh tP [] ((0:Int),(0:Int)) true,[((0,0),[])],2,0,0,a,b,a,b,())=some (.inr ((2:Int),(0:Int),(0:Int),a,b,a,b,(2:Int),(0:Int),(0:Int),a,b,a,b,())):=h1
 simp only [F13,az,ax,aa,aF]
 rw [af (k36 ha hb h4 h5)]
 simp only [beq_self_eq_true,Bool.not_true,aZ]
 rw [af (k37A ha)]
 simp only [F39,F56_v2,g39_0,az,bC,aa,bg,aF]
 rw [af Cr]
 simp only [ga,aa,bg,Bool.not_false,cQ]
end
end Go.Proofs.Tryz
end
