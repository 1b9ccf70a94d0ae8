/- Polygons by a corner and their sides, which turn to the left: what is most of them in a direction. What lies in a polygon: by its sides, by its corners, and by what is most in each direction. A polygon is made of triangles from its first corner. The hull of points in order: from the least to the greatest one, and back. The hull of points: a polygon whose corners are some of them, and in which all lie; the hull of its corners is the same. The hull of the corners of a hull is the same. Sides of several polygons by their directions, those of one direction put together: a polygon whose most in each direction is the sum of theirs. All sums of corners, one of each polygon: the hull of these is the sum of the polygons. A polygon cut by a line of one power: the heats between where its sides meet the power. Points in any order: sorted, each once, and their hull. Sides of several polygons sorted by directions. The sum of polygons, side by side, and for each corner the corners that it is the sum of. -/
import Derived.Test.YtgmflfkhjjjhmaaW30
set_option linter.unusedSectionVars false
set_option linter.unusedVariables false
set_option linter.unusedSimpArgs false
section
namespace Go.fD
abbrev Pt:=Int×Int
def add (p q:Pt):Pt:=(p.1+q.1,p.2+q.2)
def cr (d e:Pt):Int:=d.1 * e.2 - d.2 * e.1
def dt (u p:Pt):Int:=u.1 * p.1+u.2 * p.2
def turn (a b c:Pt):Int:=(b.1 - a.1) * (c.2 - a.2) - (b.2 - a.2) * (c.1 - a.1)
def neg (d:Pt):Pt:=(-d.1,-d.2)
def h0 (d:Pt):Bool:=decide (0<d.1)||(decide (d.1=0)&&decide (0<d.2))
def al (d e:Pt):Prop:=(h0 d=true/\h0 e=false)\/(h0 d=h0 e/\0<cr d e)
theorem fL {d:Pt}:h0 d=true↔0<d.1\/d.1=0/\0<d.2:=by simp [h0]
theorem oS {d:Pt}:h0 d=false↔d.1<0\/d.1=0/\d.2<=0:=by
 rw [<-Bool.not_eq_true,fL];omega
theorem sI {d:Pt} (hz:d≠(0,0)):h0 (neg d) = !h0 d:=by
 have:¬(d.1=0/\d.2=0):=fun h=>hz (Prod.ext h.1 h.2)
 cases h:h0 d
 ·rw [oS] at h;rw [Bool.not_false,fL];simp only [neg];omega
 ·rw [fL] at h;rw [Bool.not_true,oS];simp only [neg];omega
theorem RJ {d : Pt} (hz : d ≠ (0, 0)) : neg d ≠ (0, 0) := fun h => hz (by
 have h1:=congrArg Prod.fst h;have h2:=congrArg Prod.snd h
 simp only [neg] at h1 h2
 exact Prod.ext (by show d.1=0;omega) (by show d.2=0;omega))
theorem A3 (d e:Pt):cr (neg d) (neg e)=cr d e:=by simp only [cr,neg];grind
theorem qy (d e:Pt):cr (neg d) e = - cr d e:=by simp only [cr,neg];grind
theorem fu (d e:Pt):cr d e = - cr e d:=by simp only [cr];grind
theorem nG (d:Pt):cr d d=0:=by simp only [cr];grind
theorem tr0 {d e f:Pt} (hd:h0 d=true) (he:h0 e=true) (hf:h0 f=true) (h1:0<=cr d e) (h2:0<=cr e f) :
  0<=cr d f/\(0<cr d e\/0<cr e f->0<cr d f):=by
 obtain ⟨d1,d2⟩:=d;obtain ⟨e1,e2⟩:=e;obtain ⟨f1,f2⟩:=f
 rw [fL] at hd he hf
 simp only [cr] at *
 rcases he with he|⟨rfl,he⟩
 ·have OO : e1 * (d1 * f2 - d2 * f1) = d1 * (e1 * f2 - e2 * f1) + f1 * (d1 * e2 - d2 * e1) := by grind
  have Fe:0<=d1:=by omega
  have hf1:0<=f1:=by omega
  have p1:=Int.mul_nonneg Fe h2
  have p2:=Int.mul_nonneg hf1 h1
  refine ⟨Int.nonneg_of_mul_nonneg_right (a:=e1) (by omega) he,fun h=>?_⟩
  refine Int.pos_of_mul_pos_right (a:=e1) ?_ he
  rw [OO]
  rcases Int.lt_or_eq_of_le Fe with Yj|Yj
  ·rcases Int.lt_or_eq_of_le hf1 with Xw | Xw
   ·rcases h with h | h
    ·have:=Int.mul_pos Xw h;omega
    ·have:=Int.mul_pos Yj h;omega
   ·subst Xw
    have:0<f2:=by omega
    have:=Int.mul_pos he this
    have q:0<e1 * f2 - e2 * 0:=by omega
    have:=Int.mul_pos Yj q;omega
  ·subst Yj
   have:0<d2:=by omega
   have:=Int.mul_pos this he
   omega
 ·have hf1 : ¬ 0 < f1 := fun h => by have := Int.mul_pos he h; omega
  have Xw:f1=0:=by omega
  subst Xw
  have hf2:0<f2:=by omega
  have Fe:0<=d1:=by omega
  have p1:=Int.mul_nonneg Fe (Int.le_of_lt hf2)
  refine ⟨by omega,fun h=>?_⟩
  have:d1≠0:=by rintro rfl;omega
  have:=Int.mul_pos (show 0<d1 by omega) hf2
  omega
theorem On {d e f:Pt} (zd:d≠(0,0)) (ze:e≠(0,0)) (zf:f≠(0,0)) (SR:h0 d=h0 e) (hef:h0 e=h0 f) (h1:0<=cr d e) (h2:0<=cr e f) :
  0<=cr d f/\(0<cr d e\/0<cr e f->0<cr d f):=by
 cases hd:h0 d
 ·have := tr0 (d := neg d) (e := neg e) (f := neg f) (by rw [sI zd, hd]; rfl) (by rw [sI ze, ← SR, hd]; rfl) (by rw [sI zf, ← hef, ← SR, hd]; rfl)
   (by rw [A3];exact h1) (by rw [A3];exact h2)
  simpa only [A3] using this
 ·exact tr0 hd (by rw [<-SR,hd]) (by rw [<-hef,<-SR,hd]) h1 h2
theorem sJ {d e f:Pt} (zd:d≠(0,0)) (ze:e≠(0,0)) (zf:f≠(0,0)) (h1:al d e) (h2:al e f):al d f:=by
 rcases h1 with ⟨a,b⟩|⟨a,b⟩
 ·rcases h2 with ⟨c, d⟩ | ⟨c, d⟩
  ·rw [b] at c;cases c
  ·exact Or.inl ⟨a,by rw [<-c,b]⟩
 ·rcases h2 with ⟨c, d⟩ | ⟨c, d⟩
  ·exact Or.inl ⟨by rw [a,c],d⟩
  ·exact Or.inr ⟨by rw [a,c],(On zd ze zf a c (by omega) (by omega)).2 (Or.inl b)⟩
theorem A4 {d:Pt}:¬al d d:=by
 rintro (⟨a,b⟩|⟨a,b⟩)
 ·rw [a] at b;cases b
 ·rw [nG] at b;omega
def S (t d:Pt):Bool:=(h0 d && !h0 t)||(h0 d==h0 t&&decide (0<=cr d t))
theorem nH {t d:Pt}:S t d=true↔(h0 d=true/\h0 t=false)\/(h0 d=h0 t/\0<=cr d t):=by simp [S]
theorem IX {t d e:Pt} (zt:t≠(0,0)) (zd:d≠(0,0)) (ze:e≠(0,0)) (h:al d e) (hS:S t e=true):S t d=true:=by
 rw [nH] at hS ⊢
 rcases h with ⟨a,b⟩|⟨a,b⟩
 ·rcases hS with ⟨c, d⟩ | ⟨c, d⟩
  ·rw [b] at c;cases c
  ·exact Or.inl ⟨a,by rw [<-c,b]⟩
 ·rcases hS with ⟨c, d⟩ | ⟨c, d⟩
  ·exact Or.inl ⟨by rw [a,c],d⟩
  ·exact Or.inr ⟨by rw [a,c],(On zd ze zt a c (by omega) (by omega)).1⟩
theorem RK {t d e:Pt} (zt:t≠(0,0)) (zd:d≠(0,0)) (ze:e≠(0,0)) (ht:h0 t=false) (h:al d e) (hS:S t e=true) (hp:0<cr d t):0<=cr e t:=by
 rw [nH] at hS
 rcases hS with ⟨c,-⟩|⟨c,d⟩
 ·have hd:h0 d=true:=by
   rcases h with ⟨a,b⟩|⟨a,b⟩
   ·exact a
   ·rw [a,c]
  have hc:0<=cr d e:=by
   rcases h with ⟨a,b⟩|⟨a,b⟩
   ·rw [b] at c;cases c
   ·omega
  have hn:h0 (neg t)=true:=by rw [sI zt,ht];rfl
  have h1:0<cr (neg t) d:=by rw [qy,fu];omega
  have:=(tr0 hn hd c (by omega) hc).1
  rw [qy,fu] at this;omega
 ·exact d
theorem IY {t d:Pt} (ht:h0 t=false) (hS:S t d=false):cr d t<0:=by
 rw [<-Bool.not_eq_true,nH,ht] at hS
 cases hd:h0 d
 ·rw [hd] at hS;simp at hS;exact hS
 ·rw [hd] at hS;simp at hS
theorem IZ {t d:Pt} (ht:h0 t=true) (hS:S t d=true):0<=cr d t:=by
 rw [nH,ht] at hS
 rcases hS with ⟨-,h⟩|⟨-,h⟩
 ·cases h
 ·exact h
theorem RL {t d e:Pt} (zt:t≠(0,0)) (zd:d≠(0,0)) (ze:e≠(0,0)) (ht:h0 t=true) (h:al d e) (hS:S t d=false) (hp:0<cr d t):0<=cr e t:=by
 have hd:h0 d=false:=by
  rw [<-Bool.not_eq_true,nH,ht] at hS
  cases hd:h0 d
  ·rfl
  ·rw [hd] at hS;simp at hS;omega
 have he:h0 e=false:=by
  rcases h with ⟨a,b⟩|⟨a,b⟩
  ·exact b
  ·rw [<-a,hd]
 have hc:0<=cr d e:=by
  rcases h with ⟨a,b⟩|⟨a,b⟩
  ·rw [hd] at a;cases a
  ·omega
 have hn:h0 (neg t)=false:=by rw [sI zt,ht];rfl
 have h1:0<cr (neg t) d:=by rw [qy,fu];omega
 have:=(On (RJ zt) zd ze (by rw [hn,hd]) (by rw [hd,he]) (by omega) hc).1
 rw [qy,fu] at this;omega
/- Sums. -/
def sm : List Pt → Pt
 |[]=>(0,0)
 |d::r=>add d (sm r)
theorem iL (u p q:Pt):dt u (add p q)=dt u p+dt u q:=by simp only [dt,add];grind
theorem sK (u:Pt) (l:List Pt):dt u (sm l)=(l.map (dt u)).sum:=by
 induction l with
 |nil=>simp [sm,dt]
 |cons d r ih=>rw [sm,iL,ih,List.map_cons,List.sum_cons]
theorem add_assoc (p q r:Pt):add (add p q) r=add p (add q r):=by simp only [add];exact Prod.ext (by simp only [];omega) (by simp only [];omega)
theorem add_zero (p:Pt):add p (0,0)=p:=by simp [add]
theorem bZ (l r:List Pt):sm (l++r)=add (sm l) (sm r):=by
 induction l with
 |nil=>simp [sm,add]
 |cons d l ih=>rw [List.cons_append,sm,ih,sm,add_assoc]
def vs (a : Pt) : List Pt → List Pt
 |[]=>[]
 |d::r=>a::vs (add a d) r
theorem A5 (a:Pt) (ds:List Pt):(vs a ds).length=ds.length:=by
 induction ds generalizing a with
 |nil=>rfl
 |cons d r ih=>simp [vs,ih]
theorem oT {a v:Pt} {ds:List Pt}:v∈vs a ds↔∃k,k<ds.length/\v=add a (sm (ds.take k)):=by
 induction ds generalizing a with
 |nil=>simp [vs]
 |cons d r ih =>
  simp only [vs,List.mem_cons,ih,List.length_cons]
  constructor
  ·rintro (rfl | ⟨k, hk, rfl⟩)
   ·exact ⟨0,by omega,by simp [sm,add]⟩
   ·exact ⟨k+1,by omega,by rw [List.take_succ_cons,sm,add_assoc]⟩
  ·rintro ⟨k, hk, rfl⟩
   cases k with
   |zero=>left;simp [sm,add]
   |succ k=>right;exact ⟨k,by omega,by rw [List.take_succ_cons,sm,add_assoc]⟩
theorem I0 {l:List Int} (h:l.Pairwise (fun x y=>0<x->0<=y)) (k:Nat):(l.take k).sum<=max 0 l.sum:=by
 induction l generalizing k with
 |nil=>simp
 |cons x r ih =>
  rw [List.pairwise_cons] at h
  cases k with
  |zero=>simp;omega
  |succ k =>
   rw [List.take_succ_cons,List.sum_cons,List.sum_cons]
   have hi:=ih h.2 k
   by_cases hx:0<x
   ·have hr : ∀ y ∈ r, 0 ≤ y := fun y hy => h.1 y hy hx
    have:(r.take k).sum+(r.drop k).sum=r.sum:=by rw [<-List.sum_append,List.take_append_drop]
    have h2:0<=(r.drop k).sum:=by
     have:∀l:List Int,(∀y∈l,0<=y)->0<=l.sum:=by
      intro l;induction l with
      |nil=>simp
      |cons a b ih=>intro h;rw [List.sum_cons];have:=h a (by simp);have:=ih (fun y hy=>h y (by simp [hy]));omega
     exact this _ fun y hy=>hr y (List.mem_of_mem_drop hy)
    omega
   ·omega
theorem mG {l:List Int} (h:∀y∈l,y<=0):l.sum<=0:=by
 induction l with
 |nil=>simp
 |cons a b ih=>rw [List.sum_cons];have:=h a (by simp);have:=ih (fun y hy=>h y (by simp [hy]));omega
theorem mH {l:List Int} (h:∀y∈l,0<=y):0<=l.sum:=by
 induction l with
 |nil=>simp
 |cons a b ih=>rw [List.sum_cons];have:=h a (by simp);have:=ih (fun y hy=>h y (by simp [hy]));omega
def EK (u:Pt):Pt:=(-u.2,u.1)
theorem RM (u d:Pt):dt u d=cr d (EK u):=by simp only [dt,cr,EK];grind
theorem A6 {u : Pt} (h : u ≠ (0, 0)) : EK u ≠ (0, 0) := fun e => h (by
 have h1:=congrArg Prod.fst e;have h2:=congrArg Prod.snd e
 simp only [EK] at h1 h2
 exact Prod.ext (by show u.1=0;omega) (by show u.2=0;omega))
theorem uQ {α:Type} {p:α->Bool} {l:List α} (h:l.Pairwise (fun x y=>p y=true->p x=true)):l=l.filter p++l.filter (fun x => !p x):=by
 induction l with
 |nil=>rfl
 |cons x r ih =>
  rw [List.pairwise_cons] at h
  by_cases hx:p x=true
  ·rw [List.filter_cons_of_pos hx,List.filter_cons_of_neg (by simp [hx]),List.cons_append,<-ih h.2]
  ·have hn:∀y∈r,p y=false:=fun y hy=>by
    cases hp:p y
    ·rfl
    ·exact absurd (h.1 y hy hp) hx
   have e1:r.filter p=[]:=List.filter_eq_nil_iff.2 fun y hy=>by rw [hn y hy];simp
   have e2:r.filter (fun x => !p x)=r:=List.filter_eq_self.2 fun y hy=>by rw [hn y hy];rfl
   rw [List.filter_cons_of_neg hx,List.filter_cons_of_pos (by simp [hx]),e1,e2];rfl
structure Sd (ds:List Pt):Prop where
 x7:ds.Pairwise al
 nz:∀d∈ds,d≠(0,0)
 cl:sm ds=(0,0)
def mF (u:Pt) (ds:List Pt):Int:=((ds.filter (S (EK u))).map (dt u)).sum
theorem A7 {u:Pt} {ds:List Pt} (h:Sd ds) (k:Nat):((ds.take k).map (dt u)).sum<=mF u ds:=by
 by_cases hu:u=(0,0)
 ·subst hu
  have hz:∀l:List Pt,(l.map (dt (0,0))).sum=0:=by
   intro l;induction l with
   |nil=>rfl
   |cons a b ih=>rw [List.map_cons,List.sum_cons,ih];simp [dt]
  rw [mF,hz,hz];omega
 have zt:=A6 hu
 generalize ht:EK u=t at zt
 have hf:∀d,dt u d=cr d t:=fun d=>by rw [RM,ht]
 unfold mF;rw [ht]
 have hsp:=uQ (p:=S t) (l:=ds) (h.x7.imp_of_mem fun ha hb hab=>IX zt (h.nz _ ha) (h.nz _ hb) hab)
 have hP:=h.x7
 have tS:(ds.map (dt u)).sum=0:=by rw [<-sK,h.cl];simp [dt]
 have hA:∀d∈ds.filter (S t),d∈ds/\S t d=true:=fun d hd=>List.mem_filter.1 hd
 have hB:∀d∈ds.filter (fun x => !S t x),d∈ds/\S t d=false:=fun d hd=>by
  have:=List.mem_filter.1 hd;simpa using this
 generalize ds.filter (S t)=A at hsp hA ⊢
 generalize ds.filter (fun x => !S t x)=B at hsp hB
 rw [hsp] at hP tS
 rw [List.pairwise_append] at hP
 rw [List.map_append,List.sum_append] at tS
 conv=>lhs;rw [hsp]
 rw [List.take_append,List.map_append,List.sum_append,List.map_take,List.map_take]
 cases Yk:h0 t
 ·have hneg:∀y∈B.map (dt u),y<=0:=fun y hy=>by
   obtain ⟨d,hd,rfl⟩:=List.mem_map.1 hy
   rw [hf];have:=IY Yk (hB d hd).2;omega
  have hv:(A.map (dt u)).Pairwise (fun x y=>0<x->0<=y):=by
   rw [List.pairwise_map]
   refine hP.1.imp_of_mem fun ha hb hab=>?_
   rw [hf,hf]
   exact RK zt (h.nz _ (hA _ ha).1) (h.nz _ (hA _ hb).1) Yk hab (hA _ hb).2
  have v1:=I0 hv k
  have n1:=mG hneg
  by_cases hk:k<=A.length
  ·rw [show k - A.length=0 by omega,List.take_zero];simp only [List.sum_nil];omega
  ·rw [List.take_of_length_le (l := A.map (dt u)) (by rw [List.length_map]; omega)]
   have:((B.map (dt u)).take (k - A.length)).sum<=0:=mG fun y hy=>hneg y (List.mem_of_mem_take hy)
   omega
 ·have hpos:∀y∈A.map (dt u),0<=y:=fun y hy=>by
   obtain ⟨d,hd,rfl⟩:=List.mem_map.1 hy
   rw [hf];exact IZ Yk (hA d hd).2
  have hv:(B.map (dt u)).Pairwise (fun x y=>0<x->0<=y):=by
   rw [List.pairwise_map]
   refine hP.2.1.imp_of_mem fun ha hb hab=>?_
   rw [hf,hf]
   exact RL zt (h.nz _ (hB _ ha).1) (h.nz _ (hB _ hb).1) Yk hab (hB _ ha).2
  have v1:=I0 hv (k - A.length)
  have n1:=mH hpos
  have:((A.map (dt u)).take k).sum+((A.map (dt u)).drop k).sum=(A.map (dt u)).sum:=by rw [<-List.sum_append,List.take_append_drop]
  have:0<=((A.map (dt u)).drop k).sum:=mH fun y hy=>hpos y (List.mem_of_mem_drop hy)
  omega
def cs (a:Pt) (ds:List Pt):List Pt:=if ds=[] then [a] else vs a ds
theorem sL {u a v:Pt} {ds:List Pt} (h:Sd ds) (hv:v∈cs a ds):dt u v<=dt u a+mF u ds:=by
 unfold cs at hv
 split at hv
 ·rename_i e; subst e
  rw [List.mem_singleton.1 hv];simp [mF]
 ·obtain ⟨k, -, rfl⟩ := oT.1 hv
  rw [iL,sK]
  have:=A7 (u:=u) h k
  omega
theorem uR {u a:Pt} {ds:List Pt} (h:Sd ds):∃v∈cs a ds,dt u v=dt u a+mF u ds:=by
 unfold cs
 split
 ·rename_i e; subst e
  exact ⟨a,by simp,by simp [mF]⟩
 ·rename_i hne
  by_cases hu:u=(0,0)
  ·subst hu
   have hz:∀l:List Pt,(l.map (dt (0,0))).sum=0:=by
    intro l;induction l with
    |nil=>rfl
    |cons a b ih=>rw [List.map_cons,List.sum_cons,ih];simp [dt]
   refine ⟨a,oT.2 ⟨0,List.length_pos_iff.2 hne,by simp [sm,add]⟩,?_⟩
   rw [mF,hz];omega
  have zt:=A6 hu
  have hsp:=uQ (p:=S (EK u)) (l:=ds) (h.x7.imp_of_mem fun ha hb hab=>IX zt (h.nz _ ha) (h.nz _ hb) hab)
  have ht:ds.filter (S (EK u))=ds.take (ds.filter (S (EK u))).length:=by
   conv=>rhs;rw [hsp]
   rw [List.filter_append]
   simp
  by_cases hl:(ds.filter (S (EK u))).length<ds.length
  ·exact ⟨_,oT.2 ⟨_,hl,rfl⟩,by rw [<-ht,iL,sK];rfl⟩
  ·refine ⟨a, oT.2 ⟨0, List.length_pos_iff.2 hne, by simp [sm, add]⟩, ?_⟩
   unfold mF
   rw [ht,List.take_of_length_le (by omega),<-sK,h.cl];simp [dt]
end Go.fD
end
section
namespace Go.fD
def sub (p q:Pt):Pt:=(p.1 - q.1,p.2 - q.2)
def cY (n:Int) (p:Pt):Pt:=(n * p.1,n * p.2)
def I1 (l:List Pt) (p:Pt):Prop:=∃a∈l,∃b∈l,(turn a b p=0/\(a.1 - p.1) * (b.1 - p.1)<=0/\(a.2 - p.2) * (b.2 - p.2)<=0) \/
 ∃c∈l,0<turn a b c/\0<=turn a b p/\0<=turn b c p/\0<=turn c a p
def Oo (l:List Pt) (n:Int) (p:Pt):Prop:=∀u,∃v∈l,dt u p<=n * dt u v
theorem RN {x1 y1 x2 y2 u1 u2:Int} (h1:x1 * x2<=0) (h2:y1 * y2<=0) (h3:x1 * y2=y1 * x2) (h4:u1 * x1+u2 * y1<0) (h5:u1 * x2+u2 * y2<0):False:=by
 have hP:0<(u1 * x1+u2 * y1) * (u1 * x2+u2 * y2):=Int.mul_pos_of_neg_of_neg h4 h5
 have OO:(x1 * x2) * ((u1 * x1+u2 * y1) * (u1 * x2+u2 * y2))=(u1 * (x1 * x2)+u2 * (x1 * y2)) * (u1 * (x1 * x2)+u2 * (x1 * y2)):=by grind
 have hsq:0<=(u1 * (x1 * x2)+u2 * (x1 * y2)) * (u1 * (x1 * x2)+u2 * (x1 * y2)):=by
  rcases Int.le_total 0 (u1 * (x1 * x2)+u2 * (x1 * y2)) with h|h
  ·exact Int.mul_nonneg h h
  ·exact Int.mul_nonneg_of_nonpos_of_nonpos h h
 rcases Int.lt_or_eq_of_le h1 with h|h
 ·have := Int.mul_neg_of_neg_of_pos h hP
  omega
 ·have hm:(x1 * y2) * (x1 * y2)=0:=by
   have:(x1 * y2) * (x1 * y2)=(x1 * x2) * (y1 * y2):=by grind
   rw [this,h];simp
  have hm0:x1 * y2=0:=by
   rcases Int.mul_eq_zero.1 hm with h|h<;>exact h
  have FI:(u1 * x1+u2 * y1) * (u1 * x2+u2 * y2)=(u2 * u2) * (y1 * y2):=by grind
  have hu:0<=u2 * u2:=by
   rcases Int.le_total 0 u2 with h|h
   ·exact Int.mul_nonneg h h
   ·exact Int.mul_nonneg_of_nonpos_of_nonpos h h
  have:(u2 * u2) * (y1 * y2)<=0:=Int.mul_nonpos_of_nonneg_of_nonpos hu h2
  omega
theorem I2 {l:List Pt} {p:Pt} (h:I1 l p):Oo l 1 p:=by
 intro u
 obtain ⟨a,ha,b,hb,h⟩:=h
 rcases h with ⟨h1,h2,h3⟩|⟨c,hc,h1,h2,h3,h4⟩
 ·by_cases h5 : dt u p ≤ dt u a
  ·exact ⟨a,ha,by omega⟩
  by_cases h6:dt u p<=dt u b
  ·exact ⟨b,hb,by omega⟩
  exfalso
  refine RN (u1:=u.1) (u2:=u.2) h2 h3 ?_ ?_ ?_
  ·simp only [turn] at h1;grind
  ·simp only [dt] at h5;grind
  ·simp only [dt] at h6;grind
 ·by_cases h5 : dt u p ≤ dt u a
  ·exact ⟨a,ha,by omega⟩
  by_cases h6:dt u p<=dt u b
  ·exact ⟨b,hb,by omega⟩
  by_cases h7:dt u p<=dt u c
  ·exact ⟨c,hc,by omega⟩
  exfalso
  have OO:turn b c p * (dt u p - dt u a)+turn c a p * (dt u p - dt u b)+turn a b p * (dt u p - dt u c)=0:=by simp only [turn,dt];grind
  have FI:turn b c p+turn c a p+turn a b p=turn a b c:=by simp only [turn];grind
  have q1:=Int.mul_nonneg h3 (show 0<=dt u p - dt u a by omega)
  have q2:=Int.mul_nonneg h4 (show 0<=dt u p - dt u b by omega)
  have q3:=Int.mul_nonneg h2 (show 0<=dt u p - dt u c by omega)
  have z1:turn b c p=0:=by
   rcases Int.mul_eq_zero.1 (show turn b c p * (dt u p - dt u a)=0 by omega) with h|h
   ·exact h
   ·omega
  have z2:turn c a p=0:=by
   rcases Int.mul_eq_zero.1 (show turn c a p * (dt u p - dt u b)=0 by omega) with h|h
   ·exact h
   ·omega
  have z3:turn a b p=0:=by
   rcases Int.mul_eq_zero.1 (show turn a b p * (dt u p - dt u c)=0 by omega) with h|h
   ·exact h
   ·omega
  omega
def sd (a : Pt) : List Pt → List (Pt × Pt)
 |[]=>[]
 |d::r=>(a,d)::sd (add a d) r
theorem A8 {a v d:Pt} {ds:List Pt}:(v,d)∈sd a ds↔∃A B,ds=A++d::B/\v=add a (sm A):=by
 induction ds generalizing a with
 |nil=>simp [sd]
 |cons x r ih =>
  simp only [sd,List.mem_cons,ih,Prod.mk.injEq]
  constructor
  ·rintro (⟨rfl, rfl⟩ | ⟨A, B, rfl, rfl⟩)
   ·exact ⟨[],r,rfl,by simp [sm,add]⟩
   ·exact ⟨x::A,B,rfl,by rw [sm,add_assoc]⟩
  ·rintro ⟨A, B, h, rfl⟩
   cases A with
   |nil =>
    simp only [List.nil_append,List.cons.injEq] at h
    exact Or.inl ⟨by simp [sm,add],h.1.symm⟩
   |cons y A =>
    simp only [List.cons_append,List.cons.injEq] at h
    obtain ⟨rfl,rfl⟩:=h
    exact Or.inr ⟨A,B,rfl,by rw [sm,add_assoc]⟩
def out (d:Pt):Pt:=(d.2,-d.1)
theorem MZ (d:Pt):EK (out d)=d:=by simp [EK,out]
theorem iM (d x:Pt):dt (out d) x = - cr d x:=by simp only [dt,out,cr];grind
theorem RO (d:Pt):S d d=true:=by rw [nH,nG];simp
theorem CU {d e:Pt} (h:al e d):S d e=true:=by
 rw [nH]
 rcases h with h|⟨h1,h2⟩
 ·exact Or.inl h
 ·exact Or.inr ⟨h1,by omega⟩
theorem Oq {d e:Pt} (h:al d e):S d e=false:=by
 rw [<-Bool.not_eq_true,nH]
 rcases h with ⟨h1,h2⟩|⟨h1,h2⟩
 ·rw [h1,h2];simp
 ·rw [h1, fu] ; rw [fu] at h2
  intro h
  rcases h with ⟨a,b⟩|⟨a,b⟩
  ·rw [a] at b;cases b
  ·rw [fu] at h2;omega
theorem M0 {A B:List Pt} {d:Pt} (h:(A++d::B).Pairwise al):(A++d::B).filter (S d)=A++[d]:=by
 rw [List.pairwise_append,List.pairwise_cons] at h
 have e1:A.filter (S d)=A:=List.filter_eq_self.2 fun x hx=>CU (h.2.2 x hx d (by simp))
 have e2:B.filter (S d)=[]:=List.filter_eq_nil_iff.2 fun x hx=>by rw [Oq (h.2.1.1 x hx)];simp
 rw [List.filter_append,e1,List.filter_cons_of_pos (RO d),e2]
theorem Ot {A B:List Pt} {d:Pt} (h:(A++d::B).Pairwise al):mF (out d) (A++d::B)=dt (out d) (sm A):=by
 rw [mF,MZ,M0 h,List.map_append,List.sum_append,sK,List.map_singleton]
 simp [iM,nG]
theorem CV {a v d w:Pt} {ds:List Pt} (h:Sd ds) (hv:(v,d)∈sd a ds) (hw:w∈cs a ds):0<=cr d (sub w v):=by
 obtain ⟨A,B,rfl,rfl⟩:=A8.1 hv
 have h1:=sL (u:=out d) h hw
 rw [Ot h.x7,iM,iM,iM] at h1
 simp only [cr,sub,add] at h1 ⊢
 grind
def Has (a:Pt) (ds:List Pt) (n:Int) (p:Pt):Prop :=
 (ds=[]->p=cY n a)/\(∀v d,(v,d)∈sd a ds->0<=cr d (sub p (cY n v))) /\
 (∃v∈cs a ds,n * v.1<=p.1)/\(∃v∈cs a ds,p.1<=n * v.1)/\(∃v∈cs a ds,n * v.2<=p.2)/\(∃v∈cs a ds,p.2<=n * v.2)
theorem I3 {a p:Pt} {ds:List Pt} {n:Int} (h:Sd ds) (hn:0<=n) (hs:Oo (cs a ds) n p):Has a ds n p:=by
 have b1:∃v∈cs a ds,n * v.1<=p.1:=by
  obtain ⟨v,hv,h⟩:=hs (-1,0)
  exact ⟨v,hv,by simp only [dt] at h;grind⟩
 have b2:∃v∈cs a ds,p.1<=n * v.1:=by
  obtain ⟨v,hv,h⟩:=hs (1,0)
  exact ⟨v,hv,by simp only [dt] at h;grind⟩
 have b3:∃v∈cs a ds,n * v.2<=p.2:=by
  obtain ⟨v,hv,h⟩:=hs (0,-1)
  exact ⟨v,hv,by simp only [dt] at h;grind⟩
 have b4:∃v∈cs a ds,p.2<=n * v.2:=by
  obtain ⟨v,hv,h⟩:=hs (0,1)
  exact ⟨v,hv,by simp only [dt] at h;grind⟩
 refine ⟨fun e=>?_,fun v d hv=>?_,b1,b2,b3,b4⟩
 ·subst e
  simp only [cs,if_true,List.mem_singleton,exists_eq_left] at b1 b2 b3 b4
  exact Prod.ext (by simp only [cY];omega) (by simp only [cY];omega)
 ·obtain ⟨w, hw, h1⟩ := hs (out d)
  have h2:=CV h hv hw
  rw [iM,iM] at h1
  have h3:=Int.mul_nonneg hn h2
  simp only [cr,sub,cY] at h1 h3 ⊢
  grind
theorem conv {a d e:Pt} {A B:List Pt} (h:Sd (A++d::e::B)) (hB:B≠[]):0<turn a (add a (sm (A++[d]))) (add a (sm (A++[d,e]))):=by
 have hs:(A++d::e::B)=(A++[d])++e::B:=by simp
 have M3:=h.x7
 rw [hs] at M3
 have hF:mF (out e) (A++d::e::B)=dt (out e) (sm (A++[d])):=by rw [hs];exact Ot M3
 have ht:turn a (add a (sm (A++[d]))) (add a (sm (A++[d,e])))=dt (out e) (sm (A++[d])):=by
  rw [show A++[d,e]=(A++[d])++[e] by simp,bZ (A++[d]) [e]]
  generalize sm (A++[d])=x
  rw [iM]
  simp only [turn,add,sm,cr];grind
 rw [ht,sK]
 have ze:e≠(0,0):=h.nz e (by simp)
 rw [List.pairwise_append] at M3
 have SR:al d e:=M3.2.2 d (by simp) e (by simp)
 have hf:∀x,dt (out e) x=cr x e:=fun x=>by rw [iM,fu];omega
 cases h0e:h0 e
 ·have tS : ((A ++ d :: e :: B).map (dt (out e))).sum = 0 := by rw [← sK, h.cl]; simp [dt]
  rw [hs,List.map_append,List.sum_append,List.map_cons,List.sum_cons] at tS
  have he0:dt (out e) e=0:=by rw [hf,nG]
  have hneg:∀x∈B,dt (out e) x<0:=fun x hx=>by
   rw [hf]
   exact IY h0e (Oq ((List.pairwise_cons.1 M3.2.1).1 x hx))
  have:(B.map (dt (out e))).sum<0:=by
   cases B with
   |nil=>exact absurd rfl hB
   |cons x r =>
    rw [List.map_cons,List.sum_cons]
    have h1:=hneg x (by simp)
    have h2:(r.map (dt (out e))).sum<=0:=mG fun y hy=>by
     obtain ⟨z,hz,rfl⟩:=List.mem_map.1 hy
     have:=hneg z (by simp [hz]);omega
    omega
  omega
 ·rw [List.map_append, List.sum_append, List.map_singleton, List.sum_singleton]
  have h1:0<=(A.map (dt (out e))).sum:=mH fun y hy=>by
   obtain ⟨z,hz,rfl⟩:=List.mem_map.1 hy
   rw [hf];exact IZ h0e (CU (M3.2.2 z (by simp [hz]) e (by simp)))
  have h2:0<dt (out e) d:=by
   rw [hf]
   rcases SR with ⟨-,b⟩|⟨-,b⟩
   ·rw [h0e] at b;cases b
   ·exact b
  omega
end Go.fD
end
section
namespace Go.fD
def iC (a:Pt) (ds:List Pt) (i:Nat):Pt:=add a (sm (ds.take i))
theorem nI (a:Pt) (ds:List Pt):iC a ds 0=a:=by simp [iC,sm,add]
theorem zg {a:Pt} {ds:List Pt} {i:Nat} (h:i<ds.length):iC a ds (i+1)=add (iC a ds i) ds[i]:=by
 unfold iC
 rw [List.take_succ_eq_append_getElem h,bZ,<-add_assoc]
 simp [sm,add]
theorem sM {a:Pt} {ds:List Pt} (h:Sd ds):iC a ds ds.length=a:=by
 unfold iC;rw [List.take_length,h.cl,add_zero]
theorem RP {a:Pt} {ds:List Pt} {i:Nat} (h:i<ds.length):(vs a ds)[i]'(by rw [A5];exact h)=iC a ds i:=by
 induction ds generalizing a i with
 |nil=>simp at h
 |cons d r ih =>
  cases i with
  |zero=>simp [vs,iC,sm,add]
  |succ i =>
   simp only [vs,List.getElem_cons_succ]
   rw [ih (by simpa using h)]
   unfold iC
   rw [List.take_succ_cons,sm,add_assoc]
theorem Ou {a:Pt} {ds:List Pt} {i:Nat} (h:i<ds.length):(iC a ds i,ds[i])∈sd a ds :=
 A8.2 ⟨ds.take i,ds.drop (i+1),by rw [List.getElem_cons_drop h,List.take_append_drop],rfl⟩
theorem uS (a b c:Pt):turn b a c = - turn a b c:=by simp only [turn];grind
theorem oU {a p:Pt} {ds:List Pt} {n:Int} (hn:0<=n) (hh:Has a ds n p) {i:Nat} (h:i<ds.length) :
  0<=turn (cY n (iC a ds i)) (cY n (iC a ds (i+1))) p:=by
 have h1:=Int.mul_nonneg hn (hh.2.1 _ _ (Ou h))
 rw [zg h]
 generalize iC a ds i=v at h1 ⊢
 generalize ds[i]=d at h1 ⊢
 simp only [turn,cY,add,cr,sub] at h1 ⊢
 grind
theorem CW {a:Pt} {ds:List Pt} (h:Sd ds) {i:Nat} (h1:1<=i) (h2:i+1<ds.length):0<turn a (iC a ds i) (iC a ds (i+1)):=by
 obtain ⟨k,rfl⟩:∃k,i=k+1:=⟨i - 1,by omega⟩
 have e:ds=ds.take k++ds[k]::ds[k+1]::ds.drop (k+2):=by
  rw [List.getElem_cons_drop (by omega),List.getElem_cons_drop (by omega),List.take_append_drop]
 have e1:ds.take (k+1)=ds.take k++[ds[k]]:=List.take_succ_eq_append_getElem (by omega)
 have e2:ds.take (k+2)=ds.take k++[ds[k],ds[k+1]]:=by
  rw [show k+2=(k+1)+1 from rfl,List.take_succ_eq_append_getElem (show k+1<ds.length by omega),e1,List.append_assoc];rfl
 unfold iC
 rw [show k+1+1=k+2 from rfl,e1,e2]
 have hB:ds.drop (k+2)≠[]:=by
  intro h;have:=congrArg List.length h;rw [List.length_drop] at this;simp at this;omega
 rw [e] at h
 exact conv h hB
theorem ivt {f:Nat->Int} {m:Nat} (h1:0<=f 1) (hm:2<=m) (h2:f m<=0):∃i,1<=i/\i<m/\0<=f i/\f (i+1)<=0:=by
 induction m with
 |zero=>omega
 |succ m ih =>
  rcases Int.le_total 0 (f m) with h|h
  ·exact ⟨m,by omega,by omega,h,h2⟩
  ·by_cases h3 : 2 ≤ m
   ·obtain ⟨i, a, b, c⟩ := ih h3 h
    exact ⟨i,a,by omega,c⟩
   ·have : m = 1 := by omega
    subst this
    exact ⟨1,by omega,by omega,h1,h2⟩
theorem fan {a p:Pt} {ds:List Pt} {n:Int} (hs:Sd ds) (hn:0<=n) (hh:Has a ds n p) (hl:3<=ds.length) :
  ∃i,1<=i/\i+1<ds.length/\0<=turn (cY n (iC a ds i)) (cY n (iC a ds (i+1))) p/\0<=turn (cY n (iC a ds (i+1))) (cY n a) p/\0<=turn (cY n a) (cY n (iC a ds i)) p:=by
 have h1:=oU hn hh (show 0<ds.length by omega)
 have h2:=oU hn hh (show ds.length - 1<ds.length by omega)
 rw [nI] at h1
 rw [show ds.length - 1+1=ds.length by omega,sM hs,uS] at h2
 obtain ⟨i,a1,a2,a3,a4⟩:=ivt (f:=fun j=>turn (cY n a) (cY n (iC a ds j)) p) (m:=ds.length - 1) h1 (by omega) (by omega)
 exact ⟨i,a1,by omega,oU hn hh (by omega),by rw [uS];omega,a3⟩
theorem A9 {a:Pt} {ds:List Pt} {i:Nat} (h:i<ds.length):iC a ds i∈cs a ds:=by
 unfold cs
 rw [if_neg (by rintro rfl;simp at h)]
 exact oT.2 ⟨i,h,rfl⟩
theorem nJ {a:Pt} {ds:List Pt}:a∈cs a ds:=by
 by_cases h:ds=[]
 ·subst h;simp [cs]
 ·have := A9 (a := a) (i := 0) (List.length_pos_iff.2 h)
  rwa [nI] at this
theorem Ba {ds:List Pt} (h:Sd ds) (hl:¬3<=ds.length):ds=[]\/∃d,ds=[d,neg d]/\d≠(0,0):=by
 match ds,hl with
 |[],_=>exact Or.inl rfl
 |[d],_ =>
  exfalso
  have:=h.cl
  simp only [sm,add_zero] at this
  exact h.nz d (by simp) this
 |[d,e],_ =>
  right
  have:=h.cl
  simp only [sm,add_zero] at this
  refine ⟨d,?_,h.nz d (by simp)⟩
  have h1:=congrArg Prod.fst this;have h2:=congrArg Prod.snd this
  simp only [add] at h1 h2
  rw [show e=neg d from Prod.ext (by simp only [neg];omega) (by simp only [neg];omega)]
 |_::_::_::_,hl=>exact absurd (by simp) hl
theorem EL {a p:Pt} {ds:List Pt} {n:Int} (hs:Sd ds) (hn:0<n) (hh:Has a ds n p):I1 ((cs a ds).map (cY n)) p:=by
 have mm:∀{i:Nat},i<ds.length->cY n (iC a ds i)∈(cs a ds).map (cY n):=fun h=>List.mem_map.2 ⟨_,A9 h,rfl⟩
 have m0:cY n a∈(cs a ds).map (cY n):=List.mem_map.2 ⟨_,nJ,rfl⟩
 by_cases hl:3<=ds.length
 ·obtain ⟨i, h1, h2, h3, h4, h5⟩ := fan hs (by omega) hh hl
  have hc:=CW (a:=a) hs h1 h2
  refine ⟨_,m0,_,mm (show i<ds.length by omega),Or.inr ⟨_,mm h2,?_,h5,h3,h4⟩⟩
  have:turn (cY n a) (cY n (iC a ds i)) (cY n (iC a ds (i+1)))=n * n * turn a (iC a ds i) (iC a ds (i+1)):=by
   simp only [turn,cY];grind
  rw [this]
  exact Int.mul_pos (Int.mul_pos hn hn) hc
 ·rcases Ba hs hl with rfl | ⟨d, rfl, hd⟩
  ·have := hh.1 rfl
   subst this
   refine ⟨_,m0,_,m0,Or.inl ⟨?_,?_,?_⟩⟩
   ·simp only [turn];grind
   ·simp
   ·simp
  ·have m1 := mm (i := 1) (by simp)
   have e1:iC a [d,neg d] 1=add a d:=by simp [iC,sm,add]
   rw [e1] at m1
   have hcs:cs a [d,neg d]=[a,add a d]:=by simp [cs,vs]
   obtain ⟨-,RQ,b1,b2,b3,b4⟩:=hh
   rw [hcs] at b1 b2 b3 b4
   simp only [List.mem_cons,List.not_mem_nil,or_false,exists_eq_or_imp,exists_eq_left] at b1 b2 b3 b4
   have c1:=RQ a d (by simp [sd])
   have c2:=RQ (add a d) (neg d) (by simp [sd])
   refine ⟨_,m0,_,m1,Or.inl ⟨?_,?_,?_⟩⟩
   ·have g1:cr d (sub p (cY n a))=0:=by
     have:cr (neg d) (sub p (cY n (add a d))) = - cr d (sub p (cY n a)):=by simp only [cr,neg,sub,cY,add];grind
     omega
    have:turn (cY n a) (cY n (add a d)) p=n * cr d (sub p (cY n a)):=by simp only [turn,cr,sub,cY,add];grind
    rw [this,g1];simp
   ·show (n * a.1 - p.1) * (n * (a.1 + d.1) - p.1) ≤ 0
    simp only [add] at b1 b2
    rcases b1 with b1|b1<;>rcases b2 with b2|b2
    ·have : n * a.1 - p.1 = 0 := by omega
     rw [this];simp
    ·exact Int.mul_nonpos_of_nonpos_of_nonneg (by omega) (by omega)
    ·exact Int.mul_nonpos_of_nonneg_of_nonpos (by omega) (by omega)
    ·have : n * (a.1 + d.1) - p.1 = 0 := by omega
     rw [this];simp
   ·show (n * a.2 - p.2) * (n * (a.2 + d.2) - p.2) ≤ 0
    simp only [add] at b3 b4
    rcases b3 with b1|b1<;>rcases b4 with b2|b2
    ·have : n * a.2 - p.2 = 0 := by omega
     rw [this];simp
    ·exact Int.mul_nonpos_of_nonpos_of_nonneg (by omega) (by omega)
    ·exact Int.mul_nonpos_of_nonneg_of_nonpos (by omega) (by omega)
    ·have : n * (a.2 + d.2) - p.2 = 0 := by omega
     rw [this];simp
theorem wP (u v:Pt) (n:Int):dt u (cY n v)=n * dt u v:=by simp only [dt,cY];grind
theorem wQ {l:List Pt} {p:Pt} {n:Int} (h:I1 (l.map (cY n)) p):Oo l n p:=by
 intro u
 obtain ⟨v,hv,h1⟩:=I2 h u
 obtain ⟨w,hw,rfl⟩:=List.mem_map.1 hv
 exact ⟨w,hw,by rw [wP] at h1;omega⟩
theorem has_sup {a p:Pt} {ds:List Pt} {n:Int} (hs:Sd ds) (hn:0<n):Has a ds n p↔Oo (cs a ds) n p :=
 ⟨fun h=>wQ (EL hs hn h),fun h=>I3 hs (by omega) h⟩
end Go.fD
end
section
namespace Go.fD
def kp (x : Pt) : List Pt → List Pt
 |b::a::r=>if 0<turn a b x then x::b::a::r else kp x (a::r)
 |[b]=>[x,b]
 |[]=>[x]
def fZ (l:List Pt):List Pt:=l.foldl (fun s p=>kp p s) []
def CX (l:List Pt):List Pt:=if l.length<3 then l else (fZ l).reverse.dropLast++(fZ l.reverse).reverse.dropLast
def lx (p q:Pt):Prop:=h0 (sub q p)=true
theorem gh {p q:Pt}:lx p q↔p.1<q.1\/p.1=q.1/\p.2<q.2:=by
 unfold lx;rw [fL];simp only [sub];omega
theorem I4 {p q r:Pt} (h1:lx p q) (h2:lx q r):lx p r:=by rw [gh] at *;omega
theorem Bb {p:Pt}:¬lx p p:=by rw [gh];omega
def rs : List Pt → List Pt
 |b::a::r=>sub b a::rs (a::r)
 |_=>[]
end Go.fD
end
section
namespace Go.fD
end Go.fD
end
section
namespace Go.fD
theorem M4 (a b c:Pt):turn a b c=cr (sub b a) (sub c a):=by simp only [turn,cr,sub]
end Go.fD
end
section
namespace Go.fD
def nS (d e:Pt):Prop:=h0 d=h0 e/\cr d e=0
instance (d e:Pt):Decidable (nS d e):=inferInstanceAs (Decidable (_/\_))
theorem Yl (d e:Pt):al d e\/nS d e\/al e d:=by
 unfold al nS
 rw [fu e d]
 cases h0 d<;>cases h0 e<;>simp<;>omega
theorem jm {d e:Pt} (h:nS d e):nS e d:=⟨h.1.symm,by rw [fu];have:=h.2;omega⟩
theorem zi (d:Pt):nS d d:=⟨rfl,nG d⟩
theorem mI {d e:Pt} (h:nS d e):¬al d e:=by
 rintro (⟨a,b⟩|⟨a,b⟩)
 ·rw [h.1,b] at a;cases a
 ·rw [h.2] at b;omega
theorem oV {d e f:Pt} (zd:d≠(0,0)) (ze:e≠(0,0)) (zf:f≠(0,0)) (h1:nS d e) (h2:nS e f):nS d f:=by
 have a:=(On zd ze zf h1.1 h2.1 (by rw [h1.2];omega) (by rw [h2.2];omega)).1
 have h1':=jm h1
 have h2':=jm h2
 have b:=(On zf ze zd h2'.1 h1'.1 (by rw [h2'.2];omega) (by rw [h1'.2];omega)).1
 rw [fu] at b
 exact ⟨h1.1.trans h2.1,by omega⟩
theorem I5 {d e f:Pt} (zd:d≠(0,0)) (ze:e≠(0,0)) (zf:f≠(0,0)) (h1:nS d e) (h2:al e f):al d f:=by
 rcases h2 with ⟨a,b⟩|⟨a,b⟩
 ·exact Or.inl ⟨by rw [h1.1];exact a,b⟩
 ·exact Or.inr ⟨by rw [h1.1];exact a,(On zd ze zf h1.1 a (by rw [h1.2];omega) (by omega)).2 (Or.inr b)⟩
theorem RR {d e f:Pt} (zd:d≠(0,0)) (ze:e≠(0,0)) (zf:f≠(0,0)) (h1:al d e) (h2:nS e f):al d f:=by
 rcases h1 with ⟨a,b⟩|⟨a,b⟩
 ·exact Or.inl ⟨a,by rw [<-h2.1];exact b⟩
 ·exact Or.inr ⟨by rw [a];exact h2.1,(On zd ze zf a h2.1 (by omega) (by rw [h2.2];omega)).2 (Or.inl b)⟩
theorem Ov {t d e:Pt} (zt:t≠(0,0)) (zd:d≠(0,0)) (ze:e≠(0,0)) (h:nS d e):S t d=S t e:=by
 have key:∀{d e:Pt},d≠(0,0)->e≠(0,0)->nS d e->S t e=true->S t d=true:=by
  intro d e zd ze h hS
  rw [nH] at hS ⊢
  rcases hS with ⟨a,b⟩|⟨a,b⟩
  ·exact Or.inl ⟨by rw [h.1];exact a,b⟩
  ·exact Or.inr ⟨by rw [h.1];exact a,(On zd ze zt h.1 a (by rw [h.2];omega) b).1⟩
 cases h1:S t e with
 |true=>exact key zd ze h h1
 |false =>
  cases h2:S t d with
  |false=>rfl
  |true=>rw [key ze zd (jm h) h2] at h1;cases h1
theorem M6 {d e:Pt} (zd:d≠(0,0)) (ze:e≠(0,0)) (h:nS d e):nS (add d e) d/\add d e≠(0,0):=by
 have hd:d.1≠0\/d.2≠0:=by
  rcases d with ⟨x,y⟩
  simp only [ne_eq,Prod.mk.injEq,not_and] at zd
  by_cases hx:x=0
  ·right;exact zd hx
  ·left;exact hx
 have he:e.1≠0\/e.2≠0:=by
  rcases e with ⟨x,y⟩
  simp only [ne_eq,Prod.mk.injEq,not_and] at ze
  by_cases hx:x=0
  ·right;exact ze hx
  ·left;exact hx
 have h2:=h.2
 cases hh:h0 d with
 |true =>
  have h3:=h.1.symm.trans hh
  have a1:=fL.1 hh
  have a2:=fL.1 h3
  have a3:h0 (add d e)=true:=fL.2 (by simp only [add];omega)
  refine ⟨⟨by rw [a3,hh],by simp only [cr,add] at h2 ⊢;grind⟩,fun z=>?_⟩
  rw [z] at a3;rw [fL] at a3;simp at a3
 |false =>
  have h3:=h.1.symm.trans hh
  have a1:=oS.1 hh
  have a2:=oS.1 h3
  have a3:h0 (add d e)=false:=oS.2 (by simp only [add];omega)
  refine ⟨⟨by rw [a3,hh],by simp only [cr,add] at h2 ⊢;grind⟩,fun z=>?_⟩
  simp only [add,Prod.mk.injEq] at z
  omega
theorem gC (u:Pt) (A B:List Pt):mF u (A++B)=mF u A+mF u B:=by
 simp [mF,List.filter_append,List.map_append,List.sum_append]
theorem EM {A B:List Int} (h:A.Perm B):A.sum=B.sum:=by
 induction h with
 |nil=>rfl
 |cons x _ ih=>rw [List.sum_cons,List.sum_cons,ih]
 |swap x y l=>simp only [List.sum_cons];omega
 |trans _ _ h1 h2=>rw [h1,h2]
theorem M7 {u:Pt} {A B:List Pt} (h:A.Perm B):mF u A=mF u B:=by
 unfold mF
 exact EM ((h.filter _).map _)
theorem wR (A:List Pt):mF (0,0) A=0:=by
 unfold mF
 have hz:∀l:List Pt,(l.map (dt (0,0))).sum=0:=by
  intro l;induction l with
  |nil=>rfl
  |cons a b ih=>rw [List.map_cons,List.sum_cons,ih];simp [dt]
 exact hz _
theorem M8 {A B:List Pt} (h:A.Perm B):sm A=sm B:=by
 induction h with
 |nil=>rfl
 |cons x _ ih=>rw [sm,sm,ih]
 |swap x y l=>simp only [sm,add];exact Prod.ext (by simp only [];omega) (by simp only [];omega)
 |trans _ _ h1 h2=>rw [h1,h2]
def uT (s:List Pt×Pt) (d:Pt):List Pt×Pt :=
 (if s.2≠(0,0)/\nS s.2 d then (match s.1 with|e::r=>add e d::r|[]=>[d]) else d::s.1,d)
structure GI (l R:List Pt) (last:Pt):Prop where
 emp:l=[]->R=[]/\last=(0,0)
 hd:l≠[]->last∈l/\∃e t,R=e::t/\nS e last
 x7:R.Pairwise (fun e d=>al d e)
 nz:∀d∈R,d≠(0,0)
 sum:sm R.reverse=sm l
 mf:∀u,mF u R.reverse=mF u l
theorem RS:GI [] [] (0,0):=⟨fun _=>⟨rfl,rfl⟩,fun h=>(h rfl).elim,.nil,by simp,rfl,fun _=>rfl⟩
theorem M9 {l R:List Pt} {last d:Pt} (h:GI l R last) (nz:∀x∈l,x≠(0,0)) (zd:d≠(0,0)) (hs:∀x∈l,¬al d x):GI (l++[d]) (uT (R,last) d).1 (uT (R,last) d).2:=by
 unfold uT
 simp only
 by_cases hl:l=[]
 ·subst hl
  obtain ⟨rfl,rfl⟩:=h.emp rfl
  rw [if_neg (fun h=>h.1 rfl)]
  exact ⟨fun h=>by simp at h,fun _=>⟨by simp,d,[],rfl,zi d⟩,by simp,by simpa using zd,rfl,fun _=>rfl⟩
 ·obtain ⟨hm, e, t, rfl, hel⟩ := h.hd hl
  have zl:=nz _ hm
  have ze:=h.nz e (by simp)
  have hp:=List.pairwise_cons.1 h.x7
  have nK:=h.sum
  rw [List.reverse_cons] at nK
  have hmf:∀u,mF u (t.reverse++[e])=mF u l:=fun u=>by have:=h.mf u;rwa [List.reverse_cons] at this
  by_cases RQ:nS last d
  ·rw [if_pos ⟨zl, RQ⟩]
   have SS:=oV ze zl zd hel RQ
   obtain ⟨s1,s2⟩:=M6 ze zd SS
   refine ⟨fun h=>by simp at h,fun _=>⟨by simp,_,_,rfl,oV s2 ze zd s1 SS⟩,List.pairwise_cons.2 ⟨fun x hx=>RR (h.nz x (by simp [hx])) ze s2 (hp.1 x hx) (jm s1),hp.2⟩,
    fun x hx=>?_,?_,fun u=>?_⟩
   ·rcases List.mem_cons.1 hx with rfl | hx
    ·exact s2
    ·exact h.nz x (by simp [hx])
   ·rw [List.reverse_cons, bZ, bZ, ← nK, bZ, add_assoc]
    simp [sm,add]
   ·rw [List.reverse_cons, gC, gC, ← hmf, gC, Int.add_assoc]
    congr 1
    by_cases hu:u=(0,0)
    ·subst hu;rw [wR,wR,wR];rfl
    have zt:=A6 hu
    have e1:=Ov zt s2 ze s1
    have e2:=Ov zt ze zd SS
    simp only [mF,List.filter_cons,List.filter_nil,e1,<-e2]
    cases S (EK u) e<;>simp [iL]
  ·rw [if_neg (fun h => RQ h.2)]
   have hald:al last d:=by
    rcases Yl last d with h1|h1|h1
    ·exact h1
    ·exact (RQ h1).elim
    ·exact (hs _ hm h1).elim
   have SS:=I5 ze zl zd hel hald
   refine ⟨fun h=>by simp at h,fun _=>⟨by simp,_,_,rfl,zi d⟩,List.pairwise_cons.2 ⟨fun x hx=>?_,h.x7⟩,fun x hx=>?_,?_,fun u=>?_⟩
   ·rcases List.mem_cons.1 hx with rfl | hx
    ·exact SS
    ·exact sJ (h.nz x (by simp [hx])) ze zd (hp.1 x hx) SS
   ·rcases List.mem_cons.1 hx with rfl | hx
    ·exact zd
    ·exact h.nz x hx
   ·rw [List.reverse_cons,bZ,bZ,h.sum]
   ·rw [List.reverse_cons,gC,gC,h.mf u]
def CY (l:List Pt):List Pt×Pt:=l.foldl uT ([],0,0)
theorem sN (l:List Pt) (d:Pt):CY (l++[d])=uT (CY l) d:=by simp [CY,List.foldl_append]
theorem I6 {l:List Pt} (nz:∀x∈l,x≠(0,0)) (hs:l.Pairwise (fun x y=>¬al y x)):GI l (CY l).1 (CY l).2:=by
 have key:∀n (k:List Pt),k.length=n->(∀x∈k,x≠(0,0))->k.Pairwise (fun x y=>¬al y x)->GI k (CY k).1 (CY k).2:=by
  intro n
  induction n with
  |zero=>intro k hk _ _;rw [List.length_eq_zero_iff.1 hk];exact RS
  |succ n ih =>
   intro k hk hn hp
   have hne:k≠[]:=fun e=>by rw [e] at hk;simp at hk
   have e:=List.dropLast_concat_getLast hne
   have hl:k.dropLast.length=n:=by rw [List.length_dropLast];omega
   rw [<-e] at hn hp ⊢
   rw [List.pairwise_append] at hp
   rw [sN]
   have h:=ih _ hl (fun x hx=>hn x (List.mem_append_left _ hx)) hp.1
   exact M9 h (fun x hx=>hn x (List.mem_append_left _ hx)) (hn _ (by simp)) (fun x hx=>hp.2.2 x hx _ (by simp))
 exact key _ l rfl nz hs
def EN (l:List Pt):List Pt:=(CY l).1.reverse
theorem RT {l:List Pt} (nz:∀x∈l,x≠(0,0)) (hs:l.Pairwise (fun x y=>¬al y x)) (h0:sm l=(0,0)) :
  Sd (EN l)/\(∀u,mF u (EN l)=mF u l)/\(EN l=[]↔l=[]):=by
 have h:=I6 nz hs
 refine ⟨⟨List.pairwise_reverse.2 h.x7,fun d hd=>h.nz d (by simpa [EN] using hd),h.sum.trans h0⟩,h.mf,?_,fun e=>by rw [EN,(h.emp e).1];rfl⟩
 intro e
 by_cases hl:l=[]
 ·exact hl
 ·obtain ⟨-, a, t, h1, -⟩ := h.hd hl
  rw [EN,h1] at e;simp at e
def chain (a:Pt) (ds:List Pt):List Pt:=vs a ds++[add a (sm ds)]
theorem Na (a:Pt) (ds:List Pt) (d:Pt):vs a (ds++[d])=vs a ds++[add a (sm ds)]:=by
 induction ds generalizing a with
 |nil=>simp [vs,sm,add]
 |cons e r ih=>simp only [List.cons_append,vs,ih,sm,add_assoc]
theorem sP (a:Pt) (ds:List Pt) (d:Pt):chain a (ds++[d])=chain a ds++[add (add a (sm ds)) d]:=by
 simp only [chain,Na,bZ,sm,add_zero,add_assoc]
theorem Bc {a:Pt} {l:List Pt} {d:Pt} (nz:∀x∈l,x≠(0,0)) (hs:l.Pairwise (fun x y=>¬al y x)) :
  chain a (EN (l++[d]))=if (CY l).2≠(0,0)/\nS (CY l).2 d then (chain a (EN l)).dropLast++[add (add a (sm l)) d] else chain a (EN l)++[add (add a (sm l)) d]:=by
 have h:=I6 nz hs
 unfold EN
 rw [sN]
 unfold uT
 simp only
 have nK:=h.sum
 by_cases hc:(CY l).2≠(0,0)/\nS (CY l).2 d
 ·rw [if_pos hc, if_pos hc]
  by_cases hl:l=[]
  ·exact (hc.1 (h.emp hl).2).elim
  ·obtain ⟨-, e, t, h1, -⟩ := h.hd hl
   rw [h1] at nK ⊢
   rw [List.reverse_cons] at nK
   simp only [List.reverse_cons,sP]
   rw [<-nK,bZ,List.dropLast_concat]
   simp [sm,add,Int.add_assoc]
 ·rw [if_neg hc,if_neg hc,List.reverse_cons,sP,nK]
theorem Be {a:Pt} {ds:List Pt} (h:ds≠[]):(chain a ds).dropLast=cs a ds:=by simp [chain,cs,h]
theorem EO {a v:Pt} {ds:List Pt} (h:Sd ds):v∈chain a ds↔v∈cs a ds:=by
 unfold chain cs
 rw [h.cl]
 split
 ·rename_i e;subst e;simp [vs,add]
 ·rename_i hne
  simp only [List.mem_append,List.mem_singleton]
  constructor
  ·rintro (h | rfl)
   ·exact h
   ·cases ds with
    |nil=>exact (hne rfl).elim
    |cons d r=>simp [vs,add]
  ·exact Or.inl
end Go.fD
end
section
namespace Go.fD
def Ow : List Pt → List (List Pt) → Prop
 |[],[]=>True
 |p::ps,l::U=>p∈l/\Ow ps U
 |_,_=>False
def jS (out:List Pt) (U:List (List Pt)):List Pt:=U.foldl (fun out l=>out.flatMap fun p=>l.map fun q=>add p q) out
def jU (U:List (List Pt)):List Pt:=jS [(0,0)] U
theorem EP {v:Pt} {U:List (List Pt)}:∀{out:List Pt},v∈jS out U↔∃o∈out,∃ps,Ow ps U/\v=add o (sm ps):=by
 induction U with
 |nil =>
  intro out
  simp only [jS,List.foldl_nil]
  constructor
  ·exact fun h=>⟨v,h,[],trivial,by simp [sm,add]⟩
  ·rintro ⟨o, ho, ps, hs, rfl⟩
   cases ps with
   |nil=>simpa [sm,add] using ho
   |cons=>exact hs.elim
 |cons l U ih =>
  intro out
  rw [jS,List.foldl_cons]
  refine (ih (out:=out.flatMap fun p=>l.map fun q=>add p q)).trans ⟨?_,?_⟩
  ·rintro ⟨o, ho, ps, hs, rfl⟩
   obtain ⟨p,hp,ho⟩:=List.mem_flatMap.1 ho
   obtain ⟨q,hq,rfl⟩:=List.mem_map.1 ho
   exact ⟨p,hp,q::ps,⟨hq,hs⟩,by rw [sm,add_assoc]⟩
  ·rintro ⟨o, ho, ps, hs, rfl⟩
   cases ps with
   |nil=>exact hs.elim
   |cons q ps=>exact ⟨add o q,List.mem_flatMap.2 ⟨o,ho,List.mem_map.2 ⟨q,hs.1,rfl⟩⟩,ps,hs.2,by rw [sm,add_assoc]⟩
theorem zero_add (p:Pt):add (0,0) p=p:=by simp [add]
theorem sQ {v:Pt} {U:List (List Pt)}:v∈jU U↔∃ps,Ow ps U/\v=sm ps:=by
 rw [jU,EP]
 simp [zero_add]
abbrev cL:=Pt×List Pt
def kP (u:Pt) (U:List cL):Int:=(U.map fun x=>dt u x.1+mF u x.2).sum
def bM (U:List cL):List (List Pt):=U.map fun x=>cs x.1 x.2
theorem RU {u:Pt} {U:List cL} (h:∀x∈U,Sd x.2):∀{ps:List Pt},Ow ps (bM U)->dt u (sm ps)<=kP u U:=by
 induction U with
 |nil =>
  intro ps hs
  cases ps with
  |nil=>simp [sm,dt,kP]
  |cons=>exact hs.elim
 |cons x U ih =>
  intro ps hs
  cases ps with
  |nil=>exact hs.elim
  |cons p ps =>
   have h1:=sL (u:=u) (h x (by simp)) hs.1
   have h2:=ih (fun y hy=>h y (by simp [hy])) hs.2
   simp only [kP,List.map_cons,List.sum_cons] at h2 ⊢
   rw [sm,iL];omega
theorem RW {u:Pt} {U:List cL} (h:∀x∈U,Sd x.2):∃ps,Ow ps (bM U)/\dt u (sm ps)=kP u U:=by
 induction U with
 |nil=>exact ⟨[],trivial,by simp [sm,dt,kP]⟩
 |cons x U ih =>
  obtain ⟨p,hp,h1⟩:=uR (u:=u) (a:=x.1) (h x (by simp))
  obtain ⟨ps,hs,h2⟩:=ih fun y hy=>h y (by simp [hy])
  exact ⟨p::ps,⟨hp,hs⟩,by rw [sm,iL,h1,h2];simp [kP]⟩
theorem Nb {u v:Pt} {U:List cL} (h:∀x∈U,Sd x.2) (hv:v∈jU (bM U)):dt u v<=kP u U:=by
 obtain ⟨ps,hs,rfl⟩:=sQ.1 hv
 exact RU h hs
theorem Nc {u:Pt} {U:List cL} (h:∀x∈U,Sd x.2):∃v∈jU (bM U),dt u v=kP u U:=by
 obtain ⟨ps,hs,e⟩:=RW (u:=u) h
 exact ⟨_,sQ.2 ⟨ps,hs,rfl⟩,e⟩
theorem I7 {a p:Pt} {ds:List Pt} (h:Sd ds) {n:Int} (hn:0<=n):Oo (cs a ds) n p↔∀u,dt u p<=n * (dt u a+mF u ds):=by
 constructor
 ·intro hs u
  obtain ⟨v,hv,h1⟩:=hs u
  have:=Int.mul_le_mul_of_nonneg_left (sL (u:=u) h hv) hn
  omega
 ·intro hs u
  obtain ⟨v,hv,h1⟩:=uR (u:=u) (a:=a) h
  exact ⟨v,hv,by rw [h1];exact hs u⟩
theorem I8 {p:Pt} {U:List cL} (h:∀x∈U,Sd x.2):Oo (jU (bM U)) 1 p↔∀u,dt u p<=kP u U:=by
 constructor
 ·intro hs u
  obtain ⟨v,hv,h1⟩:=hs u
  have:=Nb (u:=u) h hv
  omega
 ·intro hs u
  obtain ⟨v,hv,h1⟩:=Nc (u:=u) h
  exact ⟨v,hv,by rw [h1];have:=hs u;omega⟩
structure CZ (U:List cL) (a:Pt) (ds:List Pt):Prop where
 sd:Sd ds
 mx:∀u,dt u a+mF u ds=kP u U
 sel:∀v∈cs a ds,∃ps,Ow ps (bM U)/\v=sm ps
theorem ER {U:List cL} (h:∀x∈U,Sd x.2) {a:Pt} {ds:List Pt} (hs:CZ U a ds) (p:Pt):Oo (cs a ds) 1 p↔Oo (jU (bM U)) 1 p:=by
 rw [I7 hs.sd (by omega),I8 h]
 simp only [hs.mx,Int.one_mul]
theorem ES {U:List cL} {a:Pt} {ds:List Pt} (hs:CZ U a ds):∀v∈cs a ds,v∈jU (bM U):=fun v hv=>by
 obtain ⟨ps,h1,rfl⟩:=hs.sel v hv
 exact sQ.2 ⟨ps,h1,rfl⟩
theorem Nd {a p:Pt} {ds:List Pt} (hs:Sd ds) (h:¬Has a ds 1 p) :
  ∃u,(u∈[(1,0),(-1,0),(0,1),(0,-1)]\/∃d∈ds,u=out d)/\dt u a+mF u ds<dt u p:=by
 refine Classical.byContradiction fun hn=>h ?_
 have key:∀u,(u∈[((1,0):Pt),(-1,0),(0,1),(0,-1)]\/∃d∈ds,u=out d)->∃v∈cs a ds,dt u p<=dt u v:=by
  intro u hu
  obtain ⟨v,hv,h1⟩:=uR (u:=u) (a:=a) hs
  refine ⟨v,hv,?_⟩
  rcases Int.lt_or_le (dt u a+mF u ds) (dt u p) with h2|h2
  ·exact (hn ⟨u,hu,h2⟩).elim
  ·omega
 obtain ⟨v1,m1,e1⟩:=key (1,0) (by simp)
 obtain ⟨v2,m2,e2⟩:=key (-1,0) (by simp)
 obtain ⟨v3,m3,e3⟩:=key (0,1) (by simp)
 obtain ⟨v4,m4,e4⟩:=key (0,-1) (by simp)
 simp only [dt] at e1 e2 e3 e4
 refine ⟨fun e=>?_,fun v d hv=>?_,⟨v2,m2,by omega⟩,⟨v1,m1,by omega⟩,⟨v4,m4,by omega⟩,⟨v3,m3,by omega⟩⟩
 ·subst e
  simp only [cs,if_true,List.mem_singleton] at m1 m2 m3 m4
  subst m1;subst m2;subst m3;subst m4
  exact Prod.ext (by simp only [cY];omega) (by simp only [cY];omega)
 ·have hd : d ∈ ds := by obtain ⟨A, B, rfl, -⟩ := A8.1 hv; simp
  obtain ⟨w,hw,h1⟩:=key (out d) (Or.inr ⟨d,hd,rfl⟩)
  have h2:=CV hs hv hw
  rw [iM,iM] at h1
  simp only [cr,sub,cY] at h1 h2 ⊢
  grind
end Go.fD
end
section
namespace Go.fD
end Go.fD
end
section
namespace Go.fD
open Go.AM
def wS (a b:Pt):Bool:=decide (a.1<b.1)||(decide (a.1=b.1)&&decide (a.2<b.2))
theorem nL {a b:Pt}:wS a b=true↔lx a b:=by rw [gh];simp [wS]
theorem ordP:yI wS (fun _=>True) where
 PJ a b _ _ h:=by
  rw [nL,gh] at h
  rw [<-Bool.not_eq_true,nL,gh];omega
 Zy a b c _ _ _ h1 h2:=by
  rw [<-Bool.not_eq_true,nL,gh] at h1 h2 ⊢
  omega
def bw : List Pt → List Pt
 |[]=>[]
 |[a]=>[a]
 |a::b::r=>if a=b then bw (b::r) else a::bw (b::r)
theorem jn {v : Pt} : ∀ {l : List Pt}, v ∈ bw l ↔ v ∈ l
 |[]=>by simp [bw]
 |[a]=>by simp [bw]
 |a::b::r=>by
  unfold bw
  split
  ·rename_i e; subst e
   rw [jn];simp
  ·rw [List.mem_cons,jn,List.mem_cons (l:=b::r)]
theorem nM : ∀ {l : List Pt}, l.Pairwise (fun a b => wS b a = false) → (bw l).Pairwise lx
 |[],_=>by simp [bw]
 |[a],_=>by simp [bw]
 |a::b::r,h=>by
  have h':=List.pairwise_cons.1 h
  have ih:=nM h'.2
  unfold bw
  split
  ·exact ih
  ·rename_i hne
   refine List.pairwise_cons.2 ⟨fun v hv=>?_,ih⟩
   have hab:lx a b:=by
    have:=h'.1 b (by simp)
    rw [<-Bool.not_eq_true,nL,gh] at this
    rw [gh]
    have hne':a.1≠b.1\/a.2≠b.2:=by
     rcases Classical.em (a.1=b.1) with h1|h1
     ·exact .inr fun h2=>hne (Prod.ext h1 h2)
     ·exact .inl h1
    omega
   rw [jn] at hv
   rcases List.mem_cons.1 hv with rfl|hv
   ·exact hab
   ·have := (List.pairwise_cons.1 h'.2).1 v hv
    rw [<-Bool.not_eq_true,nL,gh] at this
    rw [gh] at hab ⊢
    omega
def Nf (l:List Pt):List Pt:=bw (bP wS l)
theorem zj (l:List Pt):(Nf l).Pairwise lx:=nM (nA ordP (fun _ _=>trivial))
theorem I9 {v:Pt} {l:List Pt}:v∈Nf l↔v∈l:=by rw [Nf,jn,(fK l).mem_iff]
def uU (l:List Pt):List Pt:=CX (Nf l)
abbrev Own:=Pt×Nat
def RX (d e:Pt):Bool:=(h0 d && !h0 e)||(h0 d==h0 e&&decide (0<cr d e))
theorem lq {d e:Pt}:RX d e=true↔al d e:=by simp [RX,al]
theorem C0 {d e:Pt} (zd:d≠(0,0)) (ze:e≠(0,0)) (h1:al d e) (h2:al e d):False:=A4 (sJ zd ze zd h1 h2)
theorem ordA:yI (fun a b:Own=>RX a.1 b.1) (fun x=>x.1≠(0,0)) where
 PJ a b ha hb h:=by
  rw [lq] at h
  rw [<-Bool.not_eq_true,lq]
  exact fun h'=>C0 ha hb h h'
 Zy a b c ha hb hc h1 h2:=by
  rw [<-Bool.not_eq_true,lq] at h1 h2 ⊢
  intro h
  rcases Yl a.1 b.1 with q|q|q
  ·exact h1 q
  ·rcases Yl b.1 c.1 with p | p | p
   ·exact h2 p
   ·exact mI (oV ha hb hc q p) h
   ·exact h2 (I5 hb ha hc (jm q) h)
  ·exact h2 (sJ hb ha hc q h)
def jH : List cL → Nat → List Own
 |[],_=>[]
 |x::U,k=>x.2.map (fun d=>(d,k))++jH U (k+1)
theorem uV {U:List cL}:∀{k:Nat} {x:Own},x∈jH U k->k<=x.2/\x.2<k+U.length/\∃p,U[x.2 - k]?=some p/\x.1∈p.2:=by
 induction U with
 |nil=>intro k x h;cases h
 |cons y U ih =>
  intro k x h
  rcases List.mem_append.1 h with h|h
  ·obtain ⟨d, hd, rfl⟩ := List.mem_map.1 h
   exact ⟨Nat.le_refl _,by simp,y,by simp,hd⟩
  ·obtain ⟨h1, h2, p, h3, h4⟩ := ih h
   refine ⟨by omega,by simp;omega,p,?_,h4⟩
   rw [show x.2 - k=x.2 - (k+1)+1 by omega];simpa using h3
theorem zk {U:List cL}:∀{k i:Nat},(jH U k).filter (fun x=>decide (x.2=i))=(match U[i - k]? with|some p=>if k<=i then p.2.map (fun d=>(d,i)) else []|none=>[]):=by
 induction U with
 |nil=>intro k i;simp [jH]
 |cons y U ih =>
  intro k i
  rw [jH,List.filter_append,ih,List.filter_map]
  by_cases h:k=i
  ·subst h
   have e1:y.2.filter ((fun x:Own=>decide (x.2=k))∘fun d=>(d,k))=y.2:=List.filter_eq_self.2 fun d _=>by simp
   rw [e1]
   simp
   cases U[0]? with
   |none=>rfl
   |some p=>simp only;rw [if_neg (by omega)]
  ·have e1 : y.2.filter ((fun x : Own => decide (x.2 = i)) ∘ fun d => (d, k)) = [] := List.filter_eq_nil_iff.2 fun d _ => by simp [h]
   rw [e1,List.map_nil,List.nil_append]
   by_cases hk:k<i
   ·rw [show i - k = i - (k + 1) + 1 by omega, List.getElem?_cons_succ]
    cases U[i - (k+1)]? with
    |none=>rfl
    |some p=>simp only;rw [if_pos (by omega),if_pos (by omega)]
   ·have : i - k = 0 := by omega
    rw [this]
    simp only [List.getElem?_cons_zero]
    rw [if_neg (by omega)]
    cases U[i - (k+1)]? with
    |none=>rfl
    |some p=>simp only;rw [if_neg (by omega)]
theorem Ja {U:List cL}:∀{k:Nat},(jH U k).map (·.1)=U.flatMap (·.2):=by
 induction U with
 |nil=>intro k;rfl
 |cons y U ih=>intro k;rw [jH,List.map_append,ih,List.flatMap_cons,List.map_map];congr 1;exact List.map_id' _
def gW (U:List cL):List Own:=bP (fun a b=>RX a.1 b.1) (jH U 0)
theorem eX (U:List cL):(gW U).Perm (jH U 0):=fK _
theorem wT {U:List cL} (h:∀x∈U,Sd x.2):∀x∈jH U 0,x.1≠(0,0):=fun x hx=>by
 obtain ⟨_,_,p,h3,h4⟩:=uV hx
 exact (h p (List.mem_of_getElem? h3)).nz _ h4
theorem kQ {U:List cL} (h:∀x∈U,Sd x.2):((gW U).map (·.1)).Pairwise (fun x y=>¬al y x):=by
 rw [List.pairwise_map]
 refine (nA ordA (wT h)).imp fun {a b} hab=>?_
 rw [<-lq];simpa using hab
theorem zm {U:List cL} (h:∀x∈U,Sd x.2) {i:Nat} {p:cL} (hp:U[i]?=some p):(gW U).filter (fun x=>decide (x.2=i))=p.2.map (fun d=>(d,i)):=by
 have e:(jH U 0).filter (fun x=>decide (x.2=i))=p.2.map (fun d=>(d,i)):=by
  rw [zk,show i - 0=i by omega,hp];simp
 have uW:=(eX U).filter (fun x=>decide (x.2=i))
 rw [e] at uW
 have hs:=h p (List.mem_of_getElem? hp)
 have hnz:=hs.nz
 have key:∀(l k:List Own),(∀x∈l,x.1≠(0,0))->l.Perm k->l.Pairwise (fun a b=>al a.1 b.1)->k.Pairwise (fun a b=>al a.1 b.1)->l=k:=by
  intro l
  induction l with
  |nil=>intro k _ hp _ _;exact (List.nil_perm.1 hp).symm
  |cons a l ih =>
   intro k hn hp hl hk
   cases k with
   |nil=>exact absurd hp.symm (by simp)
   |cons b k =>
    have e:a=b:=by
     have ha:a∈b::k:=hp.mem_iff.1 (by simp)
     have hb:b∈a::l:=hp.mem_iff.2 (by simp)
     rcases List.mem_cons.1 ha with h|h
     ·exact h
     rcases List.mem_cons.1 hb with h'|h'
     ·exact h'.symm
     exact (C0 (hn a (by simp)) (hn b hb) ((List.pairwise_cons.1 hl).1 b h') ((List.pairwise_cons.1 hk).1 a h)).elim
    subst e
    rw [ih k (fun x hx=>hn x (by simp [hx])) (List.perm_cons a |>.1 hp) (List.pairwise_cons.1 hl).2 (List.pairwise_cons.1 hk).2]
 have hk:(p.2.map (fun d=>((d,i):Own))).Pairwise (fun a b=>al a.1 b.1):=by rw [List.pairwise_map];exact hs.x7
 have JC:(p.2.map (fun d=>((d,i):Own))).Nodup:=by
  refine hk.imp fun {a b} hab e=>?_
  subst e;exact A4 hab
 refine key _ _ (fun x hx=>?_) uW ?_ hk
 ·obtain ⟨d, hd, rfl⟩ := List.mem_map.1 (uW.mem_iff.1 hx)
  exact hnz d hd
 ·have hnd2 : ((gW U).filter (fun x => decide (x.2 = i))).Nodup := uW.nodup_iff.2 JC
  have hs1:=kQ h
  rw [List.pairwise_map] at hs1
  have hs2:=hs1.sublist (List.filter_sublist (p:=fun x:Own=>decide (x.2=i)))
  refine (hs2.and hnd2).imp_of_mem fun {a b} ha hb hab=>?_
  obtain ⟨d,hd,rfl⟩:=List.mem_map.1 (uW.mem_iff.1 ha)
  obtain ⟨e,he,rfl⟩:=List.mem_map.1 (uW.mem_iff.1 hb)
  have hne:d≠e:=fun h=>hab.2 (by rw [h])
  -- of one polygon: in order, or the other way round
  rcases Yl d e with q|q|q
  ·exact q
  ·exfalso
   have Ny:∀x∈p.2,∀y∈p.2,x≠y->¬nS x y:=by
    intro x hx y hy hxy J3
    obtain ⟨n,hn,rfl⟩:=List.getElem_of_mem hx
    obtain ⟨m,hm,rfl⟩:=List.getElem_of_mem hy
    have M3:=List.pairwise_iff_getElem.1 hs.x7
    rcases Nat.lt_trichotomy n m with h|h|h
    ·exact mI J3 (M3 n m hn hm h)
    ·subst h;exact hxy rfl
    ·exact mI (jm J3) (M3 m n hm hn h)
   exact Ny d hd e he hne q
  ·exact (hab.1 q).elim
end Go.fD
end
section
namespace Go.fD
open Go.AM
theorem RY {l:List Pt} {i:Nat} {p d:Pt} (h:l[i]?=some p):sm (l.set i (add p d))=add (sm l) d:=by
 induction l generalizing i with
 |nil=>simp at h
 |cons a l ih =>
  cases i with
  |zero=>simp at h;subst h;simp only [List.set_cons_zero,sm,add];exact Prod.ext (by simp only [];omega) (by simp only [];omega)
  |succ i=>simp at h;simp only [List.set_cons_succ,sm,ih h,add_assoc]
structure Ng (U:List cL) (now:List Pt) (at_:Pt):Prop where
 len:now.length=U.length
 sum:sm now=at_
 pt:∀(i:Nat) (p:cL),U[i]?=some p->∃j,j<=p.2.length/\now[i]?=some (add p.1 (sm (p.2.take j)))
theorem Ng.sel {U:List cL} (hU:∀x∈U,Sd x.2) {now:List Pt} {at_:Pt} (h:Ng U now at_):Ow now (bM U):=by
 have key:∀(U:List cL) (now:List Pt),(∀x∈U,Sd x.2)->now.length=U.length->(∀(i:Nat) (p:cL),U[i]?=some p->∃j,j<=p.2.length/\now[i]?=some (add p.1 (sm (p.2.take j))))->Ow now (bM U):=by
  intro U
  induction U with
  |nil=>intro now _ hl _;rw [List.length_eq_zero_iff.1 hl];trivial
  |cons x U ih =>
   intro now hs hl hp
   cases now with
   |nil=>simp at hl
   |cons q now =>
    refine ⟨?_,ih now (fun y hy=>hs y (by simp [hy])) (by simpa using hl) fun i p hi=>by simpa using hp (i+1) p (by simpa using hi)⟩
    obtain ⟨j,hj,e⟩:=hp 0 x rfl
    simp only [List.getElem?_cons_zero,Option.some.injEq] at e
    subst e
    rw [<-EO (hs x (by simp)),chain]
    by_cases h:j<x.2.length
    ·exact List.mem_append_left _ (oT.2 ⟨j,h,rfl⟩)
    ·rw [List.take_of_length_le (by omega)];simp
 exact key U now hU h.len h.pt
abbrev Jb:=Pt×List Pt×List Pt×List (List Pt)×Pt
def nT (s:Jb) (x:Own):Jb :=
 (add s.1 x.1,s.2.1.set x.2 (add (s.2.1.getD x.2 (0,0)) x.1),
  (if s.2.2.2.2≠(0,0)/\nS s.2.2.2.2 x.1 then s.2.2.1.dropLast else s.2.2.1)++[add s.1 x.1],
  (if s.2.2.2.2≠(0,0)/\nS s.2.2.2.2 x.1 then s.2.2.2.1.dropLast else s.2.2.2.1)++[s.2.1.set x.2 (add (s.2.1.getD x.2 (0,0)) x.1)],x.1)
def jr (U:List cL):Pt:=sm (U.map (·.1))
def m5 (U:List cL):Jb:=(jr U,U.map (·.1),[jr U],[U.map (·.1)],0,0)
def sR (U:List cL) (cs:List Pt) (ps:List (List Pt)):Prop:=ps.length=cs.length/\∀(k:Nat) (v:Pt),cs[k]?=some v->∃now,ps[k]?=some now/\Ng U now v
theorem sR.drop {U:List cL} {cs:List Pt} {ps:List (List Pt)} (h:sR U cs ps):sR U cs.dropLast ps.dropLast:=by
 refine ⟨by simp [h.1],fun k v hk=>?_⟩
 have hlt:=(List.getElem?_eq_some_iff.1 hk).1
 simp only [List.length_dropLast] at hlt
 rw [List.getElem?_dropLast,if_pos hlt] at hk
 obtain ⟨now,e,hp⟩:=h.2 k v hk
 exact ⟨now,by rw [List.getElem?_dropLast,if_pos (by rw [h.1];exact hlt)];exact e,hp⟩
theorem sR.snoc {U:List cL} {cs:List Pt} {ps:List (List Pt)} (h:sR U cs ps) {now:List Pt} {at_:Pt} (hp:Ng U now at_):sR U (cs++[at_]) (ps++[now]):=by
 refine ⟨by simp [h.1],fun k v hk=>?_⟩
 by_cases hl:k<cs.length
 ·rw [List.getElem?_append_left hl] at hk
  obtain ⟨w,e,hw⟩:=h.2 k v hk
  exact ⟨w,by rw [List.getElem?_append_left (by rw [h.1];exact hl)];exact e,hw⟩
 ·have:k=cs.length:=by
   have:=(List.getElem?_eq_some_iff.1 hk).1
   simp at this;omega
  subst this
  simp at hk
  subst hk
  exact ⟨now,by rw [<-h.1];simp,hp⟩
structure SI (U:List cL) (L:List Own) (s:Jb):Prop where
 at_:s.1=add (jr U) (sm (L.map (·.1)))
 now:s.2.1.length=U.length/\∀(i:Nat) (p:cL),U[i]?=some p->s.2.1[i]?=some (add p.1 (sm (p.2.take (L.filter (fun x=>decide (x.2=i))).length)))
 sum:sm s.2.1=s.1
 pL:s.2.2.1=chain (jr U) (EN (L.map (·.1)))
 zJ:sR U s.2.2.1 s.2.2.2.1
 last:s.2.2.2.2=(CY (L.map (·.1))).2
theorem Jc {U:List cL}:SI U [] (m5 U):=by
 have hp:Ng U (U.map (·.1)) (jr U):=⟨by simp,rfl,fun i p hi=>⟨0,by omega,by simp [hi,sm,add]⟩⟩
 refine ⟨by simp [m5,sm,add],⟨by simp [m5],fun i p hi=>by simp [m5,hi,sm,add]⟩,rfl,by simp [m5,chain,EN,CY,vs,sm,add],⟨rfl,fun k v hk=>?_⟩,rfl⟩
 cases k with
 |zero=>simp [m5] at hk;subst hk;exact ⟨_,rfl,hp⟩
 |succ k=>simp [m5] at hk
theorem Nh {U:List cL} (hU:∀x∈U,Sd x.2) {L R:List Own} {x:Own} (hL:gW U=L++x::R) {s:Jb} (h:SI U L s):SI U (L++[x]) (nT s x):=by
 have hx:x∈gW U:=by rw [hL];simp
 obtain ⟨-,hlt,p,hp,hd⟩:=uV ((eX U).mem_iff.1 hx)
 simp only [Nat.zero_add,Nat.sub_zero] at hlt hp
 have hf:=zm hU hp
 rw [hL,List.filter_append,List.filter_cons_of_pos (by simp)] at hf
 -- how many of its sides went before
 have hj:p.2[(L.filter (fun y=>decide (y.2=x.2))).length]?=some x.1:=by
  have:((p.2.map (fun d=>((d,x.2):Own))))[(L.filter (fun y=>decide (y.2=x.2))).length]?=some x:=by rw [<-hf];simp
  rw [List.getElem?_map] at this
  cases hq:p.2[(L.filter (fun y=>decide (y.2=x.2))).length]? with
  |none=>rw [hq] at this;cases this
  |some d=>rw [hq] at this;simp only [Option.map_some,Option.some.injEq] at this;rw [<-this]
 have X3:=h.now.2 x.2 p hp
 have iG:s.2.1.getD x.2 (0,0)=add p.1 (sm (p.2.take (L.filter (fun y=>decide (y.2=x.2))).length)):=by
  rw [List.getD_eq_getElem?_getD,X3];rfl
 have hlt2:x.2<s.2.1.length:=by rw [h.now.1];exact hlt
 have E7:(nT s x).1=add (jr U) (sm ((L++[x]).map (·.1))):=by
  show add s.1 x.1=_
  rw [h.at_,List.map_append,bZ,add_assoc];simp [sm,add_zero]
 have ET:(nT s x).2.1.length=U.length/\∀(i:Nat) (q:cL),U[i]?=some q->(nT s x).2.1[i]?=some (add q.1 (sm (q.2.take ((L++[x]).filter (fun y=>decide (y.2=i))).length))):=by
  refine ⟨by show (List.set _ _ _).length=_;rw [List.length_set];exact h.now.1,fun i q hq=>?_⟩
  show (List.set _ _ _)[i]?=_
  rw [List.getElem?_set,List.filter_append]
  by_cases e:x.2=i
  ·subst e
   rw [hq] at hp;cases hp
   rw [if_pos rfl,if_pos hlt2,iG,List.filter_cons_of_pos (by simp),List.filter_nil,List.length_append,List.length_singleton]
   have O2:=(List.getElem?_eq_some_iff.1 hj).1
   rw [List.take_succ_eq_append_getElem O2,(List.getElem?_eq_some_iff.1 hj).2,bZ,add_assoc]
   simp [sm,add_zero]
  ·rw [if_neg e, List.filter_cons_of_neg (by simpa using e), List.filter_nil, List.append_nil]
   exact h.now.2 i q hq
 have nK:sm (nT s x).2.1=(nT s x).1:=by
  show sm (List.set _ _ _)=add s.1 x.1
  rw [<-h.sum,iG]
  exact RY X3
 have Jd:Ng U (nT s x).2.1 (nT s x).1:=by
  refine ⟨ET.1,nK,fun i q hq=>?_⟩
  refine ⟨min ((L++[x]).filter (fun y=>decide (y.2=i))).length q.2.length,Nat.min_le_right _ _,?_⟩
  rw [ET.2 i q hq,<-List.take_eq_take_min]
 have hnz:∀y∈(L++x::R).map (·.1),y≠(0,0):=fun y hy=>by
  rw [<-hL] at hy
  obtain ⟨z,hz,rfl⟩:=List.mem_map.1 hy
  exact wT hU z ((eX U).mem_iff.1 hz)
 have Xx:=kQ hU
 rw [hL,List.map_append] at Xx
 refine ⟨E7,ET,nK,?_,?_,?_⟩
 ·show _ ++ [add s.1 x.1] = _
  rw [List.map_append,List.map_singleton,Bc (fun y hy=>hnz y (by rw [List.map_append];exact List.mem_append_left _ hy)) (List.pairwise_append.1 Xx).1,<-h.last,<-h.pL,<-h.at_]
  split<;>rfl
 ·show sR U (_ ++ [add s.1 x.1]) (_ ++ [_])
  refine sR.snoc ?_ Jd
  split
  ·exact h.zJ.drop
  ·exact h.zJ
 ·show x.1 = _
  rw [List.map_append,List.map_singleton,sN];rfl
def eG (U:List cL):List Pt×List (List Pt) :=
 if jH U 0=[] then ((m5 U).2.2.1,(m5 U).2.2.2.1)
 else (((gW U).foldl nT (m5 U)).2.2.1.dropLast,((gW U).foldl nT (m5 U)).2.2.2.1.dropLast)
theorem RZ {U:List cL} (hU:∀x∈U,Sd x.2):SI U (gW U) ((gW U).foldl nT (m5 U)):=by
 have key:∀(R L:List Own) (s:Jb),gW U=L++R->SI U L s->SI U (gW U) (R.foldl nT s):=by
  intro R
  induction R with
  |nil=>intro L s e h;rw [e,List.append_nil] at *;exact h
  |cons x R ih =>
   intro L s e h
   rw [List.foldl_cons]
   exact ih (L++[x]) _ (by rw [e];simp) (Nh hU e h)
 exact key _ [] _ rfl Jc
def lP (U:List cL):List Pt:=EN ((gW U).map (·.1))
theorem qz {U:List cL} (hU:∀x∈U,Sd x.2):(eG U).1=cs (jr U) (lP U)/\sR U (eG U).1 (eG U).2/\CZ U (jr U) (lP U):=by
 have hnz:∀y∈(gW U).map (·.1),y≠(0,0):=fun y hy=>by
  obtain ⟨z,hz,rfl⟩:=List.mem_map.1 hy
  exact wT hU z ((eX U).mem_iff.1 hz)
 have Ox:((gW U).map (·.1)).Perm (U.flatMap (·.2)):=by rw [<-Ja (k:=0)];exact (eX U).map _
 have hsm:sm ((gW U).map (·.1))=(0,0):=by
  rw [M8 Ox]
  have key:∀U:List cL,(∀x∈U,Sd x.2)->sm (U.flatMap (·.2))=(0,0):=by
   intro U
   induction U with
   |nil=>intro _;rfl
   |cons x U ih=>intro h;rw [List.flatMap_cons,bZ,(h x (by simp)).cl,ih fun y hy=>h y (by simp [hy])];rfl
  exact key U hU
 obtain ⟨h1,h2,h3⟩:=RT hnz (kQ hU) hsm
 have J0:∀u,dt u (jr U)+mF u (lP U)=kP u U:=fun u=>by
  rw [lP,h2 u,M7 Ox]
  have key:∀U:List cL,dt u (sm (U.map (·.1)))+mF u (U.flatMap (·.2))=kP u U:=by
   intro U
   induction U with
   |nil=>simp [sm,dt,mF,kP]
   |cons x U ih =>
    simp only [kP,List.map_cons,List.sum_cons] at ih ⊢
    rw [sm,iL,List.flatMap_cons,gC];omega
  exact key U
 have hsi:=RZ hU
 have C1:(eG U).1=cs (jr U) (lP U)/\sR U (eG U).1 (eG U).2:=by
  unfold eG
  by_cases he:jH U 0=[]
  ·rw [if_pos he]
   have e0:gW U=[]:=List.Perm.eq_nil (he▸eX U)
   refine ⟨?_,Jc.zJ⟩
   have:lP U=[]:=by rw [lP,e0];rfl
   rw [this];simp [m5,cs]
  ·rw [if_neg he]
   have e0 : lP U ≠ [] := fun e => he (by
    have:=h3.1 e
    have e1:gW U=[]:=List.map_eq_nil_iff.1 this
    exact List.Perm.eq_nil (e1▸(eX U).symm))
   refine ⟨?_,hsi.zJ.drop⟩
   show (List.dropLast _)=_
   rw [hsi.pL]
   exact Be e0
 refine ⟨C1.1,C1.2,h1,J0,fun v hv=>?_⟩
 rw [<-C1.1] at hv
 obtain ⟨k,hk⟩:=List.getElem?_of_mem hv
 obtain ⟨now,-,hp⟩:=C1.2.2 k v hk
 exact ⟨now,hp.sel hU,hp.sum.symm⟩
end Go.fD
end
