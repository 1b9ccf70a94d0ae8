/- The known week, reckoned through. The level at which a pot is shared out: there is just one. Plain Lean. The level as the program finds it: farmers in the order in which they reach their Caps. Plain Lean. The level as the reference finds it: from Cap to Cap. Plain Lean. Dues: of all ways to say who gets the Cap, one that agrees with itself. Plain Lean. A week is valid: program and reference say the same. Maps that are kept in order: what stands in them. Plain Lean. A week is valid: program and reference say the same. The reference's check of a week. What a valid week is. Sugar: program and reference. Sugar: program and reference say the same. Sugar: program and reference say the same; the law. Claims in the order in which they reach their Caps. The program's level: walk. The program's level. The program's level: the rounds. Bills: claims and what is paid. The reference's level; both levels are the same. The levels are the same. Bounds: the program's. Cents: who gets one more. Plain Lean. Farmers by what was cut off, and by name. The program's payments. The reference's payments; the law. What payments are. What payments are: each is a due, rounded down, or one more where something was cut off. A harvest's week is valid. -/
import Derived.Test.YtilhpkaklpdblaaGreatW31
set_option linter.unusedSectionVars false
set_option linter.unusedVariables false
set_option linter.unusedSimpArgs false
section
namespace Go.Proofs.Tryz
open Go.AM
set_option maxRecDepth 100000
end Go.Proofs.Tryz
end
section
namespace Go.vn
def D1 (n d:Int) (c:Int×Int):Int:=min (n * c.2) (c.1 * d)
def DD (n d:Int) (cs:List (Int×Int)):Int:=(cs.map (D1 n d)).sum
def Nn (cs:List (Int×Int)):Prop:=∀c∈cs,0<=c.1/\0<=c.2
structure Lv (cs:List (Int×Int)) (all n d:Int):Prop where
 vo:0<d
 RZ:0<=n
 red:Int.gcd n d=1
 sum:DD n d cs=all * d
 low:n=0\/∃c∈cs,0<c.2/\n * c.2<=c.1 * d
theorem D0 {a b k:Int} (h:0<=k):min a b * k=min (a * k) (b * k):=by
 by_cases hab:a<=b
 ·rw [Int.min_eq_left hab,Int.min_eq_left (Int.mul_le_mul_of_nonneg_right hab h)]
 ·have hab : b ≤ a := by omega
  rw [Int.min_eq_right hab,Int.min_eq_right (Int.mul_le_mul_of_nonneg_right hab h)]
theorem Lz {n d n' d':Int} (hd:0<d) (hd':0<d') (h:n * d'<=n' * d) {c:Int×Int} (hc:0<=c.2):D1 n d c * d'<=D1 n' d' c * d:=by
 unfold D1
 rw [D0 (by omega),D0 (by omega)]
 have h1:n * c.2 * d'<=n' * c.2 * d:=by
  have:=Int.mul_le_mul_of_nonneg_right h hc
  rw [Int.mul_right_comm n c.2 d',Int.mul_right_comm n' c.2 d];exact this
 have h2:c.1 * d * d'=c.1 * d' * d:=Int.mul_right_comm ..
 omega
theorem fq {n d:Int} {c:Int×Int} {cs:List (Int×Int)}:DD n d (c::cs)=D1 n d c+DD n d cs:=by simp [DD]
theorem NT {n d:Int} {a b:List (Int×Int)}:DD n d (a++b)=DD n d a+DD n d b:=by simp [DD]
theorem WV {n d:Int} {a b:List (Int×Int)} (h:a.Perm b):DD n d a=DD n d b:=by
 induction h with
 |nil=>rfl
 |cons x _ ih=>rw [fq,fq,ih]
 |swap x y l=>simp only [fq];omega
 |trans _ _ h1 h2=>exact h1.trans h2
theorem Nn.cons {c:Int×Int} {cs:List (Int×Int)} (h:Nn (c::cs)):(0<=c.1/\0<=c.2)/\Nn cs:=⟨h c (List.mem_cons_self ..),fun x hx=>h x (List.mem_cons_of_mem _ hx)⟩
theorem Lv.perm {cs cs':List (Int×Int)} {all n d:Int} (h:Lv cs all n d) (hp:cs.Perm cs'):Lv cs' all n d :=
 ⟨h.vo,h.RZ,h.red,by rw [<-WV hp];exact h.sum,h.low.imp id fun ⟨c,hc,q⟩=>⟨c,hp.mem_iff.1 hc,q⟩⟩
theorem LA {n d:Int} (hd:0<d) {c:Int×Int} (hc:0<=c.1) (h0:c.2=0):D1 n d c=0:=by
 unfold D1
 rw [h0,Int.mul_zero]
 exact Int.min_eq_left (Int.mul_nonneg hc (Int.le_of_lt hd))
theorem BX {n d : Int} (hd : 0 < d) : ∀ {cs : List (Int × Int)}, Nn cs → DD n d (cs.filter fun c => decide (c.2 ≠ 0)) = DD n d cs
 |[],_=>rfl
 |c::cs,hc=>by
  have ih:=BX (n:=n) hd hc.cons.2
  rw [List.filter_cons]
  by_cases h0:c.2=0
  ·rw [if_neg (by simp [h0]),ih,fq,LA hd hc.cons.1.1 h0,Int.zero_add]
  ·rw [if_pos (by simp [h0]),fq,fq,ih]
theorem Lv.NU {cs:List (Int×Int)} {all n d:Int} (hn:Nn cs) (h:Lv (cs.filter fun c=>decide (c.2≠0)) all n d):Lv cs all n d :=
 ⟨h.vo,h.RZ,h.red,by rw [<-BX h.vo hn];exact h.sum,h.low.imp id fun ⟨c,hc,q⟩=>⟨c,(List.mem_filter.1 hc).1,q⟩⟩
end Go.vn
end
section
namespace Go.vn
structure Lv0 (cs:List (Int×Int)) (all n d:Int):Prop where
 vo:0<d
 RZ:0<=n
 sum:DD n d cs=all * d
 low:n=0\/∃c∈cs,0<c.2/\n * c.2<=c.1 * d
theorem R1 {g n d:Int} (hg:0<=g) (c:Int×Int):D1 (n * g) (d * g) c=D1 n d c * g:=by
 unfold D1
 rw [D0 hg,Int.mul_right_comm n g,<-Int.mul_assoc]
theorem GD {g n d : Int} (hg : 0 ≤ g) : ∀ cs : List (Int × Int), DD (n * g) (d * g) cs = DD n d cs * g
 |[]=>by simp [DD]
 |c::cs=>by rw [fq,fq,R1 hg,GD hg cs,Int.add_mul]
def red (n d:Int):Int×Int:=(n / Int.gcd n d,d / Int.gcd n d)
theorem zL {n d:Int} (hd:0<d) (hn:0<=n):0<(Int.gcd n d:Int)/\(red n d).1 * Int.gcd n d=n/\(red n d).2 * Int.gcd n d=d/\Int.gcd (red n d).1 (red n d).2=1/\0<(red n d).2/\0<=(red n d).1:=by
 have hg:0<Int.gcd n d:=Int.gcd_pos_of_ne_zero_right n (by omega)
 have hg':(0:Int)<Int.gcd n d:=by exact_mod_cast hg
 have h1:(red n d).1 * Int.gcd n d=n:=Int.ediv_mul_cancel (Int.gcd_dvd_left ..)
 have h2:(red n d).2 * Int.gcd n d=d:=Int.ediv_mul_cancel (Int.gcd_dvd_right ..)
 refine ⟨hg',h1,h2,Int.gcd_ediv_gcd_ediv_gcd hg,?_,Int.ediv_nonneg hn (Int.le_of_lt hg')⟩
 rcases Int.lt_or_le 0 (red n d).2 with h|h
 ·exact h
 ·have : (red n d).2 * Int.gcd n d ≤ 0 := Int.mul_nonpos_of_nonpos_of_nonneg h (Int.le_of_lt hg')
  omega
theorem Lv0.red {cs:List (Int×Int)} {all n d:Int} (h:Lv0 cs all n d):Lv cs all (red n d).1 (red n d).2:=by
 obtain ⟨hg,h1,h2,h3,h4,h5⟩:=zL h.vo h.RZ
 generalize hr:Go.vn.red n d=r at *
 generalize hq:(Int.gcd n d:Int)=g at *
 obtain ⟨a,b⟩:=r
 simp only at h1 h2 h3 h4 h5 ⊢
 subst h1 h2
 have hs:=h.sum
 rw [GD (Int.le_of_lt hg),<-Int.mul_assoc] at hs
 refine ⟨h4,h5,h3,Int.eq_of_mul_eq_mul_right (Int.ne_of_gt hg) hs,?_⟩
 rcases h.low with h0|⟨c,hc,q1,q2⟩
 ·left
  rcases Int.mul_eq_zero.1 h0 with h|h
  ·exact h
  ·omega
 ·right
  refine ⟨c,hc,q1,?_⟩
  rw [Int.mul_right_comm,<-Int.mul_assoc] at q2
  exact Int.le_of_mul_le_mul_right q2 hg
def R2 (l:List (Int×Int)):Prop:=l.Pairwise fun a b=>a.1 * b.2<=b.1 * a.2
def caps (l:List (Int×Int)):Int:=(l.map (·.1)).sum
def nC (l:List (Int×Int)):Int:=(l.map (·.2)).sum
theorem iQ {c:Int×Int} {l:List (Int×Int)}:caps (c::l)=c.1+caps l:=by simp [caps]
theorem iq {c:Int×Int} {l:List (Int×Int)}:nC (c::l)=c.2+nC l:=by simp [nC]
theorem wm {a b:List (Int×Int)}:caps (a++b)=caps a+caps b:=by simp [caps]
theorem pN:caps []=0:=rfl
theorem I9 : ∀ {l : List (Int × Int)}, Nn l → 0 ≤ nC l
 |[],_=>by simp [nC]
 |c::l,h=>by rw [iq];have:=I9 h.cons.2;have:=h.cons.1.2;omega
def pO : List (Int × Int) → Int → Int → Int × Int → Int × Int
 |[],_,_,last=>last
 |c::r,left,sugar,last=>if left * c.2<=c.1 * sugar then red left sugar else pO r (left - c.1) (sugar - c.2) (red c.1 c.2)
theorem B3 {n d : Int} : ∀ {p : List (Int × Int)}, (∀ c ∈ p, c.1 * d ≤ n * c.2) → DD n d p = caps p * d
 |[],_=>by simp [DD,caps]
 |c::p,h=>by
  rw [fq,iQ,Int.add_mul,B3 (fun x hx=>h x (List.mem_cons_of_mem _ hx))]
  unfold D1
  rw [Int.min_eq_right (h c (List.mem_cons_self ..))]
theorem GF {n d : Int} : ∀ {p : List (Int × Int)}, (∀ c ∈ p, n * c.2 ≤ c.1 * d) → DD n d p = n * nC p
 |[],_=>by simp [DD,nC]
 |c::p,h=>by
  rw [fq,iq,Int.mul_add,GF (fun x hx=>h x (List.mem_cons_of_mem _ hx))]
  unfold D1
  rw [Int.min_eq_left (h c (List.mem_cons_self ..))]
theorem B4 {a b:Int×Int} {n d:Int} (hb:0<b.2) (hd:0<=d) (ha:0<=a.2) (h:a.1 * b.2<=b.1 * a.2) (h2:b.1 * d<=n * b.2):a.1 * d<=n * a.2:=by
 have h3:a.1 * b.2 * d<=b.1 * a.2 * d:=Int.mul_le_mul_of_nonneg_right h hd
 have h4:b.1 * d * a.2<=n * b.2 * a.2:=Int.mul_le_mul_of_nonneg_right h2 ha
 rw [Int.mul_right_comm a.1] at h3
 rw [Int.mul_right_comm b.1 d] at h4
 rw [Int.mul_right_comm n] at h4
 exact Int.le_of_mul_le_mul_right (Int.le_trans h3 h4) hb
theorem Ja {a b:Int×Int} {n d:Int} (ha:0<a.2) (hd:0<=d) (hb:0<=b.2) (h:a.1 * b.2<=b.1 * a.2) (h2:n * a.2<=a.1 * d):n * b.2<=b.1 * d:=by
 have h3:a.1 * b.2 * d<=b.1 * a.2 * d:=Int.mul_le_mul_of_nonneg_right h hd
 have h4:n * a.2 * b.2<=a.1 * d * b.2:=Int.mul_le_mul_of_nonneg_right h2 hb
 rw [Int.mul_right_comm a.1 d] at h4
 rw [Int.mul_right_comm b.1 a.2] at h3
 rw [Int.mul_right_comm n a.2] at h4
 exact Int.le_of_mul_le_mul_right (Int.le_trans h4 h3) ha
theorem GH {all:Int}:∀{r p:List (Int×Int)} {last:Int×Int},r≠[]->Nn (p++r)->(∀c∈p++r,0<c.2)->R2 (p++r)->all<=caps (p++r)->0<=all - caps p ->
  (∀c∈p,c.1 * nC r<=(all - caps p) * c.2)->Lv (p++r) all (pO r (all - caps p) (nC r) last).1 (pO r (all - caps p) (nC r) last).2
 |[],p,last,h,_,_,_,_,_,_=>absurd rfl h
 |c::r,p,last,_,hn,hs,hl,ha,h0,hp=>by
  have HV:0<c.2:=hs c (by simp)
  have hnr:Nn r:=fun x hx=>hn x (by simp [hx])
  have hsug:0<nC (c::r):=by rw [iq];have:=I9 hnr;omega
  unfold pO
  split
  ·rename_i hle
   refine Lv0.red ⟨hsug,h0,?_,.inr ⟨c,by simp,HV,hle⟩⟩
   have hr:∀x∈c::r,(all - caps p) * x.2<=x.1 * nC (c::r):=fun x hx=>by
    rcases List.mem_cons.1 hx with rfl|hx
    ·exact hle
    ·have gm : c.1 * x.2 ≤ x.1 * c.2 := (List.pairwise_cons.1 (List.pairwise_append.1 hl).2.1).1 x hx
     exact Ja HV (Int.le_of_lt hsug) (hn x (by simp [hx])).2 gm hle
   rw [NT,B3 hp,GF hr,<-Int.add_mul]
   congr 1;omega
  ·rename_i hgt
   have hgt:c.1 * nC (c::r)<(all - caps p) * c.2:=by omega
   cases r with
   |nil =>
    exfalso
    rw [wm,iQ,pN] at ha
    have h1:(all - caps p) * c.2<=c.1 * c.2:=Int.mul_le_mul_of_nonneg_right (by omega) (Int.le_of_lt HV)
    have h2:nC [c]=c.2:=by simp [nC]
    rw [h2] at hgt;omega
   |cons e r =>
    have hc1:0<=c.1:=(hn c (by simp)).1
    have hsr:0<nC (e::r):=by
     have hnr':Nn r:=fun x hx=>hn x (by simp [hx])
     rw [iq];have:=I9 hnr';have:=hs e (by simp);omega
    have e1:p++c::e::r=(p++[c])++e::r:=by simp
    have e2:all - caps (p++[c])=all - caps p - c.1:=by rw [wm,iQ,pN];omega
    have e3:nC (c::e::r) - c.2=nC (e::r):=by rw [iq];omega
    have hc:c.1 * nC (e::r)<=(all - caps p - c.1) * c.2:=by
     have:nC (c::e::r)=c.2+nC (e::r):=iq
     rw [this,Int.mul_add] at hgt
     rw [Int.sub_mul];omega
    have Mj:0<=all - caps p - c.1:=by
     rcases Int.lt_or_le (all - caps p - c.1) 0 with h|h
     ·have h1 : (all - caps p - c.1) * c.2 < 0 := Int.mul_neg_of_neg_of_pos h HV
      have h2:0<=c.1 * nC (e::r):=Int.mul_nonneg hc1 (Int.le_of_lt hsr)
      omega
     ·exact h
    have ih := GH (all := all) (r := e :: r) (p := p ++ [c]) (last := red c.1 c.2) (by simp) (by rw [← e1]; exact hn) (by rw [← e1]; exact hs) (by rw [← e1]; exact hl) (by rw [← e1]; exact ha) (by rw [e2]; exact Mj)
     (fun x hx=>by
      rw [e2]
      rcases List.mem_append.1 hx with hx|hx
      ·have hxc : x.1 * c.2 ≤ c.1 * x.2 := (List.pairwise_append.1 hl).2.2 x hx c (List.mem_cons_self ..)
       exact B4 HV (Int.le_of_lt hsr) (hn x (by simp [hx])).2 hxc hc
      ·simp at hx;subst hx;exact hc)
    rw [e1,e3,<-e2]
    exact ih
theorem Jb {l:List (Int×Int)} {all:Int} (hn:Nn l) (hs:∀c∈l,0<c.2) (hl:R2 l) (ha:all<=caps l) (h0:0<=all):Lv l all (pO l all (nC l) (0,1)).1 (pO l all (nC l) (0,1)).2:=by
 cases l with
 |nil =>
  have:all=0:=by rw [pN] at ha;omega
  subst this
  exact ⟨by decide,by decide,by decide,by simp [DD],.inl rfl⟩
 |cons c r =>
  have:=GH (all:=all) (r:=c::r) (p:=[]) (last:=(0,1)) (by simp) hn hs hl ha (by rw [pN];omega) (fun x hx=>by cases hx)
  simpa [pN] using this
end Go.vn
end
section
namespace Go.vn
def full (n d : Int) : List (Int × Int) → Int
 |[]=>0
 |c::r=>(if c.2=0 then 0 else if c.1 * d<=n * c.2 then c.1 else 0)+full n d r
def rest (n d : Int) : List (Int × Int) → Int
 |[]=>0
 |c::r=>(if c.2=0 then 0 else if c.1 * d<=n * c.2 then 0 else c.2)+rest n d r
def lK : List (Int × Int) → Int
 |[]=>0
 |c::r=>(if 0<c.2 then c.1 else 0)+lK r
theorem B5 {n d:Int} {c:Int×Int} {r:List (Int×Int)}:full n d (c::r)=(if c.2=0 then 0 else if c.1 * d<=n * c.2 then c.1 else 0)+full n d r:=rfl
theorem qn {n d:Int} {c:Int×Int} {r:List (Int×Int)}:rest n d (c::r)=(if c.2=0 then 0 else if c.1 * d<=n * c.2 then 0 else c.2)+rest n d r:=rfl
theorem kB {c:Int×Int} {r:List (Int×Int)}:lK (c::r)=(if 0<c.2 then c.1 else 0)+lK r:=rfl
theorem D2 {n d : Int} : ∀ {cs : List (Int × Int)}, Nn cs → 0 ≤ rest n d cs
 |[],_=>Int.le_refl _
 |c::r,h=>by
  have:=D2 (n:=n) (d:=d) h.cons.2;have:=h.cons.1
  rw [qn];split
  ·omega
  ·split<;>omega
theorem GI {n d : Int} (hd : 0 < d) : ∀ {cs : List (Int × Int)}, Nn cs → DD n d cs = full n d cs * d + n * rest n d cs
 |[],_=>by simp [DD,full,rest]
 |c::r,h=>by
  have ih:=GI (n:=n) hd h.cons.2
  rw [fq,ih]
  rw [B5,qn]
  by_cases h0:c.2=0
  ·rw [if_pos h0,if_pos h0,LA hd h.cons.1.1 h0];simp
  ·rw [if_neg h0, if_neg h0]
   by_cases hc:c.1 * d<=n * c.2
   ·rw [if_pos hc,if_pos hc,Int.add_mul,D1,Int.min_eq_right hc];simp;omega
   ·rw [if_neg hc,if_neg hc,Int.mul_add,D1,Int.min_eq_left (by omega)];simp;omega
variable {cs:List (Int×Int)} {all:Int} {x:Int×Int}
end Go.vn
end
section
namespace Go.vn
theorem od {α : Type} {f g : α → Int} : ∀ {l : List α}, (∀ x ∈ l, f x ≤ g x) → (l.map f).sum = (l.map g).sum → ∀ x ∈ l, f x = g x
 |[],_,_,_,hx=>by cases hx
 |y::l,h,hs,x,hx=>by
  have h1:=h y (List.mem_cons_self ..)
  have h2:(l.map f).sum<=(l.map g).sum:=by
   have key:∀m:List α,(∀x∈m,f x<=g x)->(m.map f).sum<=(m.map g).sum:=by
    intro m
    induction m with
    |nil=>intro _;simp
    |cons a m ih =>
     intro hm
     have:=hm a (List.mem_cons_self ..)
     have:=ih fun x hx=>hm x (List.mem_cons_of_mem _ hx)
     simp only [List.map_cons,List.sum_cons];omega
   exact key l fun x hx=>h x (List.mem_cons_of_mem _ hx)
  simp only [List.map_cons,List.sum_cons] at hs
  rcases List.mem_cons.1 hx with rfl|hx
  ·omega
  ·exact od (l:=l) (fun x hx=>h x (List.mem_cons_of_mem _ hx)) (by omega) x hx
theorem R3 {n d k:Int} (cs:List (Int×Int)):(cs.map fun c=>D1 n d c * k).sum=DD n d cs * k:=by
 induction cs with
 |nil=>simp [DD]
 |cons c cs ih=>rw [List.map_cons,List.sum_cons,fq,Int.add_mul,ih]
theorem ajA {cs:List (Int×Int)} {all n d n' d':Int} (hn:Nn cs) (hd:0<d) (hd':0<d') (h:DD n d cs=all * d) (h':DD n' d' cs=all * d'):∀c∈cs,D1 n d c * d'=D1 n' d' c * d:=by
 have hs:(cs.map fun c=>D1 n d c * d').sum=(cs.map fun c=>D1 n' d' c * d).sum:=by
  rw [R3,R3,h,h',Int.mul_right_comm]
 rcases Int.le_total (n * d') (n' * d) with hle|hle
 ·exact od (f:=fun c=>D1 n d c * d') (g:=fun c=>D1 n' d' c * d) (fun c hc=>Lz hd hd' hle (hn c hc).2) hs
 ·intro c hc
  exact (od (f:=fun c=>D1 n' d' c * d) (g:=fun c=>D1 n d c * d') (fun c hc=>Lz hd' hd hle (hn c hc).2) hs.symm c hc).symm
abbrev NV:=(Int×Int)×Bool
def pP : List NV → Int
 |[]=>0
 |c::r=>(if c.2=true then c.1.1 else 0)+pP r
def l7 : List NV → Int
 |[]=>0
 |c::r=>(if c.2=true then 0 else c.1.2)+l7 r
theorem zN {c:NV} {r:List NV}:pP (c::r)=(if c.2=true then c.1.1 else 0)+pP r:=rfl
theorem rZ {c:NV} {r:List NV}:l7 (c::r)=(if c.2=true then 0 else c.1.2)+l7 r:=rfl
def R4 (n d:Int) (l:List NV):Prop:=∀c∈l,if c.2=true then c.1.1 * d<=n * c.1.2 else n * c.1.2<=c.1.1 * d
theorem NW {n d:Int} {c:NV} (h:if c.2=true then c.1.1 * d<=n * c.1.2 else n * c.1.2<=c.1.1 * d):D1 n d c.1=if c.2=true then c.1.1 * d else n * c.1.2:=by
 unfold D1
 cases hc:c.2
 ·rw [hc] at h;simp only [Bool.false_eq_true,if_false] at h ⊢;exact Int.min_eq_left h
 ·rw [hc] at h;simp only [if_true] at h ⊢;exact Int.min_eq_right h
theorem B6 {n d : Int} : ∀ {l : List NV}, R4 n d l → DD n d (l.map (·.1)) = pP l * d + n * l7 l
 |[],_=>by simp [DD,pP,l7]
 |c::l,h=>by
  have ih:=B6 (l:=l) fun x hx=>h x (List.mem_cons_of_mem _ hx)
  rw [List.map_cons,fq,ih,NW (h c (List.mem_cons_self ..)),zN,rZ]
  cases c.2
  ·simp only [Bool.false_eq_true,if_false,Int.zero_add,Int.mul_add];omega
  ·simp only [if_true,Int.zero_add,Int.add_mul];omega
structure Good (l:List NV) (mE M num den:Int):Prop where
 left:0<=mE - pP l
 some:¬(0<mE - pP l/\l7 l=0)
 hnum:num=if l7 l=0 then M else mE - pP l
 R5:den=max 1 (l7 l)
 ac1:R4 num den l
theorem GJ : ∀ {l : List NV}, (∀ c ∈ l, 0 ≤ c.1.2) → 0 ≤ l7 l
 |[],_=>Int.le_refl _
 |c::l,h=>by
  have h1:=h c (List.mem_cons_self ..)
  have h2:=GJ (l:=l) fun x hx=>h x (List.mem_cons_of_mem _ hx)
  rw [rZ];split<;>omega
theorem Good.sum {l:List NV} {mE M num den:Int} (h:Good l mE M num den) (hn:∀c∈l,0<=c.1.2):0<den/\DD num den (l.map (·.1))=mE * den:=by
 have hs:=GJ hn
 have hd:=h.R5
 have hl:=h.left
 have hso:=h.some
 refine ⟨by omega,?_⟩
 rw [B6 h.ac1]
 by_cases h0:l7 l=0
 ·have : den = 1 := by omega
  have:pP l=mE:=by omega
  rw [h0];simp only [Int.mul_zero,Int.add_zero];rw [this]
 ·have hn := h.hnum
  rw [if_neg h0] at hn
  have hde:den=l7 l:=by omega
  rw [hn,<-hde,<-Int.add_mul]
  congr 1;omega
def zO (n d:Int) (cs:List (Int×Int)):List NV:=cs.map fun c=>(c,decide (0<c.2/\c.1 * d<=n * c.2))
theorem B7 {n d : Int} : ∀ {cs : List (Int × Int)}, Nn cs → pP (zO n d cs) = full n d cs ∧ l7 (zO n d cs) = rest n d cs
 |[],_=>⟨rfl,rfl⟩
 |c::cs,h=>by
  obtain ⟨i1,i2⟩:=B7 (n:=n) (d:=d) h.cons.2
  have hc:=h.cons.1
  unfold zO at i1 i2 ⊢
  rw [List.map_cons,zN,rZ,B5,qn,i1,i2]
  simp only [decide_eq_true_eq]
  by_cases h0:c.2=0
  ·have hw : ¬ (0 < c.2 ∧ c.1 * d ≤ n * c.2) := fun h => by have := h.1; omega
   rw [if_neg hw,if_neg hw,if_pos h0,if_pos h0]
   exact ⟨rfl,by omega⟩
  ·rw [if_neg h0, if_neg h0]
   by_cases h1:c.1 * d<=n * c.2
   ·have hw : 0 < c.2 ∧ c.1 * d ≤ n * c.2 := ⟨by omega, h1⟩
    rw [if_pos hw,if_pos hw,if_pos h1,if_pos h1];exact ⟨rfl,rfl⟩
   ·have hw : ¬ (0 < c.2 ∧ c.1 * d ≤ n * c.2) := fun h => h1 h.2
    rw [if_neg hw,if_neg hw,if_neg h1,if_neg h1];exact ⟨rfl,rfl⟩
theorem ajB {cs:List (Int×Int)} {mE n d M:Int} (hn:Nn cs) (h:Lv cs mE n d) (hM:∀c∈cs,c.1<=M) (hM0:0<=M) :
  Good (zO n d cs) mE M (if l7 (zO n d cs)=0 then M else mE - pP (zO n d cs)) (max 1 (l7 (zO n d cs))):=by
 obtain ⟨e1,e2⟩:=B7 (n:=n) (d:=d) hn
 have hp:=GI h.vo hn (n:=n)
 rw [h.sum] at hp
 have hr:=D2 (n:=n) (d:=d) hn
 have hd:=h.vo
 have hl:(mE - full n d cs) * d=n * rest n d cs:=by rw [Int.sub_mul];omega
 have h0:0<=mE - full n d cs:=by
  rcases Int.lt_or_le (mE - full n d cs) 0 with hlt|hle
  ·have := Int.mul_neg_of_neg_of_pos hlt hd
   have:=Int.mul_nonneg h.RZ hr
   omega
  ·exact hle
 rw [e1,e2]
 refine ⟨by rw [e1];exact h0,?_,by rw [e1,e2],by rw [e2],?_⟩
 ·rw [e1, e2]
  rintro ⟨q1,q2⟩
  rw [q2,Int.mul_zero] at hl
  rcases Int.mul_eq_zero.1 hl with q|q<;>omega
 ·intro w hw
  obtain ⟨c,hc,rfl⟩:=List.mem_map.1 hw
  have hcn:=hn c hc
  by_cases Zx:rest n d cs=0
  ·rw [if_pos Zx, Zx]
   have R5:max (1:Int) 0=1:=by omega
   rw [R5]
   simp only [decide_eq_true_eq]
   split
   ·rename_i R6
    have:M * 1<=M * c.2:=Int.mul_le_mul_of_nonneg_left (by omega) hM0
    have:=hM c hc
    omega
   ·rename_i R6
    have hz:c.2=0:=by
     rcases Int.lt_or_le 0 c.2 with hp|hp
     ·exfalso
      have hnc:¬c.1 * d<=n * c.2:=fun h=>R6 ⟨hp,h⟩
      have key:∀cs:List (Int×Int),Nn cs->c∈cs->0<rest n d cs:=by
       intro cs
       induction cs with
       |nil=>intro _ h;cases h
       |cons e cs ih =>
        intro hn he
        have hr:=D2 (n:=n) (d:=d) hn.cons.2
        have Bn:=hn.cons.1
        rw [qn]
        rcases List.mem_cons.1 he with rfl|he
        ·rw [if_neg (by omega),if_neg hnc];omega
        ·have := ih hn.cons.2 he
         split
         ·omega
         ·split<;>omega
      have:=key cs hn hc
      omega
     ·omega
    rw [hz];simp;omega
  ·rw [if_neg Zx]
   have R5:max (1:Int) (rest n d cs)=rest n d cs:=by omega
   rw [R5]
   have hrp:0<rest n d cs:=by omega
   simp only [decide_eq_true_eq]
   split
   ·rename_i R6
    -- Cap * d <= n * sugar
    have q1:c.1 * d * rest n d cs<=n * c.2 * rest n d cs:=Int.mul_le_mul_of_nonneg_right R6.2 hr
    rw [Int.mul_right_comm n c.2,<-hl,Int.mul_right_comm c.1 d,Int.mul_right_comm _ d c.2] at q1
    exact Int.le_of_mul_le_mul_right q1 hd
   ·rename_i R6
    have hnc:n * c.2<=c.1 * d:=by
     rcases Int.lt_or_le 0 c.2 with hp|hp
     ·have : ¬ c.1 * d ≤ n * c.2 := fun h => R6 ⟨hp, h⟩
      omega
     ·have : c.2 = 0 := by omega
      rw [this,Int.mul_zero];exact Int.mul_nonneg hcn.1 (Int.le_of_lt hd)
    have q1:n * c.2 * rest n d cs<=c.1 * d * rest n d cs:=Int.mul_le_mul_of_nonneg_right hnc hr
    rw [Int.mul_right_comm n c.2,<-hl,Int.mul_right_comm c.1 d,Int.mul_right_comm _ d c.2] at q1
    exact Int.le_of_mul_le_mul_right q1 hd
end Go.vn
end
section
namespace Go.Proofs.Tryz
open Go.AM
set_option maxRecDepth 100000
abbrev Wk:=Int×Int×Int×List (ByteArray×Int)×List (Int×Int×Int×Int)
theorem D3 (a b:ByteArray):seq a b=decide (a=b):=by
 unfold seq
 rw [Go.ByteArray.toList_eq,Go.ByteArray.toList_eq]
 by_cases h:a=b
 ·subst h;simp
 ·rw [decide_eq_false h, beq_eq_false_iff_ne]
  intro e;apply h
  obtain ⟨x⟩:=a;obtain ⟨y⟩:=b
  simp at e;rw [e]
theorem ac2 (a b c:Int):ai (F59 a b c)=some (decide (a<=b/\b<=c),()):=by
 simp only [F59,aq,aa,aQ]
 split<;>simp [*]
def xB (i:Nat) (b:Int):Bool:=decide (97<=b/\b<=122)||decide (i≠0/\48<=b/\b<=57)
def GK : Nat → List Int → Bool
 |_,[]=>true
 |i,b::r=>xB i b&&GK (i+1) r
def iW (s:ByteArray):Bool:=GK 0 (b8 s)&&decide (0<s.size/\s.size<=10)
theorem k67 (s:ByteArray) (hs:s.size<1000000000):ai (F27 s)=some (iW s,()):=by
 have hl:(b8 s).length=s.size:=vW s
 unfold F27
 simp only [az,bD]
 refine bind_eq (aZ (b8 s) (fun k (_:Nat)=>(s,b8 s,((b8 s).length:Int),(k:Int),())) (fun i r=>if GK i r=true then .inr (s,()) else .inl ()) (fun pre i=>i=pre.length) ?_ ?_ (s:=0) rfl) ?_
 ·intro pre x post i hx hi
  subst hi
  have hlen:(b8 s).length=pre.length+(post.length+1):=by rw [hx];simp
  have hd:(b8 s).getD pre.length 0=x:=by rw [hx];exact bg rfl
  have key:run (fun _=>none) (g27_0 (s,b8 s,((b8 s).length:Int),(pre.length:Int),()))=if xB pre.length x=true then some (.inl (s,b8 s,((b8 s).length:Int),((pre.length+1:Nat):Int),())) else some (.inr (.inl ())):=by
   simp only [g27_0,aq,aY,aO,aN,aa,Int.toNat_natCast,hd,aQ,bE]
   rw [if_pos (by omega),fI (by omega) (by omega)]
   unfold xB;simp only [Bool.or_eq_true,decide_eq_true_eq]
   by_cases h1:x<97
   ·rw [if_pos h1]
    by_cases h2:(pre.length:Int)=0
    ·rw [if_pos h2,if_neg (by omega)]
    ·rw [if_neg h2]
     by_cases h3:x<48
     ·rw [if_pos h3,if_neg (by omega)]
     ·rw [if_neg h3]
      by_cases h4:57<x
      ·rw [if_pos h4,if_neg (by omega)]
      ·rw [if_neg h4, if_pos, aP (by omega) (by omega)]; · rfl
       omega
   ·rw [if_neg h1]
    by_cases h5:122<x
    ·rw [if_pos h5]
     by_cases h2:(pre.length:Int)=0
     ·rw [if_pos h2,if_neg (by omega)]
     ·rw [if_neg h2]
      by_cases h3:x<48
      ·omega
      ·rw [if_neg h3,if_pos (by omega),if_neg (by omega)]
    ·rw [if_neg h5, if_pos, aP (by omega) (by omega)]; · rfl
     omega
  rw [key]
  by_cases hb:xB pre.length x=true
  ·left
   exact ⟨pre.length+1,by rw [if_pos hb],by simp,by simp [GK,hb]⟩
  ·right
   rw [if_neg hb]
   have:GK pre.length (x::post)=false:=by simp [GK,hb]
   simp [this]
 ·intro i _
  simp only [g27_0,aq,aQ]
  rw [if_neg (by omega)]
  simp [GK,aa]
 ·unfold iW
  by_cases h:GK 0 (b8 s)=true
  ·rw [if_pos h, h]
   simp only [jA,aq,aa,aQ]
   by_cases h0:(0:Int)<((s.size:Nat):Int)
   ·rw [if_pos h0, Bool.true_and]
    congr 2
    exact decide_eq_decide.2 (by omega)
   ·rw [if_neg h0]
    simp;omega
  ·rw [if_neg h]
   simp [h,o7,aa]
end Go.Proofs.Tryz
end
section
namespace Go.AM
theorem lE {α : Type} {r : α → α → Prop} (irr : ∀ a, ¬ r a a) (asy : ∀ a b, r a b → ¬ r b a) : ∀ {l l' : List α}, l.Pairwise r → l'.Pairwise r → (∀ x, x ∈ l ↔ x ∈ l') → l = l'
 |[],[],_,_,_=>rfl
 |[],b::s,_,_,h=>by have:=(h b).2 (List.mem_cons_self ..);cases this
 |a::r',[],_,_,h=>by have:=(h a).1 (List.mem_cons_self ..);cases this
 |a::l,b::s,h1,h2,h=>by
  rw [List.pairwise_cons] at h1 h2
  have e:a=b:=by
   rcases List.mem_cons.1 ((h a).1 (List.mem_cons_self ..)) with e|ha
   ·exact e
   rcases List.mem_cons.1 ((h b).2 (List.mem_cons_self ..)) with e|hb
   ·exact e.symm
   ·exact absurd (h2.1 a ha) (asy _ _ (h1.1 b hb))
  subst e
  rw [lE irr asy h1.2 h2.2 fun x=>?_]
  constructor
  ·intro hx
   rcases List.mem_cons.1 ((h x).1 (List.mem_cons_of_mem _ hx)) with e|hx'
   ·subst e;exact absurd (h1.1 x hx) (irr x)
   ·exact hx'
  ·intro hx
   rcases List.mem_cons.1 ((h x).2 (List.mem_cons_of_mem _ hx)) with e|hx'
   ·subst e;exact absurd (h2.1 x hx) (irr x)
   ·exact hx'
section
variable {t:Ty} {ks:List Kd} {β:Type}
theorem jX (hk:bG t=some ks) {x:t.den}:eB t x x=true:=kZ x hk
theorem xC (hk:bG t=some ks) {x y:t.den}:eB t x y=true↔x=y:=⟨bS,fun h=>by subst h;exact jX hk⟩
theorem iX (hk:bG t=some ks) (x:t.den):gZ t x x=false:=by
 cases h:gZ t x x with
 |false=>rfl
 |true=>exact (ef hk h h).elim
theorem WW (hk:bG t=some ks) {x y:t.den} (h:gZ t x y=true):eB t x y=false:=by
 cases h':eB t x y with
 |false=>rfl
 |true=>rw [bS h',iX hk] at h;cases h
def iY (t:Ty) (es:List (t.den×β)):Prop:=es.Pairwise fun a b=>gZ t a.1 b.1=true
theorem iY.kd (hk:bG t=some ks) {es:List (t.den×β)} (h:iY t es):KD t es:=List.Pairwise.imp (fun h=>WW hk h) h
theorem GL {es:List (t.den×β)} {x:t.den} {v:β} {e:t.den×β}:e∈vA t es x v↔e=(x,v)\/e∈es:=by
 rw [j7.mem_iff];simp
theorem iY.mins (hk : bG t = some ks) {x : t.den} {v : β} : ∀ {es : List (t.den × β)}, iY t es → aR t es x = false → iY t (vA t es x v)
 |[],_,_=>by unfold iY;simp [vA]
 |e::r,h,hn=>by
  unfold iY at h
  rw [List.pairwise_cons] at h
  have hne:=uD hn (List.mem_cons_self ..)
  have hnr:aR t r x=false:=by simpa [aR,hne] using hn
  unfold vA
  split
  ·rename_i hlt
   unfold iY
   rw [List.pairwise_cons]
   refine ⟨fun b hb=>?_,List.pairwise_cons.2 h⟩
   rcases List.mem_cons.1 hb with rfl|hb
   ·exact hlt
   ·exact kr hk hlt (h.1 b hb)
  ·rename_i hlt
   unfold iY
   rw [List.pairwise_cons]
   refine ⟨fun b hb=>?_,iY.mins hk h.2 hnr⟩
   rcases GL.1 hb with rfl|hb
   ·cases hlt':gZ t e.1 x with
    |true=>rfl
    |false =>
     have:=kq hk (by simpa using hlt) hlt'
     rw [this,jX hk] at hne;cases hne
   ·exact h.1 b hb
theorem iY.iG (hk:bG t=some ks) {x:t.den} {v:β} {es:List (t.den×β)} (h:iY t es):iY t (bp t es x v):=by
 unfold bp
 split
 ·unfold iY
  rw [List.pairwise_map]
  refine List.Pairwise.imp ?_ h
  intro a b hab
  split<;>split
  ·rename_i h1 h2
   rw [<-bS h1,<-bS h2,iX hk] at hab;cases hab
  ·rename_i h1 h2
   rw [<-bS h1] at hab;exact hab
  ·rename_i h1 h2
   rw [<-bS h2] at hab;exact hab
  ·exact hab
 ·rename_i hn
  exact h.mins hk (by simpa using hn)
theorem dG (hk:bG t=some ks) {es:List (t.den×β)} {x:t.den}:aR t es x=true↔∃v,(x,v)∈es:=by
 unfold aR
 rw [List.any_eq_true]
 constructor
 ·rintro ⟨e,he,hx⟩;rw [bS hx];exact ⟨e.2,he⟩
 ·rintro ⟨v,hv⟩;exact ⟨_,hv,jX hk⟩
theorem gv (hk:bG t=some ks) {es:List (t.den×β)} {x:t.den} {v d:β} (h:iY t es) (hm:(x,v)∈es):ay t d es x=v:=nI (h.kd hk) hm (jX hk)
theorem gw (hk:bG t=some ks) {es:List (t.den×β)} {x:t.den} {v:β} (h:iY t es) {e:t.den×β}:e∈bp t es x v↔e=(x,v)\/(e∈es/\e.1≠x):=by
 unfold bp
 split
 ·rename_i hh
  obtain ⟨u,hu⟩:=(dG hk).1 hh
  rw [List.mem_map]
  constructor
  ·rintro ⟨e', he', rfl⟩
   split
   ·exact .inl rfl
   ·rename_i hne;exact .inr ⟨he',fun e=>hne (by rw [e];exact jX hk)⟩
  ·rintro (rfl | ⟨he, hne⟩)
   ·exact ⟨(x,u),hu,by simp [jX hk]⟩
   ·exact ⟨e,he,by rw [if_neg];intro h;exact hne (bS h).symm⟩
 ·rename_i hh
  rw [GL]
  constructor
  ·rintro (h | h)
   ·exact .inl h
   ·refine .inr ⟨h, fun e' => hh ?_⟩
    rw [<-e'];exact (dG hk).2 ⟨_,h⟩
  ·rintro (h | h)
   ·exact .inl h
   ·exact .inr h.1
theorem B8 (hk:bG t=some ks) {es:List (t.den×β)} {x y:t.den} {v d:β} (h:iY t es):ay t d (bp t es x v) y=if eB t y x=true then v else ay t d es y:=by
 have hc:=h.iG (x:=x) (v:=v) hk
 split
 ·rename_i e; have e := bS e; subst e
  exact gv hk hc ((gw hk h).2 (.inl rfl))
 ·rename_i e0
  have e:y≠x:=fun h=>e0 ((xC hk).2 h)
  cases hm:aR t es y with
  |true =>
   obtain ⟨u,hu⟩:=(dG hk).1 hm
   rw [gv hk h hu]
   exact gv hk hc ((gw hk h).2 (.inr ⟨hu,e⟩))
  |false =>
   rw [gL hm,gL]
   cases hm':aR t (bp t es x v) y with
   |false=>rfl
   |true =>
    obtain ⟨u,hu⟩:=(dG hk).1 hm'
    rcases (gw hk h).1 hu with e'|⟨h',_⟩
    ·cases e';exact absurd rfl e
    ·rw [(dG hk).2 ⟨u,h'⟩] at hm;cases hm
theorem qo (hk:bG t=some ks) {es:List (t.den×β)} {x y:t.den} {v:β} (h:iY t es):aR t (bp t es x v) y=(eB t y x||aR t es y):=by
 rw [Bool.eq_iff_iff,dG hk,Bool.or_eq_true,xC hk,dG hk]
 constructor
 ·rintro ⟨u, hu⟩
  rcases (gw hk h).1 hu with e|⟨h',_⟩
  ·cases e;exact .inl rfl
  ·exact .inr ⟨u,h'⟩
 ·by_cases e : y = x
  ·subst e;exact fun _=>⟨v,(gw hk h).2 (.inl rfl)⟩
  ·rintro (h' | ⟨u, hu⟩)
   ·exact absurd h' e
   ·exact ⟨u,(gw hk h).2 (.inr ⟨hu,e⟩)⟩
theorem LB (hk:bG t=some ks) {es es':List (t.den×β)} (h:iY t es) (h':iY t es') (hm:∀e,e∈es↔e∈es'):es=es' :=
 lE (r:=fun a b:t.den×β=>gZ t a.1 b.1=true) (fun a h=>by rw [iX hk] at h;cases h) (fun a b h1 h2=>ef hk h1 h2) h h' hm
theorem iY.keys (hk:bG t=some ks) {es:List (t.den×β)} (h:iY t es):EB t (es.map (·.1)):=by
 unfold EB
 rw [List.pairwise_map]
 refine List.Pairwise.imp (fun {a b} hab=>?_) h
 cases hba:gZ t b.1 a.1 with
 |false=>rfl
 |true=>exact (ef hk hab hba).elim
theorem iY.nil:iY (β:=β) t []:=List.Pairwise.nil
theorem R7 {es:List (t.den×Bool)} (hk:bG t=some ks) (h:iY t es) (ht:∀e∈es,e.2=true) {x:t.den}:∀e∈bp t es x true,e.2=true:=fun e he=>by
 rcases (gw hk h).1 he with rfl|⟨h',_⟩
 ·rfl
 ·exact ht e h'
theorem R8 {es:List (t.den×Bool)} (hk:bG t=some ks) (h:iY t es) (ht:∀e∈es,e.2=true) {x:t.den}:ay t false es x=aR t es x:=by
 cases hm:aR t es x with
 |false=>exact gL hm
 |true =>
  obtain ⟨u,hu⟩:=(dG hk).1 hm
  rw [gv hk h hu];exact ht _ hu
theorem R9 (hk:bG t=some ks) {es es':List (t.den×Bool)} (h:iY t es) (h':iY t es') (ht:∀e∈es,e.2=true) (ht':∀e∈es',e.2=true) (hm:∀x,aR t es x=aR t es' x):es=es':=by
 refine LB hk h h' fun e=>?_
 have key:∀{es es':List (t.den×Bool)},(∀e∈es,e.2=true)->(∀e∈es',e.2=true)->(∀x,aR t es x=aR t es' x)->e∈es->e∈es':=fun {es es'} ht ht' hm he=>by
  have h1:aR t es' e.1=true:=by rw [<-hm];exact (dG hk).2 ⟨e.2,he⟩
  obtain ⟨u,hu⟩:=(dG hk).1 h1
  have e1:=ht e he
  have e2:=ht' _ hu
  obtain ⟨a,b⟩:=e
  simp only at e1 e2;subst e1;subst e2;exact hu
 exact ⟨key ht ht' hm,key ht' ht fun x=>(hm x).symm⟩
end
end Go.AM
end
section
namespace Go.Proofs.Tryz
open Go.AM
set_option maxRecDepth 100000
abbrev pkS:bG .str=some [.s]:=rfl
def AS (k:ByteArray) (s:List ByteArray):Bool:=s.any fun x=>decide (x=k)
theorem GM {k:ByteArray} {s:List ByteArray}:AS k s=true↔k∈s:=by simp [AS]
def zP : List ByteArray → List (ByteArray × Int) → Int
 |_,[]=>0
 |seen,f::r=>if iW f.1=false then 8 else if AS f.1 seen=true then 6 else if ¬(0<=f.2/\f.2<=1000000000) then 2 else zP (seen++[f.1]) r
def zQ (n : Int) : List (Int × Int × Int × Int) → Int
 |[]=>0
 |x::r=>if ¬(0<=x.1/\x.1<=n - 1) then 5 else if ¬(0<=x.2.1/\x.2.1<=100000) then 2 else if ¬(0<=x.2.2.1/\x.2.2.1<=x.2.1) then 2 else if ¬(0<=x.2.2.2/\x.2.2.2<=1000) then 2 else zQ n r
def D4 (w:Wk):Int:=if ¬(0<=w.1/\w.1<=1000000000) then 2 else if ¬(0<=w.2.1/\w.2.1<=1000) then 2 else if ¬(0<=w.2.2.1/\w.2.2.1<=1000) then 2 else 0
def AU (w:Wk):Int:=if w.2.2.2.1.length=0 then 4 else if 12<w.2.2.2.1.length then 1 else zP [] w.2.2.2.1
def Jc (w:Wk):Int:=if 50<w.2.2.2.2.length then 1 else zQ w.2.2.2.1.length w.2.2.2.2
def zR (w:Wk):Int:=if D4 w≠0 then D4 w else if AU w≠0 then AU w else Jc w
def Names (w:Wk):Prop:=∀f∈w.2.2.2.1,f.1.size<1000000000
theorem k46 (w:Wk):ai (F33 w)=some (D4 w,()):=by
 simp only [F33,az,aq,aa,ac2,aH,bU,aQ,D4]
 by_cases h1:0<=w.1/\w.1<=1000000000
 ·rw [if_pos h1, if_neg (not_not_intro h1)]
  by_cases h2:0<=w.2.1/\w.2.1<=1000
  ·rw [if_pos h2, if_neg (not_not_intro h2)]
   by_cases h3:0<=w.2.2.1/\w.2.2.1<=1000
   ·rw [if_pos h3,if_neg (not_not_intro h3)]
   ·rw [if_neg h3,if_pos h3]
  ·rw [if_neg h2,if_pos h2]
 ·rw [if_neg h1,if_pos h1]
theorem k47 (w:Wk) (hn:Names w):ai (F34 w)=some (AU w,()):=by
 simp only [F34,aq,aa,bE,aQ,AU]
 by_cases h0:w.2.2.2.1.length=0
 ·rw [if_pos (by omega),if_pos h0]
 rw [if_neg (by omega),if_neg h0]
 by_cases h1:12<w.2.2.2.1.length
 ·rw [if_pos (by omega),if_pos h1]
 rw [if_neg (by omega),if_neg h1]
 simp only [az,bD]
 refine bind_eq (aZ w.2.2.2.1 (fun k (s : List ByteArray × List (ByteArray × Bool)) => (w.2.2.2.1, ((w.2.2.2.1.length : Nat) : Int), (k : Int), s.2, ())) (fun s r => if zP s.1 r = 0 then .inr () else .inl (zP s.1 r, ()))
  (fun pre s=>s.1=pre.map (·.1)/\iY .str s.2/\∀k,ay .str false s.2 k=AS k s.1) ?_ ?_ (s:=([],[])) ⟨rfl,.nil,fun k=>by simp [ay,AS]⟩) ?_
 ·rintro pre x post ⟨s, m⟩ hx ⟨hi, hcam, hm⟩
  simp only at hi hm
  have hlen:w.2.2.2.1.length=pre.length+(post.length+1):=by rw [hx];simp
  have hd:w.2.2.2.1.getD pre.length (bs [],(0:Int))=x:=by rw [hx];exact bg rfl
  have hxn:x.1.size<1000000000:=hn x (by rw [hx];simp)
  have key:run (fun _=>none) (g34_0 (w.2.2.2.1,((w.2.2.2.1.length:Nat):Int),(pre.length:Int),m,())) =
    if iW x.1=false then some (.inr (.inl (8,()))) else if AS x.1 s=true then some (.inr (.inl (6,()))) else if ¬(0<=x.2/\x.2<=1000000000) then some (.inr (.inl (2,()))) else
     some (.inl (w.2.2.2.1,((w.2.2.2.1.length:Nat):Int),((pre.length+1:Nat):Int),bp .str m x.1 true,())):=by
   have hin:eA (pre.length:Int) ((w.2.2.2.1.length:Nat):Int)=true:=bH (by omega) (by omega)
   have hni:dV .i64 ((pre.length:Int)+1)=true:=aK (by omega) (by omega)
   simp only [g34_0,az,aq,aY,aO,aN,aa,Int.toNat_natCast,hd,aQ,bE,hin,hni,ax,bU,k67 _ hxn,ac2,aH,hm]
   rw [if_pos (by omega)]
   cases hb:iW x.1
   ·simp
   ·simp only [Kr, Bool.true_eq_false, if_false]
    by_cases h2:AS x.1 s=true
    ·rw [tA,if_pos h2,if_pos h2]
    ·rw [tA, if_neg h2, if_neg h2]
     by_cases h3:0<=x.2/\x.2<=1000000000
     ·rw [if_pos h3,if_neg (not_not_intro h3)];rfl
     ·rw [if_neg h3,if_pos h3]
  rw [key]
  simp only [zP]
  by_cases c1:iW x.1=false
  ·right;simp only [if_pos c1];simp
  simp only [if_neg c1]
  by_cases c2:AS x.1 s=true
  ·right;simp only [if_pos c2];simp
  simp only [if_neg c2]
  by_cases c3:¬(0<=x.2/\x.2<=1000000000)
  ·right;simp only [if_pos c3];simp
  simp only [if_neg c3]
  left
  refine ⟨(s++[x.1],bp .str m x.1 true),rfl,⟨by simp [hi],hcam.iG pkS,fun k=>?_⟩,rfl⟩
  simp only
  rw [B8 pkS hcam,hm]
  simp only [xC pkS]
  by_cases hk:k=x.1
  ·simp [hk,AS]
  ·rw [if_neg hk]
   have:¬x.1=k:=fun e=>hk e.symm
   simp [AS,this]
 ·rintro ⟨s, m⟩ _
  simp only [g34_0,aq,aQ]
  rw [if_neg (by omega)]
  simp [zP,aa]
 ·by_cases h : zP [] w.2.2.2.1 = 0
  ·simp only [h,if_true,jA,aa]
  ·simp only [h,if_false,o7,aa]
theorem k48 (w:Wk) (h12:w.2.2.2.1.length<=1000000000):ai (F35 w)=some (Jc w,()):=by
 simp only [F35,aq,aa,bE,aQ,Jc]
 by_cases h1:50<w.2.2.2.2.length
 ·rw [if_pos (by omega),if_pos h1]
 rw [if_neg (by omega),if_neg h1]
 simp only [az,bD]
 refine bind_eq (aZ w.2.2.2.2 (fun k (_ : Unit) => (w.2.2.2.2, ((w.2.2.2.2.length : Nat) : Int), (k : Int), w.1, w.2.1, w.2.2.1, w.2.2.2.1, w.2.2.2.2, ())) (fun _ r => if zQ w.2.2.2.1.length r = 0 then .inr () else .inl (zQ w.2.2.2.1.length r, ()))
  (fun pre s=>True) ?_ ?_ (s:=()) trivial) ?_
 ·rintro pre x post _ hx -
  have hlen:w.2.2.2.2.length=pre.length+(post.length+1):=by rw [hx];simp
  have hd:w.2.2.2.2.getD pre.length ((0:Int),(0:Int),(0:Int),(0:Int))=x:=by rw [hx];exact bg rfl
  have key:run (fun _=>none) (g35_0 (w.2.2.2.2,((w.2.2.2.2.length:Nat):Int),(pre.length:Int),w.1,w.2.1,w.2.2.1,w.2.2.2.1,w.2.2.2.2,())) =
    if ¬(0<=x.1/\x.1<=(w.2.2.2.1.length:Int) - 1) then some (.inr (.inl (5,()))) else if ¬(0<=x.2.1/\x.2.1<=100000) then some (.inr (.inl (2,()))) else if ¬(0<=x.2.2.1/\x.2.2.1<=x.2.1) then some (.inr (.inl (2,()))) else
     if ¬(0<=x.2.2.2/\x.2.2.2<=1000) then some (.inr (.inl (2,()))) else some (.inl (w.2.2.2.2,((w.2.2.2.2.length:Nat):Int),((pre.length+1:Nat):Int),w.1,w.2.1,w.2.2.1,w.2.2.2.1,w.2.2.2.2,())):=by
   have hin:eA (pre.length:Int) ((w.2.2.2.2.length:Nat):Int)=true:=bH (by omega) (by omega)
   have hni:dV .i64 ((pre.length:Int)+1)=true:=aK (by omega) (by omega)
   have SR:dV .i64 ((w.2.2.2.1.length:Int) - 1)=true:=aK (by omega) (by omega)
   simp only [g35_0,az,aq,aY,aO,aN,aa,Int.toNat_natCast,hd,aQ,bE,hin,hni,SR,ax,bU,ac2,aH,ite_not]
   rw [if_pos (by omega)]
   rfl
  rw [key]
  simp only [zQ]
  by_cases c1:¬(0<=x.1/\x.1<=(w.2.2.2.1.length:Int) - 1)
  ·right;simp only [if_pos c1];simp
  simp only [if_neg c1]
  by_cases c2:¬(0<=x.2.1/\x.2.1<=100000)
  ·right;simp only [if_pos c2];simp
  simp only [if_neg c2]
  by_cases c3:¬(0<=x.2.2.1/\x.2.2.1<=x.2.1)
  ·right;simp only [if_pos c3];simp
  simp only [if_neg c3]
  by_cases c4:¬(0<=x.2.2.2/\x.2.2.2<=1000)
  ·right;simp only [if_pos c4];simp
  simp only [if_neg c4]
  left
  refine ⟨(),?_⟩;simp
 ·rintro _ _
  simp only [g35_0,aq,aQ]
  rw [if_neg (by omega)]
  simp [zQ,aa]
 ·by_cases h : zQ w.2.2.2.1.length w.2.2.2.2 = 0
  ·simp only [h,if_true,jA,aa]
  ·simp only [h,if_false,o7,aa]
theorem k22 (w:Wk) (hn:Names w):ai (F12 w)=some (zR w,()):=by
 have hni1:dV .i64 ((0:Int)+1)=true:=aK (by omega) (by omega)
 have hni2:dV .i64 ((1:Int)+1)=true:=aK (by omega) (by omega)
 have hni3:dV .i64 ((2:Int)+1)=true:=aK (by omega) (by omega)
 simp only [F12,aq,az,aa,aQ,k46,k47 w hn,aH,bU,bE,aO,hni1,hni2,hni3,ax]
 rw [if_pos (by omega)]
 unfold zR
 by_cases h0:D4 w=0
 ·simp only [h0, if_true, ne_eq, not_true, if_false]
  rw [if_pos (by omega)]
  by_cases h1:AU w=0
  ·simp only [h1, if_true, not_true, if_false]
   rw [if_pos (by omega)]
   have h12:w.2.2.2.1.length<=1000000000:=by
    unfold AU at h1
    split at h1;· omega
    split at h1<;>omega
   simp only [k48 w h12,aH]
   by_cases h2:Jc w=0
   ·simp only [h2,if_true];rw [if_neg (by omega)]
   ·simp only [h2,if_false]
  ·simp only [h1,if_false,not_false_eq_true,if_true]
 ·simp only [h0,if_false,ne_eq,not_false_eq_true,if_true]
end Go.Proofs.Tryz
end
section
namespace Go.Proofs.Tryz
open Go.AM
set_option maxRecDepth 100000
end Go.Proofs.Tryz
end
section
namespace Go.Proofs.Tryz
open Go.AM
structure HD (w:Wk):Prop where
 eC:0<=w.1/\w.1<=1000000000
 scale:0<=w.2.1/\w.2.1<=1000
 lab:0<=w.2.2.1/\w.2.2.1<=1000
 some:0<w.2.2.2.1.length
 many:w.2.2.2.1.length<=12
 cap:∀f∈w.2.2.2.1,0<=f.2/\f.2<=1000000000
 name:∀f∈w.2.2.2.1,iW f.1=true
 Sa:(w.2.2.2.1.map (·.1)).Nodup
 D5:w.2.2.2.2.length<=50
 GN:∀x∈w.2.2.2.2,0<=x.1/\x.1<w.2.2.2.1.length/\0<=x.2.2.1/\x.2.2.1<=x.2.1/\x.2.1<=100000/\0<=x.2.2.2/\x.2.2.2<=1000
theorem LC : ∀ {fs : List (ByteArray × Int)} {seen : List ByteArray}, zP seen fs = 0 → (∀ f ∈ fs, iW f.1 = true ∧ f.1 ∉ seen ∧ 0 ≤ f.2 ∧ f.2 ≤ 1000000000) ∧ (fs.map (·.1)).Nodup
 |[],_,_=>by simp
 |f::r,seen,h=>by
  simp only [zP] at h
  split at h;· omega
  split at h;· omega
  split at h;· omega
  rename_i h1 h2 h3
  rw [GM] at h2
  obtain ⟨q1,q2⟩:=LC h
  refine ⟨fun g hg=>?_,?_⟩
  ·rcases List.mem_cons.1 hg with rfl | hg
   ·exact ⟨by simpa using h1,h2,by omega,by omega⟩
   ·obtain ⟨a, b, c⟩ := q1 g hg
    exact ⟨a,fun e=>b (by simp [e]),c⟩
  ·rw [List.map_cons, List.nodup_cons]
   refine ⟨fun hm=>?_,q2⟩
   obtain ⟨g,hg,e⟩:=List.mem_map.1 hm
   exact (q1 g hg).2.1 (by simp [e])
theorem LD {n : Int} : ∀ {ws : List (Int × Int × Int × Int)}, zQ n ws = 0 → ∀ x ∈ ws, 0 ≤ x.1 ∧ x.1 < n ∧ 0 ≤ x.2.2.1 ∧ x.2.2.1 ≤ x.2.1 ∧ x.2.1 ≤ 100000 ∧ 0 ≤ x.2.2.2 ∧ x.2.2.2 ≤ 1000
 |[],_=>by simp
 |x::r,h=>by
  simp only [zQ] at h
  split at h;· omega
  split at h;· omega
  split at h;· omega
  split at h;· omega
  intro y hy
  rcases List.mem_cons.1 hy with rfl|hy
  ·omega
  ·exact LD h y hy
theorem ac3 {w:Wk} (h:zR w=0):HD w:=by
 unfold zR at h
 split at h;· contradiction
 split at h;· contradiction
 rename_i h0 h1
 have h0:D4 w=0:=by simpa using h0
 have h1:AU w=0:=by simpa using h1
 unfold D4 at h0
 split at h0;· omega
 split at h0;· omega
 split at h0;· omega
 unfold AU at h1
 split at h1;· omega
 split at h1;· omega
 unfold Jc at h
 split at h;· omega
 obtain ⟨q1,q2⟩:=LC h1
 exact ⟨by omega,by omega,by omega,by omega,by omega,fun f hf=>(q1 f hf).2.2,fun f hf=>(q1 f hf).1,q2,by omega,LD h⟩
def qe (h:Int×Int×Int×Int->Int) (l:List Int) (x:Int×Int×Int×Int):List Int:=l.set x.1.toNat (l.getD x.1.toNat 0+h x)
def oe (h:Int×Int×Int×Int->Int) (n:Nat) (ws:List (Int×Int×Int×Int)):List Int:=ws.foldl (qe h) (List.replicate n 0)
theorem xD (h:Int×Int×Int×Int->Int) (l:List Int) (x:Int×Int×Int×Int):(qe h l x).length=l.length:=by simp [qe]
theorem qT (h : Int × Int × Int × Int → Int) : ∀ (ws : List (Int × Int × Int × Int)) (l : List Int), (ws.foldl (qe h) l).length = l.length
 |[],_=>rfl
 |x::ws,l=>by rw [List.foldl_cons,qT h ws,xD]
theorem r8 (h:Int×Int×Int×Int->Int) (n:Nat) (ws:List (Int×Int×Int×Int)):(oe h n ws).length=n:=by
 rw [oe,qT,List.length_replicate]
def Bd (b:Int) (l:List Int):Prop:=∀y∈l,0<=y/\y<=b
theorem Bd.getD {b:Int} {l:List Int} (h:Bd b l) (hb:0<=b) (k:Nat):0<=l.getD k 0/\l.getD k 0<=b:=by
 rw [List.getD_eq_getElem?_getD]
 by_cases hk:k<l.length
 ·rw [List.getElem?_eq_getElem hk];exact h _ (List.getElem_mem hk)
 ·rw [List.getElem?_eq_none (by omega)];simpa using hb
theorem Bd.qe {b K:Int} {h:Int×Int×Int×Int->Int} {l:List Int} {x:Int×Int×Int×Int} (hl:Bd b l) (hb:0<=b) (hx:0<=h x/\h x<=K):Bd (b+K) (qe h l x):=by
 intro y hy
 rcases List.mem_or_eq_of_mem_set hy with hy|hy
 ·have:=hl y hy;omega
 ·have:=hl.getD hb x.1.toNat;omega
theorem Bd.foldl {K : Int} {h : Int × Int × Int × Int → Int} : ∀ {ws : List (Int × Int × Int × Int)} {l : List Int} {b : Int}, Bd b l → 0 ≤ b → (∀ x ∈ ws, 0 ≤ h x ∧ h x ≤ K) → Bd (b + K * ws.length) (ws.foldl (Tryz.qe h) l)
 |[],l,b,hl,_,_=>by simpa using hl
 |x::ws,l,b,hl,hb,hh=>by
  have h1:=hh x (List.mem_cons_self ..)
  have:=Bd.foldl (ws:=ws) (Bd.qe hl hb h1) (by omega) (fun y hy=>hh y (List.mem_cons_of_mem _ hy))
  rw [List.foldl_cons,List.length_cons]
  have e:b+K+K * (ws.length:Int)=b+K * ((ws.length+1:Nat):Int):=by rw [Int.natCast_add,Int.mul_add];omega
  rw [e] at this;exact this
theorem NX {K:Int} {h:Int×Int×Int×Int->Int} {n:Nat} {ws:List (Int×Int×Int×Int)} (hh:∀x∈ws,0<=h x/\h x<=K):Bd (K * ws.length) (oe h n ws):=by
 have:=Bd.foldl (l:=List.replicate n 0) (b:=0) (fun y hy=>by simp at hy;omega) (by omega) hh
 simpa [oe] using this
def oC (x:Int×Int×Int×Int):Int:=(x.2.1 - x.2.2.1) * x.2.2.2
def ac4 (w:Wk) (x:Int×Int×Int×Int):Int:=max 0 (x.2.1 - x.2.2.1 - 2 * w.2.1) * max 0 (x.2.2.2 - w.2.2.1)
def ain (w:Wk) (x:Int×Int×Int×Int):Int:=(x.2.1 - x.2.2.1+2 * w.2.1) * min 1000 (x.2.2.2+w.2.2.1)
def gT (w:Wk):List Int:=oe oC w.2.2.2.1.length w.2.2.2.2
def ac5 (w:Wk):List Int:=oe (ac4 w) w.2.2.2.1.length w.2.2.2.2
def aio (w:Wk):List Int:=oe (ain w) w.2.2.2.1.length w.2.2.2.2
theorem pQ {a b A B:Int} (h1:0<=a) (h2:a<=A) (h3:0<=b) (h4:b<=B):0<=a * b/\a * b<=A * B :=
 ⟨Int.mul_nonneg h1 h3,Int.le_trans (Int.mul_le_mul_of_nonneg_right h2 h3) (Int.mul_le_mul_of_nonneg_left h4 (by omega))⟩
variable {w:Wk}
theorem HD.oC (h:HD w):∀x∈w.2.2.2.2,0<=oC x/\oC x<=100000000:=fun x hx=>by
 have:=h.GN x hx
 exact pQ (A:=100000) (B:=1000) (by omega) (by omega) (by omega) (by omega)
end Go.Proofs.Tryz
end
section
namespace Go.Proofs.Tryz
open Go.AM
set_option maxRecDepth 100000
theorem WX (a b:Int):uo a b=min a b:=by simp only [uo];split<;>omega
theorem k44 {a b:Int} (h : -9223372036854775808<=a * b/\a * b<=9223372036854775807):ai (F15 a b)=some (a * b,()):=by
 simp only [F15,aO,aa]
 rw [aP h.1 h.2]
theorem Jd {A B : Type} {f : A → Option (A ⊕ B)} {h : Int × Int × Int × Int → Int} {K : Int} {n : Nat} {ws : List (Int × Int × Int × Int)} (mk : Nat → List Int → A) (out : List Int → B) (hb : ∀ x ∈ ws, 0 ≤ h x ∧ h x ≤ K)
  (hs:∀pre x post l,ws=pre++x::post->l.length=n->Bd (K * pre.length) l->f (mk pre.length l)=some (.inl (mk (pre.length+1) (qe h l x))))
  (he:∀l,f (mk ws.length l)=some (.inr (out l))):iter f (mk 0 (List.replicate n 0))=some (out (oe h n ws)):=by
 refine aZ ws mk (fun l r=>out (r.foldl (qe h) l)) (fun pre l=>l.length=n/\Bd (K * pre.length) l) ?_ ?_ (s:=List.replicate n 0) ⟨by simp,fun y hy=>by simp at hy;simp;omega⟩
 ·rintro pre x post l hx ⟨h1, h2⟩
  left
  refine ⟨qe h l x,hs pre x post l hx h1 h2,⟨by rw [xD,h1],?_⟩,rfl⟩
  have hxx:=hb x (by rw [hx];simp)
  have := Bd.qe (h := h) (x := x) h2 (by
   have:0<=K:=by omega
   exact Int.mul_nonneg this (by omega)) hxx
  have e:K * (pre.length:Int)+K=K * ((pre++[x]).length:Int):=by rw [List.length_append,List.length_cons,List.length_nil,Int.natCast_add,Int.mul_add];omega
  rw [<-e];exact this
 ·rintro l _;exact he l
theorem NY {K:Int} {n:Nat} (h0:0<=K) (hK:K<=1000000000) (hn:n<=100):0<=K * (n:Int)/\K * (n:Int)<=100000000000:=by
 have:=pQ (a:=K) (b:=(n:Int)) (A:=1000000000) (B:=100) h0 hK (by omega) (by omega)
 omega
section
variable {w:Wk} (hw:HD w)
include hw
theorem k41:ai (F14 w)=some (gT w,()):=by
 have hm:=hw.many;have hwg:=hw.D5
 simp only [F14,aY,aN,az,bD,aa,Int.toNat_natCast]
 rw [rT (by omega) (by omega)]
 refine bind_eq (Jd (h:=oC) (K:=100000000) (n:=w.2.2.2.1.length) (ws:=w.2.2.2.2) (fun k l=>(w.2.2.2.1.length,w.2.2.2.2,((w.2.2.2.2.length:Nat):Int),(k:Int),l,())) (fun l=>(w.2.2.2.1.length,l,())) hw.oC ?_ ?_) ?_
 ·intro pre x post l hx hl hb
  have hlen:w.2.2.2.2.length=pre.length+(post.length+1):=by rw [hx];simp
  have hd:w.2.2.2.2.getD pre.length ((0:Int),(0:Int),(0:Int),(0:Int))=x:=by rw [hx];exact bg rfl
  have hxm:x∈w.2.2.2.2:=by rw [hx];simp
  have hx1:=hw.GN x hxm;have hx2:=hw.oC x hxm
  have hsm:=NY (K:=100000000) (n:=pre.length) (by omega) (by omega) (by omega)
  have hg:=hb.getD hsm.1 x.1.toNat
  have hin:eA (pre.length:Int) ((w.2.2.2.2.length:Nat):Int)=true:=bH (by omega) (by omega)
  have hin2:eA x.1 ((w.2.2.2.1.length:Nat):Int)=true:=bH (by omega) (by omega)
  have hlt:decide (0+x.1.toNat<l.length)=true:=decide_eq_true (by omega)
  simp only [g14_0,aq,aY,aO,aN,az,aa,Int.toNat_natCast,hd,aQ,hin,hin2,hlt,ax]
  rw [if_pos (by omega),aP (by omega) (by omega)]
  simp only [k44 (a:=x.2.1 - x.2.2.1) (b:=x.2.2.2) (by unfold oC at hx2;omega),aH,Nat.zero_add]
  unfold oC at hx2
  rw [aP (by omega) (by omega),aP (by omega) (by omega)]
  rfl
 ·intro l
  simp only [g14_0,aq,aQ]
  rw [if_neg (by omega)]
  rfl
 ·simp only [List.drop_zero]
  rw [List.take_of_length_le (by rw [r8];exact Nat.le_refl _)]
  rfl
end
end Go.Proofs.Tryz
end
section
namespace Go.Proofs.Tryz
open Go.AM
set_option maxRecDepth 100000
theorem Sb {A B:Type} {a:List A} {b:List B} {i:Nat} {x:A} {y:B} (h1:i<a.length) (h2:i<b.length):(a.zip b).getD i (x,y)=(a.getD i x,b.getD i y):=by
 simp only [List.getD_eq_getElem?_getD]
 rw [List.getElem?_eq_getElem h1,List.getElem?_eq_getElem h2,List.getElem?_eq_getElem (by rw [List.length_zip];omega),List.getElem_zip]
 rfl
theorem qU {A:Type} {l:List A} {i:Nat} {x d:A} (h:i<l.length):(l.set i x).getD i d=x:=by
 simp [List.getD_eq_getElem?_getD,h]
end Go.Proofs.Tryz
end
section
namespace Go.Proofs.Tryz
open Go.AM
set_option maxRecDepth 100000
theorem Sc {A B : Type} {d : A} {e : B} {x : A × B} {post : List (A × B)} : ∀ {pre : List (A × B)} {a : List A} {b : List B}, a.zip b = pre ++ x :: post → a.getD pre.length d = x.1 ∧ b.getD pre.length e = x.2
 |[],[],_,h=>by simp at h
 |[],_::_,[],h=>by simp at h
 |[],p::a,q::b,h=>by simp at h;simp [<-h.1]
 |_::_,[],_,h=>by simp at h
 |_::_,_::_,[],h=>by simp at h
 |y::pre,p::a,q::b,h=>by
  simp only [List.zip_cons_cons,List.cons_append,List.cons.injEq] at h
  have:=Sc (d:=d) (e:=e) h.2
  simpa using this
noncomputable def sugar (w:Wk):List Int×List (Int×Int)×Int×Unit:=if zR w=0 then (gT w,(ac5 w).zip (aio w),0,()) else ([],[],zR w,())
end Go.Proofs.Tryz
end
section
namespace Go.Proofs.Tryz
open Go.AM
set_option maxRecDepth 100000
abbrev Cl:=(ByteArray×Int)×Int×Int
def pr (c:Cl):Int×Int:=(c.1.2,c.2.2)
structure tS (c:Cl):Prop where
 c0:0<=c.1.2
 c1:c.1.2<=1000000000
 s0:0<=c.2.2
 s1:c.2.2<=6000000000
def wo (c:Cl):Prop:=tS c/\0<c.2.2
def AV (a b:Int):Int:=if a<b then -1 else if b<a then 1 else 0
theorem Sd {a b:Int}:AV a b<0↔a<b:=by
 unfold AV;split
 ·simp [*]
 ·split<;>simp [*]
theorem WY {a b:Int}:AV a b<=0↔a<=b:=by
 unfold AV;split
 ·simp;omega
 ·split<;>simp<;>omega
theorem vp {A B:Type} (p:A×B):(p.1,p.2)=p:=rfl
theorem k76 (a:Int):ai (F42 a)=some (false,()):=by simp [F42,aa]
theorem k59 (a b:Int):ai (F22 a b)=some (AV a b,()):=by
 simp only [F22,az,aq,aa,k76,aH,pg,aQ,AV]
 split
 ·rfl
 ·split<;>rfl
theorem k70 {a b:Int×Int} (h1:0<=a.1 * b.2/\a.1 * b.2<=9000000000000000000) (h2:0<=b.1 * a.2/\b.1 * a.2<=9000000000000000000):ai (F37 a b)=some (AV (a.1 * b.2) (b.1 * a.2),()):=by
 simp only [F37,aO,az,aa,k59,aH]
 rw [aP (by omega) (by omega),aP (by omega) (by omega)]
theorem k71 (n:ByteArray) (c:Int) (p:Int×Int):ai (F38 (n,c,p))=some ((c,p.2),()):=by simp [F38,aa]
theorem tS.mul {a b:Cl} (ha:tS a) (hb:tS b):0<=a.1.2 * b.2.2/\a.1.2 * b.2.2<=9000000000000000000:=by
 have:=pQ ha.c0 ha.c1 hb.s0 hb.s1
 omega
theorem k82 {a b:Cl} (ha:tS a) (hb:tS b):ai (F64 (a.1.1,a.1.2,a.2) (b.1.1,b.1.2,b.2))=some (AV (a.1.2 * b.2.2) (b.1.2 * a.2.2),()):=by
 simp only [F64,az,aa,k71,aH]
 rw [aA (k70 (a:=(a.1.2,a.2.2)) (b:=(b.1.2,b.2.2)) (ha.mul hb) (hb.mul ha))]
def Ov (x y:Cl):Bool:=decide (x.1.2 * y.2.2<y.1.2 * x.2.2)
theorem ordL:BM Ov wo where
 asym a b _ _ h:=by
  simp only [Ov,decide_eq_true_eq,decide_eq_false_iff_not] at h ⊢;omega
 ntr a b c ha hb hc h1 h2:=by
  simp only [Ov,decide_eq_false_iff_not] at h1 h2 ⊢
  have:=Go.vn.B4 (a:=pr c) (b:=pr b) (n:=a.1.2) (d:=a.2.2) hb.2 ha.1.s0 hc.1.s0 (show c.1.2 * b.2.2<=b.1.2 * c.2.2 by omega) (show b.1.2 * a.2.2<=a.1.2 * b.2.2 by omega)
  simp only [pr] at this
  omega
theorem aip {l T:List Cl} (hg:∀c∈l,wo c) (hl:l.length<=1000):ai (FH65 0 l.length 0 l.length (l++T))=some (nk Ov l++T,()):=by
 simp only [FH65,aO,az,bD,aa]
 rw [aP (by omega) (by omega)]
 refine bind_eq (BN (lt:=Ov) (Good:=wo) (n:=l.length) (fun k m=>((0:Nat),l.length,(0:Int),((l.length:Nat):Int),(k:Int),m++T,())) (fun m=>(m++T,())) ?_ ?_ hg rfl) rfl
 ·intro R x Q hR hg' hn
  simp only [gH65_0,aq,az,bD,aa,aO,aQ]
  rw [if_pos (by omega)]
  refine bind_eq (u7 (lt:=Ov) (Good:=wo) (n:=l.length) (fun k m=>((0:Nat),l.length,(0:Int),((l.length:Nat):Int),(R.length:Int),(k:Int),m++T,())) (fun m=>((0:Nat),l.length,(0:Int),((l.length:Nat):Int),(R.length:Int),m++T,())) ?_ ?_ R x Q hg' hn) ?_
  ·intro L y x Q hg2 hn2
   have e0:L++y::x::Q++T=L++y::x::(Q++T):=by simp
   rw [e0]
   generalize hW:Q++T=W
   have t1:Int.toNat (((L.length+1:Nat):Int) - 1)=L.length:=by omega
   have g1:(L++y::x::W).getD (L.length+1) (((bs []),(0:Int)),(0:Int),(0:Int))=x:=by
    rw [show L++y::x::W=(L++[y])++x::W by simp];exact bg (by simp)
   have g2:(L++y::x::W).getD L.length (((bs []),(0:Int)),(0:Int),(0:Int))=y:=bg rfl
   have s1:(L++y::x::W).set (L.length+1) y=L++y::y::W:=by
    rw [show L++y::x::W=(L++[y])++x::W by simp,xq (by simp)];simp
   have s2:(L++y::y::W).set L.length x=L++x::y::W:=xq rfl
   have i1:eA ((L.length+1:Nat):Int) ((l.length:Nat):Int)=true:=bH (by omega) (by omega)
   have i2:eA (((L.length+1:Nat):Int) - 1) ((l.length:Nat):Int)=true:=bH (by omega) (by omega)
   have r1:dV .i64 (((L.length+1:Nat):Int) - 1)=true:=aK (by omega) (by omega)
   have d1:decide (L.length+1<(L++y::x::W).length)=true:=decide_eq_true (by simp)
   have d2:decide (L.length<(L++y::x::W).length)=true:=decide_eq_true (by simp)
   have d3:decide (L.length<(L++y::y::W).length)=true:=decide_eq_true (by simp)
   have hx:=hg2 x (by simp);have hy:=hg2 y (by simp)
   simp only [gH65_1,aq,az,aY,aN,aO,aa,Int.toNat_natCast,t1,Nat.zero_add,g1,g2,vp,k82 hx.1 hy.1,aH,i1,i2,r1,d1,d2,ax,aQ,s1,s2,d3,Sd]
   rw [if_pos (by omega)]
   by_cases hc:x.1.2 * y.2.2<y.1.2 * x.2.2
   ·rw [if_pos hc, if_pos (by simpa [Ov] using hc)]
    have:(((L.length+1:Nat):Int) - 1)=(L.length:Int):=by omega
    rw [this,<-hW];simp
   ·rw [if_neg hc,if_neg (by simpa [Ov] using hc)]
  ·intro m
   simp only [gH65_1,aq,aQ,aa]
   rw [if_neg (by omega)]
  ·simp only []
   rw [aP (by omega) (by omega)]
   simp
 ·intro k m hk
  simp only [gH65_0,aq,aQ,aa]
  rw [if_neg (by omega)]
theorem aiq {l T:List Cl} (hg:∀c∈l,wo c) (hl:l.length<=12):ai (FH63 0 l.length (l++T))=some (nk Ov l++T,()):=by
 simp only [FH63,FH89,az,bD,aa]
 rw [cA (b := (0, l.length, ((l.length : Nat) : Int), (20 : Int), (0 : Int), l ++ T, ())) (by
  simp only [gH89_0,aq,aQ,aa];rw [if_neg (by omega)])]
 simp only [aH]
 rw [aA (aip hg (by omega))]
 rw [cA (b := (nk Ov l ++ T, ())) (by
  simp only [gH89_1,aq,aQ,aa];rw [if_neg (by omega)])]
 simp only [aH]
end Go.Proofs.Tryz
end
section
namespace Go.Proofs.Tryz
open Go.AM Go.vn
set_option maxRecDepth 100000
theorem kH55 {l:List Cl} (hl:l.length<=1000):ai (FH18 l)=some (l.length,l,()):=by
 simp only [FH18,aq,Qk,aN,aa,bE]
 rw [pe (by omega)]
 split
 ·have : l = [] := List.length_eq_zero_iff.1 (by omega)
  subst this
  simp only [List.length_nil,List.drop_nil,List.take_nil,List.append_nil,Nat.add_zero]
  exact uT
 ·simp
def kept (l:List Cl):List Cl:=l.filter fun c=>decide (c.2.2≠0)
theorem GO {l:List Cl} (h:∀c∈l,c.2.2≠0):kept l=l:=List.filter_eq_self.2 fun c hc=>decide_eq_true (h c hc)
theorem k80 (n:ByteArray) (c:Int) (p:Int×Int):ai (F62 (n,c,p))=some (p.2==0,()):=by simp [F62,aa]
def oh : Nat → List Cl → (Int × Unit) ⊕ Unit
 |_,[]=>.inr ()
 |k,x::r=>if x.2.2=0 then .inl ((k:Int),()) else oh (k+1) r
theorem wq : ∀ (l : List Cl) (k : Nat), (∃ p x q, l = p ++ x :: q ∧ (∀ c ∈ p, c.2.2 ≠ 0) ∧ x.2.2 = 0 ∧ oh k l = .inl (((k + p.length : Nat) : Int), ())) ∨ ((∀ c ∈ l, c.2.2 ≠ 0) ∧ oh k l = .inr ())
 |[],k=>.inr ⟨by simp,rfl⟩
 |y::l,k=>by
  by_cases h:y.2.2=0
  ·left
   exact ⟨[],y,l,rfl,by simp,h,by simp [oh,h]⟩
  ·rcases wq l (k + 1) with ⟨p, x, q, h1, h2, h3, h4⟩ | ⟨h1, h2⟩
   ·left
    refine ⟨y::p,x,q,by rw [h1];rfl,fun c hc=>?_,h3,?_⟩
    ·rcases List.mem_cons.1 hc with rfl | hc
     ·exact h
     ·exact h2 c hc
    ·unfold oh;rw [if_neg h,h4,List.length_cons,show k+1+p.length=k+(p.length+1) by omega]
   ·right
    refine ⟨fun c hc=>?_,by unfold oh;rw [if_neg h,h2]⟩
    rcases List.mem_cons.1 hc with rfl|hc
    ·exact h
    ·exact h1 c hc
theorem k93 {l:List Cl} (hl:l.length<=1000):(∃p x q,l=p++x::q/\(∀c∈p,c.2.2≠0)/\x.2.2=0/\ai (F88 l)=some ((p.length:Int),()))\/((∀c∈l,c.2.2≠0)/\ai (F88 l)=some (-1,())):=by
 have hi := aZ (f := fun a => run (fun _ => none) (g88_0 a)) l (fun k (_ : Nat) => (l, ((l.length : Nat) : Int), (k : Int), ())) (fun k r => oh k r) (fun pre k => k = pre.length) (by
  rintro pre x post k hx rfl
  have hlen:l.length=pre.length+(post.length+1):=by rw [hx];simp
  have hd:l.getD pre.length (((bs []),(0:Int)),(0:Int),(0:Int))=x:=by rw [hx];exact bg rfl
  have i1:eA (pre.length:Int) ((l.length:Nat):Int)=true:=bH (by omega) (by omega)
  have r1:dV .i64 ((pre.length:Int)+1)=true:=aK (by omega) (by omega)
  simp only [g88_0,aq,az,aY,aN,aO,aa,Int.toNat_natCast,hd,k80,aH,i1,r1,ax,aQ,bE]
  rw [if_pos (by omega)]
  by_cases h:x.2.2=0
  ·right;rw [if_pos h];simp [oh,h]
  ·left
   refine ⟨pre.length+1,?_⟩
   rw [if_neg h];simp [oh,h]) (by
  rintro k _
  simp only [g88_0,aq,aQ,aa]
  rw [if_neg (by omega)];rfl) (s:=0) rfl
 simp only [F88,az,bD]
 rcases wq l 0 with ⟨p,x,q,h1,h2,h3,h4⟩|⟨h1,h2⟩
 ·left
  refine ⟨p,x,q,h1,h2,h3,bind_eq hi ?_⟩
  rw [h4];simp [o7,aa]
 ·right
  refine ⟨h1,bind_eq hi ?_⟩
  rw [h2];simp [jA,aa]
theorem zS (l:List Cl):(kept l).length<=l.length:=List.length_filter_le ..
theorem kH79 {l:List Cl} (hl:l.length<=1000):ai (FH61 l.length l)=some (0,(kept l).length,kept l++List.replicate (l.length - (kept l).length) (((bs []),(0:Int)),(0:Int),(0:Int)),()):=by
 simp only [FH61,az,bD,aq,aa,aO,aN,List.drop_zero,List.take_length,bE]
 rcases k93 hl with ⟨p,x,q,h1,h2,h3,h4⟩|⟨h1,h2⟩
 case inr =>
  rw [aA h2]
  simp only [if_true]
  rw [GO h1];simp
 rw [aA h4]
 simp only
 have hlen:l.length=p.length+(q.length+1):=by rw [h1];simp
 rw [if_neg (by omega),aP (by omega) (by omega)]
 have hk:kept l=p++kept q:=by
  have e1:kept p=p:=GO h2
  have e2:kept (x::q)=kept q:=by simp [kept,h3]
  rw [h1,show kept (p++x::q)=kept p++kept (x::q) by simp [kept],e1,e2]
 obtain ⟨res, hres, m, b, rfl, hb, hm, ht⟩ := Dm (step := fun a => run (fun _ => none) (gH61_0 a)) q.length
  (fun k x=>∃(i:Nat) (b:List Cl),x=(l.length,(i:Int),((p.length+1+k:Nat):Int),b,())/\b.length=l.length/\i<=p.length+k/\b.take i=p++kept (q.take k)/\b.drop (p.length+1+k)=q.drop k)
  (fun r => ∃ (m : Nat) (b : List Cl), r = (l.length, (m : Int), b, ()) ∧ b.length = l.length ∧ m ≤ l.length ∧ b.take m = p ++ kept q) (by
   rintro k _ hk ⟨i,b,rfl,hb,hi,ht,hd⟩
   have hx:b.getD (p.length+1+k) (((bs []),(0:Int)),(0:Int),(0:Int))=q.getD k (((bs []),(0:Int)),(0:Int),(0:Int)):=by
    have:=congrArg (fun l=>l.getD 0 (((bs []),(0:Int)),(0:Int),(0:Int))) hd
    simpa [List.getD_eq_getElem?_getD] using this
   have Se:q.take (k+1)=q.take k++[q.getD k (((bs []),(0:Int)),(0:Int),(0:Int))]:=by
    rw [List.take_succ_eq_append_getElem hk];simp [List.getD_eq_getElem?_getD,List.getElem?_eq_getElem hk]
   generalize q.getD k (((bs []),(0:Int)),(0:Int),(0:Int))=y at hx Se
   have i1:eA ((p.length+1+k:Nat):Int) ((l.length:Nat):Int)=true:=bH (by omega) (by omega)
   have i2:eA (i:Int) ((l.length:Nat):Int)=true:=bH (by omega) (by omega)
   have d1:decide (p.length+1+k<b.length)=true:=decide_eq_true (by omega)
   have d2:decide (i<b.length)=true:=decide_eq_true (by omega)
   have r1:dV .i64 ((i:Int)+1)=true:=aK (by omega) (by omega)
   have r2:dV .i64 (((p.length+1+k:Nat):Int)+1)=true:=aK (by omega) (by omega)
   simp only [gH61_0,aq,az,aY,aN,aO,aa,Int.toNat_natCast,Nat.zero_add,hx,k80,aH,i1,i2,d1,d2,r1,r2,ax,aQ,bU,bE,vp]
   rw [if_pos (by omega)]
   by_cases hy:y.2.2=0
   ·refine ⟨_, by rw [if_pos hy], i, b, by rw [show ((p.length + 1 + (k + 1) : Nat) : Int) = ((p.length + 1 + k : Nat) : Int) + 1 by omega], hb, by omega, ?_, ?_⟩
    ·rw [ht,Se];simp [kept,hy]
    ·have := congrArg (List.drop 1) hd
     simpa [List.drop_drop,Nat.add_assoc] using this
   ·refine ⟨_, by rw [if_neg hy], i + 1, b.set i y, by rw [show ((p.length + 1 + (k + 1) : Nat) : Int) = ((p.length + 1 + k : Nat) : Int) + 1 by omega, show ((i + 1 : Nat) : Int) = (i : Int) + 1 by omega], by simp [hb], by omega, ?_, ?_⟩
    ·have e:(b.set i y).take (i+1)=b.take i++[y]:=by
      rw [List.take_succ_eq_append_getElem (by simp;omega)]
      simp [List.take_set_of_le]
     rw [e,ht,Se];simp [kept,hy]
    ·have := congrArg (List.drop 1) hd
     rw [List.drop_set_of_lt (by omega)]
     simpa [List.drop_drop,Nat.add_assoc] using this) (by
   rintro _ ⟨i,b,rfl,hb,hi,ht,hd⟩
   simp only [gH61_0,aq,aa,aQ]
   rw [if_neg (by omega)]
   exact ⟨_,rfl,i,b,rfl,hb,by omega,by rw [ht,List.take_length]⟩) (x:=(l.length,(p.length:Int),(p.length:Int)+1,l,())) ⟨p.length,l,by simp,rfl,by omega,by rw [h1];simp [kept],by rw [h1];simp⟩
 rw [aA hres]
 have hml:m=(kept l).length:=by rw [hk,<-ht,List.length_take];omega
 simp only [Int.toNat_natCast,Nat.zero_add,xJ,Int.toNat_zero,Nat.sub_zero]
 rw [aI (by omega),aI (by omega),aI (by omega),aI (by omega),aI (by omega),aI (by omega)]
 rw [ht,<-hk,<-hml,List.drop_eq_nil_of_le (by omega),List.append_nil]
end Go.Proofs.Tryz
end
section
namespace Go.Proofs.Tryz
open Go.AM Go.vn
set_option maxRecDepth 100000
theorem ac6 {f : Int × Int × Int × Int × Int × Int × Unit → Option ((Int × Int × Int × Int × Int × Int × Unit) ⊕ (Int × Int × Int × Int × Int × Unit))}
  (hs:∀a b c d e g,0<b->f (a,b,c,d,e,g,())=some (.inl (b,Int.tmod a b,c,d,e,g,()))) (hz:∀a c d e g,f (a,0,c,d,e,g,())=some (.inr (a,c,d,e,g,()))) (c d e g:Int) :
  ∀n m:Nat,iter f ((m:Int),(n:Int),c,d,e,g,())=some (((Nat.gcd m n:Nat):Int),c,d,e,g,()):=by
 intro n
 induction n using Nat.strongRecOn with
 |ind n ih =>
  intro m
  cases n with
  |zero=>rw [Nat.gcd_zero_right];exact cA (hz ..)
  |succ n =>
   refine cI (hs _ _ _ _ _ _ (by omega)) ?_
   have h1:Int.tmod (m:Int) ((n+1:Nat):Int)=((m % (n+1):Nat):Int):=rfl
   rw [h1,ih (m % (n+1)) (Nat.mod_lt _ (by omega)) (n+1),Nat.gcd_comm m (n+1),Nat.gcd_rec (n+1) m,Nat.gcd_comm]
theorem pk72 {a b:Int} (ha:0<=a) (ha1:a<=9000000000000000000) (hb:0<b) (iL:b<=9000000000000000000):ai (F39 (a,b))=some (red a b,()):=by
 obtain ⟨m,rfl⟩:=Int.eq_ofNat_of_zero_le ha
 obtain ⟨n,rfl⟩:=Int.eq_ofNat_of_zero_le (Int.le_of_lt hb)
 obtain ⟨hg,h1,h2,h3,h4,h5⟩:=zL hb ha
 have hit:=ac6 (f:=fun a=>run (fun _=>none) (g39_0 a)) (fun a b c d e g hb=>by
  simp only [g39_0,aq,aN,aa,aQ]
  rw [if_pos hb]
  have:(!(b==0))=true:=by simp;omega
  rw [cD this]) (fun a c d e g=>by
  simp only [g39_0,aq,aN,aa,aQ]
  rw [if_neg (by omega)]) (m:Int) (n:Int) 0 0 n m
 simp only [F39,az,bD,aN,aO,aa]
 rw [aA hit]
 have ac7:((Nat.gcd m n:Nat):Int)=((Int.gcd m n:Nat):Int):=by simp
 rw [<-ac7] at hg h1 h2
 simp only []
 have hne:(!(((Nat.gcd m n:Nat):Int)==0))=true:=by simp;omega
 have e1:Int.tdiv (m:Int) ((Nat.gcd m n:Nat):Int)=(red m n).1:=by
  rw [Int.tdiv_eq_ediv_of_nonneg (by omega)];unfold red;rw [ac7]
 have e2:Int.tdiv (n:Int) ((Nat.gcd m n:Nat):Int)=(red m n).2:=by
  rw [Int.tdiv_eq_ediv_of_nonneg (by omega)];unfold red;rw [ac7]
 have b1:(red (m:Int) n).1<=m:=by
  have:=Int.mul_le_mul_of_nonneg_left (show (1:Int)<=((Nat.gcd m n:Nat):Int) by omega) h5
  omega
 have b2:(red (m:Int) n).2<=n:=by
  have:=Int.mul_le_mul_of_nonneg_left (show (1:Int)<=((Nat.gcd m n:Nat):Int) by omega) (Int.le_of_lt h4)
  omega
 rw [e1,e2,cD hne,aP (by omega) (by omega),cD hne,aP (by omega) (by omega)]
def HE : List Cl → Int → Int → Int × Int → Bool × (Int × Int) × Int × Int × (Int × Int)
 |[],l,s,last=>(false,last,l,s,last)
 |c::r,l,s,last=>if l * c.2.2<=c.1.2 * s then (true,red l s,l,s,last) else HE r (l - c.1.2) (s - c.2.2) (red c.1.2 c.2.2)
theorem Sf : ∀ (S : List Cl) (l s : Int) (last : Int × Int), (HE S l s last).2.1 = pO (S.map pr) l s last
 |[],_,_,_=>rfl
 |c::r,l,s,last=>by
  unfold HE
  rw [List.map_cons]
  unfold pO
  by_cases h:l * c.2.2<=c.1.2 * s
  ·have h' : l * (pr c).2 ≤ (pr c).1 * s := h
   rw [if_pos h,if_pos h']
  ·have h' : ¬ l * (pr c).2 ≤ (pr c).1 * s := h
   rw [if_neg h,if_neg h',Sf r];rfl
theorem GP : ∀ (S : List Cl) (l s : Int) (last : Int × Int), (HE S l s last).1 = false → (HE S l s last).2.2.2.2 = (HE S l s last).2.1
 |[],_,_,_,_=>rfl
 |c::r,l,s,last,h=>by
  unfold HE at h ⊢
  split at h
  ·cases h
  ·rename_i hc
   rw [if_neg hc]
   exact GP r _ _ _ h
abbrev cN (l:List Cl):Int:=nC (l.map pr)
theorem ew (c:Cl) (l:List Cl):cN (c::l)=c.2.2+cN l:=by simp [cN,nC,pr]
theorem tT:cN []=0:=rfl
theorem tU : ∀ {l : List Cl}, (∀ c ∈ l, tS c) → 0 ≤ cN l ∧ cN l ≤ 6000000000 * l.length
 |[],_=>by simp [cN,nC]
 |c::l,h=>by
  have h1:=h c (List.mem_cons_self ..)
  have h2:=tU (l:=l) fun x hx=>h x (List.mem_cons_of_mem _ hx)
  have:=h1.s0;have:=h1.s1
  rw [ew,List.length_cons];omega
end Go.Proofs.Tryz
end
section
namespace Go.Proofs.Tryz
open Go.AM Go.vn
set_option maxRecDepth 100000
structure OkC (l:List Cl):Prop where
 good:∀c∈l,tS c
 all:cN l<=6000000000
 many:l.length<=12
theorem NZ {a b:List Cl} (h:a.Perm b):cN a=cN b:=by
 induction h with
 |nil=>rfl
 |cons x _ ih=>rw [ew,ew,ih]
 |swap x y l=>simp only [ew];omega
 |trans _ _ h1 h2=>exact h1.trans h2
theorem B9 : ∀ l : List Cl, cN (kept l) = cN l
 |[]=>rfl
 |c::l=>by
  have ih:=B9 l
  unfold kept at ih ⊢
  rw [List.filter_cons,ew]
  by_cases h:c.2.2=0
  ·rw [if_neg (by simp [h]),ih];omega
  ·rw [if_pos (by simp [h]),ew,ih]
theorem l8 (a b:List Cl):cN (a++b)=cN a+cN b:=by simp [cN,nC]
def cK (l:List Cl):List Cl:=nk Ov (kept l)
theorem vq {l:List Cl} (h:OkC l):∀c∈kept l,wo c:=fun c hc=>by
 rw [kept,List.mem_filter] at hc
 have h1:=h.good c hc.1
 have h2:c.2.2≠0:=by simpa using hc.2
 exact ⟨h1,by have:=h1.s0;omega⟩
theorem oq {l:List Cl} (h:OkC l):∀c∈cK l,wo c:=fun c hc=>vq h c ((iO _).mem_iff.1 hc)
theorem qp {l:List Cl}:(cK l).length=(kept l).length:=tC _
theorem nt {l:List Cl}:cN (cK l)=cN l:=by rw [cK,NZ (iO _),B9]
abbrev Y9:Cl:=(((bs []),(0:Int)),(0:Int),(0:Int))
variable {l:List Cl}
theorem kBy (h:OkC l):∃Z:List Cl,ai (FH18 l)=some (l.length,l,())/\ai (FH61 l.length l)=some (0,(cK l).length,kept l++Z,())/\ai (FH63 0 (cK l).length (kept l++Z))=some (cK l++Z,()):=by
 have h12:=h.many
 have hk:=zS l
 refine ⟨List.replicate (l.length - (kept l).length) Y9,kH55 (by omega),by rw [kH79 (by omega),qp],?_⟩
 rw [qp]
 exact aiq (vq h) (by omega)
theorem ait (h:OkC l) (p0 a1 a2 a3 a4:Int):ai (g16_0 ((l,p0),l,a1,a2,a3,a4,0,()))=some (l,a1,a2,a3,a4,cN l,()):=by
 obtain ⟨Z,e1,e2,e3⟩:=kBy h
 have h12:=h.many
 have hk:=zS l
 have hS:=qp (l:=l)
 simp only [g16_0,az,bD,aa]
 rw [aA e1];simp only []
 rw [aA e2];simp only []
 rw [aA e3];simp only []
 refine bind_eq (aZ (cK l) (fun k (s:Int)=>((0:Nat),(cK l).length,(((cK l).length:Nat):Int),(k:Int),(l,p0),cK l++Z,l,a1,a2,a3,a4,s,())) (fun s r=>(l,a1,a2,a3,a4,s+cN r,(l,p0),())) (fun pre s=>s=cN pre) ?_ ?_ (s:=0) rfl) ?_
 ·rintro pre x post s hx rfl
  left
  have hlen:(cK l).length=pre.length+(post.length+1):=by rw [hx];simp
  have hd:(cK l++Z).getD pre.length Y9=x:=by rw [hx,List.append_assoc,List.cons_append];exact bg rfl
  have i1:eA (pre.length:Int) (((cK l).length:Nat):Int)=true:=bH (by omega) (by omega)
  have r1:dV .i64 ((pre.length:Int)+1)=true:=aK (by omega) (by omega)
  have d1:decide (pre.length<(cK l++Z).length)=true:=decide_eq_true (by simp;omega)
  have WZ:cN pre+x.2.2+cN post=cN l:=by have:=nt (l:=l);rw [hx,l8,ew] at this;omega
  have hg:=oq h
  have hpre:=tU (l:=pre) fun c hc=>(hg c (by rw [hx];simp [hc])).1
  have hpost:=tU (l:=post) fun c hc=>(hg c (by rw [hx];simp [hc])).1
  have hxg:=(hg x (by rw [hx];simp)).1.s0
  have hall:=h.all
  refine ⟨cN pre+x.2.2,?_,by rw [l8,ew,tT];omega,by rw [ew,show cN pre+(x.2.2+cN post)=cN pre+x.2.2+cN post by omega]⟩
  simp only [g16_0i_0,aq,az,aY,aN,aO,aa,Int.toNat_natCast,Nat.zero_add,hd,i1,r1,d1,ax,aQ]
  rw [if_pos (by omega),aP (by omega) (by omega)]
  rfl
 ·rintro s _
  simp only [g16_0i_0,aq,aQ,aa]
  rw [if_neg (by omega)]
  simp [tT]
 ·simp only [nt,Int.zero_add]
theorem Sg {c:Cl} {a s t:Int} (hc:wo c) (ht:0<=t) (hs:s=c.2.2+t) (h:¬a * c.2.2<=c.1.2 * s):0<=a - c.1.2:=by
 rcases Int.lt_or_le a c.1.2 with hlt|hle
 ·exfalso; apply h
  have h1:a * c.2.2<=c.1.2 * c.2.2:=Int.mul_le_mul_of_nonneg_right (by omega) (Int.le_of_lt hc.2)
  have h2:c.1.2 * c.2.2<=c.1.2 * s:=Int.mul_le_mul_of_nonneg_left (by omega) hc.1.c0
  omega
 ·omega
theorem aiu (h:OkC l) {p0 a1 a2 a3:Int} (h0:0<=a3) (h1:a3<=1000000000) :
  ai (g16_1 ((l, p0), a1, a2, a3, cN l, 0, 1, ())) = some (if (HE (cK l) a3 (cN l) (0, 1)).1 = true then .inl ((HE (cK l) a3 (cN l) (0, 1)).2.1.1, (HE (cK l) a3 (cN l) (0, 1)).2.1.2, ())
   else .inr (a1,a2,(HE (cK l) a3 (cN l) (0,1)).2.1.1,(HE (cK l) a3 (cN l) (0,1)).2.1.2,())):=by
 obtain ⟨Z,e1,e2,e3⟩:=kBy h
 have h12:=h.many
 have hk:=zS l
 have hS:=qp (l:=l)
 simp only [g16_1,az,bD,aa]
 rw [aA e1];simp only []
 rw [aA e2];simp only []
 rw [aA e3];simp only []
 refine bind_eq (aZ (cK l) (fun k (s : Int × Int × Int × Int) => ((0 : Nat), (cK l).length, (((cK l).length : Nat) : Int), (k : Int), (l, p0), cK l ++ Z, a1, a2, s.1, s.2.1, s.2.2.1, s.2.2.2, ()))
  (fun s r=>let q:=HE r s.1 s.2.1 (s.2.2.1,s.2.2.2);if q.1=true then .inl (q.2.1.1,q.2.1.2,q.2.2.1,q.2.2.2.1,q.2.2.2.2.1,q.2.2.2.2.2,(l,p0),()) else .inr (a1,a2,q.2.2.1,q.2.2.2.1,q.2.2.2.2.1,q.2.2.2.2.2,(l,p0),()))
  (fun pre s=>(0<=s.1/\s.1<=1000000000)/\cN pre+s.2.1=cN l) ?_ ?_ (s:=(a3,cN l,0,1)) ⟨⟨h0,h1⟩,by show cN []+cN l=cN l;rw [tT];omega⟩) ?_
 ·rintro pre x post ⟨a, s, u, v⟩ hx ⟨ha, hs⟩
  simp only at ha hs
  have hlen:(cK l).length=pre.length+(post.length+1):=by rw [hx];simp
  have hd:(cK l++Z).getD pre.length Y9=x:=by rw [hx,List.append_assoc,List.cons_append];exact bg rfl
  have i1:eA (pre.length:Int) (((cK l).length:Nat):Int)=true:=bH (by omega) (by omega)
  have r1:dV .i64 ((pre.length:Int)+1)=true:=aK (by omega) (by omega)
  have d1:decide (pre.length<(cK l++Z).length)=true:=decide_eq_true (by simp;omega)
  have WZ:cN pre+(x.2.2+cN post)=cN l:=by have:=nt (l:=l);rw [hx,l8,ew] at this;omega
  have hg:=oq h
  have hpre:=tU (l:=pre) fun c hc=>(hg c (by rw [hx];simp [hc])).1
  have hpost:=tU (l:=post) fun c hc=>(hg c (by rw [hx];simp [hc])).1
  have hxg:=hg x (by rw [hx];simp)
  have hall:=h.all
  have hse:s=x.2.2+cN post:=by omega
  have hx2:=hxg.2
  have Ez:=hxg.1
  have m1:=pQ (a:=a) (A:=1000000000) (b:=x.2.2) (B:=6000000000) ha.1 ha.2 Ez.s0 Ez.s1
  have m2:=pQ (a:=x.1.2) (A:=1000000000) (b:=s) (B:=6000000000) Ez.c0 Ez.c1 (by omega) (by omega)
  have k1:=k70 (a:=(a,s)) (b:=(x.1.2,x.2.2)) (by simp only;omega) (by simp only;omega)
  have k2:=pk72 (a:=a) (b:=s) ha.1 (by omega) (by omega) (by omega)
  have k3:=pk72 (a:=x.1.2) (b:=x.2.2) Ez.c0 (by have:=Ez.c1;omega) hx2 (by have:=Ez.s1;omega)
  have hc1:=Ez.c1;have hc0:=Ez.c0
  have mN:¬a * x.2.2<=x.1.2 * s->0<=a - x.1.2:=Sg hxg hpost.1 hse
  simp only [g16_1i_0,aq,az,aY,aN,aO,aa,Int.toNat_natCast,Nat.zero_add,hd,i1,r1,d1,ax,aQ,vp,k71,aH]
  rw [if_pos (by omega),aA k1]
  simp only [WY,HE]
  by_cases hc:a * x.2.2<=x.1.2 * s
  ·right
   rw [if_pos hc,aA k2]
   simp only [if_pos hc]
   rfl
  ·left
   refine ⟨(a - x.1.2,s - x.2.2,(red x.1.2 x.2.2).1,(red x.1.2 x.2.2).2),?_,⟨⟨mN hc,by show a - x.1.2<=1000000000;omega⟩,by show cN (pre++[x])+(s - x.2.2)=cN l;rw [l8,ew,tT];omega⟩,?_⟩
   ·rw [if_neg hc, aA k3]
    have:=mN hc
    simp only []
    rw [aP (by omega) (by omega),aP (by omega) (by omega)]
    rfl
   ·simp only [if_neg hc]
 ·rintro s _
  simp only [g16_1i_0,aq,aQ,aa]
  rw [if_neg (by omega)]
  simp [HE]
 ·simp only []
  generalize hq:HE (cK l) a3 (cN l) (0,1)=q
  have hl:=GP (cK l) a3 (cN l) (0,1)
  rw [hq] at hl
  by_cases hc:q.1=true
  ·rw [if_pos hc,if_pos hc];rfl
  ·have := hl (by simpa using hc)
   rw [if_neg hc,if_neg hc]
   simp only [jA,aa,this]
def level (l:List Cl) (mE:Int):Int×Int:=pO ((cK l).map pr) mE (cN l) (0,1)
theorem k52 (h:OkC l) {mE:Int} (h0:0<=mE) (h1:mE<=1000000000):ai (F16 (l,mE))=some (level l mE,()):=by
 have k0 (p:Int):ai (F36 (l,p))=some ((l,p),()):=by simp [F36,aa]
 simp only [F16,az,aa,k0,aH]
 rw [aA (ait h _ _ _ _ _)]
 simp only [k0,aH]
 rw [aA (aiu h h0 h1)]
 unfold level
 rw [<-Sf]
 split<;>simp [o7,jA,aa]
end Go.Proofs.Tryz
end
section
namespace Go.Proofs.Tryz
open Go.AM Go.vn
set_option maxRecDepth 100000
def tV (w:Wk) (s:List Int):List (Int×Int):=(w.2.2.2.1.zip s).map fun x=>(x.1.2,x.2)
def ic : Nat → List ((ByteArray × Int) × Int) → List Cl
 |_,[]=>[]
 |k,x::r=>(x.1,(k:Int),x.2)::ic (k+1) r
def jN (w:Wk) (s:List Int):List Cl:=ic 0 (w.2.2.2.1.zip s)
theorem LF : ∀ (k : Nat) (l : List ((ByteArray × Int) × Int)), (ic k l).map pr = l.map fun x => (x.1.2, x.2)
 |_,[]=>rfl
 |k,x::r=>by simp only [ic,List.map_cons,LF (k+1) r];rfl
theorem Je (w:Wk) (s:List Int):(jN w s).map pr=tV w s:=LF ..
theorem pR : ∀ (k : Nat) (l : List ((ByteArray × Int) × Int)), (ic k l).length = l.length
 |_,[]=>rfl
 |k,x::r=>by simp [ic,pR (k+1) r]
theorem GQ : ∀ {k : Nat} {l : List ((ByteArray × Int) × Int)} {c : Cl}, c ∈ ic k l → (c.1, c.2.2) ∈ l
 |_,[],_,h=>by cases h
 |k,x::r,c,h=>by
  rcases List.mem_cons.1 h with rfl|h
  ·exact List.mem_cons_self ..
  ·exact List.mem_cons_of_mem _ (GQ h)
def bT (w:Wk) (s:List Int):Int:=min (lK (tV w s)) w.1
structure N4 (w:Wk) (s:List Int):Prop where
 len:s.length=w.2.2.2.1.length
 nn:∀x∈s,0<=x
 all:s.sum<=6000000000
theorem N4.each {w:Wk} {s:List Int} (h:N4 w s):∀x∈s,x<=6000000000:=by
 have key:∀s:List Int,(∀x∈s,0<=x)->0<=s.sum/\∀x∈s,x<=s.sum:=by
  intro s
  induction s with
  |nil=>simp
  |cons y s ih =>
   intro h
   obtain ⟨h1,h2⟩:=ih fun x hx=>h x (List.mem_cons_of_mem _ hx)
   have:=h y (List.mem_cons_self ..)
   rw [List.sum_cons]
   refine ⟨by omega,fun x hx=>?_⟩
   rcases List.mem_cons.1 hx with rfl|hx
   ·omega
   ·have:=h2 x hx;omega
 intro x hx
 have:=(key s h.nn).2 x hx
 have:=h.all;omega
theorem LG : ∀ (fs : List (ByteArray × Int)) (s : List Int), s.length = fs.length → nC ((fs.zip s).map fun x => (x.1.2, x.2)) = s.sum
 |[],[],_=>rfl
 |f::fs,x::s,h=>by
  have:=LG fs s (by simpa using h)
  simp only [List.zip_cons_cons,List.map_cons,iq,List.sum_cons,this]
theorem W0 {w:Wk} {s:List Int} (hs:N4 w s):nC (tV w s)=s.sum:=LG _ _ hs.len
section
variable {w:Wk} {s:List Int} (hw:HD w) (hs:N4 w s)
include hw hs
theorem qq {x:(ByteArray×Int)×Int} (hx:x∈w.2.2.2.1.zip s):0<=x.1.2/\x.1.2<=1000000000/\0<=x.2/\x.2<=6000000000:=by
 have h1:=List.of_mem_zip hx
 exact ⟨(hw.cap _ h1.1).1,(hw.cap _ h1.1).2,hs.nn _ h1.2,hs.each _ h1.2⟩
theorem Si:Nn (tV w s):=fun c hc=>by
 obtain ⟨x,hx,rfl⟩:=List.mem_map.1 hc
 have:=qq hw hs hx
 exact ⟨this.1,this.2.2.1⟩
theorem vr:(w.2.2.2.1.zip s).length=w.2.2.2.1.length:=by rw [List.length_zip,hs.len];omega
theorem D6:OkC (jN w s) where
 good c hc:=by
  have:=qq hw hs (GQ hc)
  exact ⟨this.1,this.2.1,this.2.2.1,this.2.2.2⟩
 all:=by
  show nC ((jN w s).map pr)<=6000000000
  rw [Je,W0 hs];exact hs.all
 many:=by rw [jN,pR,vr hw hs];exact hw.many
theorem D7 : ∀ {l : List ((ByteArray × Int) × Int)}, (∀ x ∈ l, x ∈ w.2.2.2.1.zip s) → 0 ≤ lK (l.map fun x => (x.1.2, x.2)) ∧ lK (l.map fun x => (x.1.2, x.2)) ≤ 1000000000 * l.length
 |[],_=>by simp [lK]
 |x::l,h=>by
  have h1:=qq hw hs (h x (List.mem_cons_self ..))
  have h2:=D7 (l:=l) fun y hy=>h y (List.mem_cons_of_mem _ hy)
  rw [List.map_cons,kB,List.length_cons]
  split<;>omega
theorem tW:0<=bT w s/\bT w s<=1000000000:=by
 have h1:=D7 hw hs (l:=w.2.2.2.1.zip s) (fun _ h=>h)
 have h2:=hw.eC
 have e:lK (tV w s)=lK ((w.2.2.2.1.zip s).map fun x=>(x.1.2,x.2)):=rfl
 unfold bT;omega
theorem Ca:∀(k:Nat) (l:List ((ByteArray×Int)×Int)) (x:(ByteArray×Int)×Int),ic k (l++[x])=ic k l++[(x.1,((k+l.length:Nat):Int),x.2)]:=by
 intro k l
 induction l generalizing k with
 |nil=>intro x;simp [ic]
 |cons y l ih=>intro x;simp only [List.cons_append,ic,ih (k+1) x,List.length_cons,Nat.add_assoc,Nat.add_comm 1]
omit hw hs in
theorem wu (a b:List (Int×Int)):lK (a++b)=lK a+lK b:=by
 induction a with
 |nil=>simp [lK]
 |cons c a ih=>rw [List.cons_append,kB,kB,ih];omega
theorem k51:ai (F13 w s)=some ((jN w s,bT w s),()):=by
 have hm:=hw.many
 have hz:=vr hw hs
 have XP:=hs.len
 simp only [F13,az,bD,aa]
 refine bind_eq (aZ (w.2.2.2.1.zip s) (fun k (t : List Cl × Int) => (s, w.2.2.2.1, ((w.2.2.2.1.length : Nat) : Int), (k : Int), w.1, w.2.1, w.2.2.1, w.2.2.2.1, w.2.2.2.2, (0 : Int), t.1.length, t.2, t.1, ()))
  (fun t r=>(w.1,w.2.1,w.2.2.1,w.2.2.2.1,w.2.2.2.2,(0:Int),(t.1++ic t.1.length r).length,t.2+lK (r.map fun x=>(x.1.2,x.2)),t.1++ic t.1.length r,()))
  (fun pre t=>t.1=ic 0 pre/\t.2=lK (pre.map fun x=>(x.1.2,x.2))) ?_ ?_ (s:=([],0)) ⟨rfl,rfl⟩) ?_
 ·rintro pre x post ⟨l, p⟩ hx ⟨hl, hp⟩
  simp only at hl hp
  subst hl hp
  left
  have hlen:w.2.2.2.1.length=pre.length+(post.length+1):=by rw [<-hz,hx];simp
  obtain ⟨d1,d2⟩:=Sc (d:=(bs [],(0:Int))) (e:=(0:Int)) hx
  have i1:eA (pre.length:Int) ((w.2.2.2.1.length:Nat):Int)=true:=bH (by omega) (by omega)
  have i2:eA (pre.length:Int) ((s.length:Nat):Int)=true:=bH (by omega) (by omega)
  have r1:dV .i64 ((pre.length:Int)+1)=true:=aK (by omega) (by omega)
  have hg:=qq hw hs (x:=x) (by rw [hx];simp)
  have hcap:=D7 hw hs (l:=pre) (fun y hy=>by rw [hx];simp [hy])
  have mN:(ic 0 pre).length=pre.length:=pR ..
  refine ⟨(ic 0 (pre++[x]),lK ((pre++[x]).map fun x=>(x.1.2,x.2))),?_,⟨rfl,rfl⟩,?_⟩
  ·simp only [g13_0, aq, aY, aN, aO, aa, Int.toNat_natCast, d1, d2, i1, i2, r1, ax, aQ, vp, List.drop_zero, List.take_length, List.take_succ_cons, List.take_zero, List.length_cons, List.length_nil, Nat.zero_add, mN]
   have e1:ic 0 (pre++[x])=ic 0 pre++[(x.1,(pre.length:Int),x.2)]:=by rw [Ca hw hs];simp
   have e3:(ic 0 pre).take pre.length=ic 0 pre:=List.take_of_length_le (by rw [mN];exact Nat.le_refl _)
   rw [if_pos (by omega),pe (by omega),e1,e3,List.map_append,wu]
   simp only [List.map_cons,List.map_nil,kB,show lK []=0 from rfl]
   by_cases hc:0<x.2
   ·rw [if_pos hc, if_pos hc, aP (by omega) (by omega)]
    simp [mN]
   ·rw [if_neg hc, if_neg hc]
    simp [mN]
  ·have e1 : ic 0 (pre ++ [x]) = ic 0 pre ++ [(x.1, (pre.length : Int), x.2)] := by rw [Ca hw hs]; simp
   have e2:(ic 0 (pre++[x])).length=pre.length+1:=by rw [pR];simp
   simp only [e2,mN]
   rw [e1,List.map_append,wu]
   simp only [List.map_cons,List.map_nil,kB,show lK []=0 from rfl,ic,List.append_assoc,List.cons_append,List.nil_append,Int.add_zero,Int.add_assoc]
 ·rintro ⟨l, p⟩ _
  simp only [g13_0,aq,aQ,aa]
  rw [if_neg (by rw [hz];omega)]
  simp [ic,lK]
 ·simp only [List.nil_append, List.drop_zero, List.take_length, WX, Int.zero_add]
  rfl
end
end Go.Proofs.Tryz
end
section
namespace Go.Proofs.Tryz
open Go.AM Go.vn
set_option maxRecDepth 100000
structure Za (x:Int×Int):Prop where
 n0:0<=x.1
 n1:x.1<=1000000000
 d0:0<x.2
 d1:x.2<=6000000000
section
variable {w:Wk} {s:List Int} (hw:HD w) (hs:N4 w s)
include hw hs
omit hw hs in
omit hw hs in
end
end Go.Proofs.Tryz
end
section
namespace Go.Proofs.Tryz
open Go.AM Go.vn
set_option maxRecDepth 100000
theorem D8 (h : Int × Int × Int × Int → Int) (x : Int × Int × Int × Int) : ∀ (l : List Int) (k : Nat), k < l.length → (l.set k (l.getD k 0 + h x)).sum = l.sum + h x
 |[],_,hk=>by simp at hk
 |y::l,0,_=>by simp;omega
 |y::l,k+1,hk=>by
  have:=D8 h x l k (by simpa using hk)
  simp only [List.getD_cons_succ,List.set_cons_succ,List.sum_cons,this];omega
theorem qV {h : Int × Int × Int × Int → Int} {K : Int} : ∀ (ws : List (Int × Int × Int × Int)) (l : List Int), (∀ x ∈ ws, x.1.toNat < l.length) → (∀ x ∈ ws, 0 ≤ h x ∧ h x ≤ K) → (ws.foldl (qe h) l).sum ≤ l.sum + K * ws.length
 |[],l,_,_=>by simp
 |x::ws,l,h1,h2=>by
  have:=qV (K:=K) ws (qe h l x) (fun y hy=>by rw [xD];exact h1 y (List.mem_cons_of_mem _ hy)) (fun y hy=>h2 y (List.mem_cons_of_mem _ hy))
  have e:=D8 h x l x.1.toNat (h1 x (List.mem_cons_self ..))
  have hx:=h2 x (List.mem_cons_self ..)
  rw [List.foldl_cons,List.length_cons]
  have e2:K * ((ws.length+1:Nat):Int)=K * (ws.length:Int)+K:=by rw [Int.natCast_add,Int.mul_add];omega
  unfold qe at this e ⊢
  omega
theorem N5 {w:Wk} (hw:HD w) {h:Int×Int×Int×Int->Int} (hh:∀x∈w.2.2.2.2,0<=h x/\h x<=102000000):N4 w (oe h w.2.2.2.1.length w.2.2.2.2) where
 len:=r8 ..
 nn x hx:=(NX hh x hx).1
 all:=by
  have:=qV (K:=102000000) w.2.2.2.2 (List.replicate w.2.2.2.1.length 0) (fun x hx=>by have:=hw.GN x hx;rw [List.length_replicate];omega) hh
  have e:(List.replicate w.2.2.2.1.length (0:Int)).sum=0:=by
   generalize w.2.2.2.1.length=n
   induction n with
   |zero=>rfl
   |succ n ih=>rw [List.replicate_succ,List.sum_cons,ih];rfl
  have hn:=hw.D5
  show (w.2.2.2.2.foldl (qe h) (List.replicate w.2.2.2.1.length 0)).sum<=6000000000
  omega
theorem GR {w:Wk} (hw:HD w):N4 w (gT w):=N5 hw fun x hx=>by have:=hw.oC x hx;omega
theorem N6 {a b:List (Int×Int)} (h:a.Perm b):caps a=caps b:=by
 induction h with
 |nil=>rfl
 |cons x _ ih=>rw [iQ,iQ,ih]
 |swap x y l=>simp only [iQ];omega
 |trans _ _ h1 h2=>exact h1.trans h2
theorem W1 (l:List Cl):(kept l).map pr=(l.map pr).filter fun c=>decide (c.2≠0):=by
 unfold kept
 rw [List.filter_map];rfl
theorem Cb : ∀ {cs : List (Int × Int)}, Nn cs → caps (cs.filter fun c => decide (c.2 ≠ 0)) = lK cs
 |[],_=>rfl
 |c::cs,h=>by
  have ih:=Cb h.cons.2
  have hc:=h.cons.1
  rw [List.filter_cons,kB]
  by_cases h0:c.2=0
  ·rw [if_neg (by simp [h0]),if_neg (by omega),ih];omega
  ·rw [if_pos (by simp [h0]),if_pos (by omega),iQ,ih]
theorem Cc {n d:Int} (hd:0<d) (hn:0<=n) (h1:n<=1000000000) (h2:d<=6000000000):Za (red n d):=by
 obtain ⟨g,e1,e2,-,e4,e5⟩:=zL hd hn
 have a1:(red n d).1 * 1<=(red n d).1 * (Int.gcd n d:Int):=Int.mul_le_mul_of_nonneg_left (by omega) e5
 have a2:(red n d).2 * 1<=(red n d).2 * (Int.gcd n d:Int):=Int.mul_le_mul_of_nonneg_left (by omega) (by omega)
 exact ⟨e5,by omega,e4,by omega⟩
theorem GS : ∀ {l : List (Int × Int)} {left : Int} {last : Int × Int}, (∀ c ∈ l, 0 ≤ c.1 ∧ c.1 ≤ 1000000000 ∧ 0 < c.2) → 0 ≤ left → left ≤ 1000000000 → nC l ≤ 6000000000 → Za last → Za (pO l left (nC l) last)
 |[],_,_,_,_,_,_,h=>h
 |c::r,left,last,hg,h0,h1,hs,hl=>by
  have hc:=hg c (List.mem_cons_self ..)
  have hr:∀c∈r,0<=c.1/\c.1<=1000000000/\0<c.2:=fun x hx=>hg x (List.mem_cons_of_mem _ hx)
  have hn:∀{l:List (Int×Int)},(∀c∈l,0<=c.1/\c.1<=1000000000/\0<c.2)->0<=nC l:=fun {l} h=>by
   induction l with
   |nil=>simp [nC]
   |cons x l ih =>
    rw [iq]
    have:=ih fun y hy=>h y (List.mem_cons_of_mem _ hy)
    have:=h x (List.mem_cons_self ..)
    omega
  have hn:=hn hr
  rw [iq] at hs ⊢
  unfold pO
  split
  ·exact Cc (by omega) h0 h1 hs
  ·rename_i hlt
   have e:c.2+nC r - c.2=nC r:=by omega
   rw [e]
   have h3:c.1 * c.2<=c.1 * (c.2+nC r):=Int.mul_le_mul_of_nonneg_left (by omega) hc.1
   have h4:c.1<=left:=by
    rcases Int.lt_or_le left c.1 with h|h
    ·have := Int.mul_le_mul_of_nonneg_right (show left ≤ c.1 by omega) (show (0 : Int) ≤ c.2 by omega)
     omega
    ·exact h
   exact GS hr (by omega) (by omega) (by omega) (Cc (by omega) hc.1 hc.2.1 (by omega))
section
variable {w:Wk} {s:List Int} (hw:HD w) (hs:N4 w s)
include hw hs
theorem LH:Lv (tV w s) (bT w s) (level (jN w s) (bT w s)).1 (level (jN w s) (bT w s)).2:=by
 have hn:=Si hw hs
 have hok:=D6 hw hs
 have hb:=tW hw hs
 have hp:((cK (jN w s)).map pr).Perm ((tV w s).filter fun c=>decide (c.2≠0)):=by
  rw [<-Je,<-W1]
  exact (iO _).map _
 have hg:=oq hok
 have h:=Jb (l:=(cK (jN w s)).map pr) (all:=bT w s) (fun c hc=>by
   obtain ⟨x,hx,rfl⟩:=List.mem_map.1 hc
   exact ⟨(hg x hx).1.c0,(hg x hx).1.s0⟩) (fun c hc=>by
   obtain ⟨x,hx,rfl⟩:=List.mem_map.1 hc
   exact (hg x hx).2) (by
   unfold R2
   rw [List.pairwise_map]
   refine (tE ordL (vq hok)).imp fun {a b} hab=>?_
   simp only [Ov,decide_eq_false_iff_not] at hab
   show a.1.2 * b.2.2<=b.1.2 * a.2.2
   omega) (by
   rw [N6 hp,Cb hn]
   unfold bT;omega) hb.1
 have e:nC ((cK (jN w s)).map pr)=cN (jN w s):=nt
 rw [e] at h
 exact Lv.NU hn (h.perm hp)
theorem zT:Za (level (jN w s) (bT w s)):=by
 have hok:=D6 hw hs
 have hg:=oq hok
 have hb:=tW hw hs
 have e:nC ((cK (jN w s)).map pr)=cN (jN w s):=nt
 unfold level
 rw [<-e]
 exact GS (fun c hc=>by
  obtain ⟨x,hx,rfl⟩:=List.mem_map.1 hc
  have:=hg x hx
  exact ⟨this.1.c0,this.1.c1,this.2⟩) hb.1 hb.2 (by rw [e];exact hok.all) ⟨by decide,by decide,by decide,by decide⟩
theorem k52':ai (F16 (jN w s,bT w s))=some (level (jN w s) (bT w s),()):=k52 (D6 hw hs) (tW hw hs).1 (tW hw hs).2
end
end Go.Proofs.Tryz
end
section
namespace Go.Proofs.Tryz
open Go.AM Go.vn
set_option maxRecDepth 100000
def cR (c:Int×Int) (x:Int×Int):Int×Int:=if c.1 * x.2<=x.1 * c.2 then (c.1,0) else (x.1 * c.2 / x.2,x.1 * c.2 % x.2)
theorem k54 {c:Cl} (hc:tS c) {x:Int×Int} (hx:Za x):ai (F17 (c.1.1,c.1.2,c.2) x)=some ((cR (pr c) x).1,(cR (pr c) x).2,()):=by
 have m1:=pQ hx.n0 hx.n1 hc.s0 hc.s1
 have m2:=pQ hc.c0 hc.c1 (Int.le_of_lt hx.d0) hx.d1
 simp only [F17,aO,aN,aq,aa,aQ]
 rw [aP (by omega) (by omega),aP (by omega) (by omega)]
 unfold cR pr
 by_cases h:c.1.2 * x.2<=x.1 * c.2.2
 ·simp only [if_pos h]
 ·simp only [if_neg h]
  have hne:(!(x.2==0))=true:=by have:=hx.d0;simp;omega
  have e1:Int.tdiv (x.1 * c.2.2) x.2=x.1 * c.2.2 / x.2:=Int.tdiv_eq_ediv_of_nonneg m1.1
  have e2:Int.tmod (x.1 * c.2.2) x.2=x.1 * c.2.2 % x.2:=Int.tmod_eq_emod_of_nonneg m1.1
  have q1:0<=x.1 * c.2.2 / x.2:=Int.ediv_nonneg m1.1 (Int.le_of_lt hx.d0)
  have q2:x.1 * c.2.2 / x.2<=x.1 * c.2.2:=Int.ediv_le_self _ m1.1
  rw [cD hne,e1,e2,aP (by omega) (by omega),cD hne]
section
variable {w:Wk} (hw:HD w)
include hw
end
theorem Cd : ∀ (l : List ((ByteArray × Int) × Int)) (k i : Nat), i < l.length → (ic k l).getD i Y9 = ((l.getD i ((bs [], 0), 0)).1, ((k + i : Nat) : Int), (l.getD i ((bs [], 0), 0)).2)
 |[],_,_,h=>by simp at h
 |x::l,k,0,_=>by simp [ic]
 |x::l,k,i+1,h=>by
  have:=Cd l (k+1) i (by simpa using h)
  simp only [ic,List.getD_cons_succ,this,Nat.add_assoc,Nat.add_comm 1]
theorem Sj {w:Wk} {s:List Int} (hs:N4 w s) {i:Nat} (hi:i<w.2.2.2.1.length):(jN w s).getD i Y9=(w.2.2.2.1.getD i (bs [],0),(i:Int),s.getD i 0):=by
 unfold jN
 rw [Cd _ _ _ (by rw [List.length_zip,hs.len];omega),Sb hi (by rw [hs.len];exact hi)]
 simp
theorem zU {c x:Int×Int} (hc:0<=c.1/\c.1<=1000000000) (hs:0<=c.2/\c.2<=6000000000) (hx:Za x):0<=(cR c x).1/\(cR c x).1<=c.1/\0<=(cR c x).2/\(cR c x).2<6000000000+1:=by
 unfold cR
 split
 ·simp only;omega
 ·rename_i h
  have m1:=pQ hx.n0 hx.n1 hs.1 hs.2
  have h0:=hx.d0
  have h1:=hx.d1
  have q1:0<=x.1 * c.2 / x.2:=Int.ediv_nonneg m1.1 (Int.le_of_lt h0)
  have q2:x.1 * c.2 / x.2<=c.1:=by
   have:x.1 * c.2 / x.2<c.1:=Int.ediv_lt_of_lt_mul h0 (by omega)
   omega
  have q3:=Int.emod_nonneg (x.1 * c.2) (show x.2≠0 by omega)
  have q4:=Int.emod_lt_of_pos (x.1 * c.2) h0
  simp only;omega
theorem N7 {w:Wk} {s:List Int} (hw:HD w) (hs:N4 w s) {t:(ByteArray×Int)×Int} (ht:t∈w.2.2.2.1.zip s) {x:Int×Int} (hx:Za x):0<=(cR (t.1.2,t.2) x).1/\(cR (t.1.2,t.2) x).1<=1000000000/\0<=(cR (t.1.2,t.2) x).2:=by
 have h:=qq hw hs ht
 have:=zU (c:=(t.1.2,t.2)) ⟨h.1,h.2.1⟩ ⟨h.2.2.1,h.2.2.2⟩ hx
 simp only at this;omega
end Go.Proofs.Tryz
end
section
namespace Go.Proofs.Tryz
open Go.AM Go.vn
def gU (cs:List (Int×Int)) (x:Int×Int):List Int:=cs.map fun c=>(cR c x).1
def gV (cs:List (Int×Int)) (x:Int×Int):List Int:=cs.map fun c=>(cR c x).2
theorem GU {c x:Int×Int} (hd:0<x.2):(cR c x).1 * x.2+(cR c x).2=D1 x.1 x.2 c:=by
 unfold cR D1
 split
 ·rename_i h;rw [Int.min_eq_right h];simp
 ·rename_i h; rw [Int.min_eq_left (by omega)]
  simp only
  rw [Int.mul_comm]
  exact Int.mul_ediv_add_emod ..
theorem LI {x : Int × Int} (hd : 0 < x.2) : ∀ cs : List (Int × Int), (gU cs x).sum * x.2 + (gV cs x).sum = DD x.1 x.2 cs
 |[]=>by simp [gU,gV,DD]
 |c::cs=>by
  have ih:=LI hd cs
  have h1:=GU (c:=c) hd
  unfold gU gV at ih ⊢
  rw [List.map_cons,List.map_cons,List.sum_cons,List.sum_cons,fq,<-ih,<-h1,Int.add_mul];omega
theorem GV {x:Int×Int} (hd:0<x.2) (cs:List (Int×Int)):∀y∈gV cs x,0<=y/\y<x.2:=fun y hy=>by
 obtain ⟨c,_,rfl⟩:=List.mem_map.1 hy
 unfold cR;split
 ·simp only;omega
 ·have := Int.emod_nonneg (x.1 * c.2) (show x.2 ≠ 0 by omega)
  have:=Int.emod_lt_of_pos (x.1 * c.2) hd
  simp only;omega
def AW (l:List Int):Nat:=(l.filter fun y=>decide (0<y)).length
theorem zV {d : Int} : ∀ {l : List Int}, (∀ y ∈ l, 0 ≤ y ∧ y < d) → 0 ≤ l.sum ∧ l.sum ≤ (AW l : Int) * d
 |[],_=>by simp [AW]
 |y::l,h=>by
  have h1:=h y (List.mem_cons_self ..)
  have h2:=zV (l:=l) fun z hz=>h z (List.mem_cons_of_mem _ hz)
  rw [List.sum_cons]
  unfold AW at h2 ⊢
  rw [List.filter_cons]
  by_cases hy:0<y
  ·rw [if_pos (by simpa using hy),List.length_cons,Int.natCast_add,Int.add_mul];omega
  ·rw [if_neg (by simpa using hy)];omega
theorem W2 {cs:List (Int×Int)} {all:Int} {x:Int×Int} (h:Lv cs all x.1 x.2):0<=all - (gU cs x).sum/\all - (gU cs x).sum<=AW (gV cs x):=by
 have h1:=LI h.vo cs
 rw [h.sum] at h1
 have h2:=zV (GV h.vo cs)
 have h3:(all - (gU cs x).sum) * x.2=(gV cs x).sum:=by rw [Int.sub_mul];omega
 have hd:=h.vo
 constructor
 ·rcases Int.lt_or_le (all - (gU cs x).sum) 0 with hl | hl
  ·have:=Int.mul_neg_of_neg_of_pos hl hd;omega
  ·exact hl
 ·exact Int.le_of_mul_le_mul_right (by omega) hd
def better (cut:List Int) (name:Nat->ByteArray) (i j:Nat):Bool:=decide (cut.getD j 0<cut.getD i 0)||(decide (cut.getD i 0=cut.getD j 0)&&slt (name i) (name j))
theorem iR {cut:List Int} {name:Nat->ByteArray} {i j:Nat}:better cut name i j=true↔cut.getD j 0<cut.getD i 0\/(cut.getD i 0=cut.getD j 0/\slt (name i) (name j)=true):=by
 simp [better]
theorem wv {cut:List Int} {name:Nat->ByteArray} {i j:Nat} (h:better cut name i j=true):better cut name j i=false:=by
 cases h':better cut name j i
 ·rfl
 ·rw [iR] at h h'
  rcases h with h|⟨h,q⟩
  ·rcases h' with h'|⟨h',_⟩<;>omega
  ·rcases h' with h' | ⟨_, q'⟩
   ·omega
   ·exact (QC q q').elim
theorem D9 {cut:List Int} {name:Nat->ByteArray} {i j k:Nat} (h:better cut name i j=true) (h':better cut name j k=true):better cut name i k=true:=by
 rw [iR] at h h' ⊢
 rcases h with h|⟨h,q⟩
 ·rcases h' with h'|⟨h',_⟩<;>(left;omega)
 ·rcases h' with h' | ⟨h', q'⟩
  ·left;omega
  ·exact .inr ⟨by omega,MZ q q'⟩
theorem Ea {cut:List Int} {name:Nat->ByteArray} {i j:Nat} (hn:name i≠name j) (h:better cut name i j=false):better cut name j i=true:=by
 rw [iR]
 have h1:¬(better cut name i j=true):=by rw [h];simp
 rw [iR] at h1
 by_cases he:cut.getD i 0=cut.getD j 0
 ·right
  refine ⟨he.symm,?_⟩
  cases hs:slt (name j) (name i)
  ·exfalso
   have:slt (name i) (name j)=false:=by
    cases hs':slt (name i) (name j)
    ·rfl
    ·exact (h1 (.inr ⟨he,hs'⟩)).elim
   exact hn (M0 this hs)
  ·rfl
 ·left;omega
theorem Jf {cut:List Int} {name:Nat->ByteArray} {n:Nat} (hn:∀i j,i<n->j<n->i≠j->name i≠name j):BM (better cut name) (fun i=>i<n) where
 asym _ _ _ _ h:=wv h
 ntr i j k hi hj hk h1 h2:=by
  cases h:better cut name i k
  ·rfl
  ·exfalso
   by_cases hij:i=j
   ·subst hij;rw [h] at h2;cases h2
   ·have := Ea (hn i j hi hj hij) h1
    have:=D9 this h
    rw [this] at h2;cases h2
def inc (out:List Int) (i:Nat):List Int:=out.set i (out.getD i 0+1)
theorem N8 {cut:List Int} {name:Nat->ByteArray} {n:Nat} {O A B:List Nat} {m:Nat} (hp:O.Perm (List.range n)) (hs:O.Pairwise fun a b=>better cut name b a=false) (hO:O=A++m::B) (hc:cut.length=n) (hl:A.length<AW cut):0<cut.getD m 0:=by
 have e1:cut=(List.range n).map fun i=>cut.getD i 0:=by
  apply List.ext_getElem
  ·simp [hc]
  ·intro i h1 h2
   simp [List.getD_eq_getElem?_getD,List.getElem?_eq_getElem h1]
 have e2:AW cut=((O.map fun i=>cut.getD i 0).filter fun y=>decide (0<y)).length:=by
  unfold AW
  rw [e1]
  have:=((hp.map fun i=>cut.getD i 0).filter fun y=>decide (0<y)).length_eq
  rw [<-e1]
  rw [<-e1] at this
  exact this.symm
 rcases Int.lt_or_le 0 (cut.getD m 0) with h|h
 ·exact h
 ·exfalso
  rw [hO,List.map_append,List.filter_append,List.length_append] at e2
  have hs2:=hs
  rw [hO] at hs2
  have hb:((m::B).map fun i=>cut.getD i 0).filter (fun y=>decide (0<y))=[]:=by
   rw [List.filter_eq_nil_iff]
   intro y hy
   obtain ⟨i,hi,rfl⟩:=List.mem_map.1 hy
   rcases List.mem_cons.1 hi with rfl|hi
   ·simp only [decide_eq_true_eq];omega
   ·have h1 : better cut name i m = false := (List.pairwise_cons.1 (List.pairwise_append.1 hs2).2.1).1 i hi
    have h2:¬(better cut name i m=true):=by rw [h1];simp
    rw [iR] at h2
    simp only [decide_eq_true_eq];omega
  rw [hb,List.length_nil] at e2
  have:=List.length_filter_le (fun y=>decide (0<y)) (A.map fun i=>cut.getD i 0)
  rw [List.length_map] at this
  omega
end Go.Proofs.Tryz
end
section
namespace Go.Proofs.Tryz
open Go.AM Go.vn
set_option maxRecDepth 100000
def W3 (a b:ByteArray):Int:=if slt a b=true then -1 else if a=b then 0 else 1
theorem k77 (a:ByteArray):ai (F43 a)=some (false,()):=by simp [F43,aa,D3]
theorem k60 (a b:ByteArray):ai (F23 a b)=some (W3 a b,()):=by
 simp only [F23,az,aq,aa,k77,aH,pg,tA,W3]
 cases h:slt a b
 ·by_cases he : a = b
  ·subst he;simp [D3]
  ·simp [D3,he]
 ·simp
def Sk : List Int → Int
 |[]=>0
 |a::r=>if a=0 then Sk r else a
theorem k58 (l:List Int) (hl:l.length<=1000):ai (F21 l)=some (Sk l,()):=by
 simp only [F21,az,bD,aa]
 refine bind_eq (aZ l (fun k (_:Unit)=>((0:Int),l,((l.length:Nat):Int),(k:Int),())) (fun _ r=>if Sk r=0 then .inr (0,()) else .inl (Sk r,())) (fun _ _=>True) ?_ ?_ (s:=()) trivial) ?_
 ·rintro pre x post _ hx -
  have hlen:l.length=pre.length+(post.length+1):=by rw [hx];simp
  have hd:l.getD pre.length 0=x:=by rw [hx];exact bg rfl
  have i1:eA (pre.length:Int) ((l.length:Nat):Int)=true:=bH (by omega) (by omega)
  have r1:dV .i64 ((pre.length:Int)+1)=true:=aK (by omega) (by omega)
  simp only [g21_0,aq,aY,aO,aN,aa,Int.toNat_natCast,hd,i1,r1,ax,aQ,bU,bE]
  rw [if_pos (by omega)]
  by_cases h:x=0
  ·left
   refine ⟨(),?_,trivial,by simp [Sk,h]⟩
   rw [if_pos h];rfl
  ·right
   rw [if_neg h]
   have:Sk (x::post)=x:=by simp [Sk,h]
   rw [this,if_neg h]
 ·rintro _ _
  simp only [g21_0,aq,aQ,aa]
  rw [if_neg (by omega)]
  simp [Sk]
 ·by_cases h : Sk l = 0
  ·rw [if_pos h,h];rfl
  ·rw [if_neg h];rfl
def qW (name:Nat->ByteArray) (n:Nat) (c:Cl):Prop:=∃i,i<n/\c.2.1=(i:Int)/\c.1.1=name i
def W4 (cut:List Int) (name:Nat->ByteArray) (a b:Cl):Bool:=better cut name a.2.1.toNat b.2.1.toNat
theorem ordC {cut:List Int} {name:Nat->ByteArray} {n:Nat} (hn:∀i j,i<n->j<n->i≠j->name i≠name j):BM (W4 cut name) (qW name n) where
 asym a b ha hb h:=wv h
 ntr a b c ha hb hc h1 h2:=by
  obtain ⟨i,hi,ei,_⟩:=ha
  obtain ⟨j,hj,ej,_⟩:=hb
  obtain ⟨k,hk,ek,_⟩:=hc
  exact (Jf (cut:=cut) hn).ntr _ _ _ (show a.2.1.toNat<n by omega) (show b.2.1.toNat<n by omega) (show c.2.1.toNat<n by omega) h1 h2
theorem k57 {cut:List Int} {name:Nat->ByteArray} {n:Nat} (hc:cut.length=n) {a b:Cl} (ha:qW name n a) (hb:qW name n b):∃z,ai (F20 (a.1.1,a.1.2,a.2) (b.1.1,b.1.2,b.2) cut)=some (z,())/\(z<0↔W4 cut name a b=true):=by
 obtain ⟨i,hi,ei,ni⟩:=ha
 obtain ⟨j,hj,ej,nj⟩:=hb
 have i1:eA b.2.1 ((cut.length:Nat):Int)=true:=bH (by omega) (by omega)
 have i2:eA a.2.1 ((cut.length:Nat):Int)=true:=bH (by omega) (by omega)
 refine ⟨Sk [AV (cut.getD b.2.1.toNat 0) (cut.getD a.2.1.toNat 0),W3 a.1.1 b.1.1],?_,?_⟩
 ·simp only [F20, aY, aN, az, aa, i1, i2, ax, k59, aH, k60, List.drop_zero, List.take_succ_cons, List.take_zero]
  rw [aA (k58 _ (by simp))]
 ·unfold W4
  rw [iR]
  have e1:a.2.1.toNat=i:=by omega
  have e2:b.2.1.toNat=j:=by omega
  rw [e1,e2,<-ni,<-nj]
  generalize cut.getD i 0=p
  generalize cut.getD j 0=q
  simp only [Sk]
  unfold AV W3
  by_cases h1:q<p
  ·simp [h1]
  ·rw [if_neg h1]
   by_cases h2:p<q
   ·rw [if_pos h2];simp;omega
   ·rw [if_neg h2]
    have:p=q:=by omega
    subst this
    simp only [if_true,Int.lt_irrefl,false_or,true_and]
    cases slt a.1.1 b.1.1
    ·by_cases he : a.1.1 = b.1.1
     ·simp [he]
     ·simp [he]
    ·simp
theorem W5 {l:List Cl} {cut:List Int} {name:Nat->ByteArray} {n:Nat} (hc:cut.length=n) (hg:∀c∈l,qW name n c) (hl:l.length<=1000):ai (FH65_v1 l.length 0 l.length l n cut)=some (n,nk (W4 cut name) l,cut,()):=by
 simp only [FH65_v1,aO,az,bD,aa]
 rw [aP (by omega) (by omega)]
 refine bind_eq (BN (lt:=W4 cut name) (Good:=qW name n) (n:=l.length) (fun k m=>(l.length,(0:Int),((l.length:Nat):Int),(k:Int),m,n,cut,())) (fun m=>(n,m,cut,())) ?_ ?_ hg rfl) rfl
 ·intro R x Q hR hg' hn
  simp only [gH65_v1_0,aq,az,bD,aa,aO,aQ]
  rw [if_pos (by omega)]
  refine bind_eq (u7 (lt:=W4 cut name) (Good:=qW name n) (n:=l.length) (fun k m=>(l.length,(0:Int),((l.length:Nat):Int),(R.length:Int),(k:Int),m,n,cut,())) (fun m=>(l.length,(0:Int),((l.length:Nat):Int),(R.length:Int),m,n,cut,())) ?_ ?_ R x Q hg' hn) ?_
  ·intro L y x W hg2 hn2
   have t1:Int.toNat (((L.length+1:Nat):Int) - 1)=L.length:=by omega
   have g1:(L++y::x::W).getD (L.length+1) (((bs []),(0:Int)),(0:Int),(0:Int))=x:=by
    rw [show L++y::x::W=(L++[y])++x::W by simp];exact bg (by simp)
   have g2:(L++y::x::W).getD L.length (((bs []),(0:Int)),(0:Int),(0:Int))=y:=bg rfl
   have s1:(L++y::x::W).set (L.length+1) y=L++y::y::W:=by
    rw [show L++y::x::W=(L++[y])++x::W by simp,xq (by simp)];simp
   have s2:(L++y::y::W).set L.length x=L++x::y::W:=xq rfl
   have i1:eA ((L.length+1:Nat):Int) ((l.length:Nat):Int)=true:=bH (by omega) (by omega)
   have i2:eA (((L.length+1:Nat):Int) - 1) ((l.length:Nat):Int)=true:=bH (by omega) (by omega)
   have r1:dV .i64 (((L.length+1:Nat):Int) - 1)=true:=aK (by omega) (by omega)
   have d1:decide (L.length+1<(L++y::x::W).length)=true:=decide_eq_true (by simp)
   have d2:decide (L.length<(L++y::x::W).length)=true:=decide_eq_true (by simp)
   have d3:decide (L.length<(L++y::y::W).length)=true:=decide_eq_true (by simp)
   obtain ⟨z,hz,hlt⟩:=k57 hc (hg2 x (by simp)) (hg2 y (by simp))
   have hct:cut.take n=cut:=List.take_of_length_le (by omega)
   simp only [gH65_v1_1,aq,az,aY,aN,aO,aa,Int.toNat_natCast,t1,Nat.zero_add,g1,g2,vp,List.drop_zero,hct,hz,aH,i1,i2,r1,d1,d2,ax,aQ,s1,s2,d3]
   rw [if_pos (by omega)]
   by_cases R6:z<0
   ·rw [if_pos R6, if_pos (hlt.1 R6)]
    have:(((L.length+1:Nat):Int) - 1)=(L.length:Int):=by omega
    rw [this]
   ·rw [if_neg R6,if_neg (fun h=>R6 (hlt.2 h))]
  ·intro m
   simp only [gH65_v1_1,aq,aQ,aa]
   rw [if_neg (by omega)]
  ·simp only []
   rw [aP (by omega) (by omega)]
   simp
 ·intro k m hk
  simp only [gH65_v1_0,aq,aQ,aa]
  rw [if_neg (by omega)]
theorem k75 : ∀ n : Nat, n ≤ 12 → ∃ y, ai (F41 (n : Int)) = some (y, ())
 |0,_=>⟨0,dg 10 (by kernel_rfl)⟩
 |1,_=>⟨1,dg 10 (by kernel_rfl)⟩
 |2,_=>⟨2,dg 10 (by kernel_rfl)⟩
 |3,_=>⟨2,dg 10 (by kernel_rfl)⟩
 |4,_=>⟨3,dg 10 (by kernel_rfl)⟩
 |5,_=>⟨3,dg 10 (by kernel_rfl)⟩
 |6,_=>⟨3,dg 10 (by kernel_rfl)⟩
 |7,_=>⟨3,dg 10 (by kernel_rfl)⟩
 |8,_=>⟨4,dg 10 (by kernel_rfl)⟩
 |9,_=>⟨4,dg 10 (by kernel_rfl)⟩
 |10,_=>⟨4,dg 10 (by kernel_rfl)⟩
 |11,_=>⟨4,dg 10 (by kernel_rfl)⟩
 |12,_=>⟨4,dg 10 (by kernel_rfl)⟩
 |n+13,h=>by omega
theorem aiv {l:List Cl} {cut:List Int} {name:Nat->ByteArray} {n:Nat} (hc:cut.length=n) (hg:∀c∈l,qW name n c) (hl:l.length<=12):ai (FH19 l.length l n cut)=some (n,nk (W4 cut name) l,cut,()):=by
 obtain ⟨y,hy⟩:=k75 l.length hl
 simp only [FH19,FH40,aN,az,bD,aa]
 rw [cD (Uk (by omega) (by omega)), aA hy, cA (b := (n, nk (W4 cut name) l, cut, ())) (by
  simp only [gH40_0,aO,aN,aq,az,aa,aQ]
  rw [aP (by omega) (by omega),if_pos (by omega),aA (W5 hc hg (by omega))])]
 simp only [aH]
end Go.Proofs.Tryz
end
section
namespace Go.Proofs.Tryz
open Go.AM Go.vn
set_option maxRecDepth 100000
def nameOf (w:Wk) (i:Nat):ByteArray:=(w.2.2.2.1.getD i (bs [],0)).1
noncomputable def order (w:Wk) (s:List Int):List Cl:=nk (W4 (gV (tV w s) (level (jN w s) (bT w s))) (nameOf w)) (jN w s)
noncomputable def leftOf (w:Wk) (s:List Int):Int:=bT w s - (gU (tV w s) (level (jN w s) (bT w s))).sum
noncomputable def zW (w:Wk) (s:List Int):List Int:=((order w s).take (leftOf w s).toNat).foldl (fun o c=>inc o c.2.1.toNat) (gU (tV w s) (level (jN w s) (bT w s)))
theorem qX {l:List Int} {k:Nat} {v:Int} (h:k<l.length):(l.set k v).take (k+1)=l.take k++[v]:=by
 rw [List.take_succ_eq_append_getElem (by simpa using h)]
 simp [List.take_set_of_le]
section
variable {w:Wk} {s:List Int} (hw:HD w) (hs:N4 w s)
include hw hs
theorem Eb:(jN w s).length=w.2.2.2.1.length:=by rw [jN,pR,vr hw hs]
theorem l9:(tV w s).length=w.2.2.2.1.length:=by unfold tV;rw [List.length_map,vr hw hs]
theorem vu:∀c∈jN w s,qW (nameOf w) w.2.2.2.1.length c:=fun c hc=>by
 obtain ⟨i,hi,rfl⟩:=List.mem_iff_getElem.1 hc
 have hi':i<w.2.2.2.1.length:=by rw [<-Eb hw hs];exact hi
 have:=Sj hs hi'
 rw [List.getD_eq_getElem?_getD,List.getElem?_eq_getElem hi] at this
 simp only [Option.getD_some] at this
 exact ⟨i,hi',by rw [this],by rw [this];rfl⟩
theorem xE:0<=leftOf w s/\leftOf w s<=AW (gV (tV w s) (level (jN w s) (bT w s))):=W2 (LH hw hs)
theorem LJ:leftOf w s<=w.2.2.2.1.length:=by
 have h1:=(xE hw hs).2
 have h2:AW (gV (tV w s) (level (jN w s) (bT w s)))<=(gV (tV w s) (level (jN w s) (bT w s))).length:=List.length_filter_le ..
 unfold gV at h1 h2
 rw [List.length_map,l9 hw hs] at h2
 omega
theorem W6:Bd 1000000000 (gU (tV w s) (level (jN w s) (bT w s))):=fun y hy=>by
 obtain ⟨c,hc,rfl⟩:=List.mem_map.1 hy
 obtain ⟨t,ht,rfl⟩:=List.mem_map.1 hc
 have:=N7 hw hs ht (zT hw hs)
 exact ⟨this.1,this.2.1⟩
theorem aiw:run (fun _=>none) (.it g4_0 (w.2.2.2.1.length,bT w s,jN w s,((w.2.2.2.1.length:Nat):Int),0,jN w s,bT w s,(level (jN w s) (bT w s)).1,(level (jN w s) (bT w s)).2,List.replicate w.2.2.2.1.length 0,w.2.2.2.1.length,List.replicate w.2.2.2.1.length 0,())) =
  some (w.2.2.2.1.length,leftOf w s,jN w s,bT w s,gU (tV w s) (level (jN w s) (bT w s)),w.2.2.2.1.length,gV (tV w s) (level (jN w s) (bT w s)),()):=by
 have hm:=hw.many
 have hx:=zT hw hs
 have mN:=Eb hw hs
 have hb:=tW hw hs
 have Yg:=Je w s
 unfold leftOf
 generalize hp:bT w s=p at *
 generalize level (jN w s) p=x at *
 generalize hn:w.2.2.2.1.length=n at *
 have key := aZ (f := fun a => run (fun _ => none) (g4_0 a)) (jN w s) (fun k (t : Int × List Int × List Int) => (n, t.1, jN w s, ((n : Nat) : Int), (k : Int), jN w s, p, x.1, x.2, t.2.1, n, t.2.2, ()))
  (fun t r=>(n,t.1 - (gU (r.map pr) x).sum,jN w s,p,t.2.1.take (n - r.length)++gU (r.map pr) x,n,t.2.2.take (n - r.length)++gV (r.map pr) x,()))
  (fun pre t => t.2.1.length = n ∧ t.2.2.length = n ∧ t.1 ≤ 1000000000 ∧ -1000000000 * (pre.length : Int) ≤ t.1) (by
   rintro pre c post ⟨a,o,u⟩ hc ⟨ho,hu,ha,ha2⟩
   simp only at ho hu ha ha2
   left
   have hlen:n=pre.length+(post.length+1):=by rw [<-mN,hc];simp
   have hd:(jN w s).getD pre.length Y9=c:=by rw [hc];exact bg rfl
   have hcm:c∈jN w s:=by rw [hc];simp
   have hg:=(D6 hw hs).good c hcm
   have hdue:=zU (c:=pr c) ⟨hg.c0,hg.c1⟩ ⟨hg.s0,hg.s1⟩ hx
   have hc1:(cR (pr c) x).1<=1000000000:=by have:=hg.c1;have:=hdue.2.1;unfold pr at this ⊢;omega
   have k:=k54 hg hx
   have i1:eA (pre.length:Int) (((jN w s).length:Nat):Int)=true:=bH (by omega) (by omega)
   have i2:eA (pre.length:Int) ((n:Nat):Int)=true:=bH (by omega) (by omega)
   have d1:decide (pre.length<o.length)=true:=decide_eq_true (by omega)
   have d2:decide (pre.length<u.length)=true:=decide_eq_true (by omega)
   have r1:dV .i64 ((pre.length:Int)+1)=true:=aK (by omega) (by omega)
   have eD:(o.set pre.length (cR (pr c) x).1).getD pre.length 0=(cR (pr c) x).1:=qU (by omega)
   refine ⟨(a - (cR (pr c) x).1,o.set pre.length (cR (pr c) x).1,u.set pre.length (cR (pr c) x).2),?_,⟨by simpa using ho,by simpa using hu,by simp only;omega,by simp only [List.length_append,List.length_cons,List.length_nil];omega⟩,?_⟩
   ·simp only [g4_0, aq, az, aY, aN, aO, aa, Int.toNat_natCast, Nat.zero_add, hd, i1, i2, d1, d2, r1, ax, aQ, vp]
    rw [if_pos (by omega),aA k]
    simp only [List.length_set,d1,ax,eD]
    rw [aP (by omega) (by omega)]
    rfl
   ·have e1 : n - (c :: post).length = pre.length := by rw [List.length_cons]; omega
    have e2:n - post.length=pre.length+1:=by omega
    simp only [e1,e2]
    rw [qX (by omega),qX (by omega)]
    simp only [gU,gV,List.map_cons,List.sum_cons,List.append_assoc,List.cons_append,List.nil_append]
    rw [show a - ((cR (pr c) x).1+(List.map (fun c=>(cR c x).1) (List.map pr post)).sum)=a - (cR (pr c) x).1 - (List.map (fun c=>(cR c x).1) (List.map pr post)).sum by omega]) (by
   rintro ⟨a,o,u⟩ ⟨ho,hu,_,_⟩
   simp only at ho hu
   simp only [g4_0,aq,aQ,aa]
   rw [if_neg (by omega)]
   simp [gU,gV,<-ho,List.take_of_length_le,show u.length<=o.length by omega]) (s:=(p,List.replicate n 0,List.replicate n 0)) (by simp;omega)
 simp only [mN,Nat.sub_self,List.take_zero,List.nil_append,Yg] at key
 exact key
theorem aix {out:List Int} {O:List Cl} {L:Nat} (hO:∀c∈O,qW (nameOf w) w.2.2.2.1.length c) (hOl:O.length=w.2.2.2.1.length) (hL:L<=w.2.2.2.1.length) (hol:out.length=w.2.2.2.1.length) (cV:Bd 1000000000 out) :
  run (fun _=>none) (.it g4_1 (w.2.2.2.1.length,0,L,(L:Int),0,out,O,()))=some (w.2.2.2.1.length,(O.take L).foldl (fun o c=>inc o c.2.1.toNat) out,())/\((O.take L).foldl (fun o c=>inc o c.2.1.toNat) out).length=w.2.2.2.1.length:=by
 have hm:=hw.many
 have A8:∀(l:List Cl) (o:List Int),(l.foldl (fun o c=>inc o c.2.1.toNat) o).length=o.length:=by
  intro l
  induction l with
  |nil=>intro o;rfl
  |cons c l ih=>intro o;rw [List.foldl_cons,ih];simp [inc]
 refine ⟨?_,by rw [A8,hol]⟩
 have hTl:(O.take L).length=L:=by rw [List.length_take];omega
 refine aZ (f:=fun a=>run (fun _=>none) (g4_1 a)) (O.take L) (fun k (o:List Int)=>(w.2.2.2.1.length,(0:Nat),L,(L:Int),(k:Int),o,O,())) (fun o r=>(w.2.2.2.1.length,r.foldl (fun o c=>inc o c.2.1.toNat) o,())) (fun pre o=>o.length=w.2.2.2.1.length/\Bd (1000000000+pre.length) o) ?_ ?_ (s:=out) ⟨hol,by simpa using cV⟩
 ·rintro pre c post o hc ⟨ho, hb⟩
  left
  have hlen:L=pre.length+(post.length+1):=by rw [<-hTl,hc];simp
  have hd:O.getD pre.length Y9=c:=by
   have h1:(O.take L).getD pre.length Y9=c:=by rw [hc];exact bg rfl
   rw [getD_take (by omega)] at h1;exact h1
  obtain ⟨i,hi,ei,_⟩:=hO c (List.mem_of_mem_take (show c∈O.take L by rw [hc];simp))
  have hg:=hb.getD (by omega) c.2.1.toNat
  have i1:eA (pre.length:Int) ((L:Nat):Int)=true:=bH (by omega) (by omega)
  have i2:eA c.2.1 ((w.2.2.2.1.length:Nat):Int)=true:=bH (by omega) (by omega)
  have d1:decide (pre.length<O.length)=true:=decide_eq_true (by omega)
  have d2:decide (c.2.1.toNat<o.length)=true:=decide_eq_true (by omega)
  have r1:dV .i64 ((pre.length:Int)+1)=true:=aK (by omega) (by omega)
  refine ⟨inc o c.2.1.toNat,?_,⟨by simp [inc,ho],?_⟩,rfl⟩
  ·simp only [g4_1, aq, aY, aN, aO, aa, Int.toNat_natCast, Nat.zero_add, hd, i1, i2, d1, d2, r1, ax, aQ]
   rw [if_pos (by omega),aP (by omega) (by omega)]
   rfl
  ·intro y hy
   rw [List.length_append,List.length_cons,List.length_nil]
   rcases List.mem_or_eq_of_mem_set hy with hy|rfl
   ·have:=hb y hy;omega
   ·omega
 ·rintro o _
  simp only [g4_1,aq,aQ,aa]
  rw [if_neg (by omega)]
  rfl
end
noncomputable def ac9 (w:Wk):List Int×Int×Unit:=if zR w=0 then (zW w (gT w),0,()) else ([],zR w,())
theorem k26 (w:Wk) (hn:Names w):ai (F4 w)=some (ac9 w):=by
 simp only [F4,az,aq,aY,aN,aa,k22 w hn,aH,bU,bE]
 unfold ac9
 by_cases h:zR w=0
 case neg=>rw [if_neg h,if_neg h]
 rw [if_pos h,if_pos h]
 have hw:=ac3 h
 have hs:=GR hw
 have hm:=hw.many
 have mN:=Eb hw hs
 have hlo:=xE hw hs
 have hle:=LJ hw hs
 have hout:(gU (tV w (gT w)) (level (jN w (gT w)) (bT w (gT w)))).length=w.2.2.2.1.length:=by unfold gU;rw [List.length_map,l9 hw hs]
 have jf:(gV (tV w (gT w)) (level (jN w (gT w)) (bT w (gT w)))).length=w.2.2.2.1.length:=by unfold gV;rw [List.length_map,l9 hw hs]
 simp only [k41 hw,aH,k51 hw hs,k52' hw hs,mN,Int.toNat_natCast]
 rw [rT (by omega) (by omega),rT (by omega) (by omega),aA (aiw hw hs)]
 simp only []
 have e55:=kH55 (l:=jN w (gT w)) (by omega)
 have e56:=aiv (l:=jN w (gT w)) jf (vu hw hs) (by omega)
 rw [mN] at e55 e56
 rw [aA e55]
 simp only []
 rw [aA e56]
 simp only []
 rw [aI (by omega),aI (by omega),aI (by omega)]
 have hO:∀c∈order w (gT w),qW (nameOf w) w.2.2.2.1.length c:=fun c hc=>vu hw hs c ((iO _).mem_iff.1 hc)
 obtain ⟨e1,e2⟩:=aix hw hs (L:=(leftOf w (gT w)).toNat) hO (by rw [order,tC,mN]) (by omega) hout (W6 hw hs)
 simp only [Int.toNat_zero,Nat.sub_zero,Nat.zero_add]
 unfold order at e1 e2
 rw [aA e1]
 simp only [List.drop_zero]
 rw [List.take_of_length_le (by rw [e2];exact Nat.le_refl _)]
 rfl
end Go.Proofs.Tryz
end
section
namespace Go.Proofs.Tryz
open Go.AM Go.vn
set_option maxRecDepth 100000
theorem Ce : ∀ (k : Nat) (l : List ((ByteArray × Int) × Int)), (ic k l).map (fun c => c.2.1.toNat) = List.range' k l.length
 |_,[]=>rfl
 |k,x::r=>by simp only [ic,List.map_cons,Ce (k+1) r,List.length_cons,List.range'_succ,Int.toNat_natCast]
section
variable {w:Wk} {s:List Int} (hw:HD w) (hs:N4 w s)
include hw hs
theorem W7:∀i j,i<w.2.2.2.1.length->j<w.2.2.2.1.length->i≠j->nameOf w i≠nameOf w j:=by
 intro i j hi hj hij e
 have hnd:=hw.Sa
 have e1:(w.2.2.2.1.map (·.1))[i]'(by simpa using hi)=nameOf w i:=by simp [nameOf,List.getD_eq_getElem?_getD,List.getElem?_eq_getElem hi]
 have e2:(w.2.2.2.1.map (·.1))[j]'(by simpa using hj)=nameOf w j:=by simp [nameOf,List.getD_eq_getElem?_getD,List.getElem?_eq_getElem hj]
 have h:=(List.pairwise_iff_getElem.1 hnd)
 rcases Nat.lt_or_ge i j with hlt|hge
 ·exact h i j (by simpa using hi) (by simpa using hj) hlt (by rw [e1,e2,e])
 ·exact h j i (by simpa using hj) (by simpa using hi) (by omega) (by rw [e1,e2,e])
end
end Go.Proofs.Tryz
end
section
namespace Go.Proofs.Tryz
open Go.AM Go.vn
set_option maxRecDepth 100000
theorem Ec (o:List Int) (i:Nat):(inc o i).length=o.length:=by simp [inc]
theorem Sl {o:List Int} {i j:Nat} (hj:j<o.length):(inc o j).getD i 0=o.getD i 0+if i=j then 1 else 0:=by
 unfold inc
 by_cases h:i=j
 ·subst h;rw [qU hj,if_pos rfl]
 ·rw [if_neg h];simp [List.getD_eq_getElem?_getD,List.getElem?_set_ne (Ne.symm h)]
theorem W8 {o:List Int} {j:Nat} (hj:j<o.length):(inc o j).sum=o.sum+1:=by
 have:=D8 (fun _=>1) (0,0,0,0) o j hj
 exact this
theorem GW : ∀ (N : List Nat) (o : List Int), (N.foldl inc o).length = o.length
 |[],_=>rfl
 |j::N,o=>by rw [List.foldl_cons,GW N,Ec]
theorem Cf : ∀ (N : List Nat) (o : List Int), N.Nodup → (∀ j ∈ N, j < o.length) → ∀ i, (N.foldl inc o).getD i 0 = o.getD i 0 + if i ∈ N then 1 else 0
 |[],o,_,_,i=>by simp
 |j::N,o,hn,h,i=>by
  rw [List.nodup_cons] at hn
  have hj:=h j (List.mem_cons_self ..)
  rw [List.foldl_cons,Cf N (inc o j) hn.2 (fun k hk=>by rw [Ec];exact h k (List.mem_cons_of_mem _ hk)) i,Sl hj]
  by_cases hij:i=j
  ·subst hij
   rw [if_pos rfl,if_neg hn.1,if_pos (List.mem_cons_self ..)];omega
  ·rw [if_neg hij]
   by_cases hi:i∈N
   ·rw [if_pos hi,if_pos (List.mem_cons_of_mem _ hi)];omega
   ·rw [if_neg hi,if_neg (by simp [hij,hi])];omega
theorem GX : ∀ (N : List Nat) (o : List Int), (∀ j ∈ N, j < o.length) → (N.foldl inc o).sum = o.sum + N.length
 |[],o,_=>by simp
 |j::N,o,h=>by
  have hj:=h j (List.mem_cons_self ..)
  rw [List.foldl_cons,GX N (inc o j) (fun k hk=>by rw [Ec];exact h k (List.mem_cons_of_mem _ hk)),W8 hj,List.length_cons]
  omega
end Go.Proofs.Tryz
end
section
namespace Go.Proofs.Tryz
open Go.AM Go.vn
set_option maxRecDepth 100000
noncomputable def dS (w:Wk) (s:List Int):Int×Int:=level (jN w s) (bT w s)
noncomputable def zX (w:Wk) (s:List Int):List Int:=gU (tV w s) (dS w s)
noncomputable def zY (w:Wk) (s:List Int):List Int:=gV (tV w s) (dS w s)
noncomputable def qY (w:Wk) (s:List Int):List Nat:=(order w s).map fun c=>c.2.1.toNat
noncomputable def oD (w:Wk) (s:List Int):List Nat:=(qY w s).take (leftOf w s).toNat
def gW (w:Wk) (i:Nat):Int:=(w.2.2.2.1.getD i (bs [],0)).2
theorem Ed (w:Wk) (s:List Int):zW w s=(oD w s).foldl inc (zX w s):=by
 unfold zW oD qY;rw [<-List.map_take,List.foldl_map];rfl
section
variable {w:Wk} {s:List Int} (hw:HD w) (hs:N4 w s)
include hw hs
theorem Jg {i:Nat} (hi:i<w.2.2.2.1.length):(tV w s).getD i (0,0)=(gW w i,s.getD i 0):=by
 have h1:=hs.len
 have hz:=vr hw hs
 unfold tV gW
 rw [List.getD_eq_getElem?_getD,List.getElem?_map,List.getElem?_eq_getElem (show i<(w.2.2.2.1.zip s).length by omega)]
 simp [List.getD_eq_getElem?_getD,List.getElem?_eq_getElem hi,List.getElem?_eq_getElem (show i<s.length by omega)]
theorem W9 {i:Nat} (hi:i<w.2.2.2.1.length):(gW w i,s.getD i 0)∈tV w s:=by
 have h:=l9 hw hs
 rw [<-Jg hw hs hi,List.getD_eq_getElem?_getD,List.getElem?_eq_getElem (by omega)]
 exact List.getElem_mem _
theorem zZ:(zX w s).length=w.2.2.2.1.length:=by unfold zX gU;rw [List.length_map,l9 hw hs]
theorem Sm:(zY w s).length=w.2.2.2.1.length:=by unfold zY gV;rw [List.length_map,l9 hw hs]
theorem Xa {i:Nat} (hi:i<w.2.2.2.1.length):(zX w s).getD i 0=(cR (gW w i,s.getD i 0) (dS w s)).1:=by
 have h:=l9 hw hs
 rw [<-Jg hw hs hi]
 unfold zX gU
 simp [List.getD_eq_getElem?_getD,List.getElem?_eq_getElem (show i<(tV w s).length by omega)]
theorem Xb {i:Nat} (hi:i<w.2.2.2.1.length):(zY w s).getD i 0=(cR (gW w i,s.getD i 0) (dS w s)).2:=by
 have h:=l9 hw hs
 rw [<-Jg hw hs hi]
 unfold zY gV
 simp [List.getD_eq_getElem?_getD,List.getElem?_eq_getElem (show i<(tV w s).length by omega)]
theorem qs:(qY w s).Perm (List.range w.2.2.2.1.length):=by
 refine ((iO _).map _).trans ?_
 unfold jN
 rw [Ce,vr hw hs,List.range_eq_range']
theorem GY:(qY w s).Pairwise fun a b=>better (zY w s) (nameOf w) b a=false:=by
 unfold qY
 rw [List.pairwise_map]
 exact tE (ordC (n:=w.2.2.2.1.length) (W7 hw hs)) (vu hw hs)
theorem Jh:(qY w s).Nodup:=(qs hw hs).nodup_iff.2 List.nodup_range
theorem Sn:(qY w s).length=w.2.2.2.1.length:=by rw [(qs hw hs).length_eq,List.length_range]
theorem LK:∀j∈oD w s,j<w.2.2.2.1.length:=fun j hj=>by
 have:=List.mem_of_mem_take hj
 rw [(qs hw hs).mem_iff] at this
 simpa using this
theorem Ji:(oD w s).Nodup:=(Jh hw hs).sublist (List.take_sublist ..)
theorem GZ:((oD w s).length:Int)=leftOf w s:=by
 have h1:=xE hw hs
 have h2:=LJ hw hs
 unfold oD
 rw [List.length_take,Sn hw hs]
 omega
theorem Sq:(zW w s).length=w.2.2.2.1.length:=by rw [Ed,GW,zZ hw hs]
theorem Sr:(zW w s).sum=bT w s:=by
 rw [Ed,GX _ _ (fun j hj=>by rw [zZ hw hs];exact LK hw hs j hj),GZ hw hs]
 unfold leftOf zX dS;omega
theorem Ss {i:Nat} (hi:i<w.2.2.2.1.length):(zW w s).getD i 0=(zX w s).getD i 0+if i∈oD w s then 1 else 0:=by
 rw [Ed,Cf _ _ (Ji hw hs) (fun j hj=>by rw [zZ hw hs];exact LK hw hs j hj)]
theorem Su {i:Nat} (hi:i∈oD w s):0<(zY w s).getD i 0:=by
 obtain ⟨A,B,hAB⟩:=List.append_of_mem hi
 have hl:=xE hw hs
 have hlen:=GZ hw hs
 have hN:qY w s=A++i::(B++(qY w s).drop (leftOf w s).toNat):=by
  have:=List.take_append_drop (leftOf w s).toNat (qY w s)
  unfold oD at hAB
  rw [hAB] at this
  refine this.symm.trans ?_
  simp
 refine N8 (qs hw hs) (GY hw hs) hN (Sm hw hs) ?_
 rw [hAB,List.length_append,List.length_cons] at hlen
 have:leftOf w s<=AW (zY w s):=hl.2
 omega
theorem N9:Lv (tV w s) (bT w s) (dS w s).1 (dS w s).2:=LH hw hs
theorem Xc {i:Nat} (hi:i<w.2.2.2.1.length):∃o c:Int,(cR (gW w i,s.getD i 0) (dS w s))=(o,c)/\o * (dS w s).2+c=D1 (dS w s).1 (dS w s).2 (gW w i,s.getD i 0)/\0<=c/\c<(dS w s).2/\0<=o/\o<=gW w i/\(0<c->o<gW w i) /\
  ((zW w s).getD i 0=o/\i∉oD w s\/((zW w s).getD i 0=o+1/\0<c/\i∈oD w s)):=by
 have hl:=N9 hw hs
 have hx:Za (dS w s):=zT hw hs
 have hm:=W9 hw hs hi
 have hn:=Si hw hs _ hm
 obtain ⟨z,hz,hz2⟩:=List.mem_map.1 hm
 have hg:=qq hw hs hz
 have hc1:z.1.2=gW w i:=congrArg Prod.fst hz2
 have HV:z.2=s.getD i 0:=congrArg Prod.snd hz2
 have hb:=zU (c:=(gW w i,s.getD i 0)) ⟨hn.1,by simp only;omega⟩ ⟨hn.2,by simp only;omega⟩ hx
 have hD:=GU (c:=(gW w i,s.getD i 0)) hl.vo
 have jf:(cR (gW w i,s.getD i 0) (dS w s)).2<(dS w s).2:=(GV hl.vo (tV w s) _ (List.mem_map.2 ⟨_,hm,rfl⟩)).2
 have hlt:0<(cR (gW w i,s.getD i 0) (dS w s)).2->(cR (gW w i,s.getD i 0) (dS w s)).1<gW w i:=by
  intro hc
  have h1:D1 (dS w s).1 (dS w s).2 (gW w i,s.getD i 0)<=gW w i * (dS w s).2:=by unfold D1;exact Int.min_le_right ..
  rcases Int.lt_or_le (cR (gW w i,s.getD i 0) (dS w s)).1 (gW w i) with h|h
  ·exact h
  ·have := Int.mul_le_mul_of_nonneg_right h (Int.le_of_lt hl.vo)
   omega
 refine ⟨_,_,rfl,hD,hb.2.2.1,jf,hb.1,hb.2.1,hlt,?_⟩
 have h1:=Ss hw hs hi
 rw [Xa hw hs hi] at h1
 by_cases hmo:i∈oD w s
 ·right
  rw [if_pos hmo] at h1
  have h2:=Su hw hs hmo
  rw [Xb hw hs hi] at h2
  exact ⟨h1,h2,hmo⟩
 ·left
  rw [if_neg hmo] at h1
  exact ⟨by rw [h1];exact Int.add_zero _,hmo⟩
end
end Go.Proofs.Tryz
end
section
namespace Go.Proofs.Tryz
open Go.AM Go.vn
set_option maxRecDepth 100000
theorem LL : ∀ {fs : List (ByteArray × Int)} {seen : List ByteArray}, (∀ f ∈ fs, iW f.1 = true ∧ f.1 ∉ seen ∧ 0 ≤ f.2 ∧ f.2 ≤ 1000000000) → (fs.map (·.1)).Nodup → zP seen fs = 0
 |[],_,_,_=>rfl
 |f::r,seen,h,hn=>by
  have h1:=h f (List.mem_cons_self ..)
  rw [List.map_cons,List.nodup_cons] at hn
  simp only [zP]
  rw [if_neg (by rw [h1.1];simp),if_neg (by rw [GM];exact h1.2.1),if_neg (not_not_intro h1.2.2)]
  refine LL (fun g hg=>?_) hn.2
  have h2:=h g (List.mem_cons_of_mem _ hg)
  refine ⟨h2.1,fun hm=>?_,h2.2.2⟩
  rcases List.mem_append.1 hm with hm|hm
  ·exact h2.2.1 hm
  ·simp at hm
   exact hn.1 (List.mem_map.2 ⟨g,hg,hm⟩)
theorem LM {n : Int} : ∀ {ws : List (Int × Int × Int × Int)}, (∀ x ∈ ws, 0 ≤ x.1 ∧ x.1 < n ∧ 0 ≤ x.2.2.1 ∧ x.2.2.1 ≤ x.2.1 ∧ x.2.1 ≤ 100000 ∧ 0 ≤ x.2.2.2 ∧ x.2.2.2 ≤ 1000) → zQ n ws = 0
 |[],_=>rfl
 |x::r,h=>by
  have h1:=h x (List.mem_cons_self ..)
  simp only [zQ]
  rw [if_neg (by omega),if_neg (by omega),if_neg (by omega),if_neg (by omega)]
  exact LM fun y hy=>h y (List.mem_cons_of_mem _ hy)
theorem ada {w:Wk} (h:HD w):zR w=0:=by
 have h0:D4 w=0:=by
  unfold D4;rw [if_neg (not_not_intro h.eC),if_neg (not_not_intro h.scale),if_neg (not_not_intro h.lab)]
 have h1:AU w=0:=by
  have:=h.some;have:=h.many
  unfold AU;rw [if_neg (by omega),if_neg (by omega)]
  exact LL (fun f hf=>⟨h.name f hf,by simp,h.cap f hf⟩) h.Sa
 have h2:Jc w=0:=by
  have:=h.D5
  unfold Jc;rw [if_neg (by omega)]
  exact LM h.GN
 unfold zR
 rw [h0,h1,h2];rfl
end Go.Proofs.Tryz
end
