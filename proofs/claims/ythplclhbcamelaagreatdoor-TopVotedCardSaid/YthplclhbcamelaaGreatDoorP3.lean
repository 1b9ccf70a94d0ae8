/- Tools for laws: rounds that count, find or keep something; needs. Rounds over a list, with a function that says what comes out. Plain Lean. Sorting by insertion, as rounds. Plain Lean. Lists of numbers in order. Plain Lean. Walks over states, and classes of states. Plain Lean, with no program in sight. Laws as systems; the table of the classes of a system. Plain Lean, with no program in sight. Maps: what stands in them after an entry was put. Plain Lean. -/
import Derived.Test.YthplclhbcamelaaGreatDoorAMd
set_option linter.unusedSectionVars false
set_option linter.unusedVariables false
set_option linter.unusedSimpArgs false
section
namespace Go.AM
theorem adU {X:Type} {z:Int} {x:Option X} (h1:0<=z) (h2:z<=18446744073709551615):need (cP .u64 z) x=x:=aA (nt h1 h2)
theorem ek:cz=1073741824:=by decide
theorem adV {X:Type} {n:Nat} {x:Option X} (h:n<1000000000):need (decide (n<cz)) x=x:=aL (by rw [ek];omega)
theorem acg {X:Type} {i:Int} {x:Option X} (h:0<=i) (h2:i<1000000000):need (gz i ((cz:Nat):Int)) x=x:=mI h (by rw [ek];omega)
theorem ach {α β γ : Type} {step : α → Option (α ⊕ β)} (n : Nat) (g : Nat → α) (stop : Nat → Option γ) (inj : γ → β) {b : β}
  (hr:∀k,k<n->(∀j,j<k->stop j=none)->step (g k)=match stop k with|none=>some (.inl (g (k+1)))|some c=>some (.inr (inj c))) (he:(∀j,j<n->stop j=none)->step (g n)=some (.inr b)) :
  iter step (g 0)=some (((List.range n).findSome? stop).elim b inj):=by
 have key:∀m k,k+m=n->(∀j,j<k->stop j=none)->iter step (g k)=some (((List.range' k m).findSome? stop).elim b inj):=by
  intro m
  induction m with
  |zero =>
   intro k hk hs
   have:k=n:=by omega
   subst this
   simpa using bk (he hs)
  |succ m ih =>
   intro k hk hs0
   have h:=hr k (by omega) hs0
   rw [List.range'_succ,List.findSome?_cons]
   cases hs:stop k with
   |none =>
    rw [hs] at h
    refine aW h (ih (k+1) (by omega) fun j hj=>?_)
    by_cases e:j=k
    ·rw [e,hs]
    ·exact hs0 j (by omega)
   |some c=>rw [hs] at h;exact bk h
 rw [List.range_eq_range']
 exact key n 0 (by omega) (fun j hj=>by omega)
theorem ahZ {α β : Type} {step : α → Option (α ⊕ β)} (n : Nat) (I : Nat → α → Prop) (Q : β → Prop) (hr : ∀ k x, k < n → I k x → ∃ y, step x = some (.inl y) ∧ I (k + 1) y) (he : ∀ x, I n x → ∃ b, step x = some (.inr b) ∧ Q b)
  {x:α} (h0:I 0 x):∃b,iter step x=some b/\Q b:=by
 have key:∀m k x,k+m=n->I k x->∃b,iter step x=some b/\Q b:=by
  intro m
  induction m with
  |zero =>
   intro k x hk hx
   have:k=n:=by omega
   subst this
   obtain ⟨b,h1,h2⟩:=he x hx
   exact ⟨b,bk h1,h2⟩
  |succ m ih =>
   intro k x hk hx
   obtain ⟨y,h1,h2⟩:=hr k x (by omega) hx
   obtain ⟨b,h3,h4⟩:=ih (k+1) y (by omega) h2
   exact ⟨b,aW h1 h3,h4⟩
 exact key n 0 x (by omega) h0
theorem aci {α β γ σ : Type} {step : α → Option (α ⊕ β)} (l : List γ) (d : γ) (f : σ → γ → σ) (g : Nat → σ → α) (s0 : σ) (I : σ → Prop) {out : σ → β} (h0 : I s0)
  (hr:∀k s,k<l.length->I s->I (f s (l.getD k d))/\step (g k s)=some (.inl (g (k+1) (f s (l.getD k d))))) (he:∀s,I s->step (g l.length s)=some (.inr (out s))) :
  iter step (g 0 s0)=some (out (l.foldl f s0))/\I (l.foldl f s0):=by
 have key:∀m k s,k+m=l.length->I s->iter step (g k s)=some (out ((l.drop k).foldl f s))/\I ((l.drop k).foldl f s):=by
  intro m
  induction m with
  |zero =>
   intro k s hk hs
   rw [show k=l.length by omega,List.drop_length]
   exact ⟨bk (he s hs),hs⟩
  |succ m ih =>
   intro k s hk hs
   obtain ⟨h1,h2⟩:=hr k s (by omega) hs
   obtain ⟨h3,h4⟩:=ih (k+1) _ (by omega) h1
   have e:l.drop k=l.getD k d::l.drop (k+1):=by
    rw [List.drop_eq_getElem_cons (by omega)];simp [List.getD_eq_getElem?_getD,List.getElem?_eq_getElem (show k<l.length by omega)]
   rw [e,List.foldl_cons]
   exact ⟨aW h2 h3,h4⟩
 have:=key l.length 0 s0 (by omega) h0
 simpa using this
theorem acj {α:Type} {l:List α} {k n:Nat} {d:α} (h:k<n):(l.take n).getD k d=l.getD k d:=by
 simp [List.getD_eq_getElem?_getD,List.getElem?_take,h]
theorem jA {α:Type} {l:List α} {k:Nat} {d:α} (h:k<l.length):l.getD k d∈l:=by
 simp [List.getD_eq_getElem?_getD,List.getElem?_eq_getElem h]
theorem dN {α:Type} {l:List α} {k:Nat} (d:α) (h:k<l.length):l.take (k+1)=l.take k++[l.getD k d]:=by
 rw [List.take_succ_eq_append_getElem h];simp [List.getD_eq_getElem?_getD,List.getElem?_eq_getElem h]
theorem ah0 {α:Type} {l:List α} {k:Nat} (d:α) (h:k<l.length):l.getD k d=l[k]:=by
 simp [List.getD_eq_getElem?_getD,List.getElem?_eq_getElem h]
theorem adW {α:Type} {l:List α} {k:Nat} (d:α) (h:l.length<=k):l.getD k d=d:=by
 simp [List.getD_eq_getElem?_getD,List.getElem?_eq_none h]
end Go.AM
end
section
namespace Go.AM
theorem gb {α:Type} {A B:List α} {x d:α} {n:Nat} (h:n=A.length):(A++x::B).getD n d=x:=by
 subst h;simp [List.getD_eq_getElem?_getD]
theorem IB {α:Type} {A B:List α} {x y:α} {n:Nat} (h:n=A.length):(A++x::B).set n y=A++y::B:=by
 subst h;simp [List.set_append]
theorem iZ {A B S X : Type} {f : A → Option (A ⊕ B)} (xs : List X) (mk : Nat → S → A) (G : S → List X → B) (Inv : List X → S → Prop)
  (hs:∀pre x post s,xs=pre++x::post->Inv pre s ->
   (∃s',f (mk pre.length s)=some (.inl (mk (pre.length+1) s'))/\Inv (pre++[x]) s'/\G s (x::post)=G s' post)\/f (mk pre.length s)=some (.inr (G s (x::post))))
  (he:∀s,Inv xs s->f (mk xs.length s)=some (.inr (G s []))) {s:S} (h0:Inv [] s):iter f (mk 0 s)=some (G s xs):=by
 have key:∀(post pre:List X) (s:S),xs=pre++post->Inv pre s->iter f (mk pre.length s)=some (G s post):=by
  intro post
  induction post with
  |nil =>
   intro pre s hx hi
   have:pre=xs:=by rw [hx];simp
   subst this
   exact bk (he s hi)
  |cons x post ih =>
   intro pre s hx hi
   rcases hs pre x post s hx hi with ⟨s',h1,h2,h3⟩|h1
   ·refine aW h1 ?_
    rw [h3]
    have:=ih (pre++[x]) s' (by rw [hx];simp) h2
    simpa using this
   ·exact bk h1
 exact key xs [] s (by simp) h0
theorem ah1 {X:Type} {c:Bool} {x y:Option X} (h:c=true) (e:x=y):need c x=y:=by rw [aA h,e]
theorem bind_eq {A X:Type} {o:Option A} {a:A} {f:A->Option X} {y:Option X} (h:o=some a) (e:f a=y):cZ o f=y:=by rw [h,bg,e]
theorem DZ:((cz:Nat):Int)=1073741824:=by decide
theorem Zs {X:Type} {i:Int} {x:Option X} (h:0<=i) (h2:i<1073741824):need (gz i ((cz:Nat):Int)) x=x:=mI h (by rw [DZ];exact h2)
theorem jB {X:Type} {n:Nat} {x:Option X} (h:n<1000000000):need (decide (n<cz)) x=x:=aL (by have:=DZ;omega)
theorem ah2 {X:Type} {x y:Option X}:vq true x y=x:=by simp
theorem PC {X:Type} {x y:Option X}:vq false x y=y:=by simp
theorem br_if {X:Type} {c:Bool} {x y:Option X}:vq c x y=if c=true then x else y:=by cases c<;>simp
end Go.AM
end
section
namespace Go.AM
variable {α:Type}
def pO (lt : α → α → Bool) (x : α) : List α → List α
 |[]=>[x]
 |y::R=>if lt x y=true then y::pO lt x R else x::y::R
def IC (lt:α->α->Bool) (R:List α) (l:List α):List α:=l.foldl (fun R x=>pO lt x R) R
def sv (lt:α->α->Bool) (l:List α):List α:=(IC lt [] l).reverse
variable {lt:α->α->Bool}
theorem j5 (x : α) : ∀ R : List α, (pO lt x R).Perm (x :: R)
 |[]=>.refl _
 |y::R=>by
  unfold pO;split
  ·exact ((j5 x R).cons y).trans (.swap ..)
  ·exact .refl _
theorem xU : ∀ (l R : List α), (IC lt R l).Perm (l ++ R)
 |[],_=>.refl _
 |x::l,R=>by
  have h1:=xU l (pO lt x R)
  have h2:(l++pO lt x R).Perm (x::(l++R)):=((List.Perm.append_left l (j5 x R))).trans List.perm_middle
  exact h1.trans h2
theorem qK (l:List α):(sv lt l).Perm l:=by
 have:=xU (lt:=lt) l []
 rw [List.append_nil] at this
 exact (List.reverse_perm _).trans this
theorem nw (l:List α):(sv lt l).length=l.length:=(qK l).length_eq
structure ID (lt:α->α->Bool) (Good:α->Prop):Prop where
 asym:∀a b,Good a->Good b->lt a b=true->lt b a=false
 ntr:∀a b c,Good a->Good b->Good c->lt a b=false->lt b c=false->lt a c=false
variable {Good:α->Prop}
theorem uU (h : ID lt Good) {x : α} (hx : Good x) : ∀ {R : List α}, (∀ y ∈ R, Good y) → R.Pairwise (fun a b => lt a b = false) → (pO lt x R).Pairwise (fun a b => lt a b = false)
 |[],_,_=>by simp [pO]
 |y::R,hg,hp=>by
  have hy:=hg y (List.mem_cons_self ..)
  have hg':∀z∈R,Good z:=fun z hz=>hg z (List.mem_cons_of_mem _ hz)
  rw [List.pairwise_cons] at hp
  unfold pO;split
  ·rename_i hl
   rw [List.pairwise_cons]
   refine ⟨fun z hz=>?_,uU h hx hg' hp.2⟩
   rcases List.mem_cons.1 ((j5 x R).mem_iff.1 hz) with rfl|hz
   ·exact h.asym _ _ hx hy hl
   ·exact hp.1 z hz
  ·rename_i hl
   have hl:lt x y=false:=by simpa using hl
   rw [List.pairwise_cons,List.pairwise_cons]
   refine ⟨fun z hz=>?_,hp⟩
   rcases List.mem_cons.1 hz with rfl|hz
   ·exact hl
   ·exact h.ntr _ _ _ hx hy (hg' z hz) hl (hp.1 z hz)
theorem sw (h : ID lt Good) : ∀ {l R : List α}, (∀ y ∈ l, Good y) → (∀ y ∈ R, Good y) → R.Pairwise (fun a b => lt a b = false) → (IC lt R l).Pairwise (fun a b => lt a b = false)
 |[],_,_,_,hp=>hp
 |x::l,R,hl,hR,hp=>by
  have hx:=hl x (List.mem_cons_self ..)
  refine sw (l:=l) (R:=pO lt x R) h (fun y hy=>hl y (List.mem_cons_of_mem _ hy)) (fun y hy=>?_) (uU h hx hR hp)
  rcases List.mem_cons.1 ((j5 x R).mem_iff.1 hy) with rfl|hy
  ·exact hx
  ·exact hR y hy
theorem BN (h:ID lt Good) {l:List α} (hl:∀y∈l,Good y):(sv lt l).Pairwise (fun a b=>lt b a=false):=by
 unfold sv
 rw [List.pairwise_reverse]
 exact sw h hl (fun y hy=>by cases hy) List.Pairwise.nil
theorem Aq {A B : Type} {f : A → Option (A ⊕ B)} {n : Nat} (mk : Nat → List α → A) (out : List α → B)
  (hs:∀L y x Q,(∀z∈L++y::x::Q,Good z)->L.length+2+Q.length=n->f (mk (L.length+1) (L++y::x::Q))=if lt x y=true then some (.inl (mk L.length (L++x::y::Q))) else some (.inr (out (L++y::x::Q))))
  (hz:∀l,f (mk 0 l)=some (.inr (out l))):∀(R:List α) (x:α) (Q:List α),(∀z∈R++x::Q,Good z)->R.length+1+Q.length=n->iter f (mk R.length (R.reverse++x::Q))=some (out ((pO lt x R).reverse++Q))
 |[],x,Q,_,_=>by simpa [pO] using bk (hz (x::Q))
 |y::R,x,Q,hg,hn=>by
  have e:(y::R).reverse++x::Q=R.reverse++y::x::Q:=by simp
  have h1 := hs R.reverse y x Q (fun z hz => hg z (by
   simp at hz ⊢
   rcases hz with h|h|h|h
   ·exact .inr (.inl h)
   ·exact .inl h
   ·exact .inr (.inr (.inl h))
   ·exact .inr (.inr (.inr h)))) (by simp at hn ⊢;omega)
  rw [List.length_reverse] at h1
  rw [e,List.length_cons]
  unfold pO
  by_cases hl:lt x y=true
  ·rw [if_pos hl] at h1
   rw [if_pos hl]
   refine aW h1 ?_
   have := Aq mk out hs hz R x (y :: Q) (fun z hz => hg z (by
    simp at hz ⊢
    rcases hz with h|h|h|h
    ·exact .inr (.inl h)
    ·exact .inr (.inr (.inl h))
    ·exact .inl h
    ·exact .inr (.inr (.inr h)))) (by simp at hn ⊢;omega)
   simpa using this
  ·rw [if_neg hl] at h1
   rw [if_neg hl]
   refine bk ?_
   rw [h1];simp
theorem Lp {A B : Type} {f : A → Option (A ⊕ B)} {n : Nat} (mk : Nat → List α → A) (out : List α → B)
  (hs:∀(R:List α) x Q,0<R.length->(∀z∈R++x::Q,Good z)->R.length+1+Q.length=n->f (mk R.length (R.reverse++x::Q))=some (.inl (mk (R.length+1) ((pO lt x R).reverse++Q))))
  (he:∀k l,n<=k->f (mk k l)=some (.inr (out l))) {l:List α} (hg:∀z∈l,Good z) (hn:l.length=n):iter f (mk 1 l)=some (out (sv lt l)):=by
 have key:∀(Q R:List α),0<R.length->(∀z∈R++Q,Good z)->R.length+Q.length=n->iter f (mk R.length (R.reverse++Q))=some (out (IC lt R Q).reverse):=by
  intro Q
  induction Q with
  |nil =>
   intro R hR hg hn
   rw [List.append_nil]
   exact bk (he _ _ (by simp at hn;omega))
  |cons x Q ih =>
   intro R hR hg hn
   refine aW (hs R x Q hR hg (by simp at hn;omega)) ?_
   have hlen:(pO lt x R).length=R.length+1:=(j5 x R).length_eq
   have := ih (pO lt x R) (by omega) (fun z hz => hg z (by
    rcases List.mem_append.1 hz with hz|hz
    ·rcases List.mem_cons.1 ((j5 x R).mem_iff.1 hz) with rfl | hz
     ·simp
     ·simp [hz]
    ·simp [hz])) (by simp at hn;omega)
   rw [hlen] at this
   exact this
 cases l with
 |nil=>exact bk (he 1 [] (by simp at hn;omega))
 |cons x Q=>exact key Q [x] (by simp) hg (by simp at hn ⊢;omega)
end Go.AM
end
section
namespace Go.AM
def ja : List Int → List Int → Int
 |[],[]=>0
 |[],_::_ => -1
 |_::_,[]=>1
 |a::u,b::v=>if a<b then -1 else if b<a then 1 else ja u v
def vc (a b:List Int):Bool:=decide (ja a b<0)
def Zt : List Int → List Int → Option Int
 |[],_=>none
 |_::_,[]=>some 1
 |a::u,b::v=>if a<b then some (-1) else if b<a then some 1 else Zt u v
theorem IE : ∀ a b : List Int, ja a b = (Zt a b).getD (if a.length < b.length then -1 else 0)
 |[],[]=>rfl
 |[],_::_=>by simp [ja,Zt]
 |_::_,[]=>rfl
 |a::u,b::v=>by
  have:=IE u v
  simp only [ja,Zt]
  by_cases h:a<b
  ·rw [if_pos h,if_pos h];rfl
  rw [if_neg h,if_neg h]
  by_cases h2:b<a
  ·rw [if_pos h2,if_pos h2];rfl
  rw [if_neg h2,if_neg h2,this]
  simp
theorem pn : ∀ a b : List Int, ja b a = - ja a b
 |[],[]=>rfl
 |[],_::_=>rfl
 |_::_,[]=>rfl
 |a::u,b::v=>by
  have:=pn u v
  simp only [ja]
  by_cases h:a<b
  ·rw [if_neg (by omega),if_pos h,if_pos h];rfl
  by_cases h2:b<a
  ·rw [if_pos h2,if_neg h,if_pos h2]
  rw [if_neg h2,if_neg h,if_neg h,if_neg h2,this]
theorem uf : ∀ a b : List Int, ja a b = 0 → a = b
 |[],[],_=>rfl
 |[],_::_,h=>by simp [ja] at h
 |_::_,[],h=>by simp [ja] at h
 |a::u,b::v,h=>by
  simp only [ja] at h
  by_cases h1:a<b
  ·simp [h1] at h
  by_cases h2:b<a
  ·simp [h1,h2] at h
  rw [if_neg h1,if_neg h2] at h
  rw [uf u v h,show a=b by omega]
theorem As : ∀ a : List Int, ja a a = 0
 |[]=>rfl
 |a::u=>by simp [ja,As u]
theorem xV : ∀ a b c : List Int, ja a b < 0 → ja b c < 0 → ja a c < 0
 |[],[],_,h,_=>by simp [ja] at h
 |_::_,[],_,h,_=>by simp [ja] at h
 |_,_::_,[],_,h=>by simp [ja] at h
 |[],_::_,_::_,_,_=>by simp [ja]
 |a::u,b::v,c::w,h1,h2=>by
  have ih:=xV u v w
  simp only [ja] at h1 h2 ⊢
  split at h1<;>split at h2<;>split<;>(try omega)<;>split<;>(try omega)<;>(repeat' split at h1)<;>(try omega)<;>(repeat' split at h2)<;>(try omega)
  all_goals exact ih h1 h2
theorem ah3 (a:List Int):vc a a=false:=by simp [vc,As]
theorem Lq {a b c:List Int} (h1:vc a b=true) (h2:vc b c=true):vc a c=true :=
 decide_eq_true (xV a b c (of_decide_eq_true h1) (of_decide_eq_true h2))
theorem D0 {a b:List Int} (h:vc a b=true):vc b a=false:=by
 have h:=of_decide_eq_true h
 exact decide_eq_false (by rw [pn a b];omega)
theorem FL {a b:List Int} (h:vc a b=false):vc b a=true\/a=b:=by
 have h:=of_decide_eq_false h
 by_cases e:ja a b=0
 ·exact .inr (uf _ _ e)
 ·exact .inl (decide_eq_true (by rw [pn a b];omega))
theorem TZ {a b c:List Int} (h1:vc a b=false) (h2:vc b c=false):vc a c=false:=by
 rcases FL h1 with h|rfl
 ·rcases FL h2 with h' | rfl
  ·exact D0 (Lq h' h)
  ·exact h1
 ·exact h2
theorem T2 (G:List Int->Prop):ID vc G:=⟨fun _ _ _ _ h=>D0 h,fun _ _ _ _ _ _ h1 h2=>TZ h1 h2⟩
theorem ah4 {l r:List (List Int)} (h:l.Perm r) (hl:l.Pairwise (fun a b=>vc b a=false)) (hr:r.Pairwise (fun a b=>vc b a=false)):l=r :=
 h.eq_of_pairwise (fun a b _ _ h1 h2=>by
  rcases FL h1 with h|h
  ·rw [h2] at h;cases h
  ·exact h.symm) hl hr
end Go.AM
end
section
namespace Go.Rs
theorem kH {α : Type} : ∀ {l m : List α}, l.Nodup → (∀ x ∈ l, x ∈ m) → l.length ≤ m.length
 |[],_,_,_=>Nat.zero_le _
 |x::l,m,h,hs=>by
  rw [List.nodup_cons] at h
  obtain ⟨A,B,rfl⟩:=List.append_of_mem (hs x (List.mem_cons_self ..))
  have:l.length<=(A++B).length:=kH h.2 fun y hy=>by
   have:=hs y (List.mem_cons_of_mem _ hy)
   simp only [List.mem_append,List.mem_cons] at this ⊢
   rcases this with h1|rfl|h1
   ·exact .inl h1
   ·exact absurd hy h.1
   ·exact .inr h1
  simp only [List.length_append,List.length_cons] at this ⊢
  omega
theorem PD {α:Type} {l m:List α} (h:l.Nodup) (hs:∀x∈l,x∈m) (hl:m.length<=l.length):∀y∈m,y∈l:=by
 intro y hy
 refine Classical.byContradiction fun hn=>?_
 have:(y::l).length<=m.length:=kH (List.nodup_cons.2 ⟨hn,h⟩) fun x hx=>by
  rcases List.mem_cons.1 hx with rfl|hx
  ·exact hy
  ·exact hs x hx
 simp at this;omega
theorem oG {α:Type} {p:List α->Prop} (h0:p []) (hs:∀l a,p l->p (l++[a])) (l:List α):p l:=by
 have:∀l:List α,p l.reverse:=fun l=>by
  induction l with
  |nil=>exact h0
  |cons a l ih=>rw [List.reverse_cons];exact hs _ _ ih
 simpa using this l.reverse
structure Sys (S:Type) where
 st:S
 nx:S->Int->S
 good:S->Bool
def Ys (ys:List Int):Prop:=∀c∈ys,c=0\/c=1
def Sys.run {S:Type} (X:Sys S) (ys:List Int):S:=ys.foldl X.nx X.st
theorem Ys.nil:Ys []:=fun _ h=>by cases h
theorem Ys.snoc {ys:List Int} {c:Int} (h:Ys ys) (hc:c=0\/c=1):Ys (ys++[c]):=fun x hx=>by
 rcases List.mem_append.1 hx with hx|hx
 ·exact h x hx
 ·rw [List.mem_singleton.1 hx];exact hc
theorem Ys.init {ys:List Int} {c:Int} (h:Ys (ys++[c])):Ys ys/\(c=0\/c=1):=⟨fun x hx=>h x (List.mem_append_left _ hx),h c (by simp)⟩
section
variable {S:Type} {X:Sys S}
theorem Sys.T4:X.run []=X.st:=rfl
theorem Sys.gK {ys:List Int} {c:Int}:X.run (ys++[c])=X.nx (X.run ys) c:=by simp [Sys.run,List.foldl_append]
theorem Sys.IF {p:S->Prop} (h0:p X.st) (hs:∀s c,p s->(c=0\/c=1)->p (X.nx s c)):∀{ys:List Int},Ys ys->p (X.run ys):=by
 intro ys
 refine oG (p:=fun ys=>Ys ys->p (X.run ys)) (fun _=>h0) (fun ys c ih h=>?_) ys
 rw [Sys.gK];exact hs _ _ (ih h.init.1) h.init.2
structure BF (X:Sys S) (U:List S) (P:List S) (q:List (S×List Int)):Prop where
 nd:(P++q.map (·.1)).Nodup
 sub:∀s∈P++q.map (·.1),s∈U
 first:(P++q.map (·.1)).head?=some X.st
 reach:∀e∈q,Ys e.2/\X.run e.2=e.1/\e.2.length<=P.length
 FM:∀s∈P,∃ys,Ys ys/\X.run ys=s
 closed:∀s∈P,∀c,c=0\/c=1->X.nx s c∈P++q.map (·.1)
theorem BF.start {U:List S} (h:X.st∈U):BF X U [] [(X.st,[])] where
 nd:=by simp
 sub:=by simpa using h
 first:=by simp
 reach:=by simp [Ys.nil,Sys.T4]
 FM:=by simp
 closed:=by simp
theorem BF.len {U P:List S} {q:List (S×List Int)} (h:BF X U P q):P.length+q.length<=U.length:=by
 have:=kH h.nd h.sub
 simpa using this
variable [DecidableEq S]
def bJ (P:List S) (q:List (S×List Int)) (s:S) (ys:List Int):List (S×List Int):=if s∈P++q.map (·.1) then q else q++[(s,ys)]
theorem sx {P:List S} {q:List (S×List Int)} {s t:S} {ys:List Int}:t∈P++(bJ P q s ys).map (·.1)↔t=s\/t∈P++q.map (·.1):=by
 unfold bJ
 split
 ·rename_i h
  constructor
  ·exact .inr
  ·rintro (rfl | h')
   ·exact h
   ·exact h'
 ·simp only [List.map_append, List.map_cons, List.map_nil, List.mem_append, List.mem_singleton]
  constructor
  ·rintro (h | h | h)
   ·exact .inr (.inl h)
   ·exact .inr (.inr h)
   ·exact .inl h
  ·rintro (h | h | h)
   ·exact .inr (.inr h)
   ·exact .inl h
   ·exact .inr (.inl h)
theorem IG {P:List S} {q:List (S×List Int)} {s:S} {ys:List Int} (h:(P++q.map (·.1)).Nodup):(P++(bJ P q s ys).map (·.1)).Nodup:=by
 unfold bJ
 split
 ·exact h
 ·rename_i hn
  rw [List.map_append,<-List.append_assoc,List.nodup_append]
  refine ⟨h,by simp,?_⟩
  intro a ha b hb
  simp at hb
  subst hb
  intro e
  subst e
  exact hn ha
theorem D1 {P:List S} {q:List (S×List Int)} {s:S} {ys:List Int}:∀e∈bJ P q s ys,e=(s,ys)\/e∈q:=by
 intro e he
 unfold bJ at he
 split at he
 ·exact .inr he
 ·rcases List.mem_append.1 he with h | h
  ·exact .inr h
  ·exact .inl (List.mem_singleton.1 h)
theorem At {P:List S} {q:List (S×List Int)} {s:S} {ys:List Int} {x:S} (h:(P++q.map (·.1)).head?=some x):(P++(bJ P q s ys).map (·.1)).head?=some x:=by
 unfold bJ
 split
 ·exact h
 ·rw [List.map_append,<-List.append_assoc,List.head?_append,h];rfl
theorem BF.round {U P:List S} {q:List (S×List Int)} {p:S} {ys:List Int} (h:BF X U P ((p,ys)::q)) (hU:∀c,c=0\/c=1->X.nx p c∈U) :
  BF X U (P++[p]) (bJ (P++[p]) (bJ (P++[p]) q (X.nx p 0) (ys++[0])) (X.nx p 1) (ys++[1])):=by
 have e:P++((p,ys)::q).map (·.1)=(P++[p])++q.map (·.1):=by simp
 obtain ⟨hy,hr,hl⟩:=h.reach (p,ys) (List.mem_cons_self ..)
 simp only at hy hr hl
 have tW:=h.nd;have hsub:=h.sub;have PE:=h.first;have rj:=h.closed
 rw [e] at tW hsub PE rj
 refine ⟨IG (IG tW),fun s hs=>?_,At (At PE),fun e he=>?_,fun s hs=>?_,fun s hs c hc=>?_⟩
 ·rw [sx, sx] at hs
  rcases hs with rfl|rfl|hs
  ·exact hU 1 (.inr rfl)
  ·exact hU 0 (.inl rfl)
  ·exact hsub s hs
 ·rcases D1 e he with rfl | he
  ·exact ⟨hy.snoc (.inr rfl),by simp only [Sys.gK,hr],by simp;omega⟩
  ·rcases D1 e he with rfl | he
   ·exact ⟨hy.snoc (.inl rfl),by simp only [Sys.gK,hr],by simp;omega⟩
   ·obtain ⟨h1, h2, h3⟩ := h.reach e (List.mem_cons_of_mem _ he)
    exact ⟨h1,h2,by simp;omega⟩
 ·rcases List.mem_append.1 hs with hs | hs
  ·exact h.FM s hs
  ·rw [List.mem_singleton.1 hs];exact ⟨ys,hy,hr⟩
 ·rw [sx, sx]
  rcases List.mem_append.1 hs with hs|hs
  ·exact .inr (.inr (rj s hs c hc))
  ·rw [List.mem_singleton.1 hs]
   rcases hc with rfl|rfl
   ·exact .inr (.inl rfl)
   ·exact .inl rfl
structure mM (X:Sys S) (U P:List S):Prop where
 nd:P.Nodup
 sub:∀s∈P,s∈U
 first:P.head?=some X.st
 reach:∀s∈P,∃ys,Ys ys/\X.run ys=s
 closed:∀s∈P,∀c,c=0\/c=1->X.nx s c∈P
omit [DecidableEq S] in
theorem BF.done {U P:List S} (h:BF X U P []):mM X U P:=⟨by simpa using h.nd,fun s hs=>h.sub s (by simpa using hs),by simpa using h.first,h.FM,fun s hs c hc=>by simpa using h.closed s hs c hc⟩
omit [DecidableEq S] in
theorem mM.ug {U P:List S} (h:mM X U P):X.st∈P:=List.mem_of_head? h.first
omit [DecidableEq S] in
theorem mM.vC {U P:List S} (h:mM X U P) {ys:List Int} (hy:Ys ys):X.run ys∈P:=Sys.IF (p:=(·∈P)) h.ug (fun s c hs hc=>h.closed s hs c hc) hy
end
structure Nj {S:Type} (P:List S) (f:S->Int) (n:Nat):Prop where
 cP:∀s∈P,0<=f s/\f s<n
 So:∀k:Nat,k<n->∃s∈P,f s=k
section
variable {S:Type} {P:List S} {f g:S->Int} {n m:Nat}
theorem D2 (p0:S) (hf:Nj P f n) (hg:Nj P g m) (hr:∀s∈P,∀t∈P,g s=g t->f s=f t):∃r:Nat->S,(∀k,k<n->r k∈P/\f (r k)=k)/\((List.range n).map fun k=>g (r k)).Nodup/\∀x∈(List.range n).map fun k=>g (r k),x∈(List.range m).map (fun k:Nat=>(k:Int)):=by
 have hx:∀k:Nat,∃s,k<n->s∈P/\f s=k:=fun k=>by
  by_cases hk:k<n
  ·obtain ⟨s,h1,h2⟩:=hf.So k hk;exact ⟨s,fun _=>⟨h1,h2⟩⟩
  ·exact ⟨p0,fun h=>absurd h hk⟩
 refine ⟨fun k=>(hx k).choose,fun k hk=>(hx k).choose_spec hk,?_,fun x hxm=>?_⟩
 ·rw [List.nodup_iff_pairwise_ne, List.pairwise_map]
  refine List.Pairwise.imp_of_mem ?_ (List.nodup_range (n:=n))
  intro i j hi hj hne e
  obtain ⟨h1,h2⟩:=(hx i).choose_spec (List.mem_range.1 hi)
  obtain ⟨h3,h4⟩:=(hx j).choose_spec (List.mem_range.1 hj)
  have:=hr _ h1 _ h3 e
  rw [h2,h4] at this
  exact hne (by omega)
 ·obtain ⟨k, hk, rfl⟩ := List.mem_map.1 hxm
  obtain ⟨h1,h2⟩:=(hx k).choose_spec (List.mem_range.1 hk)
  obtain ⟨h3,h4⟩:=hg.cP _ h1
  exact List.mem_map.2 ⟨(g (hx k).choose).toNat,List.mem_range.2 (by rw [Int.toNat_lt h3];exact h4),Int.toNat_of_nonneg h3⟩
theorem PF (p0:S) (hf:Nj P f n) (hg:Nj P g m) (hr:∀s∈P,∀t∈P,g s=g t->f s=f t):n<=m:=by
 obtain ⟨r,_,h2,h3⟩:=D2 p0 hf hg hr
 simpa using kH h2 h3
theorem Zu (p0:S) (hf:Nj P f n) (hg:Nj P g n) (hr:∀s∈P,∀t∈P,g s=g t->f s=f t):∀s∈P,∀t∈P,f s=f t->g s=g t:=by
 obtain ⟨r,h1,h2,h3⟩:=D2 p0 hf hg hr
 have hc:=PD h2 h3 (by simp)
 have key:∀s∈P,∃k,k<n/\g s=g (r k)/\f s=k:=fun s hs=>by
  obtain ⟨q1,q2⟩:=hg.cP s hs
  obtain ⟨k,hk,e⟩:=List.mem_map.1 (hc (g s) (List.mem_map.2 ⟨(g s).toNat,List.mem_range.2 (by omega),by omega⟩))
  have hk:=List.mem_range.1 hk
  obtain ⟨r1,r2⟩:=h1 k hk
  exact ⟨k,hk,e.symm,by rw [<-r2];exact hr _ hs _ r1 e.symm⟩
 intro s hs t ht e
 obtain ⟨i,_,a1,a2⟩:=key s hs
 obtain ⟨j,_,b1,b2⟩:=key t ht
 have:i=j:=by rw [a2,b2] at e;omega
 subst this
 rw [a1,b1]
end
end Go.Rs
end
section
namespace Go.Rs
abbrev Lw:=List (List Int)×List Bool
def iL (l:Lw) (s c:Int):Int:=(l.1.getD s.toNat []).getD c.toNat 0
def dc (l:Lw):Sys Int:=⟨0,iL l,fun s=>l.2.getD s.toNat false⟩
structure Wf (l:Lw):Prop where
 pos:0<l.1.length
 len:l.2.length=l.1.length
 rows:∀r∈l.1,∃a b:Int,r=[a,b]/\(0<=a/\a<l.1.length)/\(0<=b/\b<l.1.length)
theorem Wf.nx {l:Lw} (h:Wf l) {s c:Int} (hs:0<=s/\s<l.1.length) (hc:c=0\/c=1):0<=iL l s c/\iL l s c<l.1.length:=by
 have hi:s.toNat<l.1.length:=by omega
 obtain ⟨a,b,e,h1,h2⟩:=h.rows _ (List.getElem_mem hi)
 have e':l.1.getD s.toNat []=[a,b]:=by rw [List.getD_eq_getElem?_getD,List.getElem?_eq_getElem hi];exact e
 unfold iL
 rw [e']
 rcases hc with rfl|rfl
 ·exact h1
 ·exact h2
theorem Wf.run {l:Lw} (h:Wf l) {ys:List Int} (hy:Ys ys):0<=(dc l).run ys/\(dc l).run ys<l.1.length :=
 Sys.IF (X:=dc l) (p:=fun s=>0<=s/\s<l.1.length) ⟨Int.le_refl _,by have:=h.pos;show (0:Int)<_;omega⟩ (fun s c hs hc=>h.nx hs hc) hy
def aE (g:Bool->Bool->Bool) (a b:Lw):Sys (Int×Int):=⟨(0,0),fun p c=>(iL a p.1 c,iL b p.2 c),fun p=>g (a.2.getD p.1.toNat false) (b.2.getD p.2.toNat false)⟩
theorem pq {g:Bool->Bool->Bool} {a b:Lw} (ys:List Int):(aE g a b).run ys=((dc a).run ys,(dc b).run ys):=by
 refine oG (p:=fun ys=>(aE g a b).run ys=((dc a).run ys,(dc b).run ys)) rfl (fun ys c ih=>?_) ys
 simp only [Sys.gK,ih];rfl
def pairs (a b:Lw):List (Int×Int):=(List.range a.1.length).flatMap fun i:Nat=>(List.range b.1.length).map fun j:Nat=>((i:Int),(j:Int))
theorem j6 {a b:Lw} {p:Int×Int}:p∈pairs a b↔(0<=p.1/\p.1<a.1.length)/\(0<=p.2/\p.2<b.1.length):=by
 unfold pairs
 simp only [List.mem_flatMap,List.mem_range,List.mem_map]
 constructor
 ·rintro ⟨i,hi,j,hj,rfl⟩;simp only;omega
 ·rintro ⟨⟨h1, h2⟩, h3, h4⟩
  exact ⟨p.1.toNat,by omega,p.2.toNat,by omega,by rw [Int.toNat_of_nonneg h1,Int.toNat_of_nonneg h3]⟩
theorem uh {a b:Lw}:(pairs a b).length=a.1.length * b.1.length:=by
 unfold pairs
 rw [List.length_flatMap]
 simp [List.map_const',List.sum_replicate_nat]
theorem xW {g:Bool->Bool->Bool} {a b:Lw} (ha:Wf a) (hb:Wf b) {p:Int×Int} (hp:p∈pairs a b) {c:Int} (hc:c=0\/c=1):(aE g a b).nx p c∈pairs a b:=by
 rw [j6] at hp ⊢
 exact ⟨ha.nx hp.1 hc,hb.nx hp.2 hc⟩
theorem xX {g:Bool->Bool->Bool} {a b:Lw} (ha:Wf a) (hb:Wf b):(aE g a b).st∈pairs a b:=by
 rw [j6]
 have:=ha.pos;have:=hb.pos
 exact ⟨⟨Int.le_refl _,by show (0:Int)<_;omega⟩,Int.le_refl _,by show (0:Int)<_;omega⟩
structure Fits {S:Type} (X:Sys S) (l:Lw):Prop where
 wf:Wf l
 lC:∀ys,Ys ys->(dc l).good ((dc l).run ys)=X.good (X.run ys)
 det:∀ys zs,Ys ys->Ys zs->X.run ys=X.run zs->(dc l).run ys=(dc l).run zs
 So:∀k:Nat,k<l.1.length->∃ys,Ys ys/\(dc l).run ys=k
def c8 (M:Sys Int) (P:List Int) (ix:Int->Int):Lw:=(P.map fun k=>[ix (M.nx k 0),ix (M.nx k 1)],P.map M.good)
section
variable {M:Sys Int} {U P:List Int} {ix:Int->Int}
theorem Zv (Nk:∀(i:Nat) (h:i<P.length),ix P[i]=i) {k c:Int} (hk:k∈P) (hc:c=0\/c=1):iL (c8 M P ix) (ix k) c=ix (M.nx k c):=by
 obtain ⟨i,hi,rfl⟩:=List.getElem_of_mem hk
 unfold iL c8
 rw [Nk i hi]
 simp only [Int.toNat_natCast,List.getD_eq_getElem?_getD,List.getElem?_map,List.getElem?_eq_getElem hi,Option.map_some,Option.getD_some]
 rcases hc with rfl|rfl<;>rfl
theorem PG (Nk:∀(i:Nat) (h:i<P.length),ix P[i]=i) {k:Int} (hk:k∈P):(dc (c8 M P ix)).good (ix k)=M.good k:=by
 obtain ⟨i,hi,rfl⟩:=List.getElem_of_mem hk
 unfold dc c8
 simp only
 rw [Nk i hi]
 simp only [Int.toNat_natCast,List.getD_eq_getElem?_getD,List.getElem?_map,List.getElem?_eq_getElem hi,Option.map_some,Option.getD_some]
theorem PI (Nk:∀(i:Nat) (h:i<P.length),ix P[i]=i) {k:Int} (hk:k∈P):0<=ix k/\ix k<P.length:=by
 obtain ⟨i,hi,rfl⟩:=List.getElem_of_mem hk
 rw [Nk i hi];omega
theorem PJ (hd:mM M U P) (Nk:∀(i:Nat) (h:i<P.length),ix P[i]=i):Fits M (c8 M P ix):=by
 have hlen:(c8 M P ix).1.length=P.length:=by simp [c8]
 have hrun:∀ys,Ys ys->(dc (c8 M P ix)).run ys=ix (M.run ys):=fun ys=>by
  refine oG (p:=fun ys=>Ys ys->(dc (c8 M P ix)).run ys=ix (M.run ys)) (fun _=>?_) (fun ys c ih h=>?_) ys
  ·have h0:=hd.first
   rw [List.head?_eq_getElem?] at h0
   obtain ⟨h1,h2⟩:=List.getElem?_eq_some_iff.1 h0
   show (0:Int)=ix M.st
   rw [<-h2,Nk 0 h1];rfl
  ·rw [Sys.gK, Sys.gK, ih h.init.1]
   exact Zv Nk (hd.vC h.init.1) h.init.2
 refine ⟨⟨?_,by simp [c8],fun r hr=>?_⟩,fun ys hy=>?_,fun ys zs hy hz e=>?_,fun k hk=>?_⟩
 ·rw [hlen];exact List.length_pos_of_mem hd.ug
 ·rw [hlen]
  obtain ⟨k,hk,rfl⟩:=List.mem_map.1 hr
  exact ⟨_,_,rfl,PI Nk (hd.closed k hk 0 (.inl rfl)),PI Nk (hd.closed k hk 1 (.inr rfl))⟩
 ·rw [hrun ys hy,PG Nk (hd.vC hy)]
 ·rw [hrun ys hy,hrun zs hz,e]
 ·rw [hlen] at hk
  obtain ⟨ys,hy,e⟩:=hd.reach _ (List.getElem_mem hk)
  exact ⟨ys,hy,by rw [hrun ys hy,e,Nk k hk]⟩
end
section
variable {S:Type} {X:Sys S} {U P:List S} {f:S->Int} {one:Int->S}
structure FN (X:Sys S) (P:List S) (f:S->Int):Prop where
 nx:∀s∈P,∀t∈P,f s=f t->∀c,c=0\/c=1->f (X.nx s c)=f (X.nx t c)
 gd:∀s∈P,∀t∈P,f s=f t->X.good s=X.good t
def mrg (X:Sys S) (f:S->Int) (one:Int->S):Sys Int:=⟨f X.st,fun k c=>f (X.nx (one k) c),fun k=>X.good (one k)⟩
theorem BO (hd:mM X U P) (hs:FN X P f) (ho:∀s∈P,one (f s)∈P/\f (one (f s))=f s):∀ys,Ys ys->(mrg X f one).run ys=f (X.run ys):=fun ys=>by
 refine oG (p:=fun ys=>Ys ys->(mrg X f one).run ys=f (X.run ys)) (fun _=>rfl) (fun ys c ih h=>?_) ys
 rw [Sys.gK,Sys.gK,ih h.init.1]
 have hm:=hd.vC h.init.1
 exact hs.nx _ (ho _ hm).1 _ hm (ho _ hm).2 c h.init.2
theorem D3 (hd:mM X U P) (hs:FN X P f) (ho:∀s∈P,one (f s)∈P/\f (one (f s))=f s) {l:Lw} (h:Fits (mrg X f one) l):Fits X l where
 wf:=h.wf
 lC ys hy:=by
  rw [h.lC ys hy,BO hd hs ho ys hy]
  have hm:=hd.vC hy
  exact hs.gd _ (ho _ hm).1 _ hm (ho _ hm).2
 det ys zs hy hz e:=h.det ys zs hy hz (by rw [BO hd hs ho ys hy,BO hd hs ho zs hz,e])
 So:=h.So
theorem PK {l : Lw} {τ : Type} (T : List Int → τ) {V : List τ} (hV : ∀ ys, Ys ys → T ys ∈ V) (hd : ∀ ys zs, Ys ys → Ys zs → T ys = T zs → (dc l).run ys = (dc l).run zs)
  (hs:∀k:Nat,k<l.1.length->∃ys,Ys ys/\(dc l).run ys=k):l.1.length<=V.length:=by
 have hx:∀k:Nat,∃ys,k<l.1.length->Ys ys/\(dc l).run ys=k:=fun k=>by
  by_cases hk:k<l.1.length
  ·obtain ⟨ys,h⟩:=hs k hk;exact ⟨ys,fun _=>h⟩
  ·exact ⟨[],fun h=>absurd h hk⟩
 have:=kH (l:=(List.range l.1.length).map fun k=>T (hx k).choose) (m:=V) ?_ fun x hm=>?_
 ·simpa using this
 ·rw [List.nodup_iff_pairwise_ne, List.pairwise_map]
  refine List.Pairwise.imp_of_mem ?_ (List.nodup_range (n:=l.1.length))
  intro i j hi hj hne e
  obtain ⟨h1,h2⟩:=(hx i).choose_spec (List.mem_range.1 hi)
  obtain ⟨h3,h4⟩:=(hx j).choose_spec (List.mem_range.1 hj)
  have:=hd _ _ h1 h3 e
  rw [h2,h4] at this
  exact hne (by omega)
 ·obtain ⟨k, hk, rfl⟩ := List.mem_map.1 hm
  exact hV _ ((hx k).choose_spec (List.mem_range.1 hk)).1
def Lr (X:Sys S) (f:S->Int) (s:S):Int×Int×Int:=(f s,f (X.nx s 0),f (X.nx s 1))
theorem II {g : S → Int} {n : Nat} (p0 : S) (rj : ∀ s ∈ P, ∀ c, c = 0 ∨ c = 1 → X.nx s c ∈ P) (hf : Nj P f n) (hg : Nj P g n) (hk : ∀ s ∈ P, ∀ t ∈ P, g s = g t ↔ Lr X f s = Lr X f t)
  (hgd:∀s∈P,∀t∈P,f s=f t->X.good s=X.good t):FN X P g:=by
 have hr:∀s∈P,∀t∈P,g s=g t->f s=f t:=fun s hs t ht e=>congrArg (·.1) ((hk s hs t ht).1 e)
 have he:=Zu p0 hf hg hr
 refine ⟨fun s hs t ht e c hc=>?_,fun s hs t ht e=>hgd s hs t ht (hr s hs t ht e)⟩
 have e2:=(hk s hs t ht).1 e
 unfold Lr at e2
 simp only [Prod.mk.injEq] at e2
 refine he _ (rj s hs c hc) _ (rj t ht c hc) ?_
 rcases hc with rfl|rfl
 ·exact e2.2.1
 ·exact e2.2.2
end
end Go.Rs
end
section
namespace Go.AM
section
variable {t:Ty} {β:Type} {es:List (t.den×β)} {x y:t.den} {v d:β}
theorem qL (hr:∀z:t.den,fO t z z=true):bT t es x=true↔∃v,(x,v)∈es:=by
 unfold bT
 rw [List.any_eq_true]
 constructor
 ·rintro ⟨e,he,hx⟩;rw [di hx];exact ⟨e.2,he⟩
 ·rintro ⟨v,hv⟩;exact ⟨_,hv,hr x⟩
theorem uj (hr:∀z:t.den,fO t z z=true) {e:t.den×β}:e∈bh t es x v↔e=(x,v)\/(e∈es/\e.1≠x):=by
 unfold bh
 split
 ·rename_i hh
  obtain ⟨u,hu⟩:=(qL hr).1 hh
  rw [List.mem_map]
  constructor
  ·rintro ⟨e', he', rfl⟩
   split
   ·exact .inl rfl
   ·rename_i hne;exact .inr ⟨he',fun e=>hne (by rw [e];exact hr x)⟩
  ·rintro (rfl | ⟨he, hne⟩)
   ·exact ⟨(x,u),hu,by simp [hr]⟩
   ·exact ⟨e,he,by rw [if_neg];intro h;exact hne (di h).symm⟩
 ·rename_i hh
  rw [mc.mem_iff,List.mem_cons]
  constructor
  ·rintro (h | h)
   ·exact .inl h
   ·refine .inr ⟨h, fun e' => hh ?_⟩
    rw [<-e'];exact (qL hr).2 ⟨_,h⟩
  ·rintro (h | h)
   ·exact .inl h
   ·exact .inr h.1
theorem ny (hr:∀z:t.den,fO t z z=true) (h:KD t es):aN t d (bh t es x v) y=if fO t y x=true then v else aN t d es y:=by
 have hc:=KD.fM (x:=x) (v:=v) h
 split
 ·rename_i e
  exact kY hc ((uj hr).2 (.inl rfl)) e
 ·rename_i e0
  have e:y≠x:=fun h=>e0 (by rw [h];exact hr x)
  cases hm:bT t es y with
  |true =>
   obtain ⟨u,hu⟩:=(qL hr).1 hm
   rw [kY h hu (hr y)]
   exact kY hc ((uj hr).2 (.inr ⟨hu,e⟩)) (hr y)
  |false =>
   rw [jX hm,jX]
   cases hm':bT t (bh t es x v) y with
   |false=>rfl
   |true =>
    obtain ⟨u,hu⟩:=(qL hr).1 hm'
    rcases (uj hr).1 hu with e'|⟨h',_⟩
    ·cases e';exact absurd rfl e
    ·rw [(qL hr).2 ⟨u,h'⟩] at hm;cases hm
theorem IJ (hr:∀z:t.den,fO t z z=true):bT t (bh t es x v) y=(fO t y x||bT t es y):=by
 have hi:fO t y x=true↔y=x:=⟨di,fun h=>by subst h;exact hr _⟩
 rw [Bool.eq_iff_iff,qL hr,Bool.or_eq_true,hi,qL hr]
 constructor
 ·rintro ⟨u, hu⟩
  rcases (uj hr).1 hu with e|⟨h',_⟩
  ·cases e;exact .inl rfl
  ·exact .inr ⟨u,h'⟩
 ·by_cases e : y = x
  ·subst e;exact fun _=>⟨v,(uj hr).2 (.inl rfl)⟩
  ·rintro (h' | ⟨u, hu⟩)
   ·exact absurd h' e
   ·exact ⟨u,(uj hr).2 (.inr ⟨hu,e⟩)⟩
theorem Zw (hm:bT t es x=false):(bh t es x v).length=es.length+1:=by
 have:=(rH (v:=v) hm).length_eq
 simpa using this.symm
theorem jc:KD (β:=β) t []:=List.Pairwise.nil
end
@[reducible] def tP:Ty:=.prod (.int .i64) (.int .i64)
@[reducible] def tK:Ty:=.prod (.int .i64) (.prod (.int .i64) (.prod (.int .i64) (.prod (.int .i64) (.int .i64))))
theorem D4 (z:(Ty.int .i64).den):fO (.int .i64) z z=true:=by simp [fO]
theorem BQ (z:tP.den):fO tP z z=true:=by simp [fO]
theorem PL (z:tK.den):fO tK z z=true:=by simp [fO]
theorem T5 {a b:Int×Int}:(fO tP a b=true)↔a=b:=⟨di,fun h=>by subst h;exact BQ _⟩
theorem deqK {a b:Int×Int×Int×Int×Int}:(fO tK a b=true)↔a=b:=⟨di,fun h=>by subst h;exact PL _⟩
end Go.AM
end
