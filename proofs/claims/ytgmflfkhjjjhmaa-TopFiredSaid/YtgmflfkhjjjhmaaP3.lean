/- Tools for laws: rounds that count, find or keep something; needs. Rounds over a list, with a function that says what comes out. Plain Lean. Sorting by insertion, as rounds. Plain Lean. -/
import Derived.Test.YtgmflfkhjjjhmaaAMd
set_option linter.unusedSectionVars false
set_option linter.unusedVariables false
set_option linter.unusedSimpArgs false
section
namespace Go.AM
theorem k9:bU=1073741824:=by decide
theorem ld {α β γ : Type} {step : α → Option (α ⊕ β)} (n : Nat) (g : Nat → α) (stop : Nat → Option γ) (inj : γ → β) {b : β}
  (hr:∀k,k<n->(∀j,j<k->stop j=none)->step (g k)=match stop k with|none=>some (.inl (g (k+1)))|some c=>some (.inr (inj c))) (he:(∀j,j<n->stop j=none)->step (g n)=some (.inr b)) :
  iter step (g 0)=some (((List.range n).findSome? stop).elim b inj):=by
 have key:∀m k,k+m=n->(∀j,j<k->stop j=none)->iter step (g k)=some (((List.range' k m).findSome? stop).elim b inj):=by
  intro m
  induction m with
  |zero =>
   intro k hk hs
   have:k=n:=by omega
   subst this
   simpa using bn (he hs)
  |succ m ih =>
   intro k hk hs0
   have h:=hr k (by omega) hs0
   rw [List.range'_succ,List.findSome?_cons]
   cases hs:stop k with
   |none =>
    rw [hs] at h
    refine aE h (ih (k+1) (by omega) fun j hj=>?_)
    by_cases e:j=k
    ·rw [e,hs]
    ·exact hs0 j (by omega)
   |some c=>rw [hs] at h;exact bn h
 rw [List.range_eq_range']
 exact key n 0 (by omega) (fun j hj=>by omega)
theorem fk {α β : Type} {step : α → Option (α ⊕ β)} (n : Nat) (I : Nat → α → Prop) (Q : β → Prop) (hr : ∀ k x, k < n → I k x → ∃ y, step x = some (.inl y) ∧ I (k + 1) y) (he : ∀ x, I n x → ∃ b, step x = some (.inr b) ∧ Q b)
  {x:α} (h0:I 0 x):∃b,iter step x=some b/\Q b:=by
 have key:∀m k x,k+m=n->I k x->∃b,iter step x=some b/\Q b:=by
  intro m
  induction m with
  |zero =>
   intro k x hk hx
   have:k=n:=by omega
   subst this
   obtain ⟨b,h1,h2⟩:=he x hx
   exact ⟨b,bn h1,h2⟩
  |succ m ih =>
   intro k x hk hx
   obtain ⟨y,h1,h2⟩:=hr k x (by omega) hx
   obtain ⟨b,h3,h4⟩:=ih (k+1) y (by omega) h2
   exact ⟨b,aE h1 h3,h4⟩
 exact key n 0 x (by omega) h0
theorem DW {α β γ σ : Type} {step : α → Option (α ⊕ β)} (l : List γ) (d : γ) (f : σ → γ → σ) (g : Nat → σ → α) (s0 : σ) (I : σ → Prop) {out : σ → β} (h0 : I s0)
  (hr:∀k s,k<l.length->I s->I (f s (l.getD k d))/\step (g k s)=some (.inl (g (k+1) (f s (l.getD k d))))) (he:∀s,I s->step (g l.length s)=some (.inr (out s))) :
  iter step (g 0 s0)=some (out (l.foldl f s0))/\I (l.foldl f s0):=by
 have key:∀m k s,k+m=l.length->I s->iter step (g k s)=some (out ((l.drop k).foldl f s))/\I ((l.drop k).foldl f s):=by
  intro m
  induction m with
  |zero =>
   intro k s hk hs
   rw [show k=l.length by omega,List.drop_length]
   exact ⟨bn (he s hs),hs⟩
  |succ m ih =>
   intro k s hk hs
   obtain ⟨h1,h2⟩:=hr k s (by omega) hs
   obtain ⟨h3,h4⟩:=ih (k+1) _ (by omega) h1
   have e:l.drop k=l.getD k d::l.drop (k+1):=by
    rw [List.drop_eq_getElem_cons (by omega)];simp [List.getD_eq_getElem?_getD,List.getElem?_eq_getElem (show k<l.length by omega)]
   rw [e,List.foldl_cons]
   exact ⟨aE h2 h3,h4⟩
 have:=key l.length 0 s0 (by omega) h0
 simpa using this
theorem cB {α:Type} {l:List α} {k:Nat} {d:α} (h:k<l.length):l.getD k d∈l:=by
 simp [List.getD_eq_getElem?_getD,List.getElem?_eq_getElem h]
theorem kL {α:Type} {l:List α} {k:Nat} (d:α) (h:k<l.length):l.take (k+1)=l.take k++[l.getD k d]:=by
 rw [List.take_succ_eq_append_getElem h];simp [List.getD_eq_getElem?_getD,List.getElem?_eq_getElem h]
theorem iz {α:Type} {l:List α} {k:Nat} (d:α) (h:k<l.length):l.getD k d=l[k]:=by
 simp [List.getD_eq_getElem?_getD,List.getElem?_eq_getElem h]
theorem gT {α:Type} {l:List α} {k:Nat} (d:α) (h:l.length<=k):l.getD k d=d:=by
 simp [List.getD_eq_getElem?_getD,List.getElem?_eq_none h]
end Go.AM
end
section
namespace Go.AM
theorem dQ {α:Type} {A B:List α} {x d:α} {n:Nat} (h:n=A.length):(A++x::B).getD n d=x:=by
 subst h;simp [List.getD_eq_getElem?_getD]
theorem lf {α:Type} {A B:List α} {x y:α} {n:Nat} (h:n=A.length):(A++x::B).set n y=A++y::B:=by
 subst h;simp [List.set_append]
theorem lp {A B S X : Type} {f : A → Option (A ⊕ B)} (xs : List X) (mk : Nat → S → A) (G : S → List X → B) (Inv : List X → S → Prop)
  (hs:∀pre x post s,xs=pre++x::post->Inv pre s ->
   (∃s',f (mk pre.length s)=some (.inl (mk (pre.length+1) s'))/\Inv (pre++[x]) s'/\G s (x::post)=G s' post)\/f (mk pre.length s)=some (.inr (G s (x::post))))
  (he:∀s,Inv xs s->f (mk xs.length s)=some (.inr (G s []))) {s:S} (h0:Inv [] s):iter f (mk 0 s)=some (G s xs):=by
 have key:∀(post pre:List X) (s:S),xs=pre++post->Inv pre s->iter f (mk pre.length s)=some (G s post):=by
  intro post
  induction post with
  |nil =>
   intro pre s hx hi
   have:pre=xs:=by rw [hx];simp
   subst this
   exact bn (he s hi)
  |cons x post ih =>
   intro pre s hx hi
   rcases hs pre x post s hx hi with ⟨s',h1,h2,h3⟩|h1
   ·refine aE h1 ?_
    rw [h3]
    have:=ih (pre++[x]) s' (by rw [hx];simp) h2
    simpa using this
   ·exact bn h1
 exact key xs [] s (by simp) h0
theorem bind_eq {A X:Type} {o:Option A} {a:A} {f:A->Option X} {y:Option X} (h:o=some a) (e:f a=y):cz o f=y:=by rw [h,aP,e]
theorem nv:((bU:Nat):Int)=1073741824:=by decide
theorem sv {X:Type} {i:Int} {x:Option X} (h:0<=i) (h2:i<1073741824):need (cR i ((bU:Nat):Int)) x=x:=dP h (by rw [nv];exact h2)
theorem kM {X:Type} {n:Nat} {x:Option X} (h:n<1000000000):need (decide (n<bU)) x=x:=fh (by have:=nv;omega)
theorem cu {X:Type} {x y:Option X}:jN true x y=x:=by simp
theorem aY {X:Type} {x y:Option X}:jN false x y=y:=by simp
end Go.AM
end
section
namespace Go.AM
variable {α:Type}
def fX (lt : α → α → Bool) (x : α) : List α → List α
 |[]=>[x]
 |y::R=>if lt x y=true then y::fX lt x R else x::y::R
def jQ (lt:α->α->Bool) (R:List α) (l:List α):List α:=l.foldl (fun R x=>fX lt x R) R
def bP (lt:α->α->Bool) (l:List α):List α:=(jQ lt [] l).reverse
variable {lt:α->α->Bool}
theorem fJ (x : α) : ∀ R : List α, (fX lt x R).Perm (x :: R)
 |[]=>.refl _
 |y::R=>by
  unfold fX;split
  ·exact ((fJ x R).cons y).trans (.swap ..)
  ·exact .refl _
theorem sw : ∀ (l R : List α), (jQ lt R l).Perm (l ++ R)
 |[],_=>.refl _
 |x::l,R=>by
  have h1:=sw l (fX lt x R)
  have h2:(l++fX lt x R).Perm (x::(l++R)):=((List.Perm.append_left l (fJ x R))).trans List.perm_middle
  exact h1.trans h2
theorem fK (l:List α):(bP lt l).Perm l:=by
 have:=sw (lt:=lt) l []
 rw [List.append_nil] at this
 exact (List.reverse_perm _).trans this
theorem fl (l:List α):(bP lt l).length=l.length:=(fK l).length_eq
structure yI (lt:α->α->Bool) (Good:α->Prop):Prop where
 PJ:∀a b,Good a->Good b->lt a b=true->lt b a=false
 Zy:∀a b c,Good a->Good b->Good c->lt a b=false->lt b c=false->lt a c=false
variable {Good:α->Prop}
theorem pI (h : yI lt Good) {x : α} (hx : Good x) : ∀ {R : List α}, (∀ y ∈ R, Good y) → R.Pairwise (fun a b => lt a b = false) → (fX lt x R).Pairwise (fun a b => lt a b = false)
 |[],_,_=>by simp [fX]
 |y::R,hg,hp=>by
  have hy:=hg y (List.mem_cons_self ..)
  have hg':∀z∈R,Good z:=fun z hz=>hg z (List.mem_cons_of_mem _ hz)
  rw [List.pairwise_cons] at hp
  unfold fX;split
  ·rename_i hl
   rw [List.pairwise_cons]
   refine ⟨fun z hz=>?_,pI h hx hg' hp.2⟩
   rcases List.mem_cons.1 ((fJ x R).mem_iff.1 hz) with rfl|hz
   ·exact h.PJ _ _ hx hy hl
   ·exact hp.1 z hz
  ·rename_i hl
   have hl:lt x y=false:=by simpa using hl
   rw [List.pairwise_cons,List.pairwise_cons]
   refine ⟨fun z hz=>?_,hp⟩
   rcases List.mem_cons.1 hz with rfl|hz
   ·exact hl
   ·exact h.Zy _ _ _ hx hy (hg' z hz) hl (hp.1 z hz)
theorem nw (h : yI lt Good) : ∀ {l R : List α}, (∀ y ∈ l, Good y) → (∀ y ∈ R, Good y) → R.Pairwise (fun a b => lt a b = false) → (jQ lt R l).Pairwise (fun a b => lt a b = false)
 |[],_,_,_,hp=>hp
 |x::l,R,hl,hR,hp=>by
  have hx:=hl x (List.mem_cons_self ..)
  refine nw (l:=l) (R:=fX lt x R) h (fun y hy=>hl y (List.mem_cons_of_mem _ hy)) (fun y hy=>?_) (pI h hx hR hp)
  rcases List.mem_cons.1 ((fJ x R).mem_iff.1 hy) with rfl|hy
  ·exact hx
  ·exact hR y hy
theorem nA (h:yI lt Good) {l:List α} (hl:∀y∈l,Good y):(bP lt l).Pairwise (fun a b=>lt b a=false):=by
 unfold bP
 rw [List.pairwise_reverse]
 exact nw h hl (fun y hy=>by cases hy) List.Pairwise.nil
theorem oD {A B : Type} {f : A → Option (A ⊕ B)} {n : Nat} (mk : Nat → List α → A) (out : List α → B)
  (hs:∀L y x Q,(∀z∈L++y::x::Q,Good z)->L.length+2+Q.length=n->f (mk (L.length+1) (L++y::x::Q))=if lt x y=true then some (.inl (mk L.length (L++x::y::Q))) else some (.inr (out (L++y::x::Q))))
  (hz:∀l,f (mk 0 l)=some (.inr (out l))):∀(R:List α) (x:α) (Q:List α),(∀z∈R++x::Q,Good z)->R.length+1+Q.length=n->iter f (mk R.length (R.reverse++x::Q))=some (out ((fX lt x R).reverse++Q))
 |[],x,Q,_,_=>by simpa [fX] using bn (hz (x::Q))
 |y::R,x,Q,hg,hn=>by
  have e:(y::R).reverse++x::Q=R.reverse++y::x::Q:=by simp
  have h1 := hs R.reverse y x Q (fun z hz => hg z (by
   simp at hz ⊢
   rcases hz with h|h|h|h
   ·exact .inr (.inl h)
   ·exact .inl h
   ·exact .inr (.inr (.inl h))
   ·exact .inr (.inr (.inr h)))) (by simp at hn ⊢;omega)
  rw [List.length_reverse] at h1
  rw [e,List.length_cons]
  unfold fX
  by_cases hl:lt x y=true
  ·rw [if_pos hl] at h1
   rw [if_pos hl]
   refine aE h1 ?_
   have := oD mk out hs hz R x (y :: Q) (fun z hz => hg z (by
    simp at hz ⊢
    rcases hz with h|h|h|h
    ·exact .inr (.inl h)
    ·exact .inr (.inr (.inl h))
    ·exact .inl h
    ·exact .inr (.inr (.inr h)))) (by simp at hn ⊢;omega)
   simpa using this
  ·rw [if_neg hl] at h1
   rw [if_neg hl]
   refine bn ?_
   rw [h1];simp
theorem uJ {A B : Type} {f : A → Option (A ⊕ B)} {n : Nat} (mk : Nat → List α → A) (out : List α → B)
  (hs:∀(R:List α) x Q,0<R.length->(∀z∈R++x::Q,Good z)->R.length+1+Q.length=n->f (mk R.length (R.reverse++x::Q))=some (.inl (mk (R.length+1) ((fX lt x R).reverse++Q))))
  (he:∀k l,n<=k->f (mk k l)=some (.inr (out l))) {l:List α} (hg:∀z∈l,Good z) (hn:l.length=n):iter f (mk 1 l)=some (out (bP lt l)):=by
 have key:∀(Q R:List α),0<R.length->(∀z∈R++Q,Good z)->R.length+Q.length=n->iter f (mk R.length (R.reverse++Q))=some (out (jQ lt R Q).reverse):=by
  intro Q
  induction Q with
  |nil =>
   intro R hR hg hn
   rw [List.append_nil]
   exact bn (he _ _ (by simp at hn;omega))
  |cons x Q ih =>
   intro R hR hg hn
   refine aE (hs R x Q hR hg (by simp at hn;omega)) ?_
   have hlen:(fX lt x R).length=R.length+1:=(fJ x R).length_eq
   have := ih (fX lt x R) (by omega) (fun z hz => hg z (by
    rcases List.mem_append.1 hz with hz|hz
    ·rcases List.mem_cons.1 ((fJ x R).mem_iff.1 hz) with rfl | hz
     ·simp
     ·simp [hz]
    ·simp [hz])) (by simp at hn;omega)
   rw [hlen] at this
   exact this
 cases l with
 |nil=>exact bn (he 1 [] (by simp at hn;omega))
 |cons x Q=>exact key Q [x] (by simp) hg (by simp at hn ⊢;omega)
end Go.AM
end
