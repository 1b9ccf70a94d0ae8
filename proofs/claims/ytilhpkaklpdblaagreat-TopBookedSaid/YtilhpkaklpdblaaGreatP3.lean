/- Tools for laws: rounds that count, find or keep something; needs. Rounds over a list, with a function that says what comes out. Plain Lean. Sorting by insertion, as rounds. Plain Lean. The order of strings. Plain Lean. DERIVED: THE SHELF's CONTRACTS AT THIS DUMP, IN PLAIN WORDS (tools/lay-plain.mjs out of 'TryzShelfB.lean', which tools/lay-shelf.mjs wrote): THE SAME DECLARATIONS UNDER THE SAME NAMES: 'import', 'namespace', 'open', 'def', 'theorem' AND NOTHING ELSE: no command of the shelf's: FOR A HAND-IN. Each laying: the table of numbers ('.._ren') and one theorem, a field a fact of the dump's own or the kernel's comparison; each contract: ONE APPLICATION. -/
import Derived.Test.YtilhpkaklpdblaaGreatAMf
import Derived.Shelf.SlGeneric
import Derived.Ground.NamesProg
import Derived.Ground.SlmcProg
import Derived.Ground.SlsfProg
import Derived.Shelf.Sort.Plain
import Derived.Shelf.SlMaps.Clone
import Derived.Shelf.SlSortCmp.WholeK
import Derived.Test.YtilhpkaklpdblaaGreatProg
set_option linter.unusedSectionVars false
set_option linter.unusedVariables false
set_option linter.unusedSimpArgs false
section
namespace Go.AM
theorem qm:cn=1073741824:=by decide
theorem adT {α β γ : Type} {step : α → Option (α ⊕ β)} (n : Nat) (g : Nat → α) (stop : Nat → Option γ) (inj : γ → β) {b : β}
  (hr:∀k,k<n->(∀j,j<k->stop j=none)->step (g k)=match stop k with|none=>some (.inl (g (k+1)))|some c=>some (.inr (inj c))) (he:(∀j,j<n->stop j=none)->step (g n)=some (.inr b)) :
  iter step (g 0)=some (((List.range n).findSome? stop).elim b inj):=by
 have key:∀m k,k+m=n->(∀j,j<k->stop j=none)->iter step (g k)=some (((List.range' k m).findSome? stop).elim b inj):=by
  intro m
  induction m with
  |zero =>
   intro k hk hs
   have:k=n:=by omega
   subst this
   simpa using cA (he hs)
  |succ m ih =>
   intro k hk hs0
   have h:=hr k (by omega) hs0
   rw [List.range'_succ,List.findSome?_cons]
   cases hs:stop k with
   |none =>
    rw [hs] at h
    refine cI h (ih (k+1) (by omega) fun j hj=>?_)
    by_cases e:j=k
    ·rw [e,hs]
    ·exact hs0 j (by omega)
   |some c=>rw [hs] at h;exact cA h
 rw [List.range_eq_range']
 exact key n 0 (by omega) (fun j hj=>by omega)
theorem Dm {α β : Type} {step : α → Option (α ⊕ β)} (n : Nat) (I : Nat → α → Prop) (Q : β → Prop) (hr : ∀ k x, k < n → I k x → ∃ y, step x = some (.inl y) ∧ I (k + 1) y) (he : ∀ x, I n x → ∃ b, step x = some (.inr b) ∧ Q b)
  {x:α} (h0:I 0 x):∃b,iter step x=some b/\Q b:=by
 have key:∀m k x,k+m=n->I k x->∃b,iter step x=some b/\Q b:=by
  intro m
  induction m with
  |zero =>
   intro k x hk hx
   have:k=n:=by omega
   subst this
   obtain ⟨b,h1,h2⟩:=he x hx
   exact ⟨b,cA h1,h2⟩
  |succ m ih =>
   intro k x hk hx
   obtain ⟨y,h1,h2⟩:=hr k x (by omega) hx
   obtain ⟨b,h3,h4⟩:=ih (k+1) y (by omega) h2
   exact ⟨b,cI h1 h3,h4⟩
 exact key n 0 x (by omega) h0
theorem getD_take {α:Type} {l:List α} {k n:Nat} {d:α} (h:k<n):(l.take n).getD k d=l.getD k d:=by
 simp [List.getD_eq_getElem?_getD,List.getElem?_take,h]
end Go.AM
end
section
namespace Go.AM
theorem bg {α:Type} {A B:List α} {x d:α} {n:Nat} (h:n=A.length):(A++x::B).getD n d=x:=by
 subst h;simp [List.getD_eq_getElem?_getD]
theorem xq {α:Type} {A B:List α} {x y:α} {n:Nat} (h:n=A.length):(A++x::B).set n y=A++y::B:=by
 subst h;simp [List.set_append]
theorem aZ {A B S X : Type} {f : A → Option (A ⊕ B)} (xs : List X) (mk : Nat → S → A) (G : S → List X → B) (Inv : List X → S → Prop)
  (hs:∀pre x post s,xs=pre++x::post->Inv pre s ->
   (∃s',f (mk pre.length s)=some (.inl (mk (pre.length+1) s'))/\Inv (pre++[x]) s'/\G s (x::post)=G s' post)\/f (mk pre.length s)=some (.inr (G s (x::post))))
  (he:∀s,Inv xs s->f (mk xs.length s)=some (.inr (G s []))) {s:S} (h0:Inv [] s):iter f (mk 0 s)=some (G s xs):=by
 have key:∀(post pre:List X) (s:S),xs=pre++post->Inv pre s->iter f (mk pre.length s)=some (G s post):=by
  intro post
  induction post with
  |nil =>
   intro pre s hx hi
   have:pre=xs:=by rw [hx];simp
   subst this
   exact cA (he s hi)
  |cons x post ih =>
   intro pre s hx hi
   rcases hs pre x post s hx hi with ⟨s',h1,h2,h3⟩|h1
   ·refine cI h1 ?_
    rw [h3]
    have:=ih (pre++[x]) s' (by rw [hx];simp) h2
    simpa using this
   ·exact cA h1
 exact key xs [] s (by simp) h0
theorem bind_eq {A X:Type} {o:Option A} {a:A} {f:A->Option X} {y:Option X} (h:o=some a) (e:f a=y):dF o f=y:=by rw [h,aH,e]
theorem o9:((cn:Nat):Int)=1073741824:=by decide
theorem rT {X:Type} {i:Int} {x:Option X} (h:0<=i) (h2:i<1073741824):need (eA i ((cn:Nat):Int)) x=x:=fI h (by rw [o9];exact h2)
theorem pe {X:Type} {n:Nat} {x:Option X} (h:n<1000000000):need (decide (n<cn)) x=x:=aI (by have:=o9;omega)
theorem Kr {X:Type} {x y:Option X}:rM true x y=x:=by simp
theorem pg {X:Type} {x y:Option X}:rM false x y=y:=by simp
theorem tA {X:Type} {c:Bool} {x y:Option X}:rM c x y=if c=true then x else y:=by cases c<;>simp
end Go.AM
end
section
namespace Go.AM
variable {α:Type}
def qw (lt : α → α → Bool) (x : α) : List α → List α
 |[]=>[x]
 |y::R=>if lt x y=true then y::qw lt x R else x::y::R
def Ks (lt:α->α->Bool) (R:List α) (l:List α):List α:=l.foldl (fun R x=>qw lt x R) R
def nk (lt:α->α->Bool) (l:List α):List α:=(Ks lt [] l).reverse
variable {lt:α->α->Bool}
theorem ku (x : α) : ∀ R : List α, (qw lt x R).Perm (x :: R)
 |[]=>.refl _
 |y::R=>by
  unfold qw;split
  ·exact ((ku x R).cons y).trans (.swap ..)
  ·exact .refl _
theorem zn : ∀ (l R : List α), (Ks lt R l).Perm (l ++ R)
 |[],_=>.refl _
 |x::l,R=>by
  have h1:=zn l (qw lt x R)
  have h2:(l++qw lt x R).Perm (x::(l++R)):=((List.Perm.append_left l (ku x R))).trans List.perm_middle
  exact h1.trans h2
theorem iO (l:List α):(nk lt l).Perm l:=by
 have:=zn (lt:=lt) l []
 rw [List.append_nil] at this
 exact (List.reverse_perm _).trans this
theorem tC (l:List α):(nk lt l).length=l.length:=(iO l).length_eq
structure BM (lt:α->α->Bool) (Good:α->Prop):Prop where
 asym:∀a b,Good a->Good b->lt a b=true->lt b a=false
 ntr:∀a b c,Good a->Good b->Good c->lt a b=false->lt b c=false->lt a c=false
variable {Good:α->Prop}
theorem vZ (h : BM lt Good) {x : α} (hx : Good x) : ∀ {R : List α}, (∀ y ∈ R, Good y) → R.Pairwise (fun a b => lt a b = false) → (qw lt x R).Pairwise (fun a b => lt a b = false)
 |[],_,_=>by simp [qw]
 |y::R,hg,hp=>by
  have hy:=hg y (List.mem_cons_self ..)
  have hg':∀z∈R,Good z:=fun z hz=>hg z (List.mem_cons_of_mem _ hz)
  rw [List.pairwise_cons] at hp
  unfold qw;split
  ·rename_i hl
   rw [List.pairwise_cons]
   refine ⟨fun z hz=>?_,vZ h hx hg' hp.2⟩
   rcases List.mem_cons.1 ((ku x R).mem_iff.1 hz) with rfl|hz
   ·exact h.asym _ _ hx hy hl
   ·exact hp.1 z hz
  ·rename_i hl
   have hl:lt x y=false:=by simpa using hl
   rw [List.pairwise_cons,List.pairwise_cons]
   refine ⟨fun z hz=>?_,hp⟩
   rcases List.mem_cons.1 hz with rfl|hz
   ·exact hl
   ·exact h.ntr _ _ _ hx hy (hg' z hz) hl (hp.1 z hz)
theorem tD (h : BM lt Good) : ∀ {l R : List α}, (∀ y ∈ l, Good y) → (∀ y ∈ R, Good y) → R.Pairwise (fun a b => lt a b = false) → (Ks lt R l).Pairwise (fun a b => lt a b = false)
 |[],_,_,_,hp=>hp
 |x::l,R,hl,hR,hp=>by
  have hx:=hl x (List.mem_cons_self ..)
  refine tD (l:=l) (R:=qw lt x R) h (fun y hy=>hl y (List.mem_cons_of_mem _ hy)) (fun y hy=>?_) (vZ h hx hR hp)
  rcases List.mem_cons.1 ((ku x R).mem_iff.1 hy) with rfl|hy
  ·exact hx
  ·exact hR y hy
theorem tE (h:BM lt Good) {l:List α} (hl:∀y∈l,Good y):(nk lt l).Pairwise (fun a b=>lt b a=false):=by
 unfold nk
 rw [List.pairwise_reverse]
 exact tD h hl (fun y hy=>by cases hy) List.Pairwise.nil
theorem u7 {A B : Type} {f : A → Option (A ⊕ B)} {n : Nat} (mk : Nat → List α → A) (out : List α → B)
  (hs:∀L y x Q,(∀z∈L++y::x::Q,Good z)->L.length+2+Q.length=n->f (mk (L.length+1) (L++y::x::Q))=if lt x y=true then some (.inl (mk L.length (L++x::y::Q))) else some (.inr (out (L++y::x::Q))))
  (hz:∀l,f (mk 0 l)=some (.inr (out l))):∀(R:List α) (x:α) (Q:List α),(∀z∈R++x::Q,Good z)->R.length+1+Q.length=n->iter f (mk R.length (R.reverse++x::Q))=some (out ((qw lt x R).reverse++Q))
 |[],x,Q,_,_=>by simpa [qw] using cA (hz (x::Q))
 |y::R,x,Q,hg,hn=>by
  have e:(y::R).reverse++x::Q=R.reverse++y::x::Q:=by simp
  have h1 := hs R.reverse y x Q (fun z hz => hg z (by
   simp at hz ⊢
   rcases hz with h|h|h|h
   ·exact .inr (.inl h)
   ·exact .inl h
   ·exact .inr (.inr (.inl h))
   ·exact .inr (.inr (.inr h)))) (by simp at hn ⊢;omega)
  rw [List.length_reverse] at h1
  rw [e,List.length_cons]
  unfold qw
  by_cases hl:lt x y=true
  ·rw [if_pos hl] at h1
   rw [if_pos hl]
   refine cI h1 ?_
   have := u7 mk out hs hz R x (y :: Q) (fun z hz => hg z (by
    simp at hz ⊢
    rcases hz with h|h|h|h
    ·exact .inr (.inl h)
    ·exact .inr (.inr (.inl h))
    ·exact .inl h
    ·exact .inr (.inr (.inr h)))) (by simp at hn ⊢;omega)
   simpa using this
  ·rw [if_neg hl] at h1
   rw [if_neg hl]
   refine cA ?_
   rw [h1];simp
theorem BN {A B : Type} {f : A → Option (A ⊕ B)} {n : Nat} (mk : Nat → List α → A) (out : List α → B)
  (hs:∀(R:List α) x Q,0<R.length->(∀z∈R++x::Q,Good z)->R.length+1+Q.length=n->f (mk R.length (R.reverse++x::Q))=some (.inl (mk (R.length+1) ((qw lt x R).reverse++Q))))
  (he:∀k l,n<=k->f (mk k l)=some (.inr (out l))) {l:List α} (hg:∀z∈l,Good z) (hn:l.length=n):iter f (mk 1 l)=some (out (nk lt l)):=by
 have key:∀(Q R:List α),0<R.length->(∀z∈R++Q,Good z)->R.length+Q.length=n->iter f (mk R.length (R.reverse++Q))=some (out (Ks lt R Q).reverse):=by
  intro Q
  induction Q with
  |nil =>
   intro R hR hg hn
   rw [List.append_nil]
   exact cA (he _ _ (by simp at hn;omega))
  |cons x Q ih =>
   intro R hR hg hn
   refine cI (hs R x Q hR hg (by simp at hn;omega)) ?_
   have hlen:(qw lt x R).length=R.length+1:=(ku x R).length_eq
   have := ih (qw lt x R) (by omega) (fun z hz => hg z (by
    rcases List.mem_append.1 hz with hz|hz
    ·rcases List.mem_cons.1 ((ku x R).mem_iff.1 hz) with rfl | hz
     ·simp
     ·simp [hz]
    ·simp [hz])) (by simp at hn;omega)
   rw [hlen] at this
   exact this
 cases l with
 |nil=>exact cA (he 1 [] (by simp at hn;omega))
 |cons x Q=>exact key Q [x] (by simp) hg (by simp at hn ⊢;omega)
end Go.AM
end
section
namespace Go.AM
theorem Dn (a b:UInt8) (x y:List UInt8):Op.bytesLess (a::x) (b::y)=true↔a.toNat<b.toNat\/(a.toNat=b.toNat/\Op.bytesLess x y=true):=by
 simp only [Op.bytesLess,Bool.or_eq_true,decide_eq_true_eq,Bool.and_eq_true,beq_iff_eq,UInt8.lt_iff_toNat_lt,<-UInt8.toNat_inj]
theorem Kt : ∀ {x y : List UInt8}, Op.bytesLess x y = true → Op.bytesLess y x = true → False
 |_,[],h,_=>by simp [Op.bytesLess] at h
 |[],_::_,_,h=>by simp [Op.bytesLess] at h
 |a::x,b::y,h,h'=>by
  rw [Dn] at h h'
  rcases h with h|⟨h,q⟩
  ·rcases h' with h'|⟨h',_⟩<;>omega
  ·rcases h' with h' | ⟨_, q'⟩
   ·omega
   ·exact Kt q q'
theorem Ga : ∀ {x y : List UInt8}, Op.bytesLess x y ≠ true → Op.bytesLess y x ≠ true → x = y
 |[],[],_,_=>rfl
 |_::_,[],_,h=>by simp [Op.bytesLess] at h
 |[],_::_,h,_=>by simp [Op.bytesLess] at h
 |a::x,b::y,h,h'=>by
  rw [ne_eq,Dn] at h h'
  have e:a.toNat=b.toNat:=by omega
  rw [Ga (x:=x) (y:=y) (fun q=>h (.inr ⟨e,q⟩)) (fun q=>h' (.inr ⟨e.symm,q⟩)),UInt8.toNat_inj.1 e]
theorem Gb : ∀ {x y z : List UInt8}, Op.bytesLess x y = true → Op.bytesLess y z = true → Op.bytesLess x z = true
 |_,_,[],_,h=>by simp [Op.bytesLess] at h
 |_,[],_::_,h,_=>by simp [Op.bytesLess] at h
 |[],_::_,_::_,_,_=>by simp [Op.bytesLess]
 |a::x,b::y,c::z,h,h'=>by
  rw [Dn] at h h' ⊢
  rcases h with h|⟨h,q⟩
  ·rcases h' with h'|⟨h',_⟩<;>(left;omega)
  ·rcases h' with h' | ⟨h', q'⟩
   ·left;omega
   ·right;exact ⟨by omega,Gb q q'⟩
theorem QC {a b:ByteArray} (h:slt a b=true) (h':slt b a=true):False:=Kt h h'
theorem MZ {a b c:ByteArray} (h:slt a b=true) (h':slt b c=true):slt a c=true:=Gb h h'
theorem M0 {a b:ByteArray} (h:slt a b=false) (h':slt b a=false):a=b:=by
 have e:=Ga (x:=a.toList) (y:=b.toList) (by unfold slt at h;rw [h];simp) (by unfold slt at h';rw [h'];simp)
 rw [Go.ByteArray.toList_eq,Go.ByteArray.toList_eq] at e
 obtain ⟨x⟩:=a;obtain ⟨y⟩:=b
 simp at e;rw [e]
end Go.AM
end
section
namespace Go.Proofs
open Go.Shelf
def Tryz.BO:Go.Shelf.Ren:=⟨fun|190=>80|125=>41|258=>99|128=>73|129=>74|302=>108|303=>109|304=>110|305=>111|306=>112|307=>113|308=>114|309=>115|310=>116|333=>136|329=>91|330=>92|334=>137|335=>138|336=>43|344=>146|n=>n,fun|31=>26|9=>9|3=>3|46=>94|0=>0|51=>137|53=>139|4=>4|183=>130|182=>129|131=>134|5=>5|218=>156|222=>160|228=>169|229=>67|n=>n,fun|n=>n⟩
theorem Tryz.afi : Go.Proofs.Lays.n190 Tryz.prog Tryz.BO := {
 mixed:=by kernel_rfl
 f125:=Tryz.func41.trans (congrArg some (by kernel_rfl))
 f128:=Tryz.func73.trans (congrArg some (by kernel_rfl))
 f129:=Tryz.func74.trans (congrArg some (by kernel_rfl))
 f190:=Tryz.func80.trans (congrArg some (by kernel_rfl))
 f258:=Tryz.func99.trans (congrArg some (by kernel_rfl))
 f302:=Tryz.func108.trans (congrArg some (by kernel_rfl))
 f303:=Tryz.func109.trans (congrArg some (by kernel_rfl))
 f304:=Tryz.func110.trans (congrArg some (by kernel_rfl))
 f305:=Tryz.func111.trans (congrArg some (by kernel_rfl))
 f306:=Tryz.func112.trans (congrArg some (by kernel_rfl))
 f307:=Tryz.func113.trans (congrArg some (by kernel_rfl))
 f308:=Tryz.func114.trans (congrArg some (by kernel_rfl))
 f309:=Tryz.func115.trans (congrArg some (by kernel_rfl))
 f310:=Tryz.func116.trans (congrArg some (by kernel_rfl))
 f329:=Tryz.func91.trans (congrArg some (by kernel_rfl))
 f330:=Tryz.func92.trans (congrArg some (by kernel_rfl))
 f333:=Tryz.func136.trans (congrArg some (by kernel_rfl))
 f334:=Tryz.func137.trans (congrArg some (by kernel_rfl))
 f335:=Tryz.func138.trans (congrArg some (by kernel_rfl))
 f336:=Tryz.func43.trans (congrArg some (by kernel_rfl))
 f344:=Tryz.func146.trans (congrArg some (by kernel_rfl))
 t0:=Tryz.underlying0
 a0:=Tryz.isAgg0
 z0:=Tryz.sizeOf0
 v0:=Tryz.zeroValue0
 t3:=Tryz.underlying3
 a3:=Tryz.isAgg3
 z3:=Tryz.sizeOf3
 v3:=Tryz.zeroValue3
 t4:=Tryz.underlying4
 a4:=Tryz.isAgg4
 z4:=Tryz.sizeOf4
 v4:=Tryz.zeroValue4
 t5:=Tryz.underlying5
 a5:=Tryz.isAgg5
 z5:=Tryz.sizeOf5
 v5:=Tryz.zeroValue5
 t9:=Tryz.underlying9
 a9:=Tryz.isAgg9
 z9:=Tryz.sizeOf9
 v9:=Tryz.zeroValue9
 t31:=Tryz.underlying26
 a31:=Tryz.isAgg26
 z31:=Tryz.sizeOf26
 v31:=Tryz.zeroValue26
 t46:=Tryz.underlying94
 a46:=Tryz.isAgg94
 z46:=Tryz.sizeOf94
 v46:=Tryz.zeroValue94
 t51:=Tryz.underlying137
 a51:=Tryz.isAgg137
 z51:=Tryz.sizeOf137
 v51:=Tryz.zeroValue137
 t53:=Tryz.underlying139
 a53:=Tryz.isAgg139
 z53:=Tryz.sizeOf139
 v53:=Tryz.zeroValue139
 t131:=Tryz.underlying134
 a131:=Tryz.isAgg134
 z131:=Tryz.sizeOf134
 v131:=Tryz.zeroValue134
 t182:=Tryz.underlying129
 a182:=Tryz.isAgg129
 z182:=Tryz.sizeOf129
 v182:=Tryz.zeroValue129
 t183:=Tryz.underlying130
 a183:=Tryz.isAgg130
 z183:=Tryz.sizeOf130
 v183:=Tryz.zeroValue130
 t218:=Tryz.underlying156
 a218:=Tryz.isAgg156
 z218:=Tryz.sizeOf156
 v218:=Tryz.zeroValue156
 t222:=Tryz.underlying160
 a222:=Tryz.isAgg160
 z222:=Tryz.sizeOf160
 v222:=Tryz.zeroValue160
 t228:=Tryz.underlying169
 a228:=Tryz.isAgg169
 z228:=Tryz.sizeOf169
 v228:=Tryz.zeroValue169
 t229:=Tryz.underlying67
 a229:=Tryz.isAgg67
 z229:=Tryz.sizeOf67
 v229:=Tryz.zeroValue67 }
def Tryz.BQ:Go.Shelf.Ren:=⟨fun|189=>87|125=>41|257=>103|128=>73|129=>74|294=>118|295=>119|296=>120|297=>121|298=>122|299=>123|216=>124|300=>125|301=>126|328=>139|329=>91|330=>92|331=>140|332=>141|215=>42|343=>147|n=>n,fun|28=>36|3=>3|46=>94|0=>0|51=>137|53=>139|4=>4|183=>130|182=>129|131=>134|5=>5|9=>9|218=>156|222=>160|228=>169|229=>67|n=>n,fun|n=>n⟩
theorem Tryz.afj : Go.Proofs.Lays.n189 Tryz.prog Tryz.BQ := {
 mixed:=by kernel_rfl
 f125:=Tryz.func41.trans (congrArg some (by kernel_rfl))
 f128:=Tryz.func73.trans (congrArg some (by kernel_rfl))
 f129:=Tryz.func74.trans (congrArg some (by kernel_rfl))
 f189:=Tryz.func87.trans (congrArg some (by kernel_rfl))
 f215:=Tryz.func42.trans (congrArg some (by kernel_rfl))
 f216:=Tryz.func124.trans (congrArg some (by kernel_rfl))
 f257:=Tryz.func103.trans (congrArg some (by kernel_rfl))
 f294:=Tryz.func118.trans (congrArg some (by kernel_rfl))
 f295:=Tryz.func119.trans (congrArg some (by kernel_rfl))
 f296:=Tryz.func120.trans (congrArg some (by kernel_rfl))
 f297:=Tryz.func121.trans (congrArg some (by kernel_rfl))
 f298:=Tryz.func122.trans (congrArg some (by kernel_rfl))
 f299:=Tryz.func123.trans (congrArg some (by kernel_rfl))
 f300:=Tryz.func125.trans (congrArg some (by kernel_rfl))
 f301:=Tryz.func126.trans (congrArg some (by kernel_rfl))
 f328:=Tryz.func139.trans (congrArg some (by kernel_rfl))
 f329:=Tryz.func91.trans (congrArg some (by kernel_rfl))
 f330:=Tryz.func92.trans (congrArg some (by kernel_rfl))
 f331:=Tryz.func140.trans (congrArg some (by kernel_rfl))
 f332:=Tryz.func141.trans (congrArg some (by kernel_rfl))
 f343:=Tryz.func147.trans (congrArg some (by kernel_rfl))
 t0:=Tryz.underlying0
 a0:=Tryz.isAgg0
 z0:=Tryz.sizeOf0
 v0:=Tryz.zeroValue0
 t3:=Tryz.underlying3
 a3:=Tryz.isAgg3
 z3:=Tryz.sizeOf3
 v3:=Tryz.zeroValue3
 t4:=Tryz.underlying4
 a4:=Tryz.isAgg4
 z4:=Tryz.sizeOf4
 v4:=Tryz.zeroValue4
 t5:=Tryz.underlying5
 a5:=Tryz.isAgg5
 z5:=Tryz.sizeOf5
 v5:=Tryz.zeroValue5
 t9:=Tryz.underlying9
 a9:=Tryz.isAgg9
 z9:=Tryz.sizeOf9
 v9:=Tryz.zeroValue9
 t28:=Tryz.underlying36
 a28:=Tryz.isAgg36
 z28:=Tryz.sizeOf36
 v28:=Tryz.zeroValue36
 t46:=Tryz.underlying94
 a46:=Tryz.isAgg94
 z46:=Tryz.sizeOf94
 v46:=Tryz.zeroValue94
 t51:=Tryz.underlying137
 a51:=Tryz.isAgg137
 z51:=Tryz.sizeOf137
 v51:=Tryz.zeroValue137
 t53:=Tryz.underlying139
 a53:=Tryz.isAgg139
 z53:=Tryz.sizeOf139
 v53:=Tryz.zeroValue139
 t131:=Tryz.underlying134
 a131:=Tryz.isAgg134
 z131:=Tryz.sizeOf134
 v131:=Tryz.zeroValue134
 t182:=Tryz.underlying129
 a182:=Tryz.isAgg129
 z182:=Tryz.sizeOf129
 v182:=Tryz.zeroValue129
 t183:=Tryz.underlying130
 a183:=Tryz.isAgg130
 z183:=Tryz.sizeOf130
 v183:=Tryz.zeroValue130
 t218:=Tryz.underlying156
 a218:=Tryz.isAgg156
 z218:=Tryz.sizeOf156
 v218:=Tryz.zeroValue156
 t222:=Tryz.underlying160
 a222:=Tryz.isAgg160
 z222:=Tryz.sizeOf160
 v222:=Tryz.zeroValue160
 t228:=Tryz.underlying169
 a228:=Tryz.isAgg169
 z228:=Tryz.sizeOf169
 v228:=Tryz.zeroValue169
 t229:=Tryz.underlying67
 a229:=Tryz.isAgg67
 z229:=Tryz.sizeOf67
 v229:=Tryz.zeroValue67 }
def Tryz.BR:Go.Shelf.Ren:=⟨fun|5=>47|7=>75|n=>n,fun|23=>74|25=>42|3=>4|4=>4|20=>20|n=>n,fun|n=>n⟩
theorem Tryz.afk : Go.Proofs.SlLaysW.n5 Tryz.prog Tryz.BR := {
 mixed:=by kernel_rfl
 f5:=⟨Tryz.f47.name,by decide,Tryz.func47.trans (congrArg some (by kernel_rfl))⟩
 f7:=Tryz.func75.trans (congrArg some (by kernel_rfl))
 t4:=Tryz.underlying4
 a4:=Tryz.isAgg4
 z4:=Tryz.sizeOf4
 v4:=Tryz.zeroValue4
 t20:=Tryz.underlying20
 a20:=Tryz.isAgg20
 z20:=Tryz.sizeOf20
 v20:=Tryz.zeroValue20
 t23:=Tryz.underlying74
 a23:=Tryz.isAgg74
 z23:=Tryz.sizeOf74
 v23:=Tryz.zeroValue74 }
def Tryz.BS:Go.Shelf.Ren:=⟨fun|6=>96|15=>41|14=>107|28=>73|29=>74|20=>128|21=>129|22=>130|23=>131|24=>132|25=>133|26=>134|27=>135|46=>143|47=>91|48=>92|49=>144|50=>145|57=>148|n=>n,fun|22=>40|24=>42|25=>146|3=>3|39=>94|0=>0|53=>137|55=>139|4=>4|46=>130|45=>129|50=>134|5=>5|9=>9|66=>156|70=>160|76=>169|77=>67|n=>n,fun|n=>n⟩
theorem Tryz.afl : Go.Proofs.SlLaysF0.n6 Tryz.prog Tryz.BS := {
 mixed:=by kernel_rfl
 f6:=⟨Tryz.f96.name,by decide,Tryz.func96.trans (congrArg some (by kernel_rfl))⟩
 f14:=⟨Tryz.f107.name,by decide,Tryz.func107.trans (congrArg some (by kernel_rfl))⟩
 f15:=Tryz.func41.trans (congrArg some (by kernel_rfl))
 f20:=⟨Tryz.f128.name,by decide,Tryz.func128.trans (congrArg some (by kernel_rfl))⟩
 f21:=⟨Tryz.f129.name,by decide,Tryz.func129.trans (congrArg some (by kernel_rfl))⟩
 f22:=⟨Tryz.f130.name,by decide,Tryz.func130.trans (congrArg some (by kernel_rfl))⟩
 f23:=⟨Tryz.f131.name,by decide,Tryz.func131.trans (congrArg some (by kernel_rfl))⟩
 f24:=⟨Tryz.f132.name,by decide,Tryz.func132.trans (congrArg some (by kernel_rfl))⟩
 f25:=⟨Tryz.f133.name,by decide,Tryz.func133.trans (congrArg some (by kernel_rfl))⟩
 f26:=⟨Tryz.f134.name,by decide,Tryz.func134.trans (congrArg some (by kernel_rfl))⟩
 f27:=⟨Tryz.f135.name,by decide,Tryz.func135.trans (congrArg some (by kernel_rfl))⟩
 f28:=Tryz.func73.trans (congrArg some (by kernel_rfl))
 f29:=Tryz.func74.trans (congrArg some (by kernel_rfl))
 f46:=⟨Tryz.f143.name,by decide,Tryz.func143.trans (congrArg some (by kernel_rfl))⟩
 f47:=Tryz.func91.trans (congrArg some (by kernel_rfl))
 f48:=Tryz.func92.trans (congrArg some (by kernel_rfl))
 f49:=⟨Tryz.f144.name,by decide,Tryz.func144.trans (congrArg some (by kernel_rfl))⟩
 f50:=⟨Tryz.f145.name,by decide,Tryz.func145.trans (congrArg some (by kernel_rfl))⟩
 f57:=⟨Tryz.f148.name,by decide,Tryz.func148.trans (congrArg some (by kernel_rfl))⟩
 t0:=Tryz.underlying0
 a0:=Tryz.isAgg0
 z0:=Tryz.sizeOf0
 v0:=Tryz.zeroValue0
 t3:=Tryz.underlying3
 a3:=Tryz.isAgg3
 z3:=Tryz.sizeOf3
 v3:=Tryz.zeroValue3
 t4:=Tryz.underlying4
 a4:=Tryz.isAgg4
 z4:=Tryz.sizeOf4
 v4:=Tryz.zeroValue4
 t5:=Tryz.underlying5
 a5:=Tryz.isAgg5
 z5:=Tryz.sizeOf5
 v5:=Tryz.zeroValue5
 t9:=Tryz.underlying9
 a9:=Tryz.isAgg9
 z9:=Tryz.sizeOf9
 v9:=Tryz.zeroValue9
 t22:=Tryz.underlying40
 a22:=Tryz.isAgg40
 z22:=Tryz.sizeOf40
 v22:=Tryz.zeroValue40
 t25:=Tryz.underlying146
 a25:=Tryz.isAgg146
 z25:=Tryz.sizeOf146
 v25:=Tryz.zeroValue146
 t39:=Tryz.underlying94
 a39:=Tryz.isAgg94
 z39:=Tryz.sizeOf94
 v39:=Tryz.zeroValue94
 t45:=Tryz.underlying129
 a45:=Tryz.isAgg129
 z45:=Tryz.sizeOf129
 v45:=Tryz.zeroValue129
 t46:=Tryz.underlying130
 a46:=Tryz.isAgg130
 z46:=Tryz.sizeOf130
 v46:=Tryz.zeroValue130
 t50:=Tryz.underlying134
 a50:=Tryz.isAgg134
 z50:=Tryz.sizeOf134
 v50:=Tryz.zeroValue134
 t53:=Tryz.underlying137
 a53:=Tryz.isAgg137
 z53:=Tryz.sizeOf137
 v53:=Tryz.zeroValue137
 t55:=Tryz.underlying139
 a55:=Tryz.isAgg139
 z55:=Tryz.sizeOf139
 v55:=Tryz.zeroValue139
 t66:=Tryz.underlying156
 a66:=Tryz.isAgg156
 z66:=Tryz.sizeOf156
 v66:=Tryz.zeroValue156
 t70:=Tryz.underlying160
 a70:=Tryz.isAgg160
 z70:=Tryz.sizeOf160
 v70:=Tryz.zeroValue160
 t76:=Tryz.underlying169
 a76:=Tryz.isAgg169
 z76:=Tryz.sizeOf169
 v76:=Tryz.zeroValue169
 t77:=Tryz.underlying67
 a77:=Tryz.isAgg67
 z77:=Tryz.sizeOf67
 v77:=Tryz.zeroValue67 }
end Go.Proofs
end
