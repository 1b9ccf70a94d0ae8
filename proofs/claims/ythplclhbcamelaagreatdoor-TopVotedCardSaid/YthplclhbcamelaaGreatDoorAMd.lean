/- What is read by a pattern stands for what was there. Loops and functions, as functions of their data. Loops over functions, as functions of their data. Calls that are lent blocks of the caller's heap: the rest stays as it is. Contracts of functions that write blocks of their caller, or hand back new ones. Recursion. The way in and out: a law's contract over data is its row's. Plain laws on tests, needs and rounds. Twins that can be reckoned: what they come to, the functions come to. What is computed, as a tree: read as a function (classically), or reckoned. Code with its loops as functions, out of the program's own: no text of it is needed. A loop whose number of rounds is known is gone through round by round. Strings out of their bytes; what is said of them, of maps and of clearing, plainly. Calls in a drawn region that look at blocks, or lay one: contracts. A closed call, reckoned by the kernel: code with all its loops, calls and rounds run as they stand. Closed calls: calls in drawn regions, run on the blocks that they reach; all functions; a closed call's contract. A function that jumps back to a label, run as it stands. Closed calls: all functions of a program, run as they stand; a closed call's contract. -/
import Derived.Test.YthplclhbcamelaaGreatDoorAMc
import Derived.OpenShut
import Derived.Handed
import Derived.JoinedOf
import Derived.Carry
import Derived.ScopeJumps
set_option linter.unusedSectionVars false
set_option linter.unusedVariables false
set_option linter.unusedSimpArgs false
section
namespace Go.AM
section
variable {π:List Nat}
theorem nq : ∀ (π : List Nat) (b : Nat), u6 π b = π[b]?
 |[],_=>by simp [u6]
 |i::r,0=>by simp [u6]
 |i::r,n+1=>by simp [u6,nq r n]
theorem lp {b i:Nat} (h:zi π b i=true):π[b]?=some i:=by
 unfold zi at h
 split at h
 ·rename_i j e;rw [<-nq,e,Nat.eq_of_beq_eq_true h]
 ·cases h
theorem sU.append {as bs cs ds:List V} (h:sU π as bs) (h':sU π cs ds):sU π (as++cs) (bs++ds):=by
 induction as generalizing bs with
 |nil =>
  have:bs=[]:=List.eq_nil_of_length_eq_zero h.1.symm
  subst this;simpa using h'
 |cons a as ih =>
  cases bs with
  |nil=>exact absurd h.1 (by simp)
  |cons b bs=>exact .cons (h.2 0 a b rfl rfl) (ih ⟨by have:=h.1;simpa using this,fun i v u hv hu=>h.2 (i+1) v u (by simpa using hv) (by simpa using hu)⟩)
theorem DC {t t':Ty} {xs:List t.den} {ys:List t'.den} (h:jK t t' xs=some ys):V.eG t' ys=V.eG t xs:=by
 obtain ⟨e,he⟩:=dn h
 subst e;subst he;rfl
theorem DD {g:Bool} {v:V} {ds cs:List V} (h:AO g v=some cs) (aj:sU π ds cs):EV π (dL.jl g ds) v:=by
 cases g with
 |true =>
  cases v<;>simp [AO] at h
  subst h
  exact .agg _ _ aj.1 aj.2
 |false =>
  have:cs=[v]:=by cases v<;>simp_all [AO,V.cells?]
  subst this
  match ds,aj with
  |[w],aj=>exact aj.2 0 w v rfl rfl
  |[],aj=>exact absurd aj.1 (by simp)
  |_::_::_,aj=>exact absurd aj.1 (by simp)
theorem pe {ar : Ar} : ∀ {t : Ty} {vs : List V} {x : t.den} {u : dU} {r : List V}, bQ ar [] t vs = some (x, u, r) → ∃ us, vs = us ++ r ∧ sU π (dL t x) us
 | .unit,vs,x,u,r,h=>by
  simp [bQ] at h;obtain ⟨_,_,rfl⟩:=h;exact ⟨[],rfl,.nil⟩
 | .bool,vs,x,u,r,h=>by
  rcases vs with _|⟨v,r'⟩
  ·simp [bQ] at h
  ·cases v <;> simp [bQ] at h
   ·obtain ⟨rfl,_,rfl⟩:=h;exact ⟨[_],rfl,.cons (.tfb _) .nil⟩
   ·obtain ⟨rfl,_,rfl⟩:=h;exact ⟨[_],rfl,.cons (.bool _) .nil⟩
 | .str,vs,x,u,r,h=>by
  rcases vs with _|⟨v,r'⟩
  ·simp [bQ] at h
  ·cases v <;> simp [bQ] at h
   obtain ⟨rfl,_,rfl⟩:=h;exact ⟨[_],rfl,.cons (.str _) .nil⟩
 | .int k,vs,x,u,r,h=>by
  rcases vs with _|⟨v,r'⟩
  ·simp [bQ] at h
  ·cases v <;> simp [bQ] at h
   obtain ⟨rfl,rfl,_,rfl⟩:=h;exact ⟨[_],rfl,.cons (.int _ _) .nil⟩
 | .list t,vs,x,u,r,h=>by
  rcases vs with _|⟨v,r'⟩
  ·simp [bQ] at h
  ·cases v <;> simp only [bQ] at h <;> try (cases h; done)
   ·split at h <;> try (cases h; done)
    rename_i hc
    cases h
    exact ⟨[_],rfl,.cons (by rw [DC hc];exact .eG _ _) .nil⟩
   ·cases h;exact ⟨[.bA],rfl,.cons (.Tt _) .nil⟩
 | .prod a b,vs,x,u,r,h=>by
  simp only [bQ] at h
  split at h<;>try (cases h;done)
  rename_i x1 u1 r1 h1
  split at h<;>try (cases h;done)
  rename_i y1 u2 r2 h2
  cases h
  obtain ⟨us,rfl,e1⟩:=pe h1
  obtain ⟨Ye,rfl,e2⟩:=pe h2
  exact ⟨us++Ye,by simp,e1.append e2⟩
 | .bU d g t,vs,x,u,r,h=>by
  cases vs with
  |nil=>simp [bQ] at h
  |cons v vs =>
   cases v<;>simp only [bQ] at h<;>try (cases h;done)
   rename_i d' v'
   split at h<;>try (cases h;done)
   rename_i e;subst e
   split at h<;>try (cases h;done)
   rename_i cs hun
   split at h<;>try (cases h;done)
   rename_i x0 ho
   cases h
   obtain ⟨us,e1,aj⟩:=pe ho
   rw [List.append_nil] at e1
   exact ⟨[.bU d v'],rfl,.cons (.bU _ _ _ (DD hun (by rw [e1];exact aj))) .nil⟩
theorem TF : ∀ {t : Ty} {v : V} {x : t.den}, BA t v = some x → EV π (tyV t x) v
 | .unit,v,x,h=>by simp [BA] at h
 | .bool,v,x,h=>by
  cases v<;>simp [BA] at h
  ·subst h;exact .tfb _
  ·subst h;exact .bool _
 | .str,v,x,h=>by
  cases v<;>simp [BA] at h
  subst h;exact .str _
 | .int k,v,x,h=>by
  cases v<;>simp only [BA] at h<;>try (cases h;done)
  split at h<;>try (cases h;done)
  rename_i hk
  cases h
  have:=of_decide_eq_true hk
  subst this;exact .int _ _
 | .list t,v,x,h=>by
  cases v<;>simp only [BA] at h<;>try (cases h;done)
  ·show EV π (.eG t x) _
   rw [DC h];exact .eG _ _
  ·cases h;exact .Tt _
 | .prod a b,v,x,h=>by
  cases v<;>simp only [BA] at h<;>try (cases h;done)
  split at h<;>try (cases h;done)
  rename_i hc
  cases h
  obtain ⟨us,e,aj⟩:=pe (π:=π) hc
  rw [List.append_nil] at e
  subst e
  exact .agg _ _ aj.1 aj.2
 | .bU d g t,v,x,h=>by
  simp only [BA] at h
  split at h<;>try (cases h;done)
  rename_i hc
  cases h
  obtain ⟨us,e,aj⟩:=pe (π:=π) hc
  rw [List.append_nil] at e
  subst e
  exact aj.2 0 _ _ rfl rfl
variable {A:Type}
theorem CP.Y4 {c:CP} {v:V} {f:A->c.T A} (h:c.rd1 π v=some f) (a:A):sU π (c.vs (f a)) [v]/\c.r (f a)=a:=by
 cases c<;>simp only [CP.rd1] at h
 case any=>cases h;exact ⟨.cons (.any _) .nil,rfl⟩
 case tf b =>
  split at h<;>try (cases h;done)
  split at h<;>try (cases h;done)
  rename_i hb
  cases h
  rw [<-fe hb]
  exact ⟨.cons (.tf _) .nil,rfl⟩
 case eJ=>split at h<;>cases h;exact ⟨.cons (.eJ) .nil,rfl⟩
 case cu=>split at h<;>cases h;exact ⟨.cons (.cu) .nil,rfl⟩
 case cK=>split at h<;>cases h;exact ⟨.cons (.cK) .nil,rfl⟩
 case bA=>split at h<;>cases h;exact ⟨.cons (.bA) .nil,rfl⟩
 case hole t =>
  split at h<;>cases h
  rename_i hx
  exact ⟨.cons (TF hx) .nil,rfl⟩
 case cg b t =>
  split at h<;>try (cases h;done)
  ·rename_i i t' lo n
   split at h<;>try (cases h;done)
   rename_i h1
   split at h<;>try (cases h;done)
   rename_i h2
   split at h<;>try (cases h;done)
   rename_i h3
   cases h
   have e:=Nat.eq_of_beq_eq_true h3
   rw [lg h2,e]
   exact ⟨.cons (.sl _ _ _ _ _ (lp h1)) .nil,rfl⟩
  ·cases h;exact ⟨.cons (.YN _ _ _) .nil,rfl⟩
 case Aa b t =>
  split at h<;>try (cases h;done)
  ·rename_i i t' lo n
   split at h<;>try (cases h;done)
   rename_i h1
   split at h<;>try (cases h;done)
   rename_i h2
   cases h
   rw [lg h2]
   exact ⟨.cons (.sl _ _ _ _ _ (lp h1)) .nil,rfl⟩
  ·cases h;exact ⟨.cons (.YN _ _ _) .nil,rfl⟩
 case ptr b off =>
  split at h<;>try (cases h;done)
  split at h<;>try (cases h;done)
  rename_i h1
  split at h<;>try (cases h;done)
  rename_i h2
  cases h
  rw [Nat.eq_of_beq_eq_true h2]
  exact ⟨.cons (.ptr _ _ _ (lp h1)) .nil,rfl⟩
 case yl b =>
  split at h<;>try (cases h;done)
  split at h<;>try (cases h;done)
  rename_i h1
  cases h
  exact ⟨.cons (.yl _ _ (lp h1)) .nil,rfl⟩
 case av t =>
  split at h<;>try (cases h;done)
  split at h<;>try (cases h;done)
  rename_i hc
  cases h
  obtain ⟨us,e,aj⟩:=pe (π:=π) hc
  rw [List.append_nil] at e
  subst e
  exact ⟨.cons (.av _ _ aj.1 aj.2) .nil,rfl⟩
 case mp b =>
  split at h<;>try (cases h;done)
  split at h<;>try (cases h;done)
  rename_i h1
  cases h
  exact ⟨.cons (.mp _ _ (lp h1)) .nil,rfl⟩
 case dZ=>split at h<;>cases h;exact ⟨.cons (.dZ) .nil,rfl⟩
 case pa b t n =>
  split at h<;>try (cases h;done)
  split at h<;>try (cases h;done)
  rename_i h1
  split at h<;>try (cases h;done)
  rename_i h2
  split at h<;>try (cases h;done)
  rename_i h3
  cases h
  rw [lg h2,Nat.eq_of_beq_eq_true h3]
  exact ⟨.cons (.pa _ _ _ _ (lp h1)) .nil,rfl⟩
 case jP t =>
  split at h<;>try (cases h;done)
  split at h<;>try (cases h;done)
  rename_i ys hc
  cases h
  obtain ⟨e,he⟩:=dn hc
  subst e;subst he
  exact ⟨.cons (.jP _ _) .nil,rfl⟩
 case kO t =>
  split at h<;>try (cases h;done)
  split at h<;>try (cases h;done)
  rename_i ys hc
  cases h
  obtain ⟨e,he⟩:=dn hc
  subst e;subst he
  exact ⟨.cons (.kO _ _) .nil,rfl⟩
 case fK=>cases h
 case fn0 f' =>
  split at h<;>try (cases h;done)
  split at h<;>try (cases h;done)
  rename_i h1
  cases h
  rw [Nat.eq_of_beq_eq_true h1]
  exact ⟨.cons (.fn _ _ _ _ _ rfl (fun i v u hv=>by simp at hv) rfl (fun i v u hv=>by simp at hv)) .nil,rfl⟩
 case aJ=>cases h
 case zf=>cases h
 case fn=>cases h
 case nil=>cases h
 case cons=>cases h
theorem CP.Y5:∀{c:CP} {A:Type} {vs r:List V} {f:A->c.T A},c.l8 π vs=some (f,r)->∃us,vs=us++r/\∀a,sU π (c.vs (f a)) us/\c.r (f a)=a:=by
 intro c
 induction c with
 |nil=>intro A vs r f h;simp only [CP.l8] at h;cases h;exact ⟨[],rfl,fun a=>⟨.nil,rfl⟩⟩
 |cons c l ihc ihl =>
  intro A vs r f h
  simp only [CP.l8] at h
  split at h<;>try (cases h;done)
  rename_i f1 vs' h1
  split at h<;>try (cases h;done)
  rename_i g vs'' h2
  cases h
  obtain ⟨us,rfl,e1⟩:=ihc h1
  obtain ⟨Ye,rfl,e2⟩:=ihl h2
  refine ⟨us++Ye,by simp,fun a=>?_⟩
  obtain ⟨q1,q2⟩:=e1 (g a)
  obtain ⟨q3,q4⟩:=e2 a
  simp only [CP.vs,CP.r,q2]
  exact ⟨q1.append q3,q4⟩
 |aJ l ih =>
  intro A vs r f h
  simp only [CP.l8] at h
  split at h<;>try (cases h;done)
  rename_i cs r'
  split at h<;>try (cases h;done)
  rename_i f1 h1
  cases h
  obtain ⟨us,e,e1⟩:=ih h1
  rw [List.append_nil] at e
  subst e
  refine ⟨[.av cs],rfl,fun a=>?_⟩
  obtain ⟨q1,q2⟩:=e1 a
  exact ⟨.cons (.av _ _ q1.1 q1.2) .nil,q2⟩
 |zf l ih =>
  intro A vs r f h
  simp only [CP.l8] at h
  split at h<;>try (cases h;done)
  rename_i cs r'
  split at h<;>try (cases h;done)
  rename_i f1 h1
  cases h
  obtain ⟨us,e,e1⟩:=ih h1
  rw [List.append_nil] at e
  subst e
  refine ⟨[.agg cs],rfl,fun a=>?_⟩
  obtain ⟨q1,q2⟩:=e1 a
  exact ⟨.cons (.agg _ _ q1.1 q1.2) .nil,q2⟩
 |fK t g l ih =>
  intro A vs r f h
  simp only [CP.l8] at h
  split at h<;>try (cases h;done)
  rename_i t' v r'
  split at h<;>try (cases h;done)
  rename_i ht
  split at h<;>try (cases h;done)
  rename_i cs hun
  split at h<;>try (cases h;done)
  rename_i f1 h1
  cases h
  obtain ⟨us,e,e1⟩:=ih h1
  rw [List.append_nil] at e
  subst e
  have e0:=Nat.eq_of_beq_eq_true ht
  subst e0
  refine ⟨[.bU t' v],rfl,fun a=>?_⟩
  obtain ⟨q1,q2⟩:=e1 a
  exact ⟨.cons (.bU _ _ _ (DD hun q1)) .nil,q2⟩
 |fn f0 a b rV rm =>
  intro A vs r f h
  simp only [CP.l8] at h
  split at h<;>try (cases h;done)
  rename_i f' va vb r'
  split at h<;>try (cases h;done)
  rename_i hf
  split at h<;>try (cases h;done)
  rename_i g hg
  split at h<;>try (cases h;done)
  rename_i k hk
  cases h
  obtain ⟨us,e,e1⟩:=rV hg
  rw [List.append_nil] at e
  subst e
  obtain ⟨Ye,e',e2⟩:=rm hk
  rw [List.append_nil] at e'
  subst e'
  have e0:=Nat.eq_of_beq_eq_true hf
  subst e0
  refine ⟨[.fn f' va vb],rfl,fun x=>?_⟩
  obtain ⟨q1,q2⟩:=e1 (k x)
  obtain ⟨q3,q4⟩:=e2 x
  simp only [CP.vs,CP.r,q2]
  exact ⟨.cons (.fn _ _ _ _ _ q1.1 q1.2 q3.1 q3.2) .nil,q4⟩
 |_ =>
  intro A vs r f h
  simp only [CP.l8] at h
  split at h<;>try (cases h;done)
  rename_i v r'
  split at h<;>try (cases h;done)
  rename_i f1 h1
  cases h
  exact ⟨[v],rfl,fun a=>CP.Y4 h1 a⟩
theorem CP.r8 {c:CP} {v:V} {f:A->c.T A} (h:c.rd π v=some f) (a:A):EV π (c.v (f a)) v/\c.r (f a)=a:=by
 unfold CP.rd at h
 split at h<;>try (cases h;done)
 rename_i f1 h1
 cases h
 obtain ⟨us,e,e1⟩:=CP.Y5 h1
 rw [List.append_nil] at e
 subst e
 obtain ⟨q1,q2⟩:=e1 a
 refine ⟨?_,q2⟩
 unfold CP.v
 have hl:=q1.1
 cases hc:c.vs (f a) with
 |nil=>rw [hc] at hl;simp at hl
 |cons u r=>exact q1.2 0 u v (by rw [hc];rfl) rfl
theorem jw : ∀ {cs : List CP} {vs : List V} {f : A → mC cs A}, gx π cs vs = some f → ∀ a, sU π (qB cs (f a)) vs ∧ rY cs (f a) = a
 |[],[],f,h,a=>by cases h;exact ⟨.nil,rfl⟩
 |c::r,v::vs,f,h,a=>by
  simp only [gx] at h
  split at h<;>try (cases h;done)
  rename_i f1 h1
  split at h<;>cases h
  rename_i g h2
  obtain ⟨q1,q2⟩:=CP.r8 h1 (g a)
  obtain ⟨q3,q4⟩:=jw h2 a
  simp only [qB,rY,q2]
  exact ⟨.cons q1 q3,q4⟩
 |[],_::_,f,h,a=>by simp [gx] at h
 |_::_,[],f,h,a=>by simp [gx] at h
theorem SP.r8 : ∀ {p : SP} {v : V} {f : A → p.T A}, p.rd π v = some f → ∀ (a : A), EV π (p.v (f a)) v ∧ p.r (f a) = a
 | .c q,v,f,h,a=>CP.r8 (c:=q) h a
 | .agg cs,v,f,h,a=>by
  cases v<;>try (cases h;done)
  rename_i vs
  have h':gx π cs vs=some f:=h
  obtain ⟨h1,h2⟩:=jw h' a
  exact ⟨.agg _ _ h1.1 h1.2,h2⟩
 | .cG cs,v,f,h,a=>by
  cases v<;>try (cases h;done)
  rename_i vs
  have h':gx π cs vs=some f:=h
  obtain ⟨h1,h2⟩:=jw h' a
  exact ⟨.cG _ _ h1.1 h1.2,h2⟩
 | .fn f' x y,v,f,h,a=>by
  cases v with
  |fn f2 va vb =>
   have h':(match Nat.beq f2 f' with
    |true=>match gx (A:=mC y A) π x va with
     |some g=>match gx (A:=A) π y vb with
      |some h=>some fun z=>g (h z)
      |none=>none
     |none=>none
    |false=>none)=some f:=h
   clear h
   cases hf:Nat.beq f2 f' with
   |false=>rw [hf] at h';cases h'
   |true =>
    rw [hf] at h'
    simp only at h'
    cases hg:gx (A:=mC y A) π x va with
    |none=>rw [hg] at h';cases h'
    |some g =>
     rw [hg] at h'
     simp only at h'
     cases hk:gx (A:=A) π y vb with
     |none=>rw [hk] at h';cases h'
     |some k =>
      rw [hk] at h'
      have h2:(fun z=>g (k z))=f:=Option.some.inj h'
      obtain ⟨q1,q2⟩:=jw hg (k a)
      obtain ⟨q3,q4⟩:=jw hk a
      have e:=Nat.eq_of_beq_eq_true hf
      subst e
      have e2:SP.v (A:=A) (.fn f2 x y) (g (k a)) = .fn f2 (qB x (g (k a))) (qB y (k a)):=by
       show V.fn f2 _ (qB y (rY x (g (k a))))=_
       rw [q2]
      have e3:SP.r (A:=A) (.fn f2 x y) (g (k a))=a:=by
       show rY y (rY x (g (k a)))=a
       rw [q2,q4]
      have e4:f a=g (k a):=by rw [<-h2]
      rw [e4]
      exact ⟨by rw [e2];exact .fn _ _ _ _ _ q1.1 q1.2 q3.1 q3.2,e3⟩
  |_=>cases h
 | .alt x y,v,f,h,a=>by
  cases v with
  |cG vs =>
   have h':(match gx (A:=A) π x vs with
    |some f=>some fun z=>(Sum.inl (f z):mC x A ⊕ mC y A)
    |none=>match gx (A:=A) π y vs with
     |some f=>some fun z=>Sum.inr (f z)
     |none=>none)=some f:=h
   clear h
   cases hx:gx (A:=A) π x vs with
   |some g =>
    rw [hx] at h'
    have h2:=Option.some.inj h'
    subst h2
    obtain ⟨h1,h2⟩:=jw hx a
    exact ⟨.cG _ _ h1.1 h1.2,h2⟩
   |none =>
    rw [hx] at h'
    simp only at h'
    cases hy:gx (A:=A) π y vs with
    |none=>rw [hy] at h';cases h'
    |some g =>
     rw [hy] at h'
     have h2:=Option.some.inj h'
     subst h2
     obtain ⟨h1,h2⟩:=jw hy a
     exact ⟨.cG _ _ h1.1 h1.2,h2⟩
  |_=>cases h
theorem ox {env : Env} : ∀ {ps : List (Nat × SP)} {f : A → zg ps A}, Ab π env ps = some f → ∀ a, EE π (u5 ps (f a)) env ∧ OJ ps (f a) = a
 |[],f,h,a=>by cases h;exact ⟨fun p hp=>by simp [u5] at hp,rfl⟩
 |(s,p)::r,f,h,a=>by
  simp only [Ab] at h
  split at h<;>try (cases h;done)
  rename_i f1 h1
  split at h<;>cases h
  rename_i g h2
  obtain ⟨q1,q2⟩:=SP.r8 h1 (g a)
  obtain ⟨q3,q4⟩:=ox h2 a
  simp only [u5,OJ,q2]
  refine ⟨fun x hx=>?_,q4⟩
  rcases List.mem_cons.1 hx with rfl|hx
  ·exact q1
  ·exact q3 x hx
def OX : qd → qd → Bool
 | .ready,.ready=>true
 | .busy,.busy=>true
 | .done,.done=>true
 | .exhausted,.exhausted=>true
 |_,_=>false
theorem OY {a b:qd} (h:OX a b=true):a=b:=by cases a<;>cases b<;>simp_all [OX]
def Y6 : Option Ex → Option Ex → Bool
 |none,none=>true
 |some .normal,some .normal=>true
 |some (.exit a),some (.exit b)=>Nat.beq a b
 |some .ret,some .ret=>true
 |_,_=>false
theorem TG {a b:Option Ex} (h:Y6 a b=true):a=b:=by
 rcases a with _|(_|_|_)<;>rcases b with _|(_|_|_)<;>simp only [Y6,Bool.false_eq_true] at h<;>try rfl
 rw [Nat.eq_of_beq_eq_true h]
def BP.rd (π:List Nat) (nx:Nat) (bl:ai) (id:Nat) (p:BP):Option (A->p.T A) :=
 match u6 π id with
 |none=>none
 |some i=>match p with
  | .arr t fz=>match aq i bl with
   |some (.arr t' xs Yf)=>match jK t' t xs with
    |some ys=>match lK Yf fz with
     |true=>some fun a=>(ys,a)
     |false=>none
    |none=>none
   |none=>match Nat.ble nx i with
    |true=>some fun a=>(([]:List t.den),a)
    |false=>none
   |_=>none
  | .cells cs fz=>match aq i bl with
   |some (.cells vs Yf)=>match lK Yf fz with
    |true=>gx π cs vs
    |false=>none
   |_=>none
  | .loop st j d env ps as bd N=>match aq i bl with
   |some (.loop st' j' d' env' ps' as' Nb N')=>match an (OX st' st) (an (Y6 j' j)<|an (zi π d d') (an (DA ps' ps) (an (Nat.beq N' N) (an (jH as' as) (jH Nb bd))))) with
    |true=>Ab π env' env
    |false=>none
   |_=>none
  | .fC=>match aq i bl with
   |some .fC=>some fun a=>a
   |_=>none
  | .map kt kg vt vg=>match aq i bl with
   |some (.map M1 WR M3 SE es)=>match an (lK WR kg) (lK SE vg) with
    |true=>match Ho M1 M3 kt vt es with
     |some fs=>some fun a=>(fs,a)
     |none=>none
    |false=>none
   |_=>none
  | .j8 t k q c=>match aq i bl with
   |some (.j8 t' xs k' q' v)=>match an (Nat.beq k' k) (OR q' q) with
    |true=>match jK t' t xs with
     |some ys=>match CP.rd π c v with
      |some f=>some fun a=>(ys,f a)
      |none=>none
     |none=>none
    |false=>none
   |_=>none
theorem BP.r8 {nx:Nat} {bl:ai} {id:Nat} {p:BP} {f:A->p.T A} (h:p.rd π nx bl id=some f) (a:A):Oy π nx bl id (p.v (f a))/\p.r (f a)=a:=by
 unfold BP.rd at h
 split at h
 ·cases h
 ·rename_i i hi
  rw [nq] at hi
  cases p<;>simp only at h
  case arr t fz =>
   split at h
   ·rename_i t' xs Yf hb
    split at h<;>try (cases h;done)
    rename_i ys hc
    split at h<;>cases h
    rename_i hfz
    refine ⟨⟨i,hi,.inl ?_⟩,rfl⟩
    obtain ⟨e,he⟩:=dn hc
    subst e;subst he
    rw [hb,fe hfz]
   ·rename_i hb
    split at h<;>cases h
    rename_i hle
    exact ⟨⟨i,hi,.inr ⟨rfl,Nat.le_of_ble_eq_true hle⟩⟩,rfl⟩
   ·cases h
  case cells cs fz =>
   split at h<;>try (cases h;done)
   rename_i vs Yf hb
   split at h<;>try (cases h;done)
   rename_i hfz
   obtain ⟨h1,h2⟩:=jw h a
   refine ⟨⟨i,hi,vs,?_,h1⟩,h2⟩
   rw [hb,fe hfz]
  case loop st j d env ps as bd N =>
   split at h<;>try (cases h;done)
   rename_i st' j' d' env' ps' as' Nb N' hb
   split at h<;>try (cases h;done)
   rename_i hc
   simp only [aX] at hc
   obtain ⟨c1,cj,c2,c3,c4,c5,c6⟩:=hc
   obtain ⟨h1,h2⟩:=ox h a
   refine ⟨⟨i,hi,d',env',?_,lp c2,h1⟩,h2⟩
   rw [hb,OY c1,TG cj,rZ c3,Nat.eq_of_beq_eq_true c4,vr c5,vr c6]
  case fC =>
   split at h<;>cases h
   rename_i hb
   exact ⟨⟨i,hi,hb⟩,rfl⟩
  case map kt kg vt vg =>
   split at h<;>try (cases h;done)
   rename_i M1 WR M3 SE es hb
   split at h<;>try (cases h;done)
   rename_i hg
   split at h<;>try (cases h;done)
   rename_i fs hc
   cases h
   simp only [aX] at hg
   rw [fe hg.1,fe hg.2] at hb
   unfold Ho at hc
   split at hc<;>try (cases hc;done)
   rename_i he
   obtain ⟨rfl,rfl⟩:=he
   cases hc
   exact ⟨⟨i,hi,hb⟩,rfl⟩
  case j8 t k q c =>
   split at h<;>try (cases h;done)
   rename_i t' xs k' q' v hb
   split at h<;>try (cases h;done)
   rename_i hc
   simp only [aX] at hc
   split at h<;>try (cases h;done)
   rename_i ys hy
   split at h<;>try (cases h;done)
   rename_i f' hf
   cases h
   obtain ⟨e,he⟩:=dn hy
   subst e;subst he
   obtain ⟨h1,h2⟩:=CP.r8 hf a
   refine ⟨⟨i,hi,v,?_,h1⟩,h2⟩
   rw [hb,Nat.eq_of_beq_eq_true hc.1,Dz hc.2]
def OZ (π : List Nat) (nx : Nat) (bl : ai) : (ps : List (Nat × BP)) → Option (A → Sm ps A)
 |[]=>some fun a=>a
 |(id,p)::r=>match BP.rd (A:=Sm r A) π nx bl id p with
  |some f=>match OZ π nx bl r with
   |some g=>some fun a=>f (g a)
   |none=>none
  |none=>none
theorem vu {nx : Nat} {bl : ai} : ∀ {ps : List (Nat × BP)} {f : A → Sm ps A}, OZ π nx bl ps = some f → ∀ a, (∀ p ∈ K1 ps (f a), Oy π nx bl p.1 p.2) ∧ (K1 ps (f a)).map (·.1) = ps.map (·.1)
 |[],f,h,a=>by cases h;exact ⟨fun p hp=>by simp [K1] at hp,rfl⟩
 |(s,p)::r,f,h,a=>by
  simp only [OZ] at h
  split at h<;>try (cases h;done)
  rename_i f1 h1
  split at h<;>cases h
  rename_i g h2
  obtain ⟨q1,q2⟩:=BP.r8 h1 (g a)
  obtain ⟨q3,q4⟩:=vu h2 a
  simp only [K1,q2]
  refine ⟨fun x hx=>?_,by simp [q4]⟩
  rcases List.mem_cons.1 hx with rfl|hx
  ·exact q1
  ·exact q3 x hx
def O1 (nx b : Nat) : V → Option Nat
 | .sl i _ _ _=>some i
 | .ptr i _=>some i
 | .yl i=>some i
 | .mp i=>some i
 | .pa i _ _=>some i
 | .ep i _ _ _=>some i
 | .bA=>some (nx+b)
 | .bU _ (.ptr i _)=>some i
 |_=>none
def O2 : List V → Nat → Option V
 |[],_=>none
 |v::_,0=>some v
 |_::r,n+1=>O2 r n
def subV : V → Option (List V)
 | .agg cs=>some cs
 | .fn _ a c=>some (a++c)
 | .cG cs=>some cs
 |_=>none
def Y7 (π : List Nat) (env : Env) (nx : Nat) (bl : ai) (ms : List Nat) (b : Nat) : Lc → Option Nat
 | .slot s=>O1 nx b (get s env)
 | .part s k=>match subV (get s env) with
  |some cs=>match Nat.blt k 1000 with
   |true=>(match O2 cs k with
    |some v=>O1 nx b v
    |none=>none)
   |false=>(match O2 cs (k % 1000) with
    |some w=>(match subV w with
     |some ds=>(match O2 ds (k / 1000 - 1) with
      |some v=>O1 nx b v
      |none=>none)
     |none=>none)
    |none=>none)
  |none=>none
 | .cell b' k=>match u6 π b' with
  |some i=>match aq i bl with
   |some (.cells cs _)=>match O2 cs k with
    |some v=>O1 nx b v
    |none=>none
   |some (.j8 _ _ _ _ v)=>O1 nx b v
   |_=>none
  |none=>none
 | .old i=>some i
 | .mark j=>u6 ms j
def snoc {R : Type} : List Nat → Nat → (List Nat → R) → R
 |[],i,k=>k [i]
 |j::r,i,k=>snoc r i fun r'=>k (j::r')
theorem vw {R : Type} : ∀ (l : List Nat) (i : Nat) (k : List Nat → R), snoc l i k = k (l ++ [i])
 |[],_,_=>rfl
 |j::r,i,k=>by simp only [snoc,vw r];rfl
def nK {R : Type} (no : R) (env : Env) (nx : Nat) (bl : ai) (ms : List Nat) : List Lc → List Nat → Nat → (List Nat → R) → R
 |[],π,_,k=>k π
 |l::r,π,b,k=>match Y7 π env nx bl ms b l with
  |some i=>fN i fun i=>snoc π i fun π=>fN (b+1) fun b=>nK no env nx bl ms r π b k
  |none=>no
theorem xB {X:Type} {no:Option X} {env:Env} {nx:Nat} {bl:ai} {ms:List Nat}:∀{ls:List Lc} {π:List Nat} {b:Nat} {k:List Nat->Option X} {x:X},nK no env nx bl ms ls π b k=some x ->
  no=some x\/∃r,r.length=ls.length/\k (π++r)=some x
 |[],π,b,k,x,h=>.inr ⟨[],rfl,by simpa [nK] using h⟩
 |l::ls,π,b,k,x,h=>by
  simp only [nK] at h
  split at h
  ·rename_i i hi
   rw [eY,vw,eY] at h
   rcases xB h with h|⟨r,h1,h2⟩
   ·exact .inl h
   ·exact .inr ⟨i::r,by simp [h1],by simpa using h2⟩
  ·exact .inl h
def O3 (π:List Nat) (a b:Nat):Bool:=match u6 π a with
 |some i=>match u6 π b with
  |some j=>match Nat.beq i j with
   |true=>false
   |false=>true
  |none=>false
 |none=>false
def BC (π : List Nat) (a : Nat) : List (Nat × BP) → Bool
 |[]=>true
 |(b,_)::r=>match O3 π a b with
  |true=>BC π a r
  |false=>false
def xC (π : List Nat) : List (Nat × BP) → Bool
 |[]=>true
 |(a,_)::r=>match BC π a r with
  |true=>xC π r
  |false=>false
theorem O4 {a b:Nat} (h:O3 π a b=true):π[a]?≠π[b]?:=by
 unfold O3 at h
 split at h<;>try (cases h;done)
 rename_i i hi
 split at h<;>try (cases h;done)
 rename_i j hj
 split at h<;>try (cases h;done)
 rename_i hij
 rw [<-nq,<-nq,hi,hj]
 intro e;cases e
 rw [Nat.beq_refl] at hij;cases hij
theorem tR {a : Nat} : ∀ {r : List (Nat × BP)}, BC π a r = true → ∀ b ∈ r.map (·.1), π[a]? ≠ π[b]?
 |[],_,b,hb=>by simp at hb
 |(c,_)::r,h,b,hb=>by
  simp only [BC] at h
  split at h<;>try (cases h;done)
  rename_i hd
  simp only [List.map_cons,List.mem_cons] at hb
  rcases hb with rfl|hb
  ·exact O4 hd
  ·exact tR h b hb
theorem xD : ∀ {r : List (Nat × BP)}, xC π r = true → ∀ a ∈ r.map (·.1), ∀ b ∈ r.map (·.1), π[a]? = π[b]? → a = b
 |[],_,a,ha=>by simp at ha
 |(c,_)::r,h,a,ha=>by
  simp only [xC] at h
  split at h<;>try (cases h;done)
  rename_i hd
  intro b hb e
  simp only [List.map_cons,List.mem_cons] at ha hb
  rcases ha with rfl|ha<;>rcases hb with rfl|hb
  ·rfl
  ·exact absurd e (tR hd b hb)
  ·exact absurd e.symm (tR hd a ha)
  ·exact xD h a ha b hb e
def K3 (π : List Nat) : List Nat → List Nat → Bool
 |[],[]=>true
 |a::r,i::s=>match zi π a i with
  |true=>K3 π r s
  |false=>false
 |_,_=>false
theorem Ih : ∀ {ps ms : List Nat}, K3 π ps ms = true → ps.map (fun i => π[i]?) = ms.map some
 |[],[],_=>rfl
 |a::r,i::s,h=>by
  simp only [K3] at h
  split at h<;>try (cases h;done)
  rename_i ha
  simp [lp ha,Ih h]
 |[],_::_,h=>by simp [K3] at h
 |_::_,[],h=>by simp [K3] at h
def aG.rd {R:Type} (no:R) (pre:List Nat) (base:Nat) (p:aG) (env:Env) (nx:Nat) (bl:ai) (ms:List Nat) (k:p.T->R):R :=
 nK no env nx bl ms p.eM pre base fun π=>match an (K3 π p.ms ms) (xC π p.bl) with
  |true=>match Ab (A:=Sm p.bl Unit) π env p.env with
   |some f=>match OZ (A:=Unit) π nx bl p.bl with
    |some g=>k (f (g ()))
    |none=>no
   |none=>no
  |false=>no
theorem aG.Ii {X:Type} {no:Option X} {base:Nat} {p:aG} {env:Env} {nx:Nat} {bl:ai} {ms:List Nat} {k:p.T->Option X} {r:X} (h:p.rd no (List.range base) base env nx bl ms k=some r) :
  no=some r\/∃x π,k x=some r/\mB base π ⟨env,⟨nx,bl⟩,ms⟩ (p.st base x):=by
 rcases xB h with h|⟨rr,hlen,h⟩
 ·exact .inl h
 split at h
 ·rename_i hc
  rw [aX] at hc
  split at h
  ·rename_i f hf
   split at h
   ·rename_i g hg
    obtain ⟨h1,h2⟩:=ox hf (g ())
    obtain ⟨h3,h4⟩:=vu hg ()
    refine .inr ⟨f (g ()),List.range base++rr,h,?_⟩
    constructor
    ·simp
    ·simp [aG.st,hlen]
    ·exact Ih hc.1
    ·exact h1
    ·simp only [aG.st,aG.B,h2];exact h3
    ·simp only [aG.st, aG.B, h2]
     intro q hq s hs e
     refine xD hc.2 q.1 ?_ s.1 ?_ e
     ·rw [<-h4];exact List.mem_map_of_mem hq
     ·rw [<-h4];exact List.mem_map_of_mem hs
   ·exact .inl h
  ·exact .inl h
 ·exact .inl h
theorem aG.ff {X:Type} {base:Nat} {p:aG} {env:Env} {nx:Nat} {bl:ai} {ms:List Nat} {k:p.T->Option X} {r:X} (h:p.rd none (List.range base) base env nx bl ms k=some r) :
  ∃x π,k x=some r/\mB base π ⟨env,⟨nx,bl⟩,ms⟩ (p.st base x):=by
 rcases aG.Ii h with h|h
 ·cases h
 ·exact h
end
end Go.AM
end
section
namespace Go.AM
@[reducible] def cP (k:IntKind) (z:Int):Bool:=k.min<=z&&z<=k.max
@[reducible] def gz (i n:Int):Bool:=decide (0<=i/\i<n)
@[reducible] def X4 (a b:Int):Int:=if b<a then b else a
@[reducible] def imax (a b:Int):Int:=if b > a then b else a
@[reducible] def seq (a b:ByteArray):Bool:=a.toList==b.toList
@[reducible] def slt (a b:ByteArray):Bool:=Op.bytesLess a.toList b.toList
@[reducible] def Kn (c a b:Bool):Bool:=if c then a else b
def BD : Ex → Ex → Bool
 | .normal,.normal=>true
 | .exit a,.exit b=>Nat.beq a b
 | .ret,.ret=>true
 |_,_=>false
theorem Ij {a b:Ex} (h:BD a b=true):a=b:=by
 cases a<;>cases b<;>simp only [BD,Bool.false_eq_true] at h<;>try rfl
 rw [Nat.eq_of_beq_eq_true h]
abbrev bt:=List (Ex×aG)
def bt.T : bt → Type
 |[]=>Empty
 |[(_,p)]=>p.T
 |(_,p)::q::r=>p.T ⊕ bt.T (q::r)
def bt.st (base : Nat) : (xs : bt) → xs.T → Ex × St
 |[],x=>nomatch x
 |[(e,p)],x=>(e,p.st base x)
 |(_,_)::q::r,.inr y=>bt.st base (q::r) y
 |(e,p)::_::_,.inl x=>(e,p.st base x)
section
variable {R:Type}
def O5 : List V → (List V → R) → R
 |[],k=>k []
 |v::r,k=>fV v fun v=>O5 r fun r=>k (v::r)
theorem kG : ∀ (l : List V) (k : List V → R), O5 l k = k l
 |[],k=>rfl
 |v::r,k=>by simp only [O5,ij,kG r]
def K4 : Env → (Env → R) → R
 |[],k=>k []
 |(s,v)::r,k=>fV v fun v=>K4 r fun r=>k ((s,v)::r)
theorem r9 : ∀ (l : Env) (k : Env → R), K4 l k = k l
 |[],k=>rfl
 |(s,v)::r,k=>by simp only [K4,ij,r9 r]
def Y8 (b:jE) (k:jE->R):R:=match b with
 | .cells cs fz=>O5 cs fun cs=>k (.cells cs fz)
 | .arr t xs fz=>k (.arr t xs fz)
 | .loop st j d env ps as bd N=>K4 env fun env=>k (.loop st j d env ps as bd N)
 | .fC=>k .fC
 | .map kt kg vt vg es=>k (.map kt kg vt vg es)
 | .j8 t xs i p v=>fV v fun v=>k (.j8 t xs i p v)
theorem TH (b:jE) (k:jE->R):Y8 b k=k b:=by cases b<;>simp only [Y8,kG,r9,ij]
def fBl : ai → (ai → R) → R
 |[],k=>k []
 |(s,b)::r,k=>Y8 b fun b=>fBl r fun r=>k ((s,b)::r)
theorem BE : ∀ (l : ai) (k : ai → R), fBl l k = k l
 |[],k=>rfl
 |(s,b)::r,k=>by simp only [fBl,TH,BE r]
def aG.go (p:aG) (nx:Nat) (x:p.T) (k:Env->Nat->ai->List Nat->R):R:=K4 (p.E x) fun env=>fBl (p.B x) fun bl=>k env nx bl p.ms
theorem aG.go_eq (p:aG) (nx:Nat) (x:p.T) (k:Env->Nat->ai->List Nat->R):p.go nx x k=k (p.E x) nx (p.B x) p.ms:=by
 unfold aG.go;rw [r9,BE]
def bt.go (kz : Kz R) (base : Nat) : (xs : bt) → xs.T → Kc R → R
 |[],x,_=>nomatch x
 |[(e,p)],x,k=>fN (base+p.eM.length) fun nx=>p.go nx x (k e)
 |(e,p)::q::r,x,k=>kz.sm x (fun x=>fN (base+p.eM.length) fun nx=>p.go nx x (k e)) fun y=>bt.go kz base (q::r) y k
end
theorem bt.DE {X:Type} {base:Nat}:∀{xs:bt} {x:xs.T} {k:Kc (Option X)} {r:X},xs.go (jv X) base x k=some r ->
  k (xs.st base x).1 (xs.st base x).2.env (xs.st base x).2.H.next (xs.st base x).2.H.bl (xs.st base x).2.ms=some r
 |[],x,_,_,_=>nomatch x
 |[(e,p)],x,k,r,h=>by
  simp only [bt.go,eY] at h
  exact (aG.go_eq p _ (show p.T from x) (k e)).symm.trans h
 |(e,p)::q::s,x,k,r,h=>by
  simp only [bt.go,jv] at h
  cases x with
  |inl x =>
   simp only [eY] at h
   rw [aG.go_eq] at h
   exact h
  |inr y=>exact bt.DE (xs:=q::s) (x:=y) h
def bt.rd {R : Type} (no : R) (pre : List Nat) (base : Nat) : (xs : bt) → Ex → Env → Nat → ai → List Nat → (xs.T → R) → R
 |[],_,_,_,_,_,_=>no
 |[(e',p)],e,env,nx,bl,ms,k=>match BD e' e with
  |true=>p.rd no pre base env nx bl ms k
  |false=>no
 |(e',p)::q::r,e,env,nx,bl,ms,k=>match BD e' e with
  |true=>p.rd (bt.rd no pre base (q::r) e env nx bl ms fun x=>k (.inr x)) pre base env nx bl ms fun x=>k (.inl x)
  |false=>bt.rd no pre base (q::r) e env nx bl ms fun x=>k (.inr x)
theorem bt.ff {X:Type} {base:Nat} {env:Env} {nx:Nat} {bl:ai} {ms:List Nat}:∀{xs:bt} {e:Ex} {k:xs.T->Option X} {r:X},xs.rd none (List.range base) base e env nx bl ms k=some r ->
  ∃x π,k x=some r/\e=(xs.st base x).1/\mB base π ⟨env,⟨nx,bl⟩,ms⟩ (xs.st base x).2
 |[],_,_,_,h=>by simp [bt.rd] at h
 |[(e',p)],e,k,r,h=>by
  simp only [bt.rd] at h
  split at h<;>try (cases h;done)
  rename_i he
  obtain ⟨x,π,h1,h2⟩:=aG.ff h
  exact ⟨x,π,h1,(Ij he).symm,h2⟩
 |(e',p)::q::s,e,k,r,h=>by
  simp only [bt.rd] at h
  split at h
  ·rename_i he
   rcases aG.Ii h with h|⟨x,π,h1,h2⟩
   ·obtain ⟨x, π, h1, h2, h3⟩ := bt.ff (xs := q :: s) h
    exact ⟨.inr x,π,h1,h2,h3⟩
   ·exact ⟨.inl x,π,h1,(Ij he).symm,h2⟩
  ·obtain ⟨x, π, h1, h2, h3⟩ := bt.ff (xs := q :: s) h
   exact ⟨.inr x,π,h1,h2,h3⟩
def Xp {R:Type} (no:R) (pre:List Nat) (base:Nat) (p:aG) (xs:bt) (inl:p.T->R) (inr:xs.T->R):Kc R:=fun e env nx bl ms=>match e with
 | .normal=>p.rd no pre base env nx bl ms inl
 | .exit i=>xs.rd no pre base (.exit i) env nx bl ms inr
 | .ret=>xs.rd no pre base .ret env nx bl ms inr
def BG {P:Program} {N:Nat} {out:Option Nat} {base:Nat} {R:Type} (kz:Kz R) (cx:Cx) (ar:Ar) (pre:List Nat) (p:aG) (xs:bt) (body:D P N out base) (inl:p.T->R) (inr:xs.T->R) (x:p.T):R :=
 fN (base+p.eM.length) fun nx=>p.go nx x fun env nx bl ms=>kE kz cx ar body env nx bl ms (Xp kz.no pre base p xs inl inr)
section
variable {P:Program} {N:Nat} {out:Option Nat} {base:Nat}
theorem ab9 {xs:bt} (h:xs.all (fun p => !BD p.1 .normal)=true):∀x:xs.T,(xs.st base x).1 ≠ .normal:=by
 induction xs with
 |nil=>intro x;exact nomatch x
 |cons p r ih =>
  obtain ⟨e,p⟩:=p
  simp only [List.all_cons,Bool.and_eq_true] at h
  have he:e ≠ .normal:=fun e'=>by subst e';simp [BD] at h
  cases r with
  |nil=>intro x;exact he
  |cons q s =>
   intro x
   cases x with
   |inl x=>exact he
   |inr y=>exact ih h.2 y
noncomputable def bu (mixed : P.follows .mixedOrders = true) (cx : Cx) (dh : cx.Ok P) (pre : List Nat) (hpre : pre = List.range base) (p : aG) (xs : bt) (hxs : xs.all (fun p => !BD p.1 .normal) = true) (body : D P N out base)
  (step:p.T->Option (p.T ⊕ xs.T)) (hstep:∀x,BG (jv (p.T ⊕ xs.T)) cx bW pre p xs body (fun y=>some (.inl y)) (fun b=>some (.inr b)) x=step x):bK P N out base where
 c:=body.er
 run kz env nx bl ms K:=p.rd kz.no pre base env nx bl ms fun x=>kz.bd (iter step x) fun b=>xs.go kz base b K
 ok:=by
  intro X env nx bl ms K r h Q hQ
  subst hpre
  obtain ⟨x,π,h1,h2⟩:=aG.ff h
  obtain ⟨b,h3,h4⟩:=rW h1
  have h5:=bt.DE h4
  refine KS (eK mixed) (I:=p.st base) (X:=xs.st base) (step:=step) (fun x r hx=>?_) h3 h2 (hQ _ _ _ _ _ h5)
  rw [<-hstep x] at hx
  unfold BG at hx
  rw [eY,aG.go_eq] at hx
  refine lf dh hx fun e env nx bl ms hk=>?_
  unfold Xp at hk
  cases e with
  |normal =>
   obtain ⟨y,π,q1,q2⟩:=aG.ff hk
   cases q1
   exact ⟨rfl,π,q2⟩
  |exit i =>
   obtain ⟨y,π,q1,q2,q3⟩:=bt.ff hk
   cases q1
   exact ⟨by simp,q2,π,q3⟩
  |ret =>
   obtain ⟨y,π,q1,q2,q3⟩:=bt.ff hk
   cases q1
   exact ⟨by simp,q2,π,q3⟩
def qC : List SP → Type → Type
 |[],A=>A
 |p::r,A=>p.T (qC r A)
def DF {A : Type} : (ps : List SP) → qC ps A → List V
 |[],_=>[]
 |p::r,x=>p.v x::DF r (p.r x)
def Y9 {A : Type} : (ps : List SP) → qC ps A → A
 |[],x=>x
 |p::r,x=>Y9 r (p.r x)
def Ad {A : Type} (π : List Nat) : (ps : List SP) → List V → Option (A → qC ps A)
 |[],[]=>some fun a=>a
 |p::r,v::vs=>match SP.rd (A:=qC r A) π p v with
  |some f=>match Ad π r vs with
   |some g=>some fun a=>f (g a)
   |none=>none
  |none=>none
 |_,_=>none
theorem DG {π : List Nat} {A : Type} : ∀ {ps : List SP} {vs : List V} {f : A → qC ps A}, Ad π ps vs = some f → ∀ a, sU π (DF ps (f a)) vs ∧ Y9 ps (f a) = a
 |[],[],f,h,a=>by cases h;exact ⟨.nil,rfl⟩
 |c::r,v::vs,f,h,a=>by
  simp only [Ad] at h
  split at h<;>try (cases h;done)
  rename_i f1 h1
  split at h<;>cases h
  rename_i g h2
  obtain ⟨q1,q2⟩:=SP.r8 h1 (g a)
  obtain ⟨q3,q4⟩:=DG h2 a
  simp only [DF,Y9,q2]
  exact ⟨.cons q1 q3,q4⟩
 |[],_::_,f,h,a=>by simp [Ad] at h
 |_::_,[],f,h,a=>by simp [Ad] at h
structure Ct where
 f:Nat
 ps:List SP
 res:SP
 fn:qC ps Unit->Option (res.T Unit)
def Ct.Ok (P:Program) (ct:Ct):Prop:=∀x y,ct.fn x=some y->dy P ct.f (DF ct.ps x) (ct.res.v y)
theorem sg {π:List Nat}:Mu.gE (fun _=>none) π=fun _=>none:=by
 funext i;simp only [Mu.gE];cases π[i]?<;>rfl
theorem adG {f:Nat} {vs vs':List V} {v v':V} {π π':List Nat} (h:dy P f vs v) (ha:sU π vs vs') (hr:EV π' v' v):dy P f vs' v':=by
 refine ⟨h.1,fun ι w as S4 hrd hl=>?_⟩
 have hl':aR ι (fun _=>none) vs as.toList:=by
  have:=aR.gE (π:=π) ha.1 (fun i v u hv hu=>fun {x} hr=>(ha.2 i v u hv hu).rel hr) hl
  rwa [sg] at this
 refine (h.2 ι w as S4 hrd hl').mono ?_
 rintro e w' ⟨x,ι',h1,h2,h3,h4,h5,h6⟩
 refine ⟨x,ι',h1,h2,h3,h4,h5,?_⟩
 have:=hr.rel h6
 rwa [sg] at this
theorem EV.Ae : ∀ {n : Nat} {v : V}, cJ n v = true → EV [] v v
 |0,v,h=>by simp [cJ] at h
 |n+1,v,h=>by
  have g:∀{cs:List V},cs.all (cJ n)=true->∀(i:Nat) v u,cs[i]?=some v->cs[i]?=some u->EV [] v u:=fun hc i v u hv hu=>by
   rw [hv] at hu;cases hu
   exact EV.Ae (List.all_eq_true.1 hc _ (List.mem_of_getElem? hv))
  cases v<;>simp only [cJ,Bool.and_eq_true,Bool.false_eq_true] at h<;>try (constructor;done)
  case av cs=>exact .av _ _ rfl (g h)
  case fn f a b=>exact .fn _ _ _ _ _ rfl (g h.1) rfl (g h.2)
  case agg cs=>exact .agg _ _ rfl (g h)
  case cG cs=>exact .cG _ _ rfl (g h)
  case bU t v=>exact .bU _ _ _ (EV.Ae h)
theorem BH {f:Nat} {vs vs':List V} {v:V} {nx:Nat} {bl:ai} (h:dy P f vs' v) (hm:cL (fin bW bl 8) vs=some vs') (hs:A2 v=true) {Q:V->aO->Prop} (hQ:Q v ⟨nx,bl⟩):dB P f vs ⟨nx,bl⟩ Q:=by
 refine ⟨h.1,fun Y ι μ w as hI hl=>?_⟩
 refine (h.2 (ι.all Y.own w) w as (hI.c8.mono (aB.wM hI.rd)) (fun b o x hx=>?_) (js (fun v r x h hr=>rL (fun _ _ _=>rfl) hI h hr) hm hl)).mono ?_
 ·exact aB.Bd hI.rd hx
 ·rintro e w' ⟨x, ι', rfl, _, _, _, jT, wE⟩
  exact ⟨x,ι,μ,v,_,rfl,aB.le_refl _,Mu.le_refl _,hI.called (aB.le_refl _) (fun _ _ _=>rfl) (gH.kept (fun b o x hx=>hI.rd b o x hx) jT) jT,Di hs wE,hQ⟩
def BI {R : Type} (kz : Kz R) (f : Nat) (vs : List V) (K : V → R) : List Ct → R
 |[]=>kz.no
 |ct::r=>match Nat.beq ct.f f with
  |true=>match Ad (A:=Unit) [] ct.ps vs with
   |some g=>kz.bd (ct.fn (g ())) fun y=>ct.res.kv kz y K
   |none=>BI kz f vs K r
  |false=>BI kz f vs K r
def DH (P : Program) : List Ct → Prop
 |[]=>True
 |c::r=>c.Ok P/\DH P r
theorem pg {X : Type} {f : Nat} {vs : List V} {K : V → Option X} {r : X} : ∀ {vz : List Ct}, DH P vz → BI (jv X) f vs K vz = some r → ∃ v, dy P f vs v ∧ K v = some r
 |[],_,hk=>by cases hk
 |ct::vz,h,hk=>by
  simp only [BI] at hk
  split at hk
  ·rename_i hf
   have e:=Nat.eq_of_beq_eq_true hf
   subst e
   split at hk
   ·rename_i g hg
    obtain ⟨y,hy,hk⟩:=dx hk
    rw [SP.adE] at hk
    obtain ⟨q1,_⟩:=DG hg ()
    refine ⟨_,?_,hk⟩
    have hp:=h.1 _ _ hy
    exact ⟨hp.1, fun ι w as S4 hrd hl => hp.2 ι w as S4 hrd (by
     have:=aR.gE (π:=[]) q1.1 (fun i v u hv hu=>fun {x} hr=>(q1.2 i v u hv hu).rel hr) hl
     rwa [sg] at this)⟩
   ·exact pg h.2 hk
  ·exact pg h.2 hk
theorem K6 {f:Nat} {vs vs':List V} {v:V} {nx:Nat} {bl bO:ai} (h:dy P f vs' v) (hm:cL (fin bW bl 8) vs=some vs') (hb:uP (jn bl vs) bl=some bO) {Q:V->aO->Prop} (hQ:Q v ⟨nx,bO⟩):dB P f vs ⟨nx,bl⟩ Q:=by
 refine ⟨h.1,fun Y ι μ w as hI hl=>?_⟩
 obtain ⟨ι',h1,h2,h3⟩:=vo hI hb
 have hl':aR ι' (fun _=>none) vs' as.toList:=by
  have key:∀{vs vs':List V} {xs:List Value},cL (fin bW bl 8) vs=some vs'->(∀id∈jn bl vs,yW ι' μ id (aq id bl))->aR ι μ vs xs->aR ι' (fun _=>none) vs' xs:=by
   intro vs
   induction vs with
   |nil=>intro vs' xs hm _ hl;cases hm;rw [hl.of_nil];exact .nil
   |cons v r ih =>
    intro vs' xs hm hfz hl
    unfold cL at hm
    split at hm<;>try (cases hm;done)
    rename_i u hu
    split at hm<;>cases hm
    rename_i us HJ
    obtain ⟨x,xs',rfl,r1,r2⟩:=hl.cA
    simp only [jn,List.flatMap_cons,List.mem_append] at hfz
    exact .cons (Bh hu (fun id hid=>hfz id (.inl hid)) (r1.mono h1 (Mu.le_refl _))) (ih HJ (fun id hid=>hfz id (.inr hid)) r2)
  exact key hm h3 hl
 refine (h.2 ι' w as h2.c8 (fun b o x hx=>h2.rd b o x hx) hl').mono ?_
 rintro e w' ⟨x,ι2,rfl,hi,KG,hrd,jT,wE⟩
 exact ⟨x,ι2,μ,v,_,rfl,aB.le_trans h1 hi,Mu.le_refl _,h2.called hi KG hrd jT,wE.mono (aB.le_refl _) (fun _ _ h=>by cases h),hQ⟩
def TI {R:Type} (vz:List Ct) (kz:Kz R) (f:Nat) (vs:List V) (nx:Nat) (bl:ai) (K:V->Nat->ai->R):R:=match vs.all (cJ 8) with
 |true=>BI kz f vs (fun v=>K v nx bl) vz
 |false=>match cL (fin bW bl 8) vs with
  |some vs'=>BI kz f vs' (fun v=>match A2 v with
   |true=>K v nx bl
   |false=>match uP (jn bl vs) bl with
    |some bO=>fBl bO fun bO=>K v nx bO
    |none=>kz.no) vz
  |none=>kz.no
def mkCx (vz:List Ct):Cx where
 pc kz f vs K:=BI kz f vs K vz
 ca kz f vs nx bl K:=TI vz kz f vs nx bl K
 rd kz _ _ _ _ _:=kz.no
theorem TJ {vz:List Ct} (h:DH P vz):(mkCx vz).Ok P where
 Ic hk:=pg h hk
 E0:=by
  intro X f vs nx bl K r hk Q hQ
  simp only [mkCx,TI] at hk
  split at hk
  ·rename_i hd
   obtain ⟨v,hp,hk⟩:=pg h hk
   exact wQ hp hd (hQ _ _ _ hk)
  ·split at hk <;> try (cases hk; done)
   rename_i vs' hm
   obtain ⟨v,hp,hk⟩:=pg h hk
   split at hk
   ·rename_i hs
    exact BH hp hm hs (hQ _ _ _ hk)
   ·split at hk <;> try (cases hk; done)
    rename_i bO hb
    rw [BE] at hk
    exact K6 hp hm hb (hQ _ _ _ hk)
 OE hk:=by cases hk
 Nf hk:=.inl hk
def Za {R:Type} (kz:Kz R) (ar:Ar) (rs:List RV) (tys:List (Option Ty)) (res:SP) (k:res.T Unit->R):Kc R:=fun e env nx bl ms=>match e with
 | .exit _=>kz.no
 | .normal=>go env nx bl ms
 | .ret=>go env nx bl ms
where go (env:Env) (nx:Nat) (bl:ai) (ms:List Nat):R:=match ej ms bl with
 |some bl=>match rK ar ⟨env,⟨nx,bl⟩,[]⟩ rs with
  |some vs=>match fin ar bl 8 (nJ (cw tys vs)) with
   |some v=>match SP.rd (A:=Unit) [] res v with
    |some f=>k (f ())
    |none=>kz.no
   |none=>kz.no
  |none=>kz.no
 |none=>kz.no
def fnE {R:Type} (kz:Kz R) (cx:Cx) (ar:Ar) (rs:List RV) (tys:List (Option Ty)) (ps:List SP) (res:SP) (body:D P N none 0) (k:res.T Unit->R) (x:qC ps Unit):R :=
 O5 (DF ps x) fun vs=>kE kz cx ar body (args 0 vs) 0 [] [] (Za kz ar rs tys res k)
theorem Af {f : Nat} {func : Func} {fn : Fn} (hf : P.funcs[f]? = some func) (fP : cN P func = some fn) (hent : e9 P f) (cY : gT P fn.N none 0) {vs : List V} {r : V} (hlen : vs.length ≤ fn.np)
  (h:lW (cS P fn.N none 0) fn.body ⟨args 0 vs,⟨0,[]⟩,[]⟩ (uZ (cS P fn.N none 0) fn.res fn.tys (fun r'=>EV [] r r'))):dy P f vs r:=by
 refine ⟨hent,fun ι w as S4 hrd hr=>?_⟩
 let Y:Ctx:=⟨w,ι,fun _=>none,none,fun _=>False,[]⟩
 have hI:Inv P Y ι (fun _=>none) ⟨0,[]⟩ w:=⟨HA.refl _ _,aB.le_refl _,fun _ _ _ _=>rfl,hrd,fun id L h=>h,fun _ _=>rfl,fun id B h=>by simp [aq] at h,fun id id' B B' L L' h=>by simp [aq] at h,fun id B h=>by simp [aq] at h,S4⟩
 have hres:Ku P func.results.toList=some fn.res:=by
  unfold cN at fP
  split at fP<;>try (cases fP;done)
  split at fP<;>try (cases fP;done)
  rename_i hrs
  split at fP<;>try (cases fP;done)
  cases fP;exact hrs
 refine Be (Y:=Y) hf fP cY hlen h rfl rfl (fun _ _=>rfl) hI hr fun Y1 ι' μ' S' a' w' e' hY hR hq=>?_
 have key:uZ.kr (cS P fn.N none 0) fn.res fn.tys (fun r'=>EV [] r r') S'->LeavesInM Fence.wide 0 P func a'.tmps (fun e w'=>∃v ι',e = .returned v/\ι.le ι'/\(∀b o,b<w.heap.size->ι' b o=ι b o)/\gH ι' w' /\
   Dw w w'/\Rel ι' (fun _=>none) r v) a'.defers .returning w':=by
  intro hs
  unfold uZ.kr at hs
  split at hs<;>try (exact hs.elim)
  rename_i bl sS
  split at hs<;>try (exact hs.elim)
  rename_i vs' hvs
  split at hs<;>try (exact hs.elim)
  rename_i r' Yp
  refine me hres (n:=S'.H.next) (bl:=S'.H.bl) hY rfl hR.inv hR.env hR.ms sS hvs fun x w2 mP hx=>?_
  refine ⟨x,ι'.all Y.own w2,rfl,aB.le_trans mP.i0 (aB.wM mP.rd),fun b o hb=>?_,fun b o y hy=>?_,mP.below.to (fun _ h=>h),?_⟩
  ·rw [aB.HP (fun h=>by rcases h with h|h;exact absurd hb (Nat.not_lt.2 h);exact h)];exact mP.iB b o hb (fun h=>h)
  ·exact aB.Bd mP.rd hy
  ·have := hs.rel (rL (Y := Y) (ar := cS P fn.N none 0) (fun _ _ _ => rfl) mP Yp (hx fn.tys))
   rwa [sg] at this
 cases e' with
 |exit id=>exact hq.elim
 |normal=>exact ⟨.inl rfl,key hq⟩
 |ret=>exact ⟨.inr rfl,key hq⟩
theorem bn (mixed : P.follows .mixedOrders = true) {cx : Cx} (dh : cx.Ok P) {func : Func} {fn : Fn} {ct : Ct} (hf : P.funcs[ct.f]? = some func) (fP : cN P func = some fn) (hent : e9 P ct.f)
  (body:D P fn.N none 0) (hbody:body.er=fn.body) (hnp:Nat.ble ct.ps.length fn.np=true) (hfn:∀x,fnE (jv (ct.res.T Unit)) cx bW fn.res fn.tys ct.ps ct.res body some x=ct.fn x):ct.Ok P:=by
 intro x y hxy
 rw [<-hfn x] at hxy
 unfold fnE at hxy
 rw [kG] at hxy
 have hlen:∀(ps:List SP) (x:qC ps Unit),(DF ps x).length=ps.length:=by
  intro ps
  induction ps with
  |nil=>intro x;rfl
  |cons p r ih=>intro x;simp [DF,ih]
 have hwp:=lf (Q:=uZ (cS P fn.N none 0) fn.res fn.tys (fun r=>EV [] (ct.res.v y) r)) dh hxy (fun e env nx bl ms hk=>by
  have key:Za.go (jv (ct.res.T Unit)) bW fn.res fn.tys ct.res some env nx bl ms=some y->uZ.kr (cS P fn.N none 0) fn.res fn.tys (fun r=>EV [] (ct.res.v y) r) ⟨env,⟨nx,bl⟩,ms⟩:=by
   intro hg
   unfold Za.go at hg
   unfold uZ.kr
   split at hg<;>try (cases hg;done)
   rename_i bO h1
   rw [h1]
   simp only
   split at hg<;>try (cases hg;done)
   rename_i vs h2
   rw [h2]
   simp only
   have e:fin (cS P fn.N none 0) bO 8 (nJ (cw fn.tys vs))=fin bW bO 8 (nJ (cw fn.tys vs)):=by unfold cS;exact od
   rw [e]
   split at hg<;>try (cases hg;done)
   rename_i v h3
   rw [h3]
   simp only
   split at hg<;>try (cases hg;done)
   rename_i f h4
   cases hg
   exact (SP.r8 h4 ()).1
  cases e with
  |exit i=>cases hk
  |normal=>exact key hk
  |ret=>exact key hk)
 rw [hbody] at hwp
 exact Af hf fP hent (eK mixed) (by rw [hlen];exact Nat.le_of_ble_eq_true hnp) hwp
end
end Go.AM
end
section
namespace Go.AM
section
variable {P:Program} {N:Nat} {out:Option Nat} {base:Nat} {π:List Nat}
theorem Ik {c:Code} {S S':St} {Q:Ex->St->Prop} (h:Fo P N out base c S' Q) (he:mB base π S S'):Fo P N out base c S Q :=
 fun Y ι μ a w ho hb hR=>h Y ι _ a w ho hb (he.rep hb hR)
theorem DI {c:Code} {S:St} {Q:Ex->St->Prop} (h:Fo P N out base c S fun e S'=>∃E1 π,mB base π S' E1/\Q e E1):Fo P N out base c S Q :=
 fun Y ι μ a w ho hb hR=>wpIn_mono (h Y ι μ a w ho hb hR) fun e a w hp=>by
  obtain ⟨Y1,hY,ι,μ,S',e',h1,h2,E1,π,h3,h4⟩:=hp
  exact ⟨Y1,hY,ι,_,E1,e',h3.rep (hY.wF hb) h1,h2,h4⟩
def xE {R : Type} : List Nat → List V → Env → (Env → R) → R
 |p::ps,v::vs,env,k=>fV v fun v=>xE ps vs ((p,v)::env) k
 |_,_,env,k=>k env
theorem tS {R : Type} : ∀ (ps : List Nat) (vs : List V) (env : Env) (k : Env → R), xE ps vs env k = k (uS ps vs env)
 |[],vs,env,k=>by cases vs<;>rfl
 |p::ps,[],env,k=>rfl
 |p::ps,v::vs,env,k=>by simp only [xE,ij];rw [tS ps vs];rfl
def Ag {R:Type} (kz:Kz R) (qD:Nat) (K:V->Nat->ai->R):Kc R:=fun e _ nx bl _=>match aq qD bl with
 |some (.loop .busy _ d env ps as bd N)=>oq qD bl fun bl=>match e with
  | .normal=>K (.tf true) nx ((qD,.loop .ready none d env ps as bd N)::bl)
  | .exit i=>K (.tf false) nx ((qD,.loop .done (some (.exit i)) d env ps as bd N)::bl)
  | .ret=>K (.tf false) nx ((qD,.loop .done (some .ret) d env ps as bd N)::bl)
 |_=>kz.no
theorem O6 {X : Type} {qD : Nat} {K : V → Nat → ai → Option X} {r : X} {e : Ex} {env : Env} {nx : Nat} {bl : ai} {ms : List Nat} (h : Ag (jv X) qD K e env nx bl ms = some r) {Q : V → aO → Prop}
  (hQ:∀v nx bl,K v nx bl=some r->Q v ⟨nx,bl⟩):mz qD Q e ⟨env,⟨nx,bl⟩,ms⟩:=by
 unfold Ag at h
 unfold mz
 simp only
 split at h<;>try (cases h;done)
 rename_i hb
 try rw [hb]
 try simp only
 rw [gJ] at h
 cases e<;>exact hQ _ _ _ h
def Il {R:Type} (kz:Kz R) (cx:Cx) (ar:Ar) (qD DJ:Nat) (ps:List Nat) (asD bdD:D P N (some qD) DJ) (id:Nat) (vs:List V) (nx:Nat) (bl:ai) (K:V->Nat->ai->R):R :=
 match an (Nat.beq id qD) (Nat.beq nx DJ) with
 |true=>match aq qD bl with
  |some (.loop .ready none _ env ps' as bd N')=>match an (Nat.beq vs.length ps'.length) (an (Nat.beq N' N) (an (jH as asD.er) (jH bd bdD.er))) with
   |true=>xE ps' vs env fun env=>kE kz cx ar asD env nx bl [] fun e env nx bl ms=>match e with
    | .normal=>match aq qD bl with
     |some (.loop .ready none d' env' ps' as' Nb N')=>oq qD bl fun bl=>kE kz cx ar bdD env nx ((qD,.loop .busy none d' env' ps' as' Nb N')::bl) ms (Ag kz qD K)
     |_=>kz.no
    |_=>kz.no
   |false=>kz.no
  |_=>kz.no
 |false=>kz.no
theorem jI (mixed : P.follows .mixedOrders = true) {cx : Cx} (dh : cx.Ok P) {qD DJ : Nat} {ps : List Nat} {asD bdD : D P N (some qD) DJ} {id : Nat} {vs : List V} {nx : Nat} {bl : ai} {X : Type}
  {K:V->Nat->ai->Option X} {r:X} (h:Il (jv X) cx bW qD DJ ps asD bdD id vs nx bl K=some r) {Q:V->aO->Prop} (hQ:∀v nx bl,K v nx bl=some r->Q v ⟨nx,bl⟩):around P id vs ⟨nx,bl⟩ Q:=by
 unfold Il at h
 split at h<;>try (cases h;done)
 rename_i h1
 rw [aX] at h1
 have e1:=Nat.eq_of_beq_eq_true h1.1
 have e2:=Nat.eq_of_beq_eq_true h1.2
 subst e1;subst e2
 split at h<;>try (cases h;done)
 rename_i d env ps' as bd N' hb
 split at h<;>try (cases h;done)
 rename_i h2
 simp only [aX] at h2
 obtain ⟨c1,c2,c3,c4⟩:=h2
 have e3:=Nat.eq_of_beq_eq_true c2
 have e4:=vr c3
 have e5:=vr c4
 have e6:=Nat.eq_of_beq_eq_true c1
 subst e3;subst e4;subst e5
 refine zR (fun N=>eK mixed) ?_
 unfold Bl
 simp only
 rw [hb]
 simp only
 refine ⟨e6,?_⟩
 rw [tS] at h
 refine lf dh h fun e env nx bl ms h=>?_
 cases e with
 |exit i=>cases h
 |ret=>cases h
 |normal =>
  simp only at h ⊢
  split at h<;>try (cases h;done)
  rename_i d' env' ps2 as' Nb N2 iw
  try rw [iw]
  try simp only
  rw [gJ] at h
  exact lf dh h fun e env nx bl ms h=>O6 h hQ
def tT (cx:Cx) (rd:{R:Type}->Kz R->Nat->List V->Nat->ai->(V->Nat->ai->R)->R):Cx where
 pc:=cx.pc
 ca:=cx.ca
 rd:=rd
 gc:=cx.gc
theorem gQ {cx : Cx} (dh : cx.Ok P) {rd : {R : Type} → Kz R → Nat → List V → Nat → ai → (V → Nat → ai → R) → R}
  (h:∀{X:Type} {id:Nat} {vs:List V} {nx:Nat} {bl:ai} {K:V->Nat->ai->Option X} {r:X},rd (jv X) id vs nx bl K=some r->∀{Q:V->aO->Prop},(∀v nx bl,K v nx bl=some r->Q v ⟨nx,bl⟩)->around P id vs ⟨nx,bl⟩ Q) :
  (tT cx rd).Ok P:=⟨fun hk=>dh.Ic hk,fun hk=>dh.E0 hk,fun hk=>h hk,fun hk=>dh.Nf hk⟩
def DK {R:Type} (kz:Kz R) (rs:List RV) (K:Nat->ai->R):Kc R:=fun e env nx bl ms=>match e with
 | .exit _=>kz.no
 | .normal=>go env nx bl ms
 | .ret=>go env nx bl ms
where go (env:Env) (nx:Nat) (bl:ai) (ms:List Nat):R:=match ej ms bl with
 |some bl=>match rK bW ⟨env,⟨nx,bl⟩,[]⟩ rs with
  |some _=>K nx bl
  |none=>kz.no
 |none=>kz.no
theorem si {X : Type} {rs : List RV} {tys : List (Option Ty)} {K : Nat → ai → Option X} {r : X} {e : Ex} {env : Env} {nx : Nat} {bl : ai} {ms : List Nat} (h : DK (jv X) rs K e env nx bl ms = some r) {Q : V → aO → Prop}
  (hQ:∀v nx bl,K nx bl=some r->Q v ⟨nx,bl⟩):oa rs tys Q e ⟨env,⟨nx,bl⟩,ms⟩:=by
 have key:DK.go (jv X) rs K env nx bl ms=some r->oa.kr rs tys Q ⟨env,⟨nx,bl⟩,ms⟩:=fun hg=>by
  unfold DK.go at hg
  unfold oa.kr
  split at hg<;>try (cases hg;done)
  rename_i bO h1
  simp only
  rw [h1]
  simp only
  split at hg<;>try (cases hg;done)
  rename_i vs h2
  rw [h2]
  exact hQ _ _ _ hg
 cases e with
 |exit i=>cases h
 |normal=>exact key h
 |ret=>exact key h
def Im {R : Type} (no : R) : List Nat → ai → (ai → R) → R
 |[],bl,K=>K bl
 |id::r,bl,K=>match aq id bl with
  |some .fC=>oq id bl fun bl=>Im no r bl K
  |_=>no
theorem xF {X : Type} {no : Option X} {r : X} (hno : no = none) : ∀ {sh : List Nat} {bl : ai} {K : ai → Option X}, Im no sh bl K = some r → ∃ bO, ej sh bl = some bO ∧ K bO = some r
 |[],bl,K,h=>⟨bl,rfl,h⟩
 |id::sh,bl,K,h=>by
  simp only [Im] at h
  simp only [ej]
  split at h
  ·rename_i hb
   rw [gJ] at h
   rw [hb]
   exact xF hno h
  ·rw [hno] at h;cases h
def DL {R:Type} (kz:Kz R) (qD:Nat) (env:Env) (sh ms:List Nat) (K:Kc R) (nx:Nat) (bl:ai):R:=match aq qD bl with
 |some (.loop st j _ _ _ _ _ _)=>match st with
  | .busy=>kz.no
  |_=>oq qD bl fun bl=>Im kz.no sh bl fun bl=>match j with
   |none=>K .normal env nx bl ms
   |some (.exit i)=>K (.exit i) env nx bl ms
   |some .ret=>K .ret env nx bl ms
   |some .normal=>kz.no
 |_=>kz.no
theorem vA {X : Type} {qD : Nat} {S : St} {sh : List Nat} {K : Kc (Option X)} {nx : Nat} {bl : ai} {r : X} (h : DL (jv X) qD S.env sh S.ms K nx bl = some r) {Q : Ex → St → Prop}
  (hQ:∀e env nx bl ms,K e env nx bl ms=some r->Q e ⟨env,⟨nx,bl⟩,ms⟩):fH qD sh S Q ⟨nx,bl⟩:=by
 unfold DL at h
 unfold fH
 simp only
 split at h<;>try (cases h;done)
 rename_i st j _ _ _ _ _ _ hb
 try rw [hb]
 try simp only
 split at h
 ·cases h
 ·rename_i hst
  rw [gJ] at h
  obtain ⟨bO,hs,h⟩:=xF rfl h
  have:w9 j ⟨S.env,⟨nx,bO⟩,S.ms⟩ Q:=by
   split at h
   ·exact hQ _ _ _ _ _ h
   ·exact hQ _ _ _ _ _ h
   ·exact hQ _ _ _ _ _ h
   ·cases h
  rw [hs]
  cases st<;>first|exact this|exact absurd rfl hst
def xG {R:Type} (kz:Kz R) (cx:Cx) (ar:Ar) (pre:List Nat) (p:aG) (xs:bt) (f:O) (ps:List Nat) (as bd:C) (rs:List RV) (np:Nat) (fid:Nat) {Nit dW:Nat} (Nh:D P Nit none dW) (inr:xs.T->R) (x:p.T):R :=
 fN (base+p.eM.length) fun nx=>p.go nx x fun env nx bl ms=>match f.ev env with
 | .fn O7 first cap=>match an (Nat.beq O7 fid) (Nat.ble (first++[V.any]++cap).length np) with
  |true=>match out with
   |none=>match ms with
    |_::_=>kz.no
    | [] => O5 (first ++ [.yl (nx + 1)] ++ cap) fun vs => kE kz cx ar Nh (args 0 vs) dW ((nx + 1, .loop .ready none nx env ps as bd N) :: (nx, .fC) :: bl) []
     (DK kz rs (DL kz (nx+1) env [nx] [] fun e env nx bl ms=>xs.rd kz.no pre base e env nx bl ms inr))
   |some HV=>match aq HV bl with
    | some (.loop _ _ d _ _ _ _ _) => O5 (first ++ [.yl nx] ++ cap) fun vs => kE kz cx ar Nh (args 0 vs) dW ((nx, .loop .ready none d env ps as bd N) :: bl) []
     (DK kz rs (DL kz nx env [] ms fun e env nx bl ms=>xs.rd kz.no pre base e env nx bl ms inr))
    |_=>kz.no
  |false=>kz.no
 |_=>kz.no
def O8 (c:C):bK P N out base where
 c:=c
 run kz _ _ _ _ _:=kz.no
 ok h:=by cases h
def K7 (f:O) (ps:List Nat) (a b:C):fJ P N out base where
 f:=f
 ps:=ps
 a:=a
 b:=b
 run kz _ _ _ _ _:=kz.no
 ok h:=by cases h
def TK (pre:List dD) (m:O) (it:Nat) (cl:List Nat) (e:Option Nat) (kt:Ty) (kg:Bool) (vt:Ty) (vg:Bool) (pJ:Nat) (b:C):K0 P N out base where
 pre:=pre
 m:=m
 it:=it
 cl:=cl
 e:=e
 kt:=kt
 kg:=kg
 vt:=vt
 vg:=vg
 pJ:=pJ
 b:=b
 run kz _ _ _ _ _:=kz.no
 ok h:=by cases h
noncomputable def O9 (mixed : P.follows .mixedOrders = true) (cx : Cx) (dh : cx.Ok P) (pre : List Nat) (hpre : pre = List.range base) (p : aG) (xs : bt) (f : O) (ps : List Nat) (hps : ps.all (Nat.blt · N) = true) (as bd : C)
  (fid:Nat) {func:Func} {fn:Fn} (hf:P.funcs[fid]?=some func) (fP:cN P func=some fn) (hent:e9 P fid) (dW:Nat) (iW:dW=base+p.eM.length+(match out with|none=>2|some _=>1))
  (Nh:D P fn.N none dW) (hit:Nh.er=fn.body) (RF:p.T->Option xs.T)
  (hRF:∀x,xG (N:=N) (out:=out) (base:=base) (jv xs.T) cx bW pre p xs f ps as bd fn.res fn.np fid Nh some x=RF x):xw P N out base f ps as bd where
 run kz env nx bl ms K:=p.rd kz.no pre base env nx bl ms fun x=>kz.bd (RF x) fun b=>xs.go kz base b K
 ok:=by
  intro X env nx bl ms K r h Q hQ
  subst hpre
  obtain ⟨x,π,h1,h2⟩:=aG.ff h
  obtain ⟨b,h3,h4⟩:=rW h1
  have h5:=bt.DE h4
  have hq:=hQ _ _ _ _ _ h5
  rw [<-hRF x] at h3
  unfold xG at h3
  rw [eY,aG.go_eq] at h3
  intro fo CE ao bo q1 q2 q3 q4
  refine Ik (DI ?_) h2
  refine ld (K:=fun e S'=>∃E1 π,mB base π S' E1/\Q e E1) ?_ fo CE ao bo q1 q2 q3 q4
  refine ⟨hps,?_⟩
  cases nI:f.ev (p.E x) with
  |fn O7 first cap=>?_
  |_=>rw [nI] at h3;cases h3
  have Zb:f.ev (p.st base x).env = .fn O7 first cap:=nI
  rw [Zb]
  rw [nI] at h3
  simp only at h3 ⊢
  split at h3<;>try (cases h3;done)
  rename_i hc
  rw [aX] at hc
  have e1:=Nat.eq_of_beq_eq_true hc.1
  have e2:=Nat.le_of_ble_eq_true hc.2
  subst e1
  have hlen:∀v:V,(first++[v]++cap).length<=fn.np:=fun v=>by simpa using e2
  have hout:∀e env nx bl ms,xs.rd none (List.range base) base e env nx bl ms some=some b->∃E1 π,mB base π ⟨env,⟨nx,bl⟩,ms⟩ E1/\Q e E1:=fun e env nx bl ms hk=>by
   obtain ⟨y,π,r1,r2,r3⟩:=bt.ff hk
   cases r1
   exact ⟨_,π,r3,by rw [r2];exact hq⟩
  cases out with
  |none =>
   simp only at h3 iW ⊢
   split at h3
   ·cases h3
   rename_i SW
   rw [kG] at h3
   refine ⟨SW,?_⟩
   subst iW
   refine iA hf fP hent (eK mixed) (hlen _) ?_
   rw [<-hit]
   refine lf dh h3 fun e env nx bl ms hk=>?_
   exact si hk fun v nx bl hk => vA (S := p.st base x) (by
    have e:(p.st base x).ms=[]:=SW
    rw [e];exact hk) hout
  |some HV =>
   simp only at h3 iW ⊢
   split at h3<;>try (cases h3;done)
   rename_i hb
   rw [kG] at h3
   have hb':aq HV (p.st base x).H.bl=_:=hb
   simp only [aG.st] at hb' ⊢
   rw [hb']
   simp only
   subst iW
   refine iA hf fP hent (eK mixed) (hlen _) ?_
   rw [<-hit]
   refine lf dh h3 fun e env nx bl ms hk=>?_
   exact si hk fun v nx bl hk=>vA (S:=p.st base x) hk hout
noncomputable def gR (mixed : P.follows .mixedOrders = true) (cx : Cx) (dh : cx.Ok P) (pre : List Nat) (hpre : pre = List.range base) (p : aG) (xs : bt) (f : O) (ps : List Nat) (hps : ps.all (Nat.blt · N) = true) (as bd : C)
  (fid:Nat) {func:Func} {fn:Fn} (hf:P.funcs[fid]?=some func) (fP:cN P func=some fn) (hent:e9 P fid) (dW:Nat) (iW:dW=base+p.eM.length+(match out with|none=>2|some _=>1))
  (Nh:D P fn.N none dW) (hit:Nh.er=fn.body) (RF:p.T->Option xs.T)
  (hRF:∀x,xG (N:=N) (out:=out) (base:=base) (jv xs.T) cx bW pre p xs f ps as bd fn.res fn.np fid Nh some x=RF x):fJ P N out base :=
 (O9 mixed cx dh pre hpre p xs f ps hps as bd fid hf fP hent dW iW Nh hit RF hRF).s
end
end Go.AM
end
section
namespace Go.AM
theorem xH {σ : List Nat} {ι : aB} {μ μ' : Mu} (hσ : ∀ j i L, σ[j]? = some i → μ j = some L → μ' i = some L) : ∀ {n : Nat} {v u : V} {x : Value}, ir σ n v = some u → Rel ι μ v x → Rel ι μ' u x
 |0,v,u,x,h,_=>by cases h
 |n+1,v,u,x,h,hr=>by
  have g:∀v u x,ir σ n v=some u->Rel ι μ v x->Rel ι μ' u x:=fun v u x h hr=>xH hσ h hr
  have lift:∀{cs ds:List V} {xs:Array Value},cL (ir σ n) cs=some ds->cs.length=xs.size->(∀(i:Nat) v x,cs[i]?=some v->xs[i]?=some x->Rel ι μ v x)->aR ι μ' ds xs.toList :=
   fun hm h1 h2=>js g hm ⟨by simpa using h1,fun i v x hv hx=>h2 i v x hv (by simpa using hx)⟩
  cases hr<;>simp only [ir] at h
  case any=>cases h;exact .any _
  case tf=>cases h;exact .tf _
  case bool=>cases h;exact .bool _
  case int=>cases h;exact .int _ _
  case str=>cases h;exact .str _
  case eJ=>cases h;exact .eJ
  case cu=>cases h;exact .cu
  case cK=>cases h;exact .cK
  case eG t xs hd=>cases h;exact .eG t xs _ hd
  case kO t xs a hd=>cases h;exact .kO t xs a hd
  case bA=>cases h;exact .bA
  case sl id t lo m cap L hL h1 h2 h3 =>
   split at h<;>try (cases h;done)
   rename_i i hi;cases h
   exact .sl i t lo m cap L (hσ _ _ _ hi hL) h1 h2 h3
  case cg id t lo a =>
   split at h<;>try (cases h;done)
   cases h;exact .cg _ _ _ _
  case ptr id off L hL =>
   split at h<;>try (cases h;done)
   rename_i i hi;cases h
   exact .ptr i off L (hσ _ _ _ hi hL)
  case ep id t j p L hL =>
   split at h<;>try (cases h;done)
   rename_i i hi;cases h
   exact .ep i t j p L (hσ _ _ _ hi hL)
  case yl id L hL =>
   split at h<;>try (cases h;done)
   rename_i i hi;cases h
   exact .yl i L (hσ _ _ _ hi hL)
  case av cs b o gf h1 h2 h3 =>
   split at h<;>try (cases h;done)
   rename_i ds hds;cases h
   have hR:aR ι μ cs ((List.range cs.length).map gf):=⟨by simp,fun i v x hv hx=>by
    have hi:=(List.getElem?_eq_some_iff.1 hv).1
    simp [hi] at hx;subst hx;exact h2 i v hv⟩
   have fU:=js g hds hR
   have hl:ds.length=cs.length:=by have:=fU.1;simpa using this
   exact .av ds b o gf (fun i hi => h1 i (by omega)) (fun i v hv => fU.2 i v (gf i) hv (by
    have hi:=(List.getElem?_eq_some_iff.1 hv).1
    simp [show i<cs.length by omega])) h3
  case ip t y b o us h1 h2=>cases h;exact .ip t y b o us h1 h2
  case fn f fs cs xs ys h1 h2 h3 h4 =>
   split at h<;>try (cases h;done)
   rename_i as ha
   split at h<;>try (cases h;done)
   rename_i bs hb;cases h
   have r1:=lift ha h1 h2
   have r2:=lift hb h3 h4
   exact .fn f as bs xs ys (by simpa using r1.1) (fun i v x hv hx=>r1.2 i v x hv (by simpa using hx)) (by simpa using r2.1) (fun i v x hv hx=>r2.2 i v x hv (by simpa using hx))
  case agg cs xs h1 h2 h3 =>
   split at h<;>try (cases h;done)
   rename_i ds hds;cases h
   have r1:=lift hds h1 h2
   exact .agg ds xs (by simpa using r1.1) (fun i v x hv hx=>r1.2 i v x hv (by simpa using hx)) h3
  case cG cs xs h1 h2 =>
   split at h<;>try (cases h;done)
   rename_i ds hds;cases h
   have r1:=lift hds h1 h2
   exact .cG ds xs (by simpa using r1.1) (fun i v x hv hx=>r1.2 i v x hv (by simpa using hx))
  case bU t v x hv =>
   split at h<;>try (cases h;done)
   rename_i u' hu;cases h
   exact .bU t u' x (g _ _ _ hu hv)
  case cb c b hc=>cases h;exact .cb c b hc
  case mp id L hL =>
   split at h<;>try (cases h;done)
   rename_i i hi;cases h
   exact .mp i L (hσ _ _ _ hi hL)
  case dZ=>cases h;exact .dZ
  case sp=>cases h
  case pa id t m L hL hm =>
   split at h<;>try (cases h;done)
   rename_i i hi;cases h
   exact .pa i t m L (hσ _ _ _ hi hL) hm
  case jP t xs b o us h1 h2=>cases h;exact .jP t xs b o us h1 h2
def jy (σ : List Nat) : ai → Option ai
 |[]=>some []
 |(j,b)::r=>match u6 σ j with
  |some i=>match Bf σ b with
   |some b'=>match jy σ r with
    |some r'=>some ((i,b')::r')
    |none=>none
   |none=>none
  |none=>none
theorem tU {σ : List Nat} (hinj : ∀ (a b i : Nat), σ[a]? = some i → σ[b]? = some i → a = b) : ∀ {bl bO : ai}, jy σ bl = some bO → ∀ {i : Nat} {B : jE}, aq i bO = some B → ∃ j B0, σ[j]? = some i ∧ aq j bl = some B0 ∧ Bf σ B0 = some B
 |[],bO,h,i,B,hb=>by cases h;simp [aq] at hb
 |(j,b)::r,bO,h,i,B,hb=>by
  simp only [jy] at h
  split at h<;>try (cases h;done)
  rename_i i' hi
  split at h<;>try (cases h;done)
  rename_i b' hb'
  split at h<;>cases h
  rename_i r' hr
  rw [nq] at hi
  rw [aY] at hb
  split at hb
  ·rename_i e; subst e; cases hb
   exact ⟨j,b,hi,by rw [aY,if_pos rfl],hb'⟩
  ·rename_i hne
   obtain ⟨j2,B0,h1,h2,h3⟩:=tU hinj hr hb
   refine ⟨j2,B0,h1,?_,h3⟩
   rw [aY,if_neg]
   ·exact h2
   ·intro e;subst e;rw [hi] at h1;cases h1;exact hne rfl
def oy : List Nat → ai → ai
 |[],bl=>bl
 |i::r,bl=>oy r (cB i bl)
theorem nr : ∀ {l : List Nat} {bl : ai} {id : Nat}, aq id (oy l bl) = if id ∈ l then none else aq id bl
 |[],bl,id=>by simp [oy]
 |i::r,bl,id=>by
  simp only [oy]
  rw [nr,bB]
  by_cases h1:id∈r
  ·simp [h1]
  ·by_cases h2 : id = i
   ·simp [h1,h2]
   ·simp [h1,h2]
theorem iq : ∀ {a b : ai} {id : Nat}, aq id (a ++ b) = match aq id a with | some B => some B | none => aq id b
 |[],b,id=>by simp [aq]
 |(s,x)::r,b,id=>by
  rw [List.cons_append,aY,aY]
  split
  ·rfl
  ·exact iq
section
variable {P:Program}
def sig (π:List Nat) (nx n:Nat):List Nat:=π++(List.range' π.length (n - π.length)).map (nx + ·)
theorem tV {f : Nat} {Ah vs : List V} {lX bl : ai} {nx : Nat} {π : List Nat} {Q0 : V → aO → Prop} {Q : V → Nat → ai → Prop} (h : dB P f Ah ⟨π.length, lX⟩ Q0)
  (hargs:sU π Ah vs) (sS:∀p∈lX,Oy π nx bl p.1 p.2) (Ai:∀p∈lX,∀st j d env ps as bd N,p.2 ≠ .loop st j d env ps as bd N) (tW:π.Nodup)
  {Y:Ctx} {ι:aB} {μ:Mu} {w:World} {as:Array Value} (hI:Inv P Y ι μ ⟨nx,bl⟩ w) (hl:aR ι μ vs as.toList) {F:Nat->List Nat} {G:Nat->Nat}
  (hQ:∀r n bO,Q0 r ⟨n,bO⟩->∃r' lM,ir (F n) 8 r=some r'/\jy (F n) bO=some lM/\nx<=G n/\(∀i∈π,i<G n) /\
   (∀(j i:Nat),(F n)[j]?=some i->(j<π.length/\π[j]?=some i)\/(π.length<=j/\μ i=none/\(aq i bl=none\/aq i lM≠none)/\i∉π/\i<G n)) /\
   (∀(a b i:Nat),(F n)[a]?=some i->(F n)[b]?=some i->a=b)/\Q r' n (lM++oy π bl)) :
  CallsIn Fence.wide 0 P f as w fun e w'=>∃v ι' μ' r' n bO,e = .returned v/\ι.le ι'/\μ.le μ'/\(∀i,i∉F n->μ' i=μ i)/\Inv P Y ι' μ' ⟨G n,bO⟩ w'/\Rel ι' μ' r' v/\Q r' n bO:=by
 let μ1:Mu:=μ.gE π
 have hμ1:∀j i,π[j]?=some i->μ1 j=μ i:=fun j i e=>by simp only [μ1,Mu.gE];rw [e];rfl
 let X:Nat->Prop:=fun b=>∃p∈lX,∃L,μ1 p.1=some L/\L.b=b
 let Y1:Ctx:=⟨w,ι,μ1,none,X,[]⟩
 -- a lent block is one of the caller's
 have src:∀p∈lX,∀L,μ1 p.1=some L->∃i C,π[p.1]?=some i/\μ i=some L/\aq i bl=some C:=fun p hp L hL=>by
  obtain ⟨i,e1,hb⟩:=sS p hp
  rw [hμ1 _ _ e1] at hL
  refine ⟨i,?_⟩
  have:∃C,aq i bl=some C:=by
   cases hB:p.2 with
   |cells cs fz=>rw [hB] at hb;obtain ⟨ds,e2,_⟩:=hb;exact ⟨_,e2⟩
   |arr t xs fz =>
    rw [hB] at hb
    rcases hb with e2|⟨_,hge⟩
    ·exact ⟨_,e2⟩
    ·rw [hI.nx i hge] at hL;cases hL
   |loop st j d env ps as bd N=>exact absurd hB (Ai p hp _ _ _ _ _ _ _ _)
   |fC=>rw [hB] at hb;exact ⟨_,hb⟩
   |map kt kg vt vg es=>rw [hB] at hb;exact ⟨_,hb⟩
   |j8 t xs k p v=>rw [hB] at hb;obtain ⟨u,e2,_⟩:=hb;exact ⟨_,e2⟩
  obtain ⟨C,hC⟩:=this
  exact ⟨C,e1,hL,hC⟩
 have Pa:∀b,X b->Y.own b:=fun b ⟨p,hp,L,hL,e⟩=>by
  obtain ⟨i,C,_,h2,h3⟩:=src p hp L hL
  subst e;exact ((hI.live i C h3).loc h2).1
 have hown:∀b,Y1.own b->Y.own b:=fun b hb=>by
  rcases hb with hb|hb
  ·exact .inl (Nat.le_trans hI.below.size hb)
  ·exact Pa b hb
 have hmem:∀{id:Nat} {B:jE},aq id lX=some B->(id,B)∈lX:=fun h=>eL h
 have Yc:Inv P Y1 ι μ1 ⟨π.length,lX⟩ w:=by
  refine ⟨HA.refl _ _,aB.le_refl _,fun _ _ _ _=>rfl,hI.rd,Mu.le_refl _,fun id hid=>?_,fun id B hB=>?_,fun id id' B B' L L' hb hb' hm hm' e=>?_,fun id B hB=>?_,hI.c8⟩
  ·have : π[id]? = none := List.getElem?_eq_none hid
   simp only [μ1,Mu.gE];rw [this];rfl
  ·obtain ⟨i, e1, hb⟩ := sS _ (hmem hB)
   have jS:=hμ1 id i e1
   cases B with
   |cells cs fz =>
    obtain ⟨ds,e2,aj⟩:=hb
    obtain ⟨L,vs,hM,Yt⟩:=hI.live i _ e2
    exact ⟨L,vs,⟨by rw [jS];exact hM.mu,.inr ⟨_,hmem hB,L,by rw [jS];exact hM.mu,rfl⟩,hM.row,hM.fits,hM.one,hM.CC,hM.qk⟩,aR.gE aj.1 (fun i v u hv hu=>fun {x} hr=>(aj.2 i v u hv hu).rel hr) Yt⟩
   |arr t xs fz =>
    rcases hb with e2|⟨rfl,hge⟩
    ·rcases hI.live i _ e2 with ⟨e, hn⟩ | ⟨L, vs, hM, hc, hl⟩
     ·exact .inl ⟨e,by rw [jS];exact hn⟩
     ·exact .inr ⟨L,vs,⟨by rw [jS];exact hM.mu,.inr ⟨_,hmem hB,L,by rw [jS];exact hM.mu,rfl⟩,hM.row,hM.fits,hM.one,hM.CC,hM.qk⟩,hc,hl⟩
    ·exact .inl ⟨rfl,by rw [jS];exact hI.nx i hge⟩
   |j8 t xs k p v =>
    obtain ⟨u,e2,aj⟩:=hb
    obtain ⟨L,us,vs,c,hM,hc,hl,q1,q2,q3,q4⟩:=hI.live i _ e2
    exact ⟨L,us,vs,c,⟨by rw [jS];exact hM.mu,.inr ⟨_,hmem hB,L,by rw [jS];exact hM.mu,rfl⟩,hM.row,hM.fits,hM.one,hM.CC,hM.qk⟩,hc,hl,q1,q2,q3,aj.rel q4⟩
   |loop st j d env ps as bd N=>exact absurd rfl (Ai _ (hmem hB) st j d env ps as bd N)
   |fC =>
    obtain ⟨L,q1,q2,q3⟩:=hI.live i _ hb
    exact ⟨L,by rw [jS];exact q1,.inr ⟨_,hmem hB,L,by rw [jS];exact q1,rfl⟩,q3⟩
   |map kt kg vt vg es =>
    obtain ⟨L,ms,clock,kR,q1,q2,q3⟩:=hI.live i _ hb
    exact ⟨L,ms,clock,kR,by rw [jS];exact q1,.inr ⟨_,hmem hB,L,by rw [jS];exact q1,rfl⟩,q3⟩
  ·obtain ⟨i, C, e1, e2, e3⟩ := src _ (hmem hb) L hm
   obtain ⟨i',C',EY,e2',Yk⟩:=src _ (hmem hb') L' hm'
   have:=hI.inj i i' C C' L L' e3 Yk e2 e2' e
   subst this
   exact (List.getElem?_inj (List.getElem?_eq_some_iff.1 e1).1 tW).1 (e1.trans EY.symm)
  ·obtain ⟨i, e1, _⟩ := sS _ (hmem hB)
   exact (List.getElem?_eq_some_iff.1 e1).1
 have hl1:aR ι μ1 Ah as.toList:=aR.gE hargs.1 (fun i v u hv hu=>fun {x} hr=>(hargs.2 i v u hv hu).rel hr) hl
 refine (h.2 Y1 ι μ1 w as Yc hl1).mono ?_
 rintro e w' ⟨v,ι',TL,r,⟨n,bO⟩,rfl,hi,lI,mP,hr,hq⟩
 obtain ⟨r',lM,hr',u7,hn,hlt,Io,hinj,Tg⟩:=hQ _ _ _ hq
 generalize hs:F n=σ at *
 classical
 let μ':Mu:=fun i=>match μ i with
  |some L=>some L
  |none=>if hx:∃j L,σ[j]?=some i/\TL j=some L then some hx.choose_spec.choose else none
 have hle:μ.le μ':=fun i L hL=>by simp only [μ'];rw [hL]
 have hnew:∀i,μ i=none->∀j L,σ[j]?=some i->TL j=some L->μ' i=some L:=fun i hi j L hj hL=>by
  have hx:∃j L,σ[j]?=some i/\TL j=some L:=⟨j,L,hj,hL⟩
  simp only [μ'];rw [hi];simp only;rw [dif_pos hx]
  obtain ⟨q1,q2⟩:=hx.choose_spec.choose_spec
  have key:∀j' L',TL j'=some L'->j'=j->some L'=some L:=fun j' L' h1 h2=>by subst h2;rw [<-h1,hL]
  exact key _ _ q2 (hinj _ _ _ q1 hj)
 have hσ:∀j i L,σ[j]?=some i->TL j=some L->μ' i=some L:=fun j i L hj hL=>by
  cases hμ:μ i with
  |none=>exact hnew i hμ j L hj hL
  |some L0 =>
   rcases Io _ _ hj with ⟨h1,h2⟩|⟨h1,h2,h3⟩
   ·have e : TL j = some L0 := lI j L0 (by rw [hμ1 j i h2]; exact hμ)
    rw [hL] at e;cases e
    exact hle i _ hμ
   ·rw [h2] at hμ;cases hμ
 have hσ':∀j i,σ[j]?=some i->∀L,μ' i=some L->TL j=some L:=fun j i hj L hL=>by
  cases hμ:μ i with
  |some L0 =>
   rw [hle i _ hμ] at hL;cases hL
   rcases Io _ _ hj with ⟨h1,h2⟩|⟨h1,h2,h3⟩
   ·exact lI j _ (by rw [hμ1 j i h2];exact hμ)
   ·rw [h2] at hμ;cases hμ
  |none =>
   simp only [μ'] at hL;rw [hμ] at hL;simp only at hL
   split at hL
   ·rename_i hx
    cases hL
    obtain ⟨q1,q2⟩:=hx.choose_spec.choose_spec
    have key:∀j' L',TL j'=some L'->j'=j->TL j=some L':=fun j' L' h1 h2=>by subst h2;exact h1
    exact key _ _ q2 (hinj _ _ _ q1 hj)
   ·cases hL
 have TM:∀{id:Nat} {B:jE} {L:Loc},aq id bl=some B->id∉π->μ id=some L->L.b<w.heap.size/\¬X L.b:=fun {id B L} hB hid hL=>by
  refine ⟨((hI.live id B hB).loc hL).2,?_⟩
  rintro ⟨p,hp,L2,hL2,e⟩
  obtain ⟨i,C,e1,e2,e3⟩:=src p hp L2 hL2
  have:=hI.inj i id C B L2 L e3 hB e2 hL e
  subst this
  exact hid (List.mem_of_getElem? e1)
 have hkeep:∀{id:Nat} {B:jE},aq id bl=some B/\aq id lM=none->id∉π->μ' id=μ id:=fun {id B} ⟨hB,hBn⟩ hid=>by
  cases hμ:μ id with
  |some L=>exact hle id _ hμ
  |none =>
   simp only [μ'];rw [hμ];simp only
   rw [dif_neg]
   rintro ⟨j,L,hj,_⟩
   rcases Io _ _ hj with ⟨h1,h2⟩|⟨h1,h2,h3,h4⟩
   ·exact hid (List.mem_of_getElem? h2)
   ·rcases h3 with h3 | h3
    ·rw [hB] at h3;cases h3
    ·exact h3 hBn
 have iK:∀{id:Nat} {B:jE},aq id (lM++oy π bl)=some B->(∃j B0,σ[j]?=some id/\aq j bO=some B0/\Bf σ B0=some B)\/((aq id bl=some B/\aq id lM=none)/\id∉π):=fun {id B} hB=>by
  rw [iq] at hB
  split at hB
  ·rename_i B2 iw;cases hB;exact .inl (tU hinj u7 iw)
  ·rename_i hbn
   rw [nr] at hB
   split at hB
   ·cases hB
   ·rename_i hk;exact .inr ⟨⟨hB,hbn⟩,hk⟩
 have jT:HA Y.x Y.w0 w':=by
  have b2:=mP.below
  refine ⟨b2.os.trans hI.below.os,b2.tape.trans hI.below.tape,b2.output.trans hI.below.output,Nat.le_trans hI.below.size b2.size,fun k hk hx=>?_,Nat.le_trans hI.below.dr b2.dr,fun k hk=>(hI.below.maps k hk).trans (b2.maps k (Nat.lt_of_lt_of_le hk hI.below.size))⟩
  rw [b2.block k (Nat.lt_of_lt_of_le hk hI.below.size) (fun hX=>by
   rcases Pa k hX with h|h
   ·omega
   ·exact hx h)]
  exact hI.below.block k hk hx
 have hι:∀b o,b<w.heap.size->¬X b->ι' b o=ι b o:=fun b o hb hx=>mP.iB b o hb hx
 refine ⟨v,ι',μ',r',n,_,rfl,hi,hle,fun i hi=>?_,?_,xH hσ hr' hr,Tg⟩
 ·rw [hs] at hi
  cases hμ:μ i with
  |some L=>exact hle i L hμ
  |none =>
   simp only [μ'];rw [hμ];simp only
   rw [dif_neg]
   rintro ⟨j,L,hj,_⟩
   exact hi (List.mem_of_getElem? hj)
 refine ⟨jT,aB.le_trans hI.i0 hi,fun b o hb hx=>?_,mP.rd,Mu.le_trans hI.m0 hle,fun id hid=>?_,fun id B hB=>?_,fun id id' B B' L L' hb hb' hm hm' e=>?_,fun id B hB=>?_,hI.gl⟩
 ·rw [hι b o (Nat.lt_of_lt_of_le hb hI.below.size) (fun hX=>by
   rcases Pa b hX with h|h
   ·omega
   ·exact hx h)]
  exact hI.iB b o hb hx
 ·simp only at hid
  have h0:μ id=none:=hI.nx id (by simp only;omega)
  simp only [μ'];rw [h0];simp only
  rw [dif_neg]
  rintro ⟨j,L,hj,_⟩
  rcases Io _ _ hj with ⟨h1,h2⟩|⟨h1,h2,h3,h4,h5⟩
  ·have:=hlt id (List.mem_of_getElem? h2);omega
  ·omega
 ·rcases iK hB with ⟨j, B0, e1, e2, e3⟩ | ⟨Xq, hk⟩
  ·have k8 := mP.live j B0 e2
   cases B0 with
   |cells cs fz =>
    simp only [Bf] at e3
    split at e3<;>cases e3
    rename_i ds hds
    obtain ⟨L,us,hM,Yt⟩:=k8
    exact ⟨L,us,⟨hσ _ _ _ e1 hM.mu,hown _ hM.old,hM.row,hM.fits,hM.one,hM.CC,hM.qk⟩,js (fun _ _ _ h hr=>xH hσ h hr) hds Yt⟩
   |arr t xs fz =>
    cases e3
    rcases k8 with ⟨e,hn0⟩|⟨L,us,hM,hc,hl⟩
    ·refine .inl ⟨e, ?_⟩
     cases hμ':μ' id with
     |none=>rfl
     |some L=>rw [hσ' j id e1 L hμ'] at hn0;cases hn0
    ·exact .inr ⟨L,us,⟨hσ _ _ _ e1 hM.mu,hown _ hM.old,hM.row,hM.fits,hM.one,hM.CC,hM.qk⟩,hc,hl⟩
   |loop st jj d env ps as bd N=>cases e3
   |j8 t xs k p v=>cases e3
   |fC =>
    cases e3
    obtain ⟨L,q1,q2,q3⟩:=k8
    exact ⟨L,hσ _ _ _ e1 q1,hown _ q2,q3⟩
   |map kt kg vt vg es =>
    cases e3
    obtain ⟨L,ms,clock,kR,q1,q2,q3,q4,q5⟩:=k8
    exact ⟨L,ms,clock,kR,hσ _ _ _ e1 q1,hown _ q2,q3,q4,q5⟩
  ·have k8 := hI.live id B Xq.1
   refine k8.mono hi hle (fun hn0=>(hkeep Xq hk).trans hn0) (fun L hL=>?_) (fun L hL ho o=>?_)
   ·obtain ⟨h1, h2⟩ := TM Xq.1 hk hL
    exact mP.below.block _ h1 h2
   ·obtain ⟨h1, h2⟩ := TM Xq.1 hk hL
    rw [hι _ _ h1 h2];exact ho o
 ·rcases iK hb with ⟨j, B0, e1, e2, e3⟩ | ⟨hB1, hk1⟩ <;> rcases iK hb' with ⟨j', B0', EY, e2', Yk⟩ | ⟨hB2, hk2⟩
  ·have := mP.inj j j' B0 B0' L L' e2 e2' (hσ' _ _ e1 _ hm) (hσ' _ _ EY _ hm') e
   subst this;rw [e1] at EY;cases EY;rfl
  ·rw [hkeep hB2 hk2] at hm'
   obtain ⟨h1,h2⟩:=TM hB2.1 hk2 hm'
   rcases ((mP.live j B0 e2).loc (hσ' _ _ e1 _ hm)).1 with h3|h3
   ·simp only [Y1] at h3;omega
   ·rw [e] at h3;exact absurd h3 h2
  ·rw [hkeep hB1 hk1] at hm
   obtain ⟨h1,h2⟩:=TM hB1.1 hk1 hm
   rcases ((mP.live j' B0' e2').loc (hσ' _ _ EY _ hm')).1 with h3|h3
   ·simp only [Y1] at h3;omega
   ·rw [<-e] at h3;exact absurd h3 h2
  ·rw [hkeep hB1 hk1] at hm
   rw [hkeep hB2 hk2] at hm'
   exact hI.inj id id' B B' L L' hB1.1 hB2.1 hm hm' e
 ·rcases iK hB with ⟨j, B0, e1, e2, e3⟩ | ⟨Xq, hk⟩
  ·rcases Io _ _ e1 with ⟨h1, h2⟩ | ⟨h1, h2, h3, h4, h5⟩
   ·have:=hlt id (List.mem_of_getElem? h2);simp only;omega
   ·simp only;omega
  ·have:=hI.lt id B Xq.1;simp only at this ⊢;omega
theorem DM {f : Nat} {Ah vs : List V} {lX bl : ai} {nx : Nat} {π : List Nat} {Q0 Q : V → aO → Prop} (h : dB P f Ah ⟨π.length, lX⟩ Q0)
  (hargs:sU π Ah vs) (sS:∀p∈lX,Oy π nx bl p.1 p.2) (Ai:∀p∈lX,∀st j d env ps as bd N,p.2 ≠ .loop st j d env ps as bd N) (tW:π.Nodup) (hlt:∀i∈π,i<nx+π.length)
  (hQ:∀r n bO,Q0 r ⟨n,bO⟩->π.length<=n/\∃r' lM,ir (sig π nx n) 8 r=some r'/\jy (sig π nx n) bO=some lM/\Q r' ⟨nx+n,lM++oy π bl⟩):dB P f vs ⟨nx,bl⟩ Q:=by
 refine ⟨h.1,fun Y ι μ w as hI hl=>?_⟩
 refine (tV (Q:=fun r n bO=>Q r ⟨nx+n,bO⟩) h hargs sS Ai tW hI hl (F:=sig π nx) (G:=fun n=>nx+n) fun r n bO hq=>?_).mono ?_
 ·obtain ⟨hn, r', lM, q1, q2, q3⟩ := hQ r n bO hq
  have Io:∀j i,(sig π nx n)[j]?=some i->(j<π.length/\π[j]?=some i)\/(π.length<=j/\j<n/\i=nx+j):=fun j i e=>by
   unfold sig at e
   rw [List.getElem?_append] at e
   split at e
   ·rename_i hj;exact .inl ⟨hj,e⟩
   ·rename_i hj
    simp only [List.getElem?_map] at e
    cases hh:(List.range' π.length (n - π.length))[j - π.length]? with
    |none=>rw [hh] at e;cases e
    |some z =>
     rw [hh] at e
     simp only [Option.map_some,Option.some.injEq] at e
     obtain ⟨q1,q2⟩:=List.getElem?_eq_some_iff.1 hh
     simp at q1 q2
     exact .inr ⟨by omega,by omega,by omega⟩
  refine ⟨r',lM,q1,q2,by omega,fun i hi=>by have:=hlt i hi;omega,fun j i e=>?_,fun a b i ha hb=>?_,q3⟩
  ·rcases Io j i e with h1 | ⟨h1, h2, h3⟩
   ·exact .inl h1
   ·refine .inr ⟨h1, hI.nx i (by simp only; omega), .inl ?_, fun hi => by have := hlt i hi; omega, by omega⟩
    cases hb:aq i bl with
    |none=>rfl
    |some B=>have:=hI.lt i B hb;simp only at this;omega
  ·rcases Io _ _ ha with ⟨h1, h2⟩ | ⟨h1, h2, h3⟩ <;> rcases Io _ _ hb with ⟨h4, h5⟩ | ⟨h4, h5, h6⟩
   ·exact (List.getElem?_inj h1 tW).1 (h2.trans h5.symm)
   ·have:=hlt i (List.mem_of_getElem? h2);omega
   ·have:=hlt i (List.mem_of_getElem? h5);omega
   ·omega
 ·rintro e w' ⟨v, ι', μ', r', n, bO, he, hi, hm, -, M8, hr, hq⟩
  exact ⟨v,ι',μ',r',⟨nx+n,bO⟩,he,hi,hm,M8,hr,hq⟩
end
end Go.AM
end
section
namespace Go.AM
structure Ht where
 f:Nat
 p:aG
 q:aG
 fn:p.T->Option q.T
def Ht.Ok (P:Program) (ht:Ht):Prop:=∀x y,ht.fn x=some y ->
 dB P ht.f ((ht.p.E x).map (·.2)) ⟨ht.p.eM.length,ht.p.B x⟩ fun r H=>r=get 0 (ht.q.E y)/\H=⟨ht.p.eM.length+ht.q.eM.length,ht.q.B y⟩
section
variable {P:Program} {R:Type}
def aG.rdP (no:R) (p:aG) (env:Env) (nx:Nat) (bl:ai) (k:List Nat->p.T->R):R :=
 nK no env nx bl [] p.eM [] 0 fun π=>match xC π p.bl with
  |true=>match Ab (A:=Sm p.bl Unit) π env p.env with
   |some f=>match OZ (A:=Unit) π nx bl p.bl with
    |some g=>k π (f (g ()))
    |none=>no
   |none=>no
  |false=>no
def qE : List Nat → Bool
 |[]=>true
 |i::r=>match tg i r with
  |true=>false
  |false=>qE r
theorem mG : ∀ {l : List Nat}, qE l = true → l.Nodup
 |[],_=>.nil
 |i::r,h=>by
  simp only [qE] at h
  split at h
  ·cases h
  ·rename_i hm
   exact List.nodup_cons.2 ⟨(fun hi=>by rw [mj.2 hi] at hm;cases hm),mG h⟩
def BJ (n : Nat) : List Nat → Bool
 |[]=>true
 |i::r=>match Nat.blt i n with
  |true=>BJ n r
  |false=>false
theorem Aj {n : Nat} : ∀ {l : List Nat}, BJ n l = true → ∀ i ∈ l, i < n
 |[],_,i,hi=>by simp at hi
 |j::r,h,i,hi=>by
  simp only [BJ] at h
  split at h
  ·rename_i hj
   rcases List.mem_cons.1 hi with rfl|hi
   ·have : i + 1 ≤ n := by simpa [Nat.blt] using hj
    omega
   ·exact Aj h i hi
  ·cases h
def lN : List (Nat × BP) → Bool
 |[]=>true
 |(_,.loop _ _ _ _ _ _ _ _)::_=>false
 |(_,.arr _ _)::r=>lN r
 |(_,.cells _ _)::r=>lN r
 |(_,.fC)::r=>lN r
 |(_,.map _ _ _ _)::r=>lN r
 |(_,.j8 _ _ _ _)::r=>lN r
theorem tX {A : Type} : ∀ {ps : List (Nat × BP)} (x : Sm ps A), lN ps = true → ∀ p ∈ K1 ps x, ∀ st j d env ps as bd N, p.2 ≠ .loop st j d env ps as bd N
 |[],x,h,p,hp=>by simp [K1] at hp
 |(s,b)::r,x,h,p,hp=>by
  simp only [K1,List.mem_cons] at hp
  intro st j d env ps as bd N
  rcases hp with rfl|hp
  ·cases b with
   |loop=>simp [lN] at h
   |arr=>simp [BP.v]
   |cells=>simp [BP.v]
   |fC=>simp [BP.v]
   |map=>simp [BP.v]
   |j8=>simp [BP.v]
  ·refine tX _ ?_ p hp st j d env ps as bd N
   cases b<;>simp [lN] at h<;>exact h
def Zc (kz:Kz R) (no:R) (ht:Ht) (vs:List V) (nx:Nat) (bl:ai) (K:V->Nat->ai->R):R :=
 match an (Nat.beq vs.length ht.p.env.length) (lN ht.p.bl) with
 |true=>ht.p.rdP no (args 0 vs) nx bl fun π x=>match an (qE π) (BJ (nx+π.length) π) with
  |true=>kz.bd (ht.fn x) fun y=>fN (π.length+ht.q.eM.length) fun n=>ht.q.go n y fun env _ bO _=>match ir (sig π nx n) 8 (get 0 env) with
   |some r'=>match jy (sig π nx n) bO with
    |some lM=>fBl (lM++oy π bl) fun bl=>fN (nx+n) fun nx=>K r' nx bl
    |none=>kz.no
   |none=>kz.no
  |false=>no
 |false=>no
theorem args_at:∀{vs:List V} {n i:Nat},get i (args n vs)=if n<=i then vs.getD (i - n) .any else .any:=rM
theorem mH {A : Type} : ∀ {ps : List (Nat × SP)} {x : zg ps A}, (u5 ps x).length = ps.length
 |[],_=>rfl
 |(_,_)::r,x=>by simp [u5,mH (ps:=r)]
theorem Ip {π:List Nat} {vs:List V} {env:Env} (hlen:vs.length=env.length) (hs:env.map (·.1)=List.range env.length) (h:EE π env (args 0 vs)):sU π (env.map (·.2)) vs:=by
 refine ⟨by simp [hlen],fun i v u hv hu=>?_⟩
 rw [List.getElem?_map] at hv
 cases hp:env[i]? with
 |none=>rw [hp] at hv;cases hv
 |some p =>
  rw [hp] at hv;cases hv
  have hi:=(List.getElem?_eq_some_iff.1 hp).1
  have e1:(env.map (·.1))[i]?=(List.range env.length)[i]?:=by rw [hs]
  rw [List.getElem?_map,hp,List.getElem?_range hi] at e1
  simp only [Option.map_some,Option.some.injEq] at e1
  have:=h p (List.mem_of_getElem? hp)
  rw [args_at,e1,if_pos (Nat.zero_le _)] at this
  simp only [Nat.sub_zero] at this
  have e2:vs.getD i .any=u:=by simp [List.getD,hu]
  rwa [e2] at this
theorem lq {A : Type} : ∀ {ps : List (Nat × SP)} {x : zg ps A}, (u5 ps x).map (·.1) = ps.map (·.1)
 |[],_=>rfl
 |(_,_)::r,x=>by simp [u5,lq (ps:=r)]
theorem aG.Xr {p:aG} {x:p.T}:(p.E x).length=p.env.length:=mH
theorem aG.vB {p:aG} {x:p.T}:(p.E x).map (·.1)=p.env.map (·.1):=lq
def Ht.slots (ht:Ht):Prop:=ht.p.env.map (·.1)=List.range ht.p.env.length
theorem TN {ht:Ht} (hok:ht.Ok P) (Yj:ht.slots) {X:Type} {no:Option X} {vs:List V} {nx:Nat} {bl:ai} {K:V->Nat->ai->Option X} {r:X} (h:Zc (jv X) no ht vs nx bl K=some r) :
  no=some r\/∀{Q:V->aO->Prop},(∀v nx bl,K v nx bl=some r->Q v ⟨nx,bl⟩)->dB P ht.f vs ⟨nx,bl⟩ Q:=by
 unfold Zc at h
 split at h
 ·rename_i h0
  rw [aX] at h0
  have hlen:=Nat.eq_of_beq_eq_true h0.1
  unfold aG.rdP at h
  have key:∀{ls:List Lc} {π0:List Nat} {b:Nat} {k:List Nat->Option X},nK no (args 0 vs) nx bl [] ls π0 b k=some r->no=some r\/∃rr,rr.length=ls.length/\k (π0++rr)=some r:=by
   intro ls
   induction ls with
   |nil=>intro π0 b k hk;exact .inr ⟨[],rfl,by simpa [nK] using hk⟩
   |cons l ls ih =>
    intro π0 b k hk
    simp only [nK] at hk
    split at hk
    ·rename_i i hi
     rw [eY,vw,eY] at hk
     rcases ih hk with hk|⟨rr,h1,h2⟩
     ·exact .inl hk
     ·exact .inr ⟨i::rr,by simp [h1],by simpa using h2⟩
    ·exact .inl hk
  rcases key h with h|⟨π,hπ,h⟩
  ·exact .inl h
  simp only [List.nil_append] at h
  split at h
  ·rename_i hap
   split at h
   ·rename_i f hf
    split at h
    ·rename_i g hg
     split at h
     ·rename_i hnb
      rw [aX] at hnb
      refine .inr fun {Q} hQ=>?_
      obtain ⟨y,hy,h⟩:=dx h
      rw [eY,aG.go_eq] at h
      obtain ⟨h1,h2⟩:=ox hf (g ())
      obtain ⟨h3,h4⟩:=vu hg ()
      split at h<;>try (cases h;done)
      rename_i r' hr'
      split at h<;>try (cases h;done)
      rename_i lM u7
      rw [BE,eY] at h
      have eW:=hok _ _ hy
      rw [<-hπ] at eW
      have hB:ht.p.B (f (g ()))=K1 ht.p.bl (g ()):=by unfold aG.B;rw [h2]
      refine DM (Q0:=fun r H=>r=get 0 (ht.q.E y)/\H=⟨π.length+ht.q.eM.length,ht.q.B y⟩) eW ?_ ?_ ?_ (mG hnb.1) (Aj hnb.2) ?_
      ·exact Ip (env:=u5 ht.p.env (f (g ()))) (hlen.trans mH.symm) (lq.trans (Yj.trans (by rw [mH]))) h1
      ·rw [hB];exact h3
      ·rw [hB];exact tX _ h0.2
      ·rintro r n bO ⟨rfl, e⟩
       cases e
       exact ⟨by omega,r',lM,hr',u7,hQ _ _ _ h⟩
     ·exact .inl h
    ·exact .inl h
   ·exact .inl h
  ·exact .inl h
 ·exact .inl h
def Ak (kz : Kz R) (f : Nat) (vs : List V) (nx : Nat) (bl : ai) (K : V → Nat → ai → R) (no : R) : List Ht → R
 |[]=>no
 |ht::r=>match Nat.beq ht.f f with
  |true=>Zc kz (Ak kz f vs nx bl K no r) ht vs nx bl K
  |false=>Ak kz f vs nx bl K no r
def Iq (P : Program) : List Ht → Prop
 |[]=>True
 |c::r=>(c.Ok P/\c.slots)/\Iq P r
theorem xI {X:Type} {no:Option X} {f:Nat} {vs:List V} {nx:Nat} {bl:ai} {K:V->Nat->ai->Option X} {r:X}:∀{hts:List Ht},Iq P hts->Ak (jv X) f vs nx bl K no hts=some r ->
  no=some r\/∀{Q:V->aO->Prop},(∀v nx bl,K v nx bl=some r->Q v ⟨nx,bl⟩)->dB P f vs ⟨nx,bl⟩ Q
 |[],_,h=>.inl h
 |ht::hts,hok,h=>by
  simp only [Ak] at h
  split at h
  ·rename_i hf
   have e:=Nat.eq_of_beq_eq_true hf
   subst e
   rcases TN hok.1.1 hok.1.2 h with h|h
   ·exact xI hok.2 h
   ·exact .inr h
  ·exact xI hok.2 h
def aV (vz:List Ct) (hts:List Ht):Cx where
 pc kz f vs K:=BI kz f vs K vz
 ca kz f vs nx bl K:=Ak kz f vs nx bl K (TI vz kz f vs nx bl K) hts
 rd kz _ _ _ _ _:=kz.no
theorem au {vz:List Ct} {hts:List Ht} (h:DH P vz) (h2:Iq P hts):(aV vz hts).Ok P where
 Ic hk:=pg h hk
 E0:=by
  intro X f vs nx bl K r hk Q hQ
  rcases xI h2 hk with hk|hk
  ·exact (TJ h).E0 hk hQ
  ·exact hk hQ
 OE hk:=by cases hk
 Nf hk:=.inl hk
theorem K8 {f:Nat} {vs:List V} {H:aO} {Q:V->aO->Prop} (h:dB P f vs H fun r H'=>∃r'' H'' π,mB H.next π ⟨[(0,r)],H',[]⟩ ⟨[(0,r'')],H'',[]⟩/\Q r'' H''):dB P f vs H Q :=
 ⟨h.1,fun Y ι μ w as hI hl=>(h.2 Y ι μ w as hI hl).mono fun e w' ⟨v,ι',μ',r,H',h1,h2,h3,h4,h5,r'',H'',π,h6,h7⟩=>by
  let Y2:Ctx:=⟨Y.w0,Y.ι0,fun i=>if i<H.next then μ i else none,Y.ro,Y.x,[]⟩
  have mP:Inv P Y2 ι' μ' H' w':=⟨h4.below,h4.i0,h4.iB,h4.rd,(fun i L hL=>by
   simp only [Y2] at hL
   split at hL
   ·exact h3 _ _ hL
   ·cases hL),h4.nx,h4.live,h4.inj,h4.lt,h4.gl⟩
  have hR:fG P 1 Y2 ι' μ' ⟨[(0,r)],H',[]⟩ { tmps:=#[v],defers:=[] } w':=⟨(fun t=>by
   rw [fF]
   split
   ·rename_i e;subst e;exact h5
   ·exact .any _),rfl,mP,rfl⟩
  have wk:=h6.rep (fun i hi=>by simp only [Y2];rw [if_neg (by omega)]) hR
  have hle:μ.le (μ'.gE π):=fun i L hL=>by
   have hlt:i<H.next:=by
    rcases Nat.lt_or_ge i H.next with h|h
    ·exact h
    ·rw [hI.nx i h] at hL;cases hL
   exact wk.inv.m0 i L (by simp only [Y2];rw [if_pos hlt];exact hL)
  refine ⟨v,ι',μ'.gE π,r'',H'',h1,h2,hle,⟨h4.below,h4.i0,h4.iB,h4.rd,Mu.le_trans hI.m0 hle,wk.inv.nx,wk.inv.live,wk.inv.inj,wk.inv.lt,hI.gl⟩,?_,h7⟩
  have:=wk.env 0
  rw [fF,if_pos rfl] at this
  exact this⟩
def Al (kz:Kz R) (rs:List RV) (tys:List (Option Ty)) (K:V->Nat->ai->R):Kc R:=fun e env nx bl ms=>match e with
 | .exit _=>kz.no
 | .normal=>go env nx bl ms
 | .ret=>go env nx bl ms
where go (env:Env) (nx:Nat) (bl:ai) (ms:List Nat):R:=match ej ms bl with
 |some bl=>match rK bW ⟨env,⟨nx,bl⟩,[]⟩ rs with
  |some vs=>fV (nJ (cw (hTs tys) vs)) fun v=>K v nx bl
  |none=>kz.no
 |none=>kz.no
theorem xJ {X : Type} {rs : List RV} {tys : List (Option Ty)} {K : V → Nat → ai → Option X} {r : X} {e : Ex} {env : Env} {nx : Nat} {bl : ai} {ms : List Nat} (h : Al (jv X) rs tys K e env nx bl ms = some r) {Q : V → aO → Prop}
  (hQ:∀v nx bl,K v nx bl=some r->Q v ⟨nx,bl⟩):oa rs tys Q e ⟨env,⟨nx,bl⟩,ms⟩:=by
 have key:Al.go (jv X) rs tys K env nx bl ms=some r->oa.kr rs tys Q ⟨env,⟨nx,bl⟩,ms⟩:=fun hg=>by
  unfold Al.go at hg
  unfold oa.kr
  split at hg<;>try (cases hg;done)
  rename_i bO h1
  simp only
  rw [h1]
  simp only
  split at hg<;>try (cases hg;done)
  rename_i vs h2
  rw [h2]
  rw [ij] at hg
  exact hQ _ _ _ hg
 cases e with
 |exit i=>cases h
 |normal=>exact key h
 |ret=>exact key h
def hfE {N k:Nat} (kz:Kz R) (cx:Cx) (ar:Ar) (pre:List Nat) (rs:List RV) (tys:List (Option Ty)) (p q:aG) (body:D P N none k) (inr:q.T->R) (x:p.T):R :=
 p.go k x fun env nx bl _=>kE kz cx ar body env nx bl [] (Al kz rs tys fun r nx bl=>q.rd kz.no pre k [(0,r)] nx bl [] inr)
theorem DN : ∀ {env : Env} {n : Nat}, env.map (·.1) = List.range' n env.length → args n (env.map (·.2)) = env
 |[],n,_=>rfl
 |(s,v)::r,n,h=>by
  simp only [List.map_cons,List.length_cons,List.range'_succ,List.cons.injEq] at h
  simp only [List.map_cons,args]
  rw [DN h.2,h.1]
theorem lu (mixed : P.follows .mixedOrders = true) {cx : Cx} (dh : cx.Ok P) {func : Func} {fn : Fn} {ht : Ht} {k : Nat} (hk : ht.p.eM.length = k) (hf : P.funcs[ht.f]? = some func) (fP : cN P func = some fn) (hent : e9 P ht.f)
  (body:D P fn.N none k) (hbody:body.er=fn.body) (hnp:Nat.ble ht.p.env.length fn.np=true) (Yj:ht.slots) (hq:∃s,ht.q.env=[(0,s)]) (hqm:ht.q.ms=[]) {pre:List Nat} (hpre:pre=List.range k)
  (hfn:∀x,hfE (jv ht.q.T) cx bW pre fn.res fn.tys ht.p ht.q body some x=ht.fn x):ht.Ok P:=by
 intro x y hxy
 subst hpre
 rw [<-hfn x] at hxy
 unfold hfE at hxy
 rw [aG.go_eq] at hxy
 subst hk
 refine K8 ?_
 refine iA hf fP hent (eK mixed) (by rw [List.length_map,aG.Xr];exact Nat.le_of_ble_eq_true hnp) ?_
 have ha:args 0 ((ht.p.E x).map (·.2))=ht.p.E x:=DN (by rw [aG.vB,aG.Xr,<-List.range_eq_range'];exact Yj)
 rw [ha,<-hbody]
 refine lf dh hxy fun e env nx bl ms hk=>?_
 refine xJ hk fun v nx bl hk=>?_
 obtain ⟨y',π,h1,h2⟩:=aG.ff hk
 cases h1
 obtain ⟨s,hs⟩:=hq
 have he:ht.q.E y=[(0,get 0 (ht.q.E y))]:=by
  have h1:(ht.q.E y).map (·.1)=[0]:=by rw [aG.vB,hs];rfl
  cases h2:ht.q.E y with
  |nil=>rw [h2] at h1;cases h1
  |cons a r =>
   obtain ⟨a1,a2⟩:=a
   rw [h2] at h1
   simp only [List.map_cons,List.cons.injEq,List.map_eq_nil_iff] at h1
   obtain ⟨rfl,rfl⟩:=h1
   rw [fF,if_pos rfl]
 refine ⟨_,_,π,?_,rfl,rfl⟩
 have e:aG.st ht.p.eM.length ht.q y=⟨[(0,get 0 (ht.q.E y))],⟨ht.p.eM.length+ht.q.eM.length,ht.q.B y⟩,[]⟩:=by
  unfold aG.st;rw [<-he,hqm]
 rw [<-e];exact h2
def Ir {A B : Type} (F : (A → Option B) → A → Option B) : Nat → A → Option B
 |0=>fun _=>none
 |n+1=>F (Ir F n)
noncomputable def zj {A B:Type} (F:(A->Option B)->A->Option B) (x:A):Option B:=by
 classical exact if h:∃(N:Nat) (y:B),∀n,N<=n->Ir F n x=some y then some h.choose_spec.choose else none
theorem Am {A B:Type} {F:(A->Option B)->A->Option B} {x:A} {y:B} (h:zj F x=some y):∃n,Ir F n x=some y:=by
 unfold zj at h
 split at h
 ·rename_i hx;cases h;exact ⟨hx.choose,hx.choose_spec.choose_spec _ (Nat.le_refl _)⟩
 ·cases h
theorem Is {A B:Type} {F:(A->Option B)->A->Option B} {x:A} {y:B} {N:Nat} (h:∀n,N<=n->Ir F n x=some y):zj F x=some y:=by
 unfold zj
 have hx:∃(N:Nat) (y:B),∀n,N<=n->Ir F n x=some y:=⟨N,y,h⟩
 rw [dif_pos hx]
 have h1:=hx.choose_spec.choose_spec (max N hx.choose) (Nat.le_max_right _ _)
 rw [h _ (Nat.le_max_left _ _)] at h1
 exact h1.symm
theorem acd {A B : Type} {F : (A → Option B) → A → Option B} (m : A → Nat) (Inv : A → Prop) (spec : A → B)
  (h:∀rec x,Inv x->(∀x',Inv x'->m x'<m x->rec x'=some (spec x'))->F rec x=some (spec x)):∀x,Inv x->zj F x=some (spec x):=by
 have key:∀n x,Inv x->m x<n->Ir F n x=some (spec x):=by
  intro n
  induction n with
  |zero=>intro x _ hm;omega
  |succ n ih=>intro x hx hm;exact h _ x hx fun x' hx' hm'=>ih x' hx' (by omega)
 intro x hx
 exact Is (N:=m x+1) fun n hn=>key n x hx (by omega)
theorem ht_fix {f:Nat} {p q:aG} {F:(p.T->Option q.T)->p.T->Option q.T} (h:∀rec,Ht.Ok P ⟨f,p,q,rec⟩->Ht.Ok P ⟨f,p,q,F rec⟩):Ht.Ok P ⟨f,p,q,zj F⟩:=by
 have key:∀n,Ht.Ok P ⟨f,p,q,Ir F n⟩:=by
  intro n
  induction n with
  |zero=>intro x y hxy;cases hxy
  |succ n ih=>exact h _ ih
 intro x y hxy
 obtain ⟨n,hn⟩:=Am hxy
 exact key n x y hn
theorem ct_fix {f:Nat} {ps:List SP} {res:SP} {F:(qC ps Unit->Option (res.T Unit))->qC ps Unit->Option (res.T Unit)} (h:∀rec,Ct.Ok P ⟨f,ps,res,rec⟩->Ct.Ok P ⟨f,ps,res,F rec⟩):Ct.Ok P ⟨f,ps,res,zj F⟩:=by
 have key:∀n,Ct.Ok P ⟨f,ps,res,Ir F n⟩:=by
  intro n
  induction n with
  |zero=>intro x y hxy;cases hxy
  |succ n ih=>exact h _ ih
 intro x y hxy
 obtain ⟨n,hn⟩:=Am hxy
 exact key n x y hn
end
end Go.AM
end
section
namespace Go.AM
open Go.RowKit Go.ChangeShapes Go.WideShapes
def holes (tys:List Ty):List SP:=tys.map fun t=>.c (.hole t)
def DO : (tys : List Ty) → qC (holes tys) Unit → Prop
 |[],_=>True
 |t::r,x=>Wf t x.1/\DO r x.2
section
variable {P:Program} {H:Type} {enc:TypeId×Value->H} {W:World} {base:Nat}
def pW (P : Program) (t : TypeId) : Ty → Bool
 | .unit=>false
 | .prod _ _=>match P.underlying t with
  |some (.struct _)=>true
  |some (.array _ _)=>true
  |_=>false
 |_=>match P.underlying t with
  |some (.struct _)=>false
  |some (.array _ _)=>false
  |_=>true
theorem Pb {t : TypeId} {ty : Ty} (hok : gI P 8 t ty = true) (K9 : pW P t ty = true) {v : Value} (hv : Value.okWide P W .any base t v) {d : DataW H} {p : List MemPlace}
  (h:DataW.Trod enc P W 0 (fun _=>true) true t v d p):∃y:ty.den,Rel (iC W) (fun _=>none) (tyV ty y) v/\Wf ty y:=by
 obtain ⟨fuel,hf⟩:=h
 obtain ⟨y,hy,wy⟩:=Ox hok hf
 refine ⟨y,?_,wy⟩
 cases ty with
 |unit=>simp [pW] at K9
 |bool =>
  cases hu:P.underlying t with
  |none=>simp [gI,hu] at hok
  |some u =>
   cases u<;>first|(exfalso;simp [pW,hu] at K9;done)|(exfalso;simp [gI,hu] at hok;done)|simp [gI,hu] at hok
   ·obtain ⟨b, rfl⟩ := okWide_bool hu hv
    simp only [ak,Value.cells,List.cons.injEq,Value.bool.injEq,and_true] at hy
    subst hy;exact .bool _
 |str =>
  cases hu:P.underlying t with
  |none=>simp [gI,hu] at hok
  |some u =>
   cases u<;>first|(exfalso;simp [pW,hu] at K9;done)|(exfalso;simp [gI,hu] at hok;done)|simp [gI,hu] at hok
   ·obtain ⟨b, rfl⟩ := okWide_string hu hv
    simp only [ak,Value.cells,List.cons.injEq,Value.string.injEq,and_true] at hy
    subst hy;exact .str _
 |int k =>
  cases hu:P.underlying t with
  |none=>simp [gI,hu] at hok
  |some u =>
   cases u<;>first|(exfalso;simp [pW,hu] at K9;done)|(exfalso;simp [gI,hu] at hok;done)|simp [gI,hu] at hok
   ·subst hok
    obtain ⟨b,rfl⟩:=okWide_int hu hv
    simp only [ak,Value.cells,List.cons.injEq,Value.int.injEq,true_and,and_true] at hy
    subst hy;exact .int _ _
 |list te =>
  cases hu:P.underlying t with
  |none=>simp [gI,hu] at hok
  |some u =>
   cases u<;>first|(exfalso;simp [pW,hu] at K9;done)|(exfalso;simp [gI,hu] at hok;done)|simp [gI,hu] at hok
   ·obtain ⟨a, len, cap, rfl⟩ := okWide_slice hu hv
    exact .eG _ _ _ hy
 |bU d g a =>
  cases hu:P.underlying t with
  |none=>simp [gI,hu] at hok
  |some u =>
   cases u<;>first|(exfalso;simp [pW,hu] at K9;done)|(exfalso;simp [gI,hu] at hok;done)|simp [gI,hu] at hok
 |prod a b =>
  cases hu:P.underlying t with
  |none=>simp [gI,hu] at hok
  |some u =>
   have hcs:∃cs:Array Value,v = .agg cs:=by
    cases u<;>simp [gI,hu] at hok
    ·simp only [Value.okWide,hu] at hv;obtain ⟨cs,h1,_⟩:=hv;exact ⟨cs,h1⟩
    ·obtain ⟨cs,h1,_⟩:=okWide_struct hu hv;exact ⟨cs,h1⟩
   obtain ⟨cs,rfl⟩:=hcs
   have hr:=fE (μ:=fun _=>none) hy
   refine .agg _ cs ?_ (fun i v x hv hx=>hr.2 i v x hv (by simpa [Value.cells] using hx)) ?_
   ·have:=hr.1;simpa [Value.cells] using this
   ·intro x hx;exact ak.one hy x (by simpa [Value.cells] using hx)
theorem uT:∀{ts:List TypeId} {tys:List Ty} {vs:List Value} {ds:List (DataW H)} {p:List MemPlace},ts.length=tys.length->(∀(i:Nat) t ty,ts[i]?=some t->tys[i]?=some ty->gI P 8 t ty=true/\pW P t ty=true) ->
  (∀(j:Nat) t v,ts[j]?=some t->vs[j]?=some v->Value.okWide P W .any base t v)->DataW.TrodAll enc P W 0 (fun _=>true) true ts vs ds p ->
  ∃x:qC (holes tys) Unit,aR (iC W) (fun _=>none) (DF (holes tys) x) vs/\DO tys x
 |[],[],vs,ds,p,_,_,_,h=>by
  obtain ⟨rfl,_,_⟩:=trodAll_nil h
  exact ⟨(),.nil,trivial⟩
 |t::ts,ty::tys,vs,ds,p,hl,hok,hv,h=>by
  obtain ⟨v,vs',d,ds',p1,q,rfl,rfl,rfl,h1,h2⟩:=trodAll_cons h
  obtain ⟨k1,k2⟩:=hok 0 t ty rfl rfl
  obtain ⟨y,hy,wy⟩:=Pb k1 k2 (hv 0 t v rfl rfl) h1
  obtain ⟨x,hx,wx⟩:=uT (by simpa using hl) (fun i t ty ht hty=>hok (i+1) t ty (by simpa using ht) (by simpa using hty)) (fun j t v ht Db=>hv (j+1) t v (by simpa using ht) (by simpa using Db)) h2
  exact ⟨(y,x),.cons hy hx,wy,wx⟩
 |[],_::_,_,_,_,hl,_,_,_=>by simp at hl
 |_::_,[],_,_,_,hl,_,_,_=>by simp at hl
theorem pX (hl:laidOutB P=true) {W':World} (hb:Below W.heap.size W W'):∀{ts:List TypeId} {vs:List Value} {ds:List (DataW H)} {p:List MemPlace},(∀t∈ts,P.readableRec t=true/\t<P.types.size) ->
  DataW.TrodAll enc P W 0 (fun _=>true) true ts vs ds p->(∀x∈p,x.block<W.heap.size)->DataW.TrodAll enc P W' 0 (fun b=>decide (b<W.heap.size)) true ts vs ds p
 |[],vs,ds,p,_,h,_=>by
  obtain ⟨rfl,rfl,rfl⟩:=trodAll_nil h
  exact trodAll_mk0
 |t::ts,vs,ds,p,ht,h,hp=>by
  obtain ⟨v,vs',d,ds',p1,q,rfl,rfl,rfl,h1,h2⟩:=trodAll_cons h
  obtain ⟨k1,k2⟩:=ht t (List.mem_cons_self ..)
  exact trodAll_cons_mk (Below.trod hl k1 k2 h1 hb (fun x hx=>hp x (List.mem_append_left _ hx))) (pX hl hb (fun t ht'=>ht t (List.mem_cons_of_mem _ ht')) h2 (fun x hx=>hp x (List.mem_append_right _ hx)))
end
def qF (P : Program) : List TypeId → List Ty → Bool
 |[],[]=>true
 |t::ts,ty::tys=>gI P 8 t ty&&pW P t ty&&P.readableRec t&&Nat.blt t P.types.size&&qF P ts tys
 |_,_=>false
theorem xK {P : Program} : ∀ {ts : List TypeId} {tys : List Ty}, qF P ts tys = true → ts.length = tys.length ∧ (∀ (i : Nat) t ty, ts[i]? = some t → tys[i]? = some ty → gI P 8 t ty = true ∧ pW P t ty = true) ∧ ∀ t ∈ ts, P.readableRec t = true ∧ t < P.types.size
 |[],[],_=>⟨rfl,fun i t ty h=>by simp at h,fun t h=>by simp at h⟩
 |t::ts,ty::tys,h=>by
  simp only [qF,Bool.and_eq_true] at h
  obtain ⟨⟨⟨⟨h1,h2⟩,h3⟩,h4⟩,h5⟩:=h
  obtain ⟨k1,k2,k3⟩:=xK h5
  refine ⟨by simp [k1],fun i t' ty' ht hty=>?_,fun t' ht=>?_⟩
  ·cases i with
   |zero=>simp at ht hty;subst ht;subst hty;exact ⟨h1,h2⟩
   |succ i=>exact k2 i t' ty' (by simpa using ht) (by simpa using hty)
  ·rcases List.mem_cons.1 ht with rfl | ht
   ·exact ⟨h3,by simpa [Nat.blt,Nat.succ_le_iff] using h4⟩
   ·exact k3 t' ht
 |[],_::_,h=>by simp [qF] at h
 |_::_,[],h=>by simp [qF] at h
theorem pY {P : Program} {H : Type} {enc : TypeId × Value → H} {f : FuncId} {fn : Func} {s : ChangeSpec} (tys : List Ty) (laid : laidOutB P = true) (hvars : s.vars = []) (Zd : qF P fn.params.toList tys = true)
  {tb:TypeId} (hres:fn.resultTypes=#[tb]) (htb:P.underlying tb=some .bool)
  (hs:∀ds:List (DataW H),ds.length=tys.length->(s.fn H ds).results=[.lit (.bool true)]/\(s.fn H ds).args=ds/\(s.fn H ds).vars=[])
  {F:qC (holes tys) Unit->Option (Bool×Unit)} (hct:Ct.Ok P ⟨f,holes tys,.c (.hole .bool),F⟩) (hF:∀x,DO tys x->F x=some (true,()))
  {W:World} {base:Nat} {args:Array Value} {ds gs:List (DataW H)} {before:List MemPlace} (S4:iy P (iC W)) (hval:∀(j:Nat) t v,fn.params[j]?=some t->args[j]?=some v->Value.okWide P W .any base t v)
  (hW:DataW.Whole enc P fn.params.toList s.vars false W args.toList ds gs before) :
  Calls P f args W fun e W'=>∃v,e = .returned v/\s.post enc P fn false true false false W args v W':=by
 have hW':=hW
 obtain ⟨p,q,hA,hV,rfl,hfz,tW⟩:=hW
 rw [hvars] at hV
 obtain ⟨rfl,rfl⟩:=trodVars_none hV
 obtain ⟨k1,k2,k3⟩:=xK Zd
 obtain ⟨x,hx,wx⟩:=uT (base:=base) k1 k2 (fun j t v ht hv=>hval j t v (by simpa using ht) (by simpa using hv)) hA
 have hlen:ds.length=tys.length:=by
  rw [<-k1]
  have:∀{ts:List TypeId} {vs:List Value} {ds:List (DataW H)} {p:List MemPlace},DataW.TrodAll enc P W 0 (fun _=>true) true ts vs ds p->ds.length=ts.length:=by
   intro ts
   induction ts with
   |nil=>intro vs ds p h;obtain ⟨rfl,rfl,rfl⟩:=trodAll_nil h;rfl
   |cons t ts ih=>intro vs ds p h;obtain ⟨v,vs',d,ds',p1,q,rfl,rfl,rfl,h1,h2⟩:=trodAll_cons h;simp [ih h2]
  exact this hA
 simp only [List.append_nil] at hW'
 have eW:=(hct x (true,()) (hF x wx)).2 (iC W) W args S4 (fun b o x h=>h) hx
 refine (callsIn_wide.1 eW).mono ?_
 rintro e W' ⟨v,ι',rfl,_,_,_,jT,hr⟩
 have hv:v = .bool true:=by
  have hr':Rel ι' (fun _=>none) (.bool true) v:=hr
  cases hr';rfl
 subst hv
 have hlt:∀x∈p,x.block<W.heap.size:=fun x hx=>hW'.lt x hx
 obtain ⟨s1,s2,s3⟩:=hs (ds++[]) (by simpa using hlen)
 simp only [List.append_nil] at s1 s2 s3
 refine ⟨_,rfl,ds,[],p,[],p,[],hW',?_,?_,?_,jT.b.frame _,fun h=>by cases h⟩
 ·simp only [List.append_nil]
  rw [s1,hres]
  exact trodAll_cons_mk (p:=[]) (p':=[]) (shut_bool htb _) trodAll_mk0
 ·simp only [List.append_nil]
  rw [s2]
  exact pX laid jT.b k3 hA hlt
 ·simp only [List.append_nil]
  rw [s3,hvars]
  rfl
theorem TO {P : Program} {H : Type} {enc : TypeId × Value → H} {f : FuncId} {fn : Func} {s : ChangeSpec} (tys : List Ty) (laid : laidOutB P = true) (hvars : s.vars = []) (Zd : qF P fn.params.toList tys = true)
  {tb:TypeId} (hres:fn.resultTypes=#[tb]) (htb:P.underlying tb=some .bool)
  (hs:∀ds:List (DataW H),ds.length=tys.length->(s.fn H ds).results=[.lit (.bool true)]/\(s.fn H ds).args=ds/\(s.fn H ds).vars=[])
  {F:qC (holes tys) Unit->Option (Bool×Unit)} (hct:Ct.Ok P ⟨f,holes tys,.c (.hole .bool),F⟩) (hF:∀x,DO tys x->F x=some (true,()))
  {W:World} {base:Nat} {args:Array Value} {ds gs:List (DataW H)} {before:List MemPlace} (hno:(List.range P.globals.size).all (fun g=>(jh P g).isNone)=true) (hval:∀(j:Nat) t v,fn.params[j]?=some t->args[j]?=some v->Value.okWide P W .any base t v)
  (hW:DataW.Whole enc P fn.params.toList s.vars false W args.toList ds gs before) :
  Calls P f args W fun e W'=>∃v,e = .returned v/\s.post enc P fn false true false false W args v W' :=
 pY tys laid hvars Zd hres htb hs hct hF (iy.none hno _) hval hW
theorem Lf {P:Program} {W:World} (h:∀g c8,jh P g=some c8->∀i,i<c8.length->W.cell? ⟨g,i,none⟩=some (.int .u8 (c8.getD i 0))):iy P (iC W):=fun g c8 hg j v hv=>by
 simp only [List.getElem?_map,Option.map_eq_some_iff] at hv
 obtain ⟨z,hz,rfl⟩:=hv
 obtain ⟨hj,rfl⟩:=List.getElem?_eq_some_iff.1 hz
 have:=h g c8 hg j hj
 simp only [iC,Nat.zero_add]
 rw [this]
 simp [List.getD,hj]
end Go.AM
end
section
namespace Go.AM
theorem bL {z:Int} (h1 : -9223372036854775808<=z) (h2:z<=9223372036854775807):cP .i64 z=true:=by
 have e1:IntKind.i64.min = -9223372036854775808:=by decide
 have e2:IntKind.i64.max=9223372036854775807:=by decide
 simp only [cP,e1,e2,Bool.and_eq_true,decide_eq_true_eq]
 exact ⟨h1,h2⟩
theorem nt {z:Int} (h1:0<=z) (h2:z<=18446744073709551615):cP .u64 z=true:=by
 have e1:IntKind.u64.min=0:=by decide
 have e2:IntKind.u64.max=18446744073709551615:=by decide
 simp only [cP,e1,e2,Bool.and_eq_true,decide_eq_true_eq]
 exact ⟨h1,h2⟩
theorem cm {i n:Int} (h:0<=i) (h2:i<n):gz i n=true:=by simp [gz,h,h2]
theorem xL {X:Type} {z:Int} {x:Option X} (h1 : -9223372036854775808<=z) (h2:z<=9223372036854775807):need (cP .i64 z) x=x:=aA (bL h1 h2)
theorem mI {X:Type} {i n:Int} {x:Option X} (h:0<=i) (h2:i<n):need (gz i n) x=x:=aA (cm h h2)
theorem aL {X:Type} {p:Prop} [Decidable p] {x:Option X} (h:p):need (decide p) x=x:=aA (decide_eq_true h)
theorem br_t {X:Type} {c:Bool} {x y:Option X} (h:c=true):vq c x y=x:=by rw [h,cQ]
theorem br_f {X:Type} {c:Bool} {x y:Option X} (h:c=false):vq c x y=y:=by rw [h,aZ]
theorem bw {X:Type} {p:Prop} [Decidable p] {x y:Option X}:vq (decide p) x y=if p then x else y:=by
 by_cases h:p<;>simp [h]
theorem jO {X:Type} {a b:Int} {x y:Option X}:vq (a==b) x y=if a=b then x else y:=by
 by_cases h:a=b
 ·simp [h]
 ·have : (a == b) = false := by simpa using h
  rw [this,aZ,if_neg h]
theorem iX {X:Type} {c:Bool} {x y:Option X}:vq (!c) x y=vq c y x:=by cases c<;>simp
theorem af {A X:Type} {o:Option A} {a:A} {f:A->Option X} (h:o=some a):cZ o f=f a:=by rw [h,bg]
theorem iY {α β:Type} {step:α->Option (α ⊕ β)} (n:Nat) (g:Nat->α) {b:β} (hr:∀k,k<n->step (g k)=some (.inl (g (k+1)))) (he:step (g n)=some (.inr b)):iter step (g 0)=some b:=by
 have key:∀m k,k+m=n->iter step (g k)=some b:=by
  intro m
  induction m with
  |zero=>intro k hk;rw [show k=n by omega];exact bk he
  |succ m ih=>intro k hk;exact aW (hr k (by omega)) (ih (k+1) (by omega))
 exact key n 0 (by omega)
theorem Ze {α β : Type} {step : α → Option (α ⊕ β)} (n : Nat) (g : Nat → α) (stop : Nat → Option β) {b : β} (hr : ∀ k, k < n → match stop k with | none => step (g k) = some (.inl (g (k + 1))) | some b => step (g k) = some (.inr b))
  (he:step (g n)=some (.inr b)):iter step (g 0)=some (((List.range n).findSome? stop).getD b):=by
 have key:∀m k,k+m=n->iter step (g k)=some (((List.range' k m).findSome? stop).getD b):=by
  intro m
  induction m with
  |zero=>intro k hk;rw [show k=n by omega];simpa using bk he
  |succ m ih =>
   intro k hk
   have h:=hr k (by omega)
   rw [List.range'_succ,List.findSome?_cons]
   cases hs:stop k with
   |none=>rw [hs] at h;exact aW h (ih (k+1) (by omega))
   |some c=>rw [hs] at h;exact bk h
 rw [List.range_eq_range']
 exact key n 0 (by omega)
end Go.AM
end
section
namespace Go.AM
structure Le {X:Type} (a b:Option X):Prop where
 h:∀y,a=some y->b=some y
def Pc {X:Type} (c:Bool) (x:Option X):Option X:=match c with
 |true=>x
 |false=>none
def Pd {A X:Type} (o:Option A) (f:A->Option X):Option X:=match o with
 |some a=>f a
 |none=>none
def brC {X:Type} (c:Bool) (x y:Option X):Option X:=match c with
 |true=>x
 |false=>y
theorem Le.r {X:Type} {a:Option X}:Le a a:=⟨fun _ h=>h⟩
theorem Le.n {X:Type} {a:Option X}:Le none a:=⟨fun _ h=>by cases h⟩
theorem Le.nd {X:Type} {c:Bool} {a b:Option X} (h:Le a b):Le (Pc c a) (need c b):=by
 cases c
 ·exact Le.n
 ·simpa [Pc] using h
theorem Le.br {X:Type} {c:Bool} {a b a' b':Option X} (h:Le a a') (h':Le b b'):Le (brC c a b) (vq c a' b'):=by
 cases c
 ·simpa [brC] using h'
 ·simpa [brC] using h
theorem Le.bd {A X:Type} {o o':Option A} {f f':A->Option X} (h:Le o o') (hf:∀y,Le (f y) (f' y)):Le (Pd o f) (cZ o' f'):=⟨fun y hy=>by
 cases o with
 |none=>cases hy
 |some a=>rw [h.h a rfl,bg];exact (hf a).h y hy⟩
theorem Le.iter {α β:Type} {g g':α->Option (α ⊕ β)} {n:Nat} {x:α} (h:∀x,Le (g x) (g' x)):Le (jN g n x) (AM.iter g' x):=⟨fun y hy=>by
 refine Bv (n:=n) ?_
 induction n generalizing x with
 |zero=>cases hy
 |succ n ih =>
  simp only [jN] at hy ⊢
  cases hg:g x with
  |none=>rw [hg] at hy;cases hy
  |some r =>
   rw [hg] at hy
   rw [(h x).h r hg]
   cases r with
   |inl z=>exact ih hy
   |inr b=>exact hy⟩
theorem Le.Ir {A B:Type} {F F':(A->Option B)->A->Option B} (h:∀r r',(∀x,Le (r x) (r' x))->∀x,Le (F r x) (F' r' x)):∀n m,n<=m->∀x,Le (AM.Ir F n x) (AM.Ir F' m x):=by
 intro n
 induction n with
 |zero=>intro m _ x;exact Le.n
 |succ n ih =>
  intro m hm x
  cases m with
  |zero=>omega
  |succ m=>exact h _ _ (ih m (by omega)) x
theorem Le.fix {A B:Type} {F F':(A->Option B)->A->Option B} {n:Nat} {x:A} (h:∀r r',(∀x,Le (r x) (r' x))->∀x,Le (F r x) (F' r' x)):Le (AM.Ir F n x) (zj F' x):=⟨fun y hy =>
 Is (N:=n) fun m hm=>(Le.Ir h n m hm x).h y hy⟩
theorem Le.done {X:Type} {a b:Option X} {y:X} (h:Le a b) (e:a=some y):b=some y:=h.h y e
end Go.AM
end
section
namespace Go.AM
@[reducible] def TP {A B:Type} {Y:Type _} (f:A->Y) (g:B->Y) (z:A ⊕ B):Y:=match z with
 | .inl a=>f a
 | .inr b=>g b
inductive Tr:Type->Type->Type->Type 1 where
 |ret {A0 B0 X:Type} (x:X):Tr A0 B0 X
 |no {A0 B0 X:Type}:Tr A0 B0 X
 |br {A0 B0 X:Type} (c:Bool) (a b:Tr A0 B0 X):Tr A0 B0 X
 |am {A0 B0 X:Type} (d:DecidableEq X) (a b:Tr A0 B0 X):Tr A0 B0 X
 |nd {A0 B0 X:Type} (c:Bool) (a:Tr A0 B0 X):Tr A0 B0 X
 |bd {A0 B0 A X:Type} (o:Tr A0 B0 A) (k:A->Tr A0 B0 X):Tr A0 B0 X
 |jx {A0 B0 A X:Type} (o:Tr A0 B0 (A ⊕ X)) (k:A->Tr A0 B0 X):Tr A0 B0 X
 |sm {A0 B0 A B X:Type} (z:A ⊕ B) (f:A->Tr A0 B0 X) (g:B->Tr A0 B0 X):Tr A0 B0 X
 |it {A0 B0 A B:Type} (step:A->Tr A0 B0 (A ⊕ B)) (x:A):Tr A0 B0 B
 |rc {A0 B0:Type} (x:A0):Tr A0 B0 B0
 |fx {A0 B0 A1 B1:Type} (body:A1->Tr A1 B1 B1) (x:A1):Tr A0 B0 B1
 |up {A0 B0 X:Type} (t:Tr Unit Unit X):Tr A0 B0 X
 |of {A0 B0 X:Type} (o:Option X):Tr A0 B0 X
 |mp {A0 B0 E A B:Type} (step:E->A->Tr A0 B0 (A ⊕ B)) (es:List E) (x:A):Tr A0 B0 (A ⊕ B)
 |mq {A0 B0 E A:Type} (step:E->A->Tr A0 B0 A) (es:List E) (x:A):Tr A0 B0 A
 |an {A0 B0 E X:Type} (es:List E) (k:List E->Tr A0 B0 X):Tr A0 B0 X
 |fm {A0 B0 E A:Type} (step:E->A->Tr A0 B0 A) (l:List E) (x:A):Tr A0 B0 A
abbrev bR (X:Type):=Tr Unit Unit X
noncomputable def run : {A0 B0 X : Type} → (A0 → Option B0) → Tr A0 B0 X → Option X
 |_,_,_,_,.ret x=>some x
 |_,_,_,_,.no=>none
 |_,_,_,r,.br c a b=>vq c (run r a) (run r b)
 |_,_,_,r,.am _ a b=>Dy (run r a) (run r b)
 |_,_,_,r,.nd c a=>need c (run r a)
 |_,_,_,r,.bd o k=>cZ (run r o) fun a=>run r (k a)
 |_,_,_,r,.jx o k=>cZ (run r o) (TP (fun a=>run r (k a)) some)
 |_,_,_,r,.sm z f g=>match z with
  | .inl x=>run r (f x)
  | .inr y=>run r (g y)
 |_,_,_,r,.it step x=>iter (fun a=>run r (step a)) x
 |_,_,_,r,.rc x=>r x
 |_,_,_,_,.fx body x=>zj (fun r y=>run r (body y)) x
 |_,_,_,_,.up t=>run (fun _=>none) t
 |_,_,_,_,.of o=>o
 |_,_,_,r,.mp step es x=>iV (fun l=>EZ (fun e a=>run r (step e a)) l x) es
 |_,_,_,r,.mq step es x=>iV (fun l=>Sl (fun e a=>run r (step e a)) l x) es
 |_,_,_,r,.an es k=>iV (fun l=>run r (k l)) es
 |_,_,_,r,.fm step l x=>Sl (fun e a=>run r (step e a)) l x
noncomputable abbrev ag {X:Type} (t:bR X):Option X:=run (fun _=>none) t
section
variable {A0 B0 A1 B1 A B X:Type} {r:A0->Option B0}
theorem aa {x:X}:run r (.ret x)=some x:=rfl
theorem run_no:run r (.no:Tr A0 B0 X)=none:=rfl
theorem ax {c:Bool} {a b:Tr A0 B0 X}:run r (.br c a b)=vq c (run r a) (run r b):=rfl
theorem Zf {d:DecidableEq X} {a b:Tr A0 B0 X}:run r (.am d a b)=Dy (run r a) (run r b):=rfl
theorem bq {c:Bool} {a:Tr A0 B0 X}:run r (.nd c a)=need c (run r a):=rfl
theorem az {o:Tr A0 B0 A} {k:A->Tr A0 B0 X}:run r (.bd o k)=cZ (run r o) fun a=>run r (k a):=rfl
theorem xM {o:Tr A0 B0 (A ⊕ X)} {k:A->Tr A0 B0 X}:run r (.jx o k)=cZ (run r o) (TP (fun a=>run r (k a)) some):=rfl
theorem tY {x:A} {f:A->Tr A0 B0 X} {g:B->Tr A0 B0 X}:run r (.sm (.inl x) f g)=run r (f x):=rfl
theorem ga {y:B} {f:A->Tr A0 B0 X} {g:B->Tr A0 B0 X}:run r (.sm (.inr y) f g)=run r (g y):=rfl
theorem bC {step:A->Tr A0 B0 (A ⊕ B)} {x:A}:run r (.it step x)=iter (fun a=>run r (step a)) x:=rfl
theorem run_rc {x:A0}:run r (.rc x)=r x:=rfl
theorem run_fx {body:A1->Tr A1 B1 B1} {x:A1}:run r (.fx body x)=zj (fun r y=>run r (body y)) x:=rfl
theorem run_up {t:bR X}:run r (.up t)=ag t:=rfl
theorem run_of {o:Option X}:run r (.of o)=o:=rfl
theorem run_mp {E:Type} {step:E->A->Tr A0 B0 (A ⊕ B)} {es:List E} {x:A}:run r (.mp step es x)=iV (fun l=>EZ (fun e a=>run r (step e a)) l x) es:=rfl
theorem run_an {E:Type} {es:List E} {k:List E->Tr A0 B0 X}:run r (.an es k)=iV (fun l=>run r (k l)) es:=rfl
theorem run_fm {E:Type} {step:E->A->Tr A0 B0 A} {l:List E} {x:A}:run r (.fm step l x)=Sl (fun e a=>run r (step e a)) l x:=rfl
theorem run_mq {E:Type} {step:E->A->Tr A0 B0 A} {es:List E} {x:A}:run r (.mq step es x)=iV (fun l=>Sl (fun e a=>run r (step e a)) l x) es:=rfl
end
def Zg {X:Type} (d:DecidableEq X) (x y:Option X):Option X:=match x,y with
 |some a,some b=>match d a b with
  | .isTrue _=>some a
  | .isFalse _=>none
 |_,_=>none
theorem Le.am {X:Type} {d:DecidableEq X} {a b a' b':Option X} (h:Le a a') (h':Le b b'):Le (Zg d a b) (Dy a' b'):=⟨fun y hy=>by
 cases a with
 |none=>cases hy
 |some u=>cases b with
  |none=>cases hy
  |some v =>
   simp only [Zg] at hy
   split at hy
   ·rename_i e _; cases hy; subst e
    rw [h.h _ rfl,h'.h _ rfl,KY]
   ·cases hy⟩
def cmp (n : Nat) : {A0 B0 X : Type} → (A0 → Option B0) → Tr A0 B0 X → Option X
 |_,_,_,_,.ret x=>some x
 |_,_,_,_,.no=>none
 |_,_,_,r,.br c a b=>brC c (cmp n r a) (cmp n r b)
 |_,_,_,r,.am d a b=>Zg d (cmp n r a) (cmp n r b)
 |_,_,_,r,.nd c a=>Pc c (cmp n r a)
 |_,_,_,r,.bd o k=>Pd (cmp n r o) fun a=>cmp n r (k a)
 |_,_,_,r,.jx o k=>Pd (cmp n r o) (TP (fun a=>cmp n r (k a)) some)
 |_,_,_,r,.sm z f g=>match z with
  | .inl x=>cmp n r (f x)
  | .inr y=>cmp n r (g y)
 |_,_,_,r,.it step x=>jN (fun a=>cmp n r (step a)) n x
 |_,_,_,r,.rc x=>r x
 |_,_,_,_,.fx body x=>Ir (fun r y=>cmp n r (body y)) n x
 |_,_,_,_,.up t=>cmp n (fun _=>none) t
 |_,_,_,_,.of _=>none
 |_,_,_,_,.mp _ _ _=>none
 |_,_,_,_,.mq _ _ _=>none
 |_,_,_,_,.an _ _=>none
 |_,_,_,_,.fm _ _ _=>none
theorem gW (n : Nat) : {A0 B0 X : Type} → (r r' : A0 → Option B0) → (∀ x, Le (r x) (r' x)) → (t : Tr A0 B0 X) → Le (cmp n r t) (run r' t)
 |_,_,_,_,_,_,.ret _=>Le.r
 |_,_,_,_,_,_,.no=>Le.n
 |_,_,_,r,r',h,.br _ a b=>Le.br (gW n r r' h a) (gW n r r' h b)
 |_,_,_,r,r',h,.am _ a b=>Le.am (gW n r r' h a) (gW n r r' h b)
 |_,_,_,r,r',h,.nd _ a=>Le.nd (gW n r r' h a)
 |_,_,_,r,r',h,.bd o k=>Le.bd (gW n r r' h o) fun a=>gW n r r' h (k a)
 |_,_,_,r,r',h,.jx o k=>Le.bd (gW n r r' h o) fun z=>match z with
  | .inl a=>gW n r r' h (k a)
  | .inr _=>Le.r
 |_,_,_,r,r',h,.sm (.inl x) f g=>gW n r r' h (f x)
 |_,_,_,r,r',h,.sm (.inr y) f g=>gW n r r' h (g y)
 |_,_,_,r,r',h,.it step x=>Le.iter fun a=>gW n r r' h (step a)
 |_,_,_,_,_,h,.rc x=>h x
 |_,_,_,_,_,_,.fx body x=>Le.fix fun r r' h y=>gW n r r' h (body y)
 |_,_,_,_,_,_,.up t=>gW n _ _ (fun _=>Le.r) t
 |_,_,_,_,_,_,.of _=>Le.n
 |_,_,_,_,_,_,.mp _ _ _=>Le.n
 |_,_,_,_,_,_,.mq _ _ _=>Le.n
 |_,_,_,_,_,_,.an _ _=>Le.n
 |_,_,_,_,_,_,.fm _ _ _=>Le.n
@[reducible] def Tr.ni {A0 B0 X:Type} (z:Int) (a:Tr A0 B0 X):Tr A0 B0 X:=.nd (cP .i64 z) a
@[reducible] def Tr.nb {A0 B0 X:Type} (i n:Int) (a:Tr A0 B0 X):Tr A0 B0 X:=.nd (gz i n) a
theorem aS {A0 B0 X:Type} {r:A0->Option B0} {z:Int} {a:Tr A0 B0 X}:run r (.ni z a)=need (cP .i64 z) (run r a):=rfl
theorem bz {A0 B0 X:Type} {r:A0->Option B0} {i n:Int} {a:Tr A0 B0 X}:run r (.nb i n a)=need (gz i n) (run r a):=rfl
theorem dM {X:Type} {t:bR X} {y:X} (n:Nat) (h:cmp n (fun _=>none) t=some y):ag t=some y:=(gW n _ _ (fun _=>Le.r) t).h y h
def eE : {A0 B0 A X : Type} → Tr A0 B0 A → (A → Tr A0 B0 X) → Tr A0 B0 X
 |_,_,_,_,.ret x,k=>k x
 |_,_,_,_,.no,_=>.no
 |_,_,_,_,.br c a b,k=>.br c (eE a k) (eE b k)
 |_,_,_,_,.am d a b,k=>.bd (.am d a b) k
 |_,_,_,_,.nd c a,k=>.nd c (eE a k)
 |_,_,_,_,.bd o f,k=>.bd o fun a=>eE (f a) k
 |_,_,_,_,.jx o f,k=>eE o (TP (fun a=>eE (f a) k) k)
 |_,_,_,_,.sm z f g,k=>.sm z (fun x=>eE (f x) k) (fun y=>eE (g y) k)
 |_,_,_,_,.it step x,k=>.bd (.it step x) k
 |_,_,_,_,.rc x,k=>.bd (.rc x) k
 |_,_,_,_,.fx b x,k=>.bd (.fx b x) k
 |_,_,_,_,.up t,k=>.bd (.up t) k
 |_,_,_,_,.of o,k=>.bd (.of o) k
 |_,_,_,_,.mp s es x,k=>.bd (.mp s es x) k
 |_,_,_,_,.mq s es x,k=>.bd (.mq s es x) k
 |_,_,_,_,.an es f,k=>.bd (.an es f) k
 |_,_,_,_,.fm s l x,k=>.bd (.fm s l x) k
def flat {A0 B0 X:Type} (t:Tr A0 B0 X):Tr A0 B0 X:=eE t .ret
theorem TQ {A X:Type} {c:Bool} {a b:Option A} {f:A->Option X}:cZ (vq c a b) f=vq c (cZ a f) (cZ b f):=by cases c<;>simp
theorem It {X:Type} {x:Option X}:need false x=none:=by
 cases h:need false x with
 |none=>rfl
 |some y=>have:=(j4 h).1;cases this
theorem TS {A X:Type} {c:Bool} {a:Option A} {f:A->Option X}:cZ (need c a) f=need c (cZ a f):=by
 cases c
 ·rw [It,It,o8]
 ·rw [aA rfl,aA rfl]
theorem Iu {A B X:Type} {o:Option A} {f:A->Option B} {g:B->Option X}:cZ (cZ o f) g=cZ o fun a=>cZ (f a) g:=by
 cases o with
 |none=>rw [o8,o8,o8]
 |some a=>rw [bg,bg]
theorem FD {A:Type} {o:Option A}:cZ o (fun a=>some a)=o:=by
 cases o with
 |none=>rw [o8]
 |some a=>rw [bg]
theorem gp : {A0 B0 A X : Type} → (r : A0 → Option B0) → (t : Tr A0 B0 A) → (k : A → Tr A0 B0 X) → run r (eE t k) = cZ (run r t) fun a => run r (k a)
 |_,_,_,_,r,.ret x,k=>by simp only [eE,run,bg]
 |_,_,_,_,r,.no,k=>by simp only [eE,run,o8]
 |_,_,_,_,r,.br c a b,k=>by simp only [eE,run,TQ,gp r a k,gp r b k]
 |_,_,_,_,r,.am d a b,k=>by simp only [eE,run]
 |_,_,_,_,r,.nd c a,k=>by simp only [eE,run,TS,gp r a k]
 |_,_,_,_,r,.bd o f,k=>by simp only [eE,run,Iu,gp r (f _) k]
 |_,_,_,_,r,.jx o f,k=>by
  simp only [eE,run,Iu,gp r o _]
  congr 1
  funext z
  cases z with
  |inl a=>simp only [gp r (f a) k]
  |inr x=>simp only [bg]
 |_,_,_,_,r,.sm z f g,k=>by
  cases z with
  |inl x=>simp only [eE,run,gp r (f x) k]
  |inr y=>simp only [eE,run,gp r (g y) k]
 |_,_,_,_,r,.it step x,k=>by simp only [eE,run]
 |_,_,_,_,r,.rc x,k=>by simp only [eE,run]
 |_,_,_,_,r,.fx b x,k=>by simp only [eE,run]
 |_,_,_,_,r,.up t,k=>by simp only [eE,run]
 |_,_,_,_,r,.of o,k=>by simp only [eE,run]
 |_,_,_,_,r,.mp s es x,k=>by simp only [eE,run]
 |_,_,_,_,r,.mq s es x,k=>by simp only [eE,run]
 |_,_,_,_,r,.an es f,k=>by simp only [eE,run]
 |_,_,_,_,r,.fm s l x,k=>by simp only [eE,run]
theorem sj {A0 B0 X:Type} {r:A0->Option B0} {t:Tr A0 B0 X}:run r (flat t)=run r t:=by
 unfold flat
 rw [gp]
 simp only [run]
 exact FD
end Go.AM
end
section
namespace Go.AM
inductive LR (P:Program) (N:Nat) (out:Option Nat) (base:Nat):Type 1 where
 |l (x:bK P N out base)
 |r (x:fJ P N out base)
 |m (x:K0 P N out base)
 |x
def nl : C → Nat
 | .seq a b=>nl a+nl b
 | .cond _ a b=>nl a+nl b
 | .block _ a=>nl a
 | .loop _=>1
 | .c9 _ _ _ _=>1
 | .gk _ _ _ _ _ _ _ _ _ _ _=>1
 |_=>0
section
variable {P:Program} {N:Nat} {out:Option Nat} {base:Nat}
def TT : List (LR P N out base) → Nat → LR P N out base
 |[],_=>.x
 |y::_,0=>y
 |_::r,n+1=>TT r n
def dO (ls : List (LR P N out base)) : C → Nat → D P N out base
 | .skip,_=>.skip
 | .cF is,_=>.cF is
 | .draw ps is,_=>.draw ps is
 | .seq a b,i=>.seq (dO ls a i) (dO ls b (i+nl a))
 | .cond c a b,i=>.cond c (dO ls a i) (dO ls b (i+nl a))
 | .block n a,i=>.block n (dO ls a i)
 | .loop c,i=>match TT ls i with
  | .l l=>.loop l
  |_=>.loop (O8 c)
 | .exit n,_=>.exit n
 | .ret,_=>.ret
 | .c9 f ps a b,i=>match TT ls i with
  | .r l=>.c9 l
  |_=>.c9 (K7 f ps a b)
 | .gk p m t cl e kt kg vt vg d b,i=>match TT ls i with
  | .m l=>.gk l
  |_=>.gk (TK p m t cl e kt kg vt vg d b)
end
def tZ (b : Bool) : C → Nat → C
 | .seq x y,k=>match Nat.blt k (nl x) with
  |true=>tZ b x k
  |false=>tZ b y (k - nl x)
 | .cond _ x y,k=>match Nat.blt k (nl x) with
  |true=>tZ b x k
  |false=>tZ b y (k - nl x)
 | .block _ x,k=>tZ b x k
 | .loop c,_=>c
 | .c9 _ _ x y,_=>match b with
  |true=>y
  |false=>x
 | .gk _ _ _ _ _ _ _ _ _ _ x,_=>x
 |c,_=>c
def pick : C → List (Nat × Bool) → C
 |c,[]=>c
 |c,(k,b)::r=>pick (tZ b c k) r
def kd (P:Program) (f:Func):C:=match cN P f with
 |some t=>t.body
 |none=>.skip
@[reducible] def hI:SP:=.c (.hole (.int .i64))
@[reducible] def hL:SP:=.c (.hole (.list (.int .i64)))
@[reducible] def M6:SP:=.c (.hole (.list (.list (.int .i64))))
@[reducible] def tI:Ty:=.int .i64
@[reducible] def tL:Ty:=.list (.int .i64)
@[reducible] def ay:Ty:=.list (.list (.int .i64))
end Go.AM
end
section
namespace Go.AM
section
variable {P:Program} {N:Nat} {out:Option Nat} {base:Nat}
noncomputable def kUn {R : Type} (kz : Kz R) (cx : Cx) (d : D P N out base) : Nat → Env → Nat → ai → List Nat → Kc R → R
 |0,_,_,_,_,_=>kz.no
 |n+1,env,nx,bl,ms,K=>kE kz cx bW d env nx bl ms fun e env nx bl ms=>match e with
  | .normal=>kUn kz cx d n env nx bl ms K
  | .exit id=>K (.exit id) env nx bl ms
  | .ret=>K .ret env nx bl ms
theorem Zh {cx:Cx} (dh:cx.Ok P) {d:D P N out base} {X:Type} {Q:Ex->St->Prop} {r:X}:∀{k:Nat} {env:Env} {nx:Nat} {bl:ai} {ms:List Nat} {K:Kc (Option X)},kUn (jv X) cx d k env nx bl ms K=some r ->
  (∀e env nx bl ms,K e env nx bl ms=some r->Q e ⟨env,⟨nx,bl⟩,ms⟩)->unr (cS P N out base) d.er k ⟨env,⟨nx,bl⟩,ms⟩ Q:=by
 intro k
 induction k with
 |zero=>intro env nx bl ms K h hK;cases h
 |succ k ih =>
  intro env nx bl ms K h hK
  refine lf dh h fun e env nx bl ms hk=>?_
  cases e with
  |normal=>exact ih hk hK
  |exit id=>exact hK _ _ _ _ _ hk
  |ret=>exact hK _ _ _ _ _ hk
noncomputable def adJ (mixed:P.follows .mixedOrders=true) (cx:Cx) (dh:cx.Ok P) (d:D P N out base) (k:Nat):bK P N out base where
 c:=d.er
 run kz env nx bl ms K:=kUn kz cx d k env nx bl ms K
 ok:=by
  intro X env nx bl ms K r h Q hQ
  exact w8 (eK mixed) (Zh dh h hQ)
end
section
variable {P:Program} {N:Nat} {out:Option Nat} {base:Nat}
theorem get_none : ∀ {env : Env} {t : Nat}, t ∉ env.map (·.1) → get t env = .any
 |[],_,_=>rfl
 |(s,v)::r,t,h=>by
  simp only [List.map_cons,List.mem_cons,not_or] at h
  rw [fF,if_neg (fun e=>h.1 e.symm)]
  exact get_none h.2
noncomputable def FE {R : Type} (kz : Kz R) (cx : Cx) (oz : List Nat) (p : aG) (xs : bt) (mn it : Nat) (cl : List Nat) (e : Option Nat) (kt : Ty) (kg : Bool) (vt : Ty) (vg : Bool) {dW : Nat} (body : D P N out dW) (inl : p.T → R) (inr : xs.T → R)
  (xp:kt.den×vt.den) (x:p.T):R :=
 fN (base+p.eM.length) fun aM=>p.go aM x fun env _ bl ms=>match get mn env with
  | .mp id=>match jm bl kt kg vt vg id with
   |some es=>K4 (Tu e kt kg vt vg xp ((it,.ptr aM 0)::env)) fun env=>fN (aM+1) fun nx=>kE kz cx bW body env nx bl ms fun ex env nx bl ms=>match ex with
    | .normal=>match get it env with
     | .ptr i o=>match an (Nat.beq i aM) (Nat.beq o 0) with
      |true=>match get mn env with
       | .mp id'=>match Nat.beq id' id with
        |true=>match jm bl kt kg vt vg id with
         |some es'=>kz.nd (Ds es' es) (p.rd kz.no oz base (fc (it::cl) env) nx bl ms inl)
         |none=>kz.no
        |false=>kz.no
       |_=>kz.no
      |false=>kz.no
     |_=>kz.no
    | .exit i=>xs.rd kz.no oz base (.exit i) env nx bl ms inr
    | .ret=>xs.rd kz.no oz base .ret env nx bl ms inr
   |none=>kz.no
  |_=>kz.no
def FF {R:Type} (kz:Kz R) (cx:Cx) (oz:List Nat) (p:aG) (pre:List dD) (mn it:Nat) (cl:List Nat) (kt:Ty) (kg:Bool) (vt:Ty) (vg:Bool) (env:Env) (nx:Nat) (bl:ai) (ms:List Nat) (k:List (kt.den×vt.den)->p.T->R):R :=
 kI kz cx bW pre env nx bl fun env nx bl=>match get mn env with
  | .mp id=>match jm bl kt kg vt vg id with
   |some es=>p.rd kz.no oz base (fc (it::cl) env) nx bl ms fun x=>k es x
   |none=>kz.no
  |_=>kz.no
theorem Pe (mixed : P.follows .mixedOrders = true) {cx : Cx} (dh : cx.Ok P) {p : aG} {xs : bt} (hxs : xs.all (fun p => !BD p.1 .normal) = true) {pre : List dD} {mn it : Nat} {cl : List Nat} {e : Option Nat} {kt vt : Ty} {kg vg : Bool} {pJ : Nat}
  (rj:p.env.all (fun q => !(it::cl).contains q.1)=true) {dW:Nat} (iw:dW=base+p.eM.length+1) {body:D P N out dW} {step:kt.den×vt.den->p.T->Option (p.T ⊕ xs.T)}
  (hstep:∀xp x,FE (base:=base) (jv (p.T ⊕ xs.T)) cx (List.range base) p xs mn it cl e kt kg vt vg body (fun y=>some (.inl y)) (fun b=>some (.inr b)) xp x=step xp x) {X:Type} {env:Env} {nx:Nat} {bl:ai} {ms:List Nat} {r:X} {Q:Ex->St->Prop}
  {k:List (kt.den×vt.den)->p.T->Option X} (h:FF (base:=base) (jv X) cx (List.range base) p pre mn it cl kt kg vt vg env nx bl ms k=some r)
  (hk:∀es x,k es x=some r->∃res,(∀l:List (kt.den×vt.den),l.Perm es->EZ step l x=some res)/\(match res with | .inl y=>Q .normal (p.st base y) | .inr b=>Q (Dv pJ (xs.st base b).1) (xs.st base b).2)) :
  (cS P N out base).gk (.gk pre (.t mn) it cl e kt kg vt vg pJ body.er) ⟨env,⟨nx,bl⟩,ms⟩ Q:=by
 subst iw
 refine Dx (fun b=>eK mixed) (I:=p.st base) (X:=xs.st base) (step:=step) (aM:=base+p.eM.length) (fun x s hs=>?_) (fun x=>rfl) (fun xp x r hx=>?_) ?_
 ·refine get_none (env := p.E x) fun hm => ?_
  rw [aG.vB] at hm
  obtain ⟨q,hq,rfl⟩:=List.mem_map.1 hm
  have:=List.all_eq_true.1 rj q hq
  simp only [Bool.not_eq_true',<-Bool.not_eq_true] at this
  exact this (by simpa using hs)
 ·rw [← hstep xp x] at hx
  unfold FE at hx
  rw [eY,aG.go_eq] at hx
  split at hx<;>try (cases hx;done)
  rename_i id hid
  split at hx<;>try (cases hx;done)
  rename_i es CD
  rw [r9,eY] at hx
  refine ⟨id,es,hid,CD,lf dh hx fun ex env nx bl ms hk=>?_⟩
  cases ex with
  |normal =>
   simp only at hk
   split at hk<;>try (cases hk;done)
   rename_i i o hit
   split at hk<;>try (cases hk;done)
   rename_i yR
   rw [aX] at yR
   have e1:=Nat.eq_of_beq_eq_true yR.1
   have e2:=Nat.eq_of_beq_eq_true yR.2
   subst e1;subst e2
   split at hk<;>try (cases hk;done)
   rename_i id' Zi
   split at hk<;>try (cases hk;done)
   rename_i hbe
   have e3:=Nat.eq_of_beq_eq_true hbe
   subst e3
   split at hk<;>try (cases hk;done)
   rename_i es' KV
   have hk2:=(j4 hk).2
   have e4:=Dt (j4 hk).1
   clear hk
   subst e4
   obtain ⟨y,π,h1,h2⟩:=aG.ff hk2
   cases h1
   exact ⟨rfl,hit,Zi,KV,π,h2⟩
  |exit i =>
   obtain ⟨y,π,q1,q2,q3⟩:=bt.ff hk
   cases q1
   exact ⟨by simp,q2,π,q3⟩
  |ret =>
   obtain ⟨y,π,q1,q2,q3⟩:=bt.ff hk
   cases q1
   exact ⟨by simp,q2,π,q3⟩
 ·unfold FF at h
  refine ou dh h fun env nx bl h=>?_
  split at h<;>try (cases h;done)
  rename_i id hid
  split at h<;>try (cases h;done)
  rename_i es CD
  obtain ⟨x,π,h1,h2⟩:=aG.ff h
  obtain ⟨res,h3,h4⟩:=hk es x h1
  exact ⟨id,es,x,π,hid,CD,h2,fun l hl=>⟨res,h3 l hl,by cases res<;>exact h4⟩⟩
def noB {R:Type}:Empty->R:=fun b=>nomatch b
theorem Xs {E α : Type} {step : E → α → Option α} : ∀ {l : List E} {x y : α}, Sl step l x = some y → EZ (fun e x => (step e x).map (Sum.inl (β := Empty))) l x = some (.inl y)
 |[],x,y,h=>by cases h;rfl
 |e::r,x,y,h=>by
  simp only [Sl] at h
  split at h<;>try (cases h;done)
  rename_i z hz
  simp only [EZ,hz,Option.map_some]
  exact Xs h
theorem An (mixed : P.follows .mixedOrders = true) {cx : Cx} (dh : cx.Ok P) {p : aG} {pre : List dD} {mn it : Nat} {cl : List Nat} {e : Option Nat} {kt vt : Ty} {kg vg : Bool} {pJ : Nat}
  (rj:p.env.all (fun q => !(it::cl).contains q.1)=true) {dW:Nat} (iw:dW=base+p.eM.length+1) {body:D P N out dW} {step:kt.den×vt.den->p.T->Option p.T}
  (hstep:∀xp x,FE (base:=base) (jv p.T) cx (List.range base) p [] mn it cl e kt kg vt vg body (fun y=>some y) noB xp x=step xp x) {X:Type} {env:Env} {nx:Nat} {bl:ai} {ms:List Nat} {r:X} {Q:Ex->St->Prop}
  {k:List (kt.den×vt.den)->p.T->Option X} (h:FF (base:=base) (jv X) cx (List.range base) p pre mn it cl kt kg vt vg env nx bl ms k=some r)
  (hk:∀es x,k es x=some r->∀l:List (kt.den×vt.den),l.Perm es->∃y,Sl step l x=some y/\Q .normal (p.st base y)) :
  (cS P N out base).gk (.gk pre (.t mn) it cl e kt kg vt vg pJ body.er) ⟨env,⟨nx,bl⟩,ms⟩ Q:=by
 subst iw
 refine Dx (fun b=>eK mixed) (I:=p.st base) (X:=fun b:Empty=>nomatch b) (step:=fun e x=>(step e x).map (Sum.inl (β:=Empty))) (aM:=base+p.eM.length) (fun x s hs=>?_) (fun x=>rfl) (fun xp x r hx=>?_) ?_
 ·refine get_none (env := p.E x) fun hm => ?_
  rw [aG.vB] at hm
  obtain ⟨q,hq,rfl⟩:=List.mem_map.1 hm
  have:=List.all_eq_true.1 rj q hq
  simp only [Bool.not_eq_true',<-Bool.not_eq_true] at this
  exact this (by simpa using hs)
 ·obtain ⟨y0, hx0, rfl⟩ := Option.map_eq_some_iff.1 hx
  clear hx
  rename _=>hx
  rw [<-hstep xp x] at hx
  unfold FE at hx
  rw [eY,aG.go_eq] at hx
  split at hx<;>try (cases hx;done)
  rename_i id hid
  split at hx<;>try (cases hx;done)
  rename_i es CD
  rw [r9,eY] at hx
  refine ⟨id,es,hid,CD,lf dh hx fun ex env nx bl ms hk=>?_⟩
  cases ex with
  |normal =>
   simp only at hk
   split at hk<;>try (cases hk;done)
   rename_i i o hit
   split at hk<;>try (cases hk;done)
   rename_i yR
   rw [aX] at yR
   have e1:=Nat.eq_of_beq_eq_true yR.1
   have e2:=Nat.eq_of_beq_eq_true yR.2
   subst e1;subst e2
   split at hk<;>try (cases hk;done)
   rename_i id' Zi
   split at hk<;>try (cases hk;done)
   rename_i hbe
   have e3:=Nat.eq_of_beq_eq_true hbe
   subst e3
   split at hk<;>try (cases hk;done)
   rename_i es' KV
   have hk2:=(j4 hk).2
   have e4:=Dt (j4 hk).1
   clear hk
   subst e4
   obtain ⟨y,π,h1,h2⟩:=aG.ff hk2
   cases h1
   exact ⟨rfl,hit,Zi,KV,π,h2⟩
  |exit i=>cases hk
  |ret=>cases hk
 ·unfold FF at h
  refine ou dh h fun env nx bl h=>?_
  split at h<;>try (cases h;done)
  rename_i id hid
  split at h<;>try (cases h;done)
  rename_i es CD
  obtain ⟨x,π,h1,h2⟩:=aG.ff h
  exact ⟨id,es,x,π,hid,CD,h2,fun l hl=>by
   obtain ⟨y,h3,h4⟩:=hk es x h1 l hl
   exact ⟨.inl y,Xs h3,h4⟩⟩
noncomputable def mkMapR (mixed : P.follows .mixedOrders = true) (cx : Cx) (dh : cx.Ok P) (oz : List Nat) (DP : oz = List.range base) (p : aG) (xs : bt) (hxs : xs.all (fun p => !BD p.1 .normal) = true) (pre : List dD) (mn it : Nat) (cl : List Nat)
  (e:Option Nat) (kt:Ty) (kg:Bool) (vt:Ty) (vg:Bool) (pJ:Nat) (rj:p.env.all (fun q => !(it::cl).contains q.1)=true) (dW:Nat) (iw:dW=base+p.eM.length+1) (body:D P N out dW) (step:kt.den×vt.den->p.T->Option (p.T ⊕ xs.T))
  (hstep:∀xp x,FE (base:=base) (jv (p.T ⊕ xs.T)) cx oz p xs mn it cl e kt kg vt vg body (fun y=>some (.inl y)) (fun b=>some (.inr b)) xp x=step xp x):K0 P N out base where
 pre:=pre
 m:=.t mn
 it:=it
 cl:=cl
 e:=e
 kt:=kt
 kg:=kg
 vt:=vt
 vg:=vg
 pJ:=pJ
 b:=body.er
 run kz env nx bl ms K:=FF (base:=base) kz cx oz p pre mn it cl kt kg vt vg env nx bl ms fun es x=>kz.bd (iV (fun l=>EZ step l x) es) fun z=>kz.sm z (fun y=>fN (base+p.eM.length) fun nx=>p.go nx y (K .normal)) fun b=>xs.go kz base b fun e=>K (Dv pJ e)
 ok:=by
  intro X env nx bl ms K r h Q hQ
  subst DP
  refine Pe mixed dh hxs rj iw hstep h fun es x hk=>?_
  obtain ⟨z,h1,h2⟩:=rW hk
  refine ⟨z,oh h1,?_⟩
  cases z with
  |inl y =>
   simp only [eY,aG.go_eq] at h2
   exact hQ _ _ _ _ _ h2
  |inr b=>exact hQ _ _ _ _ _ (bt.DE (xs:=xs) h2)
noncomputable def ahS (mixed : P.follows .mixedOrders = true) (cx : Cx) (dh : cx.Ok P) (oz : List Nat) (DP : oz = List.range base) (p : aG) (pre : List dD) (mn it : Nat) (cl : List Nat)
  (e:Option Nat) (kt:Ty) (kg:Bool) (vt:Ty) (vg:Bool) (pJ:Nat) (rj:p.env.all (fun q => !(it::cl).contains q.1)=true) (dW:Nat) (iw:dW=base+p.eM.length+1) (body:D P N out dW) (step:kt.den×vt.den->p.T->Option p.T)
  (hstep:∀xp x,FE (base:=base) (jv p.T) cx oz p [] mn it cl e kt kg vt vg body (fun y=>some y) noB xp x=step xp x):K0 P N out base where
 pre:=pre
 m:=.t mn
 it:=it
 cl:=cl
 e:=e
 kt:=kt
 kg:=kg
 vt:=vt
 vg:=vg
 pJ:=pJ
 b:=body.er
 run kz env nx bl ms K:=FF (base:=base) kz cx oz p pre mn it cl kt kg vt vg env nx bl ms fun es x=>kz.bd (iV (fun l=>Sl step l x) es) fun y=>fN (base+p.eM.length) fun nx=>p.go nx y (K .normal)
 ok:=by
  intro X env nx bl ms K r h Q hQ
  subst DP
  refine An mixed dh rj iw hstep h fun es x hk=>?_
  obtain ⟨y,h1,h2⟩:=rW hk
  simp only [eY,aG.go_eq] at h2
  exact fun l hl=>⟨y,oh h1 l hl,hQ _ _ _ _ _ h2⟩
noncomputable def ahT (mixed : P.follows .mixedOrders = true) (cx : Cx) (dh : cx.Ok P) (oz : List Nat) (DP : oz = List.range base) (p : aG) (pre : List dD) (mn it : Nat) (cl : List Nat)
  (e:Option Nat) (kt:Ty) (kg:Bool) (vt:Ty) (vg:Bool) (pJ:Nat) (rj:p.env.all (fun q => !(it::cl).contains q.1)=true) (dW:Nat) (iw:dW=base+p.eM.length+1) (body:D P N out dW) (step:kt.den×vt.den->p.T->Option p.T)
  (hstep:∀xp x,FE (base:=base) (jv p.T) cx oz p [] mn it cl e kt kg vt vg body (fun y=>some y) noB xp x=step xp x):K0 P N out base where
 pre:=pre
 m:=.t mn
 it:=it
 cl:=cl
 e:=e
 kt:=kt
 kg:=kg
 vt:=vt
 vg:=vg
 pJ:=pJ
 b:=body.er
 run kz env nx bl ms K:=FF (base:=base) kz cx oz p pre mn it cl kt kg vt vg env nx bl ms fun es x=>kz.an es fun l=>kz.bd (Sl step l x) fun y=>fN (base+p.eM.length) fun nx=>p.go nx y (K .normal)
 ok:=by
  intro X env nx bl ms K r h Q hQ
  subst DP
  refine An mixed dh rj iw hstep h fun es x hk l hl=>?_
  obtain ⟨y,h1,h2⟩:=rW (oh hk l hl)
  simp only [eY,aG.go_eq] at h2
  exact ⟨y,h1,hQ _ _ _ _ _ h2⟩
end
end Go.AM
end
section
namespace Go.AM
@[reducible] def bs (l:List Nat):ByteArray:=⟨(l.map UInt8.ofNat).toArray⟩
def Pf (t : Ty) (x : t.den) : List t.den → List t.den
 |[]=>[x]
 |y::r=>if dlt t x y=true then x::y::r else y::Pf t x r
def adK (t:Ty) (xs:List t.den):List t.den:=xs.foldr (Pf t) []
def keysL (t:Ty) {β:Type} (es:List (t.den×β)):List t.den:=es.foldr (fun e r=>Pf t e.1 r) []
noncomputable def srtN (t:Ty) (b:List t.den) (n:Nat):Option (List t.den×Unit):=if n<=b.length/\n<cz then some (adK t (b.take n)++b.drop n,()) else none
theorem Xt (s:ByteArray):(nM s).length=s.size:=by simp [nM]
theorem adL {a b:ByteArray} (h:nM a=nM b):a=b:=by
 obtain ⟨x⟩:=a
 obtain ⟨y⟩:=b
 have h':x.toList=y.toList:=by
  have:∀(l m:List UInt8),l.map (fun b=>(b.toNat:Int))=m.map (fun b=>(b.toNat:Int))->l=m:=by
   intro l
   induction l with
   |nil=>intro m e;cases m<;>simp at e;rfl
   |cons c l ih =>
    intro m e
    cases m with
    |nil=>simp at e
    |cons d m =>
     simp only [List.map_cons,List.cons.injEq] at e
     have:c.toNat=d.toNat:=by omega
     rw [UInt8.toNat_inj.1 this,ih m e.2]
  exact this _ _ h
 rw [Array.toList_inj.1 h']
section
variable {P:Program}
noncomputable def inCx (P:Program) (cx:Cx) (f:Nat) (fn:Fn) (d:(b:Nat)->D P fn.N none b):Cx where
 pc:=cx.pc
 ca kz g vs nx bl K:=match an (Nat.beq g f) (Nat.ble vs.length fn.np) with
  |true=>O5 vs fun vs=>kE kz cx bW (d nx) (args 0 vs) nx bl [] (Al kz fn.res fn.tys K)
  |false=>cx.ca kz g vs nx bl K
 rd:=cx.rd
 gc:=cx.gc
theorem ahU (mixed : P.follows .mixedOrders = true) {cx : Cx} (dh : cx.Ok P) {f : Nat} {func : Func} {fn : Fn} (hf : P.funcs[f]? = some func) (fP : cN P func = some fn) (hent : e9 P f)
  {d:(b:Nat)->D P fn.N none b} (hd:∀b,(d b).er=fn.body):(inCx P cx f fn d).Ok P where
 Ic hk:=dh.Ic hk
 E0:=by
  intro X g vs nx bl K r hk Q hQ
  simp only [inCx] at hk
  split at hk
  ·rename_i h
   rw [aX] at h
   have e:=Nat.eq_of_beq_eq_true h.1
   subst e
   rw [kG] at hk
   refine iA hf fP hent (eK mixed) (Nat.le_of_ble_eq_true h.2) ?_
   rw [<-hd nx]
   refine lf dh hk fun e env nx bl ms hk=>?_
   exact xJ hk fun v nx bl hk=>hQ v nx bl hk
  ·exact dh.E0 hk hQ
 OE hk:=dh.OE hk
 Nf hk:=dh.Nf hk
noncomputable def Xu (P:Program) (cx:Cx) (f:Nat) (fn:Fn) (b:Nat) (d:D P fn.N none b):Cx where
 pc:=cx.pc
 ca kz g vs nx bl K:=match an (Nat.beq g f) (an (Nat.ble vs.length fn.np) (Nat.beq nx b)) with
  |true=>O5 vs fun vs=>kE kz cx bW d (args 0 vs) b bl [] (Al kz fn.res fn.tys K)
  |false=>cx.ca kz g vs nx bl K
 rd:=cx.rd
 gc:=cx.gc
theorem adN (mixed : P.follows .mixedOrders = true) {cx : Cx} (dh : cx.Ok P) {f : Nat} {func : Func} {fn : Fn} (hf : P.funcs[f]? = some func) (fP : cN P func = some fn) (hent : e9 P f)
  {b:Nat} {d:D P fn.N none b} (hd:d.er=fn.body):(Xu P cx f fn b d).Ok P where
 Ic hk:=dh.Ic hk
 E0:=by
  intro X g vs nx bl K r hk Q hQ
  simp only [Xu] at hk
  split at hk
  ·rename_i h
   rw [aX,aX] at h
   have e:=Nat.eq_of_beq_eq_true h.1
   have e2:=Nat.eq_of_beq_eq_true h.2.2
   subst e;subst e2
   rw [kG] at hk
   refine iA hf fP hent (eK mixed) (Nat.le_of_ble_eq_true h.2.1) ?_
   rw [<-hd]
   refine lf dh hk fun e env nx bl ms hk=>?_
   exact xJ hk fun v nx bl hk=>hQ v nx bl hk
  ·exact dh.E0 hk hQ
 OE hk:=dh.OE hk
 Nf hk:=dh.Nf hk
end
section
variable {P:Program} {N:Nat} {out:Option Nat} {base:Nat}
noncomputable def adO (mixed : P.follows .mixedOrders = true) (cx : Cx) (dh : cx.Ok P) (pre : List Nat) (hpre : pre = List.range base) (p : aG) (xs : bt) (f : O) (ps : List Nat) (hps : ps.all (Nat.blt · N) = true) (as bd : C)
  (fid:Nat) {func:Func} {fn:Fn} (hf:P.funcs[fid]?=some func) (fP:cN P func=some fn) (hent:e9 P fid) (dW:Nat) (iW:dW=base+p.eM.length+(match out with|none=>2|some _=>1))
  (Nh:D P fn.N none dW) (hit:Nh.er=fn.body):fJ P N out base where
 f:=f
 ps:=ps
 a:=as
 b:=bd
 run kz env nx bl ms K:=p.rd kz.no pre base env nx bl ms fun x=>xG (N:=N) (out:=out) (base:=base) kz cx bW pre p xs f ps as bd fn.res fn.np fid Nh (fun b=>xs.go kz base b K) x
 ok:=by
  intro X env nx bl ms K r h Q hQ
  subst hpre
  obtain ⟨x,π,h3,h2⟩:=aG.ff h
  unfold xG at h3
  rw [eY,aG.go_eq] at h3
  intro fo CE ao bo q1 q2 q3 q4
  refine Ik (DI ?_) h2
  refine ld (K:=fun e S'=>∃E1 π,mB base π S' E1/\Q e E1) ?_ fo CE ao bo q1 q2 q3 q4
  refine ⟨hps,?_⟩
  cases nI:f.ev (p.E x) with
  |fn O7 first cap=>?_
  |_=>rw [nI] at h3;cases h3
  have Zb:f.ev (p.st base x).env = .fn O7 first cap:=nI
  rw [Zb]
  rw [nI] at h3
  simp only at h3 ⊢
  split at h3<;>try (cases h3;done)
  rename_i hc
  rw [aX] at hc
  have e1:=Nat.eq_of_beq_eq_true hc.1
  have e2:=Nat.le_of_ble_eq_true hc.2
  subst e1
  have hlen:∀v:V,(first++[v]++cap).length<=fn.np:=fun v=>by simpa using e2
  have hout:∀e env nx bl ms,xs.rd none (List.range base) base e env nx bl ms (fun b=>xs.go (jv X) base b K)=some r->∃E1 π,mB base π ⟨env,⟨nx,bl⟩,ms⟩ E1/\Q e E1:=fun e env nx bl ms hk=>by
   obtain ⟨y,π,r1,r2,r3⟩:=bt.ff hk
   have h5:=bt.DE r1
   have hq:=hQ _ _ _ _ _ h5
   exact ⟨_,π,r3,by rw [r2];exact hq⟩
  cases out with
  |none =>
   simp only at h3 iW ⊢
   split at h3
   ·cases h3
   rename_i SW
   rw [kG] at h3
   refine ⟨SW,?_⟩
   subst iW
   refine iA hf fP hent (eK mixed) (hlen _) ?_
   rw [<-hit]
   refine lf dh h3 fun e env nx bl ms hk=>?_
   exact si hk fun v nx bl hk => vA (S := p.st base x) (by
    have e:(p.st base x).ms=[]:=SW
    rw [e];exact hk) hout
  |some HV =>
   simp only at h3 iW ⊢
   split at h3<;>try (cases h3;done)
   rename_i hb
   rw [kG] at h3
   have hb':aq HV (p.st base x).H.bl=_:=hb
   simp only [aG.st] at hb' ⊢
   rw [hb']
   simp only
   subst iW
   refine iA hf fP hent (eK mixed) (hlen _) ?_
   rw [<-hit]
   refine lf dh h3 fun e env nx bl ms hk=>?_
   exact si hk fun v nx bl hk=>vA (S:=p.st base x) hk hout
end
end Go.AM
end
section
namespace Go.AM
structure Gt where
 f:Nat
 p:aG
 q:aG
 fn:p.T->Option q.T
def Gt.Ok (P:Program) (gt:Gt):Prop:=∀x y,gt.fn x=some y ->
 dB P gt.f ((gt.p.E x).map (·.2)) ⟨gt.p.eM.length,gt.p.B x⟩ fun r H=>r=get 0 (gt.q.E y)/\H=⟨gt.p.eM.length+gt.q.eM.length,gt.q.B y++gt.p.B x⟩
def Gt.slots (gt:Gt):Prop:=gt.p.env.map (·.1)=List.range gt.p.env.length
def sk : Nat → V → Bool
 |0,_=>false
 |n+1,v=>match v with
  | .int _ _=>true
  | .str _=>true
  | .mp _=>true
  | .ptr _ _=>true
  | .tf _=>true
  | .eG _ _=>true
  | .av cs=>cs.all (sk n)
  | .fn _ a b=>a.all (sk n)&&b.all (sk n)
  |_=>false
def TU : Nat → V → Bool
 |0,_=>false
 |n+1,v=>match v with
  | .bA=>false
  | .av cs=>cs.all (TU n)
  | .fn _ a b=>a.all (TU n)&&b.all (TU n)
  |_=>true
def nnB : Option jE → Bool
 |some (.cells cs _)=>cs.all (TU 8)
 |_=>true
def Xv : jE → Bool
 | .cells cs _=>cs.all (sk 8)
 | .map _ _ _ _ _=>true
 |_=>false
def qG : ai → Bool
 |[]=>true
 |(_,b)::r=>match Xv b with
  |true=>qG r
  |false=>false
theorem qH : ∀ {bl : ai}, qG bl = true → ∀ p ∈ bl, Xv p.2 = true
 |[],_,p,hp=>by simp at hp
 |(s,b)::r,h,p,hp=>by
  simp only [qG] at h
  split at h
  ·rename_i hb
   rcases List.mem_cons.1 hp with rfl|hp
   ·exact hb
   ·exact qH h p hp
  ·cases h
def covN (n:Nat) (l:List Nat):Bool:=(List.range n).all fun j=>tg j l
def Zj (n : Nat) : List Lc → ai → Option dU
 |[],[]=>some []
 |[_],[(i,b)]=>match Nat.beq i n with
  |true=>some [(n,some b)]
  |false=>none
 |_,_=>none
def ua (π : List Nat) (n : Nat) : List Lc → List Nat
 |[]=>π
 |_::_=>π++[n]
section
variable {P:Program} {R:Type}
def Zk (kz:Kz R) (no:R) (gt:Gt) (vs:List V) (n:Nat) (bl:ai) (K:V->List Nat->dU->R):R :=
 match an (Nat.beq vs.length gt.p.env.length) (lN gt.p.bl) with
 |true=>gt.p.rdP no (args 0 vs) 0 bl fun π x=>match an (qE π) (an (covN π.length (gt.p.bl.map (·.1))) (an (qG (gt.p.B x)) (π.all fun i=>nnB (aq i bl)))) with
  |true=>kz.bd (gt.fn x) fun y=>gt.q.go (π.length+gt.q.eM.length) y fun env _ bO _=>match ir (ua π n gt.q.eM) 8 (get 0 env) with
   |some r'=>match jy (ua π n gt.q.eM) bO with
    |some lM=>match Zj n gt.q.eM lM with
     |some u=>K r' π u
     |none=>kz.no
    |none=>kz.no
   |none=>kz.no
  |false=>no
 |false=>no
theorem DQ {π : List Nat} {σ : List Nat} (hσ : ∀ (j i : Nat), π[j]? = some i → σ[j]? = some i) : ∀ {n : Nat} {c d : V}, EV π c d → sk n c = true → TU n d = true → ir σ n c = some d
 |0,c,d,_,hs,_=>by cases hs
 |n+1,c,d,h,hs,hn=>by
  have sub:∀{cs ds:List V},cs.length=ds.length->(∀(i:Nat) v u,cs[i]?=some v->ds[i]?=some u->EV π v u)->cs.all (sk n)=true->ds.all (TU n)=true->cL (ir σ n) cs=some ds:=by
   intro cs
   induction cs with
   |nil=>intro ds hl _ _ _;cases ds<;>simp at hl;rfl
   |cons c cs ih =>
    intro ds hl he h1 h2
    cases ds with
    |nil=>simp at hl
    |cons d ds =>
     rw [List.all_cons,Bool.and_eq_true] at h1 h2
     simp only [cL,DQ hσ (he 0 c d rfl rfl) h1.1 h2.1,ih (by simpa using hl) (fun i v u hv hu=>he (i+1) v u hv hu) h1.2 h2.2]
  cases h<;>first|(cases hs;done)|rfl|skip
  case Tt=>cases hn
  case ptr hi=>simp only [ir,hσ _ _ hi]
  case mp hi=>simp only [ir,hσ _ _ hi]
  case av cs ds h1 h2=>simp only [sk,TU] at hs hn;simp only [ir,sub h1 h2 hs hn]
  case fn h1 h2 h3 h4 =>
   simp only [sk,TU,Bool.and_eq_true] at hs hn
   simp only [ir,sub h1 h2 hs.1 hn.1,sub h3 h4 hs.2 hn.2]
theorem Ao {π : List Nat} {σ : List Nat} (hσ : ∀ (j i : Nat), π[j]? = some i → σ[j]? = some i) : ∀ {cs ds : List V}, sU π cs ds → cs.all (sk 8) = true → ds.all (TU 8) = true → cL (ir σ 8) cs = some ds
 |[],[],_,_,_=>rfl
 |[],_::_,h,_,_=>by have:=h.1;simp at this
 |_::_,[],h,_,_=>by have:=h.1;simp at this
 |c::cs,d::ds,h,hs,hn=>by
  rw [List.all_cons,Bool.and_eq_true] at hs hn
  have h1:EV π c d:=h.2 0 c d rfl rfl
  have h2:sU π cs ds:=⟨by have:=h.1;simpa using this,fun i v u hv hu=>h.2 (i+1) v u hv hu⟩
  simp only [cL,DQ hσ h1 hs.1 hn.1,Ao hσ h2 hs.2 hn.2]
theorem xN {π σ:List Nat} {nx:Nat} {bl:ai} (hσ:∀(j i:Nat),π[j]?=some i->σ[j]?=some i):∀{lX:ai},(∀p∈lX,Oy π nx bl p.1 p.2)->qG lX=true->(∀i∈π,nnB (aq i bl)=true) ->
  ∃Ni,jy σ lX=some Ni/\(∀p∈Ni,p.1∈π/\aq p.1 bl=some p.2)/\∀p∈lX,∀i,π[p.1]?=some i->∃B,(i,B)∈Ni
 |[],_,_,_=>⟨[],rfl,by simp,by simp⟩
 |(j,b)::r,h,hs,hnn=>by
  have hb:=h (j,b) (List.mem_cons_self ..)
  simp only [qG] at hs
  split at hs<;>try (cases hs;done)
  rename_i hsb
  obtain ⟨Ni,e1,e2,e3⟩:=xN hσ (fun p hp=>h p (List.mem_cons_of_mem _ hp)) hs hnn
  obtain ⟨i,hi,hB⟩:=hb
  simp only at hi hB
  have key:∃B,Bf σ b=some B/\aq i bl=some B:=by
   cases b with
   |cells cs fz =>
    obtain ⟨ds,h1,h2⟩:=hB
    have hn:=hnn i (List.mem_of_getElem? hi)
    rw [h1] at hn
    exact ⟨.cells ds fz,by simp only [Bf,Ao hσ h2 hsb hn],h1⟩
   |map kt kg vt vg es=>exact ⟨_,rfl,hB⟩
   |arr=>cases hsb
   |loop=>cases hsb
   |fC=>cases hsb
   |j8=>cases hsb
  obtain ⟨B,h1,h2⟩:=key
  refine ⟨(i,B)::Ni,?_,fun p hp=>?_,fun p hp i' hi'=>?_⟩
  ·simp only [jy,nq,hσ _ _ hi,h1,e1]
  ·rcases List.mem_cons.1 hp with rfl | hp
   ·exact ⟨List.mem_of_getElem? hi,h2⟩
   ·exact e2 p hp
  ·rcases List.mem_cons.1 hp with rfl | hp
   ·simp only at hi';rw [hi] at hi';cases hi';exact ⟨B,List.mem_cons_self ..⟩
   ·obtain ⟨C, hC⟩ := e3 p hp i' hi'
    exact ⟨C,List.mem_cons_of_mem _ hC⟩
theorem sn {σ : List Nat} : ∀ {a b a' b' : ai}, jy σ a = some a' → jy σ b = some b' → jy σ (a ++ b) = some (a' ++ b')
 |[],b,a',b',h,h2=>by cases h;exact h2
 |(j,x)::a,b,a',b',h,h2=>by
  simp only [jy] at h
  split at h<;>try (cases h;done)
  rename_i i hi
  split at h<;>try (cases h;done)
  rename_i x' hx
  split at h<;>cases h
  rename_i r hr
  have:=sn (b:=b) hr h2
  simp only [List.cons_append,jy,hi,hx,this]
theorem BK {bl CG:ai} (h:∀p∈bl,aq p.1 CG=some p.2) {id:Nat} (hk:∃B,(id,B)∈bl):aq id bl=aq id CG:=by
 obtain ⟨B,hB⟩:=hk
 have h1:=h _ hB
 cases hg:aq id bl with
 |none =>
  exfalso
  clear h h1
  induction bl with
  |nil=>cases hB
  |cons p r ih =>
   obtain ⟨s,b⟩:=p
   rw [aY] at hg
   split at hg
   ·cases hg
   ·rename_i hne
    rcases List.mem_cons.1 hB with e|hB
    ·cases e;exact hne rfl
    ·exact ih hB hg
 |some C=>have:=h _ (eL hg);simp only at this h1;rw [<-this]
theorem so {bl:ai} {id:Nat} (h:∀B,(id,B)∉bl):aq id bl=none:=by
 cases hg:aq id bl with
 |none=>rfl
 |some B=>exact absurd (eL hg) (h B)
theorem TV {n:Nat} {l:List Nat} (h:covN n l=true) {j:Nat} (hj:j<n):j∈l:=mj.1 (List.all_eq_true.1 h j (List.mem_range.2 hj))
theorem Pg {f : Nat} {Ah vs : List V} {lX Sn bl lM : ai} {π : List Nat} {r0 r' : V} {n : Nat} {ls : List Lc} {u : dU}
  (h:dB P f Ah ⟨π.length,lX⟩ fun r H=>r=r0/\H=⟨π.length+ls.length,Sn++lX⟩) (hargs:sU π Ah vs) (sS:∀p∈lX,Oy π 0 bl p.1 p.2)
  (Ai:∀p∈lX,∀st j d env ps as bd N,p.2 ≠ .loop st j d env ps as bd N) (tW:π.Nodup) (Zl:∀j,j<π.length->∃b,(j,b)∈lX) (Ph:qG lX=true) (hnn:∀i∈π,nnB (aq i bl)=true)
  (hr:ir (ua π n ls) 8 r0=some r') (u7:jy (ua π n ls) Sn=some lM) (hu:Zj n ls lM=some u):GOk P f vs n bl r' π u:=by
 intro bO hag
 have hσ:∀(j i:Nat),π[j]?=some i->(ua π n ls)[j]?=some i:=fun j i e=>by
  cases ls with
  |nil=>exact e
  |cons=>simp only [ua];rw [List.getElem?_append_left (List.getElem?_eq_some_iff.1 e).1];exact e
 have Lg:∀nx,∀p∈lX,Oy π nx bO p.1 p.2:=fun nx p hp=>by
  obtain ⟨i,hi,hB⟩:=sS p hp
  have hg:=hag i (List.mem_of_getElem? hi)
  have hs:=qH Ph p hp
  refine ⟨i,hi,?_⟩
  obtain ⟨j,b⟩:=p
  simp only at hB hs ⊢
  cases b with
  |cells cs fz=>obtain ⟨ds,h1,h2⟩:=hB;exact ⟨ds,by rw [hg];exact h1,h2⟩
  |map kt kg vt vg es=>rw [hg];exact hB
  |arr=>cases hs
  |loop=>cases hs
  |fC=>cases hs
  |j8=>cases hs
 obtain ⟨Ni,e1,e2,e3⟩:=xN (σ:=ua π n ls) hσ (Lg 0) Ph (fun i hi=>by rw [hag i hi];exact hnn i hi)
 refine ⟨h.1,fun Y ι μ nx w as hn hfree hI hl=>?_⟩
 -- what is lent has a place
 have oB:∀i∈π,i<nx/\(∃L,μ i=some L)/\∃B,(i,B)∈Ni:=fun i hi=>by
  obtain ⟨j,hj⟩:=List.getElem?_of_mem hi
  obtain ⟨b,hb⟩:=Zl j (List.getElem?_eq_some_iff.1 hj).1
  obtain ⟨B,hB⟩:=e3 _ hb i hj
  have hgB:=(e2 _ hB).2
  simp only at hgB
  have hlt:=hI.lt i B hgB
  refine ⟨hlt,?_,B,hB⟩
  obtain ⟨i2,hi2,hk⟩:=Lg 0 _ hb
  rw [hj] at hi2;cases hi2
  have hs:=qH Ph _ hb
  simp only at hk hs
  cases b with
  |cells cs fz=>obtain ⟨ds,h1,_⟩:=hk;obtain ⟨L,vs,hM,_⟩:=hI.live i _ h1;exact ⟨L,hM.mu⟩
  |map kt kg vt vg es=>obtain ⟨L,_,_,_,q1,_⟩:=hI.live i _ hk;exact ⟨L,q1⟩
  |arr=>cases hs
  |loop=>cases hs
  |fC=>cases hs
  |j8=>cases hs
 have hnπ:n∉π:=fun hi=>by obtain ⟨_,⟨L,hL⟩,_⟩:=oB n hi;rw [hfree] at hL;cases hL
 have Io:∀j i,(ua π n ls)[j]?=some i->(j<π.length/\π[j]?=some i)\/(π.length<=j/\i=n/\ls≠[]):=fun j i e=>by
  cases ls with
  |nil=>exact .inl ⟨(List.getElem?_eq_some_iff.1 e).1,e⟩
  |cons =>
   simp only [ua] at e
   rw [List.getElem?_append] at e
   split at e
   ·rename_i hj;exact .inl ⟨hj,e⟩
   ·rename_i hj
    refine .inr ⟨by omega,?_,by simp⟩
    have:=List.mem_of_getElem? e
    simpa using this
 -- the new block
 have hnew:(ls=[]/\lM=[]/\u=[])\/∃B,lM=[(n,B)]/\u=[(n,some B)]:=by
  unfold Zj at hu
  split at hu
  ·cases hu;exact .inl ⟨rfl,rfl,rfl⟩
  ·split at hu
   ·rename_i hi;have:=Nat.eq_of_beq_eq_true hi;subst this;cases hu;exact .inr ⟨_,rfl,rfl⟩
   ·cases hu
  ·cases hu
 have hkeep:∀i,i∈ua π n ls->i=n\/i∈π:=fun i hi=>by
  obtain ⟨j,hj⟩:=List.getElem?_of_mem hi
  rcases Io j i hj with ⟨_,h2⟩|⟨_,h2,_⟩
  ·exact .inr (List.mem_of_getElem? h2)
  ·exact .inl h2
 refine (tV (Q:=fun r _ CG=>r=r'/\CG=(lM++Ni)++oy π bO) h hargs (Lg nx) Ai tW hI hl (F:=fun _=>ua π n ls) (G:=fun _=>nx) ?_).mono ?_
 ·rintro r m CG ⟨rfl, e⟩
  cases e
  refine ⟨r',lM++Ni,hr,sn u7 e1,Nat.le_refl _,fun i hi=>(oB i hi).1,fun j i e=>?_,fun a b i ha hb=>?_,rfl,rfl⟩
  ·rcases Io j i e with h1 | ⟨h1, rfl, h3⟩
   ·exact .inl h1
   ·refine .inr ⟨h1, hfree, ?_, hnπ, hn⟩
    rcases hnew with ⟨e,_,_⟩|⟨B,rfl,_⟩
    ·exact absurd e h3
    ·right;rw [iq,aY,if_pos rfl];simp
  ·rcases Io _ _ ha with ⟨h1, h2⟩ | ⟨h1, rfl, h3⟩ <;> rcases Io _ _ hb with ⟨h4, h5⟩ | ⟨h4, h5, h6⟩
   ·exact (List.getElem?_inj h1 tW).1 (h2.trans h5.symm)
   ·subst h5;exact absurd (List.mem_of_getElem? h2) hnπ
   ·exact absurd (List.mem_of_getElem? h5) hnπ
   ·have q1 := (List.getElem?_eq_some_iff.1 ha).1; have q2 := (List.getElem?_eq_some_iff.1 hb).1
    cases ls with
    |nil=>exact absurd rfl h3
    |cons=>simp only [ua,List.length_append,List.length_cons,List.length_nil] at q1 q2;omega
 ·rintro e w' ⟨v, ι', μ', rr, m, CG, rfl, hi, hm, hne, M8, wE, rfl, rfl⟩
  refine ⟨v,ι',μ',rfl,hi,hm,fun id hid=>?_,?_,wE⟩
  ·by_cases h1 : id ∈ ua π n ls
   ·rcases hkeep id h1 with h2 | h2
    ·exact absurd h2 hid
    ·obtain ⟨_, ⟨L, hL⟩, _⟩ := oB id h2
     rw [hL];exact hm _ _ hL
   ·exact hne id h1
  ·refine M8.eqB fun id => ?_
   simp only
   rw [iq,iq]
   have hblp:∀id,id∉π->aq id Ni=none:=fun id hid=>so fun B hB=>hid (e2 _ hB).1
   have hin:∀id,id∈π->aq id Ni=aq id bO:=fun id hid=>BK (fun p hp=>(e2 p hp).2) (oB id hid).2.2
   have hpi:∀id,(match aq id Ni with|some B=>some B|none=>aq id (oy π bO))=aq id bO:=fun id=>by
    by_cases hid:id∈π
    ·rw [hin id hid]
     obtain ⟨_,_,B,hB⟩:=oB id hid
     have:=(e2 _ hB).2;simp only at this
     rw [this]
    ·rw [hblp id hid,nr,if_neg hid]
   rcases hnew with ⟨-,rfl,rfl⟩|⟨B,rfl,rfl⟩
   ·simp only [bV,aq];exact (hpi id).symm
   ·simp only [bV]
    rw [aY,aY,bB]
    by_cases h1:n=id
    ·simp [h1]
    ·rw [if_neg h1, if_neg h1, if_neg (fun e => h1 e.symm)]
     simp only [aq];exact (hpi id).symm
theorem DS {A : Type} : ∀ {ps : List (Nat × BP)} {x : Sm ps A}, (K1 ps x).map (·.1) = ps.map (·.1)
 |[],_=>rfl
 |(_,_)::r,x=>by simp [K1,DS (ps:=r)]
theorem TW {gt:Gt} (hok:gt.Ok P) (Yj:gt.slots) {X:Type} {no:Option X} {vs:List V} {n:Nat} {bl:ai} {K:V->List Nat->dU->Option X} {r:X} (h:Zk (jv X) no gt vs n bl K=some r) :
  no=some r\/∃v l8 u,GOk P gt.f vs n bl v l8 u/\K v l8 u=some r:=by
 unfold Zk at h
 split at h
 ·rename_i h0
  rw [aX] at h0
  have hlen:=Nat.eq_of_beq_eq_true h0.1
  unfold aG.rdP at h
  have key:∀{ls:List Lc} {π0:List Nat} {b:Nat} {k:List Nat->Option X},nK no (args 0 vs) 0 bl [] ls π0 b k=some r->no=some r\/∃rr,rr.length=ls.length/\k (π0++rr)=some r:=by
   intro ls
   induction ls with
   |nil=>intro π0 b k hk;exact .inr ⟨[],rfl,by simpa [nK] using hk⟩
   |cons l ls ih =>
    intro π0 b k hk
    simp only [nK] at hk
    split at hk
    ·rename_i i hi
     rw [eY,vw,eY] at hk
     rcases ih hk with hk|⟨rr,h1,h2⟩
     ·exact .inl hk
     ·exact .inr ⟨i::rr,by simp [h1],by simpa using h2⟩
    ·exact .inl hk
  rcases key h with h|⟨π,hπ,h⟩
  ·exact .inl h
  simp only [List.nil_append] at h
  split at h
  ·rename_i hap
   split at h
   ·rename_i f hf
    split at h
    ·rename_i g hg
     split at h
     ·rename_i hnb
      rw [aX,aX,aX] at hnb
      obtain ⟨y,hy,h⟩:=dx h
      rw [aG.go_eq] at h
      obtain ⟨h1,h2⟩:=ox hf (g ())
      obtain ⟨h3,h4⟩:=vu hg ()
      split at h<;>try (cases h;done)
      rename_i r' hr'
      split at h<;>try (cases h;done)
      rename_i lM u7
      split at h<;>try (cases h;done)
      rename_i u hu
      have eW:=hok _ _ hy
      rw [<-hπ] at eW
      have hB:gt.p.B (f (g ()))=K1 gt.p.bl (g ()):=by unfold aG.B;rw [h2]
      have hkeys:∀j,j<π.length->∃b,(j,b)∈gt.p.B (f (g ())):=fun j hj=>by
       have:=TV hnb.2.1 hj
       have hk:(gt.p.B (f (g ()))).map (·.1)=gt.p.bl.map (·.1):=by rw [hB];exact DS
       rw [<-hk] at this
       obtain ⟨⟨j',b⟩,hm,rfl⟩:=List.mem_map.1 this
       exact ⟨b,hm⟩
      refine .inr ⟨r',π,u,Pg (ls:=gt.q.eM) eW ?_ (by rw [hB];exact h3) (by rw [hB];exact tX _ h0.2) (mG hnb.1) hkeys hnb.2.2.1 (List.all_eq_true.1 hnb.2.2.2) hr' u7 hu,h⟩
      exact Ip (env:=u5 gt.p.env (f (g ()))) (hlen.trans mH.symm) (lq.trans (Yj.trans (by rw [mH]))) h1
     ·exact .inl h
    ·exact .inl h
   ·exact .inl h
  ·exact .inl h
 ·exact .inl h
def DT (kz : Kz R) (f : Nat) (vs : List V) (n : Nat) (bl : ai) (K : V → List Nat → dU → R) (no : R) : List Gt → R
 |[]=>no
 |gt::r=>match Nat.beq gt.f f with
  |true=>Zk kz (DT kz f vs n bl K no r) gt vs n bl K
  |false=>DT kz f vs n bl K no r
def Pj (P : Program) : List Gt → Prop
 |[]=>True
 |c::r=>(c.Ok P/\c.slots)/\Pj P r
theorem xP {X:Type} {no:Option X} {f:Nat} {vs:List V} {n:Nat} {bl:ai} {K:V->List Nat->dU->Option X} {r:X}:∀{Xw:List Gt},Pj P Xw->DT (jv X) f vs n bl K no Xw=some r ->
  no=some r\/∃v l8 u,GOk P f vs n bl v l8 u/\K v l8 u=some r
 |[],_,h=>.inl h
 |gt::Xw,hok,h=>by
  simp only [DT] at h
  split at h
  ·rename_i hf
   have e:=Nat.eq_of_beq_eq_true hf
   subst e
   rcases TW hok.1.1 hok.1.2 h with h|h
   ·exact xP hok.2 h
   ·exact .inr h
  ·exact xP hok.2 h
def Pk (vz:List Ct) (hts:List Ht) (Xw:List Gt):Cx where
 pc kz f vs K:=BI kz f vs K vz
 ca kz f vs nx bl K:=Ak kz f vs nx bl K (TI vz kz f vs nx bl K) hts
 rd kz _ _ _ _ _:=kz.no
 gc kz f vs n bl d K:=DT kz f vs n bl K d Xw
theorem DU {vz:List Ct} {hts:List Ht} {Xw:List Gt} (h:DH P vz) (h2:Iq P hts) (h3:Pj P Xw):(Pk vz hts Xw).Ok P where
 Ic hk:=(au h h2).Ic hk
 E0 hk:=(au h h2).E0 hk
 OE hk:=by cases hk
 Nf hk:=xP h3 hk
theorem Gt.ofHt {ht:Ht} (h:ht.Ok P) (hl:ht.p.eM=[]) (hb:∀x,ht.p.B x=[]):(⟨ht.f,ht.p,ht.q,ht.fn⟩:Gt).Ok P:=fun x y hy=>by
 have:=h x y hy
 simp only [hb,List.append_nil] at this ⊢
 exact this
theorem Lh {f:Nat} {vs:List V} {H:aO} {n:Nat} {b1 b2:ai} {r:V} (h:dB P f vs H fun v H'=>v=r/\H'=⟨n,b1⟩) (he:Oa b2 b1):dB P f vs H fun v H'=>v=r/\H'=⟨n,b2⟩ :=
 ⟨h.1,fun Y ι μ w as hI hr=>(h.2 Y ι μ w as hI hr).mono fun e w' ⟨v,ι',μ',r',H',h1,h2,h3,h4,h5,h6,h7⟩=>by
  subst h7
  exact ⟨v,ι',μ',r',⟨n,b2⟩,h1,h2,h3,h4.eqB he,h5,h6,rfl⟩⟩
theorem Gt.reads {f : Nat} {p q q' : aG} {fn : p.T → Option q.T} {fn' : p.T → Option q'.T} (h : (⟨f, p, q, fn⟩ : Ht).Ok P) (hq : q.eM = []) (Tg : q'.eM = [])
  (hs:∀x y',fn' x=some y'->∃y,fn x=some y/\get 0 (q.E y)=get 0 (q'.E y')/\Oa (p.B x) (q.B y)/\q'.B y'=[]):(⟨f,p,q',fn'⟩:Gt).Ok P:=fun x y' hy=>by
 obtain ⟨y,h1,h2,h3,h4⟩:=hs x y' hy
 have:=Lh (h x y h1) h3
 refine iU this fun v H hv=>?_
 obtain ⟨rfl,rfl⟩:=hv
 refine ⟨h2,?_⟩
 simp only [hq,Tg,h4,List.nil_append]
theorem ace {α β:Type} {step:α->Option (α ⊕ β)} (I:α->Prop) (J:β->Prop) (h1:∀x y,I x->step x=some (.inl y)->I y) (h2:∀x b,I x->step x=some (.inr b)->J b) {x:α} {b:β} (hI:I x) (h:iter step x=some b):J b:=by
 obtain ⟨n,hn⟩:=tH h
 clear h
 induction n generalizing x with
 |zero=>cases hn
 |succ n ih =>
  simp only [jN] at hn
  split at hn
  ·cases hn
  ·rename_i y hy;exact ih (h1 x y hI hy) hn
  ·rename_i b' hb;cases hn;exact h2 x _ hI hb
end
end Go.AM
end
section
namespace Go.AM
structure FG (X:Type) where
 f:X->X->Bool
 ok:∀{a b:X},f a b=true->a=b
@[reducible] def oC {X:Type} (q:FG X):Kz (Option X) where
 br c a b:=match c with
  |true=>a
  |false=>b
 am a b:=match a with
  |some x=>match b with
   |some y=>match q.f x y with
    |true=>some x
    |false=>none
   |none=>none
  |none=>none
 nd c a:=match c with
  |true=>a
  |false=>none
 no:=none
 bd _ _:=none
 sm s f g:=match s with
  | .inl a=>f a
  | .inr b=>g b
 an _ _:=none
theorem Pm {X:Type} {q:FG X} {c:Bool} {x:Option X} {r:X} (h:(oC q).nd c x=some r):c=true/\x=some r:=by
 cases c
 ·cases h
 ·exact ⟨rfl,h⟩
theorem oD {X:Type} {q:FG X} {c:Bool} {x y:Option X} {r:X} (h:(oC q).br c x y=some r):(c=true/\x=some r)\/(c=false/\y=some r):=by
 cases c
 ·exact .inr ⟨rfl,h⟩
 ·exact .inl ⟨rfl,h⟩
theorem Pn {X:Type} {q:FG X} {x y:Option X} {r:X} (h:(oC q).am x y=some r):x=some r/\y=some r:=by
 simp only [oC] at h
 split at h<;>try (cases h;done)
 split at h<;>try (cases h;done)
 split at h<;>cases h
 rename_i e
 exact ⟨rfl,by rw [q.ok e]⟩
structure Cx.xQ (P:Program) (cx:Cx):Prop where
 Ic:∀{X:Type} {q:FG X} {f:Nat} {vs:List V} {K:V->Option X} {r:X},cx.pc (oC q) f vs K=some r->∃v,dy P f vs v/\K v=some r
 E0:∀{X:Type} {q:FG X} {f:Nat} {vs:List V} {nx:Nat} {bl:ai} {K:V->Nat->ai->Option X} {r:X},cx.ca (oC q) f vs nx bl K=some r ->
  ∀{Q:V->aO->Prop},(∀v nx bl,K v nx bl=some r->Q v ⟨nx,bl⟩)->dB P f vs ⟨nx,bl⟩ Q
 OE:∀{X:Type} {q:FG X} {id:Nat} {vs:List V} {nx:Nat} {bl:ai} {K:V->Nat->ai->Option X} {r:X},cx.rd (oC q) id vs nx bl K=some r ->
  ∀{Q:V->aO->Prop},(∀v nx bl,K v nx bl=some r->Q v ⟨nx,bl⟩)->around P id vs ⟨nx,bl⟩ Q
 Nf:∀{X:Type} {q:FG X} {f:Nat} {vs:List V} {n:Nat} {bl:ai} {d:Option X} {K:V->List Nat->dU->Option X} {r:X},cx.gc (oC q) f vs n bl d K=some r->d=some r\/∃v l8 u,GOk P f vs n bl v l8 u/\K v l8 u=some r
section
variable {P:Program} {N:Nat} {out:Option Nat} {base:Nat} {R:Type}
variable {X:Type} {q:FG X} {cx:Cx}
theorem lz {ob:List Bool} {x:Option X} {r:X} (h:ot (oC q) ob x=some r):qf ob/\x=some r:=by
 induction ob with
 |nil=>exact ⟨trivial,h⟩
 |cons b l ih =>
  obtain ⟨h1,h2⟩:=Pm (q:=q) h
  obtain ⟨h3,h4⟩:=ih h2
  cases l with
  |nil=>exact ⟨h1,h4⟩
  |cons c l=>exact ⟨⟨h1,h3⟩,h4⟩
theorem xR {g : Option (Nat × Bool)} {env : Env} {nx : Nat} {bl : ai} {ms : List Nat} {skip run : Env → Option X} {r : X} (h : tO (oC q) g env skip run = some r) {d : Option Nat} {K run' : St → Prop}
  (hs:∀env,skip env=some r->K ⟨put d (.cG []) env,⟨nx,bl⟩,ms⟩) (hr:∀env,run env=some r->run' ⟨env,⟨nx,bl⟩,ms⟩):jg g d ⟨env,⟨nx,bl⟩,ms⟩ K run':=by
 unfold tO at h
 unfold jg
 split at h
 ·exact hr _ h
 ·rename_i s b
  simp only
  split at h
  ·rename_i c hc
   rw [hc]
   cases c<;>cases b<;>simp only at h ⊢
   ·exact hr _ h
   ·exact hs _ h
   ·exact hs _ h
   ·exact hr _ h
  ·rename_i c hc
   rw [hc]
   rcases oD (q:=q) h with ⟨e,h⟩|⟨e,h⟩
   ·refine ⟨fun _ => ?_, fun e' => by rw [e] at e'; cases e'⟩
    cases b<;>simp only at h ⊢
    ·exact hs _ h
    ·exact hr _ h
   ·refine ⟨fun e' => (by rw [e] at e'; cases e'), fun _ => ?_⟩
    cases b<;>simp only at h ⊢
    ·exact hr _ h
    ·exact hs _ h
  ·rename_i hc
   rw [hc]
   exact hs _ h
  ·cases h
theorem Iv {op:Nat} {bl:ai} {k:ai->Option X} {r:X} (h:KZ (oC q) op bW bl k=some r):k bl=some r\/∃ids u,Kq (cS P N out base) ids bl=some u/\k (bV u bl)=some r:=by
 unfold KZ at h
 split at h
 ·exact .inl h
 ·split at h
  ·exact .inl h
  ·split at h <;> try (cases h; done)
   rename_i u hu
   rw [cM] at h
   exact .inr ⟨_,u,by unfold cS;rw [Fx];exact hu,h⟩
theorem BL {op:Nat} {env:Env} {nx:Nat} {bl:ai} {ms:List Nat} {k:ai->Option X} {r:X} (h:KZ (oC q) op bW bl k=some r) {K:St->Prop} (hK:∀bl,k bl=some r->K ⟨env,⟨nx,bl⟩,ms⟩):Kr (cS P N out base) ⟨env,⟨nx,bl⟩,ms⟩ K:=by
 rcases Iv (P:=P) (N:=N) (out:=out) (base:=base) h with h|⟨ids,u,hu,h⟩
 ·exact .inl (hK _ h)
 ·exact .inr ⟨ids,u,hu,hK _ h⟩
theorem nu (dh:cx.xQ P):∀{is:List dD} {env:Env} {nx:Nat} {bl:ai} {ms:List Nat} {K:Env->Nat->ai->Option X} {r:X} {Q:St->Prop},kI (oC q) cx bW is env nx bl K=some r ->
  (∀env nx bl,K env nx bl=some r->Q ⟨env,⟨nx,bl⟩,ms⟩)->dF (cS P N out base) is ⟨env,⟨nx,bl⟩,ms⟩ Q
 |[],env,nx,bl,ms,K,r,Q,h,hK=>hK _ _ _ h
 | .op d g i::is,env,nx,bl,ms,K,r,Q,h,hK=>by
  simp only [kI] at h
  simp only [dF]
  have body:∀{env:Env} {bl:ai} {ob:List Bool} {v:V} {u:dU},Tq bW i env bl nx=some (ob,v,u) ->
    ot (oC q) ob (fV v fun v=>tN d v env fun env=>match i.lays with
     |true=>fN (nx+1) fun nx=>gw u bl fun bl=>kI (oC q) cx bW is env nx bl K
     |false=>gw u bl fun bl=>kI (oC q) cx bW is env nx bl K)=some r ->
    de (cS P N out base) i env bl nx=some (ob,v,u)/\qf ob/\dF (cS P N out base) is ⟨put d v env,⟨CA i.lays nx,bV u bl⟩,ms⟩ Q:=by
   intro env bl ob v u aj h
   obtain ⟨cX,h⟩:=lz h
   rw [ij,eI] at h
   rw [tF] at aj
   refine ⟨by unfold cS;rw [tE];exact aj,cX,?_⟩
   split at h
   ·rename_i hl
    rw [eY,cM] at h
    simp only [hl,CA]
    exact nu dh h hK
   ·rename_i hl
    rw [cM] at h
    simp only [hl,CA]
    exact nu dh h hK
  refine xR h (fun env h=>?_) (fun env h=>?_)
  ·rw [eI] at h;exact nu dh h hK
  ·split at h
   ·split at h
    ·rename_i ob v u aj
     obtain ⟨h1,h2,h3⟩:=body aj h
     exact nj h1 h2 h3
    ·cases h
   ·split at h
    ·rename_i ob v u aj
     obtain ⟨cX,h⟩:=lz h
     rw [ij,eI] at h
     refine Ou (by unfold cS;rw [Bp];exact aj) cX ?_
     split at h
     ·rename_i hl
      rw [eY,cM] at h
      simp only [hl,CA]
      exact nu dh h hK
     ·rename_i hl
      rw [cM] at h
      simp only [hl,CA]
      exact nu dh h hK
    ·split at h
     ·rename_i ob v u aj
      obtain ⟨h1,h2,h3⟩:=body aj h
      exact nj h1 h2 h3
     ·rcases Iv (P := P) (N := N) (out := out) (base := base) h with h | ⟨ids, u', hu, h⟩
      ·split at h
       ·rename_i ob v u aj
        obtain ⟨h1,h2,h3⟩:=body aj h
        exact nj h1 h2 h3
       ·cases h
      ·split at h
       ·rename_i ob v u aj
        obtain ⟨h1,h2,h3⟩:=body aj h
        exact Ov hu h1 h2 h3
       ·cases h
 | .call d g f a tys::is,env,nx,bl,ms,K,r,Q,h,hK=>by
  simp only [kI] at h
  simp only [dF]
  refine xR h (fun env h=>?_) (fun env h=>?_)
  ·rw [eI] at h;exact nu dh h hK
  ·simp only [AV]
   refine BL h fun bl h=>?_
   simp only [mS]
   split at h
   ·rename_i f' fs cs hf
    rw [hf]
    refine dh.E0 h fun v nx bl h=>?_
    rw [ij,eI] at h
    exact nu dh h hK
   ·rename_i id hf
    rw [hf]
    refine dh.OE h fun v nx bl h=>?_
    rw [ij,eI] at h
    exact nu dh h hK
   ·cases h
theorem mJ {gs:List Nat} {d:Option Nat} {v:V} {env:Env} {K:Env->Option X} {r:X} (h:rX (oC q) gs d v env K=some r) {K':Env->Prop} (hK:∀env,K env=some r->K' env):th gs d v env K':=by
 unfold rX at h
 unfold th
 cases d with
 |none=>exact hK _ h
 |some t =>
  simp only at h ⊢
  split at h
  ·rename_i hm;rw [hm];exact hK _ h
  ·rename_i hm
   rw [hm]
   simp only
   split at h
   ·rename_i c
    simp only
    rcases oD (q:=q) h with ⟨e,h⟩|⟨e,h⟩
    ·exact ⟨fun _=>hK _ h,fun e'=>by rw [e] at e';cases e'⟩
    ·exact ⟨fun e'=>(by rw [e] at e';cases e'),fun _=>hK _ h⟩
   ·rename_i hv
    have:=hK _ h
    cases v<;>first|exact this|exact (hv _ rfl).elim
theorem lA (dh:cx.xQ P) {gs:List Nat} {b:Nat}:∀{is:List dD} {k:Nat} {env:Env} {bl:ai} {bP:List DR} {K:Env->ai->List DR->Option X} {r:X} {Q:Env->ai->List DR->Prop},
  FC (oC q) cx bW gs b is k env bl bP K=some r->(∀env bl bP,K env bl bP=some r->Q env bl bP)->lH (cS P N out base) gs b is k env bl bP Q
 |[],k,env,bl,bP,K,r,Q,h,hK=>hK _ _ _ h
 | .op d g i::is,k,env,bl,bP,K,r,Q,h,hK=>by
  simp only [FC] at h
  simp only [lH]
  split at h
  ·rename_i hg
   rw [hg]
   split at h
   ·rename_i ob v u aj
    obtain ⟨cX,h⟩:=lz h
    rw [ij] at h
    have Bt:vk (cS P N out base) i env bl (b+k)=some (ob,v,u):=by
     unfold cS;rw [Bp]
     split at aj
     ·cases aj
     ·exact aj
    refine .inr (l7 Bt cX (mJ h fun env h=>?_))
    rw [cM] at h
    exact lA dh h hK
   ·split at h
    ·rename_i ob v u aj
     obtain ⟨cX,h⟩:=lz h
     rw [ij] at h
     rw [tF] at aj
     have Bt:de (cS P N out base) i env bl (b+k)=some (ob,v,u):=by unfold cS;rw [tE];exact aj
     refine .inl (l7 Bt cX (mJ h fun env h=>?_))
     rw [cM] at h
     exact lA dh h hK
    ·cases h
  ·rename_i hg
   rw [hg]
   rw [eI] at h
   exact lA dh h hK
  ·cases h
 | .call d g f a tys::is,k,env,bl,bP,K,r,Q,h,hK=>by
  simp only [FC] at h
  simp only [lH]
  split at h
  ·rename_i hg
   rw [hg]
   split at h
   ·rename_i f' fs cs hf
    rw [hf]
    rcases dh.Nf h with h|⟨v,l8,u,hp,h⟩
    ·left
     split at h
     ·rename_i vs' hm
      obtain ⟨v,hp,h⟩:=dh.Ic h
      rw [ij] at h
      have e:cL (fin (cS P N out base) bl 8)=cL (fin bW bl 8):=funext fun vs=>iT (fun v=>by unfold cS;exact od) vs
      simp only [e,hm]
      split at h
      ·rename_i hsc
       exact ⟨v,[],hp,by rw [hsc];rfl,mJ h fun env h=>lA dh h hK⟩
      ·rename_i hsc
       split at h
       ·rename_i u hu
        exact ⟨v,u,hp,by rw [hsc];exact hu,mJ h fun env h=>lA dh (by rw [cM] at h;exact h) hK⟩
       ·cases h
     ·cases h
    ·exact .inr ⟨l8,v,u,hp,mJ h fun env h=>lA dh (by rw [cM] at h;exact h) hK⟩
   ·cases h
  ·rename_i hg
   rw [hg]
   rw [eI] at h
   exact lA dh h hK
  ·cases h
theorem Li {X : Type} {q : FG X} {qD : Nat} {K : V → Nat → ai → Option X} {r : X} {e : Ex} {env : Env} {nx : Nat} {bl : ai} {ms : List Nat} (h : Ag (oC q) qD K e env nx bl ms = some r) {Q : V → aO → Prop}
  (hQ:∀v nx bl,K v nx bl=some r->Q v ⟨nx,bl⟩):mz qD Q e ⟨env,⟨nx,bl⟩,ms⟩:=by
 unfold Ag at h
 unfold mz
 simp only
 split at h<;>try (cases h;done)
 rename_i hb
 try rw [hb]
 try simp only
 rw [gJ] at h
 cases e<;>exact hQ _ _ _ h
theorem DV {X : Type} {q : FG X} {qD : Nat} {S : St} {sh : List Nat} {K : Kc (Option X)} {nx : Nat} {bl : ai} {r : X} (h : DL (oC q) qD S.env sh S.ms K nx bl = some r) {Q : Ex → St → Prop}
  (hQ:∀e env nx bl ms,K e env nx bl ms=some r->Q e ⟨env,⟨nx,bl⟩,ms⟩):fH qD sh S Q ⟨nx,bl⟩:=by
 unfold DL at h
 unfold fH
 simp only
 split at h<;>try (cases h;done)
 rename_i st j _ _ _ _ _ _ hb
 try rw [hb]
 try simp only
 split at h
 ·cases h
 ·rename_i hst
  rw [gJ] at h
  obtain ⟨bO,hs,h⟩:=xF rfl h
  have:w9 j ⟨S.env,⟨nx,bO⟩,S.ms⟩ Q:=by
   split at h
   ·exact hQ _ _ _ _ _ h
   ·exact hQ _ _ _ _ _ h
   ·exact hQ _ _ _ _ _ h
   ·cases h
  rw [hs]
  cases st<;>first|exact this|exact absurd rfl hst
def Zm (no : R) (body : Env → Nat → ai → List Nat → Kc R → R) : Nat → Env → Nat → ai → List Nat → Kc R → R
 |0,_,_,_,_,_=>no
 |n+1,env,nx,bl,ms,K=>body env nx bl ms fun e env nx bl ms=>match e with
  | .normal=>Zm no body n env nx bl ms K
  | .exit i=>K (.exit i) env nx bl ms
  | .ret=>K .ret env nx bl ms
def rngC (kz:Kz R) (cx:Cx) (N:Nat) (out:Option Nat) (f:O) (ps:List Nat) (a b:C) (env:Env) (nx:Nat) (bl:ai) (ms:List Nat) (K:Kc R):R:=match ps.all (Nat.blt · N) with
 |true=>match f.ev env with
  | .fn fid first cap=>match out with
   |none=>match ms with
    |_::_=>kz.no
    |[]=>cx.ca kz fid (first++[.yl (nx+1)]++cap) (nx+2) ((nx+1,.loop .ready none nx env ps a b N)::(nx,.fC)::bl) fun _ nx' bO=>DL kz (nx+1) env [nx] [] K nx' bO
   |some HV=>match aq HV bl with
    |some (.loop _ _ d _ _ _ _ _)=>cx.ca kz fid (first++[.yl nx]++cap) (nx+1) ((nx,.loop .ready none d env ps a b N)::bl) fun _ nx' bO=>DL kz nx env [] ms K nx' bO
    |_=>kz.no
  |_=>kz.no
 |false=>kz.no
def kC (kz : Kz R) (cx : Cx) (L N : Nat) (out : Option Nat) : C → Env → Nat → ai → List Nat → Kc R → R
 | .skip,env,nx,bl,ms,K=>K .normal env nx bl ms
 | .cF is,env,nx,bl,ms,K=>kI kz cx bW is env nx bl fun env nx bl=>K .normal env nx bl ms
 | .draw ps is,env,nx,bl,ms,K=>FC kz cx bW (qj is) nx is 0 env bl [] fun env bl bP=>match vW ps bP with
  |true=>fN (nx+is.length) fun nx=>K .normal env nx bl ms
  |false=>kz.no
 | .seq a b,env,nx,bl,ms,K=>kC kz cx L N out a env nx bl ms fun e env nx bl ms=>match e with
  | .normal=>kC kz cx L N out b env nx bl ms K
  | .exit id=>K (.exit id) env nx bl ms
  | .ret=>K .ret env nx bl ms
 | .cond c a b,env,nx,bl,ms,K=>match c.ev env with
  | .tf true=>kC kz cx L N out a env nx bl ms K
  | .tf false=>kC kz cx L N out b env nx bl ms K
  | .bool x=>kz.br x (kC kz cx L N out a (Ng c true env) nx bl ms K) (kC kz cx L N out b (Ng c false env) nx bl ms K)
  | .cb x=>kz.br x (kz.am (kC kz cx L N out a (Ng c true env) nx bl ms K) (kC kz cx L N out b (Ng c false env) nx bl ms K)) (kC kz cx L N out b (Ng c false env) nx bl ms K)
  |_=>kz.no
 | .block id c,env,nx,bl,ms,K=>kC kz cx L N out c env nx bl ms fun e env nx bl ms=>match e with
  | .normal=>K .normal env nx bl ms
  | .exit id'=>match Nat.beq id' id with
   |true=>K .normal env nx bl ms
   |false=>K (.exit id') env nx bl ms
  | .ret=>K .ret env nx bl ms
 | .loop c,env,nx,bl,ms,K=>KZ kz cx.op bW bl fun bl=>Zm kz.no (kC kz cx L N out c) L env nx bl ms K
 | .exit id,env,nx,bl,ms,K=>K (.exit id) env nx bl ms
 | .ret,env,nx,bl,ms,K=>K .ret env nx bl ms
 | .c9 f ps a b,env,nx,bl,ms,K=>KZ kz cx.op bW bl fun bl=>rngC kz cx N out f ps a b env nx bl ms K
 | .gk _ _ _ _ _ _ _ _ _ _ _,_,_,_,_,_=>kz.no
theorem sq (mixed:P.follows .mixedOrders=true) (dh:cx.xQ P) {L:Nat}:∀{c:C} {env:Env} {nx:Nat} {bl:ai} {ms:List Nat} {K:Kc (Option X)} {r:X} {Q:Ex->St->Prop},kC (oC q) cx L N out c env nx bl ms K=some r ->
  (∀e env nx bl ms,K e env nx bl ms=some r->Q e ⟨env,⟨nx,bl⟩,ms⟩)->lW (cS P N out base) c ⟨env,⟨nx,bl⟩,ms⟩ Q:=by
 intro c
 induction c with
 |skip=>intro env nx bl ms K r Q h hK;exact hK _ _ _ _ _ h
 |cF is=>intro env nx bl ms K r Q h hK;exact nu dh h fun env nx bl h=>hK _ _ _ _ _ h
 |draw ps is =>
  intro env nx bl ms K r Q h hK
  refine lA dh h fun env bl bP h=>?_
  split at h
  ·rename_i hd
   rw [eY] at h
   exact ⟨hd,hK _ _ _ _ _ h⟩
  ·cases h
 |seq a b rV rm =>
  intro env nx bl ms K r Q h hK
  refine rV h fun e env nx bl ms h=>?_
  cases e with
  |normal=>exact rm h hK
  |exit id=>exact hK _ _ _ _ _ h
  |ret=>exact hK _ _ _ _ _ h
 |cond c a b rV rm =>
  intro env nx bl ms K r Q h hK
  simp only [kC] at h
  simp only [lW]
  have hrw:∀x env,M5 c x ⟨env,⟨nx,bl⟩,ms⟩=⟨Ng c x env,⟨nx,bl⟩,ms⟩:=fun x env=>by cases c<;>rfl
  split at h
  ·rename_i hc;rw [hc];exact rV h hK
  ·rename_i hc;rw [hc];exact rm h hK
  ·rename_i x hc
   rw [hc]
   rcases oD (q:=q) h with ⟨e,h⟩|⟨e,h⟩
   ·refine ⟨fun _ => ?_, fun e' => by rw [e] at e'; cases e'⟩
    rw [hrw];exact rV h hK
   ·refine ⟨fun e' => (by rw [e] at e'; cases e'), fun _ => ?_⟩
    rw [hrw];exact rm h hK
  ·rename_i x hc
   rw [hc]
   rcases oD (q:=q) h with ⟨e,h⟩|⟨e,h⟩
   ·obtain ⟨h1, h2⟩ := Pn (q := q) h
    exact ⟨fun _=>by rw [hrw];exact rV h1 hK,by rw [hrw];exact rm h2 hK⟩
   ·exact ⟨fun e'=>(by rw [e] at e';cases e'),by rw [hrw];exact rm h hK⟩
  ·cases h
 |block id c ih =>
  intro env nx bl ms K r Q h hK
  refine ih h fun e env nx bl ms h=>?_
  cases e with
  |normal=>exact hK _ _ _ _ _ h
  |exit id' =>
   simp only at h ⊢
   split at h
   ·rename_i e;rw [e];exact hK _ _ _ _ _ h
   ·rename_i e;rw [e];exact hK _ _ _ _ _ h
  |ret=>exact hK _ _ _ _ _ h
 |loop c ih =>
  intro env nx bl ms K r Q h hK
  have key:∀(n:Nat) {env:Env} {nx:Nat} {bl:ai} {ms:List Nat},Zm (oC q).no (kC (oC q) cx L N out c) n env nx bl ms K=some r->unr (cS P N out base) c n ⟨env,⟨nx,bl⟩,ms⟩ Q:=by
   intro n
   induction n with
   |zero=>intro env nx bl ms h;cases h
   |succ n ihn =>
    intro env nx bl ms h
    refine ih h fun e env nx bl ms h=>?_
    cases e with
    |normal=>exact ihn h
    |exit id=>exact hK _ _ _ _ _ h
    |ret=>exact hK _ _ _ _ _ h
  exact BL h fun bl h=>w8 (eK mixed) (n:=L) (key L h)
 |exit id=>intro env nx bl ms K r Q h hK;exact hK _ _ _ _ _ h
 |ret=>intro env nx bl ms K r Q h hK;exact hK _ _ _ _ _ h
 |c9 f ps a b rV rm =>
  intro env nx bl ms K r Q h hK
  refine BL h fun bl h=>ld ?_
  unfold rngC at h
  unfold Fw
  simp only
  split at h<;>try (cases h;done)
  rename_i hps
  refine ⟨hps,?_⟩
  split at h<;>try (cases h;done)
  rename_i fid first cap hf
  rw [hf]
  simp only
  cases out with
  |none =>
   simp only at h ⊢
   split at h<;>try (cases h;done)
   exact ⟨rfl,dh.E0 h fun v nx' bO hk=>DV (S:=⟨env,⟨nx,bl⟩,[]⟩) hk hK⟩
  |some HV =>
   simp only at h ⊢
   split at h<;>try (cases h;done)
   rename_i hb
   rw [hb]
   exact dh.E0 h fun v nx' bO hk=>DV (S:=⟨env,⟨nx,bl⟩,ms⟩) hk hK
 |gk=>intro env nx bl ms K r Q h hK;cases h
def Lj (kz:Kz R) (rs:List RV) (tys:List (Option Ty)) (K:V->Nat->ai->R):Kc R:=fun e env nx bl ms=>match e with
 | .exit _=>kz.no
 | .normal=>go env nx bl ms
 | .ret=>go env nx bl ms
where go (env:Env) (nx:Nat) (bl:ai) (ms:List Nat):R:=match ej ms bl with
 |some bl=>match rK bW ⟨env,⟨nx,bl⟩,[]⟩ rs with
  |some vs=>fV (nJ (cw (hTs tys) vs)) fun v=>K v nx bl
  |none=>kz.no
 |none=>kz.no
def Iw (kz:Kz R) (rs:List RV) (tys:List (Option Ty)) (K:V->R):Kc R:=fun e env nx bl ms=>match e with
 | .exit _=>kz.no
 | .normal=>go env nx bl ms
 | .ret=>go env nx bl ms
where go (env:Env) (nx:Nat) (bl:ai) (ms:List Nat):R:=match ej ms bl with
 |some bl=>match rK bW ⟨env,⟨nx,bl⟩,[]⟩ rs with
  |some vs=>match fin bW bl 8 (nJ (cw tys vs)) with
   |some v=>match cJ 8 v with
    |true=>K v
    |false=>kz.no
   |none=>kz.no
  |none=>kz.no
 |none=>kz.no
theorem sr {rs : List RV} {tys : List (Option Ty)} {K : V → Nat → ai → Option X} {r : X} {e : Ex} {env : Env} {nx : Nat} {bl : ai} {ms : List Nat} (h : Lj (oC q) rs tys K e env nx bl ms = some r) {Q : V → aO → Prop}
  (hQ:∀v nx bl,K v nx bl=some r->Q v ⟨nx,bl⟩):oa rs tys Q e ⟨env,⟨nx,bl⟩,ms⟩:=by
 have key:Lj.go (oC q) rs tys K env nx bl ms=some r->oa.kr rs tys Q ⟨env,⟨nx,bl⟩,ms⟩:=fun hg=>by
  unfold Lj.go at hg
  unfold oa.kr
  split at hg<;>try (cases hg;done)
  rename_i bO h1
  simp only
  rw [h1]
  simp only
  split at hg<;>try (cases hg;done)
  rename_i vs h2
  rw [h2]
  rw [ij] at hg
  exact hQ _ _ _ hg
 cases e with
 |exit i=>cases h
 |normal=>exact key h
 |ret=>exact key h
theorem uc {π : List Nat} : ∀ {n : Nat} {v : V}, cJ n v = true → EV π v v
 |0,v,h=>by cases h
 |n+1,v,h=>by
  have all:∀{cs:List V},cs.all (cJ n)=true->∀(i:Nat) v u,cs[i]?=some v->cs[i]?=some u->EV π v u:=fun h i v u hv hu=>by
   rw [hv] at hu;cases hu;exact uc (List.all_eq_true.1 h _ (List.mem_of_getElem? hv))
  cases v<;>simp only [cJ] at h<;>try (cases h;done)
  case any=>exact .any _
  case tf=>exact .tf _
  case bool=>exact .bool _
  case int=>exact .int _ _
  case str=>exact .str _
  case eJ=>exact .eJ
  case cu=>exact .cu
  case cK=>exact .cK
  case eG=>exact .eG _ _
  case kO=>exact .kO _ _
  case bA=>exact .bA
  case av cs=>exact .av _ _ rfl (all h)
  case ip=>exact .ip _ _
  case fn =>
   simp only [Bool.and_eq_true] at h
   exact .fn _ _ _ _ _ rfl (all h.1) rfl (all h.2)
  case agg=>exact .agg _ _ rfl (all h)
  case cG=>exact .cG _ _ rfl (all h)
  case bU=>exact .bU _ _ _ (uc h)
  case cb=>exact .cb _
  case dZ=>exact .dZ
  case jP=>exact .jP _ _
theorem Po {qv:FG V} {rs:List RV} {tys:List (Option Ty)} {v0:V} {e:Ex} {env:Env} {nx:Nat} {bl:ai} {ms:List Nat} (h:Iw (oC qv) rs tys some e env nx bl ms=some v0) :
  uZ (cS P N none 0) rs tys (fun r'=>EV [] v0 r') e ⟨env,⟨nx,bl⟩,ms⟩:=by
 have key:Iw.go (oC qv) rs tys some env nx bl ms=some v0->uZ.kr (cS P N none 0) rs tys (fun r'=>EV [] v0 r') ⟨env,⟨nx,bl⟩,ms⟩:=fun hg=>by
  unfold Iw.go at hg
  unfold uZ.kr
  split at hg<;>try (cases hg;done)
  rename_i bO h1
  simp only
  rw [h1]
  simp only
  split at hg<;>try (cases hg;done)
  rename_i vs h2
  rw [h2]
  simp only
  have e:fin (cS P N none 0) bO 8 (nJ (cw tys vs))=fin bW bO 8 (nJ (cw tys vs)):=by unfold cS;exact od
  rw [e]
  split at hg<;>try (cases hg;done)
  rename_i v h3
  rw [h3]
  simp only
  split at hg<;>try (cases hg;done)
  rename_i h4
  cases hg
  exact uc h4
 cases e with
 |exit i=>cases h
 |normal=>exact key h
 |ret=>exact key h
end
end Go.AM
end
section
namespace Go.AM
def DW : Nat → V → List Nat
 |0,_=>[]
 |n+1,v=>match v with
  | .sl id _ _ _=>[id]
  | .ptr id _=>[id]
  | .ep id _ _ _=>[id]
  | .yl id=>[id]
  | .mp id=>[id]
  | .pa id _ _=>[id]
  | .sp id _ _=>[id]
  | .av cs=>cs.flatMap (DW n)
  | .fn _ a b=>a.flatMap (DW n)++b.flatMap (DW n)
  | .agg cs=>cs.flatMap (DW n)
  | .cG cs=>cs.flatMap (DW n)
  | .bU _ v=>DW n v
  |_=>[]
def reach (bl : ai) : Nat → List Nat → List Nat → Option (List Nat)
 |_,[],acc=>some acc
 |0,_::_,_=>none
 |n+1,id::todo,acc=>match tg id acc with
  |true=>reach bl n todo acc
  |false=>match aq id bl with
   |some (.cells cs _)=>reach bl n (cs.flatMap (DW 8)++todo) (acc++[id])
   |some (.arr _ (_::_) _)=>reach bl n todo (acc++[id])
   |some (.map _ _ _ _ _)=>reach bl n todo (acc++[id])
   |_=>none
def FH (x : Nat) : List Nat → Option Nat
 |[]=>none
 |y::r=>match Nat.beq y x with
  |true=>some 0
  |false=>match FH x r with
   |some j=>some (j+1)
   |none=>none
theorem mK {x : Nat} : ∀ {l : List Nat} {j : Nat}, FH x l = some j → l[j]? = some x
 |[],_,h=>by cases h
 |y::r,j,h=>by
  simp only [FH] at h
  split at h
  ·rename_i e;cases h;simp [Nat.eq_of_beq_eq_true e]
  ·split at h <;> cases h
   rename_i j hj
   simpa using mK hj
def Pp (π : List Nat) : Nat → V → Option V
 |0,_=>none
 |n+1,v=>match v with
  | .sl id t lo m=>match FH id π with
   |some j=>some (.sl j t lo m)
   |none=>none
  | .ptr id o=>match FH id π with
   |some j=>some (.ptr j o)
   |none=>none
  | .mp id=>match FH id π with
   |some j=>some (.mp j)
   |none=>none
  | .pa id t m=>match FH id π with
   |some j=>some (.pa j t m)
   |none=>none
  | .ep _ _ _ _=>none
  | .yl _=>none
  | .sp _ _ _=>none
  | .av cs=>match cL (Pp π n) cs with
   |some cs=>some (.av cs)
   |none=>none
  | .fn f a b=>match cL (Pp π n) a with
   |some a=>match cL (Pp π n) b with
    |some b=>some (.fn f a b)
    |none=>none
   |none=>none
  | .agg cs=>match cL (Pp π n) cs with
   |some cs=>some (.agg cs)
   |none=>none
  | .cG cs=>match cL (Pp π n) cs with
   |some cs=>some (.cG cs)
   |none=>none
  | .bU t v=>match Pp π n v with
   |some v=>some (.bU t v)
   |none=>none
  |v=>some v
section
variable {π:List Nat}
theorem lB {g : V → Option V} : ∀ {cs ds : List V}, cL g cs = some ds → (∀ v v', g v = some v' → EV π v' v) → sU π ds cs
 |[],ds,h,_=>by cases h;exact sU.nil
 |c::cs,ds,h,hg=>by
  simp only [cL] at h
  split at h<;>try (cases h;done)
  rename_i x hx
  split at h<;>cases h
  rename_i xs hxs
  exact sU.cons (hg _ _ hx) (lB hxs hg)
theorem oE : ∀ {n : Nat} {v v' : V}, Pp π n v = some v' → EV π v' v
 |0,v,v',h=>by cases h
 |n+1,v,v',h=>by
  cases v<;>simp only [Pp] at h<;>try (cases h;done)
  case any=>cases h;exact .any _
  case tf=>cases h;exact .tf _
  case bool=>cases h;exact .bool _
  case int=>cases h;exact .int _ _
  case str=>cases h;exact .str _
  case eJ=>cases h;exact .eJ
  case cu=>cases h;exact .cu
  case cK=>cases h;exact .cK
  case eG=>cases h;exact .eG _ _
  case kO=>cases h;exact .kO _ _
  case bA=>cases h;exact .bA
  case ip=>cases h;exact .ip _ _
  case cb=>cases h;exact .cb _
  case dZ=>cases h;exact .dZ
  case jP=>cases h;exact .jP _ _
  case sl=>split at h<;>cases h;rename_i j hj;exact .sl _ _ _ _ _ (mK hj)
  case ptr=>split at h<;>cases h;rename_i j hj;exact .ptr _ _ _ (mK hj)
  case mp=>split at h<;>cases h;rename_i j hj;exact .mp _ _ (mK hj)
  case pa=>split at h<;>cases h;rename_i j hj;exact .pa _ _ _ _ (mK hj)
  case av=>split at h<;>cases h;rename_i ds hd;have:=lB hd (fun _ _ h=>oE h);exact .av _ _ this.1 this.2
  case fn =>
   split at h<;>try (cases h;done)
   rename_i a ha
   split at h<;>cases h
   rename_i b hb
   have h1:=lB ha (fun _ _ h=>oE h)
   have h2:=lB hb (fun _ _ h=>oE h)
   exact .fn _ _ _ _ _ h1.1 h1.2 h2.1 h2.2
  case agg=>split at h<;>cases h;rename_i ds hd;have:=lB hd (fun _ _ h=>oE h);exact .agg _ _ this.1 this.2
  case cG=>split at h<;>cases h;rename_i ds hd;have:=lB hd (fun _ _ h=>oE h);exact .cG _ _ this.1 this.2
  case bU=>split at h<;>cases h;rename_i v hv;exact .bU _ _ _ (oE hv)
def unB (π : List Nat) : jE → Option jE
 | .cells cs fz=>match cL (Pp π 8) cs with
  |some cs=>some (.cells cs fz)
  |none=>none
 | .arr t (x::xs) fz=>some (.arr t (x::xs) fz)
 | .map kt kg vt vg es=>some (.map kt kg vt vg es)
 |_=>none
def Pq (π : List Nat) (bl : ai) : Nat → List Nat → Option ai
 |_,[]=>some []
 |j,i::r=>match aq i bl with
  |some b=>match unB π b with
   |some b'=>match Pq π bl (j+1) r with
    |some l=>some ((j,b')::l)
    |none=>none
   |none=>none
  |none=>none
def Zn (b:jE):Prop:=match b with
 | .cells _ _=>True
 | .arr _ xs _=>xs≠[]
 | .map _ _ _ _ _=>True
 |_=>False
theorem Iy {bl:ai}:∀{r:List Nat} {j:Nat} {l:ai},Pq π bl j r=some l->π.drop j=r ->
  (∀p∈l,Zn p.2/\∃i,π[p.1]?=some i/\∀bO,aq i bO=aq i bl->Oy π 0 bO p.1 p.2)/\∀k,j<=k->k<π.length->∃b,(k,b)∈l
 |[],j,l,h,hr=>by
  cases h
  refine ⟨by simp,fun k h1 h2=>?_⟩
  have:=congrArg List.length hr
  simp at this;omega
 |i::r,j,l,h,hr=>by
  simp only [Pq] at h
  split at h<;>try (cases h;done)
  rename_i b hb
  split at h<;>try (cases h;done)
  rename_i b' hb'
  split at h<;>cases h
  rename_i l hl
  have hi:π[j]?=some i:=by
   have:=congrArg (fun x=>x[0]?) hr
   simpa using this
  have hr':π.drop (j+1)=r:=by
   have:=congrArg List.tail hr
   simpa using this
  obtain ⟨h1,h2⟩:=Iy hl hr'
  refine ⟨fun p hp=>?_,fun k hk1 hk2=>?_⟩
  ·rcases List.mem_cons.1 hp with rfl | hp
   ·cases b <;> simp only [unB] at hb' <;> try (cases hb'; done)
    case cells cs fz =>
     split at hb'<;>cases hb'
     rename_i ds hd
     exact ⟨trivial,i,hi,fun bO sS=>⟨i,hi,cs,sS.trans hb,lB hd (fun _ _ h=>oE h)⟩⟩
    case arr t xs fz =>
     cases xs with
     |nil=>cases hb'
     |cons x xs=>cases hb';exact ⟨by simp [Zn],i,hi,fun bO sS=>⟨i,hi,.inl (sS.trans hb)⟩⟩
    case map=>cases hb';exact ⟨trivial,i,hi,fun bO sS=>⟨i,hi,sS.trans hb⟩⟩
   ·exact h1 p hp
  ·rcases Nat.lt_or_ge j k with h | h
   ·obtain ⟨b, hb⟩ := h2 k h hk2
    exact ⟨b,List.mem_cons_of_mem _ hb⟩
   ·have : k = j := by omega
    subst this
    exact ⟨b',List.mem_cons_self ..⟩
end
def TX {α : Type} (g : α → α → Bool) : List α → List α → Bool
 |[],[]=>true
 |a::r,b::s=>match g a b with
  |true=>TX g r s
  |false=>false
 |_,_=>false
theorem Iz {α : Type} {g : α → α → Bool} (hg : ∀ a b, g a b = true → a = b) : ∀ {a b : List α}, TX g a b = true → a = b
 |[],[],_=>rfl
 |[],_::_,h=>by cases h
 |_::_,[],h=>by cases h
 |a::r,b::s,h=>by
  simp only [TX] at h
  split at h
  ·rename_i e;rw [hg _ _ e,Iz hg h]
  ·cases h
def Xx : (t : Ty) → t.den → t.den → Bool
 | .unit,_,_=>true
 | .bool,a,b=>fO .bool a b
 | .str,a,b=>fO .str a b
 | .int k,a,b=>fO (.int k) a b
 | .list t,a,b=>TX (Xx t) a b
 | .prod t u,a,b=>an (Xx t a.1 b.1) (Xx u a.2 b.2)
 | .bU _ _ t,a,b=>Xx t a b
theorem ud : ∀ {t : Ty} {a b : t.den}, Xx t a b = true → a = b
 | .unit,_,_,_=>rfl
 | .bool,_,_,h=>di h
 | .str,_,_,h=>di h
 | .int _,_,_,h=>di h
 | .list t,_,_,h=>Iz (fun _ _ h=>ud h) h
 | .prod t u,a,b,h=>by
  simp only [Xx,aX] at h
  exact Prod.ext (ud h.1) (ud h.2)
 | .bU _ _ t,_,_,h=>ud (t:=t) h
def pZ (g : V → V → Bool) : List V → List V → Bool
 |[],[]=>true
 |a::r,b::s=>match g a b with
  |true=>pZ g r s
  |false=>false
 |_,_=>false
def mL : Nat → V → V → Bool
 |0,_,_=>false
 |n+1,v,u=>match v,u with
  | .any,.any=>true
  | .tf a,.tf b=>a==b
  | .bool a,.bool b=>a==b
  | .int k a,.int k' b=>an (decide (k=k')) (a==b)
  | .eJ,.eJ=>true
  | .cu,.cu=>true
  | .cK,.cK=>true
  | .bA,.bA=>true
  | .dZ,.dZ=>true
  | .eG t xs,.eG t' ys=>match jK t t' xs with
   |some zs=>Xx (.list t') zs ys
   |none=>false
  | .ptr i o,.ptr j p=>an (Nat.beq i j) (Nat.beq o p)
  | .mp i,.mp j=>Nat.beq i j
  | .sl i t a b,.sl j t' c d=>an (decide (t=t')) (an (Nat.beq i j) (an (Nat.beq a c) (Nat.beq b d)))
  | .av a,.av b=>pZ (mL n) a b
  | .agg a,.agg b=>pZ (mL n) a b
  | .cG a,.cG b=>pZ (mL n) a b
  | .fn f a b,.fn g c d=>an (Nat.beq f g) (an (pZ (mL n) a c) (pZ (mL n) b d))
  |_,_=>false
theorem jz {g : V → V → Bool} (hg : ∀ a b, g a b = true → a = b) : ∀ {a b : List V}, pZ g a b = true → a = b
 |[],[],_=>rfl
 |[],_::_,h=>by cases h
 |_::_,[],h=>by cases h
 |a::r,b::s,h=>by
  simp only [pZ] at h
  split at h
  ·rename_i e;rw [hg _ _ e,jz hg h]
  ·cases h
theorem oF : ∀ {n : Nat} {v u : V}, mL n v u = true → v = u
 |0,_,_,h=>by cases h
 |n+1,v,u,h=>by
  have ih:∀a b,mL n a b=true->a=b:=fun _ _ h=>oF h
  cases v<;>cases u<;>simp only [mL,Bool.false_eq_true] at h<;>try rfl
  ·rw [eq_of_beq h]
  ·rw [eq_of_beq h]
  ·rw [aX] at h;rw [of_decide_eq_true h.1,eq_of_beq h.2]
  ·split at h
   ·rename_i zs hz
    obtain ⟨e,e2⟩:=dn hz
    subst e;subst e2
    rw [ud h]
   ·cases h
  ·rw [aX,aX,aX] at h;rw [of_decide_eq_true h.1,Nat.eq_of_beq_eq_true h.2.1,Nat.eq_of_beq_eq_true h.2.2.1,Nat.eq_of_beq_eq_true h.2.2.2]
  ·rw [aX] at h;rw [Nat.eq_of_beq_eq_true h.1,Nat.eq_of_beq_eq_true h.2]
  ·rw [jz ih h]
  ·rw [aX,aX] at h;rw [Nat.eq_of_beq_eq_true h.1,jz ih h.2.1,jz ih h.2.2]
  ·rw [jz ih h]
  ·rw [jz ih h]
  ·rw [Nat.eq_of_beq_eq_true h]
def eqV:FG V:=⟨mL 8,oF⟩
def eqN (X:Type):FG X:=⟨fun _ _=>false,fun h=>by cases h⟩
def Pr : jE → jE → Bool
 | .cells a f,.cells b g=>an (f==g) (pZ (mL 8) a b)
 | .arr t xs f,.arr t' ys g=>match jK t t' xs with
  |some zs=>an (f==g) (Xx (.list t') zs ys)
  |none=>false
 |_,_=>false
theorem Pt {a b:jE} (h:Pr a b=true):a=b:=by
 cases a<;>cases b<;>simp only [Pr,Bool.false_eq_true] at h
 ·rw [aX] at h;rw [eq_of_beq h.1,jz (fun _ _ h=>oF h) h.2]
 ·split at h
  ·rename_i zs hz
   obtain ⟨e,e2⟩:=dn hz
   subst e;subst e2
   rw [aX] at h
   rw [eq_of_beq h.1,ud h.2]
  ·cases h
def chg (bl : ai) : ai → dU
 |[]=>[]
 |(i,B)::r=>match (match aq i bl with
   |some B'=>Pr B B'
   |none=>false) with
  |true=>chg bl r
  |false=>(i,some B)::chg bl r
theorem xS {bl : ai} : ∀ {r : ai} {CG : ai}, (r.map (·.1)).Nodup → (∀ p ∈ r, aq p.1 CG = aq p.1 bl) → ∀ id, aq id (bV (chg bl r) CG) = (aq id r).or (aq id CG)
 |[],CG,_,_,id=>rfl
 |(i,B)::r,CG,tW,hag,id=>by
  rw [List.map_cons,List.nodup_cons] at tW
  have hni:aq i r=none:=so fun C hC=>tW.1 (List.mem_map.2 ⟨(i,C),hC,rfl⟩)
  simp only [chg]
  split
  ·rename_i h
   split at h<;>try (cases h;done)
   rename_i B' Xq
   have e:=Pt h
   subst e
   rw [xS tW.2 (fun p hp=>hag p (List.mem_cons_of_mem _ hp)) id,aY]
   by_cases e:i=id
   ·subst e
    rw [hni,if_pos rfl]
    exact (hag (i,B) (List.mem_cons_self ..)).trans Xq
   ·rw [if_neg e]
  ·simp only [bV]
   have hne : ∀ p ∈ r, i ≠ p.1 := fun p hp e => tW.1 (by
    have:=List.mem_map_of_mem (f:=fun x:Nat×jE=>x.1) hp
    rw [<-e] at this;exact this)
   rw [xS tW.2 (fun p hp=>by
    rw [aY,if_neg (hne p hp),bB,if_neg (fun h=>hne p hp h.symm)]
    exact hag p (List.mem_cons_of_mem _ hp)) id,aY,aY,bB]
   by_cases e:i=id
   ·subst e
    rw [hni,if_pos rfl,if_pos rfl];rfl
   ·rw [if_neg e,if_neg e,if_neg (fun h=>e h.symm)]
section
variable {P:Program}
theorem Ll {f:Nat} {vs:List V} {H:aO} {Q Q':V->aO->Prop} (h:dB P f vs H Q) (hq:∀v n bl,Q v ⟨n,bl⟩->∃bO,(∀id B,aq id bO=some B->aq id bl=some B)/\Q' v ⟨n,bO⟩):dB P f vs H Q' :=
 ⟨h.1,fun Y ι μ w as hI hr=>(h.2 Y ι μ w as hI hr).mono fun e w' ⟨v,ι',μ',r,⟨n,bl⟩,h1,h2,h3,h4,h5,h6⟩=>by
  obtain ⟨bO,q1,q2⟩:=hq _ _ _ h6
  exact ⟨v,ι',μ',r,⟨n,bO⟩,h1,h2,h3,h4.sub q1,h5,q2⟩⟩
def su (m : Nat) : ai → ai
 |[]=>[]
 |(i,b)::r=>match Nat.blt i m with
  |true=>(i,b)::su m r
  |false=>su m r
theorem qI {m : Nat} : ∀ {bl : ai} {id : Nat} {B : jE}, aq id (su m bl) = some B → aq id bl = some B
 |[],_,_,h=>h
 |(i,b)::r,id,B,h=>by
  simp only [su] at h
  rw [aY]
  split at h
  ·rw [aY] at h
   split at h
   ·rename_i e;rw [if_pos e];exact h
   ·rename_i e;rw [if_neg e];exact qI h
  ·rename_i hlt
   split
   ·rename_i e
    subst e
    exfalso
    have:∀{bl:ai},aq i (su m bl)=none:=by
     intro bl
     induction bl with
     |nil=>rfl
     |cons p s ih =>
      obtain ⟨j,c⟩:=p
      simp only [su]
      split
      ·rename_i hj
       rw [aY,if_neg (fun e=>by subst e;rw [hj] at hlt;cases hlt)]
       exact ih
      ·exact ih
    rw [this] at h;cases h
   ·exact qI h
theorem DX : ∀ {bl : ai} {p : Nat × jE}, p ∈ bl → aq p.1 bl ≠ none
 |[],_,h=>by cases h
 |q::r,p,h=>by
  obtain ⟨j,c⟩:=q
  rw [aY]
  split
  ·simp
  ·rename_i hne
   rcases List.mem_cons.1 h with e|hp
   ·subst e;exact absurd rfl hne
   ·exact DX hp
theorem Lm {f : Nat} {Ah vs : List V} {lX Sn bl lM : ai} {π : List Nat} {r0 r' : V} {n m : Nat}
  (h:dB P f Ah ⟨π.length,lX⟩ fun r H=>r=r0/\H=⟨m,Sn⟩) (hargs:sU π Ah vs) (hun:Pq π bl 0 π=some lX) (tW:π.Nodup)
  (hr:ir π 8 r0=some r') (u7:jy π (su π.length Sn)=some lM) (hk:(lM.map (·.1)).Nodup) (hcv:∀i∈π,i∈lM.map (·.1)):GOk P f vs n bl r' π (chg bl lM):=by
 intro bO hag
 obtain ⟨hl,Zl⟩:=Iy hun rfl
 have Lg:∀nx,∀p∈lX,Oy π nx bO p.1 p.2:=fun nx p hp=>by
  obtain ⟨h1,i,hi,h2⟩:=hl p hp
  obtain ⟨j,hj,h3⟩:=h2 bO (hag i (List.mem_of_getElem? hi))
  refine ⟨j,hj,?_⟩
  obtain ⟨q,b⟩:=p
  cases b<;>simp only [Zn] at h1<;>try exact h3
  rcases h3 with h3|⟨h3,_⟩
  ·exact .inl h3
  ·exact absurd h3 h1
 have h':dB P f Ah ⟨π.length,lX⟩ fun r H=>r=r0/\H=⟨m,su π.length Sn⟩:=Ll h fun v k b hq=>by
  obtain ⟨rfl,e⟩:=hq
  cases e
  exact ⟨_,fun id B=>qI,rfl,rfl⟩
 refine ⟨h.1,fun Y ι μ nx w as hn hfree hI Ff=>?_⟩
 have oB:∀i∈π,i<nx/\∃L,μ i=some L:=fun i hi=>by
  obtain ⟨j,hj⟩:=List.getElem?_of_mem hi
  obtain ⟨b,hb⟩:=Zl j (Nat.zero_le _) (List.getElem?_eq_some_iff.1 hj).1
  obtain ⟨h1,_⟩:=hl _ hb
  obtain ⟨i2,hi2,hkk⟩:=Lg nx _ hb
  rw [hj] at hi2;cases hi2
  simp only at h1 hkk
  cases b with
  |cells cs fz=>obtain ⟨ds,h1,_⟩:=hkk;obtain ⟨L,vs,hM,_⟩:=hI.live i _ h1;exact ⟨hI.lt i _ h1,L,hM.mu⟩
  |map kt kg vt vg es=>obtain ⟨L,_,_,_,q1,_⟩:=hI.live i _ hkk;exact ⟨hI.lt i _ hkk,L,q1⟩
  |arr t xs fz =>
   rcases hkk with h3|⟨h3,_⟩
   ·rcases hI.live i _ h3 with ⟨e, _⟩ | ⟨L, vs, hM, _⟩
    ·exact absurd e h1
    ·exact ⟨hI.lt i _ h3,L,hM.mu⟩
   ·exact absurd h3 h1
  |loop=>exact h1.elim
  |fC=>exact h1.elim
  |j8=>exact h1.elim
 refine (tV (Q:=fun r _ CG=>r=r'/\CG=lM++oy π bO) h' hargs (Lg nx) (fun p hp st j d env ps as bd N e=>by have:=(hl p hp).1;rw [e] at this;exact this) tW hI Ff (F:=fun _=>π) (G:=fun _=>nx) ?_).mono ?_
 ·rintro r k CG ⟨rfl, e⟩
  cases e
  exact ⟨r',lM,hr,u7,Nat.le_refl _,fun i hi=>(oB i hi).1,fun j i e=>.inl ⟨(List.getElem?_eq_some_iff.1 e).1,e⟩,fun a b i ha hb=>(List.getElem?_inj (List.getElem?_eq_some_iff.1 ha).1 tW).1 (ha.trans hb.symm),rfl,rfl⟩
 ·rintro e w' ⟨v, ι', μ', rr, k, CG, rfl, hi, hm, hne, M8, wE, rfl, rfl⟩
  refine ⟨v,ι',μ',rfl,hi,hm,fun id hid=>?_,?_,wE⟩
  ·by_cases h1 : id ∈ π
   ·obtain ⟨_, L, hL⟩ := oB id h1
    rw [hL];exact hm _ _ hL
   ·exact hne id h1
  ·refine M8.eqB fun id => ?_
   simp only
   have hin:∀id B,aq id lM=some B->id∈π:=fun id B hB=>by
    obtain ⟨j,B0,e1,_⟩:=tU (fun a b i ha hb=>(List.getElem?_inj (List.getElem?_eq_some_iff.1 ha).1 tW).1 (ha.trans hb.symm)) u7 hB
    exact List.mem_of_getElem? e1
   have hsome:∀p∈lM,∃B,aq p.1 lM=some B:=fun p hp=>by
    cases hg:aq p.1 lM with
    |some B=>exact ⟨B,rfl⟩
    |none=>exact absurd (DX hp) (by rw [hg];simp)
   rw [xS hk (fun p hp=>hag p.1 (by obtain ⟨B,hB⟩:=hsome p hp;exact hin _ _ hB)) id,iq,nr]
   cases hg:aq id lM with
   |some B=>rfl
   |none =>
    have hni:id∉π:=fun h=>by
     obtain ⟨p,hp,e⟩:=List.mem_map.1 (hcv id h)
     obtain ⟨B,hB⟩:=hsome p hp
     rw [e,hg] at hB;cases hB
    simp [if_neg hni]
end
end Go.AM
end
section
namespace Go.AM
def Ap : List Code → Code → Code
 |[],c=>c
 |a::l,c=>.seq a (Ap l c)
def DY (ar : Ar) : List C → St → (Ex → St → Prop) → Prop
 |[],S,K=>K .normal S
 |c::cs,S,K=>lW ar c S fun e S'=>match e with
  | .normal=>DY ar cs S' K
  | .exit i=>K (.exit i) S'
  | .ret=>K .ret S'
def wpT (t:O) (S:St) (A B:Prop):Prop:=match t.ev S.env with
 | .tf b=>(b=true->A)/\(b=false->B)
 | .bool b=>(b=true->A)/\(b=false->B)
 |_=>False
def zk (ar : Ar) (as : List C) (g : C) (t : O) (tail : C) : Nat → St → (Ex → St → Prop) → Prop
 |0,_,_=>False
 |n+1,S,K=>DY ar as S fun e S'=>match e with
  | .normal=>lW ar g S' fun e S'=>match e with
   | .normal=>wpT t S' (zk ar as g t tail n S' K) (lW ar tail S' K)
   | .exit i=>K (.exit i) S'
   | .ret=>K .ret S'
  | .exit i=>K (.exit i) S'
  | .ret=>K .ret S'
structure u9 where
 r0:C
 pre:List C
 as:List C
 g:C
 t:O
 tail:C
structure qJ where
 r0:Code
 pre:List Code
 as:List Code
 g:Code
 t:Operand
 tail:Code
def qJ.rest (f:qJ):Code:=Ap f.as (.seq (.seq f.g (.cond f.t (.goto 0) .skip)) f.tail)
def qJ.code (f:qJ):Code:=.seq f.r0 (.scope (Ap f.pre (.seq (.label 0) f.rest)))
structure Zo (P:Program) (N:Nat) (c:qJ) (f:u9):Prop where
 r0:l6 P N c.r0=some f.r0
 pre:c.pre.map (l6 P N)=f.pre.map some
 as:c.as.map (l6 P N)=f.as.map some
 g:l6 P N c.g=some f.g
 t:dY c.t=some f.t
 tail:l6 P N c.tail=some f.tail
 fl:findLabel (Ap c.pre (.seq (.label 0) c.rest)) 0=some (.seq .skip c.rest)
section
variable {P:Program} {N:Nat} {Y:Ctx} {ι:aB} {μ:Mu} {w:World} {base:Nat} {X R:Type} {q:FG X} {cx:Cx} {c:qJ} {f:u9}
theorem Pv (cY : gT P N none base) (ho : nH Y none) (hb : Y.base base) {K : Ex → St → Prop} {Q : Exit → Act → World → Prop} {rest : Code}
  (hn:∀Y1 ι μ S a w,Ext P Y Y1->fG P N Y1 ι μ S a w->K .normal S->rest.wpIn Y.F 0 P Q a w) (he:∀e a w,Post P N Y K e a w->e ≠ .normal->Q e a w) :
  ∀{cs:List Code} {ds:List C},cs.map (l6 P N)=ds.map some->∀{Y1:Ctx} {ι:aB} {μ:Mu} {S:St} {a:Act} {w:World},Ext P Y Y1->fG P N Y1 ι μ S a w->DY (cS P N none base) ds S K->(Ap cs rest).wpIn Y.F 0 P Q a w
 |[],[],_,Y1,ι,μ,S,a,w,hY,hR,h=>hn Y1 ι μ S a w hY hR h
 |[],_::_,h,_,_,_,_,_,_,_,_,_=>by cases h
 |_::_,[],h,_,_,_,_,_,_,_,_,_=>by cases h
 |c::cs,d::ds,h,Y1,ι,μ,S,a,w,hY,hR,hw=>by
  simp only [List.map_cons,List.cons.injEq] at h
  refine wpIn_seq (wpIn_mono (n8 (dI cY c h.1 hw) hY ho hb hR) fun e a w hp=>?_)
  obtain ⟨Y2,H9,ι',μ',S',e',h1,h2,h3⟩:=hp
  cases e' with
  |normal=>cases h2;exact Pv cY ho hb hn he h.2 H9 h1 h3
  |exit id=>cases h2;exact he _ _ _ ⟨Y2,H9,ι',μ',S',.exit id,h1,rfl,h3⟩ (by simp)
  |ret=>cases h2;exact he _ _ _ ⟨Y2,H9,ι',μ',S',.ret,h1,rfl,h3⟩ (by simp)
theorem ExR.TY {e':Ex} {l:Nat} (h:ExR e' (.goto l)):False:=by cases e'<;>cases h
theorem Post.jump {K:Ex->St->Prop} {J:Act->World->Prop} {e:Exit} {a:Act} {w:World} (h:Post P N Y K e a w):Exit.jump 0 J (Post P N Y K) e a w:=by
 cases e with
 |goto l=>obtain ⟨_,_,_,_,_,_,_,he,_⟩:=h;exact he.TY.elim
 |normal=>exact h
 |exit id=>exact h
 |ret=>exact h
 |panic=>exact h
 |outgrown=>exact h
theorem Post.out {K K':Ex->St->Prop} {e:Exit} {a:Act} {w:World} (h:Post P N Y K e a w) (hne:e ≠ .normal) (hk:∀e S,e ≠ .normal->K e S->K' e S):Post P N Y K' e a w:=by
 obtain ⟨Y1,hY,ι,μ,S,e',h1,h2,h3⟩:=h
 exact ⟨Y1,hY,ι,μ,S,e',h1,h2,hk _ _ (fun e=>by subst e;cases h2;exact hne rfl) h3⟩
theorem Pw (cY : gT P N none base) (hf : Zo P N c f) (ho : nH Y none) (hb : Y.base base) {K : Ex → St → Prop} {n : Nat} {Y1 : Ctx} {S : St} {a : Act} (hY : Ext P Y Y1) (hR : fG P N Y1 ι μ S a w)
  (h:zk (cS P N none base) f.as f.g f.t f.tail (n+1) S K) {J:Act->World->Prop} (hJ:∀Y1 ι μ S a w,Ext P Y Y1->fG P N Y1 ι μ S a w->zk (cS P N none base) f.as f.g f.t f.tail n S K->J a w) :
  c.rest.wpIn Y.F 0 P (Exit.jump 0 J (Post P N Y K)) a w:=by
 simp only [zk] at h
 refine Pv cY ho hb ?_ ?_ hf.as hY hR h
 ·intro Y1 ι μ S a w hY hR h
  simp only at h
  refine wpIn_seq (wpIn_seq (wpIn_mono (n8 (dI cY c.g hf.g h) hY ho hb hR) fun e a w hp=>?_))
  obtain ⟨Y2,H9,ι',μ',S',e',h1,h2,h3⟩:=hp
  cases e' with
  |normal =>
   cases h2
   simp only at h3
   have hr:=aK h1.env hf.t
   obtain ⟨b,kP,hA,hB⟩:∃b,a.eval c.t = .bool b/\(b=true->zk (cS P N none base) f.as f.g f.t f.tail n S' K)/\(b=false->lW (cS P N none base) f.tail S' K):=by
    unfold wpT at h3
    split at h3
    ·rename_i b he
     rw [he] at hr
     generalize hx:a.eval c.t=x at hr
     cases hr;exact ⟨b,rfl,h3⟩
    ·rename_i b he
     rw [he] at hr
     generalize hx:a.eval c.t=x at hr
     cases hr;exact ⟨b,rfl,h3⟩
    ·exact h3.elim
   refine wpIn_cond kP ?_
   cases b with
   |true=>exact wpIn_goto ⟨rfl,hJ _ _ _ _ _ _ H9 h1 (hA rfl)⟩
   |false=>exact wpIn_skip (wpIn_mono (n8 (dI cY c.tail hf.tail (hB rfl)) H9 ho hb h1) fun e a w hp=>hp.jump)
  |exit id=>cases h2;exact Post.jump (J:=J) ⟨Y2,H9,ι',μ',S',.exit id,h1,rfl,h3⟩
  |ret=>cases h2;exact Post.jump (J:=J) ⟨Y2,H9,ι',μ',S',.ret,h1,rfl,h3⟩
 ·intro e a w hp hne
  exact Post.jump (hp.out hne fun e S he hk=>by cases e<;>first|exact absurd rfl he|exact hk)
theorem xT {p:Nat->Prop} (h:∃n,p n):∃n,p n/\∀m,p m->n<=m:=by
 obtain ⟨n,hn⟩:=h
 induction n using Nat.strongRecOn with
 |_ n ih =>
  by_cases hx:∃m,m<n/\p m
  ·obtain ⟨m,hm,hp⟩:=hx;exact ih m hm hp
  ·exact ⟨n,hn,fun m hm=>Nat.le_of_not_lt fun hlt=>hx ⟨m,hlt,hm⟩⟩
theorem Zp (cY : gT P N none base) (hf : Zo P N c f) {n : Nat} {S : St} {K : Ex → St → Prop}
  (h:DY (cS P N none base) (f.r0::f.pre) S fun e S'=>match e with
   | .normal=>zk (cS P N none base) f.as f.g f.t f.tail n S' K
   | .exit i=>K (.exit i) S'
   | .ret=>K .ret S'):Fo P N none base c.code S K:=by
 intro Y ι μ a w ho hb hR
 have hF:Y.F=Fence.wide:=by have:Y.ro=none:=ho;simp [Ctx.F,this,Fence.wide]
 let JN:Nat->Act->World->Prop:=fun n a w=>∃Y1 ι μ S,Ext P Y Y1/\fG P N Y1 ι μ S a w/\zk (cS P N none base) f.as f.g f.t f.tail n S K
 let J:Act->World->Prop:=fun a w=>∃n,JN n a w
 classical
 let M:Act->World->Nat:=fun a w=>if hx:J a w then (xT hx).choose else 0
 have hMle:∀{n a w},JN n a w->M a w<=n:=fun {n a w} hj=>by
  simp only [M];rw [dif_pos ⟨n,hj⟩];exact (xT ⟨n,hj⟩).choose_spec.2 n hj
 have hMat:∀{a w},J a w->JN (M a w) a w:=fun {a w} hj=>by
  simp only [M];rw [dif_pos hj];exact (xT hj).choose_spec.1
 have round:∀{n a w} {Q:Act->World->Prop},JN n a w->(∀m a' w',m+1=n->JN m a' w'->Q a' w')->c.rest.wpIn Y.F 0 P (Exit.jump 0 Q (Post P N Y K)) a w:=by
  rintro n a w Q ⟨Y1,ι,μ,S,hY,hR,hg⟩ hQ
  cases n with
  |zero=>exact hg.elim
  |succ n=>exact Pw cY hf ho hb hY hR hg fun Y1 ι μ S a w hY hR hg=>hQ n a w rfl ⟨Y1,ι,μ,S,hY,hR,hg⟩
 have scope:∀{Y1:Ctx} {ι:aB} {μ:Mu} {S:St} {a:Act} {w:World},Ext P Y Y1->fG P N Y1 ι μ S a w->(DY (cS P N none base) f.pre S fun e S'=>match e with
   | .normal=>zk (cS P N none base) f.as f.g f.t f.tail n S' K
   | .exit i=>K (.exit i) S'
   | .ret=>K .ret S')->(Code.scope (Ap c.pre (.seq (.label 0) c.rest))).wpIn Y.F 0 P (Post P N Y K) a w:=by
  intro Y1 ι μ S a w hY hR h
  rw [hF,wpIn_wide]
  refine wp_scope_jumps 0 J M hf.fl ?_ ?_
  ·rw [← wpIn_wide (n := 0), ← hF]
   refine Pv cY ho hb ?_ ?_ hf.pre hY hR h
   ·intro Y1 ι μ S a w hY hR hg
    exact wpIn_seq (wpIn_label (round ⟨Y1,ι,μ,S,hY,hR,hg⟩ fun m a' w' _ hj=>⟨m,hj⟩))
   ·intro e a w hp hne
    exact Post.jump (hp.out hne fun e S he hk=>by cases e<;>first|exact absurd rfl he|exact hk)
  ·intro a w hj
   rw [<-wpIn_wide (n:=0),<-hF]
   refine wpIn_seq (wpIn_skip (round (hMat hj) fun m a' w' e hj'=>⟨⟨m,hj'⟩,?_⟩))
   have:=hMle hj'
   omega
 simp only [DY] at h
 refine wpIn_seq (wpIn_mono (dI cY c.r0 hf.r0 h Y ι μ a w ho hb hR) fun e a w hp=>?_)
 obtain ⟨Y2,H9,ι',μ',S',e',h1,h2,h3⟩:=hp
 cases e' with
 |normal=>cases h2;exact scope H9 h1 h3
 |exit id=>cases h2;exact ⟨Y2,H9,ι',μ',S',.exit id,h1,rfl,h3⟩
 |ret=>cases h2;exact ⟨Y2,H9,ι',μ',S',.ret,h1,rfl,h3⟩
def kLs (kz : Kz R) (cx : Cx) (L N : Nat) : List C → Env → Nat → ai → List Nat → Kc R → R
 |[],env,nx,bl,ms,K=>K .normal env nx bl ms
 |c::cs,env,nx,bl,ms,K=>kC kz cx L N none c env nx bl ms fun e env nx bl ms=>match e with
  | .normal=>kLs kz cx L N cs env nx bl ms K
  | .exit i=>K (.exit i) env nx bl ms
  | .ret=>K .ret env nx bl ms
def kGo (kz : Kz R) (cx : Cx) (L N : Nat) (f : u9) : Nat → Env → Nat → ai → List Nat → Kc R → R
 |0,_,_,_,_,_=>kz.no
 |n+1,env,nx,bl,ms,K=>kLs kz cx L N f.as env nx bl ms fun e env nx bl ms=>match e with
  | .normal=>kC kz cx L N none f.g env nx bl ms fun e env nx bl ms=>match e with
   | .normal=>match f.t.ev env with
    | .tf true=>kGo kz cx L N f n env nx bl ms K
    | .tf false=>kC kz cx L N none f.tail env nx bl ms K
    | .bool b=>kz.br b (kGo kz cx L N f n env nx bl ms K) (kC kz cx L N none f.tail env nx bl ms K)
    |_=>kz.no
   | .exit i=>K (.exit i) env nx bl ms
   | .ret=>K .ret env nx bl ms
  | .exit i=>K (.exit i) env nx bl ms
  | .ret=>K .ret env nx bl ms
def kGf (kz:Kz R) (cx:Cx) (L N:Nat) (f:u9) (env:Env) (nx:Nat) (bl:ai) (ms:List Nat) (K:Kc R):R:=kLs kz cx L N (f.r0::f.pre) env nx bl ms fun e env nx bl ms=>match e with
 | .normal=>kGo kz cx L N f L env nx bl ms K
 | .exit i=>K (.exit i) env nx bl ms
 | .ret=>K .ret env nx bl ms
theorem FI (mixed:P.follows .mixedOrders=true) (dh:cx.xQ P) {L:Nat}:∀{cs:List C} {env:Env} {nx:Nat} {bl:ai} {ms:List Nat} {K:Kc (Option X)} {r:X} {Q:Ex->St->Prop},kLs (oC q) cx L N cs env nx bl ms K=some r ->
  (∀e env nx bl ms,K e env nx bl ms=some r->Q e ⟨env,⟨nx,bl⟩,ms⟩)->DY (cS P N none base) cs ⟨env,⟨nx,bl⟩,ms⟩ Q
 |[],_,_,_,_,_,_,_,h,hK=>hK _ _ _ _ _ h
 |c::cs,_,_,_,_,_,_,_,h,hK=>by
  refine sq mixed dh h fun e env nx bl ms h=>?_
  cases e with
  |normal=>exact FI mixed dh h hK
  |exit i=>exact hK _ _ _ _ _ h
  |ret=>exact hK _ _ _ _ _ h
theorem FJ (mixed:P.follows .mixedOrders=true) (dh:cx.xQ P) {L:Nat} {f:u9}:∀{n:Nat} {env:Env} {nx:Nat} {bl:ai} {ms:List Nat} {K:Kc (Option X)} {r:X} {Q:Ex->St->Prop},kGo (oC q) cx L N f n env nx bl ms K=some r ->
  (∀e env nx bl ms,K e env nx bl ms=some r->Q e ⟨env,⟨nx,bl⟩,ms⟩)->zk (cS P N none base) f.as f.g f.t f.tail n ⟨env,⟨nx,bl⟩,ms⟩ Q
 |0,_,_,_,_,_,_,_,h,_=>by cases h
 |n+1,_,_,_,_,_,_,_,h,hK=>by
  refine FI mixed dh h fun e env nx bl ms h=>?_
  cases e with
  |exit i=>exact hK _ _ _ _ _ h
  |ret=>exact hK _ _ _ _ _ h
  |normal =>
   refine sq mixed dh h fun e env nx bl ms h=>?_
   cases e with
   |exit i=>exact hK _ _ _ _ _ h
   |ret=>exact hK _ _ _ _ _ h
   |normal =>
    simp only at h ⊢
    unfold wpT
    simp only
    split at h
    ·rename_i ht;rw [ht];exact ⟨fun _=>FJ mixed dh h hK,fun e=>by cases e⟩
    ·rename_i ht;rw [ht];exact ⟨fun e=>(by cases e),fun _=>sq mixed dh h hK⟩
    ·rename_i b ht
     rw [ht]
     rcases oD (q:=q) h with ⟨e,h⟩|⟨e,h⟩
     ·exact ⟨fun _=>FJ mixed dh h hK,fun e'=>by rw [e] at e';cases e'⟩
     ·exact ⟨fun e'=>(by rw [e] at e';cases e'),fun _=>sq mixed dh h hK⟩
    ·cases h
structure IA (P:Program) (f:Nat) (fn:Fn) (gf:u9):Prop where
 ok:∃func code,P.funcs[f]?=some func/\e9 P f/\func.body=some code.code/\Zo P func.ntmps code gf/\fn.N=func.ntmps/\fn.np<=func.ntmps/\Ku P func.results.toList=some fn.res
theorem Px (mixed : P.follows .mixedOrders = true) {fid : Nat} {fn : Fn} {gf : u9} (hg : IA P fid fn gf) {vs : List V} {H : aO} {Q : V → aO → Prop} (hlen : vs.length ≤ fn.np) {n : Nat}
  (h:DY (cS P fn.N none H.next) (gf.r0::gf.pre) ⟨args 0 vs,H,[]⟩ fun e S'=>match e with
   | .normal=>zk (cS P fn.N none H.next) gf.as gf.g gf.t gf.tail n S' (oa fn.res fn.tys Q)
   | .exit i=>oa fn.res fn.tys Q (.exit i) S'
   | .ret=>oa fn.res fn.tys Q .ret S'):dB P fid vs H Q:=by
 obtain ⟨func,code,hf,hent,hb,hok,hN,hnp,hres⟩:=hg.ok
 rw [hN] at h
 have hwp:=Zp (eK mixed) hok h
 refine ⟨hent,fun Y ι μ w as hI hr=>?_⟩
 let Y0:Ctx:=⟨Y.w0,ι,μ,none,Y.x,[]⟩
 have hF:Y0.F=Fence.wide:=by simp [Y0,Ctx.F,Fence.wide]
 have hsize:as.size=vs.length:=by have:=hr.1;simp at this;omega
 have pM:fG P func.ntmps Y0 ι μ ⟨args 0 vs,H,[]⟩ { tmps:=as++Array.replicate (func.ntmps - as.size) undef,defers:=[] } w:=by
  refine ⟨fun t=>?_,by simp;omega,hI.down none,rfl⟩
  simp only [rM,Nat.zero_le,if_true,Nat.sub_zero]
  by_cases ht:t<vs.length
  ·have hv : vs[t]? = some (vs.getD t .any) := by simp [List.getD, ht]
   obtain ⟨x,hx,hrx⟩:=hr.at hv
   have:(as++Array.replicate (func.ntmps - as.size) undef).getD t undef=x:=by
    rw [Array.getD_eq_getD_getElem?,Array.getElem?_append_left (by omega)]
    simp at hx;simp [hx]
   rw [this];exact hrx
  ·have : vs.getD t .any = .any := by simp [List.getD, List.getElem?_eq_none (show vs.length ≤ t by omega)]
   rw [this];exact .any _
 refine callsIn_of_wp_marks hf hb trivial ?_
 have hw:=hwp Y0 ι μ _ w rfl (fun id hid=>hI.nx id hid) pM
 rw [hF] at hw
 refine wpIn_mono hw fun e a' w' hp=>?_
 obtain ⟨Y1,hY,ι',μ',S',e',hR,h2,hq⟩:=hp
 have key:oa.kr fn.res fn.tys Q S'->LeavesInM Fence.wide 0 P func a'.tmps (KC P Y ι μ Q) a'.defers .returning w':=by
  intro hs
  unfold oa.kr at hs
  split at hs<;>try (exact hs.elim)
  rename_i bl sS
  split at hs<;>try (exact hs.elim)
  rename_i vs' hvs
  refine me hres (n:=S'.H.next) (bl:=S'.H.bl) hY rfl hR.inv hR.env hR.ms sS hvs fun x w2 mP hx=>?_
  obtain ⟨h1,h2,h3⟩:=hI.up mP
  exact ⟨x,ι',μ',_,_,rfl,h2,h3,h1,hx (hTs fn.tys),hs⟩
 cases e' with
 |exit id=>exact hq.elim
 |normal=>cases h2;exact key hq
 |ret=>cases h2;exact key hq
end
end Go.AM
end
section
namespace Go.AM
section
variable {P:Program} {R:Type}
def Zq:Cx where
 pc kz _ _ _:=kz.no
 ca kz _ _ _ _ _:=kz.no
 rd kz _ _ _ _ _:=kz.no
def gcC (run:Nat->List V->Nat->ai->Option (V×Nat×ai)) (f:Nat) (vs:List V) (bl:ai) (d:R) (K:V->List Nat->dU->R):R :=
 match reach bl 1000 (vs.flatMap (DW 8)) [] with
 |some (i::π)=>match qE (i::π) with
  |true=>match Pq (i::π) bl 0 (i::π) with
   |some lX=>match cL (Pp (i::π) 8) vs with
    |some Ah=>match run f Ah (i::π).length lX with
     |some (r0,_,Sn)=>match ir (i::π) 8 r0 with
      |some r'=>match jy (i::π) (su (i::π).length Sn) with
       |some lM=>match an (qE (lM.map (·.1))) ((i::π).all fun j=>tg j (lM.map (·.1))) with
        |true=>K r' (i::π) (chg bl lM)
        |false=>d
       |none=>d
      |none=>d
     |none=>d
    |none=>d
   |none=>d
  |false=>d
 |_=>d
def Ln (kn : Nat → List V → Option V) (c8 : Nat → Option Fn) (ue : Nat → Option (Fn × u9)) (L : Nat) : Nat → Cx
 |0=>Zq
 | n + 1 => {
  pc:=fun kz f vs K=>match kn f vs with
   |some v=>K v
   |none=>match c8 f with
    |some fn=>match Nat.ble vs.length fn.np with
     |true=>match kC (oC eqV) (Ln kn c8 ue L n) L fn.N none fn.body (args 0 vs) 0 [] [] (Iw (oC eqV) fn.res fn.tys some) with
      |some v=>K v
      |none=>kz.no
     |false=>kz.no
    |none=>kz.no
  ca:=fun kz f vs nx bl K=>match kn f vs with
   |some v=>K v nx bl
   |none=>match c8 f with
    |some fn=>match Nat.ble vs.length fn.np with
     |true=>O5 vs fun vs=>kC kz (Ln kn c8 ue L n) L fn.N none fn.body (args 0 vs) nx bl [] (Lj kz fn.res fn.tys K)
     |false=>kz.no
    |none=>match ue f with
     |some (fn,gf)=>match Nat.ble vs.length fn.np with
      |true=>O5 vs fun vs=>kGf kz (Ln kn c8 ue L n) L fn.N gf (args 0 vs) nx bl [] (Lj kz fn.res fn.tys K)
      |false=>kz.no
     |none=>kz.no
  rd:=fun kz id vs nx bl K=>match aq id bl with
   |some (.loop .ready none _ env ps as bd N)=>match Nat.beq vs.length ps.length with
    |true=>xE ps vs env fun env=>kC kz (Ln kn c8 ue L n) L N (some id) as env nx bl [] fun e env nx bl ms=>match e with
     | .normal=>match aq id bl with
      |some (.loop .ready none d' env' ps' as' Nb N')=>oq id bl fun bl=>kC kz (Ln kn c8 ue L n) L N (some id) bd env nx ((id,.loop .busy none d' env' ps' as' Nb N')::bl) ms (Ag kz id K)
      |_=>kz.no
     |_=>kz.no
    |false=>kz.no
   |_=>kz.no
  gc:=fun _ f vs _ bl d K=>gcC (fun f vs nx bl=>match c8 f with
   |some fn=>match Nat.ble vs.length fn.np with
    |true=>kC (oC (eqN (V×Nat×ai))) (Ln kn c8 ue L n) L fn.N none fn.body (args 0 vs) nx bl [] (Lj (oC (eqN (V×Nat×ai))) fn.res fn.tys fun v nx bl=>some (v,nx,bl))
    |false=>none
   |none=>none) f vs bl d K }
def Zr (P:Program) (kn:Nat->List V->Option V):Prop:=∀f vs v,kn f vs=some v->dy P f vs v/\vs.all (cJ 8)=true
def Py (P:Program) (c8:Nat->Option Fn):Prop:=∀f fn,c8 f=some fn->∃func,P.funcs[f]?=some func/\cN P func=some fn/\e9 P f
theorem Pz {π:List Nat} {n:Nat} {vs Ah:List V} (h:cL (Pp π n) vs=some Ah):sU π Ah vs:=lB h fun _ _ h=>oE h
theorem PA (mixed : P.follows .mixedOrders = true) {kn : Nat → List V → Option V} (hkn : Zr P kn) {c8 : Nat → Option Fn} (ht : Py P c8) {ue : Nat → Option (Fn × u9)} (hg : ∀ f fn gf, ue f = some (fn, gf) → IA P f fn gf) {L : Nat} : ∀ n, (Ln kn c8 ue L n).xQ P
 |0=>⟨fun {X q f vs K r} h=>(by cases h),fun {X q f vs nx bl K r} h=>(by cases h),fun {X q id vs nx bl K r} h=>(by cases h),fun {X q f vs m bl d K r} h=>Or.inl h⟩
 |n+1=>by
  have ih:=PA mixed hkn ht hg (L:=L) n
  refine ⟨fun {X q f vs K r} h=>?_,fun {X q f vs nx bl K r} h {Q} hQ=>?_,fun {X q id vs nx bl K r} h {Q} hQ=>?_,fun {X q f vs m bl d K r} h=>?_⟩
  ·simp only [Ln] at h
   split at h
   ·rename_i v hv;exact ⟨v,(hkn _ _ _ hv).1,h⟩
   split at h<;>try (cases h;done)
   rename_i fn hfn
   split at h<;>try (cases h;done)
   rename_i hnp
   split at h<;>try (cases h;done)
   rename_i v hv
   obtain ⟨func,hf,fP,hent⟩:=ht _ _ hfn
   refine ⟨v,?_,h⟩
   exact Af hf fP hent (eK mixed) (Nat.le_of_ble_eq_true hnp) (sq mixed ih hv fun e env nx bl ms hk=>Po hk)
  ·simp only [Ln] at h
   split at h
   ·rename_i v hv;exact wQ (hkn _ _ _ hv).1 (hkn _ _ _ hv).2 (hQ _ _ _ h)
   split at h
   ·rename_i fn hfn
    split at h<;>try (cases h;done)
    rename_i hnp
    rw [kG] at h
    obtain ⟨func,hf,fP,hent⟩:=ht _ _ hfn
    exact iA hf fP hent (eK mixed) (Nat.le_of_ble_eq_true hnp) (sq mixed ih h fun e env nx bl ms hk=>sr hk hQ)
   ·split at h <;> try (cases h; done)
    rename_i fn gf hfn
    split at h<;>try (cases h;done)
    rename_i hnp
    rw [kG] at h
    refine Px mixed (hg _ _ _ hfn) (Nat.le_of_ble_eq_true hnp) (n:=L) (FI mixed ih h fun e env nx bl ms h=>?_)
    cases e with
    |normal=>exact FJ mixed ih h fun e env nx bl ms hk=>sr hk hQ
    |exit i=>exact sr h hQ
    |ret=>exact sr h hQ
  ·simp only [Ln] at h
   split at h<;>try (cases h;done)
   rename_i d env ps as bd N hb
   split at h<;>try (cases h;done)
   rename_i hlen
   rw [tS] at h
   refine zR (fun N=>eK mixed) ?_
   unfold Bl
   simp only
   rw [hb]
   simp only
   refine ⟨Nat.eq_of_beq_eq_true hlen,?_⟩
   refine sq mixed ih h fun e env nx bl ms h=>?_
   cases e with
   |exit i=>cases h
   |ret=>cases h
   |normal =>
    simp only at h ⊢
    split at h<;>try (cases h;done)
    rename_i d' env' ps2 as' Nb N2 iw
    rw [iw]
    simp only
    rw [gJ] at h
    exact sq mixed ih h fun e env nx bl ms h=>Li h hQ
  ·simp only [Ln, gcC] at h
   split at h<;>try (exact .inl h)
   rename_i i π hre
   generalize i::π=π at *
   split at h<;>try (exact .inl h)
   rename_i tW
   split at h<;>try (exact .inl h)
   rename_i lX hbl0
   split at h<;>try (exact .inl h)
   rename_i Ah hvs0
   split at h<;>try (exact .inl h)
   rename_i r0 m1 Sn hrun
   split at h<;>try (exact .inl h)
   rename_i r' hr'
   split at h<;>try (exact .inl h)
   rename_i lM u7
   split at h<;>try (exact .inl h)
   rename_i hc
   rw [aX] at hc
   split at hrun<;>try (cases hrun;done)
   rename_i fn hfn
   split at hrun<;>try (cases hrun;done)
   rename_i hnp
   obtain ⟨func,hf,fP,hent⟩:=ht _ _ hfn
   have eW:dB P f Ah ⟨π.length,lX⟩ fun r H=>r=r0/\H=⟨m1,Sn⟩ :=
    iA hf fP hent (eK mixed) (Nat.le_of_ble_eq_true hnp) (sq mixed ih hrun fun e env nx bl ms hk=>sr hk fun v nx bl hk=>by cases hk;exact ⟨rfl,rfl⟩)
   exact .inr ⟨r',π,_,Lm eW (Pz hvs0) hbl0 (mG tW) hr' u7 (mG hc.1) (fun j hj=>mj.1 (List.all_eq_true.1 hc.2 j hj)),h⟩
theorem BM (mixed : P.follows .mixedOrders = true) {kn : Nat → List V → Option V} (hkn : Zr P kn) {c8 : Nat → Option Fn} (ht : Py P c8) {ue : Nat → Option (Fn × u9)} (hg : ∀ f fn gf, ue f = some (fn, gf) → IA P f fn gf) {L n f : Nat} {vs : List V} {v : V}
  (h:(Ln kn c8 ue L n).pc (oC (eqN Unit)) f vs (fun r=>match mL 8 r v with
   |true=>some ()
   |false=>none)=some ()):dy P f vs v:=by
 obtain ⟨r,h1,h2⟩:=(PA mixed hkn ht hg n).Ic h
 split at h2<;>try (cases h2;done)
 rename_i e
 rw [<-oF e];exact h1
def knL : List (Nat × List V × V) → Nat → List V → Option V
 |[],_,_=>none
 |(g,ws,v)::r,f,vs=>match Nat.beq g f with
  |true=>match pZ (mL 8) vs ws with
   |true=>some v
   |false=>knL r f vs
  |false=>knL r f vs
def PB (P : Program) : List (Nat × List V × V) → Prop
 |[]=>True
 |(g,ws,v)::r=>(dy P g ws v/\ws.all (cJ 8)=true)/\PB P r
theorem FK : ∀ {l : List (Nat × List V × V)}, PB P l → Zr P (knL l)
 |[],_,_,_,_,h=>by cases h
 |(g,ws,v)::r,hl,f,vs,u,h=>by
  simp only [knL] at h
  split at h
  ·rename_i e
   split at h
   ·rename_i e2
    cases h
    rw [<-Nat.eq_of_beq_eq_true e,jz (fun _ _ h=>oF h) e2]
    exact hl.1
   ·exact FK hl.2 f vs u h
  ·exact FK hl.2 f vs u h
end
end Go.AM
end
