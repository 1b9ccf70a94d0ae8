/- What is read by a pattern stands for what was there. Loops and functions, as functions of their data. Loops over functions, as functions of their data. Calls that are lent blocks of the caller's heap: the rest stays as it is. Contracts of functions that write blocks of their caller, or hand back new ones. Recursion. The way in and out: a law's contract over data is its row's. Plain laws on tests, needs and rounds. Twins that can be reckoned: what they come to, the functions come to. What is computed, as a tree: read as a function (classically), or reckoned. Code with its loops as functions, out of the program's own: no text of it is needed. A loop whose number of rounds is known is gone through round by round. Strings out of their bytes; what is said of them, of maps and of clearing, plainly. -/
import Derived.Test.YtilhpkaklpdblaaGreatAMc
import Derived.OpenShut
import Derived.Handed
import Derived.JoinedOf
import Derived.Carry
set_option linter.unusedSectionVars false
set_option linter.unusedVariables false
set_option linter.unusedSimpArgs false
section
namespace Go.AM
section
variable {π:List Nat}
theorem qi : ∀ (π : List Nat) (b : Nat), wK π b = π[b]?
 |[],_=>by simp [wK]
 |i::r,0=>by simp [wK]
 |i::r,n+1=>by simp [wK,qi r n]
theorem lX {b i:Nat} (h:AD π b i=true):π[b]?=some i:=by
 unfold AD at h
 split at h
 ·rename_i j e;rw [<-qi,e,Nat.eq_of_beq_eq_true h]
 ·cases h
theorem EA.append {as bs cs ds:List V} (h:EA π as bs) (h':EA π cs ds):EA π (as++cs) (bs++ds):=by
 induction as generalizing bs with
 |nil =>
  have:bs=[]:=List.eq_nil_of_length_eq_zero h.1.symm
  subst this;simpa using h'
 |cons a as ih =>
  cases bs with
  |nil=>exact absurd h.1 (by simp)
  |cons b bs=>exact .cons (h.2 0 a b rfl rfl) (ih ⟨by have:=h.1;simpa using this,fun i v u hv hu=>h.2 (i+1) v u (by simpa using hv) (by simpa using hu)⟩)
theorem Fy {t t':Ty} {xs:List t.den} {ys:List t'.den} (h:kD t t' xs=some ys):V.fM t' ys=V.fM t xs:=by
 obtain ⟨e,he⟩:=eM h
 subst e;subst he;rfl
theorem Fz {g:Bool} {v:V} {ds cs:List V} (h:Cm g v=some cs) (ag:EA π ds cs):EV π (cG.jc g ds) v:=by
 cases g with
 |true =>
  cases v<;>simp [Cm] at h
  subst h
  exact .agg _ _ ag.1 ag.2
 |false =>
  have:cs=[v]:=by cases v<;>simp_all [Cm,V.cells?]
  subst this
  match ds,ag with
  |[w],ag=>exact ag.2 0 w v rfl rfl
  |[],ag=>exact absurd ag.1 (by simp)
  |_::_::_,ag=>exact absurd ag.1 (by simp)
theorem qj {ar : Ar} : ∀ {t : Ty} {vs : List V} {x : t.den} {u : eZ} {r : List V}, bw ar [] t vs = some (x, u, r) → ∃ us, vs = us ++ r ∧ EA π (cG t x) us
 | .unit,vs,x,u,r,h=>by
  simp [bw] at h;obtain ⟨_,_,rfl⟩:=h;exact ⟨[],rfl,.nil⟩
 | .bool,vs,x,u,r,h=>by
  rcases vs with _|⟨v,r'⟩
  ·simp [bw] at h
  ·cases v <;> simp [bw] at h
   ·obtain ⟨rfl,_,rfl⟩:=h;exact ⟨[_],rfl,.cons (.tfb _) .nil⟩
   ·obtain ⟨rfl,_,rfl⟩:=h;exact ⟨[_],rfl,.cons (.bool _) .nil⟩
 | .str,vs,x,u,r,h=>by
  rcases vs with _|⟨v,r'⟩
  ·simp [bw] at h
  ·cases v <;> simp [bw] at h
   obtain ⟨rfl,_,rfl⟩:=h;exact ⟨[_],rfl,.cons (.str _) .nil⟩
 | .int k,vs,x,u,r,h=>by
  rcases vs with _|⟨v,r'⟩
  ·simp [bw] at h
  ·cases v <;> simp [bw] at h
   obtain ⟨rfl,rfl,_,rfl⟩:=h;exact ⟨[_],rfl,.cons (.int _ _) .nil⟩
 | .list t,vs,x,u,r,h=>by
  rcases vs with _|⟨v,r'⟩
  ·simp [bw] at h
  ·cases v <;> simp only [bw] at h <;> try (cases h; done)
   ·split at h <;> try (cases h; done)
    rename_i hc
    cases h
    exact ⟨[_],rfl,.cons (by rw [Fy hc];exact .fM _ _) .nil⟩
   ·cases h;exact ⟨[.cw],rfl,.cons (.ZY _) .nil⟩
 | .prod a b,vs,x,u,r,h=>by
  simp only [bw] at h
  split at h<;>try (cases h;done)
  rename_i x1 u1 r1 h1
  split at h<;>try (cases h;done)
  rename_i y1 u2 r2 h2
  cases h
  obtain ⟨us,rfl,e1⟩:=qj h1
  obtain ⟨Zu,rfl,e2⟩:=qj h2
  exact ⟨us++Zu,by simp,e1.append e2⟩
 | .cL d g t,vs,x,u,r,h=>by
  cases vs with
  |nil=>simp [bw] at h
  |cons v vs =>
   cases v<;>simp only [bw] at h<;>try (cases h;done)
   rename_i d' v'
   split at h<;>try (cases h;done)
   rename_i e;subst e
   split at h<;>try (cases h;done)
   rename_i cs hun
   split at h<;>try (cases h;done)
   rename_i x0 ho
   cases h
   obtain ⟨us,e1,ag⟩:=qj ho
   rw [List.append_nil] at e1
   exact ⟨[.cL d v'],rfl,.cons (.cL _ _ _ (Fz hun (by rw [e1];exact ag))) .nil⟩
theorem T8 : ∀ {t : Ty} {v : V} {x : t.den}, C2 t v = some x → EV π (tyV t x) v
 | .unit,v,x,h=>by simp [C2] at h
 | .bool,v,x,h=>by
  cases v<;>simp [C2] at h
  ·subst h;exact .tfb _
  ·subst h;exact .bool _
 | .str,v,x,h=>by
  cases v<;>simp [C2] at h
  subst h;exact .str _
 | .int k,v,x,h=>by
  cases v<;>simp only [C2] at h<;>try (cases h;done)
  split at h<;>try (cases h;done)
  rename_i hk
  cases h
  have:=of_decide_eq_true hk
  subst this;exact .int _ _
 | .list t,v,x,h=>by
  cases v<;>simp only [C2] at h<;>try (cases h;done)
  ·show EV π (.fM t x) _
   rw [Fy h];exact .fM _ _
  ·cases h;exact .ZY _
 | .prod a b,v,x,h=>by
  cases v<;>simp only [C2] at h<;>try (cases h;done)
  split at h<;>try (cases h;done)
  rename_i hc
  cases h
  obtain ⟨us,e,ag⟩:=qj (π:=π) hc
  rw [List.append_nil] at e
  subst e
  exact .agg _ _ ag.1 ag.2
 | .cL d g t,v,x,h=>by
  simp only [C2] at h
  split at h<;>try (cases h;done)
  rename_i hc
  cases h
  obtain ⟨us,e,ag⟩:=qj (π:=π) hc
  rw [List.append_nil] at e
  subst e
  exact ag.2 0 _ _ rfl rfl
variable {A:Type}
theorem CP.aad {c:CP} {v:V} {f:A->c.T A} (h:c.rd1 π v=some f) (a:A):EA π (c.vs (f a)) [v]/\c.r (f a)=a:=by
 cases c<;>simp only [CP.rd1] at h
 case any=>cases h;exact ⟨.cons (.any _) .nil,rfl⟩
 case tf b =>
  split at h<;>try (cases h;done)
  split at h<;>try (cases h;done)
  rename_i hb
  cases h
  rw [<-eS hb]
  exact ⟨.cons (.tf _) .nil,rfl⟩
 case ga=>split at h<;>cases h;exact ⟨.cons (.ga) .nil,rfl⟩
 case cW=>split at h<;>cases h;exact ⟨.cons (.cW) .nil,rfl⟩
 case gn=>split at h<;>cases h;exact ⟨.cons (.gn) .nil,rfl⟩
 case cw=>split at h<;>cases h;exact ⟨.cons (.cw) .nil,rfl⟩
 case hole t =>
  split at h<;>cases h
  rename_i hx
  exact ⟨.cons (T8 hx) .nil,rfl⟩
 case bO b t =>
  split at h<;>try (cases h;done)
  ·rename_i i t' lo n
   split at h<;>try (cases h;done)
   rename_i h1
   split at h<;>try (cases h;done)
   rename_i h2
   split at h<;>try (cases h;done)
   rename_i h3
   cases h
   have e:=Nat.eq_of_beq_eq_true h3
   rw [lW h2,e]
   exact ⟨.cons (.sl _ _ _ _ _ (lX h1)) .nil,rfl⟩
  ·cases h;exact ⟨.cons (.ZZ _ _ _) .nil,rfl⟩
 case nT b t =>
  split at h<;>try (cases h;done)
  ·rename_i i t' lo n
   split at h<;>try (cases h;done)
   rename_i h1
   split at h<;>try (cases h;done)
   rename_i h2
   cases h
   rw [lW h2]
   exact ⟨.cons (.sl _ _ _ _ _ (lX h1)) .nil,rfl⟩
  ·cases h;exact ⟨.cons (.ZZ _ _ _) .nil,rfl⟩
 case ptr b off =>
  split at h<;>try (cases h;done)
  split at h<;>try (cases h;done)
  rename_i h1
  split at h<;>try (cases h;done)
  rename_i h2
  cases h
  rw [Nat.eq_of_beq_eq_true h2]
  exact ⟨.cons (.ptr _ _ _ (lX h1)) .nil,rfl⟩
 case yl b =>
  split at h<;>try (cases h;done)
  split at h<;>try (cases h;done)
  rename_i h1
  cases h
  exact ⟨.cons (.yl _ _ (lX h1)) .nil,rfl⟩
 case fe t =>
  split at h<;>try (cases h;done)
  split at h<;>try (cases h;done)
  rename_i hc
  cases h
  obtain ⟨us,e,ag⟩:=qj (π:=π) hc
  rw [List.append_nil] at e
  subst e
  exact ⟨.cons (.fe _ _ ag.1 ag.2) .nil,rfl⟩
 case mp b =>
  split at h<;>try (cases h;done)
  split at h<;>try (cases h;done)
  rename_i h1
  cases h
  exact ⟨.cons (.mp _ _ (lX h1)) .nil,rfl⟩
 case cT=>split at h<;>cases h;exact ⟨.cons (.cT) .nil,rfl⟩
 case pa b t n =>
  split at h<;>try (cases h;done)
  split at h<;>try (cases h;done)
  rename_i h1
  split at h<;>try (cases h;done)
  rename_i h2
  split at h<;>try (cases h;done)
  rename_i h3
  cases h
  rw [lW h2,Nat.eq_of_beq_eq_true h3]
  exact ⟨.cons (.pa _ _ _ _ (lX h1)) .nil,rfl⟩
 case mG t =>
  split at h<;>try (cases h;done)
  split at h<;>try (cases h;done)
  rename_i ys hc
  cases h
  obtain ⟨e,he⟩:=eM hc
  subst e;subst he
  exact ⟨.cons (.mG _ _) .nil,rfl⟩
 case Fu=>cases h
 case fn0 f' =>
  split at h<;>try (cases h;done)
  split at h<;>try (cases h;done)
  rename_i h1
  cases h
  rw [Nat.eq_of_beq_eq_true h1]
  exact ⟨.cons (.fn _ _ _ _ _ rfl (fun i v u hv=>by simp at hv) rfl (fun i v u hv=>by simp at hv)) .nil,rfl⟩
 case Iq=>cases h
 case MG=>cases h
 case fn=>cases h
 case nil=>cases h
 case cons=>cases h
theorem CP.aae:∀{c:CP} {A:Type} {vs r:List V} {f:A->c.T A},c.HA π vs=some (f,r)->∃us,vs=us++r/\∀a,EA π (c.vs (f a)) us/\c.r (f a)=a:=by
 intro c
 induction c with
 |nil=>intro A vs r f h;simp only [CP.HA] at h;cases h;exact ⟨[],rfl,fun a=>⟨.nil,rfl⟩⟩
 |cons c l ihc ihl =>
  intro A vs r f h
  simp only [CP.HA] at h
  split at h<;>try (cases h;done)
  rename_i f1 vs' h1
  split at h<;>try (cases h;done)
  rename_i g vs'' h2
  cases h
  obtain ⟨us,rfl,e1⟩:=ihc h1
  obtain ⟨Zu,rfl,e2⟩:=ihl h2
  refine ⟨us++Zu,by simp,fun a=>?_⟩
  obtain ⟨q1,q2⟩:=e1 (g a)
  obtain ⟨q3,q4⟩:=e2 a
  simp only [CP.vs,CP.r,q2]
  exact ⟨q1.append q3,q4⟩
 |Iq l ih =>
  intro A vs r f h
  simp only [CP.HA] at h
  split at h<;>try (cases h;done)
  rename_i cs r'
  split at h<;>try (cases h;done)
  rename_i f1 h1
  cases h
  obtain ⟨us,e,e1⟩:=ih h1
  rw [List.append_nil] at e
  subst e
  refine ⟨[.fe cs],rfl,fun a=>?_⟩
  obtain ⟨q1,q2⟩:=e1 a
  exact ⟨.cons (.fe _ _ q1.1 q1.2) .nil,q2⟩
 |MG l ih =>
  intro A vs r f h
  simp only [CP.HA] at h
  split at h<;>try (cases h;done)
  rename_i cs r'
  split at h<;>try (cases h;done)
  rename_i f1 h1
  cases h
  obtain ⟨us,e,e1⟩:=ih h1
  rw [List.append_nil] at e
  subst e
  refine ⟨[.agg cs],rfl,fun a=>?_⟩
  obtain ⟨q1,q2⟩:=e1 a
  exact ⟨.cons (.agg _ _ q1.1 q1.2) .nil,q2⟩
 |Fu t g l ih =>
  intro A vs r f h
  simp only [CP.HA] at h
  split at h<;>try (cases h;done)
  rename_i t' v r'
  split at h<;>try (cases h;done)
  rename_i ht
  split at h<;>try (cases h;done)
  rename_i cs hun
  split at h<;>try (cases h;done)
  rename_i f1 h1
  cases h
  obtain ⟨us,e,e1⟩:=ih h1
  rw [List.append_nil] at e
  subst e
  have e0:=Nat.eq_of_beq_eq_true ht
  subst e0
  refine ⟨[.cL t' v],rfl,fun a=>?_⟩
  obtain ⟨q1,q2⟩:=e1 a
  exact ⟨.cons (.cL _ _ _ (Fz hun q1)) .nil,q2⟩
 |fn f0 a b Ip Hz =>
  intro A vs r f h
  simp only [CP.HA] at h
  split at h<;>try (cases h;done)
  rename_i f' va vb r'
  split at h<;>try (cases h;done)
  rename_i hf
  split at h<;>try (cases h;done)
  rename_i g hg
  split at h<;>try (cases h;done)
  rename_i k hk
  cases h
  obtain ⟨us,e,e1⟩:=Ip hg
  rw [List.append_nil] at e
  subst e
  obtain ⟨Zu,e',e2⟩:=Hz hk
  rw [List.append_nil] at e'
  subst e'
  have e0:=Nat.eq_of_beq_eq_true hf
  subst e0
  refine ⟨[.fn f' va vb],rfl,fun x=>?_⟩
  obtain ⟨q1,q2⟩:=e1 (k x)
  obtain ⟨q3,q4⟩:=e2 x
  simp only [CP.vs,CP.r,q2]
  exact ⟨.cons (.fn _ _ _ _ _ q1.1 q1.2 q3.1 q3.2) .nil,q4⟩
 |_ =>
  intro A vs r f h
  simp only [CP.HA] at h
  split at h<;>try (cases h;done)
  rename_i v r'
  split at h<;>try (cases h;done)
  rename_i f1 h1
  cases h
  exact ⟨[v],rfl,fun a=>CP.aad h1 a⟩
theorem CP.ta {c:CP} {v:V} {f:A->c.T A} (h:c.rd π v=some f) (a:A):EV π (c.v (f a)) v/\c.r (f a)=a:=by
 unfold CP.rd at h
 split at h<;>try (cases h;done)
 rename_i f1 h1
 cases h
 obtain ⟨us,e,e1⟩:=CP.aae h1
 rw [List.append_nil] at e
 subst e
 obtain ⟨q1,q2⟩:=e1 a
 refine ⟨?_,q2⟩
 unfold CP.v
 have hl:=q1.1
 cases hc:c.vs (f a) with
 |nil=>rw [hc] at hl;simp at hl
 |cons u r=>exact q1.2 0 u v (by rw [hc];rfl) rfl
theorem jo : ∀ {cs : List CP} {vs : List V} {f : A → mY cs A}, fZ π cs vs = some f → ∀ a, EA π (rP cs (f a)) vs ∧ sY cs (f a) = a
 |[],[],f,h,a=>by cases h;exact ⟨.nil,rfl⟩
 |c::r,v::vs,f,h,a=>by
  simp only [fZ] at h
  split at h<;>try (cases h;done)
  rename_i f1 h1
  split at h<;>cases h
  rename_i g h2
  obtain ⟨q1,q2⟩:=CP.ta h1 (g a)
  obtain ⟨q3,q4⟩:=jo h2 a
  simp only [rP,sY,q2]
  exact ⟨.cons q1 q3,q4⟩
 |[],_::_,f,h,a=>by simp [fZ] at h
 |_::_,[],f,h,a=>by simp [fZ] at h
theorem SP.ta : ∀ {p : SP} {v : V} {f : A → p.T A}, p.rd π v = some f → ∀ (a : A), EV π (p.v (f a)) v ∧ p.r (f a) = a
 | .c q,v,f,h,a=>CP.ta (c:=q) h a
 | .agg cs,v,f,h,a=>by
  cases v<;>try (cases h;done)
  rename_i vs
  have h':fZ π cs vs=some f:=h
  obtain ⟨h1,h2⟩:=jo h' a
  exact ⟨.agg _ _ h1.1 h1.2,h2⟩
 | .dc cs,v,f,h,a=>by
  cases v<;>try (cases h;done)
  rename_i vs
  have h':fZ π cs vs=some f:=h
  obtain ⟨h1,h2⟩:=jo h' a
  exact ⟨.dc _ _ h1.1 h1.2,h2⟩
 | .fn f' x y,v,f,h,a=>by
  cases v with
  |fn f2 va vb =>
   have h':(match Nat.beq f2 f' with
    |true=>match fZ (A:=mY y A) π x va with
     |some g=>match fZ (A:=A) π y vb with
      |some h=>some fun z=>g (h z)
      |none=>none
     |none=>none
    |false=>none)=some f:=h
   clear h
   cases hf:Nat.beq f2 f' with
   |false=>rw [hf] at h';cases h'
   |true =>
    rw [hf] at h'
    simp only at h'
    cases hg:fZ (A:=mY y A) π x va with
    |none=>rw [hg] at h';cases h'
    |some g =>
     rw [hg] at h'
     simp only at h'
     cases hk:fZ (A:=A) π y vb with
     |none=>rw [hk] at h';cases h'
     |some k =>
      rw [hk] at h'
      have h2:(fun z=>g (k z))=f:=Option.some.inj h'
      obtain ⟨q1,q2⟩:=jo hg (k a)
      obtain ⟨q3,q4⟩:=jo hk a
      have e:=Nat.eq_of_beq_eq_true hf
      subst e
      have e2:SP.v (A:=A) (.fn f2 x y) (g (k a)) = .fn f2 (rP x (g (k a))) (rP y (k a)):=by
       show V.fn f2 _ (rP y (sY x (g (k a))))=_
       rw [q2]
      have e3:SP.r (A:=A) (.fn f2 x y) (g (k a))=a:=by
       show sY y (sY x (g (k a)))=a
       rw [q2,q4]
      have e4:f a=g (k a):=by rw [<-h2]
      rw [e4]
      exact ⟨by rw [e2];exact .fn _ _ _ _ _ q1.1 q1.2 q3.1 q3.2,e3⟩
  |_=>cases h
 | .alt x y,v,f,h,a=>by
  cases v with
  |dc vs =>
   have h':(match fZ (A:=A) π x vs with
    |some f=>some fun z=>(Sum.inl (f z):mY x A ⊕ mY y A)
    |none=>match fZ (A:=A) π y vs with
     |some f=>some fun z=>Sum.inr (f z)
     |none=>none)=some f:=h
   clear h
   cases hx:fZ (A:=A) π x vs with
   |some g =>
    rw [hx] at h'
    have h2:=Option.some.inj h'
    subst h2
    obtain ⟨h1,h2⟩:=jo hx a
    exact ⟨.dc _ _ h1.1 h1.2,h2⟩
   |none =>
    rw [hx] at h'
    simp only at h'
    cases hy:fZ (A:=A) π y vs with
    |none=>rw [hy] at h';cases h'
    |some g =>
     rw [hy] at h'
     have h2:=Option.some.inj h'
     subst h2
     obtain ⟨h1,h2⟩:=jo hy a
     exact ⟨.dc _ _ h1.1 h1.2,h2⟩
  |_=>cases h
theorem tc {env : Env} : ∀ {ps : List (Nat × SP)} {f : A → AB ps A}, Bz π env ps = some f → ∀ a, EE π (yM ps (f a)) env ∧ PJ ps (f a) = a
 |[],f,h,a=>by cases h;exact ⟨fun p hp=>by simp [yM] at hp,rfl⟩
 |(s,p)::r,f,h,a=>by
  simp only [Bz] at h
  split at h<;>try (cases h;done)
  rename_i f1 h1
  split at h<;>cases h
  rename_i g h2
  obtain ⟨q1,q2⟩:=SP.ta h1 (g a)
  obtain ⟨q3,q4⟩:=tc h2 a
  simp only [yM,PJ,q2]
  refine ⟨fun x hx=>?_,q4⟩
  rcases List.mem_cons.1 hx with rfl|hx
  ·exact q1
  ·exact q3 x hx
def PZ : rz → rz → Bool
 | .ready,.ready=>true
 | .busy,.busy=>true
 | .done,.done=>true
 | .exhausted,.exhausted=>true
 |_,_=>false
theorem P0 {a b:rz} (h:PZ a b=true):a=b:=by cases a<;>cases b<;>simp_all [PZ]
def aaf : Option Ex → Option Ex → Bool
 |none,none=>true
 |some .normal,some .normal=>true
 |some (.exit a),some (.exit b)=>Nat.beq a b
 |some .ret,some .ret=>true
 |_,_=>false
theorem T9 {a b:Option Ex} (h:aaf a b=true):a=b:=by
 rcases a with _|(_|_|_)<;>rcases b with _|(_|_|_)<;>simp only [aaf,Bool.false_eq_true] at h<;>try rfl
 rw [Nat.eq_of_beq_eq_true h]
def BP.rd (π:List Nat) (nx:Nat) (bl:ah) (id:Nat) (p:BP):Option (A->p.T A) :=
 match wK π id with
 |none=>none
 |some i=>match p with
  | .arr t fz=>match av i bl with
   |some (.arr t' xs fz')=>match kD t' t xs with
    |some ys=>match mC fz' fz with
     |true=>some fun a=>(ys,a)
     |false=>none
    |none=>none
   |none=>match Nat.ble nx i with
    |true=>some fun a=>(([]:List t.den),a)
    |false=>none
   |_=>none
  | .cells cs fz=>match av i bl with
   |some (.cells vs fz')=>match mC fz' fz with
    |true=>fZ π cs vs
    |false=>none
   |_=>none
  | .loop st j d env ps as bd N=>match av i bl with
   |some (.loop st' j' d' env' ps' as' TK N')=>match an (PZ st' st) (an (aaf j' j)<|an (AD π d d') (an (Fw ps' ps) (an (Nat.beq N' N) (an (jy as' as) (jy TK bd))))) with
    |true=>Bz π env' env
    |false=>none
   |_=>none
  | .iy=>match av i bl with
   |some .iy=>some fun a=>a
   |_=>none
  | .map kt kg vt vg=>match av i bl with
   |some (.map Od XG Oe Tc es)=>match an (mC XG kg) (mC Tc vg) with
    |true=>match Jv Od Oe kt vt es with
     |some fs=>some fun a=>(fs,a)
     |none=>none
    |false=>none
   |_=>none
  | .ov t k q c=>match av i bl with
   |some (.ov t' xs k' q' v)=>match an (Nat.beq k' k) (PT q' q) with
    |true=>match kD t' t xs with
     |some ys=>match CP.rd π c v with
      |some f=>some fun a=>(ys,f a)
      |none=>none
     |none=>none
    |false=>none
   |_=>none
theorem BP.ta {nx:Nat} {bl:ah} {id:Nat} {p:BP} {f:A->p.T A} (h:p.rd π nx bl id=some f) (a:A):EBk π nx bl id (p.v (f a))/\p.r (f a)=a:=by
 unfold BP.rd at h
 split at h
 ·cases h
 ·rename_i i hi
  rw [qi] at hi
  cases p<;>simp only at h
  case arr t fz =>
   split at h
   ·rename_i t' xs fz' hb
    split at h<;>try (cases h;done)
    rename_i ys hc
    split at h<;>cases h
    rename_i hfz
    refine ⟨⟨i,hi,.inl ?_⟩,rfl⟩
    obtain ⟨e,he⟩:=eM hc
    subst e;subst he
    rw [hb,eS hfz]
   ·rename_i hb
    split at h<;>cases h
    rename_i hle
    exact ⟨⟨i,hi,.inr ⟨rfl,Nat.le_of_ble_eq_true hle⟩⟩,rfl⟩
   ·cases h
  case cells cs fz =>
   split at h<;>try (cases h;done)
   rename_i vs fz' hb
   split at h<;>try (cases h;done)
   rename_i hfz
   obtain ⟨h1,h2⟩:=jo h a
   refine ⟨⟨i,hi,vs,?_,h1⟩,h2⟩
   rw [hb,eS hfz]
  case loop st j d env ps as bd N =>
   split at h<;>try (cases h;done)
   rename_i st' j' d' env' ps' as' TK N' hb
   split at h<;>try (cases h;done)
   rename_i hc
   simp only [aS] at hc
   obtain ⟨c1,cj,c2,c3,c4,c5,c6⟩:=hc
   obtain ⟨h1,h2⟩:=tc h a
   refine ⟨⟨i,hi,d',env',?_,lX c2,h1⟩,h2⟩
   rw [hb,P0 c1,T9 cj,sZ c3,Nat.eq_of_beq_eq_true c4,w9 c5,w9 c6]
  case iy =>
   split at h<;>cases h
   rename_i hb
   exact ⟨⟨i,hi,hb⟩,rfl⟩
  case map kt kg vt vg =>
   split at h<;>try (cases h;done)
   rename_i Od XG Oe Tc es hb
   split at h<;>try (cases h;done)
   rename_i hg
   split at h<;>try (cases h;done)
   rename_i fs hc
   cases h
   simp only [aS] at hg
   rw [eS hg.1,eS hg.2] at hb
   unfold Jv at hc
   split at hc<;>try (cases hc;done)
   rename_i he
   obtain ⟨rfl,rfl⟩:=he
   cases hc
   exact ⟨⟨i,hi,hb⟩,rfl⟩
  case ov t k q c =>
   split at h<;>try (cases h;done)
   rename_i t' xs k' q' v hb
   split at h<;>try (cases h;done)
   rename_i hc
   simp only [aS] at hc
   split at h<;>try (cases h;done)
   rename_i ys hy
   split at h<;>try (cases h;done)
   rename_i f' hf
   cases h
   obtain ⟨e,he⟩:=eM hy
   subst e;subst he
   obtain ⟨h1,h2⟩:=CP.ta hf a
   refine ⟨⟨i,hi,v,?_,h1⟩,h2⟩
   rw [hb,Nat.eq_of_beq_eq_true hc.1,Fv hc.2]
def P3 (π : List Nat) (nx : Nat) (bl : ah) : (ps : List (Nat × BP)) → Option (A → T3 ps A)
 |[]=>some fun a=>a
 |(id,p)::r=>match BP.rd (A:=T3 r A) π nx bl id p with
  |some f=>match P3 π nx bl r with
   |some g=>some fun a=>f (g a)
   |none=>none
  |none=>none
theorem C4 {nx : Nat} {bl : ah} : ∀ {ps : List (Nat × BP)} {f : A → T3 ps A}, P3 π nx bl ps = some f → ∀ a, (∀ p ∈ SY ps (f a), EBk π nx bl p.1 p.2) ∧ (SY ps (f a)).map (·.1) = ps.map (·.1)
 |[],f,h,a=>by cases h;exact ⟨fun p hp=>by simp [SY] at hp,rfl⟩
 |(s,p)::r,f,h,a=>by
  simp only [P3] at h
  split at h<;>try (cases h;done)
  rename_i f1 h1
  split at h<;>cases h
  rename_i g h2
  obtain ⟨q1,q2⟩:=BP.ta h1 (g a)
  obtain ⟨q3,q4⟩:=C4 h2 a
  simp only [SY,q2]
  refine ⟨fun x hx=>?_,by simp [q4]⟩
  rcases List.mem_cons.1 hx with rfl|hx
  ·exact q1
  ·exact q3 x hx
def MJ (nx b : Nat) : V → Option Nat
 | .sl i _ _ _=>some i
 | .ptr i _=>some i
 | .yl i=>some i
 | .mp i=>some i
 | .pa i _ _=>some i
 | .ep i _ _ _=>some i
 | .cw=>some (nx+b)
 | .cL _ (.ptr i _)=>some i
 |_=>none
def P4 : List V → Nat → Option V
 |[],_=>none
 |v::_,0=>some v
 |_::r,n+1=>P4 r n
def aag (π : List Nat) (env : Env) (nx : Nat) (bl : ah) (ms : List Nat) (b : Nat) : Lc → Option Nat
 | .slot s=>MJ nx b (get s env)
 | .part s k=>match get s env with
  | .agg cs=>match P4 cs k with
   |some v=>MJ nx b v
   |none=>none
  | .fn _ a c=>match P4 (a++c) k with
   |some v=>MJ nx b v
   |none=>none
  | .dc cs=>match P4 cs k with
   |some v=>MJ nx b v
   |none=>none
  |_=>none
 | .cell b' k=>match wK π b' with
  |some i=>match av i bl with
   |some (.cells cs _)=>match P4 cs k with
    |some v=>MJ nx b v
    |none=>none
   |some (.ov _ _ _ _ v)=>MJ nx b v
   |_=>none
  |none=>none
 | .old i=>some i
 | .mark j=>wK ms j
def snoc {R : Type} : List Nat → Nat → (List Nat → R) → R
 |[],i,k=>k [i]
 |j::r,i,k=>snoc r i fun r'=>k (j::r')
theorem C5 {R : Type} : ∀ (l : List Nat) (i : Nat) (k : List Nat → R), snoc l i k = k (l ++ [i])
 |[],_,_=>rfl
 |j::r,i,k=>by simp only [snoc,C5 r];rfl
def tg {R : Type} (no : R) (env : Env) (nx : Nat) (bl : ah) (ms : List Nat) : List Lc → List Nat → Nat → (List Nat → R) → R
 |[],π,_,k=>k π
 |l::r,π,b,k=>match aag π env nx bl ms b l with
  |some i=>fN i fun i=>snoc π i fun π=>fN (b+1) fun b=>tg no env nx bl ms r π b k
  |none=>no
theorem yQ {X:Type} {no:Option X} {env:Env} {nx:Nat} {bl:ah} {ms:List Nat}:∀{ls:List Lc} {π:List Nat} {b:Nat} {k:List Nat->Option X} {x:X},tg no env nx bl ms ls π b k=some x ->
  no=some x\/∃r,r.length=ls.length/\k (π++r)=some x
 |[],π,b,k,x,h=>.inr ⟨[],rfl,by simpa [tg] using h⟩
 |l::ls,π,b,k,x,h=>by
  simp only [tg] at h
  split at h
  ·rename_i i hi
   rw [gP,C5,gP] at h
   rcases yQ h with h|⟨r,h1,h2⟩
   ·exact .inl h
   ·exact .inr ⟨i::r,by simp [h1],by simpa using h2⟩
  ·exact .inl h
def P5 (π:List Nat) (a b:Nat):Bool:=match wK π a with
 |some i=>match wK π b with
  |some j=>match Nat.beq i j with
   |true=>false
   |false=>true
  |none=>false
 |none=>false
def C6 (π : List Nat) (a : Nat) : List (Nat × BP) → Bool
 |[]=>true
 |(b,_)::r=>match P5 π a b with
  |true=>C6 π a r
  |false=>false
def yR (π : List Nat) : List (Nat × BP) → Bool
 |[]=>true
 |(a,_)::r=>match C6 π a r with
  |true=>yR π r
  |false=>false
theorem P6 {a b:Nat} (h:P5 π a b=true):π[a]?≠π[b]?:=by
 unfold P5 at h
 split at h<;>try (cases h;done)
 rename_i i hi
 split at h<;>try (cases h;done)
 rename_i j hj
 split at h<;>try (cases h;done)
 rename_i hij
 rw [<-qi,<-qi,hi,hj]
 intro e;cases e
 rw [Nat.beq_refl] at hij;cases hij
theorem uV {a : Nat} : ∀ {r : List (Nat × BP)}, C6 π a r = true → ∀ b ∈ r.map (·.1), π[a]? ≠ π[b]?
 |[],_,b,hb=>by simp at hb
 |(c,_)::r,h,b,hb=>by
  simp only [C6] at h
  split at h<;>try (cases h;done)
  rename_i hd
  simp only [List.map_cons,List.mem_cons] at hb
  rcases hb with rfl|hb
  ·exact P6 hd
  ·exact uV h b hb
theorem yS : ∀ {r : List (Nat × BP)}, yR π r = true → ∀ a ∈ r.map (·.1), ∀ b ∈ r.map (·.1), π[a]? = π[b]? → a = b
 |[],_,a,ha=>by simp at ha
 |(c,_)::r,h,a,ha=>by
  simp only [yR] at h
  split at h<;>try (cases h;done)
  rename_i hd
  intro b hb e
  simp only [List.map_cons,List.mem_cons] at ha hb
  rcases ha with rfl|ha<;>rcases hb with rfl|hb
  ·rfl
  ·exact absurd e (uV hd b hb)
  ·exact absurd e.symm (uV hd a ha)
  ·exact yS h a ha b hb e
def MK (π : List Nat) : List Nat → List Nat → Bool
 |[],[]=>true
 |a::r,i::s=>match AD π a i with
  |true=>MK π r s
  |false=>false
 |_,_=>false
theorem Ke : ∀ {ps ms : List Nat}, MK π ps ms = true → ps.map (fun i => π[i]?) = ms.map some
 |[],[],_=>rfl
 |a::r,i::s,h=>by
  simp only [MK] at h
  split at h<;>try (cases h;done)
  rename_i ha
  simp [lX ha,Ke h]
 |[],_::_,h=>by simp [MK] at h
 |_::_,[],h=>by simp [MK] at h
def au.rd {R:Type} (no:R) (pre:List Nat) (base:Nat) (p:au) (env:Env) (nx:Nat) (bl:ah) (ms:List Nat) (k:p.T->R):R :=
 tg no env nx bl ms p.iA pre base fun π=>match an (MK π p.ms ms) (yR π p.bl) with
  |true=>match Bz (A:=T3 p.bl Unit) π env p.env with
   |some f=>match P3 (A:=Unit) π nx bl p.bl with
    |some g=>k (f (g ()))
    |none=>no
   |none=>no
  |false=>no
theorem au.Kf {X:Type} {no:Option X} {base:Nat} {p:au} {env:Env} {nx:Nat} {bl:ah} {ms:List Nat} {k:p.T->Option X} {r:X} (h:p.rd no (List.range base) base env nx bl ms k=some r) :
  no=some r\/∃x π,k x=some r/\jw base π ⟨env,⟨nx,bl⟩,ms⟩ (p.st base x):=by
 rcases yQ h with h|⟨rr,hlen,h⟩
 ·exact .inl h
 split at h
 ·rename_i hc
  rw [aS] at hc
  split at h
  ·rename_i f hf
   split at h
   ·rename_i g hg
    obtain ⟨h1,h2⟩:=tc hf (g ())
    obtain ⟨h3,h4⟩:=C4 hg ()
    refine .inr ⟨f (g ()),List.range base++rr,h,?_⟩
    constructor
    ·simp
    ·simp [au.st,hlen]
    ·exact Ke hc.1
    ·exact h1
    ·simp only [au.st,au.B,h2];exact h3
    ·simp only [au.st, au.B, h2]
     intro q hq s hs e
     refine yS hc.2 q.1 ?_ s.1 ?_ e
     ·rw [<-h4];exact List.mem_map_of_mem hq
     ·rw [<-h4];exact List.mem_map_of_mem hs
   ·exact .inl h
  ·exact .inl h
 ·exact .inl h
theorem au.dR {X:Type} {base:Nat} {p:au} {env:Env} {nx:Nat} {bl:ah} {ms:List Nat} {k:p.T->Option X} {r:X} (h:p.rd none (List.range base) base env nx bl ms k=some r) :
  ∃x π,k x=some r/\jw base π ⟨env,⟨nx,bl⟩,ms⟩ (p.st base x):=by
 rcases au.Kf h with h|h
 ·cases h
 ·exact h
end
end Go.AM
end
section
namespace Go.AM
@[reducible] def dV (k:IntKind) (z:Int):Bool:=k.min<=z&&z<=k.max
@[reducible] def eA (i n:Int):Bool:=decide (0<=i/\i<n)
@[reducible] def uo (a b:Int):Int:=if b<a then b else a
@[reducible] def imax (a b:Int):Int:=if b > a then b else a
@[reducible] def seq (a b:ByteArray):Bool:=a.toList==b.toList
@[reducible] def slt (a b:ByteArray):Bool:=Op.bytesLess a.toList b.toList
@[reducible] def HI (c a b:Bool):Bool:=if c then a else b
def ML : Ex → Ex → Bool
 | .normal,.normal=>true
 | .exit a,.exit b=>Nat.beq a b
 | .ret,.ret=>true
 |_,_=>false
theorem Kg {a b:Ex} (h:ML a b=true):a=b:=by
 cases a<;>cases b<;>simp only [ML,Bool.false_eq_true] at h<;>try rfl
 rw [Nat.eq_of_beq_eq_true h]
abbrev aT:=List (Ex×au)
def aT.T : aT → Type
 |[]=>Empty
 |[(_,p)]=>p.T
 |(_,p)::q::r=>p.T ⊕ aT.T (q::r)
def aT.st (base : Nat) : (xs : aT) → xs.T → Ex × St
 |[],x=>nomatch x
 |[(e,p)],x=>(e,p.st base x)
 |(_,_)::q::r,.inr y=>aT.st base (q::r) y
 |(e,p)::_::_,.inl x=>(e,p.st base x)
section
variable {R:Type}
def Ua : List V → (List V → R) → R
 |[],k=>k []
 |v::r,k=>fV v fun v=>Ua r fun r=>k (v::r)
theorem nU : ∀ (l : List V) (k : List V → R), Ua l k = k l
 |[],k=>rfl
 |v::r,k=>by simp only [Ua,ow,nU r]
def MM : Env → (Env → R) → R
 |[],k=>k []
 |(s,v)::r,k=>fV v fun v=>MM r fun r=>k ((s,v)::r)
theorem th : ∀ (l : Env) (k : Env → R), MM l k = k l
 |[],k=>rfl
 |(s,v)::r,k=>by simp only [MM,ow,th r]
def aah (b:lJ) (k:lJ->R):R:=match b with
 | .cells cs fz=>Ua cs fun cs=>k (.cells cs fz)
 | .arr t xs fz=>k (.arr t xs fz)
 | .loop st j d env ps as bd N=>MM env fun env=>k (.loop st j d env ps as bd N)
 | .iy=>k .iy
 | .map kt kg vt vg es=>k (.map kt kg vt vg es)
 | .ov t xs i p v=>fV v fun v=>k (.ov t xs i p v)
theorem Ub (b:lJ) (k:lJ->R):aah b k=k b:=by cases b<;>simp only [aah,nU,th,ow]
def fBl : ah → (ah → R) → R
 |[],k=>k []
 |(s,b)::r,k=>aah b fun b=>fBl r fun r=>k ((s,b)::r)
theorem C7 : ∀ (l : ah) (k : ah → R), fBl l k = k l
 |[],k=>rfl
 |(s,b)::r,k=>by simp only [fBl,Ub,C7 r]
def au.go (p:au) (nx:Nat) (x:p.T) (k:Env->Nat->ah->List Nat->R):R:=MM (p.E x) fun env=>fBl (p.B x) fun bl=>k env nx bl p.ms
theorem au.go_eq (p:au) (nx:Nat) (x:p.T) (k:Env->Nat->ah->List Nat->R):p.go nx x k=k (p.E x) nx (p.B x) p.ms:=by
 unfold au.go;rw [th,C7]
def aT.go (kz : Kz R) (base : Nat) : (xs : aT) → xs.T → Kc R → R
 |[],x,_=>nomatch x
 |[(e,p)],x,k=>fN (base+p.iA.length) fun nx=>p.go nx x (k e)
 |(e,p)::q::r,x,k=>kz.sm x (fun x=>fN (base+p.iA.length) fun nx=>p.go nx x (k e)) fun y=>aT.go kz base (q::r) y k
end
theorem aT.FA {X:Type} {base:Nat}:∀{xs:aT} {x:xs.T} {k:Kc (Option X)} {r:X},xs.go (iz X) base x k=some r ->
  k (xs.st base x).1 (xs.st base x).2.env (xs.st base x).2.H.next (xs.st base x).2.H.bl (xs.st base x).2.ms=some r
 |[],x,_,_,_=>nomatch x
 |[(e,p)],x,k,r,h=>by
  simp only [aT.go,gP] at h
  exact (au.go_eq p _ (show p.T from x) (k e)).symm.trans h
 |(e,p)::q::s,x,k,r,h=>by
  simp only [aT.go,iz] at h
  cases x with
  |inl x =>
   simp only [gP] at h
   rw [au.go_eq] at h
   exact h
  |inr y=>exact aT.FA (xs:=q::s) (x:=y) h
def aT.rd {R : Type} (no : R) (pre : List Nat) (base : Nat) : (xs : aT) → Ex → Env → Nat → ah → List Nat → (xs.T → R) → R
 |[],_,_,_,_,_,_=>no
 |[(e',p)],e,env,nx,bl,ms,k=>match ML e' e with
  |true=>p.rd no pre base env nx bl ms k
  |false=>no
 |(e',p)::q::r,e,env,nx,bl,ms,k=>match ML e' e with
  |true=>p.rd (aT.rd no pre base (q::r) e env nx bl ms fun x=>k (.inr x)) pre base env nx bl ms fun x=>k (.inl x)
  |false=>aT.rd no pre base (q::r) e env nx bl ms fun x=>k (.inr x)
theorem aT.dR {X:Type} {base:Nat} {env:Env} {nx:Nat} {bl:ah} {ms:List Nat}:∀{xs:aT} {e:Ex} {k:xs.T->Option X} {r:X},xs.rd none (List.range base) base e env nx bl ms k=some r ->
  ∃x π,k x=some r/\e=(xs.st base x).1/\jw base π ⟨env,⟨nx,bl⟩,ms⟩ (xs.st base x).2
 |[],_,_,_,h=>by simp [aT.rd] at h
 |[(e',p)],e,k,r,h=>by
  simp only [aT.rd] at h
  split at h<;>try (cases h;done)
  rename_i he
  obtain ⟨x,π,h1,h2⟩:=au.dR h
  exact ⟨x,π,h1,(Kg he).symm,h2⟩
 |(e',p)::q::s,e,k,r,h=>by
  simp only [aT.rd] at h
  split at h
  ·rename_i he
   rcases au.Kf h with h|⟨x,π,h1,h2⟩
   ·obtain ⟨x, π, h1, h2, h3⟩ := aT.dR (xs := q :: s) h
    exact ⟨.inr x,π,h1,h2,h3⟩
   ·exact ⟨.inl x,π,h1,(Kg he).symm,h2⟩
  ·obtain ⟨x, π, h1, h2, h3⟩ := aT.dR (xs := q :: s) h
   exact ⟨.inr x,π,h1,h2,h3⟩
def X5 {R:Type} (no:R) (pre:List Nat) (base:Nat) (p:au) (xs:aT) (inl:p.T->R) (inr:xs.T->R):Kc R:=fun e env nx bl ms=>match e with
 | .normal=>p.rd no pre base env nx bl ms inl
 | .exit i=>xs.rd no pre base (.exit i) env nx bl ms inr
 | .ret=>xs.rd no pre base .ret env nx bl ms inr
def nV {P:Program} {N:Nat} {out:Option Nat} {base:Nat} {R:Type} (kz:Kz R) (cx:Cx) (ar:Ar) (pre:List Nat) (p:au) (xs:aT) (body:D P N out base) (inl:p.T->R) (inr:xs.T->R) (x:p.T):R :=
 fN (base+p.iA.length) fun nx=>p.go nx x fun env nx bl ms=>kE kz cx ar body env nx bl ms (X5 kz.no pre base p xs inl inr)
section
variable {P:Program} {N:Nat} {out:Option Nat} {base:Nat}
noncomputable def aW (mixed : P.follows .mixedOrders = true) (cx : Cx) (gm : cx.Ok P) (pre : List Nat) (hpre : pre = List.range base) (p : au) (xs : aT) (hxs : xs.all (fun p => !ML p.1 .normal) = true) (body : D P N out base)
  (step:p.T->Option (p.T ⊕ xs.T)) (hstep:∀x,nV (iz (p.T ⊕ xs.T)) cx bW pre p xs body (fun y=>some (.inl y)) (fun b=>some (.inr b)) x=step x):bt P N out base where
 c:=body.er
 run kz env nx bl ms K:=p.rd kz.no pre base env nx bl ms fun x=>kz.bd (iter step x) fun b=>xs.go kz base b K
 ok:=by
  intro X env nx bl ms K r h Q hQ
  subst hpre
  obtain ⟨x,π,h1,h2⟩:=au.dR h
  obtain ⟨b,h3,h4⟩:=sV h1
  have h5:=aT.FA h4
  refine MA (ig mixed) (I:=p.st base) (X:=xs.st base) (step:=step) (fun x r hx=>?_) h3 h2 (hQ _ _ _ _ _ h5)
  rw [<-hstep x] at hx
  unfold nV at hx
  rw [gP,au.go_eq] at hx
  refine kX gm hx fun e env nx bl ms hk=>?_
  unfold X5 at hk
  cases e with
  |normal =>
   obtain ⟨y,π,q1,q2⟩:=au.dR hk
   cases q1
   exact ⟨rfl,π,q2⟩
  |exit i =>
   obtain ⟨y,π,q1,q2,q3⟩:=aT.dR hk
   cases q1
   exact ⟨by simp,q2,π,q3⟩
  |ret =>
   obtain ⟨y,π,q1,q2,q3⟩:=aT.dR hk
   cases q1
   exact ⟨by simp,q2,π,q3⟩
def rQ : List SP → Type → Type
 |[],A=>A
 |p::r,A=>p.T (rQ r A)
def FB {A : Type} : (ps : List SP) → rQ ps A → List V
 |[],_=>[]
 |p::r,x=>p.v x::FB r (p.r x)
def aai {A : Type} : (ps : List SP) → rQ ps A → A
 |[],x=>x
 |p::r,x=>aai r (p.r x)
def BA {A : Type} (π : List Nat) : (ps : List SP) → List V → Option (A → rQ ps A)
 |[],[]=>some fun a=>a
 |p::r,v::vs=>match SP.rd (A:=rQ r A) π p v with
  |some f=>match BA π r vs with
   |some g=>some fun a=>f (g a)
   |none=>none
  |none=>none
 |_,_=>none
theorem FC {π : List Nat} {A : Type} : ∀ {ps : List SP} {vs : List V} {f : A → rQ ps A}, BA π ps vs = some f → ∀ a, EA π (FB ps (f a)) vs ∧ aai ps (f a) = a
 |[],[],f,h,a=>by cases h;exact ⟨.nil,rfl⟩
 |c::r,v::vs,f,h,a=>by
  simp only [BA] at h
  split at h<;>try (cases h;done)
  rename_i f1 h1
  split at h<;>cases h
  rename_i g h2
  obtain ⟨q1,q2⟩:=SP.ta h1 (g a)
  obtain ⟨q3,q4⟩:=FC h2 a
  simp only [FB,aai,q2]
  exact ⟨.cons q1 q3,q4⟩
 |[],_::_,f,h,a=>by simp [BA] at h
 |_::_,[],f,h,a=>by simp [BA] at h
structure Ct where
 f:Nat
 ps:List SP
 res:SP
 fn:rQ ps Unit->Option (res.T Unit)
def Ct.Ok (P:Program) (ct:Ct):Prop:=∀x y,ct.fn x=some y->kC P ct.f (FB ct.ps x) (ct.res.v y)
theorem FD {π:List Nat}:Mu.kf (fun _=>none) π=fun _=>none:=by
 funext i;simp only [Mu.kf];cases π[i]?<;>rfl
theorem C8 {f:Nat} {vs vs':List V} {v:V} {nx:Nat} {bl:ah} (h:kC P f vs' v) (hm:dY (fin bW bl 8) vs=some vs') (hs:EM v=true) {Q:V->aF->Prop} (hQ:Q v ⟨nx,bl⟩):eW P f vs ⟨nx,bl⟩ Q:=by
 refine ⟨h.1,fun Y ι μ w as hI hl=>?_⟩
 refine (h.2 (ι.all Y.own w) w as (hI.dH.mono (aj.CL hI.rd)) (fun b o x hx=>?_) (ji (fun v r x h hr=>w6 (fun _ _ _=>rfl) hI h hr) hm hl)).mono ?_
 ·exact aj.H9 hI.rd hx
 ·rintro e w' ⟨x, ι', rfl, _, _, _, jQ, Fc⟩
  exact ⟨x,ι,μ,v,_,rfl,aj.le_refl _,Mu.le_refl _,hI.called (aj.le_refl _) (fun _ _ _=>rfl) (dA.kept (fun b o x hx=>hI.rd b o x hx) jQ) jQ,Fk hs Fc,hQ⟩
def FE {R : Type} (kz : Kz R) (f : Nat) (vs : List V) (K : V → R) : List Ct → R
 |[]=>kz.no
 |ct::r=>match Nat.beq ct.f f with
  |true=>match BA (A:=Unit) [] ct.ps vs with
   |some g=>kz.bd (ct.fn (g ())) fun y=>ct.res.kv kz y K
   |none=>FE kz f vs K r
  |false=>FE kz f vs K r
def Kh (P : Program) : List Ct → Prop
 |[]=>True
 |c::r=>c.Ok P/\Kh P r
theorem qk {X : Type} {f : Nat} {vs : List V} {K : V → Option X} {r : X} : ∀ {AE : List Ct}, Kh P AE → FE (iz X) f vs K AE = some r → ∃ v, kC P f vs v ∧ K v = some r
 |[],_,hk=>by cases hk
 |ct::AE,h,hk=>by
  simp only [FE] at hk
  split at hk
  ·rename_i hf
   have e:=Nat.eq_of_beq_eq_true hf
   subst e
   split at hk
   ·rename_i g hg
    obtain ⟨y,hy,hk⟩:=rN hk
    rw [SP.aeU] at hk
    obtain ⟨q1,_⟩:=FC hg ()
    refine ⟨_,?_,hk⟩
    have hp:=h.1 _ _ hy
    exact ⟨hp.1, fun ι w as hgl hrd hl => hp.2 ι w as hgl hrd (by
     have:=aJ.kf (π:=[]) q1.1 (fun i v u hv hu=>fun {x} hr=>(q1.2 i v u hv hu).rel hr) hl
     rwa [FD] at this)⟩
   ·exact qk h.2 hk
  ·exact qk h.2 hk
theorem MN {f:Nat} {vs vs':List V} {v:V} {nx:Nat} {bl bP:ah} (h:kC P f vs' v) (hm:dY (fin bW bl 8) vs=some vs') (hb:vN (jI bl vs) bl=some bP) {Q:V->aF->Prop} (hQ:Q v ⟨nx,bP⟩):eW P f vs ⟨nx,bl⟩ Q:=by
 refine ⟨h.1,fun Y ι μ w as hI hl=>?_⟩
 obtain ⟨ι',h1,h2,h3⟩:=w8 hI hb
 have hl':aJ ι' (fun _=>none) vs' as.toList:=by
  have key:∀{vs vs':List V} {xs:List Value},dY (fin bW bl 8) vs=some vs'->(∀id∈jI bl vs,Av ι' μ id (av id bl))->aJ ι μ vs xs->aJ ι' (fun _=>none) vs' xs:=by
   intro vs
   induction vs with
   |nil=>intro vs' xs hm _ hl;cases hm;rw [hl.of_nil];exact .nil
   |cons v r ih =>
    intro vs' xs hm hfz hl
    unfold dY at hm
    split at hm<;>try (cases hm;done)
    rename_i u hu
    split at hm<;>cases hm
    rename_i us Hw
    obtain ⟨x,xs',rfl,r1,r2⟩:=hl.bL
    simp only [jI,List.flatMap_cons,List.mem_append] at hfz
    exact .cons (CN hu (fun id hid=>hfz id (.inl hid)) (r1.mono h1 (Mu.le_refl _))) (ih Hw (fun id hid=>hfz id (.inr hid)) r2)
  exact key hm h3 hl
 refine (h.2 ι' w as h2.dH (fun b o x hx=>h2.rd b o x hx) hl').mono ?_
 rintro e w' ⟨x,ι2,rfl,hi,hib,hrd,jQ,Fc⟩
 exact ⟨x,ι2,μ,v,_,rfl,aj.le_trans h1 hi,Mu.le_refl _,h2.called hi hib hrd jQ,Fc.mono (aj.le_refl _) (fun _ _ h=>by cases h),hQ⟩
def aaj {R:Type} (AE:List Ct) (kz:Kz R) (f:Nat) (vs:List V) (nx:Nat) (bl:ah) (K:V->Nat->ah->R):R:=match vs.all (dX 8) with
 |true=>FE kz f vs (fun v=>K v nx bl) AE
 |false=>match dY (fin bW bl 8) vs with
  |some vs'=>FE kz f vs' (fun v=>match EM v with
   |true=>K v nx bl
   |false=>match vN (jI bl vs) bl with
    |some bP=>fBl bP fun bP=>K v nx bP
    |none=>kz.no) AE
  |none=>kz.no
def mkCx (AE:List Ct):Cx where
 pc kz f vs K:=FE kz f vs K AE
 ca kz f vs nx bl K:=aaj AE kz f vs nx bl K
 rd kz _ _ _ _ _:=kz.no
theorem Uc {AE:List Ct} (h:Kh P AE):(mkCx AE).Ok P where
 X1 hk:=qk h hk
 T2:=by
  intro X f vs nx bl K r hk Q hQ
  simp only [mkCx,aaj] at hk
  split at hk
  ·rename_i hd
   obtain ⟨v,hp,hk⟩:=qk h hk
   exact Ie hp hd (hQ _ _ _ hk)
  ·split at hk <;> try (cases hk; done)
   rename_i vs' hm
   obtain ⟨v,hp,hk⟩:=qk h hk
   split at hk
   ·rename_i hs
    exact C8 hp hm hs (hQ _ _ _ hk)
   ·split at hk <;> try (cases hk; done)
    rename_i bP hb
    rw [C7] at hk
    exact MN hp hm hb (hQ _ _ _ hk)
 rok hk:=by cases hk
def aak {R:Type} (kz:Kz R) (ar:Ar) (rs:List RV) (tys:List (Option Ty)) (res:SP) (k:res.T Unit->R):Kc R:=fun e env nx bl ms=>match e with
 | .exit _=>kz.no
 | .normal=>go env nx bl ms
 | .ret=>go env nx bl ms
where go (env:Env) (nx:Nat) (bl:ah) (ms:List Nat):R:=match fk ms bl with
 |some bl=>match wI ar ⟨env,⟨nx,bl⟩,[]⟩ rs with
  |some vs=>match fin ar bl 8 (vK (cq tys vs)) with
   |some v=>match SP.rd (A:=Unit) [] res v with
    |some f=>k (f ())
    |none=>kz.no
   |none=>kz.no
  |none=>kz.no
 |none=>kz.no
def fnE {R:Type} (kz:Kz R) (cx:Cx) (ar:Ar) (rs:List RV) (tys:List (Option Ty)) (ps:List SP) (res:SP) (body:D P N none 0) (k:res.T Unit->R) (x:rQ ps Unit):R :=
 Ua (FB ps x) fun vs=>kE kz cx ar body (args 0 vs) 0 [] [] (aak kz ar rs tys res k)
theorem MO {f : Nat} {func : Func} {fn : Fn} (hf : P.funcs[f]? = some func) (htr : cM P func = some fn) (cF : Enters P f) (fW : mw P fn.N none 0) {vs : List V} {r : V} (hlen : vs.length ≤ fn.np)
  (h:sj (eL P fn.N none 0) fn.body ⟨args 0 vs,⟨0,[]⟩,[]⟩ (Mm (eL P fn.N none 0) fn.res fn.tys (fun r'=>EV [] r r'))):kC P f vs r:=by
 refine ⟨cF,fun ι w as hgl hrd hr=>?_⟩
 let Y:Ctx:=⟨w,ι,fun _=>none,none,fun _=>False,[]⟩
 have hI:Inv P Y ι (fun _=>none) ⟨0,[]⟩ w:=⟨JD.refl _ _,aj.le_refl _,fun _ _ _ _=>rfl,hrd,fun id L h=>h,fun _ _=>rfl,fun id B h=>by simp [av] at h,fun id id' B B' L L' h=>by simp [av] at h,fun id B h=>by simp [av] at h,hgl⟩
 have hres:OL P func.results.toList=some fn.res:=by
  unfold cM at htr
  split at htr<;>try (cases htr;done)
  split at htr<;>try (cases htr;done)
  rename_i SU
  split at htr<;>try (cases htr;done)
  cases htr;exact SU
 refine JP (Y:=Y) hf htr fW hlen h rfl rfl (fun _ _=>rfl) hI hr fun Y1 ι' μ' S' a' w' e' hY hR hq=>?_
 have key:Mm.rD (eL P fn.N none 0) fn.res fn.tys (fun r'=>EV [] r r') S'->LeavesInM Fence.wide 0 P func a'.tmps (fun e w'=>∃v ι',e = .returned v/\ι.le ι'/\(∀b o,b<w.heap.size->ι' b o=ι b o)/\dA ι' w' /\
   Dw w w'/\Rel ι' (fun _=>none) r v) a'.defers .returning w':=by
  intro hs
  unfold Mm.rD at hs
  split at hs<;>try (exact hs.elim)
  rename_i bl qz
  split at hs<;>try (exact hs.elim)
  rename_i vs' hvs
  split at hs<;>try (exact hs.elim)
  rename_i r' Ud
  refine uJ hres (n:=S'.H.next) (bl:=S'.H.bl) hY rfl hR.inv hR.env hR.ms qz hvs fun x w2 oJ hx=>?_
  refine ⟨x,ι'.all Y.own w2,rfl,aj.le_trans oJ.i0 (aj.CL oJ.rd),fun b o hb=>?_,fun b o y hy=>?_,oJ.below.to (fun _ h=>h),?_⟩
  ·rw [aj.TB (fun h=>by rcases h with h|h;exact absurd hb (Nat.not_lt.2 h);exact h)];exact oJ.iB b o hb (fun h=>h)
  ·exact aj.H9 oJ.rd hy
  ·have := hs.rel (w6 (Y := Y) (ar := eL P fn.N none 0) (fun _ _ _ => rfl) oJ Ud (hx fn.tys))
   rwa [FD] at this
 cases e' with
 |exit id=>exact hq.elim
 |normal=>exact ⟨.inl rfl,key hq⟩
 |ret=>exact ⟨.inr rfl,key hq⟩
theorem cu (mixed : P.follows .mixedOrders = true) {cx : Cx} (gm : cx.Ok P) {func : Func} {fn : Fn} {ct : Ct} (hf : P.funcs[ct.f]? = some func) (htr : cM P func = some fn) (cF : Enters P ct.f)
  (body:D P fn.N none 0) (hbody:body.er=fn.body) (hnp:Nat.ble ct.ps.length fn.np=true) (hfn:∀x,fnE (iz (ct.res.T Unit)) cx bW fn.res fn.tys ct.ps ct.res body some x=ct.fn x):ct.Ok P:=by
 intro x y hxy
 rw [<-hfn x] at hxy
 unfold fnE at hxy
 rw [nU] at hxy
 have hlen:∀(ps:List SP) (x:rQ ps Unit),(FB ps x).length=ps.length:=by
  intro ps
  induction ps with
  |nil=>intro x;rfl
  |cons p r ih=>intro x;simp [FB,ih]
 have hwp:=kX (Q:=Mm (eL P fn.N none 0) fn.res fn.tys (fun r=>EV [] (ct.res.v y) r)) gm hxy (fun e env nx bl ms hk=>by
  have key:aak.go (iz (ct.res.T Unit)) bW fn.res fn.tys ct.res some env nx bl ms=some y->Mm.rD (eL P fn.N none 0) fn.res fn.tys (fun r=>EV [] (ct.res.v y) r) ⟨env,⟨nx,bl⟩,ms⟩:=by
   intro hg
   unfold aak.go at hg
   unfold Mm.rD
   split at hg<;>try (cases hg;done)
   rename_i bP h1
   rw [h1]
   simp only
   split at hg<;>try (cases hg;done)
   rename_i vs h2
   rw [h2]
   simp only
   have e:fin (eL P fn.N none 0) bP 8 (vK (cq fn.tys vs))=fin bW bP 8 (vK (cq fn.tys vs)):=by unfold eL;exact yy
   rw [e]
   split at hg<;>try (cases hg;done)
   rename_i v h3
   rw [h3]
   simp only
   split at hg<;>try (cases hg;done)
   rename_i f h4
   cases hg
   exact (SP.ta h4 ()).1
  cases e with
  |exit i=>cases hk
  |normal=>exact key hk
  |ret=>exact key hk)
 rw [hbody] at hwp
 exact MO hf htr cF (ig mixed) (by rw [hlen];exact Nat.le_of_ble_eq_true hnp) hwp
end
end Go.AM
end
section
namespace Go.AM
section
variable {P:Program} {N:Nat} {out:Option Nat} {base:Nat} {π:List Nat}
theorem Ki {c:Code} {S S':St} {Q:Ex->St->Prop} (h:Oh P N out base c S' Q) (he:jw base π S S'):Oh P N out base c S Q :=
 fun Y ι μ a w ho hb hR=>h Y ι _ a w ho hb (he.rep hb hR)
theorem FF {c:Code} {S:St} {Q:Ex->St->Prop} (h:Oh P N out base c S fun e S'=>∃C9 π,jw base π S' C9/\Q e C9):Oh P N out base c S Q :=
 fun Y ι μ a w ho hb hR=>wpIn_mono (h Y ι μ a w ho hb hR) fun e a w hp=>by
  obtain ⟨Y1,hY,ι,μ,S',e',h1,h2,C9,π,h3,h4⟩:=hp
  exact ⟨Y1,hY,ι,_,C9,e',h3.rep (hY.vH hb) h1,h2,h4⟩
def Da {R : Type} : List Nat → List V → Env → (Env → R) → R
 |p::ps,v::vs,env,k=>fV v fun v=>Da ps vs ((p,v)::env) k
 |_,_,env,k=>k env
theorem BC {R : Type} : ∀ (ps : List Nat) (vs : List V) (env : Env) (k : Env → R), Da ps vs env k = k (vR ps vs env)
 |[],vs,env,k=>by cases vs<;>rfl
 |p::ps,[],env,k=>rfl
 |p::ps,v::vs,env,k=>by simp only [Da,ow];rw [BC ps vs];rfl
def P7 {R:Type} (kz:Kz R) (wM:Nat) (K:V->Nat->ah->R):Kc R:=fun e _ nx bl _=>match av wM bl with
 |some (.loop .busy _ d env ps as bd N)=>qF wM bl fun bl=>match e with
  | .normal=>K (.tf true) nx ((wM,.loop .ready none d env ps as bd N)::bl)
  | .exit i=>K (.tf false) nx ((wM,.loop .done (some (.exit i)) d env ps as bd N)::bl)
  | .ret=>K (.tf false) nx ((wM,.loop .done (some .ret) d env ps as bd N)::bl)
 |_=>kz.no
theorem P8 {X : Type} {wM : Nat} {K : V → Nat → ah → Option X} {r : X} {e : Ex} {env : Env} {nx : Nat} {bl : ah} {ms : List Nat} (h : P7 (iz X) wM K e env nx bl ms = some r) {Q : V → aF → Prop}
  (hQ:∀v nx bl,K v nx bl=some r->Q v ⟨nx,bl⟩):sQ wM Q e ⟨env,⟨nx,bl⟩,ms⟩:=by
 unfold P7 at h
 unfold sQ
 simp only
 split at h<;>try (cases h;done)
 rename_i hb
 try rw [hb]
 try simp only
 rw [kW] at h
 cases e<;>exact hQ _ _ _ h
def P9 {R:Type} (kz:Kz R) (cx:Cx) (ar:Ar) (wM FG:Nat) (ps:List Nat) (asD bdD:D P N (some wM) FG) (id:Nat) (vs:List V) (nx:Nat) (bl:ah) (K:V->Nat->ah->R):R :=
 match an (Nat.beq id wM) (Nat.beq nx FG) with
 |true=>match av wM bl with
  |some (.loop .ready none _ env ps' as bd N')=>match an (Nat.beq vs.length ps'.length) (an (Nat.beq N' N) (an (jy as asD.er) (jy bd bdD.er))) with
   |true=>Da ps' vs env fun env=>kE kz cx ar asD env nx bl [] fun e env nx bl ms=>match e with
    | .normal=>match av wM bl with
     |some (.loop .ready none d' env' ps' as' TK N')=>qF wM bl fun bl=>kE kz cx ar bdD env nx ((wM,.loop .busy none d' env' ps' as' TK N')::bl) ms (P7 kz wM K)
     |_=>kz.no
    |_=>kz.no
   |false=>kz.no
  |_=>kz.no
 |false=>kz.no
theorem nW (mixed : P.follows .mixedOrders = true) {cx : Cx} (gm : cx.Ok P) {wM FG : Nat} {ps : List Nat} {asD bdD : D P N (some wM) FG} {id : Nat} {vs : List V} {nx : Nat} {bl : ah} {X : Type}
  {K:V->Nat->ah->Option X} {r:X} (h:P9 (iz X) cx bW wM FG ps asD bdD id vs nx bl K=some r) {Q:V->aF->Prop} (hQ:∀v nx bl,K v nx bl=some r->Q v ⟨nx,bl⟩):around P id vs ⟨nx,bl⟩ Q:=by
 unfold P9 at h
 split at h<;>try (cases h;done)
 rename_i h1
 rw [aS] at h1
 have e1:=Nat.eq_of_beq_eq_true h1.1
 have e2:=Nat.eq_of_beq_eq_true h1.2
 subst e1;subst e2
 split at h<;>try (cases h;done)
 rename_i d env ps' as bd N' hb
 split at h<;>try (cases h;done)
 rename_i h2
 simp only [aS] at h2
 obtain ⟨c1,c2,c3,c4⟩:=h2
 have e3:=Nat.eq_of_beq_eq_true c2
 have e4:=w9 c3
 have e5:=w9 c4
 have e6:=Nat.eq_of_beq_eq_true c1
 subst e3;subst e4;subst e5
 refine Mw (fun N=>ig mixed) ?_
 unfold Ih
 simp only
 rw [hb]
 simp only
 refine ⟨e6,?_⟩
 rw [BC] at h
 refine kX gm h fun e env nx bl ms h=>?_
 cases e with
 |exit i=>cases h
 |ret=>cases h
 |normal =>
  simp only at h ⊢
  split at h<;>try (cases h;done)
  rename_i d' env' ps2 as' TK N2 gh
  try rw [gh]
  try simp only
  rw [kW] at h
  exact kX gm h fun e env nx bl ms h=>P8 h hQ
def AF (cx:Cx) (rd:{R:Type}->Kz R->Nat->List V->Nat->ah->(V->Nat->ah->R)->R):Cx where
 pc:=cx.pc
 ca:=cx.ca
 rd:=rd
theorem jU {cx : Cx} (gm : cx.Ok P) {rd : {R : Type} → Kz R → Nat → List V → Nat → ah → (V → Nat → ah → R) → R}
  (h:∀{X:Type} {id:Nat} {vs:List V} {nx:Nat} {bl:ah} {K:V->Nat->ah->Option X} {r:X},rd (iz X) id vs nx bl K=some r->∀{Q:V->aF->Prop},(∀v nx bl,K v nx bl=some r->Q v ⟨nx,bl⟩)->around P id vs ⟨nx,bl⟩ Q) :
  (AF cx rd).Ok P:=⟨fun hk=>gm.X1 hk,fun hk=>gm.T2 hk,fun hk=>h hk⟩
def FH {R:Type} (kz:Kz R) (rs:List RV) (K:Nat->ah->R):Kc R:=fun e env nx bl ms=>match e with
 | .exit _=>kz.no
 | .normal=>go env nx bl ms
 | .ret=>go env nx bl ms
where go (env:Env) (nx:Nat) (bl:ah) (ms:List Nat):R:=match fk ms bl with
 |some bl=>match wI bW ⟨env,⟨nx,bl⟩,[]⟩ rs with
  |some _=>K nx bl
  |none=>kz.no
 |none=>kz.no
theorem tn {X : Type} {rs : List RV} {tys : List (Option Ty)} {K : Nat → ah → Option X} {r : X} {e : Ex} {env : Env} {nx : Nat} {bl : ah} {ms : List Nat} (h : FH (iz X) rs K e env nx bl ms = some r) {Q : V → aF → Prop}
  (hQ:∀v nx bl,K nx bl=some r->Q v ⟨nx,bl⟩):CK rs tys Q e ⟨env,⟨nx,bl⟩,ms⟩:=by
 have key:FH.go (iz X) rs K env nx bl ms=some r->CK.rD rs tys Q ⟨env,⟨nx,bl⟩,ms⟩:=fun hg=>by
  unfold FH.go at hg
  unfold CK.rD
  split at hg<;>try (cases hg;done)
  rename_i bP h1
  simp only
  rw [h1]
  simp only
  split at hg<;>try (cases hg;done)
  rename_i vs h2
  rw [h2]
  exact hQ _ _ _ hg
 cases e with
 |exit i=>cases h
 |normal=>exact key h
 |ret=>exact key h
def Kj {R : Type} (no : R) : List Nat → ah → (ah → R) → R
 |[],bl,K=>K bl
 |id::r,bl,K=>match av id bl with
  |some .iy=>qF id bl fun bl=>Kj no r bl K
  |_=>no
theorem FI {X : Type} {no : Option X} {r : X} (hno : no = none) : ∀ {sh : List Nat} {bl : ah} {K : ah → Option X}, Kj no sh bl K = some r → ∃ bP, fk sh bl = some bP ∧ K bP = some r
 |[],bl,K,h=>⟨bl,rfl,h⟩
 |id::sh,bl,K,h=>by
  simp only [Kj] at h
  simp only [fk]
  split at h
  ·rename_i hb
   rw [kW] at h
   rw [hb]
   exact FI hno h
  ·rw [hno] at h;cases h
def Ue {R:Type} (kz:Kz R) (wM:Nat) (env:Env) (sh ms:List Nat) (K:Kc R) (nx:Nat) (bl:ah):R:=match av wM bl with
 |some (.loop st j _ _ _ _ _ _)=>match st with
  | .busy=>kz.no
  |_=>qF wM bl fun bl=>Kj kz.no sh bl fun bl=>match j with
   |none=>K .normal env nx bl ms
   |some (.exit i)=>K (.exit i) env nx bl ms
   |some .ret=>K .ret env nx bl ms
   |some .normal=>kz.no
 |_=>kz.no
theorem xd {X : Type} {wM : Nat} {S : St} {sh : List Nat} {K : Kc (Option X)} {nx : Nat} {bl : ah} {r : X} (h : Ue (iz X) wM S.env sh S.ms K nx bl = some r) {Q : Ex → St → Prop}
  (hQ:∀e env nx bl ms,K e env nx bl ms=some r->Q e ⟨env,⟨nx,bl⟩,ms⟩):kn wM sh S Q ⟨nx,bl⟩:=by
 unfold Ue at h
 unfold kn
 simp only
 split at h<;>try (cases h;done)
 rename_i st j _ _ _ _ _ _ hb
 try rw [hb]
 try simp only
 split at h
 ·cases h
 ·rename_i hst
  rw [kW] at h
  obtain ⟨bP,hs,h⟩:=FI rfl h
  have:J2 j ⟨S.env,⟨nx,bP⟩,S.ms⟩ Q:=by
   split at h
   ·exact hQ _ _ _ _ _ h
   ·exact hQ _ _ _ _ _ h
   ·exact hQ _ _ _ _ _ h
   ·cases h
  rw [hs]
  cases st<;>first|exact this|exact absurd rfl hst
def yT {R:Type} (kz:Kz R) (cx:Cx) (ar:Ar) (pre:List Nat) (p:au) (xs:aT) (f:O) (ps:List Nat) (as bd:C) (rs:List RV) (np:Nat) (fid:Nat) {Nit ee:Nat} (On:D P Nit none ee) (inr:xs.T->R) (x:p.T):R :=
 fN (base+p.iA.length) fun nx=>p.go nx x fun env nx bl ms=>match f.ev env with
 | .fn Qa first cap=>match an (Nat.beq Qa fid) (Nat.ble (first++[V.any]++cap).length np) with
  |true=>match out with
   |none=>match ms with
    |_::_=>kz.no
    | [] => Ua (first ++ [.yl (nx + 1)] ++ cap) fun vs => kE kz cx ar On (args 0 vs) ee ((nx + 1, .loop .ready none nx env ps as bd N) :: (nx, .iy) :: bl) []
     (FH kz rs (Ue kz (nx+1) env [nx] [] fun e env nx bl ms=>xs.rd kz.no pre base e env nx bl ms inr))
   |some XT=>match av XT bl with
    | some (.loop _ _ d _ _ _ _ _) => Ua (first ++ [.yl nx] ++ cap) fun vs => kE kz cx ar On (args 0 vs) ee ((nx, .loop .ready none d env ps as bd N) :: bl) []
     (FH kz rs (Ue kz nx env [] ms fun e env nx bl ms=>xs.rd kz.no pre base e env nx bl ms inr))
    |_=>kz.no
  |false=>kz.no
 |_=>kz.no
def Qb (c:C):bt P N out base where
 c:=c
 run kz _ _ _ _ _:=kz.no
 ok h:=by cases h
def MP (f:O) (ps:List Nat) (a b:C):gH P N out base where
 f:=f
 ps:=ps
 a:=a
 b:=b
 run kz _ _ _ _ _:=kz.no
 ok h:=by cases h
def Uf (pre:List dn) (m:O) (it:Nat) (cl:List Nat) (e:Option Nat) (kt:Ty) (kg:Bool) (vt:Ty) (vg:Bool) (uj:Nat) (b:C):yL P N out base where
 pre:=pre
 m:=m
 it:=it
 cl:=cl
 e:=e
 kt:=kt
 kg:=kg
 vt:=vt
 vg:=vg
 uj:=uj
 b:=b
 run kz _ _ _ _ _:=kz.no
 ok h:=by cases h
noncomputable def Qd (mixed : P.follows .mixedOrders = true) (cx : Cx) (gm : cx.Ok P) (pre : List Nat) (hpre : pre = List.range base) (p : au) (xs : aT) (f : O) (ps : List Nat) (hps : ps.all (Nat.blt · N) = true) (as bd : C)
  (fid:Nat) {func:Func} {fn:Fn} (hf:P.funcs[fid]?=some func) (htr:cM P func=some fn) (cF:Enters P fid) (ee:Nat) (iM:ee=base+p.iA.length+(match out with|none=>2|some _=>1))
  (On:D P fn.N none ee) (hit:On.er=fn.body) (RF:p.T->Option xs.T)
  (hRF:∀x,yT (N:=N) (out:=out) (base:=base) (iz xs.T) cx bW pre p xs f ps as bd fn.res fn.np fid On some x=RF x):Io P N out base f ps as bd where
 run kz env nx bl ms K:=p.rd kz.no pre base env nx bl ms fun x=>kz.bd (RF x) fun b=>xs.go kz base b K
 ok:=by
  intro X env nx bl ms K r h Q hQ
  subst hpre
  obtain ⟨x,π,h1,h2⟩:=au.dR h
  obtain ⟨b,h3,h4⟩:=sV h1
  have h5:=aT.FA h4
  have hq:=hQ _ _ _ _ _ h5
  rw [<-hRF x] at h3
  unfold yT at h3
  rw [gP,au.go_eq] at h3
  intro fo Ev ao bo q1 q2 q3 q4
  refine Ki (FF ?_) h2
  refine vQ (K:=fun e S'=>∃C9 π,jw base π S' C9/\Q e C9) ?_ fo Ev ao bo q1 q2 q3 q4
  refine ⟨hps,?_⟩
  cases qd:f.ev (p.E x) with
  |fn Qa first cap=>?_
  |_=>rw [qd] at h3;cases h3
  have aal:f.ev (p.st base x).env = .fn Qa first cap:=qd
  rw [aal]
  rw [qd] at h3
  simp only at h3 ⊢
  split at h3<;>try (cases h3;done)
  rename_i hc
  rw [aS] at hc
  have e1:=Nat.eq_of_beq_eq_true hc.1
  have e2:=Nat.le_of_ble_eq_true hc.2
  subst e1
  have hlen:∀v:V,(first++[v]++cap).length<=fn.np:=fun v=>by simpa using e2
  have hout:∀e env nx bl ms,xs.rd none (List.range base) base e env nx bl ms some=some b->∃C9 π,jw base π ⟨env,⟨nx,bl⟩,ms⟩ C9/\Q e C9:=fun e env nx bl ms hk=>by
   obtain ⟨y,π,r1,r2,r3⟩:=aT.dR hk
   cases r1
   exact ⟨_,π,r3,by rw [r2];exact hq⟩
  cases out with
  |none =>
   simp only at h3 iM ⊢
   split at h3
   ·cases h3
   rename_i Mk
   rw [nU] at h3
   refine ⟨Mk,?_⟩
   subst iM
   refine kR hf htr cF (ig mixed) (hlen _) ?_
   rw [<-hit]
   refine kX gm h3 fun e env nx bl ms hk=>?_
   exact tn hk fun v nx bl hk => xd (S := p.st base x) (by
    have e:(p.st base x).ms=[]:=Mk
    rw [e];exact hk) hout
  |some XT =>
   simp only at h3 iM ⊢
   split at h3<;>try (cases h3;done)
   rename_i hb
   rw [nU] at h3
   have hb':av XT (p.st base x).H.bl=_:=hb
   simp only [au.st] at hb' ⊢
   rw [hb']
   simp only
   subst iM
   refine kR hf htr cF (ig mixed) (hlen _) ?_
   rw [<-hit]
   refine kX gm h3 fun e env nx bl ms hk=>?_
   exact tn hk fun v nx bl hk=>xd (S:=p.st base x) hk hout
noncomputable def ql (mixed : P.follows .mixedOrders = true) (cx : Cx) (gm : cx.Ok P) (pre : List Nat) (hpre : pre = List.range base) (p : au) (xs : aT) (f : O) (ps : List Nat) (hps : ps.all (Nat.blt · N) = true) (as bd : C)
  (fid:Nat) {func:Func} {fn:Fn} (hf:P.funcs[fid]?=some func) (htr:cM P func=some fn) (cF:Enters P fid) (ee:Nat) (iM:ee=base+p.iA.length+(match out with|none=>2|some _=>1))
  (On:D P fn.N none ee) (hit:On.er=fn.body) (RF:p.T->Option xs.T)
  (hRF:∀x,yT (N:=N) (out:=out) (base:=base) (iz xs.T) cx bW pre p xs f ps as bd fn.res fn.np fid On some x=RF x):gH P N out base :=
 (Qd mixed cx gm pre hpre p xs f ps hps as bd fid hf htr cF ee iM On hit RF hRF).s
end
end Go.AM
end
section
namespace Go.AM
theorem yU {σ : List Nat} {ι : aj} {μ μ' : Mu} (hσ : ∀ j i L, σ[j]? = some i → μ j = some L → μ' i = some L) : ∀ {n : Nat} {v u : V} {x : Value}, uK σ n v = some u → Rel ι μ v x → Rel ι μ' u x
 |0,v,u,x,h,_=>by cases h
 |n+1,v,u,x,h,hr=>by
  have g:∀v u x,uK σ n v=some u->Rel ι μ v x->Rel ι μ' u x:=fun v u x h hr=>yU hσ h hr
  have lift:∀{cs ds:List V} {xs:Array Value},dY (uK σ n) cs=some ds->cs.length=xs.size->(∀(i:Nat) v x,cs[i]?=some v->xs[i]?=some x->Rel ι μ v x)->aJ ι μ' ds xs.toList :=
   fun hm h1 h2=>ji g hm ⟨by simpa using h1,fun i v x hv hx=>h2 i v x hv (by simpa using hx)⟩
  cases hr<;>simp only [uK] at h
  case any=>cases h;exact .any _
  case tf=>cases h;exact .tf _
  case bool=>cases h;exact .bool _
  case int=>cases h;exact .int _ _
  case str=>cases h;exact .str _
  case ga=>cases h;exact .ga
  case cW=>cases h;exact .cW
  case gn=>cases h;exact .gn
  case fM t xs hd=>cases h;exact .fM t xs _ hd
  case cw=>cases h;exact .cw _
  case sl id t lo m cap L hL h1 h2 h3 =>
   split at h<;>try (cases h;done)
   rename_i i hi;cases h
   exact .sl i t lo m cap L (hσ _ _ _ hi hL) h1 h2 h3
  case bO id t lo a =>
   split at h<;>try (cases h;done)
   cases h;exact .bO _ _ _ _
  case ptr id off L hL =>
   split at h<;>try (cases h;done)
   rename_i i hi;cases h
   exact .ptr i off L (hσ _ _ _ hi hL)
  case ep id t j p L hL =>
   split at h<;>try (cases h;done)
   rename_i i hi;cases h
   exact .ep i t j p L (hσ _ _ _ hi hL)
  case yl id L hL =>
   split at h<;>try (cases h;done)
   rename_i i hi;cases h
   exact .yl i L (hσ _ _ _ hi hL)
  case fe cs b o gf h1 h2 h3 =>
   split at h<;>try (cases h;done)
   rename_i ds hds;cases h
   have hR:aJ ι μ cs ((List.range cs.length).map gf):=⟨by simp,fun i v x hv hx=>by
    have hi:=(List.getElem?_eq_some_iff.1 hv).1
    simp [hi] at hx;subst hx;exact h2 i v hv⟩
   have fO:=ji g hds hR
   have hl:ds.length=cs.length:=by have:=fO.1;simpa using this
   exact .fe ds b o gf (fun i hi => h1 i (by omega)) (fun i v hv => fO.2 i v (gf i) hv (by
    have hi:=(List.getElem?_eq_some_iff.1 hv).1
    simp [show i<cs.length by omega])) h3
  case ip t y b o us h1 h2=>cases h;exact .ip t y b o us h1 h2
  case fn f fs cs xs ys h1 h2 h3 h4 =>
   split at h<;>try (cases h;done)
   rename_i as ha
   split at h<;>try (cases h;done)
   rename_i bs hb;cases h
   have r1:=lift ha h1 h2
   have r2:=lift hb h3 h4
   exact .fn f as bs xs ys (by simpa using r1.1) (fun i v x hv hx=>r1.2 i v x hv (by simpa using hx)) (by simpa using r2.1) (fun i v x hv hx=>r2.2 i v x hv (by simpa using hx))
  case agg cs xs h1 h2 h3 =>
   split at h<;>try (cases h;done)
   rename_i ds hds;cases h
   have r1:=lift hds h1 h2
   exact .agg ds xs (by simpa using r1.1) (fun i v x hv hx=>r1.2 i v x hv (by simpa using hx)) h3
  case dc cs xs h1 h2 =>
   split at h<;>try (cases h;done)
   rename_i ds hds;cases h
   have r1:=lift hds h1 h2
   exact .dc ds xs (by simpa using r1.1) (fun i v x hv hx=>r1.2 i v x hv (by simpa using hx))
  case cL t v x hv =>
   split at h<;>try (cases h;done)
   rename_i u' hu;cases h
   exact .cL t u' x (g _ _ _ hu hv)
  case cb c b hc=>cases h;exact .cb c b hc
  case mp id L hL =>
   split at h<;>try (cases h;done)
   rename_i i hi;cases h
   exact .mp i L (hσ _ _ _ hi hL)
  case cT=>cases h;exact .cT
  case sp=>cases h
  case pa id t m L hL hm =>
   split at h<;>try (cases h;done)
   rename_i i hi;cases h
   exact .pa i t m L (hσ _ _ _ hi hL) hm
  case mG t xs b o us h1 h2=>cases h;exact .mG t xs b o us h1 h2
def FJ (σ : List Nat) : ah → Option ah
 |[]=>some []
 |(j,b)::r=>match wK σ j with
  |some i=>match TC σ b with
   |some b'=>match FJ σ r with
    |some r'=>some ((i,b')::r')
    |none=>none
   |none=>none
  |none=>none
theorem BD {σ : List Nat} (hinj : ∀ (a b i : Nat), σ[a]? = some i → σ[b]? = some i → a = b) : ∀ {bl bP : ah}, FJ σ bl = some bP → ∀ {i : Nat} {B : lJ}, av i bP = some B → ∃ j B0, σ[j]? = some i ∧ av j bl = some B0 ∧ TC σ B0 = some B
 |[],bP,h,i,B,hb=>by cases h;simp [av] at hb
 |(j,b)::r,bP,h,i,B,hb=>by
  simp only [FJ] at h
  split at h<;>try (cases h;done)
  rename_i i' hi
  split at h<;>try (cases h;done)
  rename_i b' hb'
  split at h<;>cases h
  rename_i r' hr
  rw [qi] at hi
  rw [bA] at hb
  split at hb
  ·rename_i e; subst e; cases hb
   exact ⟨j,b,hi,by rw [bA,if_pos rfl],hb'⟩
  ·rename_i hne
   obtain ⟨j2,B0,h1,h2,h3⟩:=BD hinj hr hb
   refine ⟨j2,B0,h1,?_,h3⟩
   rw [bA,if_neg]
   ·exact h2
   ·intro e;subst e;rw [hi] at h1;cases h1;exact hne rfl
def yV : List Nat → ah → ah
 |[],bl=>bl
 |i::r,bl=>yV r (bC i bl)
theorem yW : ∀ {l : List Nat} {bl : ah} {id : Nat}, av id (yV l bl) = if id ∈ l then none else av id bl
 |[],bl,id=>by simp [yV]
 |i::r,bl,id=>by
  simp only [yV]
  rw [yW,bh]
  by_cases h1:id∈r
  ·simp [h1]
  ·by_cases h2 : id = i
   ·simp [h1,h2]
   ·simp [h1,h2]
theorem vU : ∀ {a b : ah} {id : Nat}, av id (a ++ b) = match av id a with | some B => some B | none => av id b
 |[],b,id=>by simp [av]
 |(s,x)::r,b,id=>by
  rw [List.cons_append,bA,bA]
  split
  ·rfl
  ·exact vU
section
variable {P:Program}
def sig (π:List Nat) (nx n:Nat):List Nat:=π++(List.range' π.length (n - π.length)).map (nx + ·)
theorem FK {f : Nat} {vs0 vs : List V} {Hx bl : ah} {nx : Nat} {π : List Nat} {Q0 Q : V → aF → Prop} (h : eW P f vs0 ⟨π.length, Hx⟩ Q0)
  (hargs:EA π vs0 vs) (qz:∀p∈Hx,EBk π nx bl p.1 p.2) (X6:∀p∈Hx,∀st j d env ps as bd N,p.2 ≠ .loop st j d env ps as bd N) (hnd:π.Nodup) (hlt:∀i∈π,i<nx+π.length)
  (hQ:∀r n bP,Q0 r ⟨n,bP⟩->π.length<=n/\∃r' X7,uK (sig π nx n) 8 r=some r'/\FJ (sig π nx n) bP=some X7/\Q r' ⟨nx+n,X7++yV π bl⟩):eW P f vs ⟨nx,bl⟩ Q:=by
 refine ⟨h.1,fun Y ι μ w as hI hl=>?_⟩
 let μ1:Mu:=μ.kf π
 have hμ1:∀j i,π[j]?=some i->μ1 j=μ i:=fun j i e=>by simp only [μ1,Mu.kf];rw [e];rfl
 let X:Nat->Prop:=fun b=>∃p∈Hx,∃L,μ1 p.1=some L/\L.b=b
 let Y1:Ctx:=⟨w,ι,μ1,none,X,[]⟩
 -- a lent block is one of the caller's
 have src:∀p∈Hx,∀L,μ1 p.1=some L->∃i C,π[p.1]?=some i/\μ i=some L/\av i bl=some C:=fun p hp L hL=>by
  obtain ⟨i,e1,hb⟩:=qz p hp
  rw [hμ1 _ _ e1] at hL
  refine ⟨i,?_⟩
  have:∃C,av i bl=some C:=by
   cases hB:p.2 with
   |cells cs fz=>rw [hB] at hb;obtain ⟨ds,e2,_⟩:=hb;exact ⟨_,e2⟩
   |arr t xs fz =>
    rw [hB] at hb
    rcases hb with e2|⟨_,hge⟩
    ·exact ⟨_,e2⟩
    ·rw [hI.nx i hge] at hL;cases hL
   |loop st j d env ps as bd N=>exact absurd hB (X6 p hp _ _ _ _ _ _ _ _)
   |iy=>rw [hB] at hb;exact ⟨_,hb⟩
   |map kt kg vt vg es=>rw [hB] at hb;exact ⟨_,hb⟩
   |ov t xs k p v=>rw [hB] at hb;obtain ⟨u,e2,_⟩:=hb;exact ⟨_,e2⟩
  obtain ⟨C,hC⟩:=this
  exact ⟨C,e1,hL,hC⟩
 have Qe:∀b,X b->Y.own b:=fun b ⟨p,hp,L,hL,e⟩=>by
  obtain ⟨i,C,_,h2,h3⟩:=src p hp L hL
  subst e;exact ((hI.live i C h3).loc h2).1
 have hown:∀b,Y1.own b->Y.own b:=fun b hb=>by
  rcases hb with hb|hb
  ·exact .inl (Nat.le_trans hI.below.size hb)
  ·exact Qe b hb
 have hmem:∀{id:Nat} {B:lJ},av id Hx=some B->(id,B)∈Hx:=fun h=>dD h
 have Hu:Inv P Y1 ι μ1 ⟨π.length,Hx⟩ w:=by
  refine ⟨JD.refl _ _,aj.le_refl _,fun _ _ _ _=>rfl,hI.rd,Mu.le_refl _,fun id hid=>?_,fun id B hB=>?_,fun id id' B B' L L' hb hb' hm hm' e=>?_,fun id B hB=>?_,hI.dH⟩
  ·have : π[id]? = none := List.getElem?_eq_none hid
   simp only [μ1,Mu.kf];rw [this];rfl
  ·obtain ⟨i, e1, hb⟩ := qz _ (hmem hB)
   have iw:=hμ1 id i e1
   cases B with
   |cells cs fz =>
    obtain ⟨ds,e2,ag⟩:=hb
    obtain ⟨L,vs,hM,Ol⟩:=hI.live i _ e2
    exact ⟨L,vs,⟨by rw [iw];exact hM.mu,.inr ⟨_,hmem hB,L,by rw [iw];exact hM.mu,rfl⟩,hM.row,hM.fits,hM.one,hM.HR,hM.sk⟩,aJ.kf ag.1 (fun i v u hv hu=>fun {x} hr=>(ag.2 i v u hv hu).rel hr) Ol⟩
   |arr t xs fz =>
    rcases hb with e2|⟨rfl,hge⟩
    ·rcases hI.live i _ e2 with ⟨e, hn⟩ | ⟨L, vs, hM, hc, hl⟩
     ·exact .inl ⟨e,by rw [iw];exact hn⟩
     ·exact .inr ⟨L,vs,⟨by rw [iw];exact hM.mu,.inr ⟨_,hmem hB,L,by rw [iw];exact hM.mu,rfl⟩,hM.row,hM.fits,hM.one,hM.HR,hM.sk⟩,hc,hl⟩
    ·exact .inl ⟨rfl,by rw [iw];exact hI.nx i hge⟩
   |ov t xs k p v =>
    obtain ⟨u,e2,ag⟩:=hb
    obtain ⟨L,us,vs,c,hM,hc,hl,q1,q2,q3,q4⟩:=hI.live i _ e2
    exact ⟨L,us,vs,c,⟨by rw [iw];exact hM.mu,.inr ⟨_,hmem hB,L,by rw [iw];exact hM.mu,rfl⟩,hM.row,hM.fits,hM.one,hM.HR,hM.sk⟩,hc,hl,q1,q2,q3,ag.rel q4⟩
   |loop st j d env ps as bd N=>exact absurd rfl (X6 _ (hmem hB) st j d env ps as bd N)
   |iy =>
    obtain ⟨L,q1,q2,q3⟩:=hI.live i _ hb
    exact ⟨L,by rw [iw];exact q1,.inr ⟨_,hmem hB,L,by rw [iw];exact q1,rfl⟩,q3⟩
   |map kt kg vt vg es =>
    obtain ⟨L,ms,clock,dJ,q1,q2,q3⟩:=hI.live i _ hb
    exact ⟨L,ms,clock,dJ,by rw [iw];exact q1,.inr ⟨_,hmem hB,L,by rw [iw];exact q1,rfl⟩,q3⟩
  ·obtain ⟨i, C, e1, e2, e3⟩ := src _ (hmem hb) L hm
   obtain ⟨i',C',Mi,e2',e3'⟩:=src _ (hmem hb') L' hm'
   have:=hI.inj i i' C C' L L' e3 e3' e2 e2' e
   subst this
   exact (List.getElem?_inj (List.getElem?_eq_some_iff.1 e1).1 hnd).1 (e1.trans Mi.symm)
  ·obtain ⟨i, e1, _⟩ := qz _ (hmem hB)
   exact (List.getElem?_eq_some_iff.1 e1).1
 have hl1:aJ ι μ1 vs0 as.toList:=aJ.kf hargs.1 (fun i v u hv hu=>fun {x} hr=>(hargs.2 i v u hv hu).rel hr) hl
 refine (h.2 Y1 ι μ1 w as Hu hl1).mono ?_
 rintro e w' ⟨v,ι',Ug,r,⟨n,bP⟩,rfl,hi,iu,oJ,hr,hq⟩
 obtain ⟨hn,r',X7,hr',aan,ZK⟩:=hQ _ _ _ hq
 -- names
 have hsg:∀j i,(sig π nx n)[j]?=some i->(j<π.length/\π[j]?=some i)\/(π.length<=j/\j<n/\i=nx+j):=fun j i e=>by
  unfold sig at e
  rw [List.getElem?_append] at e
  split at e
  ·rename_i hj;exact .inl ⟨hj,e⟩
  ·rename_i hj
   simp only [List.getElem?_map] at e
   cases hh:(List.range' π.length (n - π.length))[j - π.length]? with
   |none=>rw [hh] at e;cases e
   |some z =>
    rw [hh] at e
    simp only [Option.map_some,Option.some.injEq] at e
    obtain ⟨q1,q2⟩:=List.getElem?_eq_some_iff.1 hh
    simp at q1 q2
    exact .inr ⟨by omega,by omega,by omega⟩
 have hinj:∀a b i,(sig π nx n)[a]?=some i->(sig π nx n)[b]?=some i->a=b:=fun a b i ha hb=>by
  rcases hsg _ _ ha with ⟨h1,h2⟩|⟨h1,h2,h3⟩<;>rcases hsg _ _ hb with ⟨h4,h5⟩|⟨h4,h5,h6⟩
  ·exact (List.getElem?_inj h1 hnd).1 (h2.trans h5.symm)
  ·have:=hlt i (List.mem_of_getElem? h2);omega
  ·have:=hlt i (List.mem_of_getElem? h5);omega
  ·omega
 classical
 let μ':Mu:=fun i=>match μ i with
  |some L=>some L
  |none=>if hx:∃j L,(sig π nx n)[j]?=some i/\Ug j=some L then some hx.choose_spec.choose else none
 have hle:μ.le μ':=fun i L hL=>by simp only [μ'];rw [hL]
 have hnew:∀i,μ i=none->∀j L,(sig π nx n)[j]?=some i->Ug j=some L->μ' i=some L:=fun i hi j L hj hL=>by
  have hx:∃j L,(sig π nx n)[j]?=some i/\Ug j=some L:=⟨j,L,hj,hL⟩
  simp only [μ'];rw [hi];simp only;rw [dif_pos hx]
  obtain ⟨q1,q2⟩:=hx.choose_spec.choose_spec
  have key:∀j' L',Ug j'=some L'->j'=j->some L'=some L:=fun j' L' h1 h2=>by subst h2;rw [<-h1,hL]
  exact key _ _ q2 (hinj _ _ _ q1 hj)
 have hσ:∀j i L,(sig π nx n)[j]?=some i->Ug j=some L->μ' i=some L:=fun j i L hj hL=>by
  cases hμ:μ i with
  |none=>exact hnew i hμ j L hj hL
  |some L0 =>
   rcases hsg _ _ hj with ⟨h1,h2⟩|⟨h1,h2,h3⟩
   ·have e : Ug j = some L0 := iu j L0 (by rw [hμ1 j i h2]; exact hμ)
    rw [hL] at e;cases e
    exact hle i _ hμ
   ·rw [hI.nx i (by simp only;omega)] at hμ;cases hμ
 have hσ':∀j i,(sig π nx n)[j]?=some i->∀L,μ' i=some L->Ug j=some L:=fun j i hj L hL=>by
  cases hμ:μ i with
  |some L0 =>
   rw [hle i _ hμ] at hL;cases hL
   rcases hsg _ _ hj with ⟨h1,h2⟩|⟨h1,h2,h3⟩
   ·exact iu j _ (by rw [hμ1 j i h2];exact hμ)
   ·rw [hI.nx i (by simp only;omega)] at hμ;cases hμ
  |none =>
   simp only [μ'] at hL;rw [hμ] at hL;simp only at hL
   split at hL
   ·rename_i hx
    cases hL
    obtain ⟨q1,q2⟩:=hx.choose_spec.choose_spec
    have key:∀j' L',Ug j'=some L'->j'=j->Ug j=some L':=fun j' L' h1 h2=>by subst h2;exact h1
    exact key _ _ q2 (hinj _ _ _ q1 hj)
   ·cases hL
 have Uh:∀{id:Nat} {B:lJ} {L:Loc},av id bl=some B->id∉π->μ id=some L->L.b<w.heap.size/\¬X L.b:=fun {id B L} hB hid hL=>by
  refine ⟨((hI.live id B hB).loc hL).2,?_⟩
  rintro ⟨p,hp,L2,hL2,e⟩
  obtain ⟨i,C,e1,e2,e3⟩:=src p hp L2 hL2
  have:=hI.inj i id C B L2 L e3 hB e2 hL e
  subst this
  exact hid (List.mem_of_getElem? e1)
 have hkeep:∀{id:Nat} {B:lJ},av id bl=some B->id∉π->μ' id=μ id:=fun {id B} hB hid=>by
  cases hμ:μ id with
  |some L=>exact hle id _ hμ
  |none =>
   simp only [μ'];rw [hμ];simp only
   rw [dif_neg]
   rintro ⟨j,L,hj,_⟩
   have ae0:=hI.lt id B hB
   rcases hsg _ _ hj with ⟨h1,h2⟩|⟨h1,h2,h3⟩
   ·exact hid (List.mem_of_getElem? h2)
   ·simp only at ae0;omega
 have iD:∀{id:Nat} {B:lJ},av id (X7++yV π bl)=some B->(∃j B0,(sig π nx n)[j]?=some id/\av j bP=some B0/\TC (sig π nx n) B0=some B)\/(av id bl=some B/\id∉π):=fun {id B} hB=>by
  rw [vU] at hB
  split at hB
  ·rename_i B2 gh;cases hB;exact .inl (BD hinj aan gh)
  ·rw [yW] at hB
   split at hB
   ·cases hB
   ·rename_i hk;exact .inr ⟨hB,hk⟩
 have jQ:JD Y.x Y.w0 w':=by
  have b2:=oJ.below
  refine ⟨b2.os.trans hI.below.os,b2.tape.trans hI.below.tape,b2.output.trans hI.below.output,Nat.le_trans hI.below.size b2.size,fun k hk hx=>?_,Nat.le_trans hI.below.dr b2.dr,fun k hk=>(hI.below.maps k hk).trans (b2.maps k (Nat.lt_of_lt_of_le hk hI.below.size))⟩
  rw [b2.block k (Nat.lt_of_lt_of_le hk hI.below.size) (fun hX=>by
   rcases Qe k hX with h|h
   ·omega
   ·exact hx h)]
  exact hI.below.block k hk hx
 have hι:∀b o,b<w.heap.size->¬X b->ι' b o=ι b o:=fun b o hb hx=>oJ.iB b o hb hx
 refine ⟨v,ι',μ',r',_,rfl,hi,hle,?_,yU hσ hr' hr,ZK⟩
 refine ⟨jQ,aj.le_trans hI.i0 hi,fun b o hb hx=>?_,oJ.rd,Mu.le_trans hI.m0 hle,fun id hid=>?_,fun id B hB=>?_,fun id id' B B' L L' hb hb' hm hm' e=>?_,fun id B hB=>?_,hI.gl⟩
 ·rw [hι b o (Nat.lt_of_lt_of_le hb hI.below.size) (fun hX=>by
   rcases Qe b hX with h|h
   ·omega
   ·exact hx h)]
  exact hI.iB b o hb hx
 ·simp only at hid
  have h0:μ id=none:=hI.nx id (by simp only;omega)
  simp only [μ'];rw [h0];simp only
  rw [dif_neg]
  rintro ⟨j,L,hj,_⟩
  rcases hsg _ _ hj with ⟨h1,h2⟩|⟨h1,h2,h3⟩
  ·have:=hlt id (List.mem_of_getElem? h2);omega
  ·omega
 ·rcases iD hB with ⟨j, B0, e1, e2, e3⟩ | ⟨hB', hk⟩
  ·have lT := oJ.live j B0 e2
   cases B0 with
   |cells cs fz =>
    simp only [TC] at e3
    split at e3<;>cases e3
    rename_i ds hds
    obtain ⟨L,us,hM,Ol⟩:=lT
    exact ⟨L,us,⟨hσ _ _ _ e1 hM.mu,hown _ hM.old,hM.row,hM.fits,hM.one,hM.HR,hM.sk⟩,ji (fun _ _ _ h hr=>yU hσ h hr) hds Ol⟩
   |arr t xs fz =>
    cases e3
    rcases lT with ⟨e,hn0⟩|⟨L,us,hM,hc,hl⟩
    ·refine .inl ⟨e, ?_⟩
     cases hμ':μ' id with
     |none=>rfl
     |some L=>rw [hσ' j id e1 L hμ'] at hn0;cases hn0
    ·exact .inr ⟨L,us,⟨hσ _ _ _ e1 hM.mu,hown _ hM.old,hM.row,hM.fits,hM.one,hM.HR,hM.sk⟩,hc,hl⟩
   |loop st jj d env ps as bd N=>cases e3
   |ov t xs k p v=>cases e3
   |iy =>
    cases e3
    obtain ⟨L,q1,q2,q3⟩:=lT
    exact ⟨L,hσ _ _ _ e1 q1,hown _ q2,q3⟩
   |map kt kg vt vg es =>
    cases e3
    obtain ⟨L,ms,clock,dJ,q1,q2,q3,q4,q5⟩:=lT
    exact ⟨L,ms,clock,dJ,hσ _ _ _ e1 q1,hown _ q2,q3,q4,q5⟩
  ·have lT := hI.live id B hB'
   refine lT.mono hi hle (fun hn0=>(hkeep hB' hk).trans hn0) (fun L hL=>?_) (fun L hL ho o=>?_)
   ·obtain ⟨h1, h2⟩ := Uh hB' hk hL
    exact oJ.below.block _ h1 h2
   ·obtain ⟨h1, h2⟩ := Uh hB' hk hL
    rw [hι _ _ h1 h2];exact ho o
 ·rcases iD hb with ⟨j, B0, e1, e2, e3⟩ | ⟨hB1, JF⟩ <;> rcases iD hb' with ⟨j', B0', Mi, e2', e3'⟩ | ⟨hB2, hk2⟩
  ·have := oJ.inj j j' B0 B0' L L' e2 e2' (hσ' _ _ e1 _ hm) (hσ' _ _ Mi _ hm') e
   subst this;rw [e1] at Mi;cases Mi;rfl
  ·rw [hkeep hB2 hk2] at hm'
   obtain ⟨h1,h2⟩:=Uh hB2 hk2 hm'
   rcases ((oJ.live j B0 e2).loc (hσ' _ _ e1 _ hm)).1 with h3|h3
   ·simp only [Y1] at h3;omega
   ·rw [e] at h3;exact absurd h3 h2
  ·rw [hkeep hB1 JF] at hm
   obtain ⟨h1,h2⟩:=Uh hB1 JF hm
   rcases ((oJ.live j' B0' e2').loc (hσ' _ _ Mi _ hm')).1 with h3|h3
   ·simp only [Y1] at h3;omega
   ·rw [<-e] at h3;exact absurd h3 h2
  ·rw [hkeep hB1 JF] at hm
   rw [hkeep hB2 hk2] at hm'
   exact hI.inj id id' B B' L L' hB1 hB2 hm hm' e
 ·rcases iD hB with ⟨j, B0, e1, e2, e3⟩ | ⟨hB', hk⟩
  ·rcases hsg _ _ e1 with ⟨h1, h2⟩ | ⟨h1, h2, h3⟩
   ·have:=hlt id (List.mem_of_getElem? h2);simp only;omega
   ·simp only;omega
  ·have:=hI.lt id B hB';simp only at this ⊢;omega
end
end Go.AM
end
section
namespace Go.AM
structure Ht where
 f:Nat
 p:au
 q:au
 fn:p.T->Option q.T
def Ht.Ok (P:Program) (ht:Ht):Prop:=∀x y,ht.fn x=some y ->
 eW P ht.f ((ht.p.E x).map (·.2)) ⟨ht.p.iA.length,ht.p.B x⟩ fun r H=>r=get 0 (ht.q.E y)/\H=⟨ht.p.iA.length+ht.q.iA.length,ht.q.B y⟩
section
variable {P:Program} {R:Type}
def au.rdP (no:R) (p:au) (env:Env) (nx:Nat) (bl:ah) (k:List Nat->p.T->R):R :=
 tg no env nx bl [] p.iA [] 0 fun π=>match yR π p.bl with
  |true=>match Bz (A:=T3 p.bl Unit) π env p.env with
   |some f=>match P3 (A:=Unit) π nx bl p.bl with
    |some g=>k π (f (g ()))
    |none=>no
   |none=>no
  |false=>no
def Db : List Nat → Bool
 |[]=>true
 |i::r=>match Cw i r with
  |true=>false
  |false=>Db r
theorem BE : ∀ {l : List Nat}, Db l = true → l.Nodup
 |[],_=>.nil
 |i::r,h=>by
  simp only [Db] at h
  split at h
  ·cases h
  ·rename_i hm
   exact List.nodup_cons.2 ⟨(fun hi=>by rw [sL.2 hi] at hm;cases hm),BE h⟩
def Dc (n : Nat) : List Nat → Bool
 |[]=>true
 |i::r=>match Nat.blt i n with
  |true=>Dc n r
  |false=>false
theorem BF {n : Nat} : ∀ {l : List Nat}, Dc n l = true → ∀ i ∈ l, i < n
 |[],_,i,hi=>by simp at hi
 |j::r,h,i,hi=>by
  simp only [Dc] at h
  split at h
  ·rename_i hj
   rcases List.mem_cons.1 hi with rfl|hi
   ·have : i + 1 ≤ n := by simpa [Nat.blt] using hj
    omega
   ·exact BF h i hi
  ·cases h
def nX : List (Nat × BP) → Bool
 |[]=>true
 |(_,.loop _ _ _ _ _ _ _ _)::_=>false
 |(_,.arr _ _)::r=>nX r
 |(_,.cells _ _)::r=>nX r
 |(_,.iy)::r=>nX r
 |(_,.map _ _ _ _)::r=>nX r
 |(_,.ov _ _ _ _)::r=>nX r
theorem BG {A : Type} : ∀ {ps : List (Nat × BP)} (x : T3 ps A), nX ps = true → ∀ p ∈ SY ps x, ∀ st j d env ps as bd N, p.2 ≠ .loop st j d env ps as bd N
 |[],x,h,p,hp=>by simp [SY] at hp
 |(s,b)::r,x,h,p,hp=>by
  simp only [SY,List.mem_cons] at hp
  intro st j d env ps as bd N
  rcases hp with rfl|hp
  ·cases b with
   |loop=>simp [nX] at h
   |arr=>simp [BP.v]
   |cells=>simp [BP.v]
   |iy=>simp [BP.v]
   |map=>simp [BP.v]
   |ov=>simp [BP.v]
  ·refine BG _ ?_ p hp st j d env ps as bd N
   cases b<;>simp [nX] at h<;>exact h
def aap (kz:Kz R) (no:R) (ht:Ht) (vs:List V) (nx:Nat) (bl:ah) (K:V->Nat->ah->R):R :=
 match an (Nat.beq vs.length ht.p.env.length) (nX ht.p.bl) with
 |true=>ht.p.rdP no (args 0 vs) nx bl fun π x=>match an (Db π) (Dc (nx+π.length) π) with
  |true=>kz.bd (ht.fn x) fun y=>fN (π.length+ht.q.iA.length) fun n=>ht.q.go n y fun env _ bP _=>match uK (sig π nx n) 8 (get 0 env) with
   |some r'=>match FJ (sig π nx n) bP with
    |some X7=>fBl (X7++yV π bl) fun bl=>fN (nx+n) fun nx=>K r' nx bl
    |none=>kz.no
   |none=>kz.no
  |false=>no
 |false=>no
theorem args_at:∀{vs:List V} {n i:Nat},get i (args n vs)=if n<=i then vs.getD (i - n) .any else .any:=yp
theorem tq {A : Type} : ∀ {ps : List (Nat × SP)} {x : AB ps A}, (yM ps x).length = ps.length
 |[],_=>rfl
 |(_,_)::r,x=>by simp [yM,tq (ps:=r)]
theorem Ui {π:List Nat} {vs:List V} {env:Env} (hlen:vs.length=env.length) (hs:env.map (·.1)=List.range env.length) (h:EE π env (args 0 vs)):EA π (env.map (·.2)) vs:=by
 refine ⟨by simp [hlen],fun i v u hv hu=>?_⟩
 rw [List.getElem?_map] at hv
 cases hp:env[i]? with
 |none=>rw [hp] at hv;cases hv
 |some p =>
  rw [hp] at hv;cases hv
  have hi:=(List.getElem?_eq_some_iff.1 hp).1
  have e1:(env.map (·.1))[i]?=(List.range env.length)[i]?:=by rw [hs]
  rw [List.getElem?_map,hp,List.getElem?_range hi] at e1
  simp only [Option.map_some,Option.some.injEq] at e1
  have:=h p (List.mem_of_getElem? hp)
  rw [args_at,e1,if_pos (Nat.zero_le _)] at this
  simp only [Nat.sub_zero] at this
  have e2:vs.getD i .any=u:=by simp [List.getD,hu]
  rwa [e2] at this
theorem o6 {A : Type} : ∀ {ps : List (Nat × SP)} {x : AB ps A}, (yM ps x).map (·.1) = ps.map (·.1)
 |[],_=>rfl
 |(_,_)::r,x=>by simp [yM,o6 (ps:=r)]
theorem au.X8 {p:au} {x:p.T}:(p.E x).length=p.env.length:=tq
theorem au.xe {p:au} {x:p.T}:(p.E x).map (·.1)=p.env.map (·.1):=o6
def Ht.slots (ht:Ht):Prop:=ht.p.env.map (·.1)=List.range ht.p.env.length
theorem Uj {ht:Ht} (hok:ht.Ok P) (XP:ht.slots) {X:Type} {no:Option X} {vs:List V} {nx:Nat} {bl:ah} {K:V->Nat->ah->Option X} {r:X} (h:aap (iz X) no ht vs nx bl K=some r) :
  no=some r\/∀{Q:V->aF->Prop},(∀v nx bl,K v nx bl=some r->Q v ⟨nx,bl⟩)->eW P ht.f vs ⟨nx,bl⟩ Q:=by
 unfold aap at h
 split at h
 ·rename_i h0
  rw [aS] at h0
  have hlen:=Nat.eq_of_beq_eq_true h0.1
  unfold au.rdP at h
  have key:∀{ls:List Lc} {π0:List Nat} {b:Nat} {k:List Nat->Option X},tg no (args 0 vs) nx bl [] ls π0 b k=some r->no=some r\/∃rr,rr.length=ls.length/\k (π0++rr)=some r:=by
   intro ls
   induction ls with
   |nil=>intro π0 b k hk;exact .inr ⟨[],rfl,by simpa [tg] using hk⟩
   |cons l ls ih =>
    intro π0 b k hk
    simp only [tg] at hk
    split at hk
    ·rename_i i hi
     rw [gP,C5,gP] at hk
     rcases ih hk with hk|⟨rr,h1,h2⟩
     ·exact .inl hk
     ·exact .inr ⟨i::rr,by simp [h1],by simpa using h2⟩
    ·exact .inl hk
  rcases key h with h|⟨π,hπ,h⟩
  ·exact .inl h
  simp only [List.nil_append] at h
  split at h
  ·rename_i hap
   split at h
   ·rename_i f hf
    split at h
    ·rename_i g hg
     split at h
     ·rename_i hnb
      rw [aS] at hnb
      refine .inr fun {Q} hQ=>?_
      obtain ⟨y,hy,h⟩:=rN h
      rw [gP,au.go_eq] at h
      obtain ⟨h1,h2⟩:=tc hf (g ())
      obtain ⟨h3,h4⟩:=C4 hg ()
      split at h<;>try (cases h;done)
      rename_i r' hr'
      split at h<;>try (cases h;done)
      rename_i X7 aan
      rw [C7,gP] at h
      have eF:=hok _ _ hy
      rw [<-hπ] at eF
      have hB:ht.p.B (f (g ()))=SY ht.p.bl (g ()):=by unfold au.B;rw [h2]
      refine FK (Q0:=fun r H=>r=get 0 (ht.q.E y)/\H=⟨π.length+ht.q.iA.length,ht.q.B y⟩) eF ?_ ?_ ?_ (BE hnb.1) (BF hnb.2) ?_
      ·exact Ui (env:=yM ht.p.env (f (g ()))) (hlen.trans tq.symm) (o6.trans (XP.trans (by rw [tq]))) h1
      ·rw [hB];exact h3
      ·rw [hB];exact BG _ h0.2
      ·rintro r n bP ⟨rfl, e⟩
       cases e
       exact ⟨by omega,r',X7,hr',aan,hQ _ _ _ h⟩
     ·exact .inl h
    ·exact .inl h
   ·exact .inl h
  ·exact .inl h
 ·exact .inl h
def FL (kz : Kz R) (f : Nat) (vs : List V) (nx : Nat) (bl : ah) (K : V → Nat → ah → R) (no : R) : List Ht → R
 |[]=>no
 |ht::r=>match Nat.beq ht.f f with
  |true=>aap kz (FL kz f vs nx bl K no r) ht vs nx bl K
  |false=>FL kz f vs nx bl K no r
def Qf (P : Program) : List Ht → Prop
 |[]=>True
 |c::r=>(c.Ok P/\c.slots)/\Qf P r
theorem yX {X:Type} {no:Option X} {f:Nat} {vs:List V} {nx:Nat} {bl:ah} {K:V->Nat->ah->Option X} {r:X}:∀{hts:List Ht},Qf P hts->FL (iz X) f vs nx bl K no hts=some r ->
  no=some r\/∀{Q:V->aF->Prop},(∀v nx bl,K v nx bl=some r->Q v ⟨nx,bl⟩)->eW P f vs ⟨nx,bl⟩ Q
 |[],_,h=>.inl h
 |ht::hts,hok,h=>by
  simp only [FL] at h
  split at h
  ·rename_i hf
   have e:=Nat.eq_of_beq_eq_true hf
   subst e
   rcases Uj hok.1.1 hok.1.2 h with h|h
   ·exact yX hok.2 h
   ·exact .inr h
  ·exact yX hok.2 h
def aM (AE:List Ct) (hts:List Ht):Cx where
 pc kz f vs K:=FE kz f vs K AE
 ca kz f vs nx bl K:=FL kz f vs nx bl K (aaj AE kz f vs nx bl K) hts
 rd kz _ _ _ _ _:=kz.no
theorem ak {AE:List Ct} {hts:List Ht} (h:Kh P AE) (h2:Qf P hts):(aM AE hts).Ok P where
 X1 hk:=qk h hk
 T2:=by
  intro X f vs nx bl K r hk Q hQ
  rcases yX h2 hk with hk|hk
  ·exact (Uc h).T2 hk hQ
  ·exact hk hQ
 rok hk:=by cases hk
theorem MQ {f:Nat} {vs:List V} {H:aF} {Q:V->aF->Prop} (h:eW P f vs H fun r H'=>∃r'' H'' π,jw H.next π ⟨[(0,r)],H',[]⟩ ⟨[(0,r'')],H'',[]⟩/\Q r'' H''):eW P f vs H Q :=
 ⟨h.1,fun Y ι μ w as hI hl=>(h.2 Y ι μ w as hI hl).mono fun e w' ⟨v,ι',μ',r,H',h1,h2,h3,h4,h5,r'',H'',π,h6,h7⟩=>by
  let Y2:Ctx:=⟨Y.w0,Y.ι0,fun i=>if i<H.next then μ i else none,Y.ro,Y.x,[]⟩
  have oJ:Inv P Y2 ι' μ' H' w':=⟨h4.below,h4.i0,h4.iB,h4.rd,(fun i L hL=>by
   simp only [Y2] at hL
   split at hL
   ·exact h3 _ _ hL
   ·cases hL),h4.nx,h4.live,h4.inj,h4.lt,h4.gl⟩
  have hR:dU P 1 Y2 ι' μ' ⟨[(0,r)],H',[]⟩ { tmps:=#[v],defers:=[] } w':=⟨(fun t=>by
   rw [cz]
   split
   ·rename_i e;subst e;exact h5
   ·exact .any _),rfl,oJ,rfl⟩
  have mH:=h6.rep (fun i hi=>by simp only [Y2];rw [if_neg (by omega)]) hR
  have hle:μ.le (μ'.kf π):=fun i L hL=>by
   have hlt:i<H.next:=by
    rcases Nat.lt_or_ge i H.next with h|h
    ·exact h
    ·rw [hI.nx i h] at hL;cases hL
   exact mH.inv.m0 i L (by simp only [Y2];rw [if_pos hlt];exact hL)
  refine ⟨v,ι',μ'.kf π,r'',H'',h1,h2,hle,⟨h4.below,h4.i0,h4.iB,h4.rd,Mu.le_trans hI.m0 hle,mH.inv.nx,mH.inv.live,mH.inv.inj,mH.inv.lt,hI.gl⟩,?_,h7⟩
  have:=mH.env 0
  rw [cz,if_pos rfl] at this
  exact this⟩
def BH (kz:Kz R) (rs:List RV) (tys:List (Option Ty)) (K:V->Nat->ah->R):Kc R:=fun e env nx bl ms=>match e with
 | .exit _=>kz.no
 | .normal=>go env nx bl ms
 | .ret=>go env nx bl ms
where go (env:Env) (nx:Nat) (bl:ah) (ms:List Nat):R:=match fk ms bl with
 |some bl=>match wI bW ⟨env,⟨nx,bl⟩,[]⟩ rs with
  |some vs=>fV (vK (cq (hTs tys) vs)) fun v=>K v nx bl
  |none=>kz.no
 |none=>kz.no
theorem yY {X : Type} {rs : List RV} {tys : List (Option Ty)} {K : V → Nat → ah → Option X} {r : X} {e : Ex} {env : Env} {nx : Nat} {bl : ah} {ms : List Nat} (h : BH (iz X) rs tys K e env nx bl ms = some r) {Q : V → aF → Prop}
  (hQ:∀v nx bl,K v nx bl=some r->Q v ⟨nx,bl⟩):CK rs tys Q e ⟨env,⟨nx,bl⟩,ms⟩:=by
 have key:BH.go (iz X) rs tys K env nx bl ms=some r->CK.rD rs tys Q ⟨env,⟨nx,bl⟩,ms⟩:=fun hg=>by
  unfold BH.go at hg
  unfold CK.rD
  split at hg<;>try (cases hg;done)
  rename_i bP h1
  simp only
  rw [h1]
  simp only
  split at hg<;>try (cases hg;done)
  rename_i vs h2
  rw [h2]
  rw [ow] at hg
  exact hQ _ _ _ hg
 cases e with
 |exit i=>cases h
 |normal=>exact key h
 |ret=>exact key h
def hfE {N k:Nat} (kz:Kz R) (cx:Cx) (ar:Ar) (pre:List Nat) (rs:List RV) (tys:List (Option Ty)) (p q:au) (body:D P N none k) (inr:q.T->R) (x:p.T):R :=
 p.go k x fun env nx bl _=>kE kz cx ar body env nx bl [] (BH kz rs tys fun r nx bl=>q.rd kz.no pre k [(0,r)] nx bl [] inr)
theorem FM : ∀ {env : Env} {n : Nat}, env.map (·.1) = List.range' n env.length → args n (env.map (·.2)) = env
 |[],n,_=>rfl
 |(s,v)::r,n,h=>by
  simp only [List.map_cons,List.length_cons,List.range'_succ,List.cons.injEq] at h
  simp only [List.map_cons,args]
  rw [FM h.2,h.1]
theorem bV (mixed : P.follows .mixedOrders = true) {cx : Cx} (gm : cx.Ok P) {func : Func} {fn : Fn} {ht : Ht} {k : Nat} (hk : ht.p.iA.length = k) (hf : P.funcs[ht.f]? = some func) (htr : cM P func = some fn) (cF : Enters P ht.f)
  (body:D P fn.N none k) (hbody:body.er=fn.body) (hnp:Nat.ble ht.p.env.length fn.np=true) (XP:ht.slots) (hq:∃s,ht.q.env=[(0,s)]) (hqm:ht.q.ms=[]) {pre:List Nat} (hpre:pre=List.range k)
  (hfn:∀x,hfE (iz ht.q.T) cx bW pre fn.res fn.tys ht.p ht.q body some x=ht.fn x):ht.Ok P:=by
 intro x y hxy
 subst hpre
 rw [<-hfn x] at hxy
 unfold hfE at hxy
 rw [au.go_eq] at hxy
 subst hk
 refine MQ ?_
 refine kR hf htr cF (ig mixed) (by rw [List.length_map,au.X8];exact Nat.le_of_ble_eq_true hnp) ?_
 have ha:args 0 ((ht.p.E x).map (·.2))=ht.p.E x:=FM (by rw [au.xe,au.X8,<-List.range_eq_range'];exact XP)
 rw [ha,<-hbody]
 refine kX gm hxy fun e env nx bl ms hk=>?_
 refine yY hk fun v nx bl hk=>?_
 obtain ⟨y',π,h1,h2⟩:=au.dR hk
 cases h1
 obtain ⟨s,hs⟩:=hq
 have he:ht.q.E y=[(0,get 0 (ht.q.E y))]:=by
  have h1:(ht.q.E y).map (·.1)=[0]:=by rw [au.xe,hs];rfl
  cases h2:ht.q.E y with
  |nil=>rw [h2] at h1;cases h1
  |cons a r =>
   obtain ⟨a1,a2⟩:=a
   rw [h2] at h1
   simp only [List.map_cons,List.cons.injEq,List.map_eq_nil_iff] at h1
   obtain ⟨rfl,rfl⟩:=h1
   rw [cz,if_pos rfl]
 refine ⟨_,_,π,?_,rfl,rfl⟩
 have e:au.st ht.p.iA.length ht.q y=⟨[(0,get 0 (ht.q.E y))],⟨ht.p.iA.length+ht.q.iA.length,ht.q.B y⟩,[]⟩:=by
  unfold au.st;rw [<-he,hqm]
 rw [<-e];exact h2
def Ir {A B : Type} (F : (A → Option B) → A → Option B) : Nat → A → Option B
 |0=>fun _=>none
 |n+1=>F (Ir F n)
noncomputable def wN {A B:Type} (F:(A->Option B)->A->Option B) (x:A):Option B:=by
 classical exact if h:∃(N:Nat) (y:B),∀n,N<=n->Ir F n x=some y then some h.choose_spec.choose else none
theorem BI {A B:Type} {F:(A->Option B)->A->Option B} {x:A} {y:B} (h:wN F x=some y):∃n,Ir F n x=some y:=by
 unfold wN at h
 split at h
 ·rename_i hx;cases h;exact ⟨hx.choose,hx.choose_spec.choose_spec _ (Nat.le_refl _)⟩
 ·cases h
theorem Dd {A B:Type} {F:(A->Option B)->A->Option B} {x:A} {y:B} {N:Nat} (h:∀n,N<=n->Ir F n x=some y):wN F x=some y:=by
 unfold wN
 have hx:∃(N:Nat) (y:B),∀n,N<=n->Ir F n x=some y:=⟨N,y,h⟩
 rw [dif_pos hx]
 have h1:=hx.choose_spec.choose_spec (max N hx.choose) (Nat.le_max_right _ _)
 rw [h _ (Nat.le_max_left _ _)] at h1
 exact h1.symm
theorem Is {f:Nat} {p q:au} {F:(p.T->Option q.T)->p.T->Option q.T} (h:∀rec,Ht.Ok P ⟨f,p,q,rec⟩->Ht.Ok P ⟨f,p,q,F rec⟩):Ht.Ok P ⟨f,p,q,wN F⟩:=by
 have key:∀n,Ht.Ok P ⟨f,p,q,Ir F n⟩:=by
  intro n
  induction n with
  |zero=>intro x y hxy;cases hxy
  |succ n ih=>exact h _ ih
 intro x y hxy
 obtain ⟨n,hn⟩:=BI hxy
 exact key n x y hn
theorem ct_fix {f:Nat} {ps:List SP} {res:SP} {F:(rQ ps Unit->Option (res.T Unit))->rQ ps Unit->Option (res.T Unit)} (h:∀rec,Ct.Ok P ⟨f,ps,res,rec⟩->Ct.Ok P ⟨f,ps,res,F rec⟩):Ct.Ok P ⟨f,ps,res,wN F⟩:=by
 have key:∀n,Ct.Ok P ⟨f,ps,res,Ir F n⟩:=by
  intro n
  induction n with
  |zero=>intro x y hxy;cases hxy
  |succ n ih=>exact h _ ih
 intro x y hxy
 obtain ⟨n,hn⟩:=BI hxy
 exact key n x y hn
end
end Go.AM
end
section
namespace Go.AM
open Go.RowKit Go.ChangeShapes Go.WideShapes
def holes (tys:List Ty):List SP:=tys.map fun t=>.c (.hole t)
def FN : (tys : List Ty) → rQ (holes tys) Unit → Prop
 |[],_=>True
 |t::r,x=>Wf t x.1/\FN r x.2
section
variable {P:Program} {H:Type} {enc:TypeId×Value->H} {W:World} {base:Nat}
def qH (P : Program) (t : TypeId) : Ty → Bool
 | .unit=>false
 | .prod _ _=>match P.underlying t with
  |some (.struct _)=>true
  |some (.array _ _)=>true
  |_=>false
 |_=>match P.underlying t with
  |some (.struct _)=>false
  |some (.array _ _)=>false
  |_=>true
theorem Qg {t : TypeId} {ty : Ty} (hok : gq P 8 t ty = true) (MR : qH P t ty = true) {v : Value} (hv : Value.okWide P W .any base t v) {d : DataW H} {p : List MemPlace}
  (h:DataW.Trod enc P W 0 (fun _=>true) true t v d p):∃y:ty.den,Rel (jL W) (fun _=>none) (tyV ty y) v/\Wf ty y:=by
 obtain ⟨fuel,hf⟩:=h
 obtain ⟨y,hy,wy⟩:=Px hok hf
 refine ⟨y,?_,wy⟩
 cases ty with
 |unit=>simp [qH] at MR
 |bool =>
  cases hu:P.underlying t with
  |none=>simp [gq,hu] at hok
  |some u =>
   cases u<;>first|(exfalso;simp [qH,hu] at MR;done)|(exfalso;simp [gq,hu] at hok;done)|simp [gq,hu] at hok
   ·obtain ⟨b, rfl⟩ := okWide_bool hu hv
    simp only [af,Value.cells,List.cons.injEq,Value.bool.injEq,and_true] at hy
    subst hy;exact .bool _
 |str =>
  cases hu:P.underlying t with
  |none=>simp [gq,hu] at hok
  |some u =>
   cases u<;>first|(exfalso;simp [qH,hu] at MR;done)|(exfalso;simp [gq,hu] at hok;done)|simp [gq,hu] at hok
   ·obtain ⟨b, rfl⟩ := okWide_string hu hv
    simp only [af,Value.cells,List.cons.injEq,Value.string.injEq,and_true] at hy
    subst hy;exact .str _
 |int k =>
  cases hu:P.underlying t with
  |none=>simp [gq,hu] at hok
  |some u =>
   cases u<;>first|(exfalso;simp [qH,hu] at MR;done)|(exfalso;simp [gq,hu] at hok;done)|simp [gq,hu] at hok
   ·subst hok
    obtain ⟨b,rfl⟩:=okWide_int hu hv
    simp only [af,Value.cells,List.cons.injEq,Value.int.injEq,true_and,and_true] at hy
    subst hy;exact .int _ _
 |list te =>
  cases hu:P.underlying t with
  |none=>simp [gq,hu] at hok
  |some u =>
   cases u<;>first|(exfalso;simp [qH,hu] at MR;done)|(exfalso;simp [gq,hu] at hok;done)|simp [gq,hu] at hok
   ·obtain ⟨a, len, cap, rfl⟩ := okWide_slice hu hv
    exact .fM _ _ _ hy
 |cL d g a =>
  cases hu:P.underlying t with
  |none=>simp [gq,hu] at hok
  |some u =>
   cases u<;>first|(exfalso;simp [qH,hu] at MR;done)|(exfalso;simp [gq,hu] at hok;done)|simp [gq,hu] at hok
 |prod a b =>
  cases hu:P.underlying t with
  |none=>simp [gq,hu] at hok
  |some u =>
   have hcs:∃cs:Array Value,v = .agg cs:=by
    cases u<;>simp [gq,hu] at hok
    ·simp only [Value.okWide,hu] at hv;obtain ⟨cs,h1,_⟩:=hv;exact ⟨cs,h1⟩
    ·obtain ⟨cs,h1,_⟩:=okWide_struct hu hv;exact ⟨cs,h1⟩
   obtain ⟨cs,rfl⟩:=hcs
   have hr:=fD (μ:=fun _=>none) hy
   refine .agg _ cs ?_ (fun i v x hv hx=>hr.2 i v x hv (by simpa [Value.cells] using hx)) ?_
   ·have:=hr.1;simpa [Value.cells] using this
   ·intro x hx;exact af.one hy x (by simpa [Value.cells] using hx)
theorem vV:∀{ts:List TypeId} {tys:List Ty} {vs:List Value} {ds:List (DataW H)} {p:List MemPlace},ts.length=tys.length->(∀(i:Nat) t ty,ts[i]?=some t->tys[i]?=some ty->gq P 8 t ty=true/\qH P t ty=true) ->
  (∀(j:Nat) t v,ts[j]?=some t->vs[j]?=some v->Value.okWide P W .any base t v)->DataW.TrodAll enc P W 0 (fun _=>true) true ts vs ds p ->
  ∃x:rQ (holes tys) Unit,aJ (jL W) (fun _=>none) (FB (holes tys) x) vs/\FN tys x
 |[],[],vs,ds,p,_,_,_,h=>by
  obtain ⟨rfl,_,_⟩:=trodAll_nil h
  exact ⟨(),.nil,trivial⟩
 |t::ts,ty::tys,vs,ds,p,hl,hok,hv,h=>by
  obtain ⟨v,vs',d,ds',p1,q,rfl,rfl,rfl,h1,h2⟩:=trodAll_cons h
  obtain ⟨k1,k2⟩:=hok 0 t ty rfl rfl
  obtain ⟨y,hy,wy⟩:=Qg k1 k2 (hv 0 t v rfl rfl) h1
  obtain ⟨x,hx,wx⟩:=vV (by simpa using hl) (fun i t ty ht E2=>hok (i+1) t ty (by simpa using ht) (by simpa using E2)) (fun j t v ht rE=>hv (j+1) t v (by simpa using ht) (by simpa using rE)) h2
  exact ⟨(y,x),.cons hy hx,wy,wx⟩
 |[],_::_,_,_,_,hl,_,_,_=>by simp at hl
 |_::_,[],_,_,_,hl,_,_,_=>by simp at hl
theorem qI (hl:laidOutB P=true) {W':World} (hb:Below W.heap.size W W'):∀{ts:List TypeId} {vs:List Value} {ds:List (DataW H)} {p:List MemPlace},(∀t∈ts,P.readableRec t=true/\t<P.types.size) ->
  DataW.TrodAll enc P W 0 (fun _=>true) true ts vs ds p->(∀x∈p,x.block<W.heap.size)->DataW.TrodAll enc P W' 0 (fun b=>decide (b<W.heap.size)) true ts vs ds p
 |[],vs,ds,p,_,h,_=>by
  obtain ⟨rfl,rfl,rfl⟩:=trodAll_nil h
  exact trodAll_mk0
 |t::ts,vs,ds,p,ht,h,hp=>by
  obtain ⟨v,vs',d,ds',p1,q,rfl,rfl,rfl,h1,h2⟩:=trodAll_cons h
  obtain ⟨k1,k2⟩:=ht t (List.mem_cons_self ..)
  exact trodAll_cons_mk (Below.trod hl k1 k2 h1 hb (fun x hx=>hp x (List.mem_append_left _ hx))) (qI hl hb (fun t ht'=>ht t (List.mem_cons_of_mem _ ht')) h2 (fun x hx=>hp x (List.mem_append_right _ hx)))
end
def rR (P : Program) : List TypeId → List Ty → Bool
 |[],[]=>true
 |t::ts,ty::tys=>gq P 8 t ty&&qH P t ty&&P.readableRec t&&Nat.blt t P.types.size&&rR P ts tys
 |_,_=>false
theorem yZ {P : Program} : ∀ {ts : List TypeId} {tys : List Ty}, rR P ts tys = true → ts.length = tys.length ∧ (∀ (i : Nat) t ty, ts[i]? = some t → tys[i]? = some ty → gq P 8 t ty = true ∧ qH P t ty = true) ∧ ∀ t ∈ ts, P.readableRec t = true ∧ t < P.types.size
 |[],[],_=>⟨rfl,fun i t ty h=>by simp at h,fun t h=>by simp at h⟩
 |t::ts,ty::tys,h=>by
  simp only [rR,Bool.and_eq_true] at h
  obtain ⟨⟨⟨⟨h1,h2⟩,h3⟩,h4⟩,h5⟩:=h
  obtain ⟨k1,k2,k3⟩:=yZ h5
  refine ⟨by simp [k1],fun i t' ty' ht E2=>?_,fun t' ht=>?_⟩
  ·cases i with
   |zero=>simp at ht E2;subst ht;subst E2;exact ⟨h1,h2⟩
   |succ i=>exact k2 i t' ty' (by simpa using ht) (by simpa using E2)
  ·rcases List.mem_cons.1 ht with rfl | ht
   ·exact ⟨h3,by simpa [Nat.blt,Nat.succ_le_iff] using h4⟩
   ·exact k3 t' ht
 |[],_::_,h=>by simp [rR] at h
 |_::_,[],h=>by simp [rR] at h
theorem AG {P : Program} {H : Type} {enc : TypeId × Value → H} {f : FuncId} {fn : Func} {s : ChangeSpec} (tys : List Ty) (laid : laidOutB P = true) (hvars : s.vars = []) (aaq : rR P fn.params.toList tys = true)
  {tb:TypeId} (hres:fn.resultTypes=#[tb]) (htb:P.underlying tb=some .bool)
  (hs:∀ds:List (DataW H),ds.length=tys.length->(s.fn H ds).results=[.lit (.bool true)]/\(s.fn H ds).args=ds/\(s.fn H ds).vars=[])
  {F:rQ (holes tys) Unit->Option (Bool×Unit)} (hct:Ct.Ok P ⟨f,holes tys,.c (.hole .bool),F⟩) (hF:∀x,FN tys x->F x=some (true,()))
  {W:World} {base:Nat} {args:Array Value} {ds gs:List (DataW H)} {before:List MemPlace} (hgl:jt P (jL W)) (hval:∀(j:Nat) t v,fn.params[j]?=some t->args[j]?=some v->Value.okWide P W .any base t v)
  (hW:DataW.Whole enc P fn.params.toList s.vars false W args.toList ds gs before) :
  Calls P f args W fun e W'=>∃v,e = .returned v/\s.post enc P fn false true false false W args v W':=by
 have hW':=hW
 obtain ⟨p,q,hA,hV,rfl,hfz,hnd⟩:=hW
 rw [hvars] at hV
 obtain ⟨rfl,rfl⟩:=trodVars_none hV
 obtain ⟨k1,k2,k3⟩:=yZ aaq
 obtain ⟨x,hx,wx⟩:=vV (base:=base) k1 k2 (fun j t v ht hv=>hval j t v (by simpa using ht) (by simpa using hv)) hA
 have hlen:ds.length=tys.length:=by
  rw [<-k1]
  have:∀{ts:List TypeId} {vs:List Value} {ds:List (DataW H)} {p:List MemPlace},DataW.TrodAll enc P W 0 (fun _=>true) true ts vs ds p->ds.length=ts.length:=by
   intro ts
   induction ts with
   |nil=>intro vs ds p h;obtain ⟨rfl,rfl,rfl⟩:=trodAll_nil h;rfl
   |cons t ts ih=>intro vs ds p h;obtain ⟨v,vs',d,ds',p1,q,rfl,rfl,rfl,h1,h2⟩:=trodAll_cons h;simp [ih h2]
  exact this hA
 simp only [List.append_nil] at hW'
 have eF:=(hct x (true,()) (hF x wx)).2 (jL W) W args hgl (fun b o x h=>h) hx
 refine (callsIn_wide.1 eF).mono ?_
 rintro e W' ⟨v,ι',rfl,_,_,_,jQ,hr⟩
 have hv:v = .bool true:=by
  have hr':Rel ι' (fun _=>none) (.bool true) v:=hr
  cases hr';rfl
 subst hv
 have hlt:∀x∈p,x.block<W.heap.size:=fun x hx=>hW'.lt x hx
 obtain ⟨s1,s2,s3⟩:=hs (ds++[]) (by simpa using hlen)
 simp only [List.append_nil] at s1 s2 s3
 refine ⟨_,rfl,ds,[],p,[],p,[],hW',?_,?_,?_,jQ.b.frame _,fun h=>by cases h⟩
 ·simp only [List.append_nil]
  rw [s1,hres]
  exact trodAll_cons_mk (p:=[]) (p':=[]) (shut_bool htb _) trodAll_mk0
 ·simp only [List.append_nil]
  rw [s2]
  exact qI laid jQ.b k3 hA hlt
 ·simp only [List.append_nil]
  rw [s3,hvars]
  rfl
theorem De {P : Program} {H : Type} {enc : TypeId × Value → H} {f : FuncId} {fn : Func} {s : ChangeSpec} (tys : List Ty) (laid : laidOutB P = true) (hvars : s.vars = []) (aaq : rR P fn.params.toList tys = true)
  {tb:TypeId} (hres:fn.resultTypes=#[tb]) (htb:P.underlying tb=some .bool)
  (hs:∀ds:List (DataW H),ds.length=tys.length->(s.fn H ds).results=[.lit (.bool true)]/\(s.fn H ds).args=ds/\(s.fn H ds).vars=[])
  {F:rQ (holes tys) Unit->Option (Bool×Unit)} (hct:Ct.Ok P ⟨f,holes tys,.c (.hole .bool),F⟩) (hF:∀x,FN tys x->F x=some (true,()))
  {W:World} {base:Nat} {args:Array Value} {ds gs:List (DataW H)} {before:List MemPlace} (hno:(List.range P.globals.size).all (fun g=>(pY P g).isNone)=true) (hval:∀(j:Nat) t v,fn.params[j]?=some t->args[j]?=some v->Value.okWide P W .any base t v)
  (hW:DataW.Whole enc P fn.params.toList s.vars false W args.toList ds gs before) :
  Calls P f args W fun e W'=>∃v,e = .returned v/\s.post enc P fn false true false false W args v W' :=
 AG tys laid hvars aaq hres htb hs hct hF (jt.none hno _) hval hW
end Go.AM
end
section
namespace Go.AM
theorem aK {z:Int} (h1 : -9223372036854775808<=z) (h2:z<=9223372036854775807):dV .i64 z=true:=by
 have e1:IntKind.i64.min = -9223372036854775808:=by decide
 have e2:IntKind.i64.max=9223372036854775807:=by decide
 simp only [dV,e1,e2,Bool.and_eq_true,decide_eq_true_eq]
 exact ⟨h1,h2⟩
theorem Uk {z:Int} (h1:0<=z) (h2:z<=18446744073709551615):dV .u64 z=true:=by
 have e1:IntKind.u64.min=0:=by decide
 have e2:IntKind.u64.max=18446744073709551615:=by decide
 simp only [dV,e1,e2,Bool.and_eq_true,decide_eq_true_eq]
 exact ⟨h1,h2⟩
theorem bH {i n:Int} (h:0<=i) (h2:i<n):eA i n=true:=by simp [eA,h,h2]
theorem aP {X:Type} {z:Int} {x:Option X} (h1 : -9223372036854775808<=z) (h2:z<=9223372036854775807):need (dV .i64 z) x=x:=cD (aK h1 h2)
theorem fI {X:Type} {i n:Int} {x:Option X} (h:0<=i) (h2:i<n):need (eA i n) x=x:=cD (bH h h2)
theorem aI {X:Type} {p:Prop} [Decidable p] {x:Option X} (h:p):need (decide p) x=x:=cD (decide_eq_true h)
theorem Qh {X:Type} {c:Bool} {x y:Option X} (h:c=true):rM c x y=x:=by rw [h,sU]
theorem It {X:Type} {c:Bool} {x y:Option X} (h:c=false):rM c x y=y:=by rw [h,gO]
theorem aQ {X:Type} {p:Prop} [Decidable p] {x y:Option X}:rM (decide p) x y=if p then x else y:=by
 by_cases h:p<;>simp [h]
theorem bE {X:Type} {a b:Int} {x y:Option X}:rM (a==b) x y=if a=b then x else y:=by
 by_cases h:a=b
 ·simp [h]
 ·have : (a == b) = false := by simpa using h
  rw [this,gO,if_neg h]
theorem bU {X:Type} {c:Bool} {x y:Option X}:rM (!c) x y=rM c y x:=by cases c<;>simp
theorem aA {A X:Type} {o:Option A} {a:A} {f:A->Option X} (h:o=some a):dF o f=f a:=by rw [h,aH]
end Go.AM
end
section
namespace Go.AM
structure Le {X:Type} (a b:Option X):Prop where
 h:∀y,a=some y->b=some y
def Qi {X:Type} (c:Bool) (x:Option X):Option X:=match c with
 |true=>x
 |false=>none
def Qj {A X:Type} (o:Option A) (f:A->Option X):Option X:=match o with
 |some a=>f a
 |none=>none
def brC {X:Type} (c:Bool) (x y:Option X):Option X:=match c with
 |true=>x
 |false=>y
theorem Le.r {X:Type} {a:Option X}:Le a a:=⟨fun _ h=>h⟩
theorem Le.n {X:Type} {a:Option X}:Le none a:=⟨fun _ h=>by cases h⟩
theorem Le.nd {X:Type} {c:Bool} {a b:Option X} (h:Le a b):Le (Qi c a) (need c b):=by
 cases c
 ·exact Le.n
 ·simpa [Qi] using h
theorem Le.br {X:Type} {c:Bool} {a b a' b':Option X} (h:Le a a') (h':Le b b'):Le (brC c a b) (rM c a' b'):=by
 cases c
 ·simpa [brC] using h'
 ·simpa [brC] using h
theorem Le.bd {A X:Type} {o o':Option A} {f f':A->Option X} (h:Le o o') (hf:∀y,Le (f y) (f' y)):Le (Qj o f) (dF o' f'):=⟨fun y hy=>by
 cases o with
 |none=>cases hy
 |some a=>rw [h.h a rfl,aH];exact (hf a).h y hy⟩
theorem Le.iter {α β:Type} {g g':α->Option (α ⊕ β)} {n:Nat} {x:α} (h:∀x,Le (g x) (g' x)):Le (jm g n x) (AM.iter g' x):=⟨fun y hy=>by
 refine CW (n:=n) ?_
 induction n generalizing x with
 |zero=>cases hy
 |succ n ih =>
  simp only [jm] at hy ⊢
  cases hg:g x with
  |none=>rw [hg] at hy;cases hy
  |some r =>
   rw [hg] at hy
   rw [(h x).h r hg]
   cases r with
   |inl z=>exact ih hy
   |inr b=>exact hy⟩
theorem Le.Ir {A B:Type} {F F':(A->Option B)->A->Option B} (h:∀r r',(∀x,Le (r x) (r' x))->∀x,Le (F r x) (F' r' x)):∀n m,n<=m->∀x,Le (AM.Ir F n x) (AM.Ir F' m x):=by
 intro n
 induction n with
 |zero=>intro m _ x;exact Le.n
 |succ n ih =>
  intro m hm x
  cases m with
  |zero=>omega
  |succ m=>exact h _ _ (ih m (by omega)) x
theorem Le.fix {A B:Type} {F F':(A->Option B)->A->Option B} {n:Nat} {x:A} (h:∀r r',(∀x,Le (r x) (r' x))->∀x,Le (F r x) (F' r' x)):Le (AM.Ir F n x) (wN F' x):=⟨fun y hy =>
 Dd (N:=n) fun m hm=>(Le.Ir h n m hm x).h y hy⟩
end Go.AM
end
section
namespace Go.AM
@[reducible] def onS {A B:Type} {Y:Type _} (f:A->Y) (g:B->Y) (z:A ⊕ B):Y:=match z with
 | .inl a=>f a
 | .inr b=>g b
inductive Tr:Type->Type->Type->Type 1 where
 |ret {A0 B0 X:Type} (x:X):Tr A0 B0 X
 |no {A0 B0 X:Type}:Tr A0 B0 X
 |br {A0 B0 X:Type} (c:Bool) (a b:Tr A0 B0 X):Tr A0 B0 X
 |am {A0 B0 X:Type} (d:DecidableEq X) (a b:Tr A0 B0 X):Tr A0 B0 X
 |nd {A0 B0 X:Type} (c:Bool) (a:Tr A0 B0 X):Tr A0 B0 X
 |bd {A0 B0 A X:Type} (o:Tr A0 B0 A) (k:A->Tr A0 B0 X):Tr A0 B0 X
 |jx {A0 B0 A X:Type} (o:Tr A0 B0 (A ⊕ X)) (k:A->Tr A0 B0 X):Tr A0 B0 X
 |sm {A0 B0 A B X:Type} (z:A ⊕ B) (f:A->Tr A0 B0 X) (g:B->Tr A0 B0 X):Tr A0 B0 X
 |it {A0 B0 A B:Type} (step:A->Tr A0 B0 (A ⊕ B)) (x:A):Tr A0 B0 B
 |rc {A0 B0:Type} (x:A0):Tr A0 B0 B0
 |fx {A0 B0 A1 B1:Type} (body:A1->Tr A1 B1 B1) (x:A1):Tr A0 B0 B1
 |up {A0 B0 X:Type} (t:Tr Unit Unit X):Tr A0 B0 X
 |of {A0 B0 X:Type} (o:Option X):Tr A0 B0 X
 |mp {A0 B0 E A B:Type} (step:E->A->Tr A0 B0 (A ⊕ B)) (es:List E) (x:A):Tr A0 B0 (A ⊕ B)
 |mq {A0 B0 E A:Type} (step:E->A->Tr A0 B0 A) (es:List E) (x:A):Tr A0 B0 A
 |an {A0 B0 E X:Type} (es:List E) (k:List E->Tr A0 B0 X):Tr A0 B0 X
 |fm {A0 B0 E A:Type} (step:E->A->Tr A0 B0 A) (l:List E) (x:A):Tr A0 B0 A
abbrev bR (X:Type):=Tr Unit Unit X
noncomputable def run : {A0 B0 X : Type} → (A0 → Option B0) → Tr A0 B0 X → Option X
 |_,_,_,_,.ret x=>some x
 |_,_,_,_,.no=>none
 |_,_,_,r,.br c a b=>rM c (run r a) (run r b)
 |_,_,_,r,.am _ a b=>Ft (run r a) (run r b)
 |_,_,_,r,.nd c a=>need c (run r a)
 |_,_,_,r,.bd o k=>dF (run r o) fun a=>run r (k a)
 |_,_,_,r,.jx o k=>dF (run r o) (onS (fun a=>run r (k a)) some)
 |_,_,_,r,.sm z f g=>match z with
  | .inl x=>run r (f x)
  | .inr y=>run r (g y)
 |_,_,_,r,.it step x=>iter (fun a=>run r (step a)) x
 |_,_,_,r,.rc x=>r x
 |_,_,_,_,.fx body x=>wN (fun r y=>run r (body y)) x
 |_,_,_,_,.up t=>run (fun _=>none) t
 |_,_,_,_,.of o=>o
 |_,_,_,r,.mp step es x=>kV (fun l=>J5 (fun e a=>run r (step e a)) l x) es
 |_,_,_,r,.mq step es x=>kV (fun l=>Bu (fun e a=>run r (step e a)) l x) es
 |_,_,_,r,.an es k=>kV (fun l=>run r (k l)) es
 |_,_,_,r,.fm step l x=>Bu (fun e a=>run r (step e a)) l x
noncomputable abbrev ai {X:Type} (t:bR X):Option X:=run (fun _=>none) t
section
variable {A0 B0 A1 B1 A B X:Type} {r:A0->Option B0}
theorem aa {x:X}:run r (.ret x)=some x:=rfl
theorem aq {c:Bool} {a b:Tr A0 B0 X}:run r (.br c a b)=rM c (run r a) (run r b):=rfl
theorem Qk {d:DecidableEq X} {a b:Tr A0 B0 X}:run r (.am d a b)=Ft (run r a) (run r b):=rfl
theorem aN {c:Bool} {a:Tr A0 B0 X}:run r (.nd c a)=need c (run r a):=rfl
theorem az {o:Tr A0 B0 A} {k:A->Tr A0 B0 X}:run r (.bd o k)=dF (run r o) fun a=>run r (k a):=rfl
theorem o7 {x:A} {f:A->Tr A0 B0 X} {g:B->Tr A0 B0 X}:run r (.sm (.inl x) f g)=run r (f x):=rfl
theorem jA {y:B} {f:A->Tr A0 B0 X} {g:B->Tr A0 B0 X}:run r (.sm (.inr y) f g)=run r (g y):=rfl
theorem bD {step:A->Tr A0 B0 (A ⊕ B)} {x:A}:run r (.it step x)=iter (fun a=>run r (step a)) x:=rfl
theorem aar {x:A0}:run r (.rc x)=r x:=rfl
theorem Df {o:Option X}:run r (.of o)=o:=rfl
theorem Iu {E:Type} {es:List E} {k:List E->Tr A0 B0 X}:run r (.an es k)=kV (fun l=>run r (k l)) es:=rfl
theorem Iv {E:Type} {step:E->A->Tr A0 B0 A} {l:List E} {x:A}:run r (.fm step l x)=Bu (fun e a=>run r (step e a)) l x:=rfl
theorem Iw {E:Type} {step:E->A->Tr A0 B0 A} {es:List E} {x:A}:run r (.mq step es x)=kV (fun l=>Bu (fun e a=>run r (step e a)) l x) es:=rfl
end
def aas {X:Type} (d:DecidableEq X) (x y:Option X):Option X:=match x,y with
 |some a,some b=>match d a b with
  | .isTrue _=>some a
  | .isFalse _=>none
 |_,_=>none
theorem Le.am {X:Type} {d:DecidableEq X} {a b a' b':Option X} (h:Le a a') (h':Le b b'):Le (aas d a b) (Ft a' b'):=⟨fun y hy=>by
 cases a with
 |none=>cases hy
 |some u=>cases b with
  |none=>cases hy
  |some v =>
   simp only [aas] at hy
   split at hy
   ·rename_i e _; cases hy; subst e
    rw [h.h _ rfl,h'.h _ rfl,uT]
   ·cases hy⟩
def cmp (n : Nat) : {A0 B0 X : Type} → (A0 → Option B0) → Tr A0 B0 X → Option X
 |_,_,_,_,.ret x=>some x
 |_,_,_,_,.no=>none
 |_,_,_,r,.br c a b=>brC c (cmp n r a) (cmp n r b)
 |_,_,_,r,.am d a b=>aas d (cmp n r a) (cmp n r b)
 |_,_,_,r,.nd c a=>Qi c (cmp n r a)
 |_,_,_,r,.bd o k=>Qj (cmp n r o) fun a=>cmp n r (k a)
 |_,_,_,r,.jx o k=>Qj (cmp n r o) (onS (fun a=>cmp n r (k a)) some)
 |_,_,_,r,.sm z f g=>match z with
  | .inl x=>cmp n r (f x)
  | .inr y=>cmp n r (g y)
 |_,_,_,r,.it step x=>jm (fun a=>cmp n r (step a)) n x
 |_,_,_,r,.rc x=>r x
 |_,_,_,_,.fx body x=>Ir (fun r y=>cmp n r (body y)) n x
 |_,_,_,_,.up t=>cmp n (fun _=>none) t
 |_,_,_,_,.of _=>none
 |_,_,_,_,.mp _ _ _=>none
 |_,_,_,_,.mq _ _ _=>none
 |_,_,_,_,.an _ _=>none
 |_,_,_,_,.fm _ _ _=>none
theorem gJ (n : Nat) : {A0 B0 X : Type} → (r r' : A0 → Option B0) → (∀ x, Le (r x) (r' x)) → (t : Tr A0 B0 X) → Le (cmp n r t) (run r' t)
 |_,_,_,_,_,_,.ret _=>Le.r
 |_,_,_,_,_,_,.no=>Le.n
 |_,_,_,r,r',h,.br _ a b=>Le.br (gJ n r r' h a) (gJ n r r' h b)
 |_,_,_,r,r',h,.am _ a b=>Le.am (gJ n r r' h a) (gJ n r r' h b)
 |_,_,_,r,r',h,.nd _ a=>Le.nd (gJ n r r' h a)
 |_,_,_,r,r',h,.bd o k=>Le.bd (gJ n r r' h o) fun a=>gJ n r r' h (k a)
 |_,_,_,r,r',h,.jx o k=>Le.bd (gJ n r r' h o) fun z=>match z with
  | .inl a=>gJ n r r' h (k a)
  | .inr _=>Le.r
 |_,_,_,r,r',h,.sm (.inl x) f g=>gJ n r r' h (f x)
 |_,_,_,r,r',h,.sm (.inr y) f g=>gJ n r r' h (g y)
 |_,_,_,r,r',h,.it step x=>Le.iter fun a=>gJ n r r' h (step a)
 |_,_,_,_,_,h,.rc x=>h x
 |_,_,_,_,_,_,.fx body x=>Le.fix fun r r' h y=>gJ n r r' h (body y)
 |_,_,_,_,_,_,.up t=>gJ n _ _ (fun _=>Le.r) t
 |_,_,_,_,_,_,.of _=>Le.n
 |_,_,_,_,_,_,.mp _ _ _=>Le.n
 |_,_,_,_,_,_,.mq _ _ _=>Le.n
 |_,_,_,_,_,_,.an _ _=>Le.n
 |_,_,_,_,_,_,.fm _ _ _=>Le.n
@[reducible] def Tr.ni {A0 B0 X:Type} (z:Int) (a:Tr A0 B0 X):Tr A0 B0 X:=.nd (dV .i64 z) a
@[reducible] def Tr.nb {A0 B0 X:Type} (i n:Int) (a:Tr A0 B0 X):Tr A0 B0 X:=.nd (eA i n) a
theorem aO {A0 B0 X:Type} {r:A0->Option B0} {z:Int} {a:Tr A0 B0 X}:run r (.ni z a)=need (dV .i64 z) (run r a):=rfl
theorem aY {A0 B0 X:Type} {r:A0->Option B0} {i n:Int} {a:Tr A0 B0 X}:run r (.nb i n a)=need (eA i n) (run r a):=rfl
theorem dg {X:Type} {t:bR X} {y:X} (n:Nat) (h:cmp n (fun _=>none) t=some y):ai t=some y:=(gJ n _ _ (fun _=>Le.r) t).h y h
def flatK : {A0 B0 A X : Type} → Tr A0 B0 A → (A → Tr A0 B0 X) → Tr A0 B0 X
 |_,_,_,_,.ret x,k=>k x
 |_,_,_,_,.no,_=>.no
 |_,_,_,_,.br c a b,k=>.br c (flatK a k) (flatK b k)
 |_,_,_,_,.am d a b,k=>.bd (.am d a b) k
 |_,_,_,_,.nd c a,k=>.nd c (flatK a k)
 |_,_,_,_,.bd o f,k=>.bd o fun a=>flatK (f a) k
 |_,_,_,_,.jx o f,k=>flatK o (onS (fun a=>flatK (f a) k) k)
 |_,_,_,_,.sm z f g,k=>.sm z (fun x=>flatK (f x) k) (fun y=>flatK (g y) k)
 |_,_,_,_,.it step x,k=>.bd (.it step x) k
 |_,_,_,_,.rc x,k=>.bd (.rc x) k
 |_,_,_,_,.fx b x,k=>.bd (.fx b x) k
 |_,_,_,_,.up t,k=>.bd (.up t) k
 |_,_,_,_,.of o,k=>.bd (.of o) k
 |_,_,_,_,.mp s es x,k=>.bd (.mp s es x) k
 |_,_,_,_,.mq s es x,k=>.bd (.mq s es x) k
 |_,_,_,_,.an es f,k=>.bd (.an es f) k
 |_,_,_,_,.fm s l x,k=>.bd (.fm s l x) k
def flat {A0 B0 X:Type} (t:Tr A0 B0 X):Tr A0 B0 X:=flatK t .ret
theorem Ul {A X:Type} {c:Bool} {a b:Option A} {f:A->Option X}:dF (rM c a b) f=rM c (dF a f) (dF b f):=by cases c<;>simp
theorem Kk {X:Type} {x:Option X}:need false x=none:=by
 cases h:need false x with
 |none=>rfl
 |some y=>have:=(cZ h).1;cases this
theorem Um {A X:Type} {c:Bool} {a:Option A} {f:A->Option X}:dF (need c a) f=need c (dF a f):=by
 cases c
 ·rw [Kk,Kk,qh]
 ·rw [cD rfl,cD rfl]
theorem Kl {A B X:Type} {o:Option A} {f:A->Option B} {g:B->Option X}:dF (dF o f) g=dF o fun a=>dF (f a) g:=by
 cases o with
 |none=>rw [qh,qh,qh]
 |some a=>rw [aH,aH]
theorem Iy {A:Type} {o:Option A}:dF o (fun a=>some a)=o:=by
 cases o with
 |none=>rw [qh]
 |some a=>rw [aH]
theorem fS : {A0 B0 A X : Type} → (r : A0 → Option B0) → (t : Tr A0 B0 A) → (k : A → Tr A0 B0 X) → run r (flatK t k) = dF (run r t) fun a => run r (k a)
 |_,_,_,_,r,.ret x,k=>by simp only [flatK,run,aH]
 |_,_,_,_,r,.no,k=>by simp only [flatK,run,qh]
 |_,_,_,_,r,.br c a b,k=>by simp only [flatK,run,Ul,fS r a k,fS r b k]
 |_,_,_,_,r,.am d a b,k=>by simp only [flatK,run]
 |_,_,_,_,r,.nd c a,k=>by simp only [flatK,run,Um,fS r a k]
 |_,_,_,_,r,.bd o f,k=>by simp only [flatK,run,Kl,fS r (f _) k]
 |_,_,_,_,r,.jx o f,k=>by
  simp only [flatK,run,Kl,fS r o _]
  congr 1
  funext z
  cases z with
  |inl a=>simp only [fS r (f a) k]
  |inr x=>simp only [aH]
 |_,_,_,_,r,.sm z f g,k=>by
  cases z with
  |inl x=>simp only [flatK,run,fS r (f x) k]
  |inr y=>simp only [flatK,run,fS r (g y) k]
 |_,_,_,_,r,.it step x,k=>by simp only [flatK,run]
 |_,_,_,_,r,.rc x,k=>by simp only [flatK,run]
 |_,_,_,_,r,.fx b x,k=>by simp only [flatK,run]
 |_,_,_,_,r,.up t,k=>by simp only [flatK,run]
 |_,_,_,_,r,.of o,k=>by simp only [flatK,run]
 |_,_,_,_,r,.mp s es x,k=>by simp only [flatK,run]
 |_,_,_,_,r,.mq s es x,k=>by simp only [flatK,run]
 |_,_,_,_,r,.an es f,k=>by simp only [flatK,run]
 |_,_,_,_,r,.fm s l x,k=>by simp only [flatK,run]
theorem FO {A0 B0 X:Type} {r:A0->Option B0} {t:Tr A0 B0 X}:run r (flat t)=run r t:=by
 unfold flat
 rw [fS]
 simp only [run]
 exact Iy
end Go.AM
end
section
namespace Go.AM
inductive LR (P:Program) (N:Nat) (out:Option Nat) (base:Nat):Type 1 where
 |l (x:bt P N out base)
 |r (x:gH P N out base)
 |m (x:yL P N out base)
 |x
def nl : C → Nat
 | .seq a b=>nl a+nl b
 | .cond _ a b=>nl a+nl b
 | .block _ a=>nl a
 | .loop _=>1
 | .bK _ _ _ _=>1
 | .gY _ _ _ _ _ _ _ _ _ _ _=>1
 |_=>0
section
variable {P:Program} {N:Nat} {out:Option Nat} {base:Nat}
def Un : List (LR P N out base) → Nat → LR P N out base
 |[],_=>.x
 |y::_,0=>y
 |_::r,n+1=>Un r n
def dO (ls : List (LR P N out base)) : C → Nat → D P N out base
 | .skip,_=>.skip
 | .aX is,_=>.aX is
 | .draw ps is,_=>.draw ps is
 | .seq a b,i=>.seq (dO ls a i) (dO ls b (i+nl a))
 | .cond c a b,i=>.cond c (dO ls a i) (dO ls b (i+nl a))
 | .block n a,i=>.block n (dO ls a i)
 | .loop c,i=>match Un ls i with
  | .l l=>.loop l
  |_=>.loop (Qb c)
 | .exit n,_=>.exit n
 | .ret,_=>.ret
 | .bK f ps a b,i=>match Un ls i with
  | .r l=>.bK l
  |_=>.bK (MP f ps a b)
 | .gY p m t cl e kt kg vt vg d b,i=>match Un ls i with
  | .m l=>.gY l
  |_=>.gY (Uf p m t cl e kt kg vt vg d b)
end
def uW (b : Bool) : C → Nat → C
 | .seq x y,k=>match Nat.blt k (nl x) with
  |true=>uW b x k
  |false=>uW b y (k - nl x)
 | .cond _ x y,k=>match Nat.blt k (nl x) with
  |true=>uW b x k
  |false=>uW b y (k - nl x)
 | .block _ x,k=>uW b x k
 | .loop c,_=>c
 | .bK _ _ x y,_=>match b with
  |true=>y
  |false=>x
 | .gY _ _ _ _ _ _ _ _ _ _ x,_=>x
 |c,_=>c
def pick : C → List (Nat × Bool) → C
 |c,[]=>c
 |c,(k,b)::r=>pick (uW b c k) r
def kd (P:Program) (f:Func):C:=match cM P f with
 |some t=>t.body
 |none=>.skip
@[reducible] def hI:SP:=.c (.hole (.int .i64))
@[reducible] def hL:SP:=.c (.hole (.list (.int .i64)))
@[reducible] def hLL:SP:=.c (.hole (.list (.list (.int .i64))))
@[reducible] def tI:Ty:=.int .i64
@[reducible] def tL:Ty:=.list (.int .i64)
end Go.AM
end
section
namespace Go.AM
section
variable {P:Program} {N:Nat} {out:Option Nat} {base:Nat}
noncomputable def kUn {R : Type} (kz : Kz R) (cx : Cx) (d : D P N out base) : Nat → Env → Nat → ah → List Nat → Kc R → R
 |0,_,_,_,_,_=>kz.no
 |n+1,env,nx,bl,ms,K=>kE kz cx bW d env nx bl ms fun e env nx bl ms=>match e with
  | .normal=>kUn kz cx d n env nx bl ms K
  | .exit id=>K (.exit id) env nx bl ms
  | .ret=>K .ret env nx bl ms
theorem aat {cx:Cx} (gm:cx.Ok P) {d:D P N out base} {X:Type} {Q:Ex->St->Prop} {r:X}:∀{k:Nat} {env:Env} {nx:Nat} {bl:ah} {ms:List Nat} {K:Kc (Option X)},kUn (iz X) cx d k env nx bl ms K=some r ->
  (∀e env nx bl ms,K e env nx bl ms=some r->Q e ⟨env,⟨nx,bl⟩,ms⟩)->unr (eL P N out base) d.er k ⟨env,⟨nx,bl⟩,ms⟩ Q:=by
 intro k
 induction k with
 |zero=>intro env nx bl ms K h hK;cases h
 |succ k ih =>
  intro env nx bl ms K h hK
  refine kX gm h fun e env nx bl ms hk=>?_
  cases e with
  |normal=>exact ih hk hK
  |exit id=>exact hK _ _ _ _ _ hk
  |ret=>exact hK _ _ _ _ _ hk
noncomputable def ae2 (mixed:P.follows .mixedOrders=true) (cx:Cx) (gm:cx.Ok P) (d:D P N out base) (k:Nat):bt P N out base where
 c:=d.er
 run kz env nx bl ms K:=kUn kz cx d k env nx bl ms K
 ok:=by
  intro X env nx bl ms K r h Q hQ
  exact Pf (ig mixed) (aat gm h hQ)
end
section
variable {P:Program} {N:Nat} {out:Option Nat} {base:Nat}
theorem get_none : ∀ {env : Env} {t : Nat}, t ∉ env.map (·.1) → get t env = .any
 |[],_,_=>rfl
 |(s,v)::r,t,h=>by
  simp only [List.map_cons,List.mem_cons,not_or] at h
  rw [cz,if_neg (fun e=>h.1 e.symm)]
  exact get_none h.2
noncomputable def MS {R : Type} (kz : Kz R) (cx : Cx) (uX : List Nat) (p : au) (xs : aT) (mn it : Nat) (cl : List Nat) (e : Option Nat) (kt : Ty) (kg : Bool) (vt : Ty) (vg : Bool) {ee : Nat} (body : D P N out ee) (inl : p.T → R) (inr : xs.T → R)
  (mX:kt.den×vt.den) (x:p.T):R :=
 fN (base+p.iA.length) fun aD=>p.go aD x fun env _ bl ms=>match get mn env with
  | .mp id=>match jH bl kt kg vt vg id with
   |some es=>MM (TW e kt kg vt vg mX ((it,.ptr aD 0)::env)) fun env=>fN (aD+1) fun nx=>kE kz cx bW body env nx bl ms fun ex env nx bl ms=>match ex with
    | .normal=>match get it env with
     | .ptr i o=>match an (Nat.beq i aD) (Nat.beq o 0) with
      |true=>match get mn env with
       | .mp id'=>match Nat.beq id' id with
        |true=>match jH bl kt kg vt vg id with
         |some es'=>kz.nd (lU es' es) (p.rd kz.no uX base (eR (it::cl) env) nx bl ms inl)
         |none=>kz.no
        |false=>kz.no
       |_=>kz.no
      |false=>kz.no
     |_=>kz.no
    | .exit i=>xs.rd kz.no uX base (.exit i) env nx bl ms inr
    | .ret=>xs.rd kz.no uX base .ret env nx bl ms inr
   |none=>kz.no
  |_=>kz.no
def MT {R:Type} (kz:Kz R) (cx:Cx) (uX:List Nat) (p:au) (pre:List dn) (mn it:Nat) (cl:List Nat) (kt:Ty) (kg:Bool) (vt:Ty) (vg:Bool) (env:Env) (nx:Nat) (bl:ah) (ms:List Nat) (k:List (kt.den×vt.den)->p.T->R):R :=
 kI kz cx bW pre env nx bl fun env nx bl=>match get mn env with
  | .mp id=>match jH bl kt kg vt vg id with
   |some es=>p.rd kz.no uX base (eR (it::cl) env) nx bl ms fun x=>k es x
   |none=>kz.no
  |_=>kz.no
theorem ae3 (mixed : P.follows .mixedOrders = true) {cx : Cx} (gm : cx.Ok P) {p : au} {xs : aT} (hxs : xs.all (fun p => !ML p.1 .normal) = true) {pre : List dn} {mn it : Nat} {cl : List Nat} {e : Option Nat} {kt vt : Ty} {kg vg : Bool} {uj : Nat}
  (mN:p.env.all (fun q => !(it::cl).contains q.1)=true) {ee:Nat} (gh:ee=base+p.iA.length+1) {body:D P N out ee} {step:kt.den×vt.den->p.T->Option (p.T ⊕ xs.T)}
  (hstep:∀mX x,MS (base:=base) (iz (p.T ⊕ xs.T)) cx (List.range base) p xs mn it cl e kt kg vt vg body (fun y=>some (.inl y)) (fun b=>some (.inr b)) mX x=step mX x) {X:Type} {env:Env} {nx:Nat} {bl:ah} {ms:List Nat} {r:X} {Q:Ex->St->Prop}
  {k:List (kt.den×vt.den)->p.T->Option X} (h:MT (base:=base) (iz X) cx (List.range base) p pre mn it cl kt kg vt vg env nx bl ms k=some r)
  (hk:∀es x,k es x=some r->∃res,(∀l:List (kt.den×vt.den),l.Perm es->J5 step l x=some res)/\(match res with | .inl y=>Q .normal (p.st base y) | .inr b=>Q (Il uj (xs.st base b).1) (xs.st base b).2)) :
  (eL P N out base).gY (.gY pre (.t mn) it cl e kt kg vt vg uj body.er) ⟨env,⟨nx,bl⟩,ms⟩ Q:=by
 subst gh
 refine Fs (fun b=>ig mixed) (I:=p.st base) (X:=xs.st base) (step:=step) (aD:=base+p.iA.length) (fun x s hs=>?_) (fun x=>rfl) (fun mX x r hx=>?_) ?_
 ·refine get_none (env := p.E x) fun hm => ?_
  rw [au.xe] at hm
  obtain ⟨q,hq,rfl⟩:=List.mem_map.1 hm
  have:=List.all_eq_true.1 mN q hq
  simp only [Bool.not_eq_true',<-Bool.not_eq_true] at this
  exact this (by simpa using hs)
 ·rw [← hstep mX x] at hx
  unfold MS at hx
  rw [gP,au.go_eq] at hx
  split at hx<;>try (cases hx;done)
  rename_i id hid
  split at hx<;>try (cases hx;done)
  rename_i es Eu
  rw [th,gP] at hx
  refine ⟨id,es,hid,Eu,kX gm hx fun ex env nx bl ms hk=>?_⟩
  cases ex with
  |normal =>
   simp only at hk
   split at hk<;>try (cases hk;done)
   rename_i i o hit
   split at hk<;>try (cases hk;done)
   rename_i wG
   rw [aS] at wG
   have e1:=Nat.eq_of_beq_eq_true wG.1
   have e2:=Nat.eq_of_beq_eq_true wG.2
   subst e1;subst e2
   split at hk<;>try (cases hk;done)
   rename_i id' aau
   split at hk<;>try (cases hk;done)
   rename_i hbe
   have e3:=Nat.eq_of_beq_eq_true hbe
   subst e3
   split at hk<;>try (cases hk;done)
   rename_i es' MD
   have hk2:=(cZ hk).2
   have e4:=Fp (cZ hk).1
   clear hk
   subst e4
   obtain ⟨y,π,h1,h2⟩:=au.dR hk2
   cases h1
   exact ⟨rfl,hit,aau,MD,π,h2⟩
  |exit i =>
   obtain ⟨y,π,q1,q2,q3⟩:=aT.dR hk
   cases q1
   exact ⟨by simp,q2,π,q3⟩
  |ret =>
   obtain ⟨y,π,q1,q2,q3⟩:=aT.dR hk
   cases q1
   exact ⟨by simp,q2,π,q3⟩
 ·unfold MT at h
  refine o5 gm h fun env nx bl h=>?_
  split at h<;>try (cases h;done)
  rename_i id hid
  split at h<;>try (cases h;done)
  rename_i es Eu
  obtain ⟨x,π,h1,h2⟩:=au.dR h
  obtain ⟨res,h3,h4⟩:=hk es x h1
  exact ⟨id,es,x,π,hid,Eu,h2,fun l hl=>⟨res,h3 l hl,by cases res<;>exact h4⟩⟩
def noB {R:Type}:Empty->R:=fun b=>nomatch b
theorem X9 {E α : Type} {step : E → α → Option α} : ∀ {l : List E} {x y : α}, Bu step l x = some y → J5 (fun e x => (step e x).map (Sum.inl (β := Empty))) l x = some (.inl y)
 |[],x,y,h=>by cases h;rfl
 |e::r,x,y,h=>by
  simp only [Bu] at h
  split at h<;>try (cases h;done)
  rename_i z hz
  simp only [J5,hz,Option.map_some]
  exact X9 h
theorem BJ (mixed : P.follows .mixedOrders = true) {cx : Cx} (gm : cx.Ok P) {p : au} {pre : List dn} {mn it : Nat} {cl : List Nat} {e : Option Nat} {kt vt : Ty} {kg vg : Bool} {uj : Nat}
  (mN:p.env.all (fun q => !(it::cl).contains q.1)=true) {ee:Nat} (gh:ee=base+p.iA.length+1) {body:D P N out ee} {step:kt.den×vt.den->p.T->Option p.T}
  (hstep:∀mX x,MS (base:=base) (iz p.T) cx (List.range base) p [] mn it cl e kt kg vt vg body (fun y=>some y) noB mX x=step mX x) {X:Type} {env:Env} {nx:Nat} {bl:ah} {ms:List Nat} {r:X} {Q:Ex->St->Prop}
  {k:List (kt.den×vt.den)->p.T->Option X} (h:MT (base:=base) (iz X) cx (List.range base) p pre mn it cl kt kg vt vg env nx bl ms k=some r)
  (hk:∀es x,k es x=some r->∀l:List (kt.den×vt.den),l.Perm es->∃y,Bu step l x=some y/\Q .normal (p.st base y)) :
  (eL P N out base).gY (.gY pre (.t mn) it cl e kt kg vt vg uj body.er) ⟨env,⟨nx,bl⟩,ms⟩ Q:=by
 subst gh
 refine Fs (fun b=>ig mixed) (I:=p.st base) (X:=fun b:Empty=>nomatch b) (step:=fun e x=>(step e x).map (Sum.inl (β:=Empty))) (aD:=base+p.iA.length) (fun x s hs=>?_) (fun x=>rfl) (fun mX x r hx=>?_) ?_
 ·refine get_none (env := p.E x) fun hm => ?_
  rw [au.xe] at hm
  obtain ⟨q,hq,rfl⟩:=List.mem_map.1 hm
  have:=List.all_eq_true.1 mN q hq
  simp only [Bool.not_eq_true',<-Bool.not_eq_true] at this
  exact this (by simpa using hs)
 ·obtain ⟨y0, hx0, rfl⟩ := Option.map_eq_some_iff.1 hx
  clear hx
  rename _=>hx
  rw [<-hstep mX x] at hx
  unfold MS at hx
  rw [gP,au.go_eq] at hx
  split at hx<;>try (cases hx;done)
  rename_i id hid
  split at hx<;>try (cases hx;done)
  rename_i es Eu
  rw [th,gP] at hx
  refine ⟨id,es,hid,Eu,kX gm hx fun ex env nx bl ms hk=>?_⟩
  cases ex with
  |normal =>
   simp only at hk
   split at hk<;>try (cases hk;done)
   rename_i i o hit
   split at hk<;>try (cases hk;done)
   rename_i wG
   rw [aS] at wG
   have e1:=Nat.eq_of_beq_eq_true wG.1
   have e2:=Nat.eq_of_beq_eq_true wG.2
   subst e1;subst e2
   split at hk<;>try (cases hk;done)
   rename_i id' aau
   split at hk<;>try (cases hk;done)
   rename_i hbe
   have e3:=Nat.eq_of_beq_eq_true hbe
   subst e3
   split at hk<;>try (cases hk;done)
   rename_i es' MD
   have hk2:=(cZ hk).2
   have e4:=Fp (cZ hk).1
   clear hk
   subst e4
   obtain ⟨y,π,h1,h2⟩:=au.dR hk2
   cases h1
   exact ⟨rfl,hit,aau,MD,π,h2⟩
  |exit i=>cases hk
  |ret=>cases hk
 ·unfold MT at h
  refine o5 gm h fun env nx bl h=>?_
  split at h<;>try (cases h;done)
  rename_i id hid
  split at h<;>try (cases h;done)
  rename_i es Eu
  obtain ⟨x,π,h1,h2⟩:=au.dR h
  exact ⟨id,es,x,π,hid,Eu,h2,fun l hl=>by
   obtain ⟨y,h3,h4⟩:=hk es x h1 l hl
   exact ⟨.inl y,X9 h3,h4⟩⟩
noncomputable def Dg (mixed : P.follows .mixedOrders = true) (cx : Cx) (gm : cx.Ok P) (uX : List Nat) (Ql : uX = List.range base) (p : au) (pre : List dn) (mn it : Nat) (cl : List Nat)
  (e:Option Nat) (kt:Ty) (kg:Bool) (vt:Ty) (vg:Bool) (uj:Nat) (mN:p.env.all (fun q => !(it::cl).contains q.1)=true) (ee:Nat) (gh:ee=base+p.iA.length+1) (body:D P N out ee) (step:kt.den×vt.den->p.T->Option p.T)
  (hstep:∀mX x,MS (base:=base) (iz p.T) cx uX p [] mn it cl e kt kg vt vg body (fun y=>some y) noB mX x=step mX x):yL P N out base where
 pre:=pre
 m:=.t mn
 it:=it
 cl:=cl
 e:=e
 kt:=kt
 kg:=kg
 vt:=vt
 vg:=vg
 uj:=uj
 b:=body.er
 run kz env nx bl ms K:=MT (base:=base) kz cx uX p pre mn it cl kt kg vt vg env nx bl ms fun es x=>kz.bd (kV (fun l=>Bu step l x) es) fun y=>fN (base+p.iA.length) fun nx=>p.go nx y (K .normal)
 ok:=by
  intro X env nx bl ms K r h Q hQ
  subst Ql
  refine BJ mixed gm mN gh hstep h fun es x hk=>?_
  obtain ⟨y,h1,h2⟩:=sV hk
  simp only [gP,au.go_eq] at h2
  exact fun l hl=>⟨y,vS h1 l hl,hQ _ _ _ _ _ h2⟩
noncomputable def Dh (mixed : P.follows .mixedOrders = true) (cx : Cx) (gm : cx.Ok P) (uX : List Nat) (Ql : uX = List.range base) (p : au) (pre : List dn) (mn it : Nat) (cl : List Nat)
  (e:Option Nat) (kt:Ty) (kg:Bool) (vt:Ty) (vg:Bool) (uj:Nat) (mN:p.env.all (fun q => !(it::cl).contains q.1)=true) (ee:Nat) (gh:ee=base+p.iA.length+1) (body:D P N out ee) (step:kt.den×vt.den->p.T->Option p.T)
  (hstep:∀mX x,MS (base:=base) (iz p.T) cx uX p [] mn it cl e kt kg vt vg body (fun y=>some y) noB mX x=step mX x):yL P N out base where
 pre:=pre
 m:=.t mn
 it:=it
 cl:=cl
 e:=e
 kt:=kt
 kg:=kg
 vt:=vt
 vg:=vg
 uj:=uj
 b:=body.er
 run kz env nx bl ms K:=MT (base:=base) kz cx uX p pre mn it cl kt kg vt vg env nx bl ms fun es x=>kz.an es fun l=>kz.bd (Bu step l x) fun y=>fN (base+p.iA.length) fun nx=>p.go nx y (K .normal)
 ok:=by
  intro X env nx bl ms K r h Q hQ
  subst Ql
  refine BJ mixed gm mN gh hstep h fun es x hk l hl=>?_
  obtain ⟨y,h1,h2⟩:=sV (vS hk l hl)
  simp only [gP,au.go_eq] at h2
  exact ⟨y,h1,hQ _ _ _ _ _ h2⟩
end
end Go.AM
end
section
namespace Go.AM
@[reducible] def bs (l:List Nat):ByteArray:=⟨(l.map UInt8.ofNat).toArray⟩
def ze (t : Ty) (x : t.den) : List t.den → List t.den
 |[]=>[x]
 |y::r=>if gZ t x y=true then x::y::r else y::ze t x r
def o8 (t:Ty) (xs:List t.den):List t.den:=xs.foldr (ze t) []
noncomputable def wO (t:Ty) (b:List t.den) (n:Nat):Option (List t.den×Unit):=if n<=b.length/\n<cn then some (o8 t (b.take n)++b.drop n,()) else none
theorem vW (s:ByteArray):(b8 s).length=s.size:=by simp [b8]
section
variable {P:Program}
noncomputable def Qm (P:Program) (cx:Cx) (f:Nat) (fn:Fn) (d:(b:Nat)->D P fn.N none b):Cx where
 pc:=cx.pc
 ca kz g vs nx bl K:=match an (Nat.beq g f) (Nat.ble vs.length fn.np) with
  |true=>Ua vs fun vs=>kE kz cx bW (d nx) (args 0 vs) nx bl [] (BH kz fn.res fn.tys K)
  |false=>cx.ca kz g vs nx bl K
 rd:=cx.rd
theorem Di (mixed : P.follows .mixedOrders = true) {cx : Cx} (gm : cx.Ok P) {f : Nat} {func : Func} {fn : Fn} (hf : P.funcs[f]? = some func) (htr : cM P func = some fn) (cF : Enters P f)
  {d:(b:Nat)->D P fn.N none b} (hd:∀b,(d b).er=fn.body):(Qm P cx f fn d).Ok P where
 X1 hk:=gm.X1 hk
 T2:=by
  intro X g vs nx bl K r hk Q hQ
  simp only [Qm] at hk
  split at hk
  ·rename_i h
   rw [aS] at h
   have e:=Nat.eq_of_beq_eq_true h.1
   subst e
   rw [nU] at hk
   refine kR hf htr cF (ig mixed) (Nat.le_of_ble_eq_true h.2) ?_
   rw [<-hd nx]
   refine kX gm hk fun e env nx bl ms hk=>?_
   exact yY hk fun v nx bl hk=>hQ v nx bl hk
  ·exact gm.T2 hk hQ
 rok hk:=gm.rok hk
noncomputable def FP (P:Program) (cx:Cx) (f:Nat) (fn:Fn) (b:Nat) (d:D P fn.N none b):Cx where
 pc:=cx.pc
 ca kz g vs nx bl K:=match an (Nat.beq g f) (an (Nat.ble vs.length fn.np) (Nat.beq nx b)) with
  |true=>Ua vs fun vs=>kE kz cx bW d (args 0 vs) b bl [] (BH kz fn.res fn.tys K)
  |false=>cx.ca kz g vs nx bl K
 rd:=cx.rd
theorem zf (mixed : P.follows .mixedOrders = true) {cx : Cx} (gm : cx.Ok P) {f : Nat} {func : Func} {fn : Fn} (hf : P.funcs[f]? = some func) (htr : cM P func = some fn) (cF : Enters P f)
  {b:Nat} {d:D P fn.N none b} (hd:d.er=fn.body):(FP P cx f fn b d).Ok P where
 X1 hk:=gm.X1 hk
 T2:=by
  intro X g vs nx bl K r hk Q hQ
  simp only [FP] at hk
  split at hk
  ·rename_i h
   rw [aS,aS] at h
   have e:=Nat.eq_of_beq_eq_true h.1
   have e2:=Nat.eq_of_beq_eq_true h.2.2
   subst e;subst e2
   rw [nU] at hk
   refine kR hf htr cF (ig mixed) (Nat.le_of_ble_eq_true h.2.1) ?_
   rw [<-hd]
   refine kX gm hk fun e env nx bl ms hk=>?_
   exact yY hk fun v nx bl hk=>hQ v nx bl hk
  ·exact gm.T2 hk hQ
 rok hk:=gm.rok hk
end
section
variable {P:Program} {N:Nat} {out:Option Nat} {base:Nat}
noncomputable def zg (mixed : P.follows .mixedOrders = true) (cx : Cx) (gm : cx.Ok P) (pre : List Nat) (hpre : pre = List.range base) (p : au) (xs : aT) (f : O) (ps : List Nat) (hps : ps.all (Nat.blt · N) = true) (as bd : C)
  (fid:Nat) {func:Func} {fn:Fn} (hf:P.funcs[fid]?=some func) (htr:cM P func=some fn) (cF:Enters P fid) (ee:Nat) (iM:ee=base+p.iA.length+(match out with|none=>2|some _=>1))
  (On:D P fn.N none ee) (hit:On.er=fn.body):gH P N out base where
 f:=f
 ps:=ps
 a:=as
 b:=bd
 run kz env nx bl ms K:=p.rd kz.no pre base env nx bl ms fun x=>yT (N:=N) (out:=out) (base:=base) kz cx bW pre p xs f ps as bd fn.res fn.np fid On (fun b=>xs.go kz base b K) x
 ok:=by
  intro X env nx bl ms K r h Q hQ
  subst hpre
  obtain ⟨x,π,h3,h2⟩:=au.dR h
  unfold yT at h3
  rw [gP,au.go_eq] at h3
  intro fo Ev ao bo q1 q2 q3 q4
  refine Ki (FF ?_) h2
  refine vQ (K:=fun e S'=>∃C9 π,jw base π S' C9/\Q e C9) ?_ fo Ev ao bo q1 q2 q3 q4
  refine ⟨hps,?_⟩
  cases qd:f.ev (p.E x) with
  |fn Qa first cap=>?_
  |_=>rw [qd] at h3;cases h3
  have aal:f.ev (p.st base x).env = .fn Qa first cap:=qd
  rw [aal]
  rw [qd] at h3
  simp only at h3 ⊢
  split at h3<;>try (cases h3;done)
  rename_i hc
  rw [aS] at hc
  have e1:=Nat.eq_of_beq_eq_true hc.1
  have e2:=Nat.le_of_ble_eq_true hc.2
  subst e1
  have hlen:∀v:V,(first++[v]++cap).length<=fn.np:=fun v=>by simpa using e2
  have hout:∀e env nx bl ms,xs.rd none (List.range base) base e env nx bl ms (fun b=>xs.go (iz X) base b K)=some r->∃C9 π,jw base π ⟨env,⟨nx,bl⟩,ms⟩ C9/\Q e C9:=fun e env nx bl ms hk=>by
   obtain ⟨y,π,r1,r2,r3⟩:=aT.dR hk
   have h5:=aT.FA r1
   have hq:=hQ _ _ _ _ _ h5
   exact ⟨_,π,r3,by rw [r2];exact hq⟩
  cases out with
  |none =>
   simp only at h3 iM ⊢
   split at h3
   ·cases h3
   rename_i Mk
   rw [nU] at h3
   refine ⟨Mk,?_⟩
   subst iM
   refine kR hf htr cF (ig mixed) (hlen _) ?_
   rw [<-hit]
   refine kX gm h3 fun e env nx bl ms hk=>?_
   exact tn hk fun v nx bl hk => xd (S := p.st base x) (by
    have e:(p.st base x).ms=[]:=Mk
    rw [e];exact hk) hout
  |some XT =>
   simp only at h3 iM ⊢
   split at h3<;>try (cases h3;done)
   rename_i hb
   rw [nU] at h3
   have hb':av XT (p.st base x).H.bl=_:=hb
   simp only [au.st] at hb' ⊢
   rw [hb']
   simp only
   subst iM
   refine kR hf htr cF (ig mixed) (hlen _) ?_
   rw [<-hit]
   refine kX gm h3 fun e env nx bl ms hk=>?_
   exact tn hk fun v nx bl hk=>xd (S:=p.st base x) hk hout
end
end Go.AM
end
