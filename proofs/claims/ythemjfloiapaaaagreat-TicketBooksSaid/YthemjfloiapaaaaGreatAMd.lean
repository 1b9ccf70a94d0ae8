/- What is read by a pattern stands for what was there. Loops and functions, as functions of their data. Loops over functions, as functions of their data. Calls that are lent blocks of the caller's heap: the rest stays as it is. Contracts of functions that write blocks of their caller, or hand back new ones. Recursion. The way in and out: a law's contract over data is its row's. Plain laws on tests, needs and rounds. Twins that can be reckoned: what they come to, the functions come to. What is computed, as a tree: read as a function (classically), or reckoned. Code with its loops as functions, out of the program's own: no text of it is needed. A loop whose number of rounds is known is gone through round by round. Strings out of their bytes; what is said of them, of maps and of clearing, plainly. -/
import Derived.Test.YthemjfloiapaaaaGreatAMc
import Derived.OpenShut
import Derived.Handed
import Derived.JoinedOf
import Derived.Carry
set_option linter.unusedSectionVars false
set_option linter.unusedVariables false
set_option linter.unusedSimpArgs false
section
namespace Go.AM
section
variable {π:List Nat}
theorem qa : ∀ (π : List Nat) (b : Nat), vL π b = π[b]?
 |[],_=>by simp [vL]
 |i::r,0=>by simp [vL]
 |i::r,n+1=>by simp [vL,qa r n]
theorem lU {b i:Nat} (h:Ad π b i=true):π[b]?=some i:=by
 unfold Ad at h
 split at h
 ·rename_i j e;rw [<-qa,e,Nat.eq_of_beq_eq_true h]
 ·cases h
theorem Dy.append {as bs cs ds:List V} (h:Dy π as bs) (h':Dy π cs ds):Dy π (as++cs) (bs++ds):=by
 induction as generalizing bs with
 |nil =>
  have:bs=[]:=List.eq_nil_of_length_eq_zero h.1.symm
  subst this;simpa using h'
 |cons a as ih =>
  cases bs with
  |nil=>exact absurd h.1 (by simp)
  |cons b bs=>exact .cons (h.2 0 a b rfl rfl) (ih ⟨by have:=h.1;simpa using this,fun i v u hv hu=>h.2 (i+1) v u (by simpa using hv) (by simpa using hu)⟩)
theorem Eo {t t':Ty} {xs:List t.den} {ys:List t'.den} (h:kC t t' xs=some ys):V.fS t' ys=V.fS t xs:=by
 obtain ⟨e,he⟩:=eH h
 subst e;subst he;rfl
theorem Ep {g:Bool} {v:V} {ds cs:List V} (h:BG g v=some cs) (ak:Dy π ds cs):EV π (cG.ji g ds) v:=by
 cases g with
 |true =>
  cases v<;>simp [BG] at h
  subst h
  exact .agg _ _ ak.1 ak.2
 |false =>
  have:cs=[v]:=by cases v<;>simp_all [BG,V.cells?]
  subst this
  match ds,ak with
  |[w],ak=>exact ak.2 0 w v rfl rfl
  |[],ak=>exact absurd ak.1 (by simp)
  |_::_::_,ak=>exact absurd ak.1 (by simp)
theorem qb {ar : Ar} : ∀ {t : Ty} {vs : List V} {x : t.den} {u : eY} {r : List V}, bA ar [] t vs = some (x, u, r) → ∃ us, vs = us ++ r ∧ Dy π (cG t x) us
 | .unit,vs,x,u,r,h=>by
  simp [bA] at h;obtain ⟨_,_,rfl⟩:=h;exact ⟨[],rfl,.nil⟩
 | .bool,vs,x,u,r,h=>by
  rcases vs with _|⟨v,r'⟩
  ·simp [bA] at h
  ·cases v <;> simp [bA] at h
   ·obtain ⟨rfl,_,rfl⟩:=h;exact ⟨[_],rfl,.cons (.tfb _) .nil⟩
   ·obtain ⟨rfl,_,rfl⟩:=h;exact ⟨[_],rfl,.cons (.bool _) .nil⟩
 | .str,vs,x,u,r,h=>by
  rcases vs with _|⟨v,r'⟩
  ·simp [bA] at h
  ·cases v <;> simp [bA] at h
   obtain ⟨rfl,_,rfl⟩:=h;exact ⟨[_],rfl,.cons (.str _) .nil⟩
 | .int k,vs,x,u,r,h=>by
  rcases vs with _|⟨v,r'⟩
  ·simp [bA] at h
  ·cases v <;> simp [bA] at h
   obtain ⟨rfl,rfl,_,rfl⟩:=h;exact ⟨[_],rfl,.cons (.int _ _) .nil⟩
 | .list t,vs,x,u,r,h=>by
  rcases vs with _|⟨v,r'⟩
  ·simp [bA] at h
  ·cases v <;> simp only [bA] at h <;> try (cases h; done)
   ·split at h <;> try (cases h; done)
    rename_i hc
    cases h
    exact ⟨[_],rfl,.cons (by rw [Eo hc];exact .fS _ _) .nil⟩
   ·cases h;exact ⟨[.cg],rfl,.cons (.ZH _) .nil⟩
 | .prod a b,vs,x,u,r,h=>by
  simp only [bA] at h
  split at h<;>try (cases h;done)
  rename_i x1 u1 r1 h1
  split at h<;>try (cases h;done)
  rename_i y1 u2 r2 h2
  cases h
  obtain ⟨us,rfl,e1⟩:=qb h1
  obtain ⟨Zd,rfl,e2⟩:=qb h2
  exact ⟨us++Zd,by simp,e1.append e2⟩
 | .cL d g t,vs,x,u,r,h=>by
  cases vs with
  |nil=>simp [bA] at h
  |cons v vs =>
   cases v<;>simp only [bA] at h<;>try (cases h;done)
   rename_i d' v'
   split at h<;>try (cases h;done)
   rename_i e;subst e
   split at h<;>try (cases h;done)
   rename_i cs hun
   split at h<;>try (cases h;done)
   rename_i x0 ho
   cases h
   obtain ⟨us,e1,ak⟩:=qb ho
   rw [List.append_nil] at e1
   exact ⟨[.cL d v'],rfl,.cons (.cL _ _ _ (Ep hun (by rw [e1];exact ak))) .nil⟩
theorem T2 : ∀ {t : Ty} {v : V} {x : t.den}, Cn t v = some x → EV π (tyV t x) v
 | .unit,v,x,h=>by simp [Cn] at h
 | .bool,v,x,h=>by
  cases v<;>simp [Cn] at h
  ·subst h;exact .tfb _
  ·subst h;exact .bool _
 | .str,v,x,h=>by
  cases v<;>simp [Cn] at h
  subst h;exact .str _
 | .int k,v,x,h=>by
  cases v<;>simp only [Cn] at h<;>try (cases h;done)
  split at h<;>try (cases h;done)
  rename_i hk
  cases h
  have:=of_decide_eq_true hk
  subst this;exact .int _ _
 | .list t,v,x,h=>by
  cases v<;>simp only [Cn] at h<;>try (cases h;done)
  ·show EV π (.fS t x) _
   rw [Eo h];exact .fS _ _
  ·cases h;exact .ZH _
 | .prod a b,v,x,h=>by
  cases v<;>simp only [Cn] at h<;>try (cases h;done)
  split at h<;>try (cases h;done)
  rename_i hc
  cases h
  obtain ⟨us,e,ak⟩:=qb (π:=π) hc
  rw [List.append_nil] at e
  subst e
  exact .agg _ _ ak.1 ak.2
 | .cL d g t,v,x,h=>by
  simp only [Cn] at h
  split at h<;>try (cases h;done)
  rename_i hc
  cases h
  obtain ⟨us,e,ak⟩:=qb (π:=π) hc
  rw [List.append_nil] at e
  subst e
  exact ak.2 0 _ _ rfl rfl
variable {A:Type}
theorem CP.ZW {c:CP} {v:V} {f:A->c.T A} (h:c.rd1 π v=some f) (a:A):Dy π (c.vs (f a)) [v]/\c.r (f a)=a:=by
 cases c<;>simp only [CP.rd1] at h
 case any=>cases h;exact ⟨.cons (.any _) .nil,rfl⟩
 case tf b =>
  split at h<;>try (cases h;done)
  split at h<;>try (cases h;done)
  rename_i hb
  cases h
  rw [<-eP hb]
  exact ⟨.cons (.tf _) .nil,rfl⟩
 case fG=>split at h<;>cases h;exact ⟨.cons (.fG) .nil,rfl⟩
 case cZ=>split at h<;>cases h;exact ⟨.cons (.cZ) .nil,rfl⟩
 case gw=>split at h<;>cases h;exact ⟨.cons (.gw) .nil,rfl⟩
 case cg=>split at h<;>cases h;exact ⟨.cons (.cg) .nil,rfl⟩
 case hole t =>
  split at h<;>cases h
  rename_i hx
  exact ⟨.cons (T2 hx) .nil,rfl⟩
 case bH b t =>
  split at h<;>try (cases h;done)
  ·rename_i i t' lo n
   split at h<;>try (cases h;done)
   rename_i h1
   split at h<;>try (cases h;done)
   rename_i h2
   split at h<;>try (cases h;done)
   rename_i h3
   cases h
   have e:=Nat.eq_of_beq_eq_true h3
   rw [lT h2,e]
   exact ⟨.cons (.sl _ _ _ _ _ (lU h1)) .nil,rfl⟩
  ·cases h;exact ⟨.cons (.ZI _ _ _) .nil,rfl⟩
 case SG b t =>
  split at h<;>try (cases h;done)
  ·rename_i i t' lo n
   split at h<;>try (cases h;done)
   rename_i h1
   split at h<;>try (cases h;done)
   rename_i h2
   cases h
   rw [lT h2]
   exact ⟨.cons (.sl _ _ _ _ _ (lU h1)) .nil,rfl⟩
  ·cases h;exact ⟨.cons (.ZI _ _ _) .nil,rfl⟩
 case ptr b off =>
  split at h<;>try (cases h;done)
  split at h<;>try (cases h;done)
  rename_i h1
  split at h<;>try (cases h;done)
  rename_i h2
  cases h
  rw [Nat.eq_of_beq_eq_true h2]
  exact ⟨.cons (.ptr _ _ _ (lU h1)) .nil,rfl⟩
 case yl b =>
  split at h<;>try (cases h;done)
  split at h<;>try (cases h;done)
  rename_i h1
  cases h
  exact ⟨.cons (.yl _ _ (lU h1)) .nil,rfl⟩
 case gx t =>
  split at h<;>try (cases h;done)
  split at h<;>try (cases h;done)
  rename_i hc
  cases h
  obtain ⟨us,e,ak⟩:=qb (π:=π) hc
  rw [List.append_nil] at e
  subst e
  exact ⟨.cons (.gx _ _ ak.1 ak.2) .nil,rfl⟩
 case mp b =>
  split at h<;>try (cases h;done)
  split at h<;>try (cases h;done)
  rename_i h1
  cases h
  exact ⟨.cons (.mp _ _ (lU h1)) .nil,rfl⟩
 case cT=>split at h<;>cases h;exact ⟨.cons (.cT) .nil,rfl⟩
 case pa b t n =>
  split at h<;>try (cases h;done)
  split at h<;>try (cases h;done)
  rename_i h1
  split at h<;>try (cases h;done)
  rename_i h2
  split at h<;>try (cases h;done)
  rename_i h3
  cases h
  rw [lT h2,Nat.eq_of_beq_eq_true h3]
  exact ⟨.cons (.pa _ _ _ _ (lU h1)) .nil,rfl⟩
 case mw t =>
  split at h<;>try (cases h;done)
  split at h<;>try (cases h;done)
  rename_i ys hc
  cases h
  obtain ⟨e,he⟩:=eH hc
  subst e;subst he
  exact ⟨.cons (.mw _ _) .nil,rfl⟩
 case Hr=>cases h
 case fn0 f' =>
  split at h<;>try (cases h;done)
  split at h<;>try (cases h;done)
  rename_i h1
  cases h
  rw [Nat.eq_of_beq_eq_true h1]
  exact ⟨.cons (.fn _ _ _ _ _ rfl (fun i v u hv=>by simp at hv) rfl (fun i v u hv=>by simp at hv)) .nil,rfl⟩
 case LH=>cases h
 case LI=>cases h
 case fn=>cases h
 case nil=>cases h
 case cons=>cases h
theorem CP.ZX:∀{c:CP} {A:Type} {vs r:List V} {f:A->c.T A},c.Gq π vs=some (f,r)->∃us,vs=us++r/\∀a,Dy π (c.vs (f a)) us/\c.r (f a)=a:=by
 intro c
 induction c with
 |nil=>intro A vs r f h;simp only [CP.Gq] at h;cases h;exact ⟨[],rfl,fun a=>⟨.nil,rfl⟩⟩
 |cons c l ihc ihl =>
  intro A vs r f h
  simp only [CP.Gq] at h
  split at h<;>try (cases h;done)
  rename_i f1 vs' h1
  split at h<;>try (cases h;done)
  rename_i g vs'' h2
  cases h
  obtain ⟨us,rfl,e1⟩:=ihc h1
  obtain ⟨Zd,rfl,e2⟩:=ihl h2
  refine ⟨us++Zd,by simp,fun a=>?_⟩
  obtain ⟨q1,q2⟩:=e1 (g a)
  obtain ⟨q3,q4⟩:=e2 a
  simp only [CP.vs,CP.r,q2]
  exact ⟨q1.append q3,q4⟩
 |LH l ih =>
  intro A vs r f h
  simp only [CP.Gq] at h
  split at h<;>try (cases h;done)
  rename_i cs r'
  split at h<;>try (cases h;done)
  rename_i f1 h1
  cases h
  obtain ⟨us,e,e1⟩:=ih h1
  rw [List.append_nil] at e
  subst e
  refine ⟨[.gx cs],rfl,fun a=>?_⟩
  obtain ⟨q1,q2⟩:=e1 a
  exact ⟨.cons (.gx _ _ q1.1 q1.2) .nil,q2⟩
 |LI l ih =>
  intro A vs r f h
  simp only [CP.Gq] at h
  split at h<;>try (cases h;done)
  rename_i cs r'
  split at h<;>try (cases h;done)
  rename_i f1 h1
  cases h
  obtain ⟨us,e,e1⟩:=ih h1
  rw [List.append_nil] at e
  subst e
  refine ⟨[.agg cs],rfl,fun a=>?_⟩
  obtain ⟨q1,q2⟩:=e1 a
  exact ⟨.cons (.agg _ _ q1.1 q1.2) .nil,q2⟩
 |Hr t g l ih =>
  intro A vs r f h
  simp only [CP.Gq] at h
  split at h<;>try (cases h;done)
  rename_i t' v r'
  split at h<;>try (cases h;done)
  rename_i ht
  split at h<;>try (cases h;done)
  rename_i cs hun
  split at h<;>try (cases h;done)
  rename_i f1 h1
  cases h
  obtain ⟨us,e,e1⟩:=ih h1
  rw [List.append_nil] at e
  subst e
  have e0:=Nat.eq_of_beq_eq_true ht
  subst e0
  refine ⟨[.cL t' v],rfl,fun a=>?_⟩
  obtain ⟨q1,q2⟩:=e1 a
  exact ⟨.cons (.cL _ _ _ (Ep hun q1)) .nil,q2⟩
 |fn f0 a b Hq Gp =>
  intro A vs r f h
  simp only [CP.Gq] at h
  split at h<;>try (cases h;done)
  rename_i f' va vb r'
  split at h<;>try (cases h;done)
  rename_i hf
  split at h<;>try (cases h;done)
  rename_i g hg
  split at h<;>try (cases h;done)
  rename_i k hk
  cases h
  obtain ⟨us,e,e1⟩:=Hq hg
  rw [List.append_nil] at e
  subst e
  obtain ⟨Zd,e',e2⟩:=Gp hk
  rw [List.append_nil] at e'
  subst e'
  have e0:=Nat.eq_of_beq_eq_true hf
  subst e0
  refine ⟨[.fn f' va vb],rfl,fun x=>?_⟩
  obtain ⟨q1,q2⟩:=e1 (k x)
  obtain ⟨q3,q4⟩:=e2 x
  simp only [CP.vs,CP.r,q2]
  exact ⟨.cons (.fn _ _ _ _ _ q1.1 q1.2 q3.1 q3.2) .nil,q4⟩
 |_ =>
  intro A vs r f h
  simp only [CP.Gq] at h
  split at h<;>try (cases h;done)
  rename_i v r'
  split at h<;>try (cases h;done)
  rename_i f1 h1
  cases h
  exact ⟨[v],rfl,fun a=>CP.ZW h1 a⟩
theorem CP.sC {c:CP} {v:V} {f:A->c.T A} (h:c.rd π v=some f) (a:A):EV π (c.v (f a)) v/\c.r (f a)=a:=by
 unfold CP.rd at h
 split at h<;>try (cases h;done)
 rename_i f1 h1
 cases h
 obtain ⟨us,e,e1⟩:=CP.ZX h1
 rw [List.append_nil] at e
 subst e
 obtain ⟨q1,q2⟩:=e1 a
 refine ⟨?_,q2⟩
 unfold CP.v
 have hl:=q1.1
 cases hc:c.vs (f a) with
 |nil=>rw [hc] at hl;simp at hl
 |cons u r=>exact q1.2 0 u v (by rw [hc];rfl) rfl
theorem jv : ∀ {cs : List CP} {vs : List V} {f : A → mM cs A}, gj π cs vs = some f → ∀ a, Dy π (qX cs (f a)) vs ∧ sA cs (f a) = a
 |[],[],f,h,a=>by cases h;exact ⟨.nil,rfl⟩
 |c::r,v::vs,f,h,a=>by
  simp only [gj] at h
  split at h<;>try (cases h;done)
  rename_i f1 h1
  split at h<;>cases h
  rename_i g h2
  obtain ⟨q1,q2⟩:=CP.sC h1 (g a)
  obtain ⟨q3,q4⟩:=jv h2 a
  simp only [qX,sA,q2]
  exact ⟨.cons q1 q3,q4⟩
 |[],_::_,f,h,a=>by simp [gj] at h
 |_::_,[],f,h,a=>by simp [gj] at h
theorem SP.sC : ∀ {p : SP} {v : V} {f : A → p.T A}, p.rd π v = some f → ∀ (a : A), EV π (p.v (f a)) v ∧ p.r (f a) = a
 | .c q,v,f,h,a=>CP.sC (c:=q) h a
 | .agg cs,v,f,h,a=>by
  cases v<;>try (cases h;done)
  rename_i vs
  have h':gj π cs vs=some f:=h
  obtain ⟨h1,h2⟩:=jv h' a
  exact ⟨.agg _ _ h1.1 h1.2,h2⟩
 | .cS cs,v,f,h,a=>by
  cases v<;>try (cases h;done)
  rename_i vs
  have h':gj π cs vs=some f:=h
  obtain ⟨h1,h2⟩:=jv h' a
  exact ⟨.cS _ _ h1.1 h1.2,h2⟩
 | .fn f' x y,v,f,h,a=>by
  cases v with
  |fn f2 va vb =>
   have h':(match Nat.beq f2 f' with
    |true=>match gj (A:=mM y A) π x va with
     |some g=>match gj (A:=A) π y vb with
      |some h=>some fun z=>g (h z)
      |none=>none
     |none=>none
    |false=>none)=some f:=h
   clear h
   cases hf:Nat.beq f2 f' with
   |false=>rw [hf] at h';cases h'
   |true =>
    rw [hf] at h'
    simp only at h'
    cases hg:gj (A:=mM y A) π x va with
    |none=>rw [hg] at h';cases h'
    |some g =>
     rw [hg] at h'
     simp only at h'
     cases hk:gj (A:=A) π y vb with
     |none=>rw [hk] at h';cases h'
     |some k =>
      rw [hk] at h'
      have h2:(fun z=>g (k z))=f:=Option.some.inj h'
      obtain ⟨q1,q2⟩:=jv hg (k a)
      obtain ⟨q3,q4⟩:=jv hk a
      have e:=Nat.eq_of_beq_eq_true hf
      subst e
      have e2:SP.v (A:=A) (.fn f2 x y) (g (k a)) = .fn f2 (qX x (g (k a))) (qX y (k a)):=by
       show V.fn f2 _ (qX y (sA x (g (k a))))=_
       rw [q2]
      have e3:SP.r (A:=A) (.fn f2 x y) (g (k a))=a:=by
       show sA y (sA x (g (k a)))=a
       rw [q2,q4]
      have e4:f a=g (k a):=by rw [<-h2]
      rw [e4]
      exact ⟨by rw [e2];exact .fn _ _ _ _ _ q1.1 q1.2 q3.1 q3.2,e3⟩
  |_=>cases h
 | .alt x y,v,f,h,a=>by
  cases v with
  |cS vs =>
   have h':(match gj (A:=A) π x vs with
    |some f=>some fun z=>(Sum.inl (f z):mM x A ⊕ mM y A)
    |none=>match gj (A:=A) π y vs with
     |some f=>some fun z=>Sum.inr (f z)
     |none=>none)=some f:=h
   clear h
   cases hx:gj (A:=A) π x vs with
   |some g =>
    rw [hx] at h'
    have h2:=Option.some.inj h'
    subst h2
    obtain ⟨h1,h2⟩:=jv hx a
    exact ⟨.cS _ _ h1.1 h1.2,h2⟩
   |none =>
    rw [hx] at h'
    simp only at h'
    cases hy:gj (A:=A) π y vs with
    |none=>rw [hy] at h';cases h'
    |some g =>
     rw [hy] at h'
     have h2:=Option.some.inj h'
     subst h2
     obtain ⟨h1,h2⟩:=jv hy a
     exact ⟨.cS _ _ h1.1 h1.2,h2⟩
  |_=>cases h
theorem sD {env : Env} : ∀ {ps : List (Nat × SP)} {f : A → Ab ps A}, AZ π env ps = some f → ∀ a, EE π (yg ps (f a)) env ∧ O4 ps (f a) = a
 |[],f,h,a=>by cases h;exact ⟨fun p hp=>by simp [yg] at hp,rfl⟩
 |(s,p)::r,f,h,a=>by
  simp only [AZ] at h
  split at h<;>try (cases h;done)
  rename_i f1 h1
  split at h<;>cases h
  rename_i g h2
  obtain ⟨q1,q2⟩:=SP.sC h1 (g a)
  obtain ⟨q3,q4⟩:=sD h2 a
  simp only [yg,O4,q2]
  refine ⟨fun x hx=>?_,q4⟩
  rcases List.mem_cons.1 hx with rfl|hx
  ·exact q1
  ·exact q3 x hx
def Pk : qJ → qJ → Bool
 | .ready,.ready=>true
 | .busy,.busy=>true
 | .done,.done=>true
 | .exhausted,.exhausted=>true
 |_,_=>false
theorem Pm {a b:qJ} (h:Pk a b=true):a=b:=by cases a<;>cases b<;>simp_all [Pk]
def ZY : Option Ex → Option Ex → Bool
 |none,none=>true
 |some .normal,some .normal=>true
 |some (.exit a),some (.exit b)=>Nat.beq a b
 |some .ret,some .ret=>true
 |_,_=>false
theorem T3 {a b:Option Ex} (h:ZY a b=true):a=b:=by
 rcases a with _|(_|_|_)<;>rcases b with _|(_|_|_)<;>simp only [ZY,Bool.false_eq_true] at h<;>try rfl
 rw [Nat.eq_of_beq_eq_true h]
def BP.rd (π:List Nat) (nx:Nat) (bl:aq) (id:Nat) (p:BP):Option (A->p.T A) :=
 match vL π id with
 |none=>none
 |some i=>match p with
  | .arr t fz=>match ay i bl with
   |some (.arr t' xs fz')=>match kC t' t xs with
    |some ys=>match me fz' fz with
     |true=>some fun a=>(ys,a)
     |false=>none
    |none=>none
   |none=>match Nat.ble nx i with
    |true=>some fun a=>(([]:List t.den),a)
    |false=>none
   |_=>none
  | .cells cs fz=>match ay i bl with
   |some (.cells vs fz')=>match me fz' fz with
    |true=>gj π cs vs
    |false=>none
   |_=>none
  | .loop st j d env ps as bd N=>match ay i bl with
   |some (.loop st' j' d' env' ps' as' TE N')=>match an (Pk st' st) (an (ZY j' j)<|an (Ad π d d') (an (El ps' ps) (an (Nat.beq N' N) (an (jF as' as) (jF TE bd))))) with
    |true=>AZ π env' env
    |false=>none
   |_=>none
  | .iH=>match ay i bl with
   |some .iH=>some fun a=>a
   |_=>none
  | .map kt kg vt vg=>match ay i bl with
   |some (.map Nu Xi Nv S5 es)=>match an (me Xi kg) (me S5 vg) with
    |true=>match IV Nu Nv kt vt es with
     |some fs=>some fun a=>(fs,a)
     |none=>none
    |false=>none
   |_=>none
  | .oa t k q c=>match ay i bl with
   |some (.oa t' xs k' q' v)=>match an (Nat.beq k' k) (Pc q' q) with
    |true=>match kC t' t xs with
     |some ys=>match CP.rd π c v with
      |some f=>some fun a=>(ys,f a)
      |none=>none
     |none=>none
    |false=>none
   |_=>none
theorem BP.sC {nx:Nat} {bl:aq} {id:Nat} {p:BP} {f:A->p.T A} (h:p.rd π nx bl id=some f) (a:A):EBk π nx bl id (p.v (f a))/\p.r (f a)=a:=by
 unfold BP.rd at h
 split at h
 ·cases h
 ·rename_i i hi
  rw [qa] at hi
  cases p<;>simp only at h
  case arr t fz =>
   split at h
   ·rename_i t' xs fz' hb
    split at h<;>try (cases h;done)
    rename_i ys hc
    split at h<;>cases h
    rename_i hfz
    refine ⟨⟨i,hi,.inl ?_⟩,rfl⟩
    obtain ⟨e,he⟩:=eH hc
    subst e;subst he
    rw [hb,eP hfz]
   ·rename_i hb
    split at h<;>cases h
    rename_i hle
    exact ⟨⟨i,hi,.inr ⟨rfl,Nat.le_of_ble_eq_true hle⟩⟩,rfl⟩
   ·cases h
  case cells cs fz =>
   split at h<;>try (cases h;done)
   rename_i vs fz' hb
   split at h<;>try (cases h;done)
   rename_i hfz
   obtain ⟨h1,h2⟩:=jv h a
   refine ⟨⟨i,hi,vs,?_,h1⟩,h2⟩
   rw [hb,eP hfz]
  case loop st j d env ps as bd N =>
   split at h<;>try (cases h;done)
   rename_i st' j' d' env' ps' as' TE N' hb
   split at h<;>try (cases h;done)
   rename_i hc
   simp only [aV] at hc
   obtain ⟨c1,cj,c2,c3,c4,c5,c6⟩:=hc
   obtain ⟨h1,h2⟩:=sD h a
   refine ⟨⟨i,hi,d',env',?_,lU c2,h1⟩,h2⟩
   rw [hb,Pm c1,T3 cj,sB c3,Nat.eq_of_beq_eq_true c4,wo c5,wo c6]
  case iH =>
   split at h<;>cases h
   rename_i hb
   exact ⟨⟨i,hi,hb⟩,rfl⟩
  case map kt kg vt vg =>
   split at h<;>try (cases h;done)
   rename_i Nu Xi Nv S5 es hb
   split at h<;>try (cases h;done)
   rename_i hg
   split at h<;>try (cases h;done)
   rename_i fs hc
   cases h
   simp only [aV] at hg
   rw [eP hg.1,eP hg.2] at hb
   unfold IV at hc
   split at hc<;>try (cases hc;done)
   rename_i he
   obtain ⟨rfl,rfl⟩:=he
   cases hc
   exact ⟨⟨i,hi,hb⟩,rfl⟩
  case oa t k q c =>
   split at h<;>try (cases h;done)
   rename_i t' xs k' q' v hb
   split at h<;>try (cases h;done)
   rename_i hc
   simp only [aV] at hc
   split at h<;>try (cases h;done)
   rename_i ys hy
   split at h<;>try (cases h;done)
   rename_i f' hf
   cases h
   obtain ⟨e,he⟩:=eH hy
   subst e;subst he
   obtain ⟨h1,h2⟩:=CP.sC hf a
   refine ⟨⟨i,hi,v,?_,h1⟩,h2⟩
   rw [hb,Nat.eq_of_beq_eq_true hc.1,Ek hc.2]
def Pn (π : List Nat) (nx : Nat) (bl : aq) : (ps : List (Nat × BP)) → Option (A → TX ps A)
 |[]=>some fun a=>a
 |(id,p)::r=>match BP.rd (A:=TX r A) π nx bl id p with
  |some f=>match Pn π nx bl r with
   |some g=>some fun a=>f (g a)
   |none=>none
  |none=>none
theorem Cp {nx : Nat} {bl : aq} : ∀ {ps : List (Nat × BP)} {f : A → TX ps A}, Pn π nx bl ps = some f → ∀ a, (∀ p ∈ SH ps (f a), EBk π nx bl p.1 p.2) ∧ (SH ps (f a)).map (·.1) = ps.map (·.1)
 |[],f,h,a=>by cases h;exact ⟨fun p hp=>by simp [SH] at hp,rfl⟩
 |(s,p)::r,f,h,a=>by
  simp only [Pn] at h
  split at h<;>try (cases h;done)
  rename_i f1 h1
  split at h<;>cases h
  rename_i g h2
  obtain ⟨q1,q2⟩:=BP.sC h1 (g a)
  obtain ⟨q3,q4⟩:=Cp h2 a
  simp only [SH,q2]
  refine ⟨fun x hx=>?_,by simp [q4]⟩
  rcases List.mem_cons.1 hx with rfl|hx
  ·exact q1
  ·exact q3 x hx
def LK (nx b : Nat) : V → Option Nat
 | .sl i _ _ _=>some i
 | .ptr i _=>some i
 | .yl i=>some i
 | .mp i=>some i
 | .pa i _ _=>some i
 | .ep i _ _ _=>some i
 | .cg=>some (nx+b)
 | .cL _ (.ptr i _)=>some i
 |_=>none
def Po : List V → Nat → Option V
 |[],_=>none
 |v::_,0=>some v
 |_::r,n+1=>Po r n
def ZZ (π : List Nat) (env : Env) (nx : Nat) (bl : aq) (ms : List Nat) (b : Nat) : Lc → Option Nat
 | .slot s=>LK nx b (get s env)
 | .part s k=>match get s env with
  | .agg cs=>match Po cs k with
   |some v=>LK nx b v
   |none=>none
  | .fn _ a c=>match Po (a++c) k with
   |some v=>LK nx b v
   |none=>none
  | .cS cs=>match Po cs k with
   |some v=>LK nx b v
   |none=>none
  |_=>none
 | .cell b' k=>match vL π b' with
  |some i=>match ay i bl with
   |some (.cells cs _)=>match Po cs k with
    |some v=>LK nx b v
    |none=>none
   |some (.oa _ _ _ _ v)=>LK nx b v
   |_=>none
  |none=>none
 | .old i=>some i
 | .mark j=>vL ms j
def snoc {R : Type} : List Nat → Nat → (List Nat → R) → R
 |[],i,k=>k [i]
 |j::r,i,k=>snoc r i fun r'=>k (j::r')
theorem Cq {R : Type} : ∀ (l : List Nat) (i : Nat) (k : List Nat → R), snoc l i k = k (l ++ [i])
 |[],_,_=>rfl
 |j::r,i,k=>by simp only [snoc,Cq r];rfl
def sE {R : Type} (no : R) (env : Env) (nx : Nat) (bl : aq) (ms : List Nat) : List Lc → List Nat → Nat → (List Nat → R) → R
 |[],π,_,k=>k π
 |l::r,π,b,k=>match ZZ π env nx bl ms b l with
  |some i=>fN i fun i=>snoc π i fun π=>fN (b+1) fun b=>sE no env nx bl ms r π b k
  |none=>no
theorem yp {X:Type} {no:Option X} {env:Env} {nx:Nat} {bl:aq} {ms:List Nat}:∀{ls:List Lc} {π:List Nat} {b:Nat} {k:List Nat->Option X} {x:X},sE no env nx bl ms ls π b k=some x ->
  no=some x\/∃r,r.length=ls.length/\k (π++r)=some x
 |[],π,b,k,x,h=>.inr ⟨[],rfl,by simpa [sE] using h⟩
 |l::ls,π,b,k,x,h=>by
  simp only [sE] at h
  split at h
  ·rename_i i hi
   rw [gB,Cq,gB] at h
   rcases yp h with h|⟨r,h1,h2⟩
   ·exact .inl h
   ·exact .inr ⟨i::r,by simp [h1],by simpa using h2⟩
  ·exact .inl h
def Pp (π:List Nat) (a b:Nat):Bool:=match vL π a with
 |some i=>match vL π b with
  |some j=>match Nat.beq i j with
   |true=>false
   |false=>true
  |none=>false
 |none=>false
def Cr (π : List Nat) (a : Nat) : List (Nat × BP) → Bool
 |[]=>true
 |(b,_)::r=>match Pp π a b with
  |true=>Cr π a r
  |false=>false
def yq (π : List Nat) : List (Nat × BP) → Bool
 |[]=>true
 |(a,_)::r=>match Cr π a r with
  |true=>yq π r
  |false=>false
theorem Pq {a b:Nat} (h:Pp π a b=true):π[a]?≠π[b]?:=by
 unfold Pp at h
 split at h<;>try (cases h;done)
 rename_i i hi
 split at h<;>try (cases h;done)
 rename_i j hj
 split at h<;>try (cases h;done)
 rename_i hij
 rw [<-qa,<-qa,hi,hj]
 intro e;cases e
 rw [Nat.beq_refl] at hij;cases hij
theorem uz {a : Nat} : ∀ {r : List (Nat × BP)}, Cr π a r = true → ∀ b ∈ r.map (·.1), π[a]? ≠ π[b]?
 |[],_,b,hb=>by simp at hb
 |(c,_)::r,h,b,hb=>by
  simp only [Cr] at h
  split at h<;>try (cases h;done)
  rename_i hd
  simp only [List.map_cons,List.mem_cons] at hb
  rcases hb with rfl|hb
  ·exact Pq hd
  ·exact uz h b hb
theorem yu : ∀ {r : List (Nat × BP)}, yq π r = true → ∀ a ∈ r.map (·.1), ∀ b ∈ r.map (·.1), π[a]? = π[b]? → a = b
 |[],_,a,ha=>by simp at ha
 |(c,_)::r,h,a,ha=>by
  simp only [yq] at h
  split at h<;>try (cases h;done)
  rename_i hd
  intro b hb e
  simp only [List.map_cons,List.mem_cons] at ha hb
  rcases ha with rfl|ha<;>rcases hb with rfl|hb
  ·rfl
  ·exact absurd e (uz hd b hb)
  ·exact absurd e.symm (uz hd a ha)
  ·exact yu h a ha b hb e
def LL (π : List Nat) : List Nat → List Nat → Bool
 |[],[]=>true
 |a::r,i::s=>match Ad π a i with
  |true=>LL π r s
  |false=>false
 |_,_=>false
theorem Jz : ∀ {ps ms : List Nat}, LL π ps ms = true → ps.map (fun i => π[i]?) = ms.map some
 |[],[],_=>rfl
 |a::r,i::s,h=>by
  simp only [LL] at h
  split at h<;>try (cases h;done)
  rename_i ha
  simp [lU ha,Jz h]
 |[],_::_,h=>by simp [LL] at h
 |_::_,[],h=>by simp [LL] at h
def av.rd {R:Type} (no:R) (pre:List Nat) (base:Nat) (p:av) (env:Env) (nx:Nat) (bl:aq) (ms:List Nat) (k:p.T->R):R :=
 sE no env nx bl ms p.ig pre base fun π=>match an (LL π p.ms ms) (yq π p.bl) with
  |true=>match AZ (A:=TX p.bl Unit) π env p.env with
   |some f=>match Pn (A:=Unit) π nx bl p.bl with
    |some g=>k (f (g ()))
    |none=>no
   |none=>no
  |false=>no
theorem av.JA {X:Type} {no:Option X} {base:Nat} {p:av} {env:Env} {nx:Nat} {bl:aq} {ms:List Nat} {k:p.T->Option X} {r:X} (h:p.rd no (List.range base) base env nx bl ms k=some r) :
  no=some r\/∃x π,k x=some r/\jE base π ⟨env,⟨nx,bl⟩,ms⟩ (p.st base x):=by
 rcases yp h with h|⟨rr,hlen,h⟩
 ·exact .inl h
 split at h
 ·rename_i hc
  rw [aV] at hc
  split at h
  ·rename_i f hf
   split at h
   ·rename_i g hg
    obtain ⟨h1,h2⟩:=sD hf (g ())
    obtain ⟨h3,h4⟩:=Cp hg ()
    refine .inr ⟨f (g ()),List.range base++rr,h,?_⟩
    constructor
    ·simp
    ·simp [av.st,hlen]
    ·exact Jz hc.1
    ·exact h1
    ·simp only [av.st,av.B,h2];exact h3
    ·simp only [av.st, av.B, h2]
     intro q hq s hs e
     refine yu hc.2 q.1 ?_ s.1 ?_ e
     ·rw [<-h4];exact List.mem_map_of_mem hq
     ·rw [<-h4];exact List.mem_map_of_mem hs
   ·exact .inl h
  ·exact .inl h
 ·exact .inl h
theorem av.dR {X:Type} {base:Nat} {p:av} {env:Env} {nx:Nat} {bl:aq} {ms:List Nat} {k:p.T->Option X} {r:X} (h:p.rd none (List.range base) base env nx bl ms k=some r) :
  ∃x π,k x=some r/\jE base π ⟨env,⟨nx,bl⟩,ms⟩ (p.st base x):=by
 rcases av.JA h with h|h
 ·cases h
 ·exact h
end
end Go.AM
end
section
namespace Go.AM
@[reducible] def dc (k:IntKind) (z:Int):Bool:=k.min<=z&&z<=k.max
@[reducible] def bT (i n:Int):Bool:=decide (0<=i/\i<n)
@[reducible] def Y8 (a b:Int):Int:=if b<a then b else a
@[reducible] def imax (a b:Int):Int:=if b > a then b else a
@[reducible] def seq (a b:ByteArray):Bool:=a.toList==b.toList
@[reducible] def slt (a b:ByteArray):Bool:=Op.bytesLess a.toList b.toList
@[reducible] def Gx (c a b:Bool):Bool:=if c then a else b
def Hs : Ex → Ex → Bool
 | .normal,.normal=>true
 | .exit a,.exit b=>Nat.beq a b
 | .ret,.ret=>true
 |_,_=>false
theorem JB {a b:Ex} (h:Hs a b=true):a=b:=by
 cases a<;>cases b<;>simp only [Hs,Bool.false_eq_true] at h<;>try rfl
 rw [Nat.eq_of_beq_eq_true h]
abbrev aU:=List (Ex×av)
def aU.T : aU → Type
 |[]=>Empty
 |[(_,p)]=>p.T
 |(_,p)::q::r=>p.T ⊕ aU.T (q::r)
def aU.st (base : Nat) : (xs : aU) → xs.T → Ex × St
 |[],x=>nomatch x
 |[(e,p)],x=>(e,p.st base x)
 |(_,_)::q::r,.inr y=>aU.st base (q::r) y
 |(e,p)::_::_,.inl x=>(e,p.st base x)
section
variable {R:Type}
def T4 : List V → (List V → R) → R
 |[],k=>k []
 |v::r,k=>fV v fun v=>T4 r fun r=>k (v::r)
theorem nP : ∀ (l : List V) (k : List V → R), T4 l k = k l
 |[],k=>rfl
 |v::r,k=>by simp only [T4,oc,nP r]
def LM : Env → (Env → R) → R
 |[],k=>k []
 |(s,v)::r,k=>fV v fun v=>LM r fun r=>k ((s,v)::r)
theorem sF : ∀ (l : Env) (k : Env → R), LM l k = k l
 |[],k=>rfl
 |(s,v)::r,k=>by simp only [LM,oc,sF r]
def Z0 (b:lD) (k:lD->R):R:=match b with
 | .cells cs fz=>T4 cs fun cs=>k (.cells cs fz)
 | .arr t xs fz=>k (.arr t xs fz)
 | .loop st j d env ps as bd N=>LM env fun env=>k (.loop st j d env ps as bd N)
 | .iH=>k .iH
 | .map kt kg vt vg es=>k (.map kt kg vt vg es)
 | .oa t xs i p v=>fV v fun v=>k (.oa t xs i p v)
theorem T5 (b:lD) (k:lD->R):Z0 b k=k b:=by cases b<;>simp only [Z0,nP,sF,oc]
def fBl : aq → (aq → R) → R
 |[],k=>k []
 |(s,b)::r,k=>Z0 b fun b=>fBl r fun r=>k ((s,b)::r)
theorem Cs : ∀ (l : aq) (k : aq → R), fBl l k = k l
 |[],k=>rfl
 |(s,b)::r,k=>by simp only [fBl,T5,Cs r]
def av.go (p:av) (nx:Nat) (x:p.T) (k:Env->Nat->aq->List Nat->R):R:=LM (p.E x) fun env=>fBl (p.B x) fun bl=>k env nx bl p.ms
theorem av.go_eq (p:av) (nx:Nat) (x:p.T) (k:Env->Nat->aq->List Nat->R):p.go nx x k=k (p.E x) nx (p.B x) p.ms:=by
 unfold av.go;rw [sF,Cs]
def aU.go (kz : Kz R) (base : Nat) : (xs : aU) → xs.T → Kc R → R
 |[],x,_=>nomatch x
 |[(e,p)],x,k=>fN (base+p.ig.length) fun nx=>p.go nx x (k e)
 |(e,p)::q::r,x,k=>kz.sm x (fun x=>fN (base+p.ig.length) fun nx=>p.go nx x (k e)) fun y=>aU.go kz base (q::r) y k
end
theorem aU.A2 {X:Type} {base:Nat}:∀{xs:aU} {x:xs.T} {k:Kc (Option X)} {r:X},xs.go (iK X) base x k=some r ->
  k (xs.st base x).1 (xs.st base x).2.env (xs.st base x).2.H.next (xs.st base x).2.H.bl (xs.st base x).2.ms=some r
 |[],x,_,_,_=>nomatch x
 |[(e,p)],x,k,r,h=>by
  simp only [aU.go,gB] at h
  exact (av.go_eq p _ (show p.T from x) (k e)).symm.trans h
 |(e,p)::q::s,x,k,r,h=>by
  simp only [aU.go,iK] at h
  cases x with
  |inl x =>
   simp only [gB] at h
   rw [av.go_eq] at h
   exact h
  |inr y=>exact aU.A2 (xs:=q::s) (x:=y) h
def aU.rd {R : Type} (no : R) (pre : List Nat) (base : Nat) : (xs : aU) → Ex → Env → Nat → aq → List Nat → (xs.T → R) → R
 |[],_,_,_,_,_,_=>no
 |[(e',p)],e,env,nx,bl,ms,k=>match Hs e' e with
  |true=>p.rd no pre base env nx bl ms k
  |false=>no
 |(e',p)::q::r,e,env,nx,bl,ms,k=>match Hs e' e with
  |true=>p.rd (aU.rd no pre base (q::r) e env nx bl ms fun x=>k (.inr x)) pre base env nx bl ms fun x=>k (.inl x)
  |false=>aU.rd no pre base (q::r) e env nx bl ms fun x=>k (.inr x)
theorem aU.dR {X:Type} {base:Nat} {env:Env} {nx:Nat} {bl:aq} {ms:List Nat}:∀{xs:aU} {e:Ex} {k:xs.T->Option X} {r:X},xs.rd none (List.range base) base e env nx bl ms k=some r ->
  ∃x π,k x=some r/\e=(xs.st base x).1/\jE base π ⟨env,⟨nx,bl⟩,ms⟩ (xs.st base x).2
 |[],_,_,_,h=>by simp [aU.rd] at h
 |[(e',p)],e,k,r,h=>by
  simp only [aU.rd] at h
  split at h<;>try (cases h;done)
  rename_i he
  obtain ⟨x,π,h1,h2⟩:=av.dR h
  exact ⟨x,π,h1,(JB he).symm,h2⟩
 |(e',p)::q::s,e,k,r,h=>by
  simp only [aU.rd] at h
  split at h
  ·rename_i he
   rcases av.JA h with h|⟨x,π,h1,h2⟩
   ·obtain ⟨x, π, h1, h2, h3⟩ := aU.dR (xs := q :: s) h
    exact ⟨.inr x,π,h1,h2,h3⟩
   ·exact ⟨.inl x,π,h1,(JB he).symm,h2⟩
  ·obtain ⟨x, π, h1, h2, h3⟩ := aU.dR (xs := q :: s) h
   exact ⟨.inr x,π,h1,h2,h3⟩
def Pr {R:Type} (no:R) (pre:List Nat) (base:Nat) (p:av) (xs:aU) (inl:p.T->R) (inr:xs.T->R):Kc R:=fun e env nx bl ms=>match e with
 | .normal=>p.rd no pre base env nx bl ms inl
 | .exit i=>xs.rd no pre base (.exit i) env nx bl ms inr
 | .ret=>xs.rd no pre base .ret env nx bl ms inr
def oV {P:Program} {N:Nat} {out:Option Nat} {base:Nat} {R:Type} (kz:Kz R) (cx:Cx) (ar:Ar) (pre:List Nat) (p:av) (xs:aU) (body:D P N out base) (inl:p.T->R) (inr:xs.T->R) (x:p.T):R :=
 fN (base+p.ig.length) fun nx=>p.go nx x fun env nx bl ms=>kE kz cx ar body env nx bl ms (Pr kz.no pre base p xs inl inr)
section
variable {P:Program} {N:Nat} {out:Option Nat} {base:Nat}
noncomputable def aW (mixed : P.follows .mixedOrders = true) (cx : Cx) (gN : cx.Ok P) (pre : List Nat) (hpre : pre = List.range base) (p : av) (xs : aU) (hxs : xs.all (fun p => !Hs p.1 .normal) = true) (body : D P N out base)
  (step:p.T->Option (p.T ⊕ xs.T)) (hstep:∀x,oV (iK (p.T ⊕ xs.T)) cx eu pre p xs body (fun y=>some (.inl y)) (fun b=>some (.inr b)) x=step x):bw P N out base where
 c:=body.er
 run kz env nx bl ms K:=p.rd kz.no pre base env nx bl ms fun x=>kz.bd (iter step x) fun b=>xs.go kz base b K
 ok:=by
  intro X env nx bl ms K r h Q hQ
  subst hpre
  obtain ⟨x,π,h1,h2⟩:=av.dR h
  obtain ⟨b,h3,h4⟩:=pZ h1
  have h5:=aU.A2 h4
  refine Lz (iQ mixed) (I:=p.st base) (X:=xs.st base) (step:=step) (fun x r hx=>?_) h3 h2 (hQ _ _ _ _ _ h5)
  rw [<-hstep x] at hx
  unfold oV at hx
  rw [gB,av.go_eq] at hx
  refine lS gN hx fun e env nx bl ms hk=>?_
  unfold Pr at hk
  cases e with
  |normal =>
   obtain ⟨y,π,q1,q2⟩:=av.dR hk
   cases q1
   exact ⟨rfl,π,q2⟩
  |exit i =>
   obtain ⟨y,π,q1,q2,q3⟩:=aU.dR hk
   cases q1
   exact ⟨by simp,q2,π,q3⟩
  |ret =>
   obtain ⟨y,π,q1,q2,q3⟩:=aU.dR hk
   cases q1
   exact ⟨by simp,q2,π,q3⟩
def qY : List SP → Type → Type
 |[],A=>A
 |p::r,A=>p.T (qY r A)
def Er {A : Type} : (ps : List SP) → qY ps A → List V
 |[],_=>[]
 |p::r,x=>p.v x::Er r (p.r x)
def Z1 {A : Type} : (ps : List SP) → qY ps A → A
 |[],x=>x
 |p::r,x=>Z1 r (p.r x)
def A3 {A : Type} (π : List Nat) : (ps : List SP) → List V → Option (A → qY ps A)
 |[],[]=>some fun a=>a
 |p::r,v::vs=>match SP.rd (A:=qY r A) π p v with
  |some f=>match A3 π r vs with
   |some g=>some fun a=>f (g a)
   |none=>none
  |none=>none
 |_,_=>none
theorem Es {π : List Nat} {A : Type} : ∀ {ps : List SP} {vs : List V} {f : A → qY ps A}, A3 π ps vs = some f → ∀ a, Dy π (Er ps (f a)) vs ∧ Z1 ps (f a) = a
 |[],[],f,h,a=>by cases h;exact ⟨.nil,rfl⟩
 |c::r,v::vs,f,h,a=>by
  simp only [A3] at h
  split at h<;>try (cases h;done)
  rename_i f1 h1
  split at h<;>cases h
  rename_i g h2
  obtain ⟨q1,q2⟩:=SP.sC h1 (g a)
  obtain ⟨q3,q4⟩:=Es h2 a
  simp only [Er,Z1,q2]
  exact ⟨.cons q1 q3,q4⟩
 |[],_::_,f,h,a=>by simp [A3] at h
 |_::_,[],f,h,a=>by simp [A3] at h
structure Ct where
 f:Nat
 ps:List SP
 res:SP
 fn:qY ps Unit->Option (res.T Unit)
def Ct.Ok (P:Program) (ct:Ct):Prop:=∀x y,ct.fn x=some y->kB P ct.f (Er ct.ps x) (ct.res.v y)
theorem Et {π:List Nat}:Mu.kq (fun _=>none) π=fun _=>none:=by
 funext i;simp only [Mu.kq];cases π[i]?<;>rfl
theorem Cu {f:Nat} {vs vs':List V} {v:V} {nx:Nat} {bl:aq} (h:kB P f vs' v) (hm:ee (fin eu bl 8) vs=some vs') (hs:DH v=true) {Q:V->aG->Prop} (hQ:Q v ⟨nx,bl⟩):eV P f vs ⟨nx,bl⟩ Q:=by
 refine ⟨h.1,fun Y ι μ w as hI hl=>?_⟩
 refine (h.2 (ι.all Y.own w) w as (hI.dK.mono (ax.B8 hI.rd)) (fun b o x hx=>?_) (jq (fun v r x h hr=>wk (fun _ _ _=>rfl) hI h hr) hm hl)).mono ?_
 ·exact ax.GV hI.rd hx
 ·rintro e w' ⟨x, ι', rfl, _, _, _, jW, D5⟩
  exact ⟨x,ι,μ,v,_,rfl,ax.le_refl _,Mu.le_refl _,hI.called (ax.le_refl _) (fun _ _ _=>rfl) (dF.kept (fun b o x hx=>hI.rd b o x hx) jW) jW,Ec hs D5,hQ⟩
def Eu {R : Type} (kz : Kz R) (f : Nat) (vs : List V) (K : V → R) : List Ct → R
 |[]=>kz.no
 |ct::r=>match Nat.beq ct.f f with
  |true=>match A3 (A:=Unit) [] ct.ps vs with
   |some g=>kz.bd (ct.fn (g ())) fun y=>ct.res.kv kz y K
   |none=>Eu kz f vs K r
  |false=>Eu kz f vs K r
def JC (P : Program) : List Ct → Prop
 |[]=>True
 |c::r=>c.Ok P/\JC P r
theorem qc {X : Type} {f : Nat} {vs : List V} {K : V → Option X} {r : X} : ∀ {wq : List Ct}, JC P wq → Eu (iK X) f vs K wq = some r → ∃ v, kB P f vs v ∧ K v = some r
 |[],_,hk=>by cases hk
 |ct::wq,h,hk=>by
  simp only [Eu] at hk
  split at hk
  ·rename_i hf
   have e:=Nat.eq_of_beq_eq_true hf
   subst e
   split at hk
   ·rename_i g hg
    obtain ⟨y,hy,hk⟩:=qV hk
    rw [SP.aeg] at hk
    obtain ⟨q1,_⟩:=Es hg ()
    refine ⟨_,?_,hk⟩
    have hp:=h.1 _ _ hy
    exact ⟨hp.1, fun ι w as hgl hrd hl => hp.2 ι w as hgl hrd (by
     have:=aM.kq (π:=[]) q1.1 (fun i v u hv hu=>fun {x} hr=>(q1.2 i v u hv hu).rel hr) hl
     rwa [Et] at this)⟩
   ·exact qc h.2 hk
  ·exact qc h.2 hk
theorem LN {f:Nat} {vs vs':List V} {v:V} {nx:Nat} {bl bP:aq} (h:kB P f vs' v) (hm:ee (fin eu bl 8) vs=some vs') (hb:u7 (jL bl vs) bl=some bP) {Q:V->aG->Prop} (hQ:Q v ⟨nx,bP⟩):eV P f vs ⟨nx,bl⟩ Q:=by
 refine ⟨h.1,fun Y ι μ w as hI hl=>?_⟩
 obtain ⟨ι',h1,h2,h3⟩:=wm hI hb
 have hl':aM ι' (fun _=>none) vs' as.toList:=by
  have key:∀{vs vs':List V} {xs:List Value},ee (fin eu bl 8) vs=some vs'->(∀id∈jL bl vs,zV ι' μ id (ay id bl))->aM ι μ vs xs->aM ι' (fun _=>none) vs' xs:=by
   intro vs
   induction vs with
   |nil=>intro vs' xs hm _ hl;cases hm;rw [hl.of_nil];exact .nil
   |cons v r ih =>
    intro vs' xs hm hfz hl
    unfold ee at hm
    split at hm<;>try (cases hm;done)
    rename_i u hu
    split at hm<;>cases hm
    rename_i us Gk
    obtain ⟨x,xs',rfl,r1,r2⟩:=hl.bN
    simp only [jL,List.flatMap_cons,List.mem_append] at hfz
    exact .cons (Ca hu (fun id hid=>hfz id (.inl hid)) (r1.mono h1 (Mu.le_refl _))) (ih Gk (fun id hid=>hfz id (.inr hid)) r2)
  exact key hm h3 hl
 refine (h.2 ι' w as h2.dK (fun b o x hx=>h2.rd b o x hx) hl').mono ?_
 rintro e w' ⟨x,ι2,rfl,hi,hib,hrd,jW,D5⟩
 exact ⟨x,ι2,μ,v,_,rfl,ax.le_trans h1 hi,Mu.le_refl _,h2.called hi hib hrd jW,D5.mono (ax.le_refl _) (fun _ _ h=>by cases h),hQ⟩
def Z2 {R:Type} (wq:List Ct) (kz:Kz R) (f:Nat) (vs:List V) (nx:Nat) (bl:aq) (K:V->Nat->aq->R):R:=match vs.all (dZ 8) with
 |true=>Eu kz f vs (fun v=>K v nx bl) wq
 |false=>match ee (fin eu bl 8) vs with
  |some vs'=>Eu kz f vs' (fun v=>match DH v with
   |true=>K v nx bl
   |false=>match u7 (jL bl vs) bl with
    |some bP=>fBl bP fun bP=>K v nx bP
    |none=>kz.no) wq
  |none=>kz.no
def mkCx (wq:List Ct):Cx where
 pc kz f vs K:=Eu kz f vs K wq
 ca kz f vs nx bl K:=Z2 wq kz f vs nx bl K
 rd kz _ _ _ _ _:=kz.no
theorem T6 {wq:List Ct} (h:JC P wq):(mkCx wq).Ok P where
 XD hk:=qc h hk
 TW:=by
  intro X f vs nx bl K r hk Q hQ
  simp only [mkCx,Z2] at hk
  split at hk
  ·rename_i hd
   obtain ⟨v,hp,hk⟩:=qc h hk
   exact GZ hp hd (hQ _ _ _ hk)
  ·split at hk <;> try (cases hk; done)
   rename_i vs' hm
   obtain ⟨v,hp,hk⟩:=qc h hk
   split at hk
   ·rename_i hs
    exact Cu hp hm hs (hQ _ _ _ hk)
   ·split at hk <;> try (cases hk; done)
    rename_i bP hb
    rw [Cs] at hk
    exact LN hp hm hb (hQ _ _ _ hk)
 ZT hk:=by cases hk
def Z3 {R:Type} (kz:Kz R) (ar:Ar) (rs:List RV) (tys:List (Option Ty)) (res:SP) (k:res.T Unit->R):Kc R:=fun e env nx bl ms=>match e with
 | .exit _=>kz.no
 | .normal=>go env nx bl ms
 | .ret=>go env nx bl ms
where go (env:Env) (nx:Nat) (bl:aq) (ms:List Nat):R:=match fk ms bl with
 |some bl=>match vJ ar ⟨env,⟨nx,bl⟩,[]⟩ rs with
  |some vs=>match fin ar bl 8 (uY (cu tys vs)) with
   |some v=>match SP.rd (A:=Unit) [] res v with
    |some f=>k (f ())
    |none=>kz.no
   |none=>kz.no
  |none=>kz.no
 |none=>kz.no
def fnE {R:Type} (kz:Kz R) (cx:Cx) (ar:Ar) (rs:List RV) (tys:List (Option Ty)) (ps:List SP) (res:SP) (body:D P N none 0) (k:res.T Unit->R) (x:qY ps Unit):R :=
 T4 (Er ps x) fun vs=>kE kz cx ar body (args 0 vs) 0 [] [] (Z3 kz ar rs tys res k)
theorem LO {f : Nat} {func : Func} {fn : Fn} (hf : P.funcs[f]? = some func) (htr : cw P func = some fn) (cF : Enters P f) (gU : nG P fn.N none 0) {vs : List V} {r : V} (hlen : vs.length ≤ fn.np)
  (h:rT (eW P fn.N none 0) fn.body ⟨args 0 vs,⟨0,[]⟩,[]⟩ (Li (eW P fn.N none 0) fn.res fn.tys (fun r'=>EV [] r r'))):kB P f vs r:=by
 refine ⟨cF,fun ι w as hgl hrd hr=>?_⟩
 let Y:Ctx:=⟨w,ι,fun _=>none,none,fun _=>False,[]⟩
 have hI:Inv P Y ι (fun _=>none) ⟨0,[]⟩ w:=⟨I4.refl _ _,ax.le_refl _,fun _ _ _ _=>rfl,hrd,fun id L h=>h,fun _ _=>rfl,fun id B h=>by simp [ay] at h,fun id id' B B' L L' h=>by simp [ay] at h,fun id B h=>by simp [ay] at h,hgl⟩
 have hres:N4 P func.results.toList=some fn.res:=by
  unfold cw at htr
  split at htr<;>try (cases htr;done)
  split at htr<;>try (cases htr;done)
  rename_i SC
  split at htr<;>try (cases htr;done)
  cases htr;exact SC
 refine Jg (Y:=Y) hf htr gU hlen h rfl rfl (fun _ _=>rfl) hI hr fun Y1 ι' μ' S' a' w' e' hY hR hq=>?_
 have key:Li.qM (eW P fn.N none 0) fn.res fn.tys (fun r'=>EV [] r r') S'->LeavesInM Fence.wide 0 P func a'.tmps (fun e w'=>∃v ι',e = .returned v/\ι.le ι'/\(∀b o,b<w.heap.size->ι' b o=ι b o)/\dF ι' w' /\
   Dw w w'/\Rel ι' (fun _=>none) r v) a'.defers .returning w':=by
  intro hs
  unfold Li.qM at hs
  split at hs<;>try (exact hs.elim)
  rename_i bl rJ
  split at hs<;>try (exact hs.elim)
  rename_i vs' hvs
  split at hs<;>try (exact hs.elim)
  rename_i r' Ae
  refine uj hres (n:=S'.H.next) (bl:=S'.H.bl) hY rfl hR.inv hR.env hR.ms rJ hvs fun x w2 oD hx=>?_
  refine ⟨x,ι'.all Y.own w2,rfl,ax.le_trans oD.i0 (ax.B8 oD.rd),fun b o hb=>?_,fun b o y hy=>?_,oD.below.to (fun _ h=>h),?_⟩
  ·rw [ax.Tu (fun h=>by rcases h with h|h;exact absurd hb (Nat.not_lt.2 h);exact h)];exact oD.iB b o hb (fun h=>h)
  ·exact ax.GV oD.rd hy
  ·have := hs.rel (wk (Y := Y) (ar := eW P fn.N none 0) (fun _ _ _ => rfl) oD Ae (hx fn.tys))
   rwa [Et] at this
 cases e' with
 |exit id=>exact hq.elim
 |normal=>exact ⟨.inl rfl,key hq⟩
 |ret=>exact ⟨.inr rfl,key hq⟩
theorem cE (mixed : P.follows .mixedOrders = true) {cx : Cx} (gN : cx.Ok P) {func : Func} {fn : Fn} {ct : Ct} (hf : P.funcs[ct.f]? = some func) (htr : cw P func = some fn) (cF : Enters P ct.f)
  (body:D P fn.N none 0) (hbody:body.er=fn.body) (hnp:Nat.ble ct.ps.length fn.np=true) (hfn:∀x,fnE (iK (ct.res.T Unit)) cx eu fn.res fn.tys ct.ps ct.res body some x=ct.fn x):ct.Ok P:=by
 intro x y hxy
 rw [<-hfn x] at hxy
 unfold fnE at hxy
 rw [nP] at hxy
 have hlen:∀(ps:List SP) (x:qY ps Unit),(Er ps x).length=ps.length:=by
  intro ps
  induction ps with
  |nil=>intro x;rfl
  |cons p r ih=>intro x;simp [Er,ih]
 have hwp:=lS (Q:=Li (eW P fn.N none 0) fn.res fn.tys (fun r=>EV [] (ct.res.v y) r)) gN hxy (fun e env nx bl ms hk=>by
  have key:Z3.go (iK (ct.res.T Unit)) eu fn.res fn.tys ct.res some env nx bl ms=some y->Li.qM (eW P fn.N none 0) fn.res fn.tys (fun r=>EV [] (ct.res.v y) r) ⟨env,⟨nx,bl⟩,ms⟩:=by
   intro hg
   unfold Z3.go at hg
   unfold Li.qM
   split at hg<;>try (cases hg;done)
   rename_i bP h1
   rw [h1]
   simp only
   split at hg<;>try (cases hg;done)
   rename_i vs h2
   rw [h2]
   simp only
   have e:fin (eW P fn.N none 0) bP 8 (uY (cu fn.tys vs))=fin eu bP 8 (uY (cu fn.tys vs)):=by unfold eW;exact xR
   rw [e]
   split at hg<;>try (cases hg;done)
   rename_i v h3
   rw [h3]
   simp only
   split at hg<;>try (cases hg;done)
   rename_i f h4
   cases hg
   exact (SP.sC h4 ()).1
  cases e with
  |exit i=>cases hk
  |normal=>exact key hk
  |ret=>exact key hk)
 rw [hbody] at hwp
 exact LO hf htr cF (iQ mixed) (by rw [hlen];exact Nat.le_of_ble_eq_true hnp) hwp
end
end Go.AM
end
section
namespace Go.AM
section
variable {P:Program} {N:Nat} {out:Option Nat} {base:Nat} {π:List Nat}
theorem JD {c:Code} {S S':St} {Q:Ex->St->Prop} (h:Ny P N out base c S' Q) (he:jE base π S S'):Ny P N out base c S Q :=
 fun Y ι μ a w ho hb hR=>h Y ι _ a w ho hb (he.rep hb hR)
theorem Ev {c:Code} {S:St} {Q:Ex->St->Prop} (h:Ny P N out base c S fun e S'=>∃Cv π,jE base π S' Cv/\Q e Cv):Ny P N out base c S Q :=
 fun Y ι μ a w ho hb hR=>wpIn_mono (h Y ι μ a w ho hb hR) fun e a w hp=>by
  obtain ⟨Y1,hY,ι,μ,S',e',h1,h2,Cv,π,h3,h4⟩:=hp
  exact ⟨Y1,hY,ι,_,Cv,e',h3.rep (hY.uV hb) h1,h2,h4⟩
def Cw {R : Type} : List Nat → List V → Env → (Env → R) → R
 |p::ps,v::vs,env,k=>fV v fun v=>Cw ps vs ((p,v)::env) k
 |_,_,env,k=>k env
theorem A4 {R : Type} : ∀ (ps : List Nat) (vs : List V) (env : Env) (k : Env → R), Cw ps vs env k = k (vf ps vs env)
 |[],vs,env,k=>by cases vs<;>rfl
 |p::ps,[],env,k=>rfl
 |p::ps,v::vs,env,k=>by simp only [Cw,oc];rw [A4 ps vs];rfl
def Pt {R:Type} (kz:Kz R) (vM:Nat) (K:V->Nat->aq->R):Kc R:=fun e _ nx bl _=>match ay vM bl with
 |some (.loop .busy _ d env ps as bd N)=>qz vM bl fun bl=>match e with
  | .normal=>K (.tf true) nx ((vM,.loop .ready none d env ps as bd N)::bl)
  | .exit i=>K (.tf false) nx ((vM,.loop .done (some (.exit i)) d env ps as bd N)::bl)
  | .ret=>K (.tf false) nx ((vM,.loop .done (some .ret) d env ps as bd N)::bl)
 |_=>kz.no
theorem Pv {X : Type} {vM : Nat} {K : V → Nat → aq → Option X} {r : X} {e : Ex} {env : Env} {nx : Nat} {bl : aq} {ms : List Nat} (h : Pt (iK X) vM K e env nx bl ms = some r) {Q : V → aG → Prop}
  (hQ:∀v nx bl,K v nx bl=some r->Q v ⟨nx,bl⟩):sr vM Q e ⟨env,⟨nx,bl⟩,ms⟩:=by
 unfold Pt at h
 unfold sr
 simp only
 split at h<;>try (cases h;done)
 rename_i hb
 try rw [hb]
 try simp only
 rw [kU] at h
 cases e<;>exact hQ _ _ _ h
def Pw {R:Type} (kz:Kz R) (cx:Cx) (ar:Ar) (vM Ew:Nat) (ps:List Nat) (asD bdD:D P N (some vM) Ew) (id:Nat) (vs:List V) (nx:Nat) (bl:aq) (K:V->Nat->aq->R):R :=
 match an (Nat.beq id vM) (Nat.beq nx Ew) with
 |true=>match ay vM bl with
  |some (.loop .ready none _ env ps' as bd N')=>match an (Nat.beq vs.length ps'.length) (an (Nat.beq N' N) (an (jF as asD.er) (jF bd bdD.er))) with
   |true=>Cw ps' vs env fun env=>kE kz cx ar asD env nx bl [] fun e env nx bl ms=>match e with
    | .normal=>match ay vM bl with
     |some (.loop .ready none d' env' ps' as' TE N')=>qz vM bl fun bl=>kE kz cx ar bdD env nx ((vM,.loop .busy none d' env' ps' as' TE N')::bl) ms (Pt kz vM K)
     |_=>kz.no
    |_=>kz.no
   |false=>kz.no
  |_=>kz.no
 |false=>kz.no
theorem nQ (mixed : P.follows .mixedOrders = true) {cx : Cx} (gN : cx.Ok P) {vM Ew : Nat} {ps : List Nat} {asD bdD : D P N (some vM) Ew} {id : Nat} {vs : List V} {nx : Nat} {bl : aq} {X : Type}
  {K:V->Nat->aq->Option X} {r:X} (h:Pw (iK X) cx eu vM Ew ps asD bdD id vs nx bl K=some r) {Q:V->aG->Prop} (hQ:∀v nx bl,K v nx bl=some r->Q v ⟨nx,bl⟩):around P id vs ⟨nx,bl⟩ Q:=by
 unfold Pw at h
 split at h<;>try (cases h;done)
 rename_i h1
 rw [aV] at h1
 have e1:=Nat.eq_of_beq_eq_true h1.1
 have e2:=Nat.eq_of_beq_eq_true h1.2
 subst e1;subst e2
 split at h<;>try (cases h;done)
 rename_i d env ps' as bd N' hb
 split at h<;>try (cases h;done)
 rename_i h2
 simp only [aV] at h2
 obtain ⟨c1,c2,c3,c4⟩:=h2
 have e3:=Nat.eq_of_beq_eq_true c2
 have e4:=wo c3
 have e5:=wo c4
 have e6:=Nat.eq_of_beq_eq_true c1
 subst e3;subst e4;subst e5
 refine Lu (fun N=>iQ mixed) ?_
 unfold Hf
 simp only
 rw [hb]
 simp only
 refine ⟨e6,?_⟩
 rw [A4] at h
 refine lS gN h fun e env nx bl ms h=>?_
 cases e with
 |exit i=>cases h
 |ret=>cases h
 |normal =>
  simp only at h ⊢
  split at h<;>try (cases h;done)
  rename_i d' env' ps2 as' TE N2 fF
  try rw [fF]
  try simp only
  rw [kU] at h
  exact lS gN h fun e env nx bl ms h=>Pv h hQ
def Af (cx:Cx) (rd:{R:Type}->Kz R->Nat->List V->Nat->aq->(V->Nat->aq->R)->R):Cx where
 pc:=cx.pc
 ca:=cx.ca
 rd:=rd
theorem j4 {cx : Cx} (gN : cx.Ok P) {rd : {R : Type} → Kz R → Nat → List V → Nat → aq → (V → Nat → aq → R) → R}
  (h:∀{X:Type} {id:Nat} {vs:List V} {nx:Nat} {bl:aq} {K:V->Nat->aq->Option X} {r:X},rd (iK X) id vs nx bl K=some r->∀{Q:V->aG->Prop},(∀v nx bl,K v nx bl=some r->Q v ⟨nx,bl⟩)->around P id vs ⟨nx,bl⟩ Q) :
  (Af cx rd).Ok P:=⟨fun hk=>gN.XD hk,fun hk=>gN.TW hk,fun hk=>h hk⟩
def Ey {R:Type} (kz:Kz R) (rs:List RV) (K:Nat->aq->R):Kc R:=fun e env nx bl ms=>match e with
 | .exit _=>kz.no
 | .normal=>go env nx bl ms
 | .ret=>go env nx bl ms
where go (env:Env) (nx:Nat) (bl:aq) (ms:List Nat):R:=match fk ms bl with
 |some bl=>match vJ eu ⟨env,⟨nx,bl⟩,[]⟩ rs with
  |some _=>K nx bl
  |none=>kz.no
 |none=>kz.no
theorem sG {X : Type} {rs : List RV} {tys : List (Option Ty)} {K : Nat → aq → Option X} {r : X} {e : Ex} {env : Env} {nx : Nat} {bl : aq} {ms : List Nat} (h : Ey (iK X) rs K e env nx bl ms = some r) {Q : V → aG → Prop}
  (hQ:∀v nx bl,K nx bl=some r->Q v ⟨nx,bl⟩):B7 rs tys Q e ⟨env,⟨nx,bl⟩,ms⟩:=by
 have key:Ey.go (iK X) rs K env nx bl ms=some r->B7.qM rs tys Q ⟨env,⟨nx,bl⟩,ms⟩:=fun hg=>by
  unfold Ey.go at hg
  unfold B7.qM
  split at hg<;>try (cases hg;done)
  rename_i bP h1
  simp only
  rw [h1]
  simp only
  split at hg<;>try (cases hg;done)
  rename_i vs h2
  rw [h2]
  exact hQ _ _ _ hg
 cases e with
 |exit i=>cases h
 |normal=>exact key h
 |ret=>exact key h
def JE {R : Type} (no : R) : List Nat → aq → (aq → R) → R
 |[],bl,K=>K bl
 |id::r,bl,K=>match ay id bl with
  |some .iH=>qz id bl fun bl=>JE no r bl K
  |_=>no
theorem Ez {X : Type} {no : Option X} {r : X} (hno : no = none) : ∀ {sh : List Nat} {bl : aq} {K : aq → Option X}, JE no sh bl K = some r → ∃ bP, fk sh bl = some bP ∧ K bP = some r
 |[],bl,K,h=>⟨bl,rfl,h⟩
 |id::sh,bl,K,h=>by
  simp only [JE] at h
  simp only [fk]
  split at h
  ·rename_i hb
   rw [kU] at h
   rw [hb]
   exact Ez hno h
  ·rw [hno] at h;cases h
def T7 {R:Type} (kz:Kz R) (vM:Nat) (env:Env) (sh ms:List Nat) (K:Kc R) (nx:Nat) (bl:aq):R:=match ay vM bl with
 |some (.loop st j _ _ _ _ _ _)=>match st with
  | .busy=>kz.no
  |_=>qz vM bl fun bl=>JE kz.no sh bl fun bl=>match j with
   |none=>K .normal env nx bl ms
   |some (.exit i)=>K (.exit i) env nx bl ms
   |some .ret=>K .ret env nx bl ms
   |some .normal=>kz.no
 |_=>kz.no
theorem wu {X : Type} {vM : Nat} {S : St} {sh : List Nat} {K : Kc (Option X)} {nx : Nat} {bl : aq} {r : X} (h : T7 (iK X) vM S.env sh S.ms K nx bl = some r) {Q : Ex → St → Prop}
  (hQ:∀e env nx bl ms,K e env nx bl ms=some r->Q e ⟨env,⟨nx,bl⟩,ms⟩):ku vM sh S Q ⟨nx,bl⟩:=by
 unfold T7 at h
 unfold ku
 simp only
 split at h<;>try (cases h;done)
 rename_i st j _ _ _ _ _ _ hb
 try rw [hb]
 try simp only
 split at h
 ·cases h
 ·rename_i hst
  rw [kU] at h
  obtain ⟨bP,hs,h⟩:=Ez rfl h
  have:Jq j ⟨S.env,⟨nx,bP⟩,S.ms⟩ Q:=by
   split at h
   ·exact hQ _ _ _ _ _ h
   ·exact hQ _ _ _ _ _ h
   ·exact hQ _ _ _ _ _ h
   ·cases h
  rw [hs]
  cases st<;>first|exact this|exact absurd rfl hst
def yw {R:Type} (kz:Kz R) (cx:Cx) (ar:Ar) (pre:List Nat) (p:av) (xs:aU) (f:O) (ps:List Nat) (as bd:C) (rs:List RV) (np:Nat) (fid:Nat) {Nit dy:Nat} (NC:D P Nit none dy) (inr:xs.T->R) (x:p.T):R :=
 fN (base+p.ig.length) fun nx=>p.go nx x fun env nx bl ms=>match f.ev env with
 | .fn Px first cap=>match an (Nat.beq Px fid) (Nat.ble (first++[V.any]++cap).length np) with
  |true=>match out with
   |none=>match ms with
    |_::_=>kz.no
    | [] => T4 (first ++ [.yl (nx + 1)] ++ cap) fun vs => kE kz cx ar NC (args 0 vs) dy ((nx + 1, .loop .ready none nx env ps as bd N) :: (nx, .iH) :: bl) []
     (Ey kz rs (T7 kz (nx+1) env [nx] [] fun e env nx bl ms=>xs.rd kz.no pre base e env nx bl ms inr))
   |some Xu=>match ay Xu bl with
    | some (.loop _ _ d _ _ _ _ _) => T4 (first ++ [.yl nx] ++ cap) fun vs => kE kz cx ar NC (args 0 vs) dy ((nx, .loop .ready none d env ps as bd N) :: bl) []
     (Ey kz rs (T7 kz nx env [] ms fun e env nx bl ms=>xs.rd kz.no pre base e env nx bl ms inr))
    |_=>kz.no
  |false=>kz.no
 |_=>kz.no
def Py (c:C):bw P N out base where
 c:=c
 run kz _ _ _ _ _:=kz.no
 ok h:=by cases h
def LP (f:O) (ps:List Nat) (a b:C):gM P N out base where
 f:=f
 ps:=ps
 a:=a
 b:=b
 run kz _ _ _ _ _:=kz.no
 ok h:=by cases h
def T8 (pre:List dw) (m:O) (it:Nat) (cl:List Nat) (e:Option Nat) (kt:Ty) (kg:Bool) (vt:Ty) (vg:Bool) (qq:Nat) (b:C):sx P N out base where
 pre:=pre
 m:=m
 it:=it
 cl:=cl
 e:=e
 kt:=kt
 kg:=kg
 vt:=vt
 vg:=vg
 qq:=qq
 b:=b
 run kz _ _ _ _ _:=kz.no
 ok h:=by cases h
noncomputable def Pz (mixed : P.follows .mixedOrders = true) (cx : Cx) (gN : cx.Ok P) (pre : List Nat) (hpre : pre = List.range base) (p : av) (xs : aU) (f : O) (ps : List Nat) (hps : ps.all (Nat.blt · N) = true) (as bd : C)
  (fid:Nat) {func:Func} {fn:Fn} (hf:P.funcs[fid]?=some func) (htr:cw P func=some fn) (cF:Enters P fid) (dy:Nat) (iS:dy=base+p.ig.length+(match out with|none=>2|some _=>1))
  (NC:D P fn.N none dy) (hit:NC.er=fn.body) (RF:p.T->Option xs.T)
  (hRF:∀x,yw (N:=N) (out:=out) (base:=base) (iK xs.T) cx eu pre p xs f ps as bd fn.res fn.np fid NC some x=RF x):Hp P N out base f ps as bd where
 run kz env nx bl ms K:=p.rd kz.no pre base env nx bl ms fun x=>kz.bd (RF x) fun b=>xs.go kz base b K
 ok:=by
  intro X env nx bl ms K r h Q hQ
  subst hpre
  obtain ⟨x,π,h1,h2⟩:=av.dR h
  obtain ⟨b,h3,h4⟩:=pZ h1
  have h5:=aU.A2 h4
  have hq:=hQ _ _ _ _ _ h5
  rw [<-hRF x] at h3
  unfold yw at h3
  rw [gB,av.go_eq] at h3
  intro fo Du ao bo q1 q2 q3 q4
  refine JD (Ev ?_) h2
  refine ve (K:=fun e S'=>∃Cv π,jE base π S' Cv/\Q e Cv) ?_ fo Du ao bo q1 q2 q3 q4
  refine ⟨hps,?_⟩
  cases nt:f.ev (p.E x) with
  |fn Px first cap=>?_
  |_=>rw [nt] at h3;cases h3
  have Z4:f.ev (p.st base x).env = .fn Px first cap:=nt
  rw [Z4]
  rw [nt] at h3
  simp only at h3 ⊢
  split at h3<;>try (cases h3;done)
  rename_i hc
  rw [aV] at hc
  have e1:=Nat.eq_of_beq_eq_true hc.1
  have e2:=Nat.le_of_ble_eq_true hc.2
  subst e1
  have hlen:∀v:V,(first++[v]++cap).length<=fn.np:=fun v=>by simpa using e2
  have hout:∀e env nx bl ms,xs.rd none (List.range base) base e env nx bl ms some=some b->∃Cv π,jE base π ⟨env,⟨nx,bl⟩,ms⟩ Cv/\Q e Cv:=fun e env nx bl ms hk=>by
   obtain ⟨y,π,r1,r2,r3⟩:=aU.dR hk
   cases r1
   exact ⟨_,π,r3,by rw [r2];exact hq⟩
  cases out with
  |none =>
   simp only at h3 iS ⊢
   split at h3
   ·cases h3
   rename_i Lg
   rw [nP] at h3
   refine ⟨Lg,?_⟩
   subst iS
   refine kQ hf htr cF (iQ mixed) (hlen _) ?_
   rw [<-hit]
   refine lS gN h3 fun e env nx bl ms hk=>?_
   exact sG hk fun v nx bl hk => wu (S := p.st base x) (by
    have e:(p.st base x).ms=[]:=Lg
    rw [e];exact hk) hout
  |some Xu =>
   simp only at h3 iS ⊢
   split at h3<;>try (cases h3;done)
   rename_i hb
   rw [nP] at h3
   have hb':ay Xu (p.st base x).H.bl=_:=hb
   simp only [av.st] at hb' ⊢
   rw [hb']
   simp only
   subst iS
   refine kQ hf htr cF (iQ mixed) (hlen _) ?_
   rw [<-hit]
   refine lS gN h3 fun e env nx bl ms hk=>?_
   exact sG hk fun v nx bl hk=>wu (S:=p.st base x) hk hout
noncomputable def sH (mixed : P.follows .mixedOrders = true) (cx : Cx) (gN : cx.Ok P) (pre : List Nat) (hpre : pre = List.range base) (p : av) (xs : aU) (f : O) (ps : List Nat) (hps : ps.all (Nat.blt · N) = true) (as bd : C)
  (fid:Nat) {func:Func} {fn:Fn} (hf:P.funcs[fid]?=some func) (htr:cw P func=some fn) (cF:Enters P fid) (dy:Nat) (iS:dy=base+p.ig.length+(match out with|none=>2|some _=>1))
  (NC:D P fn.N none dy) (hit:NC.er=fn.body) (RF:p.T->Option xs.T)
  (hRF:∀x,yw (N:=N) (out:=out) (base:=base) (iK xs.T) cx eu pre p xs f ps as bd fn.res fn.np fid NC some x=RF x):gM P N out base :=
 (Pz mixed cx gN pre hpre p xs f ps hps as bd fid hf htr cF dy iS NC hit RF hRF).s
end
end Go.AM
end
section
namespace Go.AM
theorem yx {σ : List Nat} {ι : ax} {μ μ' : Mu} (hσ : ∀ j i L, σ[j]? = some i → μ j = some L → μ' i = some L) : ∀ {n : Nat} {v u : V} {x : Value}, uk σ n v = some u → Rel ι μ v x → Rel ι μ' u x
 |0,v,u,x,h,_=>by cases h
 |n+1,v,u,x,h,hr=>by
  have g:∀v u x,uk σ n v=some u->Rel ι μ v x->Rel ι μ' u x:=fun v u x h hr=>yx hσ h hr
  have lift:∀{cs ds:List V} {xs:Array Value},ee (uk σ n) cs=some ds->cs.length=xs.size->(∀(i:Nat) v x,cs[i]?=some v->xs[i]?=some x->Rel ι μ v x)->aM ι μ' ds xs.toList :=
   fun hm h1 h2=>jq g hm ⟨by simpa using h1,fun i v x hv hx=>h2 i v x hv (by simpa using hx)⟩
  cases hr<;>simp only [uk] at h
  case any=>cases h;exact .any _
  case tf=>cases h;exact .tf _
  case bool=>cases h;exact .bool _
  case int=>cases h;exact .int _ _
  case str=>cases h;exact .str _
  case fG=>cases h;exact .fG
  case cZ=>cases h;exact .cZ
  case gw=>cases h;exact .gw
  case fS t xs hd=>cases h;exact .fS t xs _ hd
  case cg=>cases h;exact .cg _
  case sl id t lo m cap L hL h1 h2 h3 =>
   split at h<;>try (cases h;done)
   rename_i i hi;cases h
   exact .sl i t lo m cap L (hσ _ _ _ hi hL) h1 h2 h3
  case bH id t lo a =>
   split at h<;>try (cases h;done)
   cases h;exact .bH _ _ _ _
  case ptr id off L hL =>
   split at h<;>try (cases h;done)
   rename_i i hi;cases h
   exact .ptr i off L (hσ _ _ _ hi hL)
  case ep id t j p L hL =>
   split at h<;>try (cases h;done)
   rename_i i hi;cases h
   exact .ep i t j p L (hσ _ _ _ hi hL)
  case yl id L hL =>
   split at h<;>try (cases h;done)
   rename_i i hi;cases h
   exact .yl i L (hσ _ _ _ hi hL)
  case gx cs b o gf h1 h2 h3 =>
   split at h<;>try (cases h;done)
   rename_i ds hds;cases h
   have hR:aM ι μ cs ((List.range cs.length).map gf):=⟨by simp,fun i v x hv hx=>by
    have hi:=(List.getElem?_eq_some_iff.1 hv).1
    simp [hi] at hx;subst hx;exact h2 i v hv⟩
   have fU:=jq g hds hR
   have hl:ds.length=cs.length:=by have:=fU.1;simpa using this
   exact .gx ds b o gf (fun i hi => h1 i (by omega)) (fun i v hv => fU.2 i v (gf i) hv (by
    have hi:=(List.getElem?_eq_some_iff.1 hv).1
    simp [show i<cs.length by omega])) h3
  case ip t y b o us h1 h2=>cases h;exact .ip t y b o us h1 h2
  case fn f fs cs xs ys h1 h2 h3 h4 =>
   split at h<;>try (cases h;done)
   rename_i as ha
   split at h<;>try (cases h;done)
   rename_i bs hb;cases h
   have r1:=lift ha h1 h2
   have r2:=lift hb h3 h4
   exact .fn f as bs xs ys (by simpa using r1.1) (fun i v x hv hx=>r1.2 i v x hv (by simpa using hx)) (by simpa using r2.1) (fun i v x hv hx=>r2.2 i v x hv (by simpa using hx))
  case agg cs xs h1 h2 h3 =>
   split at h<;>try (cases h;done)
   rename_i ds hds;cases h
   have r1:=lift hds h1 h2
   exact .agg ds xs (by simpa using r1.1) (fun i v x hv hx=>r1.2 i v x hv (by simpa using hx)) h3
  case cS cs xs h1 h2 =>
   split at h<;>try (cases h;done)
   rename_i ds hds;cases h
   have r1:=lift hds h1 h2
   exact .cS ds xs (by simpa using r1.1) (fun i v x hv hx=>r1.2 i v x hv (by simpa using hx))
  case cL t v x hv =>
   split at h<;>try (cases h;done)
   rename_i u' hu;cases h
   exact .cL t u' x (g _ _ _ hu hv)
  case cb c b hc=>cases h;exact .cb c b hc
  case mp id L hL =>
   split at h<;>try (cases h;done)
   rename_i i hi;cases h
   exact .mp i L (hσ _ _ _ hi hL)
  case cT=>cases h;exact .cT
  case sp=>cases h
  case pa id t m L hL hm =>
   split at h<;>try (cases h;done)
   rename_i i hi;cases h
   exact .pa i t m L (hσ _ _ _ hi hL) hm
  case mw t xs b o us h1 h2=>cases h;exact .mw t xs b o us h1 h2
def EA (σ : List Nat) : aq → Option aq
 |[]=>some []
 |(j,b)::r=>match vL σ j with
  |some i=>match Tv σ b with
   |some b'=>match EA σ r with
    |some r'=>some ((i,b')::r')
    |none=>none
   |none=>none
  |none=>none
theorem A5 {σ : List Nat} (hinj : ∀ (a b i : Nat), σ[a]? = some i → σ[b]? = some i → a = b) : ∀ {bl bP : aq}, EA σ bl = some bP → ∀ {i : Nat} {B : lD}, ay i bP = some B → ∃ j B0, σ[j]? = some i ∧ ay j bl = some B0 ∧ Tv σ B0 = some B
 |[],bP,h,i,B,hb=>by cases h;simp [ay] at hb
 |(j,b)::r,bP,h,i,B,hb=>by
  simp only [EA] at h
  split at h<;>try (cases h;done)
  rename_i i' hi
  split at h<;>try (cases h;done)
  rename_i b' hb'
  split at h<;>cases h
  rename_i r' hr
  rw [qa] at hi
  rw [bC] at hb
  split at hb
  ·rename_i e; subst e; cases hb
   exact ⟨j,b,hi,by rw [bC,if_pos rfl],hb'⟩
  ·rename_i hne
   obtain ⟨j2,B0,h1,h2,h3⟩:=A5 hinj hr hb
   refine ⟨j2,B0,h1,?_,h3⟩
   rw [bC,if_neg]
   ·exact h2
   ·intro e;subst e;rw [hi] at h1;cases h1;exact hne rfl
def yy : List Nat → aq → aq
 |[],bl=>bl
 |i::r,bl=>yy r (bD i bl)
theorem yz : ∀ {l : List Nat} {bl : aq} {id : Nat}, ay id (yy l bl) = if id ∈ l then none else ay id bl
 |[],bl,id=>by simp [yy]
 |i::r,bl,id=>by
  simp only [yy]
  rw [yz,bt]
  by_cases h1:id∈r
  ·simp [h1]
  ·by_cases h2 : id = i
   ·simp [h1,h2]
   ·simp [h1,h2]
theorem vk : ∀ {a b : aq} {id : Nat}, ay id (a ++ b) = match ay id a with | some B => some B | none => ay id b
 |[],b,id=>by simp [ay]
 |(s,x)::r,b,id=>by
  rw [List.cons_append,bC,bC]
  split
  ·rfl
  ·exact vk
section
variable {P:Program}
def sig (π:List Nat) (nx n:Nat):List Nat:=π++(List.range' π.length (n - π.length)).map (nx + ·)
theorem EB {f : Nat} {vs0 vs : List V} {Gm bl : aq} {nx : Nat} {π : List Nat} {Q0 Q : V → aG → Prop} (h : eV P f vs0 ⟨π.length, Gm⟩ Q0)
  (hargs:Dy π vs0 vs) (rJ:∀p∈Gm,EBk π nx bl p.1 p.2) (XH:∀p∈Gm,∀st j d env ps as bd N,p.2 ≠ .loop st j d env ps as bd N) (hnd:π.Nodup) (hlt:∀i∈π,i<nx+π.length)
  (hQ:∀r n bP,Q0 r ⟨n,bP⟩->π.length<=n/\∃r' XI,uk (sig π nx n) 8 r=some r'/\EA (sig π nx n) bP=some XI/\Q r' ⟨nx+n,XI++yy π bl⟩):eV P f vs ⟨nx,bl⟩ Q:=by
 refine ⟨h.1,fun Y ι μ w as hI hl=>?_⟩
 let μ1:Mu:=μ.kq π
 have hμ1:∀j i,π[j]?=some i->μ1 j=μ i:=fun j i e=>by simp only [μ1,Mu.kq];rw [e];rfl
 let X:Nat->Prop:=fun b=>∃p∈Gm,∃L,μ1 p.1=some L/\L.b=b
 let Y1:Ctx:=⟨w,ι,μ1,none,X,[]⟩
 -- a lent block is one of the caller's
 have src:∀p∈Gm,∀L,μ1 p.1=some L->∃i C,π[p.1]?=some i/\μ i=some L/\ay i bl=some C:=fun p hp L hL=>by
  obtain ⟨i,e1,hb⟩:=rJ p hp
  rw [hμ1 _ _ e1] at hL
  refine ⟨i,?_⟩
  have:∃C,ay i bl=some C:=by
   cases hB:p.2 with
   |cells cs fz=>rw [hB] at hb;obtain ⟨ds,e2,_⟩:=hb;exact ⟨_,e2⟩
   |arr t xs fz =>
    rw [hB] at hb
    rcases hb with e2|⟨_,hge⟩
    ·exact ⟨_,e2⟩
    ·rw [hI.nx i hge] at hL;cases hL
   |loop st j d env ps as bd N=>exact absurd hB (XH p hp _ _ _ _ _ _ _ _)
   |iH=>rw [hB] at hb;exact ⟨_,hb⟩
   |map kt kg vt vg es=>rw [hB] at hb;exact ⟨_,hb⟩
   |oa t xs k p v=>rw [hB] at hb;obtain ⟨u,e2,_⟩:=hb;exact ⟨_,e2⟩
  obtain ⟨C,hC⟩:=this
  exact ⟨C,e1,hL,hC⟩
 have PA:∀b,X b->Y.own b:=fun b ⟨p,hp,L,hL,e⟩=>by
  obtain ⟨i,C,_,h2,h3⟩:=src p hp L hL
  subst e;exact ((hI.live i C h3).loc h2).1
 have hown:∀b,Y1.own b->Y.own b:=fun b hb=>by
  rcases hb with hb|hb
  ·exact .inl (Nat.le_trans hI.below.size hb)
  ·exact PA b hb
 have hmem:∀{id:Nat} {B:lD},ay id Gm=some B->(id,B)∈Gm:=fun h=>dH h
 have Gj:Inv P Y1 ι μ1 ⟨π.length,Gm⟩ w:=by
  refine ⟨I4.refl _ _,ax.le_refl _,fun _ _ _ _=>rfl,hI.rd,Mu.le_refl _,fun id hid=>?_,fun id B hB=>?_,fun id id' B B' L L' hb hb' hm hm' e=>?_,fun id B hB=>?_,hI.dK⟩
  ·have : π[id]? = none := List.getElem?_eq_none hid
   simp only [μ1,Mu.kq];rw [this];rfl
  ·obtain ⟨i, e1, hb⟩ := rJ _ (hmem hB)
   have iF:=hμ1 id i e1
   cases B with
   |cells cs fz =>
    obtain ⟨ds,e2,ak⟩:=hb
    obtain ⟨L,vs,hM,NA⟩:=hI.live i _ e2
    exact ⟨L,vs,⟨by rw [iF];exact hM.mu,.inr ⟨_,hmem hB,L,by rw [iF];exact hM.mu,rfl⟩,hM.row,hM.fits,hM.one,hM.GH,hM.rI⟩,aM.kq ak.1 (fun i v u hv hu=>fun {x} hr=>(ak.2 i v u hv hu).rel hr) NA⟩
   |arr t xs fz =>
    rcases hb with e2|⟨rfl,hge⟩
    ·rcases hI.live i _ e2 with ⟨e, hn⟩ | ⟨L, vs, hM, hc, hl⟩
     ·exact .inl ⟨e,by rw [iF];exact hn⟩
     ·exact .inr ⟨L,vs,⟨by rw [iF];exact hM.mu,.inr ⟨_,hmem hB,L,by rw [iF];exact hM.mu,rfl⟩,hM.row,hM.fits,hM.one,hM.GH,hM.rI⟩,hc,hl⟩
    ·exact .inl ⟨rfl,by rw [iF];exact hI.nx i hge⟩
   |oa t xs k p v =>
    obtain ⟨u,e2,ak⟩:=hb
    obtain ⟨L,us,vs,c,hM,hc,hl,q1,q2,q3,q4⟩:=hI.live i _ e2
    exact ⟨L,us,vs,c,⟨by rw [iF];exact hM.mu,.inr ⟨_,hmem hB,L,by rw [iF];exact hM.mu,rfl⟩,hM.row,hM.fits,hM.one,hM.GH,hM.rI⟩,hc,hl,q1,q2,q3,ak.rel q4⟩
   |loop st j d env ps as bd N=>exact absurd rfl (XH _ (hmem hB) st j d env ps as bd N)
   |iH =>
    obtain ⟨L,q1,q2,q3⟩:=hI.live i _ hb
    exact ⟨L,by rw [iF];exact q1,.inr ⟨_,hmem hB,L,by rw [iF];exact q1,rfl⟩,q3⟩
   |map kt kg vt vg es =>
    obtain ⟨L,ms,clock,dW,q1,q2,q3⟩:=hI.live i _ hb
    exact ⟨L,ms,clock,dW,by rw [iF];exact q1,.inr ⟨_,hmem hB,L,by rw [iF];exact q1,rfl⟩,q3⟩
  ·obtain ⟨i, C, e1, e2, e3⟩ := src _ (hmem hb) L hm
   obtain ⟨i',C',Lf,e2',e3'⟩:=src _ (hmem hb') L' hm'
   have:=hI.inj i i' C C' L L' e3 e3' e2 e2' e
   subst this
   exact (List.getElem?_inj (List.getElem?_eq_some_iff.1 e1).1 hnd).1 (e1.trans Lf.symm)
  ·obtain ⟨i, e1, _⟩ := rJ _ (hmem hB)
   exact (List.getElem?_eq_some_iff.1 e1).1
 have Z5:aM ι μ1 vs0 as.toList:=aM.kq hargs.1 (fun i v u hv hu=>fun {x} hr=>(hargs.2 i v u hv hu).rel hr) hl
 refine (h.2 Y1 ι μ1 w as Gj Z5).mono ?_
 rintro e w' ⟨v,ι',T9,r,⟨n,bP⟩,rfl,hi,gz,oD,hr,hq⟩
 obtain ⟨hn,r',XI,hr',Z6,Zt⟩:=hQ _ _ _ hq
 -- names
 have Z7:∀j i,(sig π nx n)[j]?=some i->(j<π.length/\π[j]?=some i)\/(π.length<=j/\j<n/\i=nx+j):=fun j i e=>by
  unfold sig at e
  rw [List.getElem?_append] at e
  split at e
  ·rename_i hj;exact .inl ⟨hj,e⟩
  ·rename_i hj
   simp only [List.getElem?_map] at e
   cases hh:(List.range' π.length (n - π.length))[j - π.length]? with
   |none=>rw [hh] at e;cases e
   |some z =>
    rw [hh] at e
    simp only [Option.map_some,Option.some.injEq] at e
    obtain ⟨q1,q2⟩:=List.getElem?_eq_some_iff.1 hh
    simp at q1 q2
    exact .inr ⟨by omega,by omega,by omega⟩
 have hinj:∀a b i,(sig π nx n)[a]?=some i->(sig π nx n)[b]?=some i->a=b:=fun a b i ha hb=>by
  rcases Z7 _ _ ha with ⟨h1,h2⟩|⟨h1,h2,h3⟩<;>rcases Z7 _ _ hb with ⟨h4,h5⟩|⟨h4,h5,h6⟩
  ·exact (List.getElem?_inj h1 hnd).1 (h2.trans h5.symm)
  ·have:=hlt i (List.mem_of_getElem? h2);omega
  ·have:=hlt i (List.mem_of_getElem? h5);omega
  ·omega
 classical
 let μ':Mu:=fun i=>match μ i with
  |some L=>some L
  |none=>if hx:∃j L,(sig π nx n)[j]?=some i/\T9 j=some L then some hx.choose_spec.choose else none
 have hle:μ.le μ':=fun i L hL=>by simp only [μ'];rw [hL]
 have hnew:∀i,μ i=none->∀j L,(sig π nx n)[j]?=some i->T9 j=some L->μ' i=some L:=fun i hi j L hj hL=>by
  have hx:∃j L,(sig π nx n)[j]?=some i/\T9 j=some L:=⟨j,L,hj,hL⟩
  simp only [μ'];rw [hi];simp only;rw [dif_pos hx]
  obtain ⟨q1,q2⟩:=hx.choose_spec.choose_spec
  have key:∀j' L',T9 j'=some L'->j'=j->some L'=some L:=fun j' L' h1 h2=>by subst h2;rw [<-h1,hL]
  exact key _ _ q2 (hinj _ _ _ q1 hj)
 have hσ:∀j i L,(sig π nx n)[j]?=some i->T9 j=some L->μ' i=some L:=fun j i L hj hL=>by
  cases hμ:μ i with
  |none=>exact hnew i hμ j L hj hL
  |some L0 =>
   rcases Z7 _ _ hj with ⟨h1,h2⟩|⟨h1,h2,h3⟩
   ·have e : T9 j = some L0 := gz j L0 (by rw [hμ1 j i h2]; exact hμ)
    rw [hL] at e;cases e
    exact hle i _ hμ
   ·rw [hI.nx i (by simp only;omega)] at hμ;cases hμ
 have hσ':∀j i,(sig π nx n)[j]?=some i->∀L,μ' i=some L->T9 j=some L:=fun j i hj L hL=>by
  cases hμ:μ i with
  |some L0 =>
   rw [hle i _ hμ] at hL;cases hL
   rcases Z7 _ _ hj with ⟨h1,h2⟩|⟨h1,h2,h3⟩
   ·exact gz j _ (by rw [hμ1 j i h2];exact hμ)
   ·rw [hI.nx i (by simp only;omega)] at hμ;cases hμ
  |none =>
   simp only [μ'] at hL;rw [hμ] at hL;simp only at hL
   split at hL
   ·rename_i hx
    cases hL
    obtain ⟨q1,q2⟩:=hx.choose_spec.choose_spec
    have key:∀j' L',T9 j'=some L'->j'=j->T9 j=some L':=fun j' L' h1 h2=>by subst h2;exact h1
    exact key _ _ q2 (hinj _ _ _ q1 hj)
   ·cases hL
 have Ua:∀{id:Nat} {B:lD} {L:Loc},ay id bl=some B->id∉π->μ id=some L->L.b<w.heap.size/\¬X L.b:=fun {id B L} hB hid hL=>by
  refine ⟨((hI.live id B hB).loc hL).2,?_⟩
  rintro ⟨p,hp,L2,hL2,e⟩
  obtain ⟨i,C,e1,e2,e3⟩:=src p hp L2 hL2
  have:=hI.inj i id C B L2 L e3 hB e2 hL e
  subst this
  exact hid (List.mem_of_getElem? e1)
 have hkeep:∀{id:Nat} {B:lD},ay id bl=some B->id∉π->μ' id=μ id:=fun {id B} hB hid=>by
  cases hμ:μ id with
  |some L=>exact hle id _ hμ
  |none =>
   simp only [μ'];rw [hμ];simp only
   rw [dif_neg]
   rintro ⟨j,L,hj,_⟩
   have aem:=hI.lt id B hB
   rcases Z7 _ _ hj with ⟨h1,h2⟩|⟨h1,h2,h3⟩
   ·exact hid (List.mem_of_getElem? h2)
   ·simp only at aem;omega
 have iJ:∀{id:Nat} {B:lD},ay id (XI++yy π bl)=some B->(∃j B0,(sig π nx n)[j]?=some id/\ay j bP=some B0/\Tv (sig π nx n) B0=some B)\/(ay id bl=some B/\id∉π):=fun {id B} hB=>by
  rw [vk] at hB
  split at hB
  ·rename_i B2 fF;cases hB;exact .inl (A5 hinj Z6 fF)
  ·rw [yz] at hB
   split at hB
   ·cases hB
   ·rename_i hk;exact .inr ⟨hB,hk⟩
 have jW:I4 Y.x Y.w0 w':=by
  have b2:=oD.below
  refine ⟨b2.os.trans hI.below.os,b2.tape.trans hI.below.tape,b2.output.trans hI.below.output,Nat.le_trans hI.below.size b2.size,fun k hk hx=>?_,Nat.le_trans hI.below.dr b2.dr,fun k hk=>(hI.below.maps k hk).trans (b2.maps k (Nat.lt_of_lt_of_le hk hI.below.size))⟩
  rw [b2.block k (Nat.lt_of_lt_of_le hk hI.below.size) (fun hX=>by
   rcases PA k hX with h|h
   ·omega
   ·exact hx h)]
  exact hI.below.block k hk hx
 have hι:∀b o,b<w.heap.size->¬X b->ι' b o=ι b o:=fun b o hb hx=>oD.iB b o hb hx
 refine ⟨v,ι',μ',r',_,rfl,hi,hle,?_,yx hσ hr' hr,Zt⟩
 refine ⟨jW,ax.le_trans hI.i0 hi,fun b o hb hx=>?_,oD.rd,Mu.le_trans hI.m0 hle,fun id hid=>?_,fun id B hB=>?_,fun id id' B B' L L' hb hb' hm hm' e=>?_,fun id B hB=>?_,hI.gl⟩
 ·rw [hι b o (Nat.lt_of_lt_of_le hb hI.below.size) (fun hX=>by
   rcases PA b hX with h|h
   ·omega
   ·exact hx h)]
  exact hI.iB b o hb hx
 ·simp only at hid
  have h0:μ id=none:=hI.nx id (by simp only;omega)
  simp only [μ'];rw [h0];simp only
  rw [dif_neg]
  rintro ⟨j,L,hj,_⟩
  rcases Z7 _ _ hj with ⟨h1,h2⟩|⟨h1,h2,h3⟩
  ·have:=hlt id (List.mem_of_getElem? h2);omega
  ·omega
 ·rcases iJ hB with ⟨j, B0, e1, e2, e3⟩ | ⟨hB', hk⟩
  ·have lN := oD.live j B0 e2
   cases B0 with
   |cells cs fz =>
    simp only [Tv] at e3
    split at e3<;>cases e3
    rename_i ds hds
    obtain ⟨L,us,hM,NA⟩:=lN
    exact ⟨L,us,⟨hσ _ _ _ e1 hM.mu,hown _ hM.old,hM.row,hM.fits,hM.one,hM.GH,hM.rI⟩,jq (fun _ _ _ h hr=>yx hσ h hr) hds NA⟩
   |arr t xs fz =>
    cases e3
    rcases lN with ⟨e,hn0⟩|⟨L,us,hM,hc,hl⟩
    ·refine .inl ⟨e, ?_⟩
     cases hμ':μ' id with
     |none=>rfl
     |some L=>rw [hσ' j id e1 L hμ'] at hn0;cases hn0
    ·exact .inr ⟨L,us,⟨hσ _ _ _ e1 hM.mu,hown _ hM.old,hM.row,hM.fits,hM.one,hM.GH,hM.rI⟩,hc,hl⟩
   |loop st jj d env ps as bd N=>cases e3
   |oa t xs k p v=>cases e3
   |iH =>
    cases e3
    obtain ⟨L,q1,q2,q3⟩:=lN
    exact ⟨L,hσ _ _ _ e1 q1,hown _ q2,q3⟩
   |map kt kg vt vg es =>
    cases e3
    obtain ⟨L,ms,clock,dW,q1,q2,q3,q4,q5⟩:=lN
    exact ⟨L,ms,clock,dW,hσ _ _ _ e1 q1,hown _ q2,q3,q4,q5⟩
  ·have lN := hI.live id B hB'
   refine lN.mono hi hle (fun hn0=>(hkeep hB' hk).trans hn0) (fun L hL=>?_) (fun L hL ho o=>?_)
   ·obtain ⟨h1, h2⟩ := Ua hB' hk hL
    exact oD.below.block _ h1 h2
   ·obtain ⟨h1, h2⟩ := Ua hB' hk hL
    rw [hι _ _ h1 h2];exact ho o
 ·rcases iJ hb with ⟨j, B0, e1, e2, e3⟩ | ⟨hB1, I6⟩ <;> rcases iJ hb' with ⟨j', B0', Lf, e2', e3'⟩ | ⟨hB2, hk2⟩
  ·have := oD.inj j j' B0 B0' L L' e2 e2' (hσ' _ _ e1 _ hm) (hσ' _ _ Lf _ hm') e
   subst this;rw [e1] at Lf;cases Lf;rfl
  ·rw [hkeep hB2 hk2] at hm'
   obtain ⟨h1,h2⟩:=Ua hB2 hk2 hm'
   rcases ((oD.live j B0 e2).loc (hσ' _ _ e1 _ hm)).1 with h3|h3
   ·simp only [Y1] at h3;omega
   ·rw [e] at h3;exact absurd h3 h2
  ·rw [hkeep hB1 I6] at hm
   obtain ⟨h1,h2⟩:=Ua hB1 I6 hm
   rcases ((oD.live j' B0' e2').loc (hσ' _ _ Lf _ hm')).1 with h3|h3
   ·simp only [Y1] at h3;omega
   ·rw [<-e] at h3;exact absurd h3 h2
  ·rw [hkeep hB1 I6] at hm
   rw [hkeep hB2 hk2] at hm'
   exact hI.inj id id' B B' L L' hB1 hB2 hm hm' e
 ·rcases iJ hB with ⟨j, B0, e1, e2, e3⟩ | ⟨hB', hk⟩
  ·rcases Z7 _ _ e1 with ⟨h1, h2⟩ | ⟨h1, h2, h3⟩
   ·have:=hlt id (List.mem_of_getElem? h2);simp only;omega
   ·simp only;omega
  ·have:=hI.lt id B hB';simp only at this ⊢;omega
end
end Go.AM
end
section
namespace Go.AM
structure Ht where
 f:Nat
 p:av
 q:av
 fn:p.T->Option q.T
def Ht.Ok (P:Program) (ht:Ht):Prop:=∀x y,ht.fn x=some y ->
 eV P ht.f ((ht.p.E x).map (·.2)) ⟨ht.p.ig.length,ht.p.B x⟩ fun r H=>r=get 0 (ht.q.E y)/\H=⟨ht.p.ig.length+ht.q.ig.length,ht.q.B y⟩
section
variable {P:Program} {R:Type}
def av.rdP (no:R) (p:av) (env:Env) (nx:Nat) (bl:aq) (k:List Nat->p.T->R):R :=
 sE no env nx bl [] p.ig [] 0 fun π=>match yq π p.bl with
  |true=>match AZ (A:=TX p.bl Unit) π env p.env with
   |some f=>match Pn (A:=Unit) π nx bl p.bl with
    |some g=>k π (f (g ()))
    |none=>no
   |none=>no
  |false=>no
def Cy : List Nat → Bool
 |[]=>true
 |i::r=>match BQ i r with
  |true=>false
  |false=>Cy r
theorem A6 : ∀ {l : List Nat}, Cy l = true → l.Nodup
 |[],_=>.nil
 |i::r,h=>by
  simp only [Cy] at h
  split at h
  ·cases h
  ·rename_i hm
   exact List.nodup_cons.2 ⟨(fun hi=>by rw [sj.2 hi] at hm;cases hm),A6 h⟩
def Cz (n : Nat) : List Nat → Bool
 |[]=>true
 |i::r=>match Nat.blt i n with
  |true=>Cz n r
  |false=>false
theorem A7 {n : Nat} : ∀ {l : List Nat}, Cz n l = true → ∀ i ∈ l, i < n
 |[],_,i,hi=>by simp at hi
 |j::r,h,i,hi=>by
  simp only [Cz] at h
  split at h
  ·rename_i hj
   rcases List.mem_cons.1 hi with rfl|hi
   ·have : i + 1 ≤ n := by simpa [Nat.blt] using hj
    omega
   ·exact A7 h i hi
  ·cases h
def nR : List (Nat × BP) → Bool
 |[]=>true
 |(_,.loop _ _ _ _ _ _ _ _)::_=>false
 |(_,.arr _ _)::r=>nR r
 |(_,.cells _ _)::r=>nR r
 |(_,.iH)::r=>nR r
 |(_,.map _ _ _ _)::r=>nR r
 |(_,.oa _ _ _ _)::r=>nR r
theorem A8 {A : Type} : ∀ {ps : List (Nat × BP)} (x : TX ps A), nR ps = true → ∀ p ∈ SH ps x, ∀ st j d env ps as bd N, p.2 ≠ .loop st j d env ps as bd N
 |[],x,h,p,hp=>by simp [SH] at hp
 |(s,b)::r,x,h,p,hp=>by
  simp only [SH,List.mem_cons] at hp
  intro st j d env ps as bd N
  rcases hp with rfl|hp
  ·cases b with
   |loop=>simp [nR] at h
   |arr=>simp [BP.v]
   |cells=>simp [BP.v]
   |iH=>simp [BP.v]
   |map=>simp [BP.v]
   |oa=>simp [BP.v]
  ·refine A8 _ ?_ p hp st j d env ps as bd N
   cases b<;>simp [nR] at h<;>exact h
def Z8 (kz:Kz R) (no:R) (ht:Ht) (vs:List V) (nx:Nat) (bl:aq) (K:V->Nat->aq->R):R :=
 match an (Nat.beq vs.length ht.p.env.length) (nR ht.p.bl) with
 |true=>ht.p.rdP no (args 0 vs) nx bl fun π x=>match an (Cy π) (Cz (nx+π.length) π) with
  |true=>kz.bd (ht.fn x) fun y=>fN (π.length+ht.q.ig.length) fun n=>ht.q.go n y fun env _ bP _=>match uk (sig π nx n) 8 (get 0 env) with
   |some r'=>match EA (sig π nx n) bP with
    |some XI=>fBl (XI++yy π bl) fun bl=>fN (nx+n) fun nx=>K r' nx bl
    |none=>kz.no
   |none=>kz.no
  |false=>no
 |false=>no
theorem args_at:∀{vs:List V} {n i:Nat},get i (args n vs)=if n<=i then vs.getD (i - n) .any else .any:=xL
theorem sI {A : Type} : ∀ {ps : List (Nat × SP)} {x : Ab ps A}, (yg ps x).length = ps.length
 |[],_=>rfl
 |(_,_)::r,x=>by simp [yg,sI (ps:=r)]
theorem Ub {π:List Nat} {vs:List V} {env:Env} (hlen:vs.length=env.length) (hs:env.map (·.1)=List.range env.length) (h:EE π env (args 0 vs)):Dy π (env.map (·.2)) vs:=by
 refine ⟨by simp [hlen],fun i v u hv hu=>?_⟩
 rw [List.getElem?_map] at hv
 cases hp:env[i]? with
 |none=>rw [hp] at hv;cases hv
 |some p =>
  rw [hp] at hv;cases hv
  have hi:=(List.getElem?_eq_some_iff.1 hp).1
  have e1:(env.map (·.1))[i]?=(List.range env.length)[i]?:=by rw [hs]
  rw [List.getElem?_map,hp,List.getElem?_range hi] at e1
  simp only [Option.map_some,Option.some.injEq] at e1
  have:=h p (List.mem_of_getElem? hp)
  rw [args_at,e1,if_pos (Nat.zero_le _)] at this
  simp only [Nat.sub_zero] at this
  have e2:vs.getD i .any=u:=by simp [List.getD,hu]
  rwa [e2] at this
theorem oW {A : Type} : ∀ {ps : List (Nat × SP)} {x : Ab ps A}, (yg ps x).map (·.1) = ps.map (·.1)
 |[],_=>rfl
 |(_,_)::r,x=>by simp [yg,oW (ps:=r)]
theorem av.XJ {p:av} {x:p.T}:(p.E x).length=p.env.length:=sI
theorem av.wv {p:av} {x:p.T}:(p.E x).map (·.1)=p.env.map (·.1):=oW
def Ht.slots (ht:Ht):Prop:=ht.p.env.map (·.1)=List.range ht.p.env.length
theorem Uc {ht:Ht} (hok:ht.Ok P) (hsl:ht.slots) {X:Type} {no:Option X} {vs:List V} {nx:Nat} {bl:aq} {K:V->Nat->aq->Option X} {r:X} (h:Z8 (iK X) no ht vs nx bl K=some r) :
  no=some r\/∀{Q:V->aG->Prop},(∀v nx bl,K v nx bl=some r->Q v ⟨nx,bl⟩)->eV P ht.f vs ⟨nx,bl⟩ Q:=by
 unfold Z8 at h
 split at h
 ·rename_i h0
  rw [aV] at h0
  have hlen:=Nat.eq_of_beq_eq_true h0.1
  unfold av.rdP at h
  have key:∀{ls:List Lc} {π0:List Nat} {b:Nat} {k:List Nat->Option X},sE no (args 0 vs) nx bl [] ls π0 b k=some r->no=some r\/∃rr,rr.length=ls.length/\k (π0++rr)=some r:=by
   intro ls
   induction ls with
   |nil=>intro π0 b k hk;exact .inr ⟨[],rfl,by simpa [sE] using hk⟩
   |cons l ls ih =>
    intro π0 b k hk
    simp only [sE] at hk
    split at hk
    ·rename_i i hi
     rw [gB,Cq,gB] at hk
     rcases ih hk with hk|⟨rr,h1,h2⟩
     ·exact .inl hk
     ·exact .inr ⟨i::rr,by simp [h1],by simpa using h2⟩
    ·exact .inl hk
  rcases key h with h|⟨π,hπ,h⟩
  ·exact .inl h
  simp only [List.nil_append] at h
  split at h
  ·rename_i hap
   split at h
   ·rename_i f hf
    split at h
    ·rename_i g hg
     split at h
     ·rename_i hnb
      rw [aV] at hnb
      refine .inr fun {Q} hQ=>?_
      obtain ⟨y,hy,h⟩:=qV h
      rw [gB,av.go_eq] at h
      obtain ⟨h1,h2⟩:=sD hf (g ())
      obtain ⟨h3,h4⟩:=Cp hg ()
      split at h<;>try (cases h;done)
      rename_i r' hr'
      split at h<;>try (cases h;done)
      rename_i XI Z6
      rw [Cs,gB] at h
      have ez:=hok _ _ hy
      rw [<-hπ] at ez
      have hB:ht.p.B (f (g ()))=SH ht.p.bl (g ()):=by unfold av.B;rw [h2]
      refine EB (Q0:=fun r H=>r=get 0 (ht.q.E y)/\H=⟨π.length+ht.q.ig.length,ht.q.B y⟩) ez ?_ ?_ ?_ (A6 hnb.1) (A7 hnb.2) ?_
      ·exact Ub (env:=yg ht.p.env (f (g ()))) (hlen.trans sI.symm) (oW.trans (hsl.trans (by rw [sI]))) h1
      ·rw [hB];exact h3
      ·rw [hB];exact A8 _ h0.2
      ·rintro r n bP ⟨rfl, e⟩
       cases e
       exact ⟨by omega,r',XI,hr',Z6,hQ _ _ _ h⟩
     ·exact .inl h
    ·exact .inl h
   ·exact .inl h
  ·exact .inl h
 ·exact .inl h
def EC (kz : Kz R) (f : Nat) (vs : List V) (nx : Nat) (bl : aq) (K : V → Nat → aq → R) (no : R) : List Ht → R
 |[]=>no
 |ht::r=>match Nat.beq ht.f f with
  |true=>Z8 kz (EC kz f vs nx bl K no r) ht vs nx bl K
  |false=>EC kz f vs nx bl K no r
def PB (P : Program) : List Ht → Prop
 |[]=>True
 |c::r=>(c.Ok P/\c.slots)/\PB P r
theorem yA {X:Type} {no:Option X} {f:Nat} {vs:List V} {nx:Nat} {bl:aq} {K:V->Nat->aq->Option X} {r:X}:∀{hts:List Ht},PB P hts->EC (iK X) f vs nx bl K no hts=some r ->
  no=some r\/∀{Q:V->aG->Prop},(∀v nx bl,K v nx bl=some r->Q v ⟨nx,bl⟩)->eV P f vs ⟨nx,bl⟩ Q
 |[],_,h=>.inl h
 |ht::hts,hok,h=>by
  simp only [EC] at h
  split at h
  ·rename_i hf
   have e:=Nat.eq_of_beq_eq_true hf
   subst e
   rcases Uc hok.1.1 hok.1.2 h with h|h
   ·exact yA hok.2 h
   ·exact .inr h
  ·exact yA hok.2 h
def aL (wq:List Ct) (hts:List Ht):Cx where
 pc kz f vs K:=Eu kz f vs K wq
 ca kz f vs nx bl K:=EC kz f vs nx bl K (Z2 wq kz f vs nx bl K) hts
 rd kz _ _ _ _ _:=kz.no
theorem au {wq:List Ct} {hts:List Ht} (h:JC P wq) (h2:PB P hts):(aL wq hts).Ok P where
 XD hk:=qc h hk
 TW:=by
  intro X f vs nx bl K r hk Q hQ
  rcases yA h2 hk with hk|hk
  ·exact (T6 h).TW hk hQ
  ·exact hk hQ
 ZT hk:=by cases hk
theorem LQ {f:Nat} {vs:List V} {H:aG} {Q:V->aG->Prop} (h:eV P f vs H fun r H'=>∃r'' H'' π,jE H.next π ⟨[(0,r)],H',[]⟩ ⟨[(0,r'')],H'',[]⟩/\Q r'' H''):eV P f vs H Q :=
 ⟨h.1,fun Y ι μ w as hI hl=>(h.2 Y ι μ w as hI hl).mono fun e w' ⟨v,ι',μ',r,H',h1,h2,h3,h4,h5,r'',H'',π,h6,h7⟩=>by
  let Y2:Ctx:=⟨Y.w0,Y.ι0,fun i=>if i<H.next then μ i else none,Y.ro,Y.x,[]⟩
  have oD:Inv P Y2 ι' μ' H' w':=⟨h4.below,h4.i0,h4.iB,h4.rd,(fun i L hL=>by
   simp only [Y2] at hL
   split at hL
   ·exact h3 _ _ hL
   ·cases hL),h4.nx,h4.live,h4.inj,h4.lt,h4.gl⟩
  have hR:dX P 1 Y2 ι' μ' ⟨[(0,r)],H',[]⟩ { tmps:=#[v],defers:=[] } w':=⟨(fun t=>by
   rw [cz]
   split
   ·rename_i e;subst e;exact h5
   ·exact .any _),rfl,oD,rfl⟩
  have mz:=h6.rep (fun i hi=>by simp only [Y2];rw [if_neg (by omega)]) hR
  have hle:μ.le (μ'.kq π):=fun i L hL=>by
   have hlt:i<H.next:=by
    rcases Nat.lt_or_ge i H.next with h|h
    ·exact h
    ·rw [hI.nx i h] at hL;cases hL
   exact mz.inv.m0 i L (by simp only [Y2];rw [if_pos hlt];exact hL)
  refine ⟨v,ι',μ'.kq π,r'',H'',h1,h2,hle,⟨h4.below,h4.i0,h4.iB,h4.rd,Mu.le_trans hI.m0 hle,mz.inv.nx,mz.inv.live,mz.inv.inj,mz.inv.lt,hI.gl⟩,?_,h7⟩
  have:=mz.env 0
  rw [cz,if_pos rfl] at this
  exact this⟩
def A9 (kz:Kz R) (rs:List RV) (tys:List (Option Ty)) (K:V->Nat->aq->R):Kc R:=fun e env nx bl ms=>match e with
 | .exit _=>kz.no
 | .normal=>go env nx bl ms
 | .ret=>go env nx bl ms
where go (env:Env) (nx:Nat) (bl:aq) (ms:List Nat):R:=match fk ms bl with
 |some bl=>match vJ eu ⟨env,⟨nx,bl⟩,[]⟩ rs with
  |some vs=>fV (uY (cu (hTs tys) vs)) fun v=>K v nx bl
  |none=>kz.no
 |none=>kz.no
theorem yB {X : Type} {rs : List RV} {tys : List (Option Ty)} {K : V → Nat → aq → Option X} {r : X} {e : Ex} {env : Env} {nx : Nat} {bl : aq} {ms : List Nat} (h : A9 (iK X) rs tys K e env nx bl ms = some r) {Q : V → aG → Prop}
  (hQ:∀v nx bl,K v nx bl=some r->Q v ⟨nx,bl⟩):B7 rs tys Q e ⟨env,⟨nx,bl⟩,ms⟩:=by
 have key:A9.go (iK X) rs tys K env nx bl ms=some r->B7.qM rs tys Q ⟨env,⟨nx,bl⟩,ms⟩:=fun hg=>by
  unfold A9.go at hg
  unfold B7.qM
  split at hg<;>try (cases hg;done)
  rename_i bP h1
  simp only
  rw [h1]
  simp only
  split at hg<;>try (cases hg;done)
  rename_i vs h2
  rw [h2]
  rw [oc] at hg
  exact hQ _ _ _ hg
 cases e with
 |exit i=>cases h
 |normal=>exact key h
 |ret=>exact key h
def hfE {N k:Nat} (kz:Kz R) (cx:Cx) (ar:Ar) (pre:List Nat) (rs:List RV) (tys:List (Option Ty)) (p q:av) (body:D P N none k) (inr:q.T->R) (x:p.T):R :=
 p.go k x fun env nx bl _=>kE kz cx ar body env nx bl [] (A9 kz rs tys fun r nx bl=>q.rd kz.no pre k [(0,r)] nx bl [] inr)
theorem ED : ∀ {env : Env} {n : Nat}, env.map (·.1) = List.range' n env.length → args n (env.map (·.2)) = env
 |[],n,_=>rfl
 |(s,v)::r,n,h=>by
  simp only [List.map_cons,List.length_cons,List.range'_succ,List.cons.injEq] at h
  simp only [List.map_cons,args]
  rw [ED h.2,h.1]
theorem bE (mixed : P.follows .mixedOrders = true) {cx : Cx} (gN : cx.Ok P) {func : Func} {fn : Fn} {ht : Ht} {k : Nat} (hk : ht.p.ig.length = k) (hf : P.funcs[ht.f]? = some func) (htr : cw P func = some fn) (cF : Enters P ht.f)
  (body:D P fn.N none k) (hbody:body.er=fn.body) (hnp:Nat.ble ht.p.env.length fn.np=true) (hsl:ht.slots) (hq:∃s,ht.q.env=[(0,s)]) (hqm:ht.q.ms=[]) {pre:List Nat} (hpre:pre=List.range k)
  (hfn:∀x,hfE (iK ht.q.T) cx eu pre fn.res fn.tys ht.p ht.q body some x=ht.fn x):ht.Ok P:=by
 intro x y hxy
 subst hpre
 rw [<-hfn x] at hxy
 unfold hfE at hxy
 rw [av.go_eq] at hxy
 subst hk
 refine LQ ?_
 refine kQ hf htr cF (iQ mixed) (by rw [List.length_map,av.XJ];exact Nat.le_of_ble_eq_true hnp) ?_
 have ha:args 0 ((ht.p.E x).map (·.2))=ht.p.E x:=ED (by rw [av.wv,av.XJ,<-List.range_eq_range'];exact hsl)
 rw [ha,<-hbody]
 refine lS gN hxy fun e env nx bl ms hk=>?_
 refine yB hk fun v nx bl hk=>?_
 obtain ⟨y',π,h1,h2⟩:=av.dR hk
 cases h1
 obtain ⟨s,hs⟩:=hq
 have he:ht.q.E y=[(0,get 0 (ht.q.E y))]:=by
  have h1:(ht.q.E y).map (·.1)=[0]:=by rw [av.wv,hs];rfl
  cases h2:ht.q.E y with
  |nil=>rw [h2] at h1;cases h1
  |cons a r =>
   obtain ⟨a1,a2⟩:=a
   rw [h2] at h1
   simp only [List.map_cons,List.cons.injEq,List.map_eq_nil_iff] at h1
   obtain ⟨rfl,rfl⟩:=h1
   rw [cz,if_pos rfl]
 refine ⟨_,_,π,?_,rfl,rfl⟩
 have e:av.st ht.p.ig.length ht.q y=⟨[(0,get 0 (ht.q.E y))],⟨ht.p.ig.length+ht.q.ig.length,ht.q.B y⟩,[]⟩:=by
  unfold av.st;rw [<-he,hqm]
 rw [<-e];exact h2
def Ud {A B : Type} (F : (A → Option B) → A → Option B) : Nat → A → Option B
 |0=>fun _=>none
 |n+1=>F (Ud F n)
noncomputable def uA {A B:Type} (F:(A->Option B)->A->Option B) (x:A):Option B:=by
 classical exact if h:∃(N:Nat) (y:B),∀n,N<=n->Ud F n x=some y then some h.choose_spec.choose else none
theorem Ba {A B:Type} {F:(A->Option B)->A->Option B} {x:A} {y:B} (h:uA F x=some y):∃n,Ud F n x=some y:=by
 unfold uA at h
 split at h
 ·rename_i hx;cases h;exact ⟨hx.choose,hx.choose_spec.choose_spec _ (Nat.le_refl _)⟩
 ·cases h
theorem JF {A B:Type} {F:(A->Option B)->A->Option B} {x:A} {y:B} {N:Nat} (h:∀n,N<=n->Ud F n x=some y):uA F x=some y:=by
 unfold uA
 have hx:∃(N:Nat) (y:B),∀n,N<=n->Ud F n x=some y:=⟨N,y,h⟩
 rw [dif_pos hx]
 have h1:=hx.choose_spec.choose_spec (max N hx.choose) (Nat.le_max_right _ _)
 rw [h _ (Nat.le_max_left _ _)] at h1
 exact h1.symm
theorem CA {f:Nat} {p q:av} {F:(p.T->Option q.T)->p.T->Option q.T} (h:∀rec,Ht.Ok P ⟨f,p,q,rec⟩->Ht.Ok P ⟨f,p,q,F rec⟩):Ht.Ok P ⟨f,p,q,uA F⟩:=by
 have key:∀n,Ht.Ok P ⟨f,p,q,Ud F n⟩:=by
  intro n
  induction n with
  |zero=>intro x y hxy;cases hxy
  |succ n ih=>exact h _ ih
 intro x y hxy
 obtain ⟨n,hn⟩:=Ba hxy
 exact key n x y hn
theorem ct_fix {f:Nat} {ps:List SP} {res:SP} {F:(qY ps Unit->Option (res.T Unit))->qY ps Unit->Option (res.T Unit)} (h:∀rec,Ct.Ok P ⟨f,ps,res,rec⟩->Ct.Ok P ⟨f,ps,res,F rec⟩):Ct.Ok P ⟨f,ps,res,uA F⟩:=by
 have key:∀n,Ct.Ok P ⟨f,ps,res,Ud F n⟩:=by
  intro n
  induction n with
  |zero=>intro x y hxy;cases hxy
  |succ n ih=>exact h _ ih
 intro x y hxy
 obtain ⟨n,hn⟩:=Ba hxy
 exact key n x y hn
end
end Go.AM
end
section
namespace Go.AM
open Go.RowKit Go.ChangeShapes Go.WideShapes
def holes (tys:List Ty):List SP:=tys.map fun t=>.c (.hole t)
def EF : (tys : List Ty) → qY (holes tys) Unit → Prop
 |[],_=>True
 |t::r,x=>Wf t x.1/\EF r x.2
section
variable {P:Program} {H:Type} {enc:TypeId×Value->H} {W:World} {base:Nat}
def qB (P : Program) (t : TypeId) : Ty → Bool
 | .unit=>false
 | .prod _ _=>match P.underlying t with
  |some (.struct _)=>true
  |some (.array _ _)=>true
  |_=>false
 |_=>match P.underlying t with
  |some (.struct _)=>false
  |some (.array _ _)=>false
  |_=>true
theorem PC {t : TypeId} {ty : Ty} (hok : gA P 8 t ty = true) (LS : qB P t ty = true) {v : Value} (hv : Value.okWide P W .any base t v) {d : DataW H} {p : List MemPlace}
  (h:DataW.Trod enc P W 0 (fun _=>true) true t v d p):∃y:ty.den,Rel (jO W) (fun _=>none) (tyV ty y) v/\Wf ty y:=by
 obtain ⟨fuel,hf⟩:=h
 obtain ⟨y,hy,wy⟩:=OT hok hf
 refine ⟨y,?_,wy⟩
 cases ty with
 |unit=>simp [qB] at LS
 |bool =>
  cases hu:P.underlying t with
  |none=>simp [gA,hu] at hok
  |some u =>
   cases u<;>first|(exfalso;simp [qB,hu] at LS;done)|(exfalso;simp [gA,hu] at hok;done)|simp [gA,hu] at hok
   ·obtain ⟨b, rfl⟩ := okWide_bool hu hv
    simp only [ah,Value.cells,List.cons.injEq,Value.bool.injEq,and_true] at hy
    subst hy;exact .bool _
 |str =>
  cases hu:P.underlying t with
  |none=>simp [gA,hu] at hok
  |some u =>
   cases u<;>first|(exfalso;simp [qB,hu] at LS;done)|(exfalso;simp [gA,hu] at hok;done)|simp [gA,hu] at hok
   ·obtain ⟨b, rfl⟩ := okWide_string hu hv
    simp only [ah,Value.cells,List.cons.injEq,Value.string.injEq,and_true] at hy
    subst hy;exact .str _
 |int k =>
  cases hu:P.underlying t with
  |none=>simp [gA,hu] at hok
  |some u =>
   cases u<;>first|(exfalso;simp [qB,hu] at LS;done)|(exfalso;simp [gA,hu] at hok;done)|simp [gA,hu] at hok
   ·subst hok
    obtain ⟨b,rfl⟩:=okWide_int hu hv
    simp only [ah,Value.cells,List.cons.injEq,Value.int.injEq,true_and,and_true] at hy
    subst hy;exact .int _ _
 |list te =>
  cases hu:P.underlying t with
  |none=>simp [gA,hu] at hok
  |some u =>
   cases u<;>first|(exfalso;simp [qB,hu] at LS;done)|(exfalso;simp [gA,hu] at hok;done)|simp [gA,hu] at hok
   ·obtain ⟨a, len, cap, rfl⟩ := okWide_slice hu hv
    exact .fS _ _ _ hy
 |cL d g a =>
  cases hu:P.underlying t with
  |none=>simp [gA,hu] at hok
  |some u =>
   cases u<;>first|(exfalso;simp [qB,hu] at LS;done)|(exfalso;simp [gA,hu] at hok;done)|simp [gA,hu] at hok
 |prod a b =>
  cases hu:P.underlying t with
  |none=>simp [gA,hu] at hok
  |some u =>
   have hcs:∃cs:Array Value,v = .agg cs:=by
    cases u<;>simp [gA,hu] at hok
    ·simp only [Value.okWide,hu] at hv;obtain ⟨cs,h1,_⟩:=hv;exact ⟨cs,h1⟩
    ·obtain ⟨cs,h1,_⟩:=okWide_struct hu hv;exact ⟨cs,h1⟩
   obtain ⟨cs,rfl⟩:=hcs
   have hr:=fJ (μ:=fun _=>none) hy
   refine .agg _ cs ?_ (fun i v x hv hx=>hr.2 i v x hv (by simpa [Value.cells] using hx)) ?_
   ·have:=hr.1;simpa [Value.cells] using this
   ·intro x hx;exact ah.one hy x (by simpa [Value.cells] using hx)
theorem vl:∀{ts:List TypeId} {tys:List Ty} {vs:List Value} {ds:List (DataW H)} {p:List MemPlace},ts.length=tys.length->(∀(i:Nat) t ty,ts[i]?=some t->tys[i]?=some ty->gA P 8 t ty=true/\qB P t ty=true) ->
  (∀(j:Nat) t v,ts[j]?=some t->vs[j]?=some v->Value.okWide P W .any base t v)->DataW.TrodAll enc P W 0 (fun _=>true) true ts vs ds p ->
  ∃x:qY (holes tys) Unit,aM (jO W) (fun _=>none) (Er (holes tys) x) vs/\EF tys x
 |[],[],vs,ds,p,_,_,_,h=>by
  obtain ⟨rfl,_,_⟩:=trodAll_nil h
  exact ⟨(),.nil,trivial⟩
 |t::ts,ty::tys,vs,ds,p,hl,hok,hv,h=>by
  obtain ⟨v,vs',d,ds',p1,q,rfl,rfl,rfl,h1,h2⟩:=trodAll_cons h
  obtain ⟨k1,k2⟩:=hok 0 t ty rfl rfl
  obtain ⟨y,hy,wy⟩:=PC k1 k2 (hv 0 t v rfl rfl) h1
  obtain ⟨x,hx,wx⟩:=vl (by simpa using hl) (fun i t ty ht DV=>hok (i+1) t ty (by simpa using ht) (by simpa using DV)) (fun j t v ht qN=>hv (j+1) t v (by simpa using ht) (by simpa using qN)) h2
  exact ⟨(y,x),.cons hy hx,wy,wx⟩
 |[],_::_,_,_,_,hl,_,_,_=>by simp at hl
 |_::_,[],_,_,_,hl,_,_,_=>by simp at hl
theorem qC (hl:laidOutB P=true) {W':World} (hb:Below W.heap.size W W'):∀{ts:List TypeId} {vs:List Value} {ds:List (DataW H)} {p:List MemPlace},(∀t∈ts,P.readableRec t=true/\t<P.types.size) ->
  DataW.TrodAll enc P W 0 (fun _=>true) true ts vs ds p->(∀x∈p,x.block<W.heap.size)->DataW.TrodAll enc P W' 0 (fun b=>decide (b<W.heap.size)) true ts vs ds p
 |[],vs,ds,p,_,h,_=>by
  obtain ⟨rfl,rfl,rfl⟩:=trodAll_nil h
  exact trodAll_mk0
 |t::ts,vs,ds,p,ht,h,hp=>by
  obtain ⟨v,vs',d,ds',p1,q,rfl,rfl,rfl,h1,h2⟩:=trodAll_cons h
  obtain ⟨k1,k2⟩:=ht t (List.mem_cons_self ..)
  exact trodAll_cons_mk (Below.trod hl k1 k2 h1 hb (fun x hx=>hp x (List.mem_append_left _ hx))) (qC hl hb (fun t ht'=>ht t (List.mem_cons_of_mem _ ht')) h2 (fun x hx=>hp x (List.mem_append_right _ hx)))
end
def qZ (P : Program) : List TypeId → List Ty → Bool
 |[],[]=>true
 |t::ts,ty::tys=>gA P 8 t ty&&qB P t ty&&P.readableRec t&&Nat.blt t P.types.size&&qZ P ts tys
 |_,_=>false
theorem yC {P : Program} : ∀ {ts : List TypeId} {tys : List Ty}, qZ P ts tys = true → ts.length = tys.length ∧ (∀ (i : Nat) t ty, ts[i]? = some t → tys[i]? = some ty → gA P 8 t ty = true ∧ qB P t ty = true) ∧ ∀ t ∈ ts, P.readableRec t = true ∧ t < P.types.size
 |[],[],_=>⟨rfl,fun i t ty h=>by simp at h,fun t h=>by simp at h⟩
 |t::ts,ty::tys,h=>by
  simp only [qZ,Bool.and_eq_true] at h
  obtain ⟨⟨⟨⟨h1,h2⟩,h3⟩,h4⟩,h5⟩:=h
  obtain ⟨k1,k2,k3⟩:=yC h5
  refine ⟨by simp [k1],fun i t' ty' ht DV=>?_,fun t' ht=>?_⟩
  ·cases i with
   |zero=>simp at ht DV;subst ht;subst DV;exact ⟨h1,h2⟩
   |succ i=>exact k2 i t' ty' (by simpa using ht) (by simpa using DV)
  ·rcases List.mem_cons.1 ht with rfl | ht
   ·exact ⟨h3,by simpa [Nat.blt,Nat.succ_le_iff] using h4⟩
   ·exact k3 t' ht
 |[],_::_,h=>by simp [qZ] at h
 |_::_,[],h=>by simp [qZ] at h
theorem Ag {P : Program} {H : Type} {enc : TypeId × Value → H} {f : FuncId} {fn : Func} {s : ChangeSpec} (tys : List Ty) (laid : laidOutB P = true) (hvars : s.vars = []) (Z9 : qZ P fn.params.toList tys = true)
  {tb:TypeId} (hres:fn.resultTypes=#[tb]) (htb:P.underlying tb=some .bool)
  (hs:∀ds:List (DataW H),ds.length=tys.length->(s.fn H ds).results=[.lit (.bool true)]/\(s.fn H ds).args=ds/\(s.fn H ds).vars=[])
  {F:qY (holes tys) Unit->Option (Bool×Unit)} (hct:Ct.Ok P ⟨f,holes tys,.c (.hole .bool),F⟩) (hF:∀x,EF tys x->F x=some (true,()))
  {W:World} {base:Nat} {args:Array Value} {ds gs:List (DataW H)} {before:List MemPlace} (hgl:jC P (jO W)) (hval:∀(j:Nat) t v,fn.params[j]?=some t->args[j]?=some v->Value.okWide P W .any base t v)
  (hW:DataW.Whole enc P fn.params.toList s.vars false W args.toList ds gs before) :
  Calls P f args W fun e W'=>∃v,e = .returned v/\s.post enc P fn false true false false W args v W':=by
 have hW':=hW
 obtain ⟨p,q,hA,hV,rfl,hfz,hnd⟩:=hW
 rw [hvars] at hV
 obtain ⟨rfl,rfl⟩:=trodVars_none hV
 obtain ⟨k1,k2,k3⟩:=yC Z9
 obtain ⟨x,hx,wx⟩:=vl (base:=base) k1 k2 (fun j t v ht hv=>hval j t v (by simpa using ht) (by simpa using hv)) hA
 have hlen:ds.length=tys.length:=by
  rw [<-k1]
  have:∀{ts:List TypeId} {vs:List Value} {ds:List (DataW H)} {p:List MemPlace},DataW.TrodAll enc P W 0 (fun _=>true) true ts vs ds p->ds.length=ts.length:=by
   intro ts
   induction ts with
   |nil=>intro vs ds p h;obtain ⟨rfl,rfl,rfl⟩:=trodAll_nil h;rfl
   |cons t ts ih=>intro vs ds p h;obtain ⟨v,vs',d,ds',p1,q,rfl,rfl,rfl,h1,h2⟩:=trodAll_cons h;simp [ih h2]
  exact this hA
 simp only [List.append_nil] at hW'
 have ez:=(hct x (true,()) (hF x wx)).2 (jO W) W args hgl (fun b o x h=>h) hx
 refine (callsIn_wide.1 ez).mono ?_
 rintro e W' ⟨v,ι',rfl,_,_,_,jW,hr⟩
 have hv:v = .bool true:=by
  have hr':Rel ι' (fun _=>none) (.bool true) v:=hr
  cases hr';rfl
 subst hv
 have hlt:∀x∈p,x.block<W.heap.size:=fun x hx=>hW'.lt x hx
 obtain ⟨s1,s2,s3⟩:=hs (ds++[]) (by simpa using hlen)
 simp only [List.append_nil] at s1 s2 s3
 refine ⟨_,rfl,ds,[],p,[],p,[],hW',?_,?_,?_,jW.b.frame _,fun h=>by cases h⟩
 ·simp only [List.append_nil]
  rw [s1,hres]
  exact trodAll_cons_mk (p:=[]) (p':=[]) (shut_bool htb _) trodAll_mk0
 ·simp only [List.append_nil]
  rw [s2]
  exact qC laid jW.b k3 hA hlt
 ·simp only [List.append_nil]
  rw [s3,hvars]
  rfl
theorem CB {P : Program} {H : Type} {enc : TypeId × Value → H} {f : FuncId} {fn : Func} {s : ChangeSpec} (tys : List Ty) (laid : laidOutB P = true) (hvars : s.vars = []) (Z9 : qZ P fn.params.toList tys = true)
  {tb:TypeId} (hres:fn.resultTypes=#[tb]) (htb:P.underlying tb=some .bool)
  (hs:∀ds:List (DataW H),ds.length=tys.length->(s.fn H ds).results=[.lit (.bool true)]/\(s.fn H ds).args=ds/\(s.fn H ds).vars=[])
  {F:qY (holes tys) Unit->Option (Bool×Unit)} (hct:Ct.Ok P ⟨f,holes tys,.c (.hole .bool),F⟩) (hF:∀x,EF tys x->F x=some (true,()))
  {W:World} {base:Nat} {args:Array Value} {ds gs:List (DataW H)} {before:List MemPlace} (hno:(List.range P.globals.size).all (fun g=>(pR P g).isNone)=true) (hval:∀(j:Nat) t v,fn.params[j]?=some t->args[j]?=some v->Value.okWide P W .any base t v)
  (hW:DataW.Whole enc P fn.params.toList s.vars false W args.toList ds gs before) :
  Calls P f args W fun e W'=>∃v,e = .returned v/\s.post enc P fn false true false false W args v W' :=
 Ag tys laid hvars Z9 hres htb hs hct hF (jC.none hno _) hval hW
end Go.AM
end
section
namespace Go.AM
theorem aD {z:Int} (h1 : -9223372036854775808<=z) (h2:z<=9223372036854775807):dc .i64 z=true:=by
 have e1:IntKind.i64.min = -9223372036854775808:=by decide
 have e2:IntKind.i64.max=9223372036854775807:=by decide
 simp only [dc,e1,e2,Bool.and_eq_true,decide_eq_true_eq]
 exact ⟨h1,h2⟩
theorem aP {i n:Int} (h:0<=i) (h2:i<n):bT i n=true:=by simp [bT,h,h2]
theorem sJ {X:Type} {z:Int} {x:Option X} (h1 : -9223372036854775808<=z) (h2:z<=9223372036854775807):need (dc .i64 z) x=x:=iU (aD h1 h2)
theorem EG {X:Type} {i n:Int} {x:Option X} (h:0<=i) (h2:i<n):need (bT i n) x=x:=iU (aP h h2)
theorem cm {X:Type} {p:Prop} [Decidable p] {x:Option X} (h:p):need (decide p) x=x:=iU (decide_eq_true h)
theorem PD {X:Type} {c:Bool} {x y:Option X} (h:c=true):lF c x y=x:=by rw [h,bO]
theorem Hu {X:Type} {c:Bool} {x y:Option X} (h:c=false):lF c x y=y:=by rw [h,aO]
theorem aK {X:Type} {p:Prop} [Decidable p] {x y:Option X}:lF (decide p) x y=if p then x else y:=by
 by_cases h:p<;>simp [h]
theorem aZ {X:Type} {a b:Int} {x y:Option X}:lF (a==b) x y=if a=b then x else y:=by
 by_cases h:a=b
 ·simp [h]
 ·have : (a == b) = false := by simpa using h
  rw [this,aO,if_neg h]
theorem bx {X:Type} {c:Bool} {x y:Option X}:lF (!c) x y=lF c y x:=by cases c<;>simp
theorem ag {A X:Type} {o:Option A} {a:A} {f:A->Option X} (h:o=some a):cI o f=f a:=by rw [h,aF]
theorem yD {α β:Type} {step:α->Option (α ⊕ β)} (n:Nat) (g:Nat->α) {b:β} (hr:∀k,k<n->step (g k)=some (.inl (g (k+1)))) (he:step (g n)=some (.inr b)):iter step (g 0)=some b:=by
 have key:∀m k,k+m=n->iter step (g k)=some b:=by
  intro m
  induction m with
  |zero=>intro k hk;rw [show k=n by omega];exact jt he
  |succ m ih=>intro k hk;exact oS (hr k (by omega)) (ih (k+1) (by omega))
 exact key n 0 (by omega)
end Go.AM
end
section
namespace Go.AM
end Go.AM
end
section
namespace Go.AM
@[reducible] def ND {A B:Type} {Y:Type _} (f:A->Y) (g:B->Y) (z:A ⊕ B):Y:=match z with
 | .inl a=>f a
 | .inr b=>g b
inductive Tr:Type->Type->Type->Type 1 where
 |ret {A0 B0 X:Type} (x:X):Tr A0 B0 X
 |no {A0 B0 X:Type}:Tr A0 B0 X
 |br {A0 B0 X:Type} (c:Bool) (a b:Tr A0 B0 X):Tr A0 B0 X
 |am {A0 B0 X:Type} (d:DecidableEq X) (a b:Tr A0 B0 X):Tr A0 B0 X
 |nd {A0 B0 X:Type} (c:Bool) (a:Tr A0 B0 X):Tr A0 B0 X
 |bd {A0 B0 A X:Type} (o:Tr A0 B0 A) (k:A->Tr A0 B0 X):Tr A0 B0 X
 |jx {A0 B0 A X:Type} (o:Tr A0 B0 (A ⊕ X)) (k:A->Tr A0 B0 X):Tr A0 B0 X
 |sm {A0 B0 A B X:Type} (z:A ⊕ B) (f:A->Tr A0 B0 X) (g:B->Tr A0 B0 X):Tr A0 B0 X
 |it {A0 B0 A B:Type} (step:A->Tr A0 B0 (A ⊕ B)) (x:A):Tr A0 B0 B
 |rc {A0 B0:Type} (x:A0):Tr A0 B0 B0
 |fx {A0 B0 A1 B1:Type} (body:A1->Tr A1 B1 B1) (x:A1):Tr A0 B0 B1
 |up {A0 B0 X:Type} (t:Tr Unit Unit X):Tr A0 B0 X
 |of {A0 B0 X:Type} (o:Option X):Tr A0 B0 X
 |mp {A0 B0 E A B:Type} (step:E->A->Tr A0 B0 (A ⊕ B)) (es:List E) (x:A):Tr A0 B0 (A ⊕ B)
 |mq {A0 B0 E A:Type} (step:E->A->Tr A0 B0 A) (es:List E) (x:A):Tr A0 B0 A
 |an {A0 B0 E X:Type} (es:List E) (k:List E->Tr A0 B0 X):Tr A0 B0 X
 |fm {A0 B0 E A:Type} (step:E->A->Tr A0 B0 A) (l:List E) (x:A):Tr A0 B0 A
abbrev bG (X:Type):=Tr Unit Unit X
noncomputable def run : {A0 B0 X : Type} → (A0 → Option B0) → Tr A0 B0 X → Option X
 |_,_,_,_,.ret x=>some x
 |_,_,_,_,.no=>none
 |_,_,_,r,.br c a b=>lF c (run r a) (run r b)
 |_,_,_,r,.am _ a b=>Ho (run r a) (run r b)
 |_,_,_,r,.nd c a=>need c (run r a)
 |_,_,_,r,.bd o k=>cI (run r o) fun a=>run r (k a)
 |_,_,_,r,.jx o k=>cI (run r o) (ND (fun a=>run r (k a)) some)
 |_,_,_,r,.sm z f g=>match z with
  | .inl x=>run r (f x)
  | .inr y=>run r (g y)
 |_,_,_,r,.it step x=>iter (fun a=>run r (step a)) x
 |_,_,_,r,.rc x=>r x
 |_,_,_,_,.fx body x=>uA (fun r y=>run r (body y)) x
 |_,_,_,_,.up t=>run (fun _=>none) t
 |_,_,_,_,.of o=>o
 |_,_,_,r,.mp step es x=>iR (fun l=>zY (fun e a=>run r (step e a)) l x) es
 |_,_,_,r,.mq step es x=>iR (fun l=>AV (fun e a=>run r (step e a)) l x) es
 |_,_,_,r,.an es k=>iR (fun l=>run r (k l)) es
 |_,_,_,r,.fm step l x=>AV (fun e a=>run r (step e a)) l x
noncomputable abbrev ai {X:Type} (t:bG X):Option X:=run (fun _=>none) t
section
variable {A0 B0 A1 B1 A B X:Type} {r:A0->Option B0}
theorem aa {x:X}:run r (.ret x)=some x:=rfl
theorem aj {c:Bool} {a b:Tr A0 B0 X}:run r (.br c a b)=lF c (run r a) (run r b):=rfl
theorem aaa {d:DecidableEq X} {a b:Tr A0 B0 X}:run r (.am d a b)=Ho (run r a) (run r b):=rfl
theorem aS {c:Bool} {a:Tr A0 B0 X}:run r (.nd c a)=need c (run r a):=rfl
theorem aA {o:Tr A0 B0 A} {k:A->Tr A0 B0 X}:run r (.bd o k)=cI (run r o) fun a=>run r (k a):=rfl
theorem Hv {o:Tr A0 B0 (A ⊕ X)} {k:A->Tr A0 B0 X}:run r (.jx o k)=cI (run r o) (ND (fun a=>run r (k a)) some):=rfl
theorem mg {x:A} {f:A->Tr A0 B0 X} {g:B->Tr A0 B0 X}:run r (.sm (.inl x) f g)=run r (f x):=rfl
theorem iW {y:B} {f:A->Tr A0 B0 X} {g:B->Tr A0 B0 X}:run r (.sm (.inr y) f g)=run r (g y):=rfl
theorem bn {step:A->Tr A0 B0 (A ⊕ B)} {x:A}:run r (.it step x)=iter (fun a=>run r (step a)) x:=rfl
theorem aab {x:A0}:run r (.rc x)=r x:=rfl
theorem yE {o:Option X}:run r (.of o)=o:=rfl
theorem aac {E:Type} {step:E->A->Tr A0 B0 (A ⊕ B)} {es:List E} {x:A}:run r (.mp step es x)=iR (fun l=>zY (fun e a=>run r (step e a)) l x) es:=rfl
theorem CC {E:Type} {es:List E} {k:List E->Tr A0 B0 X}:run r (.an es k)=iR (fun l=>run r (k l)) es:=rfl
theorem CD {E:Type} {step:E->A->Tr A0 B0 A} {l:List E} {x:A}:run r (.fm step l x)=AV (fun e a=>run r (step e a)) l x:=rfl
theorem Hw {E:Type} {step:E->A->Tr A0 B0 A} {es:List E} {x:A}:run r (.mq step es x)=iR (fun l=>AV (fun e a=>run r (step e a)) l x) es:=rfl
end
@[reducible] def Tr.ni {A0 B0 X:Type} (z:Int) (a:Tr A0 B0 X):Tr A0 B0 X:=.nd (dc .i64 z) a
@[reducible] def Tr.nb {A0 B0 X:Type} (i n:Int) (a:Tr A0 B0 X):Tr A0 B0 X:=.nd (bT i n) a
theorem aI {A0 B0 X:Type} {r:A0->Option B0} {z:Int} {a:Tr A0 B0 X}:run r (.ni z a)=need (dc .i64 z) (run r a):=rfl
theorem aJ {A0 B0 X:Type} {r:A0->Option B0} {i n:Int} {a:Tr A0 B0 X}:run r (.nb i n a)=need (bT i n) (run r a):=rfl
def flatK : {A0 B0 A X : Type} → Tr A0 B0 A → (A → Tr A0 B0 X) → Tr A0 B0 X
 |_,_,_,_,.ret x,k=>k x
 |_,_,_,_,.no,_=>.no
 |_,_,_,_,.br c a b,k=>.br c (flatK a k) (flatK b k)
 |_,_,_,_,.am d a b,k=>.bd (.am d a b) k
 |_,_,_,_,.nd c a,k=>.nd c (flatK a k)
 |_,_,_,_,.bd o f,k=>.bd o fun a=>flatK (f a) k
 |_,_,_,_,.jx o f,k=>flatK o (ND (fun a=>flatK (f a) k) k)
 |_,_,_,_,.sm z f g,k=>.sm z (fun x=>flatK (f x) k) (fun y=>flatK (g y) k)
 |_,_,_,_,.it step x,k=>.bd (.it step x) k
 |_,_,_,_,.rc x,k=>.bd (.rc x) k
 |_,_,_,_,.fx b x,k=>.bd (.fx b x) k
 |_,_,_,_,.up t,k=>.bd (.up t) k
 |_,_,_,_,.of o,k=>.bd (.of o) k
 |_,_,_,_,.mp s es x,k=>.bd (.mp s es x) k
 |_,_,_,_,.mq s es x,k=>.bd (.mq s es x) k
 |_,_,_,_,.an es f,k=>.bd (.an es f) k
 |_,_,_,_,.fm s l x,k=>.bd (.fm s l x) k
def flat {A0 B0 X:Type} (t:Tr A0 B0 X):Tr A0 B0 X:=flatK t .ret
theorem Ue {A X:Type} {c:Bool} {a b:Option A} {f:A->Option X}:cI (lF c a b) f=lF c (cI a f) (cI b f):=by cases c<;>simp
theorem JG {X:Type} {x:Option X}:need false x=none:=by
 cases h:need false x with
 |none=>rfl
 |some y=>have:=(de h).1;cases this
theorem Uf {A X:Type} {c:Bool} {a:Option A} {f:A->Option X}:cI (need c a) f=need c (cI a f):=by
 cases c
 ·rw [JG,JG,pY]
 ·rw [iU rfl,iU rfl]
theorem JH {A B X:Type} {o:Option A} {f:A->Option B} {g:B->Option X}:cI (cI o f) g=cI o fun a=>cI (f a) g:=by
 cases o with
 |none=>rw [pY,pY,pY]
 |some a=>rw [aF,aF]
theorem Hx {A:Type} {o:Option A}:cI o (fun a=>some a)=o:=by
 cases o with
 |none=>rw [pY]
 |some a=>rw [aF]
theorem ga : {A0 B0 A X : Type} → (r : A0 → Option B0) → (t : Tr A0 B0 A) → (k : A → Tr A0 B0 X) → run r (flatK t k) = cI (run r t) fun a => run r (k a)
 |_,_,_,_,r,.ret x,k=>by simp only [flatK,run,aF]
 |_,_,_,_,r,.no,k=>by simp only [flatK,run,pY]
 |_,_,_,_,r,.br c a b,k=>by simp only [flatK,run,Ue,ga r a k,ga r b k]
 |_,_,_,_,r,.am d a b,k=>by simp only [flatK,run]
 |_,_,_,_,r,.nd c a,k=>by simp only [flatK,run,Uf,ga r a k]
 |_,_,_,_,r,.bd o f,k=>by simp only [flatK,run,JH,ga r (f _) k]
 |_,_,_,_,r,.jx o f,k=>by
  simp only [flatK,run,JH,ga r o _]
  congr 1
  funext z
  cases z with
  |inl a=>simp only [ga r (f a) k]
  |inr x=>simp only [aF]
 |_,_,_,_,r,.sm z f g,k=>by
  cases z with
  |inl x=>simp only [flatK,run,ga r (f x) k]
  |inr y=>simp only [flatK,run,ga r (g y) k]
 |_,_,_,_,r,.it step x,k=>by simp only [flatK,run]
 |_,_,_,_,r,.rc x,k=>by simp only [flatK,run]
 |_,_,_,_,r,.fx b x,k=>by simp only [flatK,run]
 |_,_,_,_,r,.up t,k=>by simp only [flatK,run]
 |_,_,_,_,r,.of o,k=>by simp only [flatK,run]
 |_,_,_,_,r,.mp s es x,k=>by simp only [flatK,run]
 |_,_,_,_,r,.mq s es x,k=>by simp only [flatK,run]
 |_,_,_,_,r,.an es f,k=>by simp only [flatK,run]
 |_,_,_,_,r,.fm s l x,k=>by simp only [flatK,run]
theorem yF {A0 B0 X:Type} {r:A0->Option B0} {t:Tr A0 B0 X}:run r (flat t)=run r t:=by
 unfold flat
 rw [ga]
 simp only [run]
 exact Hx
end Go.AM
end
section
namespace Go.AM
inductive LR (P:Program) (N:Nat) (out:Option Nat) (base:Nat):Type 1 where
 |l (x:bw P N out base)
 |r (x:gM P N out base)
 |m (x:sx P N out base)
 |x
def nl : C → Nat
 | .seq a b=>nl a+nl b
 | .cond _ a b=>nl a+nl b
 | .block _ a=>nl a
 | .loop _=>1
 | .bM _ _ _ _=>1
 | .ic _ _ _ _ _ _ _ _ _ _ _=>1
 |_=>0
section
variable {P:Program} {N:Nat} {out:Option Nat} {base:Nat}
def Ug : List (LR P N out base) → Nat → LR P N out base
 |[],_=>.x
 |y::_,0=>y
 |_::r,n+1=>Ug r n
def dO (ls : List (LR P N out base)) : C → Nat → D P N out base
 | .skip,_=>.skip
 | .bf is,_=>.bf is
 | .draw ps is,_=>.draw ps is
 | .seq a b,i=>.seq (dO ls a i) (dO ls b (i+nl a))
 | .cond c a b,i=>.cond c (dO ls a i) (dO ls b (i+nl a))
 | .block n a,i=>.block n (dO ls a i)
 | .loop c,i=>match Ug ls i with
  | .l l=>.loop l
  |_=>.loop (Py c)
 | .exit n,_=>.exit n
 | .ret,_=>.ret
 | .bM f ps a b,i=>match Ug ls i with
  | .r l=>.bM l
  |_=>.bM (LP f ps a b)
 | .ic p m t cl e kt kg vt vg d b,i=>match Ug ls i with
  | .m l=>.ic l
  |_=>.ic (T8 p m t cl e kt kg vt vg d b)
end
def uB (b : Bool) : C → Nat → C
 | .seq x y,k=>match Nat.blt k (nl x) with
  |true=>uB b x k
  |false=>uB b y (k - nl x)
 | .cond _ x y,k=>match Nat.blt k (nl x) with
  |true=>uB b x k
  |false=>uB b y (k - nl x)
 | .block _ x,k=>uB b x k
 | .loop c,_=>c
 | .bM _ _ x y,_=>match b with
  |true=>y
  |false=>x
 | .ic _ _ _ _ _ _ _ _ _ _ x,_=>x
 |c,_=>c
def pick : C → List (Nat × Bool) → C
 |c,[]=>c
 |c,(k,b)::r=>pick (uB b c k) r
def kd (P:Program) (f:Func):C:=match cw P f with
 |some t=>t.body
 |none=>.skip
@[reducible] def hI:SP:=.c (.hole (.int .i64))
@[reducible] def hL:SP:=.c (.hole (.list (.int .i64)))
@[reducible] def hLL:SP:=.c (.hole (.list (.list (.int .i64))))
@[reducible] def tI:Ty:=.int .i64
@[reducible] def tL:Ty:=.list (.int .i64)
end Go.AM
end
section
namespace Go.AM
section
variable {P:Program} {N:Nat} {out:Option Nat} {base:Nat}
end
section
variable {P:Program} {N:Nat} {out:Option Nat} {base:Nat}
theorem get_none : ∀ {env : Env} {t : Nat}, t ∉ env.map (·.1) → get t env = .any
 |[],_,_=>rfl
 |(s,v)::r,t,h=>by
  simp only [List.map_cons,List.mem_cons,not_or] at h
  rw [cz,if_neg (fun e=>h.1 e.symm)]
  exact get_none h.2
noncomputable def Hy {R : Type} (kz : Kz R) (cx : Cx) (oZ : List Nat) (p : av) (xs : aU) (mn it : Nat) (cl : List Nat) (e : Option Nat) (kt : Ty) (kg : Bool) (vt : Ty) (vg : Bool) {dy : Nat} (body : D P N out dy) (inl : p.T → R) (inr : xs.T → R)
  (lQ:kt.den×vt.den) (x:p.T):R :=
 fN (base+p.ig.length) fun aC=>p.go aC x fun env _ bl ms=>match get mn env with
  | .mp id=>match jK bl kt kg vt vg id with
   |some es=>LM (TP e kt kg vt vg lQ ((it,.ptr aC 0)::env)) fun env=>fN (aC+1) fun nx=>kE kz cx eu body env nx bl ms fun ex env nx bl ms=>match ex with
    | .normal=>match get it env with
     | .ptr i o=>match an (Nat.beq i aC) (Nat.beq o 0) with
      |true=>match get mn env with
       | .mp id'=>match Nat.beq id' id with
        |true=>match jK bl kt kg vt vg id with
         |some es'=>kz.nd (jP es' es) (p.rd kz.no oZ base (eO (it::cl) env) nx bl ms inl)
         |none=>kz.no
        |false=>kz.no
       |_=>kz.no
      |false=>kz.no
     |_=>kz.no
    | .exit i=>xs.rd kz.no oZ base (.exit i) env nx bl ms inr
    | .ret=>xs.rd kz.no oZ base .ret env nx bl ms inr
   |none=>kz.no
  |_=>kz.no
def Hz {R:Type} (kz:Kz R) (cx:Cx) (oZ:List Nat) (p:av) (pre:List dw) (mn it:Nat) (cl:List Nat) (kt:Ty) (kg:Bool) (vt:Ty) (vg:Bool) (env:Env) (nx:Nat) (bl:aq) (ms:List Nat) (k:List (kt.den×vt.den)->p.T->R):R :=
 kI kz cx eu pre env nx bl fun env nx bl=>match get mn env with
  | .mp id=>match jK bl kt kg vt vg id with
   |some es=>p.rd kz.no oZ base (eO (it::cl) env) nx bl ms fun x=>k es x
   |none=>kz.no
  |_=>kz.no
theorem PE (mixed : P.follows .mixedOrders = true) {cx : Cx} (gN : cx.Ok P) {p : av} {xs : aU} (hxs : xs.all (fun p => !Hs p.1 .normal) = true) {pre : List dw} {mn it : Nat} {cl : List Nat} {e : Option Nat} {kt vt : Ty} {kg vg : Bool} {qq : Nat}
  (tY:p.env.all (fun q => !(it::cl).contains q.1)=true) {dy:Nat} (fF:dy=base+p.ig.length+1) {body:D P N out dy} {step:kt.den×vt.den->p.T->Option (p.T ⊕ xs.T)}
  (hstep:∀lQ x,Hy (base:=base) (iK (p.T ⊕ xs.T)) cx (List.range base) p xs mn it cl e kt kg vt vg body (fun y=>some (.inl y)) (fun b=>some (.inr b)) lQ x=step lQ x) {X:Type} {env:Env} {nx:Nat} {bl:aq} {ms:List Nat} {r:X} {Q:Ex->St->Prop}
  {k:List (kt.den×vt.den)->p.T->Option X} (h:Hz (base:=base) (iK X) cx (List.range base) p pre mn it cl kt kg vt vg env nx bl ms k=some r)
  (hk:∀es x,k es x=some r->∃res,(∀l:List (kt.den×vt.den),l.Perm es->zY step l x=some res)/\(match res with | .inl y=>Q .normal (p.st base y) | .inr b=>Q (Ei qq (xs.st base b).1) (xs.st base b).2)) :
  (eW P N out base).ic (.ic pre (.t mn) it cl e kt kg vt vg qq body.er) ⟨env,⟨nx,bl⟩,ms⟩ Q:=by
 subst fF
 refine Ej (fun b=>iQ mixed) (I:=p.st base) (X:=xs.st base) (step:=step) (aC:=base+p.ig.length) (fun x s hs=>?_) (fun x=>rfl) (fun lQ x r hx=>?_) ?_
 ·refine get_none (env := p.E x) fun hm => ?_
  rw [av.wv] at hm
  obtain ⟨q,hq,rfl⟩:=List.mem_map.1 hm
  have:=List.all_eq_true.1 tY q hq
  simp only [Bool.not_eq_true',<-Bool.not_eq_true] at this
  exact this (by simpa using hs)
 ·rw [← hstep lQ x] at hx
  unfold Hy at hx
  rw [gB,av.go_eq] at hx
  split at hx<;>try (cases hx;done)
  rename_i id hid
  split at hx<;>try (cases hx;done)
  rename_i es Dt
  rw [sF,gB] at hx
  refine ⟨id,es,hid,Dt,lS gN hx fun ex env nx bl ms hk=>?_⟩
  cases ex with
  |normal =>
   simp only at hk
   split at hk<;>try (cases hk;done)
   rename_i i o hit
   split at hk<;>try (cases hk;done)
   rename_i vH
   rw [aV] at vH
   have e1:=Nat.eq_of_beq_eq_true vH.1
   have e2:=Nat.eq_of_beq_eq_true vH.2
   subst e1;subst e2
   split at hk<;>try (cases hk;done)
   rename_i id' aad
   split at hk<;>try (cases hk;done)
   rename_i hbe
   have e3:=Nat.eq_of_beq_eq_true hbe
   subst e3
   split at hk<;>try (cases hk;done)
   rename_i es' LC
   have hk2:=(de hk).2
   have e4:=Eg (de hk).1
   clear hk
   subst e4
   obtain ⟨y,π,h1,h2⟩:=av.dR hk2
   cases h1
   exact ⟨rfl,hit,aad,LC,π,h2⟩
  |exit i =>
   obtain ⟨y,π,q1,q2,q3⟩:=aU.dR hk
   cases q1
   exact ⟨by simp,q2,π,q3⟩
  |ret =>
   obtain ⟨y,π,q1,q2,q3⟩:=aU.dR hk
   cases q1
   exact ⟨by simp,q2,π,q3⟩
 ·unfold Hz at h
  refine oU gN h fun env nx bl h=>?_
  split at h<;>try (cases h;done)
  rename_i id hid
  split at h<;>try (cases h;done)
  rename_i es Dt
  obtain ⟨x,π,h1,h2⟩:=av.dR h
  obtain ⟨res,h3,h4⟩:=hk es x h1
  exact ⟨id,es,x,π,hid,Dt,h2,fun l hl=>⟨res,h3 l hl,by cases res<;>exact h4⟩⟩
def noB {R:Type}:Empty->R:=fun b=>nomatch b
theorem XK {E α : Type} {step : E → α → Option α} : ∀ {l : List E} {x y : α}, AV step l x = some y → zY (fun e x => (step e x).map (Sum.inl (β := Empty))) l x = some (.inl y)
 |[],x,y,h=>by cases h;rfl
 |e::r,x,y,h=>by
  simp only [AV] at h
  split at h<;>try (cases h;done)
  rename_i z hz
  simp only [zY,hz,Option.map_some]
  exact XK h
theorem Bb (mixed : P.follows .mixedOrders = true) {cx : Cx} (gN : cx.Ok P) {p : av} {pre : List dw} {mn it : Nat} {cl : List Nat} {e : Option Nat} {kt vt : Ty} {kg vg : Bool} {qq : Nat}
  (tY:p.env.all (fun q => !(it::cl).contains q.1)=true) {dy:Nat} (fF:dy=base+p.ig.length+1) {body:D P N out dy} {step:kt.den×vt.den->p.T->Option p.T}
  (hstep:∀lQ x,Hy (base:=base) (iK p.T) cx (List.range base) p [] mn it cl e kt kg vt vg body (fun y=>some y) noB lQ x=step lQ x) {X:Type} {env:Env} {nx:Nat} {bl:aq} {ms:List Nat} {r:X} {Q:Ex->St->Prop}
  {k:List (kt.den×vt.den)->p.T->Option X} (h:Hz (base:=base) (iK X) cx (List.range base) p pre mn it cl kt kg vt vg env nx bl ms k=some r)
  (hk:∀es x,k es x=some r->∀l:List (kt.den×vt.den),l.Perm es->∃y,AV step l x=some y/\Q .normal (p.st base y)) :
  (eW P N out base).ic (.ic pre (.t mn) it cl e kt kg vt vg qq body.er) ⟨env,⟨nx,bl⟩,ms⟩ Q:=by
 subst fF
 refine Ej (fun b=>iQ mixed) (I:=p.st base) (X:=fun b:Empty=>nomatch b) (step:=fun e x=>(step e x).map (Sum.inl (β:=Empty))) (aC:=base+p.ig.length) (fun x s hs=>?_) (fun x=>rfl) (fun lQ x r hx=>?_) ?_
 ·refine get_none (env := p.E x) fun hm => ?_
  rw [av.wv] at hm
  obtain ⟨q,hq,rfl⟩:=List.mem_map.1 hm
  have:=List.all_eq_true.1 tY q hq
  simp only [Bool.not_eq_true',<-Bool.not_eq_true] at this
  exact this (by simpa using hs)
 ·obtain ⟨y0, hx0, rfl⟩ := Option.map_eq_some_iff.1 hx
  clear hx
  rename _=>hx
  rw [<-hstep lQ x] at hx
  unfold Hy at hx
  rw [gB,av.go_eq] at hx
  split at hx<;>try (cases hx;done)
  rename_i id hid
  split at hx<;>try (cases hx;done)
  rename_i es Dt
  rw [sF,gB] at hx
  refine ⟨id,es,hid,Dt,lS gN hx fun ex env nx bl ms hk=>?_⟩
  cases ex with
  |normal =>
   simp only at hk
   split at hk<;>try (cases hk;done)
   rename_i i o hit
   split at hk<;>try (cases hk;done)
   rename_i vH
   rw [aV] at vH
   have e1:=Nat.eq_of_beq_eq_true vH.1
   have e2:=Nat.eq_of_beq_eq_true vH.2
   subst e1;subst e2
   split at hk<;>try (cases hk;done)
   rename_i id' aad
   split at hk<;>try (cases hk;done)
   rename_i hbe
   have e3:=Nat.eq_of_beq_eq_true hbe
   subst e3
   split at hk<;>try (cases hk;done)
   rename_i es' LC
   have hk2:=(de hk).2
   have e4:=Eg (de hk).1
   clear hk
   subst e4
   obtain ⟨y,π,h1,h2⟩:=av.dR hk2
   cases h1
   exact ⟨rfl,hit,aad,LC,π,h2⟩
  |exit i=>cases hk
  |ret=>cases hk
 ·unfold Hz at h
  refine oU gN h fun env nx bl h=>?_
  split at h<;>try (cases h;done)
  rename_i id hid
  split at h<;>try (cases h;done)
  rename_i es Dt
  obtain ⟨x,π,h1,h2⟩:=av.dR h
  exact ⟨id,es,x,π,hid,Dt,h2,fun l hl=>by
   obtain ⟨y,h3,h4⟩:=hk es x h1 l hl
   exact ⟨.inl y,XK h3,h4⟩⟩
noncomputable def aae (mixed : P.follows .mixedOrders = true) (cx : Cx) (gN : cx.Ok P) (oZ : List Nat) (EH : oZ = List.range base) (p : av) (xs : aU) (hxs : xs.all (fun p => !Hs p.1 .normal) = true) (pre : List dw) (mn it : Nat) (cl : List Nat)
  (e:Option Nat) (kt:Ty) (kg:Bool) (vt:Ty) (vg:Bool) (qq:Nat) (tY:p.env.all (fun q => !(it::cl).contains q.1)=true) (dy:Nat) (fF:dy=base+p.ig.length+1) (body:D P N out dy) (step:kt.den×vt.den->p.T->Option (p.T ⊕ xs.T))
  (hstep:∀lQ x,Hy (base:=base) (iK (p.T ⊕ xs.T)) cx oZ p xs mn it cl e kt kg vt vg body (fun y=>some (.inl y)) (fun b=>some (.inr b)) lQ x=step lQ x):sx P N out base where
 pre:=pre
 m:=.t mn
 it:=it
 cl:=cl
 e:=e
 kt:=kt
 kg:=kg
 vt:=vt
 vg:=vg
 qq:=qq
 b:=body.er
 run kz env nx bl ms K:=Hz (base:=base) kz cx oZ p pre mn it cl kt kg vt vg env nx bl ms fun es x=>kz.bd (iR (fun l=>zY step l x) es) fun z=>kz.sm z (fun y=>fN (base+p.ig.length) fun nx=>p.go nx y (K .normal)) fun b=>xs.go kz base b fun e=>K (Ei qq e)
 ok:=by
  intro X env nx bl ms K r h Q hQ
  subst EH
  refine PE mixed gN hxs tY fF hstep h fun es x hk=>?_
  obtain ⟨z,h1,h2⟩:=pZ hk
  refine ⟨z,oT h1,?_⟩
  cases z with
  |inl y =>
   simp only [gB,av.go_eq] at h2
   exact hQ _ _ _ _ _ h2
  |inr b=>exact hQ _ _ _ _ _ (aU.A2 (xs:=xs) h2)
noncomputable def CE (mixed : P.follows .mixedOrders = true) (cx : Cx) (gN : cx.Ok P) (oZ : List Nat) (EH : oZ = List.range base) (p : av) (pre : List dw) (mn it : Nat) (cl : List Nat)
  (e:Option Nat) (kt:Ty) (kg:Bool) (vt:Ty) (vg:Bool) (qq:Nat) (tY:p.env.all (fun q => !(it::cl).contains q.1)=true) (dy:Nat) (fF:dy=base+p.ig.length+1) (body:D P N out dy) (step:kt.den×vt.den->p.T->Option p.T)
  (hstep:∀lQ x,Hy (base:=base) (iK p.T) cx oZ p [] mn it cl e kt kg vt vg body (fun y=>some y) noB lQ x=step lQ x):sx P N out base where
 pre:=pre
 m:=.t mn
 it:=it
 cl:=cl
 e:=e
 kt:=kt
 kg:=kg
 vt:=vt
 vg:=vg
 qq:=qq
 b:=body.er
 run kz env nx bl ms K:=Hz (base:=base) kz cx oZ p pre mn it cl kt kg vt vg env nx bl ms fun es x=>kz.bd (iR (fun l=>AV step l x) es) fun y=>fN (base+p.ig.length) fun nx=>p.go nx y (K .normal)
 ok:=by
  intro X env nx bl ms K r h Q hQ
  subst EH
  refine Bb mixed gN tY fF hstep h fun es x hk=>?_
  obtain ⟨y,h1,h2⟩:=pZ hk
  simp only [gB,av.go_eq] at h2
  exact fun l hl=>⟨y,oT h1 l hl,hQ _ _ _ _ _ h2⟩
noncomputable def wA (mixed : P.follows .mixedOrders = true) (cx : Cx) (gN : cx.Ok P) (oZ : List Nat) (EH : oZ = List.range base) (p : av) (pre : List dw) (mn it : Nat) (cl : List Nat)
  (e:Option Nat) (kt:Ty) (kg:Bool) (vt:Ty) (vg:Bool) (qq:Nat) (tY:p.env.all (fun q => !(it::cl).contains q.1)=true) (dy:Nat) (fF:dy=base+p.ig.length+1) (body:D P N out dy) (step:kt.den×vt.den->p.T->Option p.T)
  (hstep:∀lQ x,Hy (base:=base) (iK p.T) cx oZ p [] mn it cl e kt kg vt vg body (fun y=>some y) noB lQ x=step lQ x):sx P N out base where
 pre:=pre
 m:=.t mn
 it:=it
 cl:=cl
 e:=e
 kt:=kt
 kg:=kg
 vt:=vt
 vg:=vg
 qq:=qq
 b:=body.er
 run kz env nx bl ms K:=Hz (base:=base) kz cx oZ p pre mn it cl kt kg vt vg env nx bl ms fun es x=>kz.an es fun l=>kz.bd (AV step l x) fun y=>fN (base+p.ig.length) fun nx=>p.go nx y (K .normal)
 ok:=by
  intro X env nx bl ms K r h Q hQ
  subst EH
  refine Bb mixed gN tY fF hstep h fun es x hk l hl=>?_
  obtain ⟨y,h1,h2⟩:=pZ (oT hk l hl)
  simp only [gB,av.go_eq] at h2
  exact ⟨y,h1,hQ _ _ _ _ _ h2⟩
end
end Go.AM
end
section
namespace Go.AM
@[reducible] def bs (l:List Nat):ByteArray:=⟨(l.map UInt8.ofNat).toArray⟩
def yG (t : Ty) (x : t.den) : List t.den → List t.den
 |[]=>[x]
 |y::r=>if fE t x y=true then x::y::r else y::yG t x r
def o9 (t:Ty) (xs:List t.den):List t.den:=xs.foldr (yG t) []
noncomputable def vN (t:Ty) (b:List t.den) (n:Nat):Option (List t.den×Unit):=if n<=b.length/\n<bp then some (o9 t (b.take n)++b.drop n,()) else none
theorem vm (s:ByteArray):(fH s).length=s.size:=by simp [fH]
section
variable {P:Program}
noncomputable def EI (P:Program) (cx:Cx) (f:Nat) (fn:Fn) (d:(b:Nat)->D P fn.N none b):Cx where
 pc:=cx.pc
 ca kz g vs nx bl K:=match an (Nat.beq g f) (Nat.ble vs.length fn.np) with
  |true=>T4 vs fun vs=>kE kz cx eu (d nx) (args 0 vs) nx bl [] (A9 kz fn.res fn.tys K)
  |false=>cx.ca kz g vs nx bl K
 rd:=cx.rd
theorem qd (mixed : P.follows .mixedOrders = true) {cx : Cx} (gN : cx.Ok P) {f : Nat} {func : Func} {fn : Fn} (hf : P.funcs[f]? = some func) (htr : cw P func = some fn) (cF : Enters P f)
  {d:(b:Nat)->D P fn.N none b} (hd:∀b,(d b).er=fn.body):(EI P cx f fn d).Ok P where
 XD hk:=gN.XD hk
 TW:=by
  intro X g vs nx bl K r hk Q hQ
  simp only [EI] at hk
  split at hk
  ·rename_i h
   rw [aV] at h
   have e:=Nat.eq_of_beq_eq_true h.1
   subst e
   rw [nP] at hk
   refine kQ hf htr cF (iQ mixed) (Nat.le_of_ble_eq_true h.2) ?_
   rw [<-hd nx]
   refine lS gN hk fun e env nx bl ms hk=>?_
   exact yB hk fun v nx bl hk=>hQ v nx bl hk
  ·exact gN.TW hk hQ
 ZT hk:=gN.ZT hk
noncomputable def Bc (P:Program) (cx:Cx) (f:Nat) (fn:Fn) (b:Nat) (d:D P fn.N none b):Cx where
 pc:=cx.pc
 ca kz g vs nx bl K:=match an (Nat.beq g f) (an (Nat.ble vs.length fn.np) (Nat.beq nx b)) with
  |true=>T4 vs fun vs=>kE kz cx eu d (args 0 vs) b bl [] (A9 kz fn.res fn.tys K)
  |false=>cx.ca kz g vs nx bl K
 rd:=cx.rd
theorem sK (mixed : P.follows .mixedOrders = true) {cx : Cx} (gN : cx.Ok P) {f : Nat} {func : Func} {fn : Fn} (hf : P.funcs[f]? = some func) (htr : cw P func = some fn) (cF : Enters P f)
  {b:Nat} {d:D P fn.N none b} (hd:d.er=fn.body):(Bc P cx f fn b d).Ok P where
 XD hk:=gN.XD hk
 TW:=by
  intro X g vs nx bl K r hk Q hQ
  simp only [Bc] at hk
  split at hk
  ·rename_i h
   rw [aV,aV] at h
   have e:=Nat.eq_of_beq_eq_true h.1
   have e2:=Nat.eq_of_beq_eq_true h.2.2
   subst e;subst e2
   rw [nP] at hk
   refine kQ hf htr cF (iQ mixed) (Nat.le_of_ble_eq_true h.2.1) ?_
   rw [<-hd]
   refine lS gN hk fun e env nx bl ms hk=>?_
   exact yB hk fun v nx bl hk=>hQ v nx bl hk
  ·exact gN.TW hk hQ
 ZT hk:=gN.ZT hk
end
section
variable {P:Program} {N:Nat} {out:Option Nat} {base:Nat}
noncomputable def sL (mixed : P.follows .mixedOrders = true) (cx : Cx) (gN : cx.Ok P) (pre : List Nat) (hpre : pre = List.range base) (p : av) (xs : aU) (f : O) (ps : List Nat) (hps : ps.all (Nat.blt · N) = true) (as bd : C)
  (fid:Nat) {func:Func} {fn:Fn} (hf:P.funcs[fid]?=some func) (htr:cw P func=some fn) (cF:Enters P fid) (dy:Nat) (iS:dy=base+p.ig.length+(match out with|none=>2|some _=>1))
  (NC:D P fn.N none dy) (hit:NC.er=fn.body):gM P N out base where
 f:=f
 ps:=ps
 a:=as
 b:=bd
 run kz env nx bl ms K:=p.rd kz.no pre base env nx bl ms fun x=>yw (N:=N) (out:=out) (base:=base) kz cx eu pre p xs f ps as bd fn.res fn.np fid NC (fun b=>xs.go kz base b K) x
 ok:=by
  intro X env nx bl ms K r h Q hQ
  subst hpre
  obtain ⟨x,π,h3,h2⟩:=av.dR h
  unfold yw at h3
  rw [gB,av.go_eq] at h3
  intro fo Du ao bo q1 q2 q3 q4
  refine JD (Ev ?_) h2
  refine ve (K:=fun e S'=>∃Cv π,jE base π S' Cv/\Q e Cv) ?_ fo Du ao bo q1 q2 q3 q4
  refine ⟨hps,?_⟩
  cases nt:f.ev (p.E x) with
  |fn Px first cap=>?_
  |_=>rw [nt] at h3;cases h3
  have Z4:f.ev (p.st base x).env = .fn Px first cap:=nt
  rw [Z4]
  rw [nt] at h3
  simp only at h3 ⊢
  split at h3<;>try (cases h3;done)
  rename_i hc
  rw [aV] at hc
  have e1:=Nat.eq_of_beq_eq_true hc.1
  have e2:=Nat.le_of_ble_eq_true hc.2
  subst e1
  have hlen:∀v:V,(first++[v]++cap).length<=fn.np:=fun v=>by simpa using e2
  have hout:∀e env nx bl ms,xs.rd none (List.range base) base e env nx bl ms (fun b=>xs.go (iK X) base b K)=some r->∃Cv π,jE base π ⟨env,⟨nx,bl⟩,ms⟩ Cv/\Q e Cv:=fun e env nx bl ms hk=>by
   obtain ⟨y,π,r1,r2,r3⟩:=aU.dR hk
   have h5:=aU.A2 r1
   have hq:=hQ _ _ _ _ _ h5
   exact ⟨_,π,r3,by rw [r2];exact hq⟩
  cases out with
  |none =>
   simp only at h3 iS ⊢
   split at h3
   ·cases h3
   rename_i Lg
   rw [nP] at h3
   refine ⟨Lg,?_⟩
   subst iS
   refine kQ hf htr cF (iQ mixed) (hlen _) ?_
   rw [<-hit]
   refine lS gN h3 fun e env nx bl ms hk=>?_
   exact sG hk fun v nx bl hk => wu (S := p.st base x) (by
    have e:(p.st base x).ms=[]:=Lg
    rw [e];exact hk) hout
  |some Xu =>
   simp only at h3 iS ⊢
   split at h3<;>try (cases h3;done)
   rename_i hb
   rw [nP] at h3
   have hb':ay Xu (p.st base x).H.bl=_:=hb
   simp only [av.st] at hb' ⊢
   rw [hb']
   simp only
   subst iS
   refine kQ hf htr cF (iQ mixed) (hlen _) ?_
   rw [<-hit]
   refine lS gN h3 fun e env nx bl ms hk=>?_
   exact sG hk fun v nx bl hk=>wu (S:=p.st base x) hk hout
end
end Go.AM
end
