/- What is read by a pattern stands for what was there. -/
import Derived.Test.YtigglifniejbpaaAM30
set_option linter.unusedVariables false
set_option linter.unusedSimpArgs false
namespace Go.AM
section
variable {π : List Nat}

theorem pget_eq : ∀ (π : List Nat) (b : Nat), pget π b = π[b]?
  | [], _ => by simp [pget]
  | i :: r, 0 => by simp [pget]
  | i :: r, n + 1 => by simp [pget, pget_eq r n]

theorem isAt_eq {b i : Nat} (h : isAt π b i = true) : π[b]? = some i := by
  unfold isAt at h
  split at h
  · rename_i j e; rw [← pget_eq, e, Nat.eq_of_beq_eq_true h]
  · cases h

theorem EVL.append {as bs cs ds : List V} (h : EVL π as bs) (h' : EVL π cs ds) : EVL π (as ++ cs) (bs ++ ds) := by
  induction as generalizing bs with
  | nil =>
    have : bs = [] := List.eq_nil_of_length_eq_zero h.1.symm
    subst this; simpa using h'
  | cons a as ih =>
    cases bs with
    | nil => exact absurd h.1 (by simp)
    | cons b bs => exact .cons (h.2 0 a b rfl rfl) (ih ⟨by have := h.1; simpa using this, fun i v u hv hu => h.2 (i + 1) v u (by simpa using hv) (by simpa using hu)⟩)

theorem castL_eq {t t' : Ty} {xs : List t.den} {ys : List t'.den} (h : castL t t' xs = some ys) : V.lst t' ys = V.lst t xs := by
  obtain ⟨e, he⟩ := castL_some h
  subst e; subst he; rfl

theorem ofVs_ev {ar : Ar} : ∀ {t : Ty} {vs : List V} {x : t.den} {u : Upd} {r : List V}, ofVs ar [] t vs = some (x, u, r) → ∃ us, vs = us ++ r ∧ EVL π (toVs t x) us
  | .unit, vs, x, u, r, h => by
    simp [ofVs] at h; obtain ⟨_, _, rfl⟩ := h; exact ⟨[], rfl, .nil⟩
  | .bool, vs, x, u, r, h => by
    rcases vs with _ | ⟨v, r'⟩
    · simp [ofVs] at h
    · cases v <;> simp [ofVs] at h
      · obtain ⟨rfl, _, rfl⟩ := h; exact ⟨[_], rfl, .cons (.tfb _) .nil⟩
      · obtain ⟨rfl, _, rfl⟩ := h; exact ⟨[_], rfl, .cons (.bool _) .nil⟩
  | .str, vs, x, u, r, h => by
    rcases vs with _ | ⟨v, r'⟩
    · simp [ofVs] at h
    · cases v <;> simp [ofVs] at h
      obtain ⟨rfl, _, rfl⟩ := h; exact ⟨[_], rfl, .cons (.str _) .nil⟩
  | .int k, vs, x, u, r, h => by
    rcases vs with _ | ⟨v, r'⟩
    · simp [ofVs] at h
    · cases v <;> simp [ofVs] at h
      obtain ⟨rfl, rfl, _, rfl⟩ := h; exact ⟨[_], rfl, .cons (.int _ _) .nil⟩
  | .list t, vs, x, u, r, h => by
    rcases vs with _ | ⟨v, r'⟩
    · simp [ofVs] at h
    · cases v <;> simp only [ofVs] at h <;> try (cases h; done)
      · split at h <;> try (cases h; done)
        rename_i hc
        cases h
        exact ⟨[_], rfl, .cons (by rw [castL_eq hc]; exact .lst _ _) .nil⟩
      · cases h; exact ⟨[.nsl], rfl, .cons (.lnil _) .nil⟩
  | .prod a b, vs, x, u, r, h => by
    simp only [ofVs] at h
    split at h <;> try (cases h; done)
    rename_i x1 u1 r1 h1
    split at h <;> try (cases h; done)
    rename_i y1 u2 r2 h2
    cases h
    obtain ⟨us, rfl, e1⟩ := ofVs_ev h1
    obtain ⟨us2, rfl, e2⟩ := ofVs_ev h2
    exact ⟨us ++ us2, by simp, e1.append e2⟩

theorem tyRd_ev : ∀ {t : Ty} {v : V} {x : t.den}, tyRd t v = some x → EV π (tyV t x) v
  | .unit, v, x, h => by simp [tyRd] at h
  | .bool, v, x, h => by
    cases v <;> simp [tyRd] at h
    · subst h; exact .tfb _
    · subst h; exact .bool _
  | .str, v, x, h => by
    cases v <;> simp [tyRd] at h
    subst h; exact .str _
  | .int k, v, x, h => by
    cases v <;> simp only [tyRd] at h <;> try (cases h; done)
    split at h <;> try (cases h; done)
    rename_i hk
    cases h
    have := of_decide_eq_true hk
    subst this; exact .int _ _
  | .list t, v, x, h => by
    cases v <;> simp only [tyRd] at h <;> try (cases h; done)
    · show EV π (.lst t x) _
      rw [castL_eq h]; exact .lst _ _
    · cases h; exact .lnil _
  | .prod a b, v, x, h => by
    cases v <;> simp only [tyRd] at h <;> try (cases h; done)
    split at h <;> try (cases h; done)
    rename_i hc
    cases h
    obtain ⟨us, e, hev⟩ := ofVs_ev (π := π) hc
    rw [List.append_nil] at e
    subst e
    exact .agg _ _ hev.1 hev.2

variable {A : Type}

theorem CP.rd1_ev {c : CP} {v : V} {f : A → c.T A} (h : c.rd1 π v = some f) (a : A) : EVL π (c.vs (f a)) [v] ∧ c.r (f a) = a := by
  cases c <;> simp only [CP.rd1] at h
  case any => cases h; exact ⟨.cons (.any _) .nil, rfl⟩
  case tf b =>
    split at h <;> try (cases h; done)
    split at h <;> try (cases h; done)
    rename_i hb
    cases h
    rw [← beqB_eq hb]
    exact ⟨.cons (.tf _) .nil, rfl⟩
  case nilp => split at h <;> cases h; exact ⟨.cons (.nilp) .nil, rfl⟩
  case nilfn => split at h <;> cases h; exact ⟨.cons (.nilfn) .nil, rfl⟩
  case nili => split at h <;> cases h; exact ⟨.cons (.nili) .nil, rfl⟩
  case nsl => split at h <;> cases h; exact ⟨.cons (.nsl) .nil, rfl⟩
  case hole t =>
    split at h <;> cases h
    rename_i hx
    exact ⟨.cons (tyRd_ev hx) .nil, rfl⟩
  case sl0 b t =>
    split at h <;> try (cases h; done)
    · rename_i i t' lo n
      split at h <;> try (cases h; done)
      rename_i h1
      split at h <;> try (cases h; done)
      rename_i h2
      split at h <;> try (cases h; done)
      rename_i h3
      cases h
      have e := Nat.eq_of_beq_eq_true h3
      rw [tyEq_eq h2, e]
      exact ⟨.cons (.sl _ _ _ _ _ (isAt_eq h1)) .nil, rfl⟩
    · cases h; exact ⟨.cons (.snil _ _ _) .nil, rfl⟩
  case slx b t =>
    split at h <;> try (cases h; done)
    · rename_i i t' lo n
      split at h <;> try (cases h; done)
      rename_i h1
      split at h <;> try (cases h; done)
      rename_i h2
      cases h
      rw [tyEq_eq h2]
      exact ⟨.cons (.sl _ _ _ _ _ (isAt_eq h1)) .nil, rfl⟩
    · cases h; exact ⟨.cons (.snil _ _ _) .nil, rfl⟩
  case ptr b off =>
    split at h <;> try (cases h; done)
    split at h <;> try (cases h; done)
    rename_i h1
    split at h <;> try (cases h; done)
    rename_i h2
    cases h
    rw [Nat.eq_of_beq_eq_true h2]
    exact ⟨.cons (.ptr _ _ _ (isAt_eq h1)) .nil, rfl⟩
  case yl b =>
    split at h <;> try (cases h; done)
    split at h <;> try (cases h; done)
    rename_i h1
    cases h
    exact ⟨.cons (.yl _ _ (isAt_eq h1)) .nil, rfl⟩
  case ipc t =>
    split at h <;> try (cases h; done)
    split at h <;> try (cases h; done)
    rename_i hc
    cases h
    obtain ⟨us, e, hev⟩ := ofVs_ev (π := π) hc
    rw [List.append_nil] at e
    subst e
    exact ⟨.cons (.ipc _ _ hev.1 hev.2) .nil, rfl⟩
  case fn0 f' =>
    split at h <;> try (cases h; done)
    split at h <;> try (cases h; done)
    rename_i h1
    cases h
    rw [Nat.eq_of_beq_eq_true h1]
    exact ⟨.cons (.fn _ _ _ _ _ rfl (fun i v u hv => by simp at hv) rfl (fun i v u hv => by simp at hv)) .nil, rfl⟩
  case ipcs => cases h
  case fn => cases h
  case nil => cases h
  case cons => cases h

theorem CP.rds_ev : ∀ {c : CP} {A : Type} {vs r : List V} {f : A → c.T A}, c.rds π vs = some (f, r) → ∃ us, vs = us ++ r ∧ ∀ a, EVL π (c.vs (f a)) us ∧ c.r (f a) = a := by
  intro c
  induction c with
  | nil => intro A vs r f h; simp only [CP.rds] at h; cases h; exact ⟨[], rfl, fun a => ⟨.nil, rfl⟩⟩
  | cons c l ihc ihl =>
    intro A vs r f h
    simp only [CP.rds] at h
    split at h <;> try (cases h; done)
    rename_i f1 vs' h1
    split at h <;> try (cases h; done)
    rename_i g vs'' h2
    cases h
    obtain ⟨us, rfl, e1⟩ := ihc h1
    obtain ⟨us2, rfl, e2⟩ := ihl h2
    refine ⟨us ++ us2, by simp, fun a => ?_⟩
    obtain ⟨q1, q2⟩ := e1 (g a)
    obtain ⟨q3, q4⟩ := e2 a
    simp only [CP.vs, CP.r, q2]
    exact ⟨q1.append q3, q4⟩
  | ipcs l ih =>
    intro A vs r f h
    simp only [CP.rds] at h
    split at h <;> try (cases h; done)
    rename_i cs r'
    split at h <;> try (cases h; done)
    rename_i f1 h1
    cases h
    obtain ⟨us, e, e1⟩ := ih h1
    rw [List.append_nil] at e
    subst e
    refine ⟨[.ipc cs], rfl, fun a => ?_⟩
    obtain ⟨q1, q2⟩ := e1 a
    exact ⟨.cons (.ipc _ _ q1.1 q1.2) .nil, q2⟩
  | fn f0 a b iha ihb =>
    intro A vs r f h
    simp only [CP.rds] at h
    split at h <;> try (cases h; done)
    rename_i f' va vb r'
    split at h <;> try (cases h; done)
    rename_i hf
    split at h <;> try (cases h; done)
    rename_i g hg
    split at h <;> try (cases h; done)
    rename_i k hk
    cases h
    obtain ⟨us, e, e1⟩ := iha hg
    rw [List.append_nil] at e
    subst e
    obtain ⟨us2, e', e2⟩ := ihb hk
    rw [List.append_nil] at e'
    subst e'
    have e0 := Nat.eq_of_beq_eq_true hf
    subst e0
    refine ⟨[.fn f' va vb], rfl, fun x => ?_⟩
    obtain ⟨q1, q2⟩ := e1 (k x)
    obtain ⟨q3, q4⟩ := e2 x
    simp only [CP.vs, CP.r, q2]
    exact ⟨.cons (.fn _ _ _ _ _ q1.1 q1.2 q3.1 q3.2) .nil, q4⟩
  | _ =>
    intro A vs r f h
    simp only [CP.rds] at h
    split at h <;> try (cases h; done)
    rename_i v r'
    split at h <;> try (cases h; done)
    rename_i f1 h1
    cases h
    exact ⟨[v], rfl, fun a => CP.rd1_ev h1 a⟩

theorem CP.rd_ev {c : CP} {v : V} {f : A → c.T A} (h : c.rd π v = some f) (a : A) : EV π (c.v (f a)) v ∧ c.r (f a) = a := by
  unfold CP.rd at h
  split at h <;> try (cases h; done)
  rename_i f1 h1
  cases h
  obtain ⟨us, e, e1⟩ := CP.rds_ev h1
  rw [List.append_nil] at e
  subst e
  obtain ⟨q1, q2⟩ := e1 a
  refine ⟨?_, q2⟩
  unfold CP.v
  have hl := q1.1
  cases hc : c.vs (f a) with
  | nil => rw [hc] at hl; simp at hl
  | cons u r => exact q1.2 0 u v (by rw [hc]; rfl) rfl

theorem cpsRd_ev : ∀ {cs : List CP} {vs : List V} {f : A → cpsT cs A}, cpsRd π cs vs = some f → ∀ a, EVL π (cpsV cs (f a)) vs ∧ cpsR cs (f a) = a
  | [], [], f, h, a => by cases h; exact ⟨.nil, rfl⟩
  | c :: r, v :: vs, f, h, a => by
    simp only [cpsRd] at h
    split at h <;> try (cases h; done)
    rename_i f1 h1
    split at h <;> cases h
    rename_i g h2
    obtain ⟨q1, q2⟩ := CP.rd_ev h1 (g a)
    obtain ⟨q3, q4⟩ := cpsRd_ev h2 a
    simp only [cpsV, cpsR, q2]
    exact ⟨.cons q1 q3, q4⟩
  | [], _ :: _, f, h, a => by simp [cpsRd] at h
  | _ :: _, [], f, h, a => by simp [cpsRd] at h

theorem SP.rd_ev : ∀ {p : SP} {v : V} {f : A → p.T A}, p.rd π v = some f → ∀ (a : A), EV π (p.v (f a)) v ∧ p.r (f a) = a
  | .c q, v, f, h, a => CP.rd_ev (c := q) h a
  | .agg cs, v, f, h, a => by
    cases v <;> try (cases h; done)
    rename_i vs
    have h' : cpsRd π cs vs = some f := h
    obtain ⟨h1, h2⟩ := cpsRd_ev h' a
    exact ⟨.agg _ _ h1.1 h1.2, h2⟩
  | .tup cs, v, f, h, a => by
    cases v <;> try (cases h; done)
    rename_i vs
    have h' : cpsRd π cs vs = some f := h
    obtain ⟨h1, h2⟩ := cpsRd_ev h' a
    exact ⟨.tup _ _ h1.1 h1.2, h2⟩
  | .fn f' x y, v, f, h, a => by
    cases v with
    | fn f2 va vb =>
      have h' : (match Nat.beq f2 f' with
        | true => match cpsRd (A := cpsT y A) π x va with
          | some g => match cpsRd (A := A) π y vb with
            | some h => some fun z => g (h z)
            | none => none
          | none => none
        | false => none) = some f := h
      clear h
      cases hf : Nat.beq f2 f' with
      | false => rw [hf] at h'; cases h'
      | true =>
        rw [hf] at h'
        simp only at h'
        cases hg : cpsRd (A := cpsT y A) π x va with
        | none => rw [hg] at h'; cases h'
        | some g =>
          rw [hg] at h'
          simp only at h'
          cases hk : cpsRd (A := A) π y vb with
          | none => rw [hk] at h'; cases h'
          | some k =>
            rw [hk] at h'
            have h2 : (fun z => g (k z)) = f := Option.some.inj h'
            obtain ⟨q1, q2⟩ := cpsRd_ev hg (k a)
            obtain ⟨q3, q4⟩ := cpsRd_ev hk a
            have e := Nat.eq_of_beq_eq_true hf
            subst e
            have e2 : SP.v (A := A) (.fn f2 x y) (g (k a)) = .fn f2 (cpsV x (g (k a))) (cpsV y (k a)) := by
              show V.fn f2 _ (cpsV y (cpsR x (g (k a)))) = _
              rw [q2]
            have e3 : SP.r (A := A) (.fn f2 x y) (g (k a)) = a := by
              show cpsR y (cpsR x (g (k a))) = a
              rw [q2, q4]
            have e4 : f a = g (k a) := by rw [← h2]
            rw [e4]
            exact ⟨by rw [e2]; exact .fn _ _ _ _ _ q1.1 q1.2 q3.1 q3.2, e3⟩
    | _ => cases h

theorem envRd_ev {env : Env} : ∀ {ps : List (Nat × SP)} {f : A → envT ps A}, envRd π env ps = some f → ∀ a, EE π (envV ps (f a)) env ∧ envR ps (f a) = a
  | [], f, h, a => by cases h; exact ⟨fun p hp => by simp [envV] at hp, rfl⟩
  | (s, p) :: r, f, h, a => by
    simp only [envRd] at h
    split at h <;> try (cases h; done)
    rename_i f1 h1
    split at h <;> cases h
    rename_i g h2
    obtain ⟨q1, q2⟩ := SP.rd_ev h1 (g a)
    obtain ⟨q3, q4⟩ := envRd_ev h2 a
    simp only [envV, envR, q2]
    refine ⟨fun x hx => ?_, q4⟩
    rcases List.mem_cons.1 hx with rfl | hx
    · exact q1
    · exact q3 x hx

/-! Blocks. -/

def beqLS : LState → LState → Bool
  | .ready, .ready => true
  | .busy, .busy => true
  | .done, .done => true
  | .exhausted, .exhausted => true
  | _, _ => false
theorem beqLS_eq {a b : LState} (h : beqLS a b = true) : a = b := by cases a <;> cases b <;> simp_all [beqLS]

def beqJ : Option Ex → Option Ex → Bool
  | none, none => true
  | some .normal, some .normal => true
  | some (.exit a), some (.exit b) => Nat.beq a b
  | some .ret, some .ret => true
  | _, _ => false
theorem beqJ_eq {a b : Option Ex} (h : beqJ a b = true) : a = b := by
  rcases a with _ | (_ | _ | _) <;> rcases b with _ | (_ | _ | _) <;> simp only [beqJ, Bool.false_eq_true] at h <;> try rfl
  rw [Nat.eq_of_beq_eq_true h]

def BP.rd (π : List Nat) (nx : Nat) (bl : Blks) (id : Nat) (p : BP) : Option (A → p.T A) :=
  match pget π id with
  | none => none
  | some i => match p with
    | .arr t fz => match bget i bl with
      | some (.arr t' xs fz') => match castL t' t xs with
        | some ys => match beqB fz' fz with
          | true => some fun a => (ys, a)
          | false => none
        | none => none
      | none => match Nat.ble nx i with
        | true => some fun a => (([] : List t.den), a)
        | false => none
      | _ => none
    | .cells cs fz => match bget i bl with
      | some (.cells vs fz') => match beqB fz' fz with
        | true => cpsRd π cs vs
        | false => none
      | _ => none
    | .loop st j d env ps as bd N => match bget i bl with
      | some (.loop st' j' d' env' ps' as' bd' N') => match an (beqLS st' st) (an (beqJ j' j) <| an (isAt π d d') (an (beqNs ps' ps) (an (Nat.beq N' N) (an (beqC as' as) (beqC bd' bd))))) with
        | true => envRd π env' env
        | false => none
      | _ => none
    | .dfr => match bget i bl with
      | some .dfr => some fun a => a
      | _ => none

theorem BP.rd_ev {nx : Nat} {bl : Blks} {id : Nat} {p : BP} {f : A → p.T A} (h : p.rd π nx bl id = some f) (a : A) : EBk π nx bl id (p.v (f a)) ∧ p.r (f a) = a := by
  unfold BP.rd at h
  split at h
  · cases h
  · rename_i i hi
    rw [pget_eq] at hi
    cases p <;> simp only at h
    case arr t fz =>
      split at h
      · rename_i t' xs fz' hb
        split at h <;> try (cases h; done)
        rename_i ys hc
        split at h <;> cases h
        rename_i hfz
        refine ⟨⟨i, hi, .inl ?_⟩, rfl⟩
        obtain ⟨e, he⟩ := castL_some hc
        subst e; subst he
        rw [hb, beqB_eq hfz]
      · rename_i hb
        split at h <;> cases h
        rename_i hle
        exact ⟨⟨i, hi, .inr ⟨rfl, Nat.le_of_ble_eq_true hle⟩⟩, rfl⟩
      · cases h
    case cells cs fz =>
      split at h <;> try (cases h; done)
      rename_i vs fz' hb
      split at h <;> try (cases h; done)
      rename_i hfz
      obtain ⟨h1, h2⟩ := cpsRd_ev h a
      refine ⟨⟨i, hi, vs, ?_, h1⟩, h2⟩
      rw [hb, beqB_eq hfz]
    case loop st j d env ps as bd N =>
      split at h <;> try (cases h; done)
      rename_i st' j' d' env' ps' as' bd' N' hb
      split at h <;> try (cases h; done)
      rename_i hc
      simp only [an_iff] at hc
      obtain ⟨c1, cj, c2, c3, c4, c5, c6⟩ := hc
      obtain ⟨h1, h2⟩ := envRd_ev h a
      refine ⟨⟨i, hi, d', env', ?_, isAt_eq c2, h1⟩, h2⟩
      rw [hb, beqLS_eq c1, beqJ_eq cj, beqNs_eq c3, Nat.eq_of_beq_eq_true c4, beqC_eq c5, beqC_eq c6]
    case dfr =>
      split at h <;> cases h
      rename_i hb
      exact ⟨⟨i, hi, hb⟩, rfl⟩

def blRd (π : List Nat) (nx : Nat) (bl : Blks) : (ps : List (Nat × BP)) → Option (A → blT ps A)
  | [] => some fun a => a
  | (id, p) :: r => match BP.rd (A := blT r A) π nx bl id p with
    | some f => match blRd π nx bl r with
      | some g => some fun a => f (g a)
      | none => none
    | none => none

theorem blRd_ev {nx : Nat} {bl : Blks} : ∀ {ps : List (Nat × BP)} {f : A → blT ps A}, blRd π nx bl ps = some f → ∀ a, (∀ p ∈ blV ps (f a), EBk π nx bl p.1 p.2) ∧ (blV ps (f a)).map (·.1) = ps.map (·.1)
  | [], f, h, a => by cases h; exact ⟨fun p hp => by simp [blV] at hp, rfl⟩
  | (s, p) :: r, f, h, a => by
    simp only [blRd] at h
    split at h <;> try (cases h; done)
    rename_i f1 h1
    split at h <;> cases h
    rename_i g h2
    obtain ⟨q1, q2⟩ := BP.rd_ev h1 (g a)
    obtain ⟨q3, q4⟩ := blRd_ev h2 a
    simp only [blV, q2]
    refine ⟨fun x hx => ?_, by simp [q4]⟩
    rcases List.mem_cons.1 hx with rfl | hx
    · exact q1
    · exact q3 x hx

/-- The old name behind a value; of a nil slice a name that none has. -/
def idOf (nx b : Nat) : V → Option Nat
  | .sl i _ _ _ => some i
  | .ptr i _ => some i
  | .yl i => some i
  | .ep i _ _ _ => some i
  | .nsl => some (nx + b)
  | _ => none

def vnth : List V → Nat → Option V
  | [], _ => none
  | v :: _, 0 => some v
  | _ :: r, n + 1 => vnth r n

def locate (π : List Nat) (env : Env) (nx : Nat) (bl : Blks) (ms : List Nat) (b : Nat) : Lc → Option Nat
  | .slot s => idOf nx b (get s env)
  | .part s k => match get s env with
    | .agg cs => match vnth cs k with
      | some v => idOf nx b v
      | none => none
    | .fn _ a c => match vnth (a ++ c) k with
      | some v => idOf nx b v
      | none => none
    | _ => none
  | .cell b' k => match pget π b' with
    | some i => match bget i bl with
      | some (.cells cs _) => match vnth cs k with
        | some v => idOf nx b v
        | none => none
      | _ => none
    | none => none
  | .old i => some i
  | .mark j => pget ms j

def snoc {R : Type} : List Nat → Nat → (List Nat → R) → R
  | [], i, k => k [i]
  | j :: r, i, k => snoc r i fun r' => k (j :: r')

theorem snoc_eq {R : Type} : ∀ (l : List Nat) (i : Nat) (k : List Nat → R), snoc l i k = k (l ++ [i])
  | [], _, _ => rfl
  | j :: r, i, k => by simp only [snoc, snoc_eq r]; rfl

def bldPi {R : Type} (no : R) (env : Env) (nx : Nat) (bl : Blks) (ms : List Nat) : List Lc → List Nat → Nat → (List Nat → R) → R
  | [], π, _, k => k π
  | l :: r, π, b, k => match locate π env nx bl ms b l with
    | some i => fN i fun i => snoc π i fun π => fN (b + 1) fun b => bldPi no env nx bl ms r π b k
    | none => no

theorem bldPi_some {X : Type} {no : Option X} {env : Env} {nx : Nat} {bl : Blks} {ms : List Nat} : ∀ {ls : List Lc} {π : List Nat} {b : Nat} {k : List Nat → Option X} {x : X}, bldPi no env nx bl ms ls π b k = some x →
    no = some x ∨ ∃ r, r.length = ls.length ∧ k (π ++ r) = some x
  | [], π, b, k, x, h => .inr ⟨[], rfl, by simpa [bldPi] using h⟩
  | l :: ls, π, b, k, x, h => by
    simp only [bldPi] at h
    split at h
    · rename_i i hi
      rw [fN_eq, snoc_eq, fN_eq] at h
      rcases bldPi_some h with h | ⟨r, h1, h2⟩
      · exact .inl h
      · exact .inr ⟨i :: r, by simp [h1], by simpa using h2⟩
    · exact .inl h

def diffI (π : List Nat) (a b : Nat) : Bool := match pget π a with
  | some i => match pget π b with
    | some j => match Nat.beq i j with
      | true => false
      | false => true
    | none => false
  | none => false

def apart1 (π : List Nat) (a : Nat) : List (Nat × BP) → Bool
  | [] => true
  | (b, _) :: r => match diffI π a b with
    | true => apart1 π a r
    | false => false

def apartB (π : List Nat) : List (Nat × BP) → Bool
  | [] => true
  | (a, _) :: r => match apart1 π a r with
    | true => apartB π r
    | false => false

theorem diffI_ne {a b : Nat} (h : diffI π a b = true) : π[a]? ≠ π[b]? := by
  unfold diffI at h
  split at h <;> try (cases h; done)
  rename_i i hi
  split at h <;> try (cases h; done)
  rename_i j hj
  split at h <;> try (cases h; done)
  rename_i hij
  rw [← pget_eq, ← pget_eq, hi, hj]
  intro e; cases e
  rw [Nat.beq_refl] at hij; cases hij

theorem apart1_ne {a : Nat} : ∀ {r : List (Nat × BP)}, apart1 π a r = true → ∀ b ∈ r.map (·.1), π[a]? ≠ π[b]?
  | [], _, b, hb => by simp at hb
  | (c, _) :: r, h, b, hb => by
    simp only [apart1] at h
    split at h <;> try (cases h; done)
    rename_i hd
    simp only [List.map_cons, List.mem_cons] at hb
    rcases hb with rfl | hb
    · exact diffI_ne hd
    · exact apart1_ne h b hb

theorem apartB_inj : ∀ {r : List (Nat × BP)}, apartB π r = true → ∀ a ∈ r.map (·.1), ∀ b ∈ r.map (·.1), π[a]? = π[b]? → a = b
  | [], _, a, ha => by simp at ha
  | (c, _) :: r, h, a, ha => by
    simp only [apartB] at h
    split at h <;> try (cases h; done)
    rename_i hd
    intro b hb e
    simp only [List.map_cons, List.mem_cons] at ha hb
    rcases ha with rfl | ha <;> rcases hb with rfl | hb
    · rfl
    · exact absurd e (apart1_ne hd b hb)
    · exact absurd e.symm (apart1_ne hd a ha)
    · exact apartB_inj h a ha b hb e

def msOk (π : List Nat) : List Nat → List Nat → Bool
  | [], [] => true
  | a :: r, i :: s => match isAt π a i with
    | true => msOk π r s
    | false => false
  | _, _ => false

theorem msOk_eq : ∀ {ps ms : List Nat}, msOk π ps ms = true → ps.map (fun i => π[i]?) = ms.map some
  | [], [], _ => rfl
  | a :: r, i :: s, h => by
    simp only [msOk] at h
    split at h <;> try (cases h; done)
    rename_i ha
    simp [isAt_eq ha, msOk_eq h]
  | [], _ :: _, h => by simp [msOk] at h
  | _ :: _, [], h => by simp [msOk] at h

/-- A state read by a pattern. -/
def Pat.rd {R : Type} (no : R) (pre : List Nat) (base : Nat) (p : Pat) (env : Env) (nx : Nat) (bl : Blks) (ms : List Nat) (k : p.T → R) : R :=
  bldPi no env nx bl ms p.locs pre base fun π => match an (msOk π p.ms ms) (apartB π p.bl) with
    | true => match envRd (A := blT p.bl Unit) π env p.env with
      | some f => match blRd (A := Unit) π nx bl p.bl with
        | some g => k (f (g ()))
        | none => no
      | none => no
    | false => no

theorem Pat.rd_ent' {X : Type} {no : Option X} {base : Nat} {p : Pat} {env : Env} {nx : Nat} {bl : Blks} {ms : List Nat} {k : p.T → Option X} {r : X} (h : p.rd no (List.range base) base env nx bl ms k = some r) :
    no = some r ∨ ∃ x π, k x = some r ∧ Ent2 base π ⟨env, ⟨nx, bl⟩, ms⟩ (p.st base x) := by
  rcases bldPi_some h with h | ⟨rr, hlen, h⟩
  · exact .inl h
  split at h
  · rename_i hc
    rw [an_iff] at hc
    split at h
    · rename_i f hf
      split at h
      · rename_i g hg
        obtain ⟨h1, h2⟩ := envRd_ev hf (g ())
        obtain ⟨h3, h4⟩ := blRd_ev hg ()
        refine .inr ⟨f (g ()), List.range base ++ rr, h, ?_⟩
        constructor
        · simp
        · simp [Pat.st, hlen]
        · exact msOk_eq hc.1
        · exact h1
        · simp only [Pat.st, Pat.B, h2]; exact h3
        · simp only [Pat.st, Pat.B, h2]
          intro q hq s hs e
          refine apartB_inj hc.2 q.1 ?_ s.1 ?_ e
          · rw [← h4]; exact List.mem_map_of_mem hq
          · rw [← h4]; exact List.mem_map_of_mem hs
      · exact .inl h
    · exact .inl h
  · exact .inl h

theorem Pat.rd_ent {X : Type} {base : Nat} {p : Pat} {env : Env} {nx : Nat} {bl : Blks} {ms : List Nat} {k : p.T → Option X} {r : X} (h : p.rd none (List.range base) base env nx bl ms k = some r) :
    ∃ x π, k x = some r ∧ Ent2 base π ⟨env, ⟨nx, bl⟩, ms⟩ (p.st base x) := by
  rcases Pat.rd_ent' h with h | h
  · cases h
  · exact h
end
end Go.AM
