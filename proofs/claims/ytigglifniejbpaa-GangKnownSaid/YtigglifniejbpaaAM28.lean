/- The small machine's code as a function: tests, needs and calls stay open, all else is reckoned. -/
import Derived.Test.YtigglifniejbpaaAM27
set_option linter.unusedVariables false
set_option linter.unusedSimpArgs false
namespace Go.AM

abbrev Env := List (Nat × V)

/-- What is done with a test, a need, a failure, and what a function or a loop comes to. -/
structure Kz (R : Type) where
  br : Bool → R → R → R
  nd : Bool → R → R
  no : R
  bd : {A : Type} → Option A → (A → R) → R
  sm : {A B : Type} → A ⊕ B → (A → R) → (B → R) → R

/-- Tests and needs that no evaluation looks into. -/
noncomputable def need {X : Type} (c : Bool) (x : Option X) : Option X := @ite _ (c = true) (Classical.propDecidable _) x none
noncomputable def brO {X : Type} (c : Bool) (x y : Option X) : Option X := @ite _ (c = true) (Classical.propDecidable _) x y
noncomputable def bindO {A X : Type} (o : Option A) (f : A → Option X) : Option X := @dite _ (∃ a, o = some a) (Classical.propDecidable _) (fun h => f h.choose) (fun _ => none)

@[reducible] noncomputable def kzO (X : Type) : Kz (Option X) where
  br c a b := brO c a b
  nd c a := need c a
  no := none
  bd o f := bindO o f
  sm s f g := match s with
    | .inl a => f a
    | .inr b => g b

theorem need_t {X : Type} {c : Bool} {x : Option X} (h : c = true) : need c x = x := by unfold need; rw [if_pos h]
@[simp] theorem need_true {X : Type} {x : Option X} : need true x = x := need_t rfl
@[simp] theorem need_false {X : Type} {x : Option X} : need false x = none := by unfold need; rw [if_neg (by simp)]
@[simp] theorem brO_true {X : Type} {x y : Option X} : brO true x y = x := by unfold brO; rw [if_pos rfl]
@[simp] theorem brO_false {X : Type} {x y : Option X} : brO false x y = y := by unfold brO; rw [if_neg (by simp)]
theorem brO_if {X : Type} {c : Bool} {x y : Option X} : brO c x y = if c = true then x else y := by cases c <;> simp
@[simp] theorem bindO_s {A X : Type} {a : A} {f : A → Option X} : bindO (some a) f = f a := by
  have h : ∃ b, some a = some b := ⟨a, rfl⟩
  unfold bindO; rw [dif_pos h]
  have := h.choose_spec
  rw [← Option.some.inj this]
@[simp] theorem bindO_n {A X : Type} {f : A → Option X} : bindO none f = none := by
  unfold bindO; rw [dif_neg]; rintro ⟨a, h⟩; cases h

theorem need_some {X : Type} {c : Bool} {x : Option X} {r : X} (h : need c x = some r) : c = true ∧ x = some r := by
  cases c <;> simp at h ⊢; exact h
theorem bindO_some {A X : Type} {o : Option A} {f : A → Option X} {r : X} (h : bindO o f = some r) : ∃ a, o = some a ∧ f a = some r := by
  cases o <;> simp at h ⊢; exact h
theorem bd_some {X A : Type} {o : Option A} {f : A → Option X} {r : X} (h : (kzO X).bd o f = some r) : ∃ a, o = some a ∧ f a = some r := bindO_some h
theorem cond_some {X : Type} {c : Bool} {x y : Option X} {r : X} (h : brO c x y = some r) : (c = true ∧ x = some r) ∨ (c = false ∧ y = some r) := by
  cases c <;> simp at h ⊢ <;> exact h

section
variable {R : Type}

def fV (v : V) (k : V → R) : R := match v with
  | .any => k .any
  | .tf b => match b with
    | true => k (.tf true)
    | false => k (.tf false)
  | .bool b => k (.bool b)
  | .int ik n => k (.int ik n)
  | .str s => k (.str s)
  | .nilp => k .nilp
  | .nilfn => k .nilfn
  | .nili => k .nili
  | .lst t xs => k (.lst t xs)
  | .nsl => k .nsl
  | .sl id t lo n => k (.sl id t lo n)
  | .ptr id off => k (.ptr id off)
  | .ipc cs => k (.ipc cs)
  | .ep id t i p => k (.ep id t i p)
  | .ip t x => k (.ip t x)
  | .fn f a b => k (.fn f a b)
  | .yl id => k (.yl id)
  | .agg cs => k (.agg cs)
  | .tup vs => k (.tup vs)
  | .ifc t v => k (.ifc t v)

theorem fV_eq (v : V) (k : V → R) : fV v k = k v := by
  cases v <;> try rfl
  rename_i b; cases b <;> rfl

def fN (n : Nat) (k : Nat → R) : R := match n with
  | 0 => k 0
  | n + 1 => k (n + 1)

theorem fN_eq (n : Nat) (k : Nat → R) : fN n k = k n := by cases n <;> rfl

def putK (d : Option Nat) (v : V) (env : Env) (k : Env → R) : R := match d with
  | some t => k ((t, v) :: env)
  | none => k env

theorem putK_eq (d : Option Nat) (v : V) (env : Env) (k : Env → R) : putK d v env k = k (put d v env) := by cases d <;> rfl

def bdelK (id : Nat) : Blks → (Blks → R) → R
  | [], k => k []
  | (s, b) :: r, k => match Nat.beq s id with
    | true => bdelK id r k
    | false => bdelK id r fun r' => k ((s, b) :: r')

theorem bdelK_eq (id : Nat) : ∀ (bl : Blks) (k : Blks → R), bdelK id bl k = k (bdel id bl)
  | [], k => rfl
  | (s, b) :: r, k => by
    simp only [bdelK, bdel]
    split <;> rename_i h <;> simp only [h] <;> exact bdelK_eq id r _

def bupdK : Upd → Blks → (Blks → R) → R
  | [], bl, k => k bl
  | (id, none) :: r, bl, k => bdelK id bl fun bl => bupdK r bl k
  | (id, some b) :: r, bl, k => bdelK id bl fun bl => bupdK r ((id, b) :: bl) k

theorem bupdK_eq : ∀ (u : Upd) (bl : Blks) (k : Blks → R), bupdK u bl k = k (bupd u bl)
  | [], _, _ => rfl
  | (id, none) :: r, bl, k => by simp only [bupdK, bdelK_eq, bupd]; exact bupdK_eq r _ k
  | (id, some b) :: r, bl, k => by simp only [bupdK, bdelK_eq, bupd]; exact bupdK_eq r _ k

def needs (kz : Kz R) : List Bool → R → R
  | [], k => k
  | b :: r, k => kz.nd b (needs kz r k)

/-- What calls come to: as data; in the caller's heap; a round of a loop over a function. -/
structure Cx where
  pc : {R : Type} → Kz R → Nat → List V → (V → R) → R
  ca : {R : Type} → Kz R → Nat → List V → Nat → Blks → (V → Nat → Blks → R) → R
  rd : {R : Type} → Kz R → Nat → List V → Nat → Blks → (V → Nat → Blks → R) → R

structure Cx.Ok (P : Program) (cx : Cx) : Prop where
  pok : ∀ {X : Type} {f : Nat} {vs : List V} {K : V → Option X} {r : X}, cx.pc (kzO X) f vs K = some r → ∃ v, pcall P f vs v ∧ K v = some r
  cok : ∀ {X : Type} {f : Nat} {vs : List V} {nx : Nat} {bl : Blks} {K : V → Nat → Blks → Option X} {r : X}, cx.ca (kzO X) f vs nx bl K = some r →
    ∀ {Q : V → Heap → Prop}, (∀ v nx bl, K v nx bl = some r → Q v ⟨nx, bl⟩) → acall P f vs ⟨nx, bl⟩ Q
  rok : ∀ {X : Type} {id : Nat} {vs : List V} {nx : Nat} {bl : Blks} {K : V → Nat → Blks → Option X} {r : X}, cx.rd (kzO X) id vs nx bl K = some r →
    ∀ {Q : V → Heap → Prop}, (∀ v nx bl, K v nx bl = some r → Q v ⟨nx, bl⟩) → around P id vs ⟨nx, bl⟩ Q

def kGuard (kz : Kz R) (g : Option (Nat × Bool)) (env : Env) (skip run : Env → R) : R := match g with
  | none => run env
  | some (s, b) => match get s env with
    | .tf c => match c, b with
      | true, true => run env
      | false, false => run env
      | true, false => skip env
      | false, true => skip env
    | .bool c => kz.br c
      (match b with
        | true => run ((s, .tf true) :: env)
        | false => skip ((s, .tf true) :: env))
      (match b with
        | false => run ((s, .tf false) :: env)
        | true => skip ((s, .tf false) :: env))
    | .tup _ => skip env
    | _ => kz.no

def kI (kz : Kz R) (cx : Cx) (ar : Ar) : List Itm → Env → Nat → Blks → (Env → Nat → Blks → R) → R
  | [], env, nx, bl, K => K env nx bl
  | .op d g i :: r, env, nx, bl, K => kGuard kz g env (fun env => putK d (.tup []) env fun env => kI kz cx ar r env nx bl K) fun env =>
      match evF ar i env bl nx with
      | some (ob, v, u) => needs kz ob (fV v fun v => putK d v env fun env => match i.lays with
        | true => fN (nx + 1) fun nx => bupdK u bl fun bl => kI kz cx ar r env nx bl K
        | false => bupdK u bl fun bl => kI kz cx ar r env nx bl K)
      | none => kz.no
  | .call d g f a tys :: r, env, nx, bl, K => kGuard kz g env (fun env => putK d (.tup []) env fun env => kI kz cx ar r env nx bl K) fun env =>
      match f.ev env with
      | .fn f fs cs => cx.ca kz f (fs ++ normL tys (a.map (·.ev env)) ++ cs) nx bl fun v nx bl => fV v fun v => putK d v env fun env => kI kz cx ar r env nx bl K
      | .yl id => cx.rd kz id (normL tys (a.map (·.ev env))) nx bl fun v nx bl => fV v fun v => putK d v env fun env => kI kz cx ar r env nx bl K
      | _ => kz.no

def putGK (kz : Kz R) (gs : List Nat) (d : Option Nat) (v : V) (env : Env) (K : Env → R) : R := match d with
  | none => K env
  | some t => match memN t gs with
    | false => K ((t, v) :: env)
    | true => match v with
      | .bool c => kz.br c (K ((t, .tf true) :: env)) (K ((t, .tf false) :: env))
      | v => K ((t, v) :: env)

def kDr (kz : Kz R) (cx : Cx) (ar : Ar) (gs : List Nat) (b : Nat) : List Itm → Nat → Env → Blks → List DR → (Env → Blks → List DR → R) → R
  | [], _, env, bl, recs, K => K env bl recs
  | .op d g i :: r, k, env, bl, recs, K => match gOk g env with
    | some true => match evF ar i env bl (b + k) with
      | some (ob, v, u) => needs kz ob (fV v fun v => putGK kz gs d v env fun env' => bupdK u bl fun bl => kDr kz cx ar gs b r (k + 1) env' bl (addR k (rdOf i env) (u.map (·.1)) recs) K)
      | none => kz.no
    | some false => putK d (.tup []) env fun env => kDr kz cx ar gs b r (k + 1) env bl recs K
    | none => kz.no
  | .call d g f a tys :: r, k, env, bl, recs, K => match gOk g env with
    | some true => match f.ev env with
      | .fn f fs cs => match fs ++ normL tys (a.map (·.ev env)) ++ cs with
        | vs => match mapO (fin ar bl 8) vs with
          | some vs' => cx.pc kz f vs' fun x => fV x fun x => match scal x || vs.all (isData 8) with
            | true => putGK kz gs d x env fun env' => kDr kz cx ar gs b r (k + 1) env' bl (addR k (idsOf bl vs) [] recs) K
            | false => kz.no
          | none => kz.no
      | _ => kz.no
    | some false => putK d (.tup []) env fun env => kDr kz cx ar gs b r (k + 1) env bl recs K
    | none => kz.no
end

abbrev Kc (R : Type) := Ex → Env → Nat → Blks → List Nat → R

/-- A loop, as a function. -/
structure LoopS (P : Program) (N : Nat) (out : Option Nat) (base : Nat) : Type 1 where
  c : C
  run : {R : Type} → Kz R → Env → Nat → Blks → List Nat → Kc R → R
  ok : ∀ {X : Type} {env : Env} {nx : Nat} {bl : Blks} {ms : List Nat} {K : Kc (Option X)} {r : X}, run (kzO X) env nx bl ms K = some r →
    ∀ {Q : Ex → St → Prop}, (∀ e env nx bl ms, K e env nx bl ms = some r → Q e ⟨env, ⟨nx, bl⟩, ms⟩) → (std P N out base).loop c ⟨env, ⟨nx, bl⟩, ms⟩ Q

/-- A loop over a function, as a function. -/
structure RangeS (P : Program) (N : Nat) (out : Option Nat) (base : Nat) : Type 1 where
  f : O
  ps : List Nat
  a : C
  b : C
  run : {R : Type} → Kz R → Env → Nat → Blks → List Nat → Kc R → R
  ok : ∀ {X : Type} {env : Env} {nx : Nat} {bl : Blks} {ms : List Nat} {K : Kc (Option X)} {r : X}, run (kzO X) env nx bl ms K = some r →
    ∀ {Q : Ex → St → Prop}, (∀ e env nx bl ms, K e env nx bl ms = some r → Q e ⟨env, ⟨nx, bl⟩, ms⟩) → (std P N out base).rangeF f ps a b ⟨env, ⟨nx, bl⟩, ms⟩ Q

/-- Code with its loops as functions. -/
inductive D (P : Program) (N : Nat) (out : Option Nat) (base : Nat) : Type 1 where
  | skip
  | reg (items : List Itm)
  | draw (preds : List (List Nat)) (items : List Itm)
  | seq (a b : D P N out base)
  | cond (c : O) (a b : D P N out base)
  | block (id : Nat) (c : D P N out base)
  | loop (l : LoopS P N out base)
  | exit (id : Nat)
  | ret
  | rangeF (l : RangeS P N out base)

section
variable {P : Program} {N : Nat} {out : Option Nat} {base : Nat} {R : Type}

def D.er : D P N out base → C
  | .skip => .skip
  | .reg is => .reg is
  | .draw ps is => .draw ps is
  | .seq a b => .seq a.er b.er
  | .cond c a b => .cond c a.er b.er
  | .block id c => .block id c.er
  | .loop l => .loop l.c
  | .exit id => .exit id
  | .ret => .ret
  | .rangeF l => .rangeF l.f l.ps l.a l.b

def rwK (c : O) (b : Bool) (env : Env) : Env := match c with
  | .t n => (n, .tf b) :: env
  | .c _ => env

def kE (kz : Kz R) (cx : Cx) (ar : Ar) : D P N out base → Env → Nat → Blks → List Nat → Kc R → R
  | .skip, env, nx, bl, ms, K => K .normal env nx bl ms
  | .reg is, env, nx, bl, ms, K => kI kz cx ar is env nx bl fun env nx bl => K .normal env nx bl ms
  | .draw ps is, env, nx, bl, ms, K => kDr kz cx ar (gslots is) nx is 0 env bl [] fun env bl recs => match drOk ps recs with
    | true => fN (nx + is.length) fun nx => K .normal env nx bl ms
    | false => kz.no
  | .seq a b, env, nx, bl, ms, K => kE kz cx ar a env nx bl ms fun e env nx bl ms => match e with
    | .normal => kE kz cx ar b env nx bl ms K
    | .exit id => K (.exit id) env nx bl ms
    | .ret => K .ret env nx bl ms
  | .cond c a b, env, nx, bl, ms, K => match c.ev env with
    | .tf true => kE kz cx ar a env nx bl ms K
    | .tf false => kE kz cx ar b env nx bl ms K
    | .bool x => kz.br x (kE kz cx ar a (rwK c true env) nx bl ms K) (kE kz cx ar b (rwK c false env) nx bl ms K)
    | _ => kz.no
  | .block id c, env, nx, bl, ms, K => kE kz cx ar c env nx bl ms fun e env nx bl ms => match e with
    | .normal => K .normal env nx bl ms
    | .exit id' => match Nat.beq id' id with
      | true => K .normal env nx bl ms
      | false => K (.exit id') env nx bl ms
    | .ret => K .ret env nx bl ms
  | .loop l, env, nx, bl, ms, K => l.run kz env nx bl ms K
  | .exit id, env, nx, bl, ms, K => K (.exit id) env nx bl ms
  | .ret, env, nx, bl, ms, K => K .ret env nx bl ms
  | .rangeF l, env, nx, bl, ms, K => l.run kz env nx bl ms K

variable {X : Type} {cx : Cx}

theorem needs_some {ob : List Bool} {x : Option X} {r : X} (h : needs (kzO X) ob x = some r) : AllB ob ∧ x = some r := by
  induction ob with
  | nil => exact ⟨trivial, h⟩
  | cons b l ih =>
    obtain ⟨h1, h2⟩ := need_some h
    obtain ⟨h3, h4⟩ := ih h2
    cases l with
    | nil => exact ⟨h1, h4⟩
    | cons c l => exact ⟨⟨h1, h3⟩, h4⟩

theorem kGuard_ok {g : Option (Nat × Bool)} {env : Env} {nx : Nat} {bl : Blks} {ms : List Nat} {skip run : Env → Option X} {r : X} (h : kGuard (kzO X) g env skip run = some r) {d : Option Nat} {K run' : St → Prop}
    (hs : ∀ env, skip env = some r → K ⟨put d (.tup []) env, ⟨nx, bl⟩, ms⟩) (hr : ∀ env, run env = some r → run' ⟨env, ⟨nx, bl⟩, ms⟩) : wpGuard g d ⟨env, ⟨nx, bl⟩, ms⟩ K run' := by
  unfold kGuard at h
  unfold wpGuard
  split at h
  · exact hr _ h
  · rename_i s b
    simp only
    split at h
    · rename_i c hc
      rw [hc]
      cases c <;> cases b <;> simp only at h ⊢
      · exact hr _ h
      · exact hs _ h
      · exact hs _ h
      · exact hr _ h
    · rename_i c hc
      rw [hc]
      rcases cond_some h with ⟨e, h⟩ | ⟨e, h⟩
      · refine ⟨fun _ => ?_, fun e' => by rw [e] at e'; cases e'⟩
        cases b <;> simp only at h ⊢
        · exact hs _ h
        · exact hr _ h
      · refine ⟨fun e' => (by rw [e] at e'; cases e'), fun _ => ?_⟩
        cases b <;> simp only at h ⊢
        · exact hr _ h
        · exact hs _ h
    · rename_i hc
      rw [hc]
      exact hs _ h
    · cases h

theorem kI_ok (hcx : cx.Ok P) : ∀ {is : List Itm} {env : Env} {nx : Nat} {bl : Blks} {ms : List Nat} {K : Env → Nat → Blks → Option X} {r : X} {Q : St → Prop}, kI (kzO X) cx ar0 is env nx bl K = some r →
    (∀ env nx bl, K env nx bl = some r → Q ⟨env, ⟨nx, bl⟩, ms⟩) → wpItms (std P N out base) is ⟨env, ⟨nx, bl⟩, ms⟩ Q
  | [], env, nx, bl, ms, K, r, Q, h, hK => hK _ _ _ h
  | .op d g i :: is, env, nx, bl, ms, K, r, Q, h, hK => by
    simp only [kI] at h
    simp only [wpItms]
    refine kGuard_ok h (fun env h => ?_) (fun env h => ?_)
    · rw [putK_eq] at h; exact kI_ok hcx h hK
    · split at h
      · rename_i ob v u hev
        obtain ⟨hob, h⟩ := needs_some h
        rw [fV_eq, putK_eq] at h
        rw [evF_eq] at hev
        refine wpOp_of (by unfold std; rw [evI_ar]; exact hev) hob ?_
        split at h
        · rename_i hl
          rw [fN_eq, bupdK_eq] at h
          simp only [hl, nx1]
          exact kI_ok hcx h hK
        · rename_i hl
          rw [bupdK_eq] at h
          simp only [hl, nx1]
          exact kI_ok hcx h hK
      · cases h
  | .call d g f a tys :: is, env, nx, bl, ms, K, r, Q, h, hK => by
    simp only [kI] at h
    simp only [wpItms]
    refine kGuard_ok h (fun env h => ?_) (fun env h => ?_)
    · rw [putK_eq] at h; exact kI_ok hcx h hK
    · simp only [wpCall]
      split at h
      · rename_i f' fs cs hf
        rw [hf]
        refine hcx.cok h fun v nx bl h => ?_
        rw [fV_eq, putK_eq] at h
        exact kI_ok hcx h hK
      · rename_i id hf
        rw [hf]
        refine hcx.rok h fun v nx bl h => ?_
        rw [fV_eq, putK_eq] at h
        exact kI_ok hcx h hK
      · cases h

theorem putGK_ok {gs : List Nat} {d : Option Nat} {v : V} {env : Env} {K : Env → Option X} {r : X} (h : putGK (kzO X) gs d v env K = some r) {K' : Env → Prop} (hK : ∀ env, K env = some r → K' env) : putG gs d v env K' := by
  unfold putGK at h
  unfold putG
  cases d with
  | none => exact hK _ h
  | some t =>
    simp only at h ⊢
    split at h
    · rename_i hm; rw [hm]; exact hK _ h
    · rename_i hm
      rw [hm]
      simp only
      split at h
      · rename_i c
        simp only
        rcases cond_some h with ⟨e, h⟩ | ⟨e, h⟩
        · exact ⟨fun _ => hK _ h, fun e' => by rw [e] at e'; cases e'⟩
        · exact ⟨fun e' => (by rw [e] at e'; cases e'), fun _ => hK _ h⟩
      · rename_i hv
        have := hK _ h
        cases v <;> first | exact this | exact (hv _ rfl).elim

theorem kDr_ok (hcx : cx.Ok P) {gs : List Nat} {b : Nat} : ∀ {is : List Itm} {k : Nat} {env : Env} {bl : Blks} {recs : List DR} {K : Env → Blks → List DR → Option X} {r : X} {Q : Env → Blks → List DR → Prop},
    kDr (kzO X) cx ar0 gs b is k env bl recs K = some r → (∀ env bl recs, K env bl recs = some r → Q env bl recs) → wpDr (std P N out base) gs b is k env bl recs Q
  | [], k, env, bl, recs, K, r, Q, h, hK => hK _ _ _ h
  | .op d g i :: is, k, env, bl, recs, K, r, Q, h, hK => by
    simp only [kDr] at h
    simp only [wpDr]
    split at h
    · rename_i hg
      rw [hg]
      split at h
      · rename_i ob v u hev
        obtain ⟨hob, h⟩ := needs_some h
        rw [fV_eq] at h
        rw [evF_eq] at hev
        have hev' : evI (std P N out base) i env bl (b + k) = some (ob, v, u) := by unfold std; rw [evI_ar]; exact hev
        simp only [hev']
        refine ⟨hob, putGK_ok h fun env h => ?_⟩
        rw [bupdK_eq] at h
        exact kDr_ok hcx h hK
      · cases h
    · rename_i hg
      rw [hg]
      rw [putK_eq] at h
      exact kDr_ok hcx h hK
    · cases h
  | .call d g f a tys :: is, k, env, bl, recs, K, r, Q, h, hK => by
    simp only [kDr] at h
    simp only [wpDr]
    split at h
    · rename_i hg
      rw [hg]
      split at h
      · rename_i f' fs cs hf
        rw [hf]
        split at h
        · rename_i vs' hm
          obtain ⟨v, hp, h⟩ := hcx.pok h
          rw [fV_eq] at h
          have e : mapO (fin (std P N out base) bl 8) = mapO (fin ar0 bl 8) := funext fun vs => mapO_congr (fun v => by unfold std; exact fin_ar) vs
          simp only [e, hm]
          split at h
          · rename_i hsc
            exact ⟨v, hp, hsc, putGK_ok h fun env h => kDr_ok hcx h hK⟩
          · cases h
        · cases h
      · cases h
    · rename_i hg
      rw [hg]
      rw [putK_eq] at h
      exact kDr_ok hcx h hK
    · cases h

theorem kE_ok (hcx : cx.Ok P) : ∀ {d : D P N out base} {env : Env} {nx : Nat} {bl : Blks} {ms : List Nat} {K : Kc (Option X)} {r : X} {Q : Ex → St → Prop}, kE (kzO X) cx ar0 d env nx bl ms K = some r →
    (∀ e env nx bl ms, K e env nx bl ms = some r → Q e ⟨env, ⟨nx, bl⟩, ms⟩) → wpE (std P N out base) d.er ⟨env, ⟨nx, bl⟩, ms⟩ Q := by
  intro d
  induction d with
  | skip => intro env nx bl ms K r Q h hK; exact hK _ _ _ _ _ h
  | reg is => intro env nx bl ms K r Q h hK; exact kI_ok hcx h fun env nx bl h => hK _ _ _ _ _ h
  | draw ps is =>
    intro env nx bl ms K r Q h hK
    refine kDr_ok hcx h fun env bl recs h => ?_
    split at h
    · rename_i hd
      rw [fN_eq] at h
      exact ⟨hd, hK _ _ _ _ _ h⟩
    · cases h
  | seq a b iha ihb =>
    intro env nx bl ms K r Q h hK
    refine iha h fun e env nx bl ms h => ?_
    cases e with
    | normal => exact ihb h hK
    | exit id => exact hK _ _ _ _ _ h
    | ret => exact hK _ _ _ _ _ h
  | cond c a b iha ihb =>
    intro env nx bl ms K r Q h hK
    simp only [kE] at h
    simp only [D.er, wpE]
    have hrw : ∀ x env, rwO c x ⟨env, ⟨nx, bl⟩, ms⟩ = ⟨rwK c x env, ⟨nx, bl⟩, ms⟩ := fun x env => by cases c <;> rfl
    split at h
    · rename_i hc; rw [hc]; exact iha h hK
    · rename_i hc; rw [hc]; exact ihb h hK
    · rename_i x hc
      rw [hc]
      rcases cond_some h with ⟨e, h⟩ | ⟨e, h⟩
      · refine ⟨fun _ => ?_, fun e' => by rw [e] at e'; cases e'⟩
        rw [hrw]; exact iha h hK
      · refine ⟨fun e' => (by rw [e] at e'; cases e'), fun _ => ?_⟩
        rw [hrw]; exact ihb h hK
    · cases h
  | block id c ih =>
    intro env nx bl ms K r Q h hK
    refine ih h fun e env nx bl ms h => ?_
    cases e with
    | normal => exact hK _ _ _ _ _ h
    | exit id' =>
      simp only at h ⊢
      split at h
      · rename_i e; rw [e]; exact hK _ _ _ _ _ h
      · rename_i e; rw [e]; exact hK _ _ _ _ _ h
    | ret => exact hK _ _ _ _ _ h
  | loop l => intro env nx bl ms K r Q h hK; exact l.ok h hK
  | exit id => intro env nx bl ms K r Q h hK; exact hK _ _ _ _ _ h
  | ret => intro env nx bl ms K r Q h hK; exact hK _ _ _ _ _ h
  | rangeF l => intro env nx bl ms K r Q h hK; exact l.ok h hK
end
end Go.AM
