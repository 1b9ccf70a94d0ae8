/- Loops and functions, as functions of their data. -/
import Derived.Test.YtigglifniejbpaaAM31
set_option linter.unusedVariables false
set_option linter.unusedSimpArgs false
namespace Go.AM

@[reducible] def rng (k : IntKind) (z : Int) : Bool := k.min ≤ z && z ≤ k.max
@[reducible] def inb (i n : Int) : Bool := decide (0 ≤ i ∧ i < n)
@[reducible] def imin (a b : Int) : Int := if b < a then b else a
@[reducible] def imax (a b : Int) : Int := if b > a then b else a
@[reducible] def seq (a b : ByteArray) : Bool := a.toList == b.toList
@[reducible] def slt (a b : ByteArray) : Bool := Op.bytesLess a.toList b.toList
@[reducible] def bite (c a b : Bool) : Bool := if c then a else b

/-! Ways out of a loop. -/

def exEq : Ex → Ex → Bool
  | .normal, .normal => true
  | .exit a, .exit b => Nat.beq a b
  | .ret, .ret => true
  | _, _ => false
theorem exEq_eq {a b : Ex} (h : exEq a b = true) : a = b := by
  cases a <;> cases b <;> simp only [exEq, Bool.false_eq_true] at h <;> try rfl
  rw [Nat.eq_of_beq_eq_true h]

abbrev Outs := List (Ex × Pat)

def Outs.T : Outs → Type
  | [] => Empty
  | [(_, p)] => p.T
  | (_, p) :: q :: r => p.T ⊕ Outs.T (q :: r)

def Outs.st (base : Nat) : (xs : Outs) → xs.T → Ex × St
  | [], x => nomatch x
  | [(e, p)], x => (e, p.st base x)
  | (_, _) :: q :: r, .inr y => Outs.st base (q :: r) y
  | (e, p) :: _ :: _, .inl x => (e, p.st base x)

/-! What is laid by a pattern, in full. -/
section
variable {R : Type}

def fVs : List V → (List V → R) → R
  | [], k => k []
  | v :: r, k => fV v fun v => fVs r fun r => k (v :: r)
theorem fVs_eq : ∀ (l : List V) (k : List V → R), fVs l k = k l
  | [], k => rfl
  | v :: r, k => by simp only [fVs, fV_eq, fVs_eq r]

def fEnv : Env → (Env → R) → R
  | [], k => k []
  | (s, v) :: r, k => fV v fun v => fEnv r fun r => k ((s, v) :: r)
theorem fEnv_eq : ∀ (l : Env) (k : Env → R), fEnv l k = k l
  | [], k => rfl
  | (s, v) :: r, k => by simp only [fEnv, fV_eq, fEnv_eq r]

def fBlk (b : Blk) (k : Blk → R) : R := match b with
  | .cells cs fz => fVs cs fun cs => k (.cells cs fz)
  | .arr t xs fz => k (.arr t xs fz)
  | .loop st j d env ps as bd N => fEnv env fun env => k (.loop st j d env ps as bd N)
  | .dfr => k .dfr
theorem fBlk_eq (b : Blk) (k : Blk → R) : fBlk b k = k b := by cases b <;> simp only [fBlk, fVs_eq, fEnv_eq]

def fBl : Blks → (Blks → R) → R
  | [], k => k []
  | (s, b) :: r, k => fBlk b fun b => fBl r fun r => k ((s, b) :: r)
theorem fBl_eq : ∀ (l : Blks) (k : Blks → R), fBl l k = k l
  | [], k => rfl
  | (s, b) :: r, k => by simp only [fBl, fBlk_eq, fBl_eq r]

/-- From a pattern's state. 'nx': the next name. -/
def Pat.go (p : Pat) (nx : Nat) (x : p.T) (k : Env → Nat → Blks → List Nat → R) : R := fEnv (p.E x) fun env => fBl (p.B x) fun bl => k env nx bl p.ms
theorem Pat.go_eq (p : Pat) (nx : Nat) (x : p.T) (k : Env → Nat → Blks → List Nat → R) : p.go nx x k = k (p.E x) nx (p.B x) p.ms := by
  unfold Pat.go; rw [fEnv_eq, fBl_eq]

def Outs.go (kz : Kz R) (base : Nat) : (xs : Outs) → xs.T → Kc R → R
  | [], x, _ => nomatch x
  | [(e, p)], x, k => fN (base + p.locs.length) fun nx => p.go nx x (k e)
  | (e, p) :: q :: r, x, k => kz.sm x (fun x => fN (base + p.locs.length) fun nx => p.go nx x (k e)) fun y => Outs.go kz base (q :: r) y k
end

theorem Outs.go_st {X : Type} {base : Nat} : ∀ {xs : Outs} {x : xs.T} {k : Kc (Option X)} {r : X}, xs.go (kzO X) base x k = some r →
    k (xs.st base x).1 (xs.st base x).2.env (xs.st base x).2.H.next (xs.st base x).2.H.bl (xs.st base x).2.ms = some r
  | [], x, _, _, _ => nomatch x
  | [(e, p)], x, k, r, h => by
    simp only [Outs.go, fN_eq] at h
    exact (Pat.go_eq p _ (show p.T from x) (k e)).symm.trans h
  | (e, p) :: q :: s, x, k, r, h => by
    simp only [Outs.go, kzO] at h
    cases x with
    | inl x =>
      simp only [fN_eq] at h
      rw [Pat.go_eq] at h
      exact h
    | inr y => exact Outs.go_st (xs := q :: s) (x := y) h

/-- A way out, read. -/
def Outs.rd {R : Type} (no : R) (pre : List Nat) (base : Nat) : (xs : Outs) → Ex → Env → Nat → Blks → List Nat → (xs.T → R) → R
  | [], _, _, _, _, _, _ => no
  | [(e', p)], e, env, nx, bl, ms, k => match exEq e' e with
    | true => p.rd no pre base env nx bl ms k
    | false => no
  | (e', p) :: q :: r, e, env, nx, bl, ms, k => match exEq e' e with
    | true => p.rd (Outs.rd no pre base (q :: r) e env nx bl ms fun x => k (.inr x)) pre base env nx bl ms fun x => k (.inl x)
    | false => Outs.rd no pre base (q :: r) e env nx bl ms fun x => k (.inr x)

theorem Outs.rd_ent {X : Type} {base : Nat} {env : Env} {nx : Nat} {bl : Blks} {ms : List Nat} : ∀ {xs : Outs} {e : Ex} {k : xs.T → Option X} {r : X}, xs.rd none (List.range base) base e env nx bl ms k = some r →
    ∃ x π, k x = some r ∧ e = (xs.st base x).1 ∧ Ent2 base π ⟨env, ⟨nx, bl⟩, ms⟩ (xs.st base x).2
  | [], _, _, _, h => by simp [Outs.rd] at h
  | [(e', p)], e, k, r, h => by
    simp only [Outs.rd] at h
    split at h <;> try (cases h; done)
    rename_i he
    obtain ⟨x, π, h1, h2⟩ := Pat.rd_ent h
    exact ⟨x, π, h1, (exEq_eq he).symm, h2⟩
  | (e', p) :: q :: s, e, k, r, h => by
    simp only [Outs.rd] at h
    split at h
    · rename_i he
      rcases Pat.rd_ent' h with h | ⟨x, π, h1, h2⟩
      · obtain ⟨x, π, h1, h2, h3⟩ := Outs.rd_ent (xs := q :: s) h
        exact ⟨.inr x, π, h1, h2, h3⟩
      · exact ⟨.inl x, π, h1, (exEq_eq he).symm, h2⟩
    · obtain ⟨x, π, h1, h2, h3⟩ := Outs.rd_ent (xs := q :: s) h
      exact ⟨.inr x, π, h1, h2, h3⟩

/-- What a round of a loop comes to. -/
def kStep {R : Type} (no : R) (pre : List Nat) (base : Nat) (p : Pat) (xs : Outs) (inl : p.T → R) (inr : xs.T → R) : Kc R := fun e env nx bl ms => match e with
  | .normal => p.rd no pre base env nx bl ms inl
  | .exit i => xs.rd no pre base (.exit i) env nx bl ms inr
  | .ret => xs.rd no pre base .ret env nx bl ms inr

/-- A round, from a pattern's state. -/
def roundE {P : Program} {N : Nat} {out : Option Nat} {base : Nat} {R : Type} (kz : Kz R) (cx : Cx) (ar : Ar) (pre : List Nat) (p : Pat) (xs : Outs) (body : D P N out base) (inl : p.T → R) (inr : xs.T → R) (x : p.T) : R :=
  fN (base + p.locs.length) fun nx => p.go nx x fun env nx bl ms => kE kz cx ar body env nx bl ms (kStep kz.no pre base p xs inl inr)

section
variable {P : Program} {N : Nat} {out : Option Nat} {base : Nat}

theorem ne_normal {xs : Outs} (h : xs.all (fun p => !exEq p.1 .normal) = true) : ∀ x : xs.T, (xs.st base x).1 ≠ .normal := by
  induction xs with
  | nil => intro x; exact nomatch x
  | cons p r ih =>
    obtain ⟨e, p⟩ := p
    simp only [List.all_cons, Bool.and_eq_true] at h
    have he : e ≠ .normal := fun e' => by subst e'; simp [exEq] at h
    cases r with
    | nil => intro x; exact he
    | cons q s =>
      intro x
      cases x with
      | inl x => exact he
      | inr y => exact ih h.2 y

/-- A loop out of its round. -/
noncomputable def mkLoop (mixed : P.follows .mixedOrders = true) (cx : Cx) (hcx : cx.Ok P) (pre : List Nat) (hpre : pre = List.range base) (p : Pat) (xs : Outs) (hxs : xs.all (fun p => !exEq p.1 .normal) = true) (body : D P N out base)
    (step : p.T → Option (p.T ⊕ xs.T)) (hstep : ∀ x, roundE (kzO (p.T ⊕ xs.T)) cx ar0 pre p xs body (fun y => some (.inl y)) (fun b => some (.inr b)) x = step x) : LoopS P N out base where
  c := body.er
  run kz env nx bl ms K := p.rd kz.no pre base env nx bl ms fun x => kz.bd (iter step x) fun b => xs.go kz base b K
  ok := by
    intro X env nx bl ms K r h Q hQ
    subst hpre
    obtain ⟨x, π, h1, h2⟩ := Pat.rd_ent h
    obtain ⟨b, h3, h4⟩ := bd_some h1
    have h5 := Outs.go_st h4
    refine loop_iter (drawOk mixed) (I := p.st base) (X := xs.st base) (step := step) (fun x r hx => ?_) h3 h2 (hQ _ _ _ _ _ h5)
    rw [← hstep x] at hx
    unfold roundE at hx
    rw [fN_eq, Pat.go_eq] at hx
    refine kE_ok hcx hx fun e env nx bl ms hk => ?_
    unfold kStep at hk
    cases e with
    | normal =>
      obtain ⟨y, π, q1, q2⟩ := Pat.rd_ent hk
      cases q1
      exact ⟨rfl, π, q2⟩
    | exit i =>
      obtain ⟨y, π, q1, q2, q3⟩ := Outs.rd_ent hk
      cases q1
      exact ⟨by simp, q2, π, q3⟩
    | ret =>
      obtain ⟨y, π, q1, q2, q3⟩ := Outs.rd_ent hk
      cases q1
      exact ⟨by simp, q2, π, q3⟩

/-! Functions. -/

def spsT : List SP → Type → Type
  | [], A => A
  | p :: r, A => p.T (spsT r A)

def spsV {A : Type} : (ps : List SP) → spsT ps A → List V
  | [], _ => []
  | p :: r, x => p.v x :: spsV r (p.r x)

def spsR {A : Type} : (ps : List SP) → spsT ps A → A
  | [], x => x
  | p :: r, x => spsR r (p.r x)

def spsRd {A : Type} (π : List Nat) : (ps : List SP) → List V → Option (A → spsT ps A)
  | [], [] => some fun a => a
  | p :: r, v :: vs => match SP.rd (A := spsT r A) π p v with
    | some f => match spsRd π r vs with
      | some g => some fun a => f (g a)
      | none => none
    | none => none
  | _, _ => none

theorem spsRd_ev {π : List Nat} {A : Type} : ∀ {ps : List SP} {vs : List V} {f : A → spsT ps A}, spsRd π ps vs = some f → ∀ a, EVL π (spsV ps (f a)) vs ∧ spsR ps (f a) = a
  | [], [], f, h, a => by cases h; exact ⟨.nil, rfl⟩
  | c :: r, v :: vs, f, h, a => by
    simp only [spsRd] at h
    split at h <;> try (cases h; done)
    rename_i f1 h1
    split at h <;> cases h
    rename_i g h2
    obtain ⟨q1, q2⟩ := SP.rd_ev h1 (g a)
    obtain ⟨q3, q4⟩ := spsRd_ev h2 a
    simp only [spsV, spsR, q2]
    exact ⟨.cons q1 q3, q4⟩
  | [], _ :: _, f, h, a => by simp [spsRd] at h
  | _ :: _, [], f, h, a => by simp [spsRd] at h

/-- A function as a function of data. -/
structure Ct where
  f : Nat
  ps : List SP
  res : SP
  fn : spsT ps Unit → Option (res.T Unit)

def Ct.Ok (P : Program) (ct : Ct) : Prop := ∀ x y, ct.fn x = some y → pcall P ct.f (spsV ct.ps x) (ct.res.v y)

theorem ren_none {π : List Nat} : Mu.ren (fun _ => none) π = fun _ => none := by
  funext i; simp only [Mu.ren]; cases π[i]? <;> rfl

theorem pcall_ev {f : Nat} {vs vs' : List V} {v v' : V} {π π' : List Nat} (h : pcall P f vs v) (ha : EVL π vs vs') (hr : EV π' v' v) : pcall P f vs' v' := by
  refine ⟨h.1, fun ι w as hrd hl => ?_⟩
  have hl' : RelL ι (fun _ => none) vs as.toList := by
    have := RelL.ren (π := π) ha.1 (fun i v u hv hu => fun {x} hr => (ha.2 i v u hv hu).rel hr) hl
    rwa [ren_none] at this
  refine (h.2 ι w as hrd hl').mono ?_
  rintro e w' ⟨x, ι', h1, h2, h3, h4, h5, h6⟩
  refine ⟨x, ι', h1, h2, h3, h4, h5, ?_⟩
  have := hr.rel h6
  rwa [ren_none] at this

theorem EV.refl_data : ∀ {n : Nat} {v : V}, isData n v = true → EV [] v v
  | 0, v, h => by simp [isData] at h
  | n + 1, v, h => by
    have g : ∀ {cs : List V}, cs.all (isData n) = true → ∀ (i : Nat) v u, cs[i]? = some v → cs[i]? = some u → EV [] v u := fun hc i v u hv hu => by
      rw [hv] at hu; cases hu
      exact EV.refl_data (List.all_eq_true.1 hc _ (List.mem_of_getElem? hv))
    cases v <;> simp only [isData, Bool.and_eq_true, Bool.false_eq_true] at h <;> try (constructor; done)
    case ipc cs => exact .ipc _ _ rfl (g h)
    case fn f a b => exact .fn _ _ _ _ _ rfl (g h.1) rfl (g h.2)
    case agg cs => exact .agg _ _ rfl (g h)
    case tup cs => exact .tup _ _ rfl (g h)
    case ifc t v => exact .ifc _ _ _ (EV.refl_data h)

/-- A call whose arguments lie in the caller's heap and whose result is no list. -/
theorem acall_borrow {f : Nat} {vs vs' : List V} {v : V} {nx : Nat} {bl : Blks} (h : pcall P f vs' v) (hm : mapO (fin ar0 bl 8) vs = some vs') (hs : scal v = true) {Q : V → Heap → Prop} (hQ : Q v ⟨nx, bl⟩) : acall P f vs ⟨nx, bl⟩ Q := by
  refine ⟨h.1, fun Y ι μ w as hI hl => ?_⟩
  refine (h.2 (ι.all Y.own w) w as (fun b o x hx => ?_) (mapO_rel (fun v r x h hr => fin_rel (fun _ _ _ => rfl) hI h hr) hm hl)).mono ?_
  · exact Iota.all_rd hI.rd hx
  · rintro e w' ⟨x, ι', rfl, _, _, _, hbel, hrv⟩
    exact ⟨x, ι, μ, v, _, rfl, Iota.le_refl _, Mu.le_refl _, hI.called (Iota.le_refl _) (fun _ _ _ => rfl) (Readable.kept (fun b o x hx => hI.rd b o x hx) hbel) hbel, scal_rel hs hrv, hQ⟩

def ctPc {R : Type} (kz : Kz R) (f : Nat) (vs : List V) (K : V → R) : List Ct → R
  | [] => kz.no
  | ct :: r => match Nat.beq ct.f f with
    | true => match spsRd (A := Unit) [] ct.ps vs with
      | some g => kz.bd (ct.fn (g ())) fun y => K (ct.res.v y)
      | none => ctPc kz f vs K r
    | false => ctPc kz f vs K r

def CtsOk (P : Program) : List Ct → Prop
  | [] => True
  | c :: r => c.Ok P ∧ CtsOk P r

theorem ctPc_ok {X : Type} {f : Nat} {vs : List V} {K : V → Option X} {r : X} : ∀ {cts : List Ct}, CtsOk P cts → ctPc (kzO X) f vs K cts = some r → ∃ v, pcall P f vs v ∧ K v = some r
  | [], _, hk => by cases hk
  | ct :: cts, h, hk => by
    simp only [ctPc] at hk
    split at hk
    · rename_i hf
      have e := Nat.eq_of_beq_eq_true hf
      subst e
      split at hk
      · rename_i g hg
        obtain ⟨y, hy, hk⟩ := bindO_some hk
        obtain ⟨q1, _⟩ := spsRd_ev hg ()
        refine ⟨_, ?_, hk⟩
        have hp := h.1 _ _ hy
        exact ⟨hp.1, fun ι w as hrd hl => hp.2 ι w as hrd (by
          have := RelL.ren (π := []) q1.1 (fun i v u hv hu => fun {x} hr => (q1.2 i v u hv hu).rel hr) hl
          rwa [ren_none] at this)⟩
      · exact ctPc_ok h.2 hk
    · exact ctPc_ok h.2 hk

/-! Blocks that are written no more from here on. -/

def frzBl : List Nat → Blks → Option Blks
  | [], bl => some bl
  | id :: r, bl => match bget id bl with
    | some (.arr t xs _) => frzBl r ((id, .arr t xs true) :: bdel id bl)
    | some (.cells cs _) => frzBl r ((id, .cells cs true) :: bdel id bl)
    | _ => none

def FzOk (ι : Iota) (μ : Mu) (id : Nat) : Option Blk → Prop
  | some (.arr t xs _) => Frozen ι μ id t xs
  | some (.cells cs _) => ∃ L vs, μ id = some L ∧ Reads ι L.b L.ba vs ∧ RelL ι μ cs vs ∧ ∀ v ∈ vs, v.oneCell' = true
  | _ => True

theorem FzOk.mono {ι ι' : Iota} {μ : Mu} {id : Nat} {o : Option Blk} (h : FzOk ι μ id o) (hi : ι.le ι') : FzOk ι' μ id o := by
  unfold FzOk at h ⊢
  split at h
  · exact Frozen.mono hi h
  · obtain ⟨L, vs, h1, h2, h3, h4⟩ := h
    exact ⟨L, vs, h1, h2.mono hi, h3.mono hi (Mu.le_refl _), h4⟩
  · trivial

/-- A block of cells is written no more. -/
theorem Inv.freezeC {Y : Ctx} {ι : Iota} {μ : Mu} {H : Heap} {w : World} (h : Inv P Y ι μ H w) {id : Nat} {cs : List V} {fz : Bool} (hb : bget id H.bl = some (.cells cs fz)) :
    ∃ ι', ι.le ι' ∧ Inv P Y ι' μ ⟨H.next, (id, .cells cs true) :: bdel id H.bl⟩ w ∧ FzOk ι' μ id (some (.cells cs fz)) := by
  obtain ⟨L, vs, hM, hR⟩ := h.live id _ hb
  cases fz with
  | true => exact ⟨ι, Iota.le_refl _, h.same hb ⟨L, vs, hM, hR⟩, L, vs, hM.mu, hM.fzT rfl, hR, hM.one⟩
  | false =>
    have hfree := hM.fzF rfl
    have hle := Iota.le_add (vs := vs) hfree
    have hR' : RelL (ι.add L vs) μ cs vs := hR.mono hle (Mu.le_refl _)
    refine ⟨ι.add L vs, hle, ?_, L, vs, hM.mu, Reads.add, hR', hM.one⟩
    refine ⟨h.below, Iota.le_trans h.i0 hle, fun b o hb' hx => ?_, fun b o x hx => ?_, h.m0, h.nx, fun i B hB => ?_, ?_, ?_⟩
    · unfold Iota.add; rw [if_neg (fun e => Ctx.own_ne hM.old hb' hx e)]; exact h.iB b o hb' hx
    · unfold Iota.add at hx
      split at hx
      · rename_i e; subst e
        split at hx
        · rename_i ho
          obtain ⟨c, e, h1, h2, h3⟩ := hM.row
          have := h3 _ _ hx
          rw [show L.ba + (o - L.ba) = o by omega] at this
          simp [World.cell?, h1, this]
        · cases hx
      · exact h.rd b o x hx
    · rw [bget_set] at hB
      split at hB
      · rename_i e; subst e; cases hB
        exact ⟨L, vs, ⟨hM.mu, hM.old, hM.row, hM.fits, hM.one, fun _ => Reads.add, fun e => by cases e⟩, hR'⟩
      · rename_i e
        refine (h.live i B hB).mono hle (Mu.le_refl _) (fun h => h) (fun _ _ => rfl) (fun L' hL' ho o => ?_)
        unfold Iota.add
        rw [if_neg (fun e' => e (h.inj i id B _ L' L hB hb hL' hM.mu e'))]
        exact ho o
    · intro i i' B B' L1 L2 h1 h2 hm1 hm2 e
      have : ∀ {j B}, bget j ((id, .cells cs true) :: bdel id H.bl) = some B → ∃ B'', bget j H.bl = some B'' := fun {j B} hj => by
        rw [bget_set] at hj
        split at hj
        · rename_i e; subst e; exact ⟨_, hb⟩
        · exact ⟨B, hj⟩
      obtain ⟨C, hC⟩ := this h1
      obtain ⟨C', hC'⟩ := this h2
      exact h.inj i i' C C' L1 L2 hC hC' hm1 hm2 e
    · intro i B hB
      rw [bget_set] at hB
      split at hB
      · rename_i e; subst e; exact h.lt _ _ hb
      · exact h.lt i B hB

theorem frz_inv {Y : Ctx} {μ : Mu} {w : World} {nx : Nat} : ∀ {ids : List Nat} {bl bl' : Blks} {ι : Iota}, Inv P Y ι μ ⟨nx, bl⟩ w → frzBl ids bl = some bl' →
    ∃ ι', ι.le ι' ∧ Inv P Y ι' μ ⟨nx, bl'⟩ w ∧ ∀ id ∈ ids, FzOk ι' μ id (bget id bl)
  | [], bl, bl', ι, hI, h => by cases h; exact ⟨ι, Iota.le_refl _, hI, fun id hid => by simp at hid⟩
  | i :: r, bl, bl', ι, hI, h => by
    simp only [frzBl] at h
    split at h
    · rename_i t xs fz hb
      obtain ⟨ι1, h1, h2, h3⟩ := hI.freeze hb
      obtain ⟨ι2, h4, h5, h6⟩ := frz_inv h2 h
      refine ⟨ι2, Iota.le_trans h1 h4, h5, fun id hid => ?_⟩
      by_cases e : id = i
      · subst e
        rw [show bget id bl = some (.arr t xs fz) from hb]
        exact Frozen.mono h4 h3
      · rcases List.mem_cons.1 hid with rfl | hid
        · exact absurd rfl e
        · have := h6 id hid
          have e2 : bget id ((i, Blk.arr t xs true) :: bdel i bl) = bget id bl := by rw [bget_cons, if_neg (fun h => e h.symm), bget_bdel, if_neg e]
          rw [show bget id ((i, Blk.arr t xs true) :: bdel i (Heap.bl ⟨nx, bl⟩)) = bget id bl from e2] at this
          exact this
    · rename_i cs fz hb
      obtain ⟨ι1, h1, h2, h3⟩ := hI.freezeC hb
      obtain ⟨ι2, h4, h5, h6⟩ := frz_inv h2 h
      refine ⟨ι2, Iota.le_trans h1 h4, h5, fun id hid => ?_⟩
      by_cases e : id = i
      · subst e
        rw [show bget id bl = some (.cells cs fz) from hb]
        exact h3.mono h4
      · rcases List.mem_cons.1 hid with rfl | hid
        · exact absurd rfl e
        · have := h6 id hid
          have e2 : bget id ((i, Blk.cells cs true) :: bdel i bl) = bget id bl := by rw [bget_cons, if_neg (fun h => e h.symm), bget_bdel, if_neg e]
          rw [show bget id ((i, Blk.cells cs true) :: bdel i (Heap.bl ⟨nx, bl⟩)) = bget id bl from e2] at this
          exact this
    · cases h

theorem fin_fz {ι : Iota} {μ : Mu} {bl : Blks} : ∀ {n : Nat} {v r : V} {x : Value}, fin ar0 bl n v = some r → (∀ id ∈ fids bl n v, FzOk ι μ id (bget id bl)) → Rel ι μ v x → Rel ι (fun _ => none) r x
  | 0, v, r, x, h, _, _ => by cases h
  | n + 1, v, r, x, h, hF, hr => by
    have conv : ∀ {cs ds : List V} {xs : List Value}, mapO (fin ar0 bl n) cs = some ds → (∀ id ∈ cs.flatMap (fids bl n), FzOk ι μ id (bget id bl)) → RelL ι μ cs xs → RelL ι (fun _ => none) ds xs := by
      intro cs
      induction cs with
      | nil => intro ds xs hm _ hl; cases hm; rw [hl.of_nil]; exact .nil
      | cons c cs ih =>
        intro ds xs hm hf hl
        unfold mapO at hm
        obtain ⟨y, ys, rfl, h1, h2⟩ := hl.uncons
        split at hm <;> try (cases hm; done)
        rename_i u hu
        split at hm <;> try (cases hm; done)
        rename_i us hus
        cases hm
        simp only [List.flatMap_cons, List.mem_append] at hf
        exact .cons (fin_fz hu (fun id hid => hf id (.inl hid)) h1) (ih hus (fun id hid => hf id (.inr hid)) h2)
    cases hr <;> simp only [fin] at h <;> try (cases h; done)
    case any => cases h; exact .any _
    case tf => cases h; exact .tf _
    case bool => cases h; exact .bool _
    case int => cases h; exact .int _ _
    case str => cases h; exact .str _
    case nilp => cases h; exact .nilp
    case nilfn => cases h; exact .nilfn
    case nili => cases h; exact .nili
    case lst t xs hd => cases h; exact .lst t xs _ hd
    case nsl => cases h; exact .nsl _
    case sl id t lo m cap L hL h1 h2 h3 =>
      split at h <;> try (cases h; done)
      rename_i t' xs fz hb
      split at h <;> try (cases h; done)
      rename_i e; subst e
      cases h
      have hf := hF id (by simp [fids])
      rw [hb] at hf
      exact .lst _ _ _ (Frozen.slice hf (.sl (ι := ι) id t lo m cap L hL h1 h2 h3))
    case sl0 id t lo a =>
      split at h <;> try (cases h; done)
      rename_i t' xs fz hb
      split at h <;> try (cases h; done)
      rename_i e; subst e
      cases h
      exact .lst _ _ _ ⟨a, 0, by simp [mkAr, ar0], by simp [mkAr, ar0], .inl (by simp [mkAr, ar0])⟩
    case ptr id off L hL =>
      split at h <;> try (cases h; done)
      rename_i cs fz hb
      split at h <;> try (cases h; done)
      rename_i ds hds
      split at h <;> try (cases h; done)
      rename_i hoff
      cases h
      have hf := hF id (by simp [fids])
      rw [hb] at hf
      obtain ⟨L', vs, hM, hrd, hR, hone⟩ := hf
      rw [hM] at hL; cases hL
      have hR' := conv hds (fun i hi => hF i (by simp only [fids, hb, List.mem_cons]; exact .inr hi)) hR
      refine .ipc _ L.b (L.ba + off) (fun i => vs.getD (off + i) .nilIface) (fun i hi => ?_) (fun i v hv => ?_) (fun i => ?_)
      · have hlt : off + i < vs.length := by have := hR'.1; simp at hi; omega
        have : vs[off + i]? = some (vs.getD (off + i) .nilIface) := by simp [List.getD, hlt]
        rw [Nat.add_assoc]; exact hrd _ _ this
      · have hv' : ds[off + i]? = some v := by simpa using hv
        obtain ⟨y, hy, hry⟩ := hR'.at hv'
        simp only [List.getD, hy, Option.getD_some]; exact hry
      · by_cases hlt : off + i < vs.length
        · have : vs.getD (off + i) .nilIface = vs[off + i] := by simp [List.getD, hlt]
          rw [this]; exact hone _ (List.getElem_mem hlt)
        · have : vs.getD (off + i) .nilIface = .nilIface := by simp [List.getD, List.getElem?_eq_none (show vs.length ≤ off + i by omega)]
          rw [this]; rfl
    case ipc cs b o gf h1 h2 h3 =>
      split at h <;> try (cases h; done)
      rename_i hall
      cases h
      exact .ipc cs b o gf h1 (fun i v hv => isData_rel (List.all_eq_true.1 hall _ (List.mem_of_getElem? hv)) (h2 i v hv)) h3
    case ip t y b o us h1 h2 => cases h; exact .ip t y b o us h1 h2
    case fn f fs cs xs ys h1 h2 h3 h4 =>
      split at h <;> try (cases h; done)
      rename_i as bs ha hb
      cases h
      have r1 := conv ha (fun i hi => hF i (by simp only [fids, List.mem_append]; exact .inl hi)) (xs := xs.toList) ⟨by simpa using h1, fun i v x hv hx => h2 i v x hv (by simpa using hx)⟩
      have r2 := conv hb (fun i hi => hF i (by simp only [fids, List.mem_append]; exact .inr hi)) (xs := ys.toList) ⟨by simpa using h3, fun i v x hv hx => h4 i v x hv (by simpa using hx)⟩
      exact .fn f as bs xs ys (by simpa using r1.1) (fun i v x hv hx => r1.2 i v x hv (by simpa using hx)) (by simpa using r2.1) (fun i v x hv hx => r2.2 i v x hv (by simpa using hx))
    case agg cs xs h1 h2 h3 =>
      split at h <;> try (cases h; done)
      rename_i ds hds
      cases h
      have r1 := conv hds (fun i hi => hF i (by simpa [fids] using hi)) (xs := xs.toList) ⟨by simpa using h1, fun i v x hv hx => h2 i v x hv (by simpa using hx)⟩
      exact .agg ds xs (by simpa using r1.1) (fun i v x hv hx => r1.2 i v x hv (by simpa using hx)) h3
    case tup cs xs h1 h2 =>
      split at h <;> try (cases h; done)
      rename_i ds hds
      cases h
      have r1 := conv hds (fun i hi => hF i (by simpa [fids] using hi)) (xs := xs.toList) ⟨by simpa using h1, fun i v x hv hx => h2 i v x hv (by simpa using hx)⟩
      exact .tup ds xs (by simpa using r1.1) (fun i v x hv hx => r1.2 i v x hv (by simpa using hx))
    case ifc t v x hv =>
      split at h <;> try (cases h; done)
      rename_i r' hr'
      cases h
      exact .ifc t r' x (fin_fz hr' (fun i hi => hF i (by simpa [fids] using hi)) hv)

theorem acall_frz {f : Nat} {vs vs' : List V} {v : V} {nx : Nat} {bl bl' : Blks} (h : pcall P f vs' v) (hm : mapO (fin ar0 bl 8) vs = some vs') (hb : frzBl (idsOf bl vs) bl = some bl') {Q : V → Heap → Prop} (hQ : Q v ⟨nx, bl'⟩) : acall P f vs ⟨nx, bl⟩ Q := by
  refine ⟨h.1, fun Y ι μ w as hI hl => ?_⟩
  obtain ⟨ι', h1, h2, h3⟩ := frz_inv hI hb
  have hl' : RelL ι' (fun _ => none) vs' as.toList := by
    have key : ∀ {vs vs' : List V} {xs : List Value}, mapO (fin ar0 bl 8) vs = some vs' → (∀ id ∈ idsOf bl vs, FzOk ι' μ id (bget id bl)) → RelL ι μ vs xs → RelL ι' (fun _ => none) vs' xs := by
      intro vs
      induction vs with
      | nil => intro vs' xs hm _ hl; cases hm; rw [hl.of_nil]; exact .nil
      | cons v r ih =>
        intro vs' xs hm hfz hl
        unfold mapO at hm
        split at hm <;> try (cases hm; done)
        rename_i u hu
        split at hm <;> cases hm
        rename_i us hus
        obtain ⟨x, xs', rfl, r1, r2⟩ := hl.uncons
        simp only [idsOf, List.flatMap_cons, List.mem_append] at hfz
        exact .cons (fin_fz hu (fun id hid => hfz id (.inl hid)) (r1.mono h1 (Mu.le_refl _))) (ih hus (fun id hid => hfz id (.inr hid)) r2)
    exact key hm h3 hl
  refine (h.2 ι' w as (fun b o x hx => h2.rd b o x hx) hl').mono ?_
  rintro e w' ⟨x, ι2, rfl, hi, hib, hrd, hbel, hrv⟩
  exact ⟨x, ι2, μ, v, _, rfl, Iota.le_trans h1 hi, Mu.le_refl _, h2.called hi hib hrd hbel, hrv.mono (Iota.le_refl _) (fun _ _ h => by cases h), hQ⟩

/-- Calls by contracts over data. -/
def ctCa {R : Type} (cts : List Ct) (kz : Kz R) (f : Nat) (vs : List V) (nx : Nat) (bl : Blks) (K : V → Nat → Blks → R) : R := match vs.all (isData 8) with
  | true => ctPc kz f vs (fun v => K v nx bl) cts
  | false => match mapO (fin ar0 bl 8) vs with
    | some vs' => ctPc kz f vs' (fun v => match scal v with
      | true => K v nx bl
      | false => match frzBl (idsOf bl vs) bl with
        | some bl' => fBl bl' fun bl' => K v nx bl'
        | none => kz.no) cts
    | none => kz.no

def mkCx (cts : List Ct) : Cx where
  pc kz f vs K := ctPc kz f vs K cts
  ca kz f vs nx bl K := ctCa cts kz f vs nx bl K
  rd kz _ _ _ _ _ := kz.no

theorem mkCx_ok {cts : List Ct} (h : CtsOk P cts) : (mkCx cts).Ok P where
  pok hk := ctPc_ok h hk
  cok := by
    intro X f vs nx bl K r hk Q hQ
    simp only [mkCx, ctCa] at hk
    split at hk
    · rename_i hd
      obtain ⟨v, hp, hk⟩ := ctPc_ok h hk
      exact acall_data hp hd (hQ _ _ _ hk)
    · split at hk <;> try (cases hk; done)
      rename_i vs' hm
      obtain ⟨v, hp, hk⟩ := ctPc_ok h hk
      split at hk
      · rename_i hs
        exact acall_borrow hp hm hs (hQ _ _ _ hk)
      · split at hk <;> try (cases hk; done)
        rename_i bl' hb
        rw [fBl_eq] at hk
        exact acall_frz hp hm hb (hQ _ _ _ hk)
  rok hk := by cases hk

/-- At a function's end. -/
def kRet {R : Type} (kz : Kz R) (ar : Ar) (rs : List RV) (tys : List (Option Ty)) (res : SP) (k : res.T Unit → R) : Kc R := fun e env nx bl ms => match e with
  | .exit _ => kz.no
  | .normal => go env nx bl ms
  | .ret => go env nx bl ms
where go (env : Env) (nx : Nat) (bl : Blks) (ms : List Nat) : R := match shutAll ms bl with
  | some bl => match resV ⟨env, ⟨nx, bl⟩, []⟩ rs with
    | some vs => match fin ar bl 8 (mkRes (normL tys vs)) with
      | some v => match SP.rd (A := Unit) [] res v with
        | some f => k (f ())
        | none => kz.no
      | none => kz.no
    | none => kz.no
  | none => kz.no

/-- A function's body, from arguments that are data. -/
def fnE {R : Type} (kz : Kz R) (cx : Cx) (ar : Ar) (rs : List RV) (tys : List (Option Ty)) (ps : List SP) (res : SP) (body : D P N none 0) (k : res.T Unit → R) (x : spsT ps Unit) : R :=
  fVs (spsV ps x) fun vs => kE kz cx ar body (args 0 vs) 0 [] [] (kRet kz ar rs tys res k)

theorem pcall_ofQ {f : Nat} {func : Func} {fn : Fn} (hf : P.funcs[f]? = some func) (htr : trF P func = some fn) (hent : Enters P f) (hdraw : DrawOk P fn.N none 0) {vs : List V} {r : V} (hlen : vs.length ≤ fn.np)
    (h : wpE (std P fn.N none 0) fn.body ⟨args 0 vs, ⟨0, []⟩, []⟩ (RetD (std P fn.N none 0) fn.res fn.tys (fun r' => EV [] r r'))) : pcall P f vs r := by
  refine ⟨hent, fun ι w as hrd hr => ?_⟩
  let Y : Ctx := ⟨w, ι, fun _ => none, none, fun _ => False⟩
  have hI : Inv P Y ι (fun _ => none) ⟨0, []⟩ w := ⟨Bel.refl _ _, Iota.le_refl _, fun _ _ _ _ => rfl, hrd, fun id L h => h, fun _ _ => rfl, fun id B h => by simp [bget] at h, fun id id' B B' L L' h => by simp [bget] at h, fun id B h => by simp [bget] at h⟩
  have hres : trR P func.results.toList = some fn.res := by
    unfold trF at htr
    split at htr <;> try (cases htr; done)
    split at htr <;> try (cases htr; done)
    rename_i hrs
    split at htr <;> try (cases htr; done)
    cases htr; exact hrs
  refine body_ok (Y := Y) hf htr hdraw hlen h rfl (fun _ _ => rfl) hI hr fun ι' μ' S' a' w' e' hR hq => ?_
  have key : RetD.RetS (std P fn.N none 0) fn.res fn.tys (fun r' => EV [] r r') S' → LeavesInM Fence.wide 0 P func a'.tmps (fun e w' => ∃ v ι', e = .returned v ∧ ι.le ι' ∧ (∀ b o, b < w.heap.size → ι' b o = ι b o) ∧ Readable ι' w' ∧
      RowKit.Below w.heap.size w w' ∧ Rel ι' (fun _ => none) r v) a'.defers .returning w' := by
    intro hs
    unfold RetD.RetS at hs
    split at hs <;> try (exact hs.elim)
    rename_i bl hbl
    split at hs <;> try (exact hs.elim)
    rename_i vs' hvs
    split at hs <;> try (exact hs.elim)
    rename_i r' hfin
    refine leaves_ok hres (n := S'.H.next) (bl := S'.H.bl) hR.inv hR.env hR.ms hbl hvs fun x w2 hI2 hx => ?_
    refine ⟨x, ι'.all Y.own w2, rfl, Iota.le_trans hI2.i0 (Iota.le_all hI2.rd), fun b o hb => ?_, fun b o y hy => ?_, hI2.below.to (fun _ h => h), ?_⟩
    · rw [Iota.all_not (fun h => by rcases h with h | h; exact absurd hb (Nat.not_lt.2 h); exact h)]; exact hI2.iB b o hb (fun h => h)
    · exact Iota.all_rd hI2.rd hy
    · have := hs.rel (fin_rel (Y := Y) (ar := std P fn.N none 0) (fun _ _ _ => rfl) hI2 hfin (hx fn.tys))
      rwa [ren_none] at this
  cases e' with
  | exit id => exact hq.elim
  | normal => exact ⟨.inl rfl, key hq⟩
  | ret => exact ⟨.inr rfl, key hq⟩

theorem ct_ok (mixed : P.follows .mixedOrders = true) {cx : Cx} (hcx : cx.Ok P) {func : Func} {fn : Fn} {ct : Ct} (hf : P.funcs[ct.f]? = some func) (htr : trF P func = some fn) (hent : Enters P ct.f)
    (body : D P fn.N none 0) (hbody : body.er = fn.body) (hnp : Nat.ble ct.ps.length fn.np = true) (hfn : ∀ x, fnE (kzO (ct.res.T Unit)) cx ar0 fn.res fn.tys ct.ps ct.res body some x = ct.fn x) : ct.Ok P := by
  intro x y hxy
  rw [← hfn x] at hxy
  unfold fnE at hxy
  rw [fVs_eq] at hxy
  have hlen : ∀ (ps : List SP) (x : spsT ps Unit), (spsV ps x).length = ps.length := by
    intro ps
    induction ps with
    | nil => intro x; rfl
    | cons p r ih => intro x; simp [spsV, ih]
  have hwp := kE_ok (Q := RetD (std P fn.N none 0) fn.res fn.tys (fun r => EV [] (ct.res.v y) r)) hcx hxy (fun e env nx bl ms hk => by
    have key : kRet.go (kzO (ct.res.T Unit)) ar0 fn.res fn.tys ct.res some env nx bl ms = some y → RetD.RetS (std P fn.N none 0) fn.res fn.tys (fun r => EV [] (ct.res.v y) r) ⟨env, ⟨nx, bl⟩, ms⟩ := by
      intro hg
      unfold kRet.go at hg
      unfold RetD.RetS
      split at hg <;> try (cases hg; done)
      rename_i bl' h1
      rw [h1]
      simp only
      split at hg <;> try (cases hg; done)
      rename_i vs h2
      rw [h2]
      simp only
      have e : fin (std P fn.N none 0) bl' 8 (mkRes (normL fn.tys vs)) = fin ar0 bl' 8 (mkRes (normL fn.tys vs)) := by unfold std; exact fin_ar
      rw [e]
      split at hg <;> try (cases hg; done)
      rename_i v h3
      rw [h3]
      simp only
      split at hg <;> try (cases hg; done)
      rename_i f h4
      cases hg
      exact (SP.rd_ev h4 ()).1
    cases e with
    | exit i => cases hk
    | normal => exact key hk
    | ret => exact key hk)
  rw [hbody] at hwp
  exact pcall_ofQ hf htr hent (drawOk mixed) (by rw [hlen]; exact Nat.le_of_ble_eq_true hnp) hwp
end
end Go.AM
