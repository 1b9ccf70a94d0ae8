/- Loops over functions, as functions of their data. -/
import Derived.Test.YtigglifniejbpaaAM32
set_option linter.unusedVariables false
set_option linter.unusedSimpArgs false
namespace Go.AM
section
variable {P : Program} {N : Nat} {out : Option Nat} {base : Nat} {π : List Nat}

theorem awp_ent {c : Code} {S S' : St} {Q : Ex → St → Prop} (h : awp P N out base c S' Q) (he : Ent2 base π S S') : awp P N out base c S Q :=
  fun Y ι μ a w ho hb hR => h Y ι _ a w ho hb (he.rep hb hR)

theorem awp_weak {c : Code} {S : St} {Q : Ex → St → Prop} (h : awp P N out base c S fun e S' => ∃ S'' π, Ent2 base π S' S'' ∧ Q e S'') : awp P N out base c S Q :=
  fun Y ι μ a w ho hb hR => wpIn_mono (h Y ι μ a w ho hb hR) fun e a w hp => by
    obtain ⟨ι, μ, S', e', h1, h2, S'', π, h3, h4⟩ := hp
    exact ⟨ι, _, S'', e', h3.rep hb h1, h2, h4⟩

def bindPK {R : Type} : List Nat → List V → Env → (Env → R) → R
  | p :: ps, v :: vs, env, k => fV v fun v => bindPK ps vs ((p, v) :: env) k
  | _, _, env, k => k env

theorem bindPK_eq {R : Type} : ∀ (ps : List Nat) (vs : List V) (env : Env) (k : Env → R), bindPK ps vs env k = k (bindP ps vs env)
  | [], vs, env, k => by cases vs <;> rfl
  | p :: ps, [], env, k => rfl
  | p :: ps, v :: vs, env, k => by simp only [bindPK, fV_eq]; rw [bindPK_eq ps vs]; rfl

/-- A round's end. -/
def rEndK {R : Type} (kz : Kz R) (rid : Nat) (K : V → Nat → Blks → R) : Kc R := fun e _ nx bl _ => match bget rid bl with
  | some (.loop .busy _ d env ps as bd N) => bdelK rid bl fun bl => match e with
    | .normal => K (.tf true) nx ((rid, .loop .ready none d env ps as bd N) :: bl)
    | .exit i => K (.tf false) nx ((rid, .loop .done (some (.exit i)) d env ps as bd N) :: bl)
    | .ret => K (.tf false) nx ((rid, .loop .done (some .ret) d env ps as bd N) :: bl)
  | _ => kz.no

theorem rEndK_ok {X : Type} {rid : Nat} {K : V → Nat → Blks → Option X} {r : X} {e : Ex} {env : Env} {nx : Nat} {bl : Blks} {ms : List Nat} (h : rEndK (kzO X) rid K e env nx bl ms = some r) {Q : V → Heap → Prop}
    (hQ : ∀ v nx bl, K v nx bl = some r → Q v ⟨nx, bl⟩) : roundEnd rid Q e ⟨env, ⟨nx, bl⟩, ms⟩ := by
  unfold rEndK at h
  unfold roundEnd
  simp only
  split at h <;> try (cases h; done)
  rename_i hb
  rw [hb]
  simp only
  rw [bdelK_eq] at h
  cases e <;> exact hQ _ _ _ h

/-- A round of a loop over a function: what a call of its yield comes to. -/
def rdK {R : Type} (kz : Kz R) (cx : Cx) (ar : Ar) (rid base3 : Nat) (ps : List Nat) (asD bdD : D P N (some rid) base3) (id : Nat) (vs : List V) (nx : Nat) (bl : Blks) (K : V → Nat → Blks → R) : R :=
  match an (Nat.beq id rid) (Nat.beq nx base3) with
  | true => match bget rid bl with
    | some (.loop .ready none _ env ps' as bd N') => match an (Nat.beq vs.length ps'.length) (an (Nat.beq N' N) (an (beqC as asD.er) (beqC bd bdD.er))) with
      | true => bindPK ps' vs env fun env => kE kz cx ar asD env nx bl [] fun e env nx bl ms => match e with
        | .normal => match bget rid bl with
          | some (.loop .ready none d' env' ps' as' bd' N') => bdelK rid bl fun bl => kE kz cx ar bdD env nx ((rid, .loop .busy none d' env' ps' as' bd' N') :: bl) ms (rEndK kz rid K)
          | _ => kz.no
        | _ => kz.no
      | false => kz.no
    | _ => kz.no
  | false => kz.no

theorem rdK_ok (mixed : P.follows .mixedOrders = true) {cx : Cx} (hcx : cx.Ok P) {rid base3 : Nat} {ps : List Nat} {asD bdD : D P N (some rid) base3} {id : Nat} {vs : List V} {nx : Nat} {bl : Blks} {X : Type}
    {K : V → Nat → Blks → Option X} {r : X} (h : rdK (kzO X) cx ar0 rid base3 ps asD bdD id vs nx bl K = some r) {Q : V → Heap → Prop} (hQ : ∀ v nx bl, K v nx bl = some r → Q v ⟨nx, bl⟩) : around P id vs ⟨nx, bl⟩ Q := by
  unfold rdK at h
  split at h <;> try (cases h; done)
  rename_i h1
  rw [an_iff] at h1
  have e1 := Nat.eq_of_beq_eq_true h1.1
  have e2 := Nat.eq_of_beq_eq_true h1.2
  subst e1; subst e2
  split at h <;> try (cases h; done)
  rename_i d env ps' as bd N' hb
  split at h <;> try (cases h; done)
  rename_i h2
  simp only [an_iff] at h2
  obtain ⟨c1, c2, c3, c4⟩ := h2
  have e3 := Nat.eq_of_beq_eq_true c2
  have e4 := beqC_eq c3
  have e5 := beqC_eq c4
  have e6 := Nat.eq_of_beq_eq_true c1
  subst e3; subst e4; subst e5
  refine around_of (fun N => drawOk mixed) ?_
  unfold roundS
  simp only
  rw [hb]
  simp only
  refine ⟨e6, ?_⟩
  rw [bindPK_eq] at h
  refine kE_ok hcx h fun e env nx bl ms h => ?_
  cases e with
  | exit i => cases h
  | ret => cases h
  | normal =>
    simp only at h ⊢
    split at h <;> try (cases h; done)
    rename_i d' env' ps2 as' bd' N2 hb2
    rw [hb2]
    simp only
    rw [bdelK_eq] at h
    exact kE_ok hcx h fun e env nx bl ms h => rEndK_ok h hQ

/-- Calls of an iterator: yields are rounds. -/
def itCx (cx : Cx) (rd : {R : Type} → Kz R → Nat → List V → Nat → Blks → (V → Nat → Blks → R) → R) : Cx where
  pc := cx.pc
  ca := cx.ca
  rd := rd

theorem itCx_ok {cx : Cx} (hcx : cx.Ok P) {rd : {R : Type} → Kz R → Nat → List V → Nat → Blks → (V → Nat → Blks → R) → R}
    (h : ∀ {X : Type} {id : Nat} {vs : List V} {nx : Nat} {bl : Blks} {K : V → Nat → Blks → Option X} {r : X}, rd (kzO X) id vs nx bl K = some r → ∀ {Q : V → Heap → Prop}, (∀ v nx bl, K v nx bl = some r → Q v ⟨nx, bl⟩) → around P id vs ⟨nx, bl⟩ Q) :
    (itCx cx rd).Ok P := ⟨fun hk => hcx.pok hk, fun hk => hcx.cok hk, fun hk => h hk⟩

/-- At an iterator's end. -/
def itRet {R : Type} (kz : Kz R) (rs : List RV) (K : Nat → Blks → R) : Kc R := fun e env nx bl ms => match e with
  | .exit _ => kz.no
  | .normal => go env nx bl ms
  | .ret => go env nx bl ms
where go (env : Env) (nx : Nat) (bl : Blks) (ms : List Nat) : R := match shutAll ms bl with
  | some bl => match resV ⟨env, ⟨nx, bl⟩, []⟩ rs with
    | some _ => K nx bl
    | none => kz.no
  | none => kz.no

theorem itRet_ok {X : Type} {rs : List RV} {tys : List (Option Ty)} {K : Nat → Blks → Option X} {r : X} {e : Ex} {env : Env} {nx : Nat} {bl : Blks} {ms : List Nat} (h : itRet (kzO X) rs K e env nx bl ms = some r) {Q : V → Heap → Prop}
    (hQ : ∀ v nx bl, K nx bl = some r → Q v ⟨nx, bl⟩) : RetH rs tys Q e ⟨env, ⟨nx, bl⟩, ms⟩ := by
  have key : itRet.go (kzO X) rs K env nx bl ms = some r → RetH.RetS rs tys Q ⟨env, ⟨nx, bl⟩, ms⟩ := fun hg => by
    unfold itRet.go at hg
    unfold RetH.RetS
    split at hg <;> try (cases hg; done)
    rename_i bl' h1
    simp only
    rw [h1]
    simp only
    split at hg <;> try (cases hg; done)
    rename_i vs h2
    rw [h2]
    exact hQ _ _ _ hg
  cases e with
  | exit i => cases h
  | normal => exact key h
  | ret => exact key h

/-- Behind a loop over a function. -/
def aftK {R : Type} (kz : Kz R) (rid : Nat) (env : Env) (ms : List Nat) (K : Kc R) (nx : Nat) (bl : Blks) : R := match bget rid bl with
  | some (.loop st j _ _ _ _ _ _) => match st with
    | .busy => kz.no
    | _ => bdelK rid bl fun bl => match j with
      | none => K .normal env nx bl ms
      | some (.exit i) => K (.exit i) env nx bl ms
      | some .ret => K .ret env nx bl ms
      | some .normal => kz.no
  | _ => kz.no

theorem aftK_ok {X : Type} {rid : Nat} {S : St} {ms : List Nat} {K : Kc (Option X)} {nx : Nat} {bl : Blks} {r : X} (h : aftK (kzO X) rid S.env ms K nx bl = some r) {Q : Ex → St → Prop}
    (hQ : ∀ e env nx bl ms, K e env nx bl ms = some r → Q e ⟨env, ⟨nx, bl⟩, ms⟩) : afterLoop rid ms S Q ⟨nx, bl⟩ := by
  unfold aftK at h
  unfold afterLoop
  simp only
  split at h <;> try (cases h; done)
  rename_i st j _ _ _ _ _ _ hb
  rw [hb]
  simp only
  split at h
  · cases h
  · rename_i hst
    rw [bdelK_eq] at h
    have : jumpK j ⟨S.env, ⟨nx, bdel rid bl⟩, ms⟩ Q := by
      split at h
      · exact hQ _ _ _ _ _ h
      · exact hQ _ _ _ _ _ h
      · exact hQ _ _ _ _ _ h
      · cases h
    cases st <;> first | exact this | exact absurd rfl hst

/-- All of a loop over a function, from a pattern's state. 'fid': the iterator's number. -/
def rangeE {R : Type} (kz : Kz R) (cx : Cx) (ar : Ar) (pre : List Nat) (p : Pat) (xs : Outs) (f : O) (ps : List Nat) (as bd : C) (rs : List RV) (np : Nat) (fid : Nat) {Nit base2 : Nat} (itD : D P Nit none base2) (inr : xs.T → R) (x : p.T) : R :=
  fN (base + p.locs.length) fun nx => p.go nx x fun env nx bl ms => match f.ev env with
  | .fn fid' first cap => match an (Nat.beq fid' fid) (Nat.ble (first ++ [V.any] ++ cap).length np) with
    | true => match out with
      | none => fVs (first ++ [.yl (nx + 1)] ++ cap) fun vs => kE kz cx ar itD (args 0 vs) base2 ((nx + 1, .loop .ready none nx env ps as bd N) :: (nx, .dfr) :: bl) []
          (itRet kz rs (aftK kz (nx + 1) env (nx :: ms) fun e env nx bl ms => xs.rd kz.no pre base e env nx bl ms inr))
      | some id0 => match bget id0 bl with
        | some (.loop _ _ d _ _ _ _ _) => fVs (first ++ [.yl nx] ++ cap) fun vs => kE kz cx ar itD (args 0 vs) base2 ((nx, .loop .ready none d env ps as bd N) :: bl) []
          (itRet kz rs (aftK kz nx env ms fun e env nx bl ms => xs.rd kz.no pre base e env nx bl ms inr))
        | _ => kz.no
    | false => kz.no
  | _ => kz.no

/-- Code that is never come to. -/
def deadLoop (c : C) : LoopS P N out base where
  c := c
  run kz _ _ _ _ _ := kz.no
  ok h := by cases h
def deadRange (f : O) (ps : List Nat) (a b : C) : RangeS P N out base where
  f := f
  ps := ps
  a := a
  b := b
  run kz _ _ _ _ _ := kz.no
  ok h := by cases h

/-- A loop over a function out of its iterator's code, whose yields are rounds. -/
noncomputable def mkRange (mixed : P.follows .mixedOrders = true) (cx : Cx) (hcx : cx.Ok P) (pre : List Nat) (hpre : pre = List.range base) (p : Pat) (xs : Outs) (f : O) (ps : List Nat) (hps : ps.all (Nat.blt · N) = true) (as bd : C)
    (fid : Nat) {func : Func} {fn : Fn} (hf : P.funcs[fid]? = some func) (htr : trF P func = some fn) (hent : Enters P fid) (base2 : Nat) (hbase2 : base2 = base + p.locs.length + (match out with | none => 2 | some _ => 1))
    (itD : D P fn.N none base2) (hit : itD.er = fn.body) (RF : p.T → Option xs.T)
    (hRF : ∀ x, rangeE (N := N) (out := out) (base := base) (kzO xs.T) cx ar0 pre p xs f ps as bd fn.res fn.np fid itD some x = RF x) : RangeS P N out base where
  f := f
  ps := ps
  a := as
  b := bd
  run kz env nx bl ms K := p.rd kz.no pre base env nx bl ms fun x => kz.bd (RF x) fun b => xs.go kz base b K
  ok := by
    intro X env nx bl ms K r h Q hQ
    subst hpre
    obtain ⟨x, π, h1, h2⟩ := Pat.rd_ent h
    obtain ⟨b, h3, h4⟩ := bd_some h1
    have h5 := Outs.go_st h4
    have hq := hQ _ _ _ _ _ h5
    rw [← hRF x] at h3
    unfold rangeE at h3
    rw [fN_eq, Pat.go_eq] at h3
    intro fo pso ao bo q1 q2 q3 q4
    refine awp_ent (awp_weak ?_) h2
    refine rangeF_rule (K := fun e S' => ∃ S'' π, Ent2 base π S' S'' ∧ Q e S'') ?_ fo pso ao bo q1 q2 q3 q4
    refine ⟨hps, ?_⟩
    cases hfe : f.ev (p.E x) with
    | fn fid' first cap => ?_
    | _ => rw [hfe] at h3; cases h3
    have hfe' : f.ev (p.st base x).env = .fn fid' first cap := hfe
    rw [hfe']
    rw [hfe] at h3
    simp only at h3 ⊢
    split at h3 <;> try (cases h3; done)
    rename_i hc
    rw [an_iff] at hc
    have e1 := Nat.eq_of_beq_eq_true hc.1
    have e2 := Nat.le_of_ble_eq_true hc.2
    subst e1
    have hlen : ∀ v : V, (first ++ [v] ++ cap).length ≤ fn.np := fun v => by simpa using e2
    have hout : ∀ e env nx bl ms, xs.rd none (List.range base) base e env nx bl ms some = some b → ∃ S'' π, Ent2 base π ⟨env, ⟨nx, bl⟩, ms⟩ S'' ∧ Q e S'' := fun e env nx bl ms hk => by
      obtain ⟨y, π, r1, r2, r3⟩ := Outs.rd_ent hk
      cases r1
      exact ⟨_, π, r3, by rw [r2]; exact hq⟩
    cases out with
    | none =>
      simp only at h3 hbase2 ⊢
      rw [fVs_eq] at h3
      subst hbase2
      refine acall_of hf htr hent (drawOk mixed) (hlen _) ?_
      rw [← hit]
      refine kE_ok hcx h3 fun e env nx bl ms hk => ?_
      exact itRet_ok hk fun v nx bl hk => aftK_ok (S := p.st base x) hk hout
    | some id0 =>
      simp only at h3 hbase2 ⊢
      split at h3 <;> try (cases h3; done)
      rename_i hb
      rw [fVs_eq] at h3
      have hb' : bget id0 (p.st base x).H.bl = _ := hb
      simp only [Pat.st] at hb' ⊢
      rw [hb']
      simp only
      subst hbase2
      refine acall_of hf htr hent (drawOk mixed) (hlen _) ?_
      rw [← hit]
      refine kE_ok hcx h3 fun e env nx bl ms hk => ?_
      exact itRet_ok hk fun v nx bl hk => aftK_ok (S := p.st base x) hk hout
end
end Go.AM
