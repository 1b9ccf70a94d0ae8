/- Contracts of functions that write blocks of their caller, or hand back new ones. Recursion. -/
import Derived.Test.YtigglifniejbpaaAM34
set_option linter.unusedVariables false
set_option linter.unusedSimpArgs false
namespace Go.AM

/-- A function as a function of what it is handed: 'p' reads its arguments (slots 0, 1, ..) and their blocks, 'q' its result (slot 0) and the blocks behind the call. -/
structure Ht where
  f : Nat
  p : Pat
  q : Pat
  fn : p.T → Option q.T

def Ht.Ok (P : Program) (ht : Ht) : Prop := ∀ x y, ht.fn x = some y →
  acall P ht.f ((ht.p.E x).map (·.2)) ⟨ht.p.locs.length, ht.p.B x⟩ fun r H => r = get 0 (ht.q.E y) ∧ H = ⟨ht.p.locs.length + ht.q.locs.length, ht.q.B y⟩

section
variable {P : Program} {R : Type}

def Pat.rdP (no : R) (p : Pat) (env : Env) (nx : Nat) (bl : Blks) (k : List Nat → p.T → R) : R :=
  bldPi no env nx bl [] p.locs [] 0 fun π => match apartB π p.bl with
    | true => match envRd (A := blT p.bl Unit) π env p.env with
      | some f => match blRd (A := Unit) π nx bl p.bl with
        | some g => k π (f (g ()))
        | none => no
      | none => no
    | false => no

def nodupN : List Nat → Bool
  | [] => true
  | i :: r => match memN i r with
    | true => false
    | false => nodupN r

theorem nodupN_eq : ∀ {l : List Nat}, nodupN l = true → l.Nodup
  | [], _ => .nil
  | i :: r, h => by
    simp only [nodupN] at h
    split at h
    · cases h
    · rename_i hm
      exact List.nodup_cons.2 ⟨(fun hi => by rw [memN_iff.2 hi] at hm; cases hm), nodupN_eq h⟩

def boundN (n : Nat) : List Nat → Bool
  | [] => true
  | i :: r => match Nat.blt i n with
    | true => boundN n r
    | false => false

theorem boundN_eq {n : Nat} : ∀ {l : List Nat}, boundN n l = true → ∀ i ∈ l, i < n
  | [], _, i, hi => by simp at hi
  | j :: r, h, i, hi => by
    simp only [boundN] at h
    split at h
    · rename_i hj
      rcases List.mem_cons.1 hi with rfl | hi
      · have : i + 1 ≤ n := by simpa [Nat.blt] using hj
        omega
      · exact boundN_eq h i hi
    · cases h

def noLoop : List (Nat × BP) → Bool
  | [] => true
  | (_, .loop _ _ _ _ _ _ _ _) :: _ => false
  | (_, .arr _ _) :: r => noLoop r
  | (_, .cells _ _) :: r => noLoop r
  | (_, .dfr) :: r => noLoop r

theorem noLoop_eq {A : Type} : ∀ {ps : List (Nat × BP)} (x : blT ps A), noLoop ps = true → ∀ p ∈ blV ps x, ∀ st j d env ps as bd N, p.2 ≠ .loop st j d env ps as bd N
  | [], x, h, p, hp => by simp [blV] at hp
  | (s, b) :: r, x, h, p, hp => by
    simp only [blV, List.mem_cons] at hp
    intro st j d env ps as bd N
    rcases hp with rfl | hp
    · cases b with
      | loop => simp [noLoop] at h
      | arr => simp [BP.v]
      | cells => simp [BP.v]
      | dfr => simp [BP.v]
    · refine noLoop_eq _ ?_ p hp st j d env ps as bd N
      cases b <;> simp [noLoop] at h <;> exact h

/-- A call by such a contract. -/
def htCa (kz : Kz R) (no : R) (ht : Ht) (vs : List V) (nx : Nat) (bl : Blks) (K : V → Nat → Blks → R) : R :=
  match an (Nat.beq vs.length ht.p.env.length) (noLoop ht.p.bl) with
  | true => ht.p.rdP no (args 0 vs) nx bl fun π x => match an (nodupN π) (boundN (nx + π.length) π) with
    | true => kz.bd (ht.fn x) fun y => fN (π.length + ht.q.locs.length) fun n => ht.q.go n y fun env _ bl' _ => match renV (sig π nx n) 8 (get 0 env) with
      | some r' => match renBl (sig π nx n) bl' with
        | some blr => fBl (blr ++ bdelL π bl) fun bl => fN (nx + n) fun nx => K r' nx bl
        | none => kz.no
      | none => kz.no
    | false => no
  | false => no

theorem args_at : ∀ {vs : List V} {n i : Nat}, get i (args n vs) = if n ≤ i then vs.getD (i - n) .any else .any := args_get

theorem envV_len {A : Type} : ∀ {ps : List (Nat × SP)} {x : envT ps A}, (envV ps x).length = ps.length
  | [], _ => rfl
  | (_, _) :: r, x => by simp [envV, envV_len (ps := r)]

theorem EE_args {π : List Nat} {vs : List V} {env : Env} (hlen : vs.length = env.length) (hs : env.map (·.1) = List.range env.length) (h : EE π env (args 0 vs)) : EVL π (env.map (·.2)) vs := by
  refine ⟨by simp [hlen], fun i v u hv hu => ?_⟩
  rw [List.getElem?_map] at hv
  cases hp : env[i]? with
  | none => rw [hp] at hv; cases hv
  | some p =>
    rw [hp] at hv; cases hv
    have hi := (List.getElem?_eq_some_iff.1 hp).1
    have e1 : (env.map (·.1))[i]? = (List.range env.length)[i]? := by rw [hs]
    rw [List.getElem?_map, hp, List.getElem?_range hi] at e1
    simp only [Option.map_some, Option.some.injEq] at e1
    have := h p (List.mem_of_getElem? hp)
    rw [args_at, e1, if_pos (Nat.zero_le _)] at this
    simp only [Nat.sub_zero] at this
    have e2 : vs.getD i .any = u := by simp [List.getD, hu]
    rwa [e2] at this

theorem envV_slots' {A : Type} : ∀ {ps : List (Nat × SP)} {x : envT ps A}, (envV ps x).map (·.1) = ps.map (·.1)
  | [], _ => rfl
  | (_, _) :: r, x => by simp [envV, envV_slots' (ps := r)]

theorem Pat.E_len {p : Pat} {x : p.T} : (p.E x).length = p.env.length := envV_len
theorem Pat.E_slots {p : Pat} {x : p.T} : (p.E x).map (·.1) = p.env.map (·.1) := envV_slots'

/-- A contract whose argument slots are 0, 1, .. -/
def Ht.slots (ht : Ht) : Prop := ht.p.env.map (·.1) = List.range ht.p.env.length

theorem htCa_ok {ht : Ht} (hok : ht.Ok P) (hsl : ht.slots) {X : Type} {no : Option X} {vs : List V} {nx : Nat} {bl : Blks} {K : V → Nat → Blks → Option X} {r : X} (h : htCa (kzO X) no ht vs nx bl K = some r) :
    no = some r ∨ ∀ {Q : V → Heap → Prop}, (∀ v nx bl, K v nx bl = some r → Q v ⟨nx, bl⟩) → acall P ht.f vs ⟨nx, bl⟩ Q := by
  unfold htCa at h
  split at h
  · rename_i h0
    rw [an_iff] at h0
    have hlen := Nat.eq_of_beq_eq_true h0.1
    unfold Pat.rdP at h
    have key : ∀ {ls : List Lc} {π0 : List Nat} {b : Nat} {k : List Nat → Option X}, bldPi no (args 0 vs) nx bl [] ls π0 b k = some r → no = some r ∨ ∃ rr, rr.length = ls.length ∧ k (π0 ++ rr) = some r := by
      intro ls
      induction ls with
      | nil => intro π0 b k hk; exact .inr ⟨[], rfl, by simpa [bldPi] using hk⟩
      | cons l ls ih =>
        intro π0 b k hk
        simp only [bldPi] at hk
        split at hk
        · rename_i i hi
          rw [fN_eq, snoc_eq, fN_eq] at hk
          rcases ih hk with hk | ⟨rr, h1, h2⟩
          · exact .inl hk
          · exact .inr ⟨i :: rr, by simp [h1], by simpa using h2⟩
        · exact .inl hk
    rcases key h with h | ⟨π, hπ, h⟩
    · exact .inl h
    simp only [List.nil_append] at h
    split at h
    · rename_i hap
      split at h
      · rename_i f hf
        split at h
        · rename_i g hg
          split at h
          · rename_i hnb
            rw [an_iff] at hnb
            refine .inr fun {Q} hQ => ?_
            obtain ⟨y, hy, h⟩ := bindO_some h
            rw [fN_eq, Pat.go_eq] at h
            obtain ⟨h1, h2⟩ := envRd_ev hf (g ())
            obtain ⟨h3, h4⟩ := blRd_ev hg ()
            split at h <;> try (cases h; done)
            rename_i r' hr'
            split at h <;> try (cases h; done)
            rename_i blr hblr
            rw [fBl_eq, fN_eq] at h
            have hcall := hok _ _ hy
            rw [← hπ] at hcall
            have hB : ht.p.B (f (g ())) = blV ht.p.bl (g ()) := by unfold Pat.B; rw [h2]
            refine acall_frame (Q0 := fun r H => r = get 0 (ht.q.E y) ∧ H = ⟨π.length + ht.q.locs.length, ht.q.B y⟩) hcall ?_ ?_ ?_ (nodupN_eq hnb.1) (boundN_eq hnb.2) ?_
            · exact EE_args (env := envV ht.p.env (f (g ()))) (hlen.trans envV_len.symm) (envV_slots'.trans (hsl.trans (by rw [envV_len]))) h1
            · rw [hB]; exact h3
            · rw [hB]; exact noLoop_eq _ h0.2
            · rintro r n bl' ⟨rfl, e⟩
              cases e
              exact ⟨by omega, r', blr, hr', hblr, hQ _ _ _ h⟩
          · exact .inl h
        · exact .inl h
      · exact .inl h
    · exact .inl h
  · exact .inl h

def htsCa (kz : Kz R) (f : Nat) (vs : List V) (nx : Nat) (bl : Blks) (K : V → Nat → Blks → R) (no : R) : List Ht → R
  | [] => no
  | ht :: r => match Nat.beq ht.f f with
    | true => htCa kz (htsCa kz f vs nx bl K no r) ht vs nx bl K
    | false => htsCa kz f vs nx bl K no r

def HtsOk (P : Program) : List Ht → Prop
  | [] => True
  | c :: r => (c.Ok P ∧ c.slots) ∧ HtsOk P r

theorem htsCa_ok {X : Type} {no : Option X} {f : Nat} {vs : List V} {nx : Nat} {bl : Blks} {K : V → Nat → Blks → Option X} {r : X} : ∀ {hts : List Ht}, HtsOk P hts → htsCa (kzO X) f vs nx bl K no hts = some r →
    no = some r ∨ ∀ {Q : V → Heap → Prop}, (∀ v nx bl, K v nx bl = some r → Q v ⟨nx, bl⟩) → acall P f vs ⟨nx, bl⟩ Q
  | [], _, h => .inl h
  | ht :: hts, hok, h => by
    simp only [htsCa] at h
    split at h
    · rename_i hf
      have e := Nat.eq_of_beq_eq_true hf
      subst e
      rcases htCa_ok hok.1.1 hok.1.2 h with h | h
      · exact htsCa_ok hok.2 h
      · exact .inr h
    · exact htsCa_ok hok.2 h

/-- Calls by contracts over data, or over what is lent. -/
def mkCxH (cts : List Ct) (hts : List Ht) : Cx where
  pc kz f vs K := ctPc kz f vs K cts
  ca kz f vs nx bl K := htsCa kz f vs nx bl K (ctCa cts kz f vs nx bl K) hts
  rd kz _ _ _ _ _ := kz.no

theorem mkCxH_ok {cts : List Ct} {hts : List Ht} (h : CtsOk P cts) (h2 : HtsOk P hts) : (mkCxH cts hts).Ok P where
  pok hk := ctPc_ok h hk
  cok := by
    intro X f vs nx bl K r hk Q hQ
    rcases htsCa_ok h2 hk with hk | hk
    · exact (mkCx_ok h).cok hk hQ
    · exact hk hQ
  rok hk := by cases hk

/-- Results in other words. -/
theorem acall_ent {f : Nat} {vs : List V} {H : Heap} {Q : V → Heap → Prop} (h : acall P f vs H fun r H' => ∃ r'' H'' π, Ent2 H.next π ⟨[(0, r)], H', []⟩ ⟨[(0, r'')], H'', []⟩ ∧ Q r'' H'') : acall P f vs H Q :=
  ⟨h.1, fun Y ι μ w as hI hl => (h.2 Y ι μ w as hI hl).mono fun e w' ⟨v, ι', μ', r, H', h1, h2, h3, h4, h5, r'', H'', π, h6, h7⟩ => by
    let Y2 : Ctx := ⟨Y.w0, Y.ι0, fun i => if i < H.next then μ i else none, Y.ro, Y.x⟩
    have hI2 : Inv P Y2 ι' μ' H' w' := ⟨h4.below, h4.i0, h4.iB, h4.rd, (fun i L hL => by
      simp only [Y2] at hL
      split at hL
      · exact h3 _ _ hL
      · cases hL), h4.nx, h4.live, h4.inj, h4.lt⟩
    have hR : Rep P 1 Y2 ι' μ' ⟨[(0, r)], H', []⟩ { tmps := #[v], defers := [] } w' := ⟨(fun t => by
      rw [get_cons]
      split
      · rename_i e; subst e; exact h5
      · exact .any _), rfl, hI2, rfl⟩
    have hR2 := h6.rep (fun i hi => by simp only [Y2]; rw [if_neg (by omega)]) hR
    have hle : μ.le (μ'.ren π) := fun i L hL => by
      have hlt : i < H.next := by
        rcases Nat.lt_or_ge i H.next with h | h
        · exact h
        · rw [hI.nx i h] at hL; cases hL
      exact hR2.inv.m0 i L (by simp only [Y2]; rw [if_pos hlt]; exact hL)
    refine ⟨v, ι', μ'.ren π, r'', H'', h1, h2, hle, ⟨h4.below, h4.i0, h4.iB, h4.rd, Mu.le_trans hI.m0 hle, hR2.inv.nx, hR2.inv.live, hR2.inv.inj, hR2.inv.lt⟩, ?_, h7⟩
    have := hR2.env 0
    rw [get_cons, if_pos rfl] at this
    exact this⟩

/-- At the end of a function that hands back what lies in the heap. -/
def kRetH (kz : Kz R) (rs : List RV) (tys : List (Option Ty)) (K : V → Nat → Blks → R) : Kc R := fun e env nx bl ms => match e with
  | .exit _ => kz.no
  | .normal => go env nx bl ms
  | .ret => go env nx bl ms
where go (env : Env) (nx : Nat) (bl : Blks) (ms : List Nat) : R := match shutAll ms bl with
  | some bl => match resV ⟨env, ⟨nx, bl⟩, []⟩ rs with
    | some vs => fV (mkRes (normL tys vs)) fun v => K v nx bl
    | none => kz.no
  | none => kz.no

theorem kRetH_ok {X : Type} {rs : List RV} {tys : List (Option Ty)} {K : V → Nat → Blks → Option X} {r : X} {e : Ex} {env : Env} {nx : Nat} {bl : Blks} {ms : List Nat} (h : kRetH (kzO X) rs tys K e env nx bl ms = some r) {Q : V → Heap → Prop}
    (hQ : ∀ v nx bl, K v nx bl = some r → Q v ⟨nx, bl⟩) : RetH rs tys Q e ⟨env, ⟨nx, bl⟩, ms⟩ := by
  have key : kRetH.go (kzO X) rs tys K env nx bl ms = some r → RetH.RetS rs tys Q ⟨env, ⟨nx, bl⟩, ms⟩ := fun hg => by
    unfold kRetH.go at hg
    unfold RetH.RetS
    split at hg <;> try (cases hg; done)
    rename_i bl' h1
    simp only
    rw [h1]
    simp only
    split at hg <;> try (cases hg; done)
    rename_i vs h2
    rw [h2]
    rw [fV_eq] at hg
    exact hQ _ _ _ hg
  cases e with
  | exit i => cases h
  | normal => exact key h
  | ret => exact key h

/-- A function's body, from what it is handed. -/
def hfE {N k : Nat} (kz : Kz R) (cx : Cx) (ar : Ar) (pre : List Nat) (rs : List RV) (tys : List (Option Ty)) (p q : Pat) (body : D P N none k) (inr : q.T → R) (x : p.T) : R :=
  p.go k x fun env nx bl _ => kE kz cx ar body env nx bl [] (kRetH kz rs tys fun r nx bl => q.rd kz.no pre k [(0, r)] nx bl [] inr)

theorem args_eta : ∀ {env : Env} {n : Nat}, env.map (·.1) = List.range' n env.length → args n (env.map (·.2)) = env
  | [], n, _ => rfl
  | (s, v) :: r, n, h => by
    simp only [List.map_cons, List.length_cons, List.range'_succ, List.cons.injEq] at h
    simp only [List.map_cons, args]
    rw [args_eta h.2, h.1]

theorem ht_ok (mixed : P.follows .mixedOrders = true) {cx : Cx} (hcx : cx.Ok P) {func : Func} {fn : Fn} {ht : Ht} {k : Nat} (hk : ht.p.locs.length = k) (hf : P.funcs[ht.f]? = some func) (htr : trF P func = some fn) (hent : Enters P ht.f)
    (body : D P fn.N none k) (hbody : body.er = fn.body) (hnp : Nat.ble ht.p.env.length fn.np = true) (hsl : ht.slots) (hq : ∃ s, ht.q.env = [(0, s)]) (hqm : ht.q.ms = []) {pre : List Nat} (hpre : pre = List.range k)
    (hfn : ∀ x, hfE (kzO ht.q.T) cx ar0 pre fn.res fn.tys ht.p ht.q body some x = ht.fn x) : ht.Ok P := by
  intro x y hxy
  subst hpre
  rw [← hfn x] at hxy
  unfold hfE at hxy
  rw [Pat.go_eq] at hxy
  subst hk
  refine acall_ent ?_
  refine acall_of hf htr hent (drawOk mixed) (by rw [List.length_map, Pat.E_len]; exact Nat.le_of_ble_eq_true hnp) ?_
  have ha : args 0 ((ht.p.E x).map (·.2)) = ht.p.E x := args_eta (by rw [Pat.E_slots, Pat.E_len, ← List.range_eq_range']; exact hsl)
  rw [ha, ← hbody]
  refine kE_ok hcx hxy fun e env nx bl ms hk => ?_
  refine kRetH_ok hk fun v nx bl hk => ?_
  obtain ⟨y', π, h1, h2⟩ := Pat.rd_ent hk
  cases h1
  obtain ⟨s, hs⟩ := hq
  have he : ht.q.E y = [(0, get 0 (ht.q.E y))] := by
    have h1 : (ht.q.E y).map (·.1) = [0] := by rw [Pat.E_slots, hs]; rfl
    cases h2 : ht.q.E y with
    | nil => rw [h2] at h1; cases h1
    | cons a r =>
      obtain ⟨a1, a2⟩ := a
      rw [h2] at h1
      simp only [List.map_cons, List.cons.injEq, List.map_eq_nil_iff] at h1
      obtain ⟨rfl, rfl⟩ := h1
      rw [get_cons, if_pos rfl]
  refine ⟨_, _, π, ?_, rfl, rfl⟩
  have e : Pat.st ht.p.locs.length ht.q y = ⟨[(0, get 0 (ht.q.E y))], ⟨ht.p.locs.length + ht.q.locs.length, ht.q.B y⟩, []⟩ := by
    unfold Pat.st; rw [← he, hqm]
  rw [← e]; exact h2

/-! Recursion. -/

def apx {A B : Type} (F : (A → Option B) → A → Option B) : Nat → A → Option B
  | 0 => fun _ => none
  | n + 1 => F (apx F n)

/-- What recursion comes to, if it ends. -/
noncomputable def fixO {A B : Type} (F : (A → Option B) → A → Option B) (x : A) : Option B := by
  classical exact if h : ∃ (N : Nat) (y : B), ∀ n, N ≤ n → apx F n x = some y then some h.choose_spec.choose else none

theorem fixO_some {A B : Type} {F : (A → Option B) → A → Option B} {x : A} {y : B} (h : fixO F x = some y) : ∃ n, apx F n x = some y := by
  unfold fixO at h
  split at h
  · rename_i hx; cases h; exact ⟨hx.choose, hx.choose_spec.choose_spec _ (Nat.le_refl _)⟩
  · cases h

theorem fixO_of {A B : Type} {F : (A → Option B) → A → Option B} {x : A} {y : B} {N : Nat} (h : ∀ n, N ≤ n → apx F n x = some y) : fixO F x = some y := by
  unfold fixO
  have hx : ∃ (N : Nat) (y : B), ∀ n, N ≤ n → apx F n x = some y := ⟨N, y, h⟩
  rw [dif_pos hx]
  have h1 := hx.choose_spec.choose_spec (max N hx.choose) (Nat.le_max_right _ _)
  rw [h _ (Nat.le_max_left _ _)] at h1
  exact h1.symm

/-- Recursion, by a measure. -/
theorem fixO_rule {A B : Type} {F : (A → Option B) → A → Option B} (m : A → Nat) (Inv : A → Prop) (spec : A → B)
    (h : ∀ rec x, Inv x → (∀ x', Inv x' → m x' < m x → rec x' = some (spec x')) → F rec x = some (spec x)) : ∀ x, Inv x → fixO F x = some (spec x) := by
  have key : ∀ n x, Inv x → m x < n → apx F n x = some (spec x) := by
    intro n
    induction n with
    | zero => intro x _ hm; omega
    | succ n ih => intro x hx hm; exact h _ x hx fun x' hx' hm' => ih x' hx' (by omega)
  intro x hx
  exact fixO_of (N := m x + 1) fun n hn => key n x hx (by omega)

theorem ht_fix {f : Nat} {p q : Pat} {F : (p.T → Option q.T) → p.T → Option q.T} (h : ∀ rec, Ht.Ok P ⟨f, p, q, rec⟩ → Ht.Ok P ⟨f, p, q, F rec⟩) : Ht.Ok P ⟨f, p, q, fixO F⟩ := by
  have key : ∀ n, Ht.Ok P ⟨f, p, q, apx F n⟩ := by
    intro n
    induction n with
    | zero => intro x y hxy; cases hxy
    | succ n ih => exact h _ ih
  intro x y hxy
  obtain ⟨n, hn⟩ := fixO_some hxy
  exact key n x y hn

theorem ct_fix {f : Nat} {ps : List SP} {res : SP} {F : (spsT ps Unit → Option (res.T Unit)) → spsT ps Unit → Option (res.T Unit)} (h : ∀ rec, Ct.Ok P ⟨f, ps, res, rec⟩ → Ct.Ok P ⟨f, ps, res, F rec⟩) : Ct.Ok P ⟨f, ps, res, fixO F⟩ := by
  have key : ∀ n, Ct.Ok P ⟨f, ps, res, apx F n⟩ := by
    intro n
    induction n with
    | zero => intro x y hxy; cases hxy
    | succ n ih => exact h _ ih
  intro x y hxy
  obtain ⟨n, hn⟩ := fixO_some hxy
  exact key n x y hn
end
end Go.AM
