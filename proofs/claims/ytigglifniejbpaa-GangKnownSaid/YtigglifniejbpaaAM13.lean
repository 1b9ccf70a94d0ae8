/- Each operation of the small machine is the model's: slices of slices; the sum. -/
import Derived.Test.YtigglifniejbpaaAM12
set_option linter.unusedVariables false
set_option linter.unusedSimpArgs false
namespace Go.AM
section
variable {P : Program} {Y : Ctx} {ι ι' : Iota} {μ μ' : Mu} {H : Heap} {w w' : World}
  {c1 : Nat → List V → Heap → (V → Heap → Prop) → Prop} {c2 : Nat → List V → V → Prop} {c3 : C → St → (Ex → St → Prop) → Prop}
  {c4 : Nat → List V → Heap → (V → Heap → Prop) → Prop} {c5 : O → List Nat → C → C → St → (Ex → St → Prop) → Prop}

theorem intLit_rel {v : V} {z : Int} {x : Value} (h : intLit v = some z) (hr : Rel ι μ v x) : ∃ k, x = .int k z := by
  cases v <;> simp [intLit] at h
  subst h; cases hr; exact ⟨_, rfl⟩

theorem optInt_rel {env : List (Nat × V)} {a : Act} (he : EnvR ι μ env a.tmps) {d z : Int} {o : Option O} {oo : Option Operand} (ht : trOO oo = some o) (h : optInt env d o = some z) :
    (oo = none ∧ z = d) ∨ ∃ x k, oo = some x ∧ a.eval x = .int k z := by
  cases oo with
  | none => cases ht; simp [optInt] at h; exact .inl ⟨rfl, h.symm⟩
  | some x =>
    simp only [trOO] at ht
    cases hx : trO x with
    | none => simp [hx] at ht
    | some y =>
      simp [hx] at ht; subst ht
      simp only [optInt] at h
      obtain ⟨k, hk⟩ := intLit_rel h (trO_rel he hx)
      exact .inr ⟨x, k, rfl, hk⟩

theorem slice_sound {env : List (Nat × V)} {a : Act} (he : EnvR ι μ env a.tmps) {t e : TypeId} {esz : Nat} (ht : P.underlying t = some (.slice e)) (hsz : sizeT P e = some esz) {x : O} {px : Value} (hx : Rel ι μ (x.ev env) px)
    {lo hi mx : Option O} {lo' hi' mx' : Option Operand} (h1 : trOO lo' = some lo) (h2 : trOO hi' = some hi) (h3 : trOO mx' = some mx) {bl : Blks} {n : Nat} {ob : List Bool} {v : V} {u : Upd}
    (hev : evI (mkAr c1 c2 c3 c4 c5) (.slice esz x lo hi mx) env bl n = some (ob, v, u)) (hob : AllT ob) :
    u = [] ∧ ∃ y, (Instr.sliceAt t px (lo'.map a.eval) (hi'.map a.eval) (mx'.map a.eval)).run P w = .ok y w ∧ Rel ι μ v y := by
  have hsize : ∀ w : World, (sizeOf e).run P w = .ok esz w := fun w => by
    unfold sizeT at hsz
    cases hq : P.info? e with
    | none => simp [hq] at hsz
    | some i => simp [hq] at hsz; subst hsz; simp [sizeOf, typeInfo, hq]
  -- the run, between bounds
  have run : ∀ (base : Option Addr) (len cap : Nat) (l h : Nat), (∃ z : Int, z.toNat = l ∧ 0 ≤ z ∧ ((lo' = none ∧ z = 0) ∨ ∃ x k, lo' = some x ∧ a.eval x = .int k z)) →
      (∃ z : Int, z.toNat = h ∧ 0 ≤ z ∧ ((hi' = none ∧ z = len) ∨ ∃ x k, hi' = some x ∧ a.eval x = .int k z)) → l ≤ h → h ≤ len → len ≤ cap → mx' = none →
      (Instr.sliceAt t (.slice base len cap) (lo'.map a.eval) (hi'.map a.eval) (mx'.map a.eval)).run P w = .ok (.slice (if cap = l then base else base.map (·.add (l * esz))) (h - l) (cap - l)) w := by
    intro base len cap l h hl hh hlh hhl hlc hm
    subst hm
    obtain ⟨zl, rfl, hl0, hl⟩ := hl
    obtain ⟨zh, rfl, hh0, hh⟩ := hh
    simp only [Instr.sliceAt, Instr.slice, Sem.run_bind, run_underlying ht, Result.andThen_ok, Instr.sliceBounds]
    rcases hl with ⟨rfl, rfl⟩ | ⟨xl, kl, rfl, hl⟩ <;> rcases hh with ⟨rfl, rfl⟩ | ⟨xh, kh, rfl, hh⟩
    · simp [hsize]
    · have q1 : zh ≤ (cap : Int) := by omega
      simp [hsize, hh, Instr.sliceBound, asIntOf, hh0, q1]
    · have q1 : zl ≤ (len : Int) := by omega
      simp [hsize, hl, Instr.sliceBound, asIntOf, hl0, q1]
    · have q1 : zh ≤ (cap : Int) := by omega
      have q2 : zl ≤ zh := by omega
      simp [hsize, hl, hh, Instr.sliceBound, asIntOf, hl0, hh0, q1, q2]
      intro hc; omega
  simp only [evI] at hev
  split at hev
  · rename_i mO
    split at hev <;> try (cases hev; done)
    rename_i hO
    split at hev <;> try (cases hev; done)
    rename_i za zb zc hza hzb hzc
    -- the run with a bound on the capacity: nothing is left
    have fin : ∀ (base : Option Addr) (len cap : Nat), za = 0 → zb = 0 → zc = 0 → (Instr.sliceAt t (.slice base len cap) (lo'.map a.eval) (hi'.map a.eval) (mx'.map a.eval)).run P w = .ok (.slice base 0 0) w := by
      intro base len cap e1 e2 e3
      subst e1; subst e2; subst e3
      have g1 := optInt_rel he (d := 0) h1 hzc
      have g2 : ∃ x k, hi' = some x ∧ a.eval x = .int k 0 := by
        rcases optInt_rel he (d := 1) h2 (z := 0) (by simpa [optInt] using hzb) with ⟨e, e'⟩ | h
        · cases e'
        · exact h
      have g3 : ∃ x k, mx' = some x ∧ a.eval x = .int k 0 := by
        rcases optInt_rel he (d := 1) h3 (z := 0) (by simpa [optInt] using hza) with ⟨e, e'⟩ | h
        · cases e'
        · exact h
      obtain ⟨xh, kh, rfl, hh⟩ := g2
      obtain ⟨xm, km, rfl, hm⟩ := g3
      simp only [Instr.sliceAt, Instr.slice, Sem.run_bind, run_underlying ht, Result.andThen_ok, Instr.sliceBounds]
      rcases g1 with ⟨rfl, _⟩ | ⟨xl, kl, rfl, hl⟩
      · simp [hsize, hh, hm, Instr.sliceBound, asIntOf]
      · simp [hsize, hh, hm, hl, Instr.sliceBound, asIntOf]
    have obs : ob = [za == 0, zb == 0, zc == 0] → za = 0 ∧ zb = 0 ∧ zc = 0 := fun e => by
      subst e
      have e1 := hob _ (List.mem_cons_self)
      have e2 := hob _ (List.mem_cons_of_mem _ (List.mem_cons_self))
      have e3 := hob _ (List.mem_cons_of_mem _ (List.mem_cons_of_mem _ (List.mem_cons_self)))
      simp at e1 e2 e3; exact ⟨e1, e2, e3⟩
    split at hev <;> try (cases hev; done)
    · rename_i hxe; rw [hxe] at hx
      cases hev
      obtain ⟨e1, e2, e3⟩ := obs rfl
      cases hx with
      | sl => exact ⟨rfl, _, fin _ _ _ e1 e2 e3, .nsl _⟩
      | sl0 => exact ⟨rfl, _, fin _ _ _ e1 e2 e3, .nsl _⟩
    · rename_i hxe; rw [hxe] at hx
      cases hev
      obtain ⟨e1, e2, e3⟩ := obs rfl
      cases hx with
      | lst _ _ _ hd =>
        obtain ⟨b, cap, e, _⟩ := hd
        cases e
        exact ⟨rfl, _, fin _ _ _ e1 e2 e3, .nsl _⟩
    · rename_i hxe; rw [hxe] at hx
      cases hev
      obtain ⟨e1, e2, e3⟩ := obs rfl
      cases hx with
      | nsl => exact ⟨rfl, _, fin _ _ _ e1 e2 e3, .nsl _⟩
  · have hmx : mx' = none := by
      cases mx' with
      | none => rfl
      | some q => simp only [trOO] at h3; cases hq : trO q <;> simp [hq] at h3
    split at hev <;> try (cases hev; done)
    · rename_i id te l len hxe
      rw [hxe] at hx
      split at hev <;> try (cases hev; done)
      rename_i hsz'
      split at hev <;> try (cases hev; done)
      rename_i za zb hza hzb
      cases hev
      have e1 := hob _ (List.mem_cons_self)
      have e2 := hob _ (List.mem_cons_of_mem _ (List.mem_cons_self))
      have e3 := hob _ (List.mem_cons_of_mem _ (List.mem_cons_of_mem _ (List.mem_cons_self)))
      simp only [decide_eq_true_eq] at e1 e2 e3
      have e3' : zb ≤ (len : Int) := e3
      have g1 := optInt_rel he h1 hza
      have g2 := optInt_rel he h2 hzb
      refine ⟨rfl, ?_⟩
      cases hx with
      | sl0 _ _ _ base =>
        refine ⟨_, run base 0 0 za.toNat zb.toNat ⟨za, rfl, e1, g1⟩ ⟨zb, rfl, by omega, g2⟩ (by omega) (by omega) (by omega) hmx, ?_⟩
        have ha : za.toNat = 0 := by omega
        have hb : zb.toNat = 0 := by omega
        simp only [ha, hb, Nat.sub_self, if_true]
        exact .sl0 _ _ _ _
      | sl _ _ _ _ cap L hL q1 q2 q3 =>
        refine ⟨_, run _ len cap za.toNat zb.toNat ⟨za, rfl, e1, g1⟩ ⟨zb, rfl, by omega, g2⟩ (by omega) (by omega) q1 hmx, ?_⟩
        by_cases hc : cap = za.toNat
        · rw [if_pos hc, show zb.toNat - za.toNat = 0 by omega, show cap - za.toNat = 0 by omega]
          exact .sl0 _ _ _ _
        · rw [if_neg hc]
          have := Rel.sl (ι := ι) id te (l + za.toNat) (zb.toNat - za.toNat) (cap - za.toNat) L hL (by omega)
            (by rw [show l + za.toNat + (cap - za.toNat) = l + cap by omega]; exact q2) (by omega)
          simp only [Option.map_some, Addr.add_mid]
          rw [Nat.add_mul, ← Nat.add_assoc, hsz'] at this
          rw [hsz']; exact this
    · rename_i te xs hxe
      rw [hxe] at hx
      split at hev <;> try (cases hev; done)
      rename_i hsz'
      split at hev <;> try (cases hev; done)
      rename_i za zb hza hzb
      cases hev
      have e1 := hob _ (List.mem_cons_self)
      have e2 := hob _ (List.mem_cons_of_mem _ (List.mem_cons_self))
      have e3 := hob _ (List.mem_cons_of_mem _ (List.mem_cons_of_mem _ (List.mem_cons_self)))
      simp only [decide_eq_true_eq] at e1 e2 e3
      have e3' : zb ≤ (xs.length : Int) := e3
      have g1 := optInt_rel he h1 hza
      have g2 := optInt_rel he h2 hzb
      refine ⟨rfl, ?_⟩
      cases hx with
      | lst _ _ _ hd =>
        obtain ⟨base, cap, e, hle, hd⟩ := hd
        cases e
        refine ⟨_, run base xs.length cap za.toNat zb.toNat ⟨za, rfl, e1, g1⟩ ⟨zb, rfl, by omega, g2⟩ (by omega) (by omega) hle hmx, ?_⟩
        have hlen : ((xs.drop za.toNat).take (zb.toNat - za.toNat)).length = zb.toNat - za.toNat := by simp; omega
        refine .lst _ _ _ ⟨_, _, by rw [hlen], by omega, ?_⟩
        by_cases hz : zb.toNat - za.toNat = 0
        · left; rw [hz]; simp
        · right
          rcases hd with rfl | ⟨b, o, us, rfl, hrd, hc⟩
          · simp at e3'; omega
          · rw [if_neg (by omega)]
            refine ⟨b, o + za.toNat * esz, (us.drop (za.toNat * te.sz)).take ((zb.toNat - za.toNat) * te.sz), by simp [Addr.add_mid], ?_, ?_⟩
            · rw [← hsz']; exact hrd.sub _ _
            · exact (hc.drop (fun _ _ => CellsD.length) _).take (fun _ _ => CellsD.length) _
end
end Go.AM
