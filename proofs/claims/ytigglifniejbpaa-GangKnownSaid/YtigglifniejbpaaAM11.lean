/- Each operation of the small machine is the model's: the plain ones; all of them. -/
import Derived.Test.YtigglifniejbpaaAM10
import Derived.Laws.StructEq
set_option linter.unusedVariables false
set_option linter.unusedSimpArgs false
namespace Go.AM
section
variable {P : Program} {Y : Ctx} {ι ι' : Iota} {μ μ' : Mu} {H : Heap} {w w' : World}
  {c1 : Nat → List V → Heap → (V → Heap → Prop) → Prop} {c2 : Nat → List V → V → Prop} {c3 : C → St → (Ex → St → Prop) → Prop}
  {c4 : Nat → List V → Heap → (V → Heap → Prop) → Prop} {c5 : O → List Nat → C → C → St → (Ex → St → Prop) → Prop}

theorem asB_rel {v : V} {b : Bool} {x : Value} (h : asB v = some b) (hr : Rel ι μ v x) : x = .bool b := by
  cases v <;> simp [asB] at h <;> (subst h; cases hr; rfl)

theorem run_eqGuard_plain (op : BinOp) (t : TypeId) (x y : Operand) {a b : Value} (h : a ≠ .nilIface) (ha : ∀ cs, a ≠ .agg cs) : (eqGuard op t x y a b).run P w = .ok () w := by
  cases op <;> try rfl
  all_goals cases a <;> first | rfl | exact absurd rfl h | exact absurd rfl (ha _)

theorem bin_sound {op : BinOp} {bo : IBin} (hb : binOf op = some bo) {t : TypeId} {xo yo : Operand} {v1 v2 : V} {a b : Value} (h1 : Rel ι μ v1 a) (h2 : Rel ι μ v2 b) {x y : O} {env : List (Nat × V)}
    (hx : x.ev env = v1) (hy : y.ev env = v2) {bl : Blks} {n : Nat} {ob : List Bool} {v : V} {u : Upd} (hev : evI (mkAr c1 c2 c3 c4 c5) (.bin bo x y) env bl n = some (ob, v, u)) (hob : AllT ob) :
    u = [] ∧ ∃ z, (do eqGuard op t xo yo a b; binOp op t a b : Sem Value).run P w = .ok z w ∧ Rel ι μ v z := by
  simp only [evI, hx, hy] at hev
  split at hev
  · rename_i k m k' m' 
    cases h1; cases h2
    have hg := run_eqGuard_plain (P := P) (w := w) op t xo yo (a := .int k m) (b := .int k' m') (by simp) (by simp)
    split at hev
    · cases op <;> simp [binOf] at hb
      simp only [shBin] at hev
      cases hev
      have e1 := hob _ (List.mem_cons_self)
      have e2 := hob _ (List.mem_cons_of_mem _ (List.mem_cons_self))
      simp at e1
      refine ⟨rfl, .int k (m * 2 ^ m'.toNat), ?_, .int _ _⟩
      have hw := wrap_rng e2
      simp [hg, binOp, Op.shift, show ¬ m' < 0 by omega, Nat.min_eq_left (show m'.toNat ≤ k.bits by omega), hw]
    · cases op <;> simp [binOf] at hb
      simp only [shBin] at hev
      cases hev
      have e1 := hob _ (List.mem_cons_self)
      simp at e1
      refine ⟨rfl, .int k (m.fdiv (2 ^ m'.toNat)), ?_, .int _ _⟩
      simp [hg, binOp, Op.shift, show ¬ m' < 0 by omega, Nat.min_eq_left (show m'.toNat ≤ k.bits by omega)]
    · split at hev <;> try (cases hev; done)
      rename_i hk; subst hk
      cases op <;> cases hb <;> simp only [intBin] at hev <;> first | (cases hev; done) | skip
      all_goals
        cases hev
        refine ⟨rfl, ?_⟩
        first
          | (refine ⟨_, ?_, .bool _⟩; simp [hg, binOp, Op.intCmp]; done)
          | (refine ⟨_, ?_, .bool _⟩; simp [hg, binOp, Op.intCmp, bne]; done)
          | (refine ⟨_, ?_, .int _ _⟩; simp [hg, binOp, Op.intBits]; done)
          | (refine ⟨_, ?_, .int _ _⟩; have e1 := wrap_rng (hob _ (List.mem_singleton.2 rfl)); simp [hg, binOp, Op.intArith, e1]; done)
          | (refine ⟨_, ?_, .int _ _⟩; have e1 := hob _ (List.mem_cons_self); have e2 := wrap_rng (hob _ (List.mem_cons_of_mem _ (List.mem_cons_self))); simp at e1; simp [hg, binOp, Op.intDiv, e1, e2]; done)
          | (refine ⟨_, ?_, .int _ _⟩; have e1 := hob _ (List.mem_cons_self); simp at e1; simp [hg, binOp, Op.intDiv, e1]; done)
  · rename_i s1 s2
    cases h1; cases h2
    have hg := run_eqGuard_plain (P := P) (w := w) op t xo yo (a := .string s1) (b := .string s2) (by simp) (by simp)
    cases op <;> cases hb <;> simp only [strBin] at hev <;> first | (cases hev; done) | skip
    all_goals
      cases hev
      refine ⟨rfl, ?_⟩
    all_goals
      have hor : (if Op.bytesLess s1.toList s2.toList = true then true else s1.toList == s2.toList) = (Op.bytesLess s1.toList s2.toList || s1.toList == s2.toList) := by
        cases Op.bytesLess s1.toList s2.toList <;> simp
      try rw [hor]
      refine ⟨_, ?_, .bool _⟩
      simp [hg, binOp, Op.stringOp]
  · cases hev

theorem eqCells_cons {k : Kd} {ks : List Kd} {as bs : List V} {c : Bool} (h : eqCells (mkAr c1 c2 c3 c4 c5) (k :: ks) as bs = some c) : ∃ a as' b bs', as = a :: as' ∧ bs = b :: bs' := by
  cases as with
  | nil => cases k <;> simp [eqCells] at h
  | cons a as =>
    cases bs with
    | nil => cases k <;> cases a <;> simp [eqCells] at h
    | cons b bs => exact ⟨a, as, b, bs, rfl, rfl⟩

theorem eqCells_rel {d : Nat} {xs ys : Array Value} : ∀ {fs : List Field} {n : Nat} {ks : List Kd} {as bs : List V} {c : Bool}, flatF P n fs = some ks → RelL ι μ as (xs.toList.drop n) → RelL ι μ bs (ys.toList.drop n) →
    eqCells (mkAr c1 c2 c3 c4 c5) ks as bs = some c → (Op.eqFields (d + 1) xs ys fs).run P w = .ok c w
  | [], n, ks, as, bs, c, hf, ha, hb, h => by
    cases hf
    cases as <;> cases bs <;> simp [eqCells] at h
    subst h; rfl
  | f :: r, n, ks, as, bs, c, hf, ha, hb, h => by
    unfold flatF at hf
    split at hf <;> try (cases hf; done)
    rename_i hn
    obtain ⟨hname, hoff⟩ := hn
    have step : ∀ {x y : Value} {xs' ys' : List Value} {b rest : Bool} {dsc : TypeDesc}, P.underlying f.type = some dsc → (match dsc with | .struct _ => false | .array _ _ => false | _ => true) = true → xs.toList.drop n = x :: xs' → ys.toList.drop n = y :: ys' →
        (Op.equalIn (d + 1) f.type x y).run P w = .ok b w → (Op.eqFields (d + 1) xs ys r).run P w = .ok rest w → (Op.eqFields (d + 1) xs ys (f :: r)).run P w = .ok (b && rest) w := by
      intro x y xs' ys' b rest dsc hu hd hx hy he hr
      have hagg : (isAgg f.type).run P w = .ok false w := by
        unfold isAgg
        rw [Sem.run_bind, run_underlying hu w]
        cases dsc <;> simp_all
      have hx0 : xs[n]? = some x := by
        have : (xs.toList.drop n)[0]? = some x := by rw [hx]; rfl
        simpa using this
      have hy0 : ys[n]? = some y := by
        have : (ys.toList.drop n)[0]? = some y := by rw [hy]; rfl
        simpa using this
      have p1 : (part f.type xs f.offset).run P w = .ok x w := by simp [part, hagg, hoff, hx0]
      have p2 : (part f.type ys f.offset).run P w = .ok y w := by simp [part, hagg, hoff, hy0]
      simp only [Op.eqFields, if_pos hname, Sem.run_bind, p1, p2, Result.andThen_ok, he]
      cases b <;> simp [hr]
    split at hf <;> try (cases hf; done)
    all_goals
      rename_i ks' hu hks
      cases hf
      obtain ⟨a, as', b, bs', e1, e2⟩ := eqCells_cons h
      subst e1; subst e2
      obtain ⟨x, xs', hx, ha1, ha2⟩ := ha.uncons
      obtain ⟨y, ys', hy, hb1, hb2⟩ := hb.uncons
      have ha3 : RelL ι μ as' (xs.toList.drop (n + 1)) := by rw [← List.drop_drop (i := 1), hx]; exact ha2
      have hb3 : RelL ι μ bs' (ys.toList.drop (n + 1)) := by rw [← List.drop_drop (i := 1), hy]; exact hb2
    · simp only [eqCells] at h
      split at h <;> try (cases h; done)
      rename_i p q hp hq
      split at h <;> try (cases h; done)
      rename_i rest hrest
      cases h
      rw [asB_rel hp ha1] at hx
      rw [asB_rel hq hb1] at hy
      exact step hu rfl hx hy (run_equalIn_bool' w d f.type p q hu) (eqCells_rel hks ha3 hb3 hrest)
    · cases a <;> cases b <;> simp only [eqCells] at h <;> try (cases h; done)
      split at h <;> try (cases h; done)
      rename_i hkk; subst hkk
      split at h <;> try (cases h; done)
      rename_i rest hrest
      cases h
      cases ha1; cases hb1
      exact step hu rfl hx hy (run_equalIn_int w d f.type _ _ _ _ hu) (eqCells_rel hks ha3 hb3 hrest)
    · cases a <;> cases b <;> simp only [eqCells] at h <;> try (cases h; done)
      split at h <;> try (cases h; done)
      rename_i rest hrest
      cases h
      cases ha1; cases hb1
      exact step hu rfl hx hy (run_equalIn_string w d f.type _ _ hu) (eqCells_rel hks ha3 hb3 hrest)
end
end Go.AM
