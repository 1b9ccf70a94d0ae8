/- What the plain functions of gang and its reference come to. Check of fields: the program and its reference find the same first error. Sums and the sugar of plans: the program and its reference count the same. The steps of fields in order, and best plans. The reference's best plans: field by field, for each number of gangs. What the laws share: given, large, works; the plan of a best one. Exchanges: the program and its reference find the same one. GangExchanges, as a plain law. -/
import Derived.Test.YtigglifniejbpaaX6
set_option linter.unusedVariables false
set_option linter.unusedSimpArgs false
section
open Go.AM
namespace Go.Proofs.Try
set_option linter.unusedVariables false
set_option linter.unusedSimpArgs false

theorem F48_eq (a b c : Int) : F48 a b c = some (decide (a ≤ b) && decide (b ≤ c), ()) := by
  unfold F48; rw [br_d]; by_cases h : a ≤ b <;> simp [h]
theorem F53_eq (a : Int) : F53 a = some (decide (0 ≤ a) && decide (a ≤ 1000000), ()) := by
  unfold F53; rw [F48_eq, bindO_s]

theorem F73_eq (a b c : Int) : F73 a b c = some (decide (b ≤ a) && decide (a ≤ c), ()) := by
  unfold F73; rw [br_d]; by_cases h : b ≤ a <;> simp [h]
theorem F50_eq (a b c : Int) : F50 a b c = some (decide (b ≤ a) && decide (a ≤ c), ()) := by
  unfold F50; rw [F73_eq, bindO_s]

/-- The sum of the first numbers. -/
def sumN (l : List Int) (k : Nat) : Int := (l.take k).sum
theorem sumN_succ {l : List Int} {k : Nat} (h : k < l.length) : sumN l (k + 1) = sumN l k + l.getD k 0 := by
  unfold sumN
  rw [List.take_succ_eq_append_getElem h, List.sum_append]
  simp [List.getD, h]
theorem sumN_bound {l : List Int} {c : Int} (hc : 0 ≤ c) (hb : ∀ x ∈ l, 0 ≤ x ∧ x ≤ c) (k : Nat) : 0 ≤ sumN l k ∧ sumN l k ≤ k * c := by
  induction k with
  | zero => simp [sumN]
  | succ k ih =>
    by_cases h : k < l.length
    · rw [sumN_succ h]
      have : l.getD k 0 ∈ l := by simp [List.getD, h]
      have := hb _ this
      rw [Int.natCast_add, Int.add_mul]
      omega
    · have : sumN l (k + 1) = sumN l k := by unfold sumN; rw [List.take_of_length_le (by omega), List.take_of_length_le (by omega)]
      rw [this, Int.natCast_add, Int.add_mul]
      omega

theorem F51_eq {l : List Int} {n : Nat} (h : n ≤ l.length) (hn : l.length ≤ 1000) (hb : ∀ x ∈ l, 0 ≤ x ∧ x ≤ 1000000) : F51 l n = some (sumN l n, ()) := by
  unfold F51
  have := iter_count (step := fun x => g51_0 x.1 x.2.1 x.2.2.1 x.2.2.2.1) n (fun k => (l, ((n : Int), (sumN l k, ((k : Int), ()))))) (b := (sumN l n, ())) (fun k hk => by
      have hs := sumN_bound (by omega) hb k
      have hs' := sumN_bound (by omega) hb (k + 1)
      rw [sumN_succ (by omega)] at hs'
      simp only [g51_0, Int.toNat_natCast]
      rw [br_d, if_pos (by omega), need_inb (by omega) (by omega), need_i64 (by omega) (by omega), need_i64 (by omega) (by omega), sumN_succ (by omega)]
      simp) (by simp only [g51_0]; rw [br_d, if_neg (by omega)])
  simp only [sumN, List.take_zero, List.sum_nil, Int.natCast_zero] at this ⊢
  rw [bind_of this]
end Go.Proofs.Try
end
section
open Go.AM
namespace Go.Proofs.Try
set_option linter.unusedVariables false
set_option linter.unusedSimpArgs false

/-- The error of the k-th gain of a table. -/
def stopT (t : List Int) (k : Nat) : Option Int :=
  if ¬(0 ≤ t.getD k 0 ∧ t.getD k 0 ≤ 1000000) then some 2 else if 0 < k ∧ t.getD (k - 1) 0 < t.getD k 0 then some 7 else none
def errT (t : List Int) : Option Int := (List.range t.length).findSome? (stopT t)
def stopL (l : List (List Int)) (i : Nat) : Option Int := if 10 < (l.getD i []).length then some 1 else errT (l.getD i [])
def errL (l : List (List Int)) : Option Int := (List.range l.length).findSome? (stopL l)
def chk (l : List (List Int)) : Int := if 12 < l.length then 1 else (errL l).getD 0

theorem F52_in {l : List (List Int)} {t : List Int} {i : Nat} (ht : t.length ≤ 10) : iter (fun x => g52_1 x.1 x.2.1 x.2.2.1 x.2.2.2.1 x.2.2.2.2.1 x.2.2.2.2.2.1 x.2.2.2.2.2.2.1) (t, l, ((l.length : Nat) : Int), (i : Int), t, ((t.length : Nat) : Int), (0 : Int), ()) =
    some ((errT t).elim (.inr (l, ((l.length : Nat) : Int), (i : Int), ())) (fun e => .inl (e, ()))) := by
  have key := iter_find (step := fun x => g52_1 x.1 x.2.1 x.2.2.1 x.2.2.2.1 x.2.2.2.2.1 x.2.2.2.2.2.1 x.2.2.2.2.2.2.1) t.length (fun k => (t, l, ((l.length : Nat) : Int), (i : Int), t, ((t.length : Nat) : Int), (k : Int), ())) (stopT t) (fun e => .inl (e, ())) (b := .inr (l, ((l.length : Nat) : Int), (i : Int), ())) (fun k hk _ => by
    simp only [g52_1, Int.toNat_natCast]
    rw [br_d, if_pos (by omega), need_inb (by omega) (by omega), F53_eq, bindO_s, br_not]
    unfold stopT
    by_cases h1 : 0 ≤ t.getD k 0 ∧ t.getD k 0 ≤ 1000000
    · rw [if_neg (by simpa using h1), br_t (by simp only [Bool.and_eq_true, decide_eq_true_eq]; exact h1), br_d]
      by_cases h2 : 0 < k
      · have e : ((k : Int) - 1).toNat = k - 1 := by omega
        rw [if_pos (by omega), need_i64 (by omega) (by omega), need_inb (by omega) (by omega)]
        unfold F54
        rw [bindO_s, br_not, e]
        by_cases h3 : t.getD (k - 1) 0 < t.getD k 0
        · rw [if_pos ⟨h2, h3⟩, br_f (by simp only [decide_eq_false_iff_not]; omega)]
        · rw [if_neg (fun h => h3 h.2), br_t (by simp only [decide_eq_true_eq]; omega), need_i64 (by omega) (by omega)]
          simp
      · rw [if_neg (by omega), if_neg (fun h => h2 h.1), need_i64 (by omega) (by omega)]
        simp
    · rw [if_pos h1, br_f (by simpa using h1)]) (fun _ => by simp only [g52_1]; rw [br_d, if_neg (by omega)])
  simpa only [Int.natCast_zero, errT] using key

theorem F52_eq {l : List (List Int)} : F52 l = some (chk l, ()) := by
  unfold F52 chk
  rw [br_d]
  by_cases h0 : 12 < l.length
  · rw [if_pos (by omega), if_pos h0]
  · rw [if_neg (by omega), if_neg h0]
    have key := iter_find (step := fun x => g52_0 x.1 x.2.1 x.2.2.1) l.length (fun k => (l, ((l.length : Nat) : Int), (k : Int), ())) (stopL l) (fun e => .inl (e, ())) (b := .inr ()) (fun k hk _ => by
      simp only [g52_0, Int.toNat_natCast]
      rw [br_d, if_pos (by omega), need_inb (by omega) (by omega), br_d]
      unfold stopL
      by_cases h1 : 10 < (l.getD k []).length
      · rw [if_pos (by omega), if_pos h1]
      · rw [if_neg (by omega), if_neg h1, F52_in (by omega), bindO_s]
        cases errT (l.getD k []) with
        | some e => rfl
        | none =>
          simp only [Option.elim]
          rw [need_i64 (by omega) (by omega)]
          simp) (fun _ => by simp only [g52_0]; rw [br_d, if_neg (by omega)])
    simp only [Int.natCast_zero] at key
    rw [bind_of key]
    unfold errL
    cases (List.range l.length).findSome? (stopL l) <;> rfl

theorem F20_eq {l : List (List Int)} : F20 l = some (chk l, ()) := by
  unfold F20; rw [F52_eq, bindO_s]

theorem F21_in {l : List (List Int)} {i : Nat} (hi : i < l.length) (hl : l.length ≤ 12) (ht : (l.getD i []).length ≤ 10) : iter (fun x => g21_1 x.1 x.2.1 x.2.2.1) (l, (i : Int), (0 : Int), ()) =
    some ((errT (l.getD i [])).elim (.inr (l, (i : Int), ())) (fun e => .inl (e, ()))) := by
  have key := iter_find (step := fun x => g21_1 x.1 x.2.1 x.2.2.1) (l.getD i []).length (fun k => (l, (i : Int), (k : Int), ())) (stopT (l.getD i [])) (fun e => .inl (e, ())) (b := .inr (l, (i : Int), ())) (fun k hk _ => by
    simp only [g21_1, Int.toNat_natCast]
    rw [need_inb (by omega) (by omega), br_d, if_pos (by omega), need_inb (by omega) (by omega), need_inb (by omega) (by omega), F50_eq, bindO_s, br_not]
    unfold stopT
    by_cases h1 : 0 ≤ (l.getD i []).getD k 0 ∧ (l.getD i []).getD k 0 ≤ 1000000
    · rw [if_neg (by simpa using h1), br_t (by simp only [Bool.and_eq_true, decide_eq_true_eq]; exact h1), br_d]
      by_cases h2 : 0 < k
      · have e : ((k : Int) - 1).toNat = k - 1 := by omega
        rw [if_pos (by omega), need_inb (by omega) (by omega), need_inb (by omega) (by omega), need_inb (by omega) (by omega), need_i64 (by omega) (by omega), need_inb (by omega) (by omega), br_d, e]
        by_cases h3 : (l.getD i []).getD (k - 1) 0 < (l.getD i []).getD k 0
        · rw [if_pos h3, if_pos ⟨h2, h3⟩]
        · rw [if_neg h3, if_neg (fun h => h3 h.2), need_i64 (by omega) (by omega)]
          simp
      · rw [if_neg (by omega), if_neg (fun h => h2 h.1), need_i64 (by omega) (by omega)]
        simp
    · rw [if_pos h1, br_f (by simpa using h1)]) (fun _ => by simp only [g21_1, Int.toNat_natCast]; rw [need_inb (by omega) (by omega), br_d, if_neg (by omega)])
  simpa only [Int.natCast_zero, errT] using key

theorem F21_eq {l : List (List Int)} : F21 l = some (chk l, ()) := by
  unfold F21 chk
  rw [br_d]
  by_cases h0 : 12 < l.length
  · rw [if_pos (by omega), if_pos h0]
  · rw [if_neg (by omega), if_neg h0]
    have key := iter_find (step := fun x => g21_0 x.1 x.2.1) l.length (fun k => (l, (k : Int), ())) (stopL l) (fun e => .inl (e, ())) (b := .inr ()) (fun k hk _ => by
      simp only [g21_0, Int.toNat_natCast]
      rw [br_d, if_pos (by omega), need_inb (by omega) (by omega), br_d]
      unfold stopL
      by_cases h1 : 10 < (l.getD k []).length
      · rw [if_pos (by omega), if_pos h1]
      · rw [if_neg (by omega), if_neg h1, F21_in hk (by omega) (by omega), bindO_s]
        cases errT (l.getD k []) with
        | some e => rfl
        | none =>
          simp only [Option.elim]
          rw [need_i64 (by omega) (by omega)]
          simp) (fun _ => by simp only [g21_0]; rw [br_d, if_neg (by omega)])
    simp only [Int.natCast_zero] at key
    rw [bind_of key]
    unfold errL
    cases (List.range l.length).findSome? (stopL l) <;> rfl
end Go.Proofs.Try
end
section
open Go.AM Go.Gm
namespace Go.Proofs.Try
set_option linter.unusedVariables false
set_option linter.unusedSimpArgs false

/-- Small numbers. -/
def Small (l : List Int) (c : Int) : Prop := ∀ x ∈ l, 0 ≤ x ∧ x ≤ c

theorem F49_eq {l : List Int} (hn : l.length ≤ 1000) (hb : Small l 1000000) : F49 l = some (l.sum, ()) := by
  unfold F49
  have := iter_count (step := fun x => g49_0 x.1 x.2.1 x.2.2.1 x.2.2.2.1) l.length (fun k => (sumN l k, (l, (((l.length : Nat) : Int), ((k : Int), ()))))) (b := (sumN l l.length, ())) (fun k hk => by
      have hs := sumN_bound (by omega) hb k
      have hs' := sumN_bound (by omega) hb (k + 1)
      rw [sumN_succ (by omega)] at hs'
      simp only [g49_0, Int.toNat_natCast]
      rw [br_d, if_pos (by omega), need_inb (by omega) (by omega), need_i64 (by omega) (by omega), need_i64 (by omega) (by omega), sumN_succ (by omega)]
      simp) (by simp only [g49_0]; rw [br_d, if_neg (by omega)])
  have e : sumN l l.length = l.sum := by simp [sumN]
  have e0 : sumN l 0 = 0 := by simp [sumN]
  rw [e, e0, Int.natCast_zero] at this
  rw [bind_of this]

/-- What is so of valid fields. -/
structure Val (l : List (List Int)) : Prop where
  len : l.length ≤ 12
  tab : ∀ f ∈ l, f.length ≤ 10
  sm : ∀ f ∈ l, Small f 1000000
  desc : ∀ f ∈ l, Tops.Desc f

theorem findSome_none {n : Nat} {f : Nat → Option Int} : (List.range n).findSome? f = none ↔ ∀ k, k < n → f k = none := by
  rw [List.findSome?_eq_none_iff]; simp

theorem errT_none {t : List Int} : errT t = none ↔ Small t 1000000 ∧ Tops.Desc t := by
  unfold errT
  rw [findSome_none]
  constructor
  · intro h
    have h1 : ∀ k, k < t.length → 0 ≤ t.getD k 0 ∧ t.getD k 0 ≤ 1000000 := fun k hk => by
      have := h k hk
      unfold stopT at this
      by_cases hh : 0 ≤ t.getD k 0 ∧ t.getD k 0 ≤ 1000000
      · exact hh
      · rw [if_pos hh] at this; cases this
    have h2 : ∀ k, k + 1 < t.length → t.getD (k + 1) 0 ≤ t.getD k 0 := fun k hk => by
      have := h (k + 1) hk
      unfold stopT at this
      rw [if_neg (by have := h1 (k + 1) hk; omega)] at this
      by_cases hh : 0 < k + 1 ∧ t.getD (k + 1 - 1) 0 < t.getD (k + 1) 0
      · rw [if_pos hh] at this; cases this
      · simp only [Nat.add_sub_cancel] at hh; omega
    have h3 : ∀ d k, k + d < t.length → t.getD (k + d) 0 ≤ t.getD k 0 := by
      intro d
      induction d with
      | zero => intro k hk; exact Int.le_refl _
      | succ d ih => intro k hk; have := ih k (by omega); have := h2 (k + d) (by omega); rw [← Nat.add_assoc]; omega
    constructor
    · intro x hx
      obtain ⟨k, hk, rfl⟩ := List.mem_iff_getElem.1 hx
      have := h1 k hk
      rwa [getD_el 0 hk] at this
    · unfold Tops.Desc
      rw [List.pairwise_iff_getElem]
      intro i j hi hj hij
      have := h3 (j - i) i (by omega)
      rw [show i + (j - i) = j by omega, getD_el 0 hi, getD_el 0 hj] at this
      exact this
  · intro ⟨h1, h2⟩ k hk
    unfold stopT
    have a := h1 _ (getD_mem (d := 0) hk)
    rw [if_neg (by omega)]
    by_cases h0 : 0 < k
    · have := (List.pairwise_iff_getElem.1 h2) (k - 1) k (by omega) hk (by omega)
      rw [getD_el 0 hk, getD_el 0 (show k - 1 < t.length by omega), if_neg (by omega)]
    · rw [if_neg (by omega)]

theorem errT_ne {t : List Int} {e : Int} (h : errT t = some e) : e ≠ 0 := by
  unfold errT at h
  obtain ⟨k, _, hk⟩ := List.exists_of_findSome?_eq_some h
  unfold stopT at hk
  split at hk
  · cases hk; decide
  · split at hk
    · cases hk; decide
    · cases hk

theorem chk_val {l : List (List Int)} : chk l = 0 ↔ Val l := by
  unfold chk errL
  constructor
  · intro h
    by_cases h0 : 12 < l.length
    · rw [if_pos h0] at h; cases h
    rw [if_neg h0] at h
    cases he : (List.range l.length).findSome? (stopL l) with
    | some e =>
      rw [he] at h
      simp only [Option.getD] at h
      subst h
      obtain ⟨k, _, hk⟩ := List.exists_of_findSome?_eq_some he
      unfold stopL at hk
      split at hk
      · cases hk
      · exact absurd rfl (errT_ne hk)
    | none =>
      have hs := findSome_none.1 he
      have key : ∀ f ∈ l, f.length ≤ 10 ∧ Small f 1000000 ∧ Tops.Desc f := fun f hf => by
        obtain ⟨k, hk, rfl⟩ := List.mem_iff_getElem.1 hf
        have := hs k hk
        unfold stopL at this
        rw [getD_el [] hk] at this
        split at this
        · cases this
        · exact ⟨by omega, errT_none.1 this⟩
      exact ⟨by omega, fun f hf => (key f hf).1, fun f hf => (key f hf).2.1, fun f hf => (key f hf).2.2⟩
  · intro h
    rw [if_neg (by have := h.len; omega)]
    have : (List.range l.length).findSome? (stopL l) = none := findSome_none.2 fun k hk => by
      unfold stopL
      have hm := getD_mem (d := []) hk
      rw [if_neg (by have := h.tab _ hm; omega), errT_none.2 ⟨h.sm _ hm, h.desc _ hm⟩]
    rw [this]; rfl

theorem Val.getD {l : List (List Int)} (h : Val l) (k : Nat) : (l.getD k []).length ≤ 10 ∧ Small (l.getD k []) 1000000 := by
  by_cases hk : k < l.length
  · exact ⟨h.tab _ (getD_mem hk), h.sm _ (getD_mem hk)⟩
  · rw [getD_out [] (by omega)]; exact ⟨by simp, fun x hx => by cases hx⟩

theorem sumN_le {l : List Int} {c : Int} (hc : 0 ≤ c) (hb : Small l c) (k : Nat) : 0 ≤ sumN l k ∧ sumN l k ≤ l.length * c := by
  by_cases h : k ≤ l.length
  · have := sumN_bound hc hb k
    have h2 : (k : Int) * c ≤ l.length * c := Int.mul_le_mul_of_nonneg_right (by omega) hc
    omega
  · have e : sumN l k = sumN l l.length := by unfold sumN; rw [List.take_of_length_le (by omega), List.take_of_length_le (Nat.le_refl _)]
    rw [e]; exact sumN_bound hc hb l.length

theorem Val.sumN {l : List (List Int)} (h : Val l) (k j : Nat) : 0 ≤ sumN (l.getD k []) j ∧ sumN (l.getD k []) j ≤ 10000000 := by
  have := sumN_le (by omega) (h.getD k).2 j
  have := (h.getD k).1
  omega

/-- The sugar of a plan, and how many gangs it has. -/
def stopP (l : List (List Int)) (p : List Int) (k : Nat) : Option Int := if 0 ≤ p.getD k 0 ∧ p.getD k 0 ≤ ((l.getD k []).length : Nat) then none else some 10
def sug (l : List (List Int)) (p : List Int) : Int × Int × Int :=
  if chk l ≠ 0 then (0, 0, chk l) else if p.length ≠ l.length then (0, 0, 3) else
    match (List.range p.length).findSome? (stopP l p) with
    | some e => (0, 0, e)
    | none => (p.sum, sumR p.length (fun i => sumN (l.getD i []) (p.getD i 0).toNat), 0)

theorem stopP_none {l : List (List Int)} {p : List Int} {k : Nat} : stopP l p k = none ↔ 0 ≤ p.getD k 0 ∧ p.getD k 0 ≤ ((l.getD k []).length : Nat) := by
  unfold stopP; split <;> simp_all

theorem sugR_bound {l : List (List Int)} (h : Val l) (p : List Int) (n : Nat) (hn : n ≤ 12) : 0 ≤ sumR n (fun i => sumN (l.getD i []) (p.getD i 0).toNat) ∧ sumR n (fun i => sumN (l.getD i []) (p.getD i 0).toNat) ≤ 120000000 := by
  have := sumR_bound (n := n) (c := 10000000) (fun i _ => h.sumN i (p.getD i 0).toNat)
  omega

theorem plan_small {l : List (List Int)} (h : Val l) {p : List Int} (hp : p.length = l.length) (hs : ∀ j, j < p.length → stopP l p j = none) : Small p 10 := fun x hx => by
  obtain ⟨k, hk, rfl⟩ := List.mem_iff_getElem.1 hx
  have := stopP_none.1 (hs k hk)
  rw [getD_el 0 hk] at this
  have := (h.getD k).1
  omega

theorem F18_eq {l : List (List Int)} {p : List Int} : F18 l p = some ((sug l p).1, (sug l p).2.1, (sug l p).2.2, ()) := by
  unfold F18 sug
  rw [F20_eq, bindO_s]
  dsimp only
  rw [br_not, br_eq]
  by_cases h0 : chk l = 0
  · rw [if_pos h0, if_neg (by simpa using h0), br_not, br_eq]
    have hv := chk_val.1 h0
    by_cases h1 : p.length = l.length
    · rw [if_pos (by omega), if_neg (by simpa using h1)]
      have hlen := hv.len
      have key := iter_find (step := fun x => g18_0 x.1 x.2.1 x.2.2.1 x.2.2.2.1 x.2.2.2.2.1 x.2.2.2.2.2.1) p.length (fun k => (l, (p, (sumR k (fun i => sumN (l.getD i []) (p.getD i 0).toNat), (p, (((p.length : Nat) : Int), ((k : Int), ()))))))) (stopP l p) (fun e => .inl (0, (0, (e, ()))))
        (b := .inr (p, (sumR p.length (fun i => sumN (l.getD i []) (p.getD i 0).toNat), ()))) (fun k hk hs => by
          simp only [g18_0, Int.toNat_natCast]
          rw [br_d, if_pos (by omega), need_inb (by omega) (by omega), need_inb (by omega) (by omega), F48_eq, bindO_s, br_not]
          by_cases h2 : stopP l p k = none
          · rw [h2]
            have h3 := stopP_none.1 h2
            have hb := sugR_bound hv p k (by omega)
            have hb' := sugR_bound hv p (k + 1) (by omega)
            have hg := hv.getD k
            rw [br_t (by simpa using h3), need_inb (by omega) (by omega), need_d (by omega), need_d h3.1, need_d h3.2]
            have e : List.take ((p.getD k 0).toNat - Int.toNat 0) (List.drop (Int.toNat 0) (l.getD k [])) = (l.getD k []).take (p.getD k 0).toNat := by simp
            rw [e, F49_eq (by rw [List.length_take]; omega) (fun x hx => hg.2 x (List.mem_of_mem_take hx)), bindO_s]
            simp only [sumR] at hb' ⊢
            simp only [sumN] at hb' hb ⊢
            rw [need_i64 (by omega) (by omega), need_i64 (by omega) (by omega)]
            simp
          · have h3 : ¬(0 ≤ p.getD k 0 ∧ p.getD k 0 ≤ ((l.getD k []).length : Nat)) := fun h => h2 (stopP_none.2 h)
            rw [br_f (by simpa using h3)]
            unfold stopP
            rw [if_neg h3]) (fun hs => by simp only [g18_0]; rw [br_d, if_neg (by omega)])
      simp only [sumR, Int.natCast_zero] at key
      rw [bind_of key]
      cases hf : (List.range p.length).findSome? (stopP l p) with
      | some e => rfl
      | none =>
        have hs := findSome_none.1 hf
        simp only [Option.elim]
        rw [F49_eq (by omega) (fun x hx => by have := plan_small hv h1 hs x hx; omega), bindO_s]
    · rw [if_neg (by omega), if_pos (by simpa using h1)]
  · rw [if_neg h0, if_pos h0]

theorem F19_eq {l : List (List Int)} {p : List Int} : F19 l p = some ((sug l p).1, (sug l p).2.1, (sug l p).2.2, ()) := by
  unfold F19 sug
  rw [F21_eq, bindO_s]
  dsimp only
  rw [br_not, br_eq]
  by_cases h0 : chk l = 0
  · rw [if_pos h0, if_neg (by simpa using h0), br_not, br_eq]
    have hv := chk_val.1 h0
    by_cases h1 : p.length = l.length
    · rw [if_pos (by omega), if_neg (by simpa using h1)]
      have hlen := hv.len
      have key := iter_find (step := fun x => g19_0 x.1 x.2.1 x.2.2.1 x.2.2.2.1 x.2.2.2.2.1) p.length (fun k => (l, (p, (sumN p k, (sumR k (fun i => sumN (l.getD i []) (p.getD i 0).toNat), ((k : Int), ())))))) (stopP l p) (fun e => .inl (0, (0, (e, ()))))
        (b := .inr (sumN p p.length, (sumR p.length (fun i => sumN (l.getD i []) (p.getD i 0).toNat), ()))) (fun k hk hs => by
          simp only [g19_0, Int.toNat_natCast]
          rw [br_d, if_pos (by omega), need_inb (by omega) (by omega), need_inb (by omega) (by omega), F50_eq, bindO_s, br_not]
          by_cases h2 : stopP l p k = none
          · rw [h2]
            have h3 := stopP_none.1 h2
            have hb := sugR_bound hv p k (by omega)
            have hb' := sugR_bound hv p (k + 1) (by omega)
            have hg := hv.getD k
            have hpk : Small (p.take k) 10 := fun x hx => by
              obtain ⟨j, hj, rfl⟩ := List.mem_iff_getElem.1 hx
              simp at hj
              have := stopP_none.1 (hs j (by omega))
              rw [getD_el 0 (show j < p.length by omega)] at this
              have := (hv.getD j).1
              simp; omega
            have hsum := sumN_le (by omega) hpk k
            have e2 : sumN (p.take k) k = sumN p k := by unfold sumN; rw [List.take_take, Nat.min_self]
            rw [e2] at hsum
            simp only [List.length_take] at hsum
            obtain ⟨n, hn⟩ : ∃ n : Nat, p.getD k 0 = n := ⟨(p.getD k 0).toNat, by omega⟩
            have f51 : F51 (l.getD k []) (p.getD k 0) = some (sumN (l.getD k []) n, ()) := by
              rw [hn]; exact F51_eq (l := l.getD k []) (n := n) (by omega) (by omega) hg.2
            rw [br_t (by simpa using h3), need_inb (by omega) (by omega), need_i64 (by omega) (by omega), need_inb (by omega) (by omega), need_inb (by omega) (by omega), f51, bindO_s]
            simp only [sumR] at hb' ⊢
            rw [hn] at hb' ⊢
            simp only [Int.toNat_natCast] at hb' ⊢
            rw [need_i64 (by omega) (by omega), need_i64 (by omega) (by omega), sumN_succ (by omega), hn]
            simp
          · have h3 : ¬(0 ≤ p.getD k 0 ∧ p.getD k 0 ≤ ((l.getD k []).length : Nat)) := fun h => h2 (stopP_none.2 h)
            rw [br_f (by simpa using h3)]
            unfold stopP
            rw [if_neg h3]) (fun hs => by simp only [g19_0]; rw [br_d, if_neg (by omega)])
      have e0 : sumN p 0 = 0 := by simp [sumN]
      simp only [sumR, Int.natCast_zero, e0] at key
      rw [bind_of key]
      cases hf : (List.range p.length).findSome? (stopP l p) with
      | some e => rfl
      | none => simp [sumN]
    · rw [if_neg (by omega), if_pos (by simpa using h1)]
  · rw [if_neg h0, if_pos h0]
end Go.Proofs.Try
end
section
open Go.AM Go.Gm Go.Srt
namespace Go.Proofs.Try
set_option linter.unusedVariables false
set_option linter.unusedSimpArgs false

theorem F76_3 (a b c : Int) : F76 [a, b, c] = some (if a ≠ 0 then a else if b ≠ 0 then b else c, ()) := by
  unfold F76
  have key := iter_find (step := fun x => g76_0 x.1 x.2.1 x.2.2.1 x.2.2.2.1) 3 (fun k => ((0 : Int), ([a, b, c], ((3 : Int), ((k : Int), ()))))) (fun k => if [a, b, c].getD k 0 ≠ 0 then some ([a, b, c].getD k 0) else none) (fun e => .inl (e, ())) (b := .inr (0, ())) (fun k hk _ => by
    simp only [g76_0, Int.toNat_natCast]
    rw [br_d, if_pos (by omega), need_inb (by omega) (by simp; omega), br_not, br_eq]
    by_cases h : [a, b, c].getD k 0 = 0
    · rw [if_pos h, if_neg (by simpa using h), need_i64 (by omega) (by omega)]; simp
    · rw [if_neg h, if_pos h]) (fun _ => by simp only [g76_0]; rw [br_d, if_neg (by omega)])
  have q : iter (fun x => g76_0 x.1 x.2.1 x.2.2.1 x.2.2.2.1) ((0 : Int), ([a, b, c], (((([a, b, c]).length : Nat) : Int), ((0 : Int), ())))) = _ := key
  rw [bind_of q]
  have e : List.range 3 = [0, 1, 2] := by decide
  rw [e]
  by_cases ha : a = 0
  · by_cases hb : b = 0
    · by_cases hc : c = 0 <;> simp [ha, hb, hc]
    · simp [ha, hb]
  · simp [ha]

/-- Steps that are small enough. -/
def GoodS (s : Int × Int) : Prop := (0 ≤ s.1 ∧ s.1 ≤ 1000000) ∧ (0 ≤ s.2 ∧ s.2 ≤ 1000)

theorem ltF_z {fv : Int → Int} {a b : Int × Int} (f1 : -1000 ≤ fv a.2 ∧ fv a.2 ≤ 1000) (f2 : -1000 ≤ fv b.2 ∧ fv b.2 ≤ 1000) :
    ltF fv a b = decide ((if b.1 - a.1 ≠ 0 then b.1 - a.1 else if fv b.2 - fv a.2 ≠ 0 then fv b.2 - fv a.2 else a.2 - b.2) < 0) := by
  unfold ltF
  rw [Bool.eq_iff_iff]
  simp only [Bool.or_eq_true, Bool.and_eq_true, decide_eq_true_eq, beq_iff_eq]
  by_cases h1 : b.1 - a.1 = 0
  · by_cases h2 : fv b.2 - fv a.2 = 0
    · rw [if_neg (by omega), if_neg (by omega)]; omega
    · rw [if_neg (by omega), if_pos (by omega)]; omega
  · rw [if_pos (by omega)]; omega

theorem F75_ok : CmpOk F75 (ltF fun _ => 0) GoodS := ⟨ltF_ord _, fun a b ha hb => by
  obtain ⟨⟨a1, a2⟩, a3, a4⟩ := ha
  obtain ⟨⟨b1, b2⟩, b3, b4⟩ := hb
  unfold F75 F59
  by_cases h : a = b
  · subst h
    refine ⟨0, ?_, ?_⟩
    · rw [br_t (by simp)]
    · simp [ltF]
  · have hne : ((a.1 == b.1) && ((a.2 == b.2) && true)) = false := by
      cases hc : ((a.1 == b.1) && ((a.2 == b.2) && true)) with
      | false => rfl
      | true => exact absurd (Prod.ext_iff.2 (by simpa using hc)) h
    refine ⟨_, ?_, ltF_z (by omega) (by omega)⟩
    rw [br_f hne, need_i64 (by omega) (by omega), bindO_s, bindO_s, need_i64 (by omega) (by omega), need_i64 (by omega) (by omega)]
    have := F76_3 (b.1 - a.1) ((0 : Int) - 0) (a.2 - b.2)
    simp only [List.drop_zero]
    rw [show List.take 3 [b.1 - a.1, (0 : Int) - 0, a.2 - b.2] = [b.1 - a.1, (0 : Int) - 0, a.2 - b.2] by rfl, this, bindO_s]⟩

theorem FH74_eq (n : Nat) (l : List (Int × Int)) : FH74_v1 n l = S74 F75 (0, 0) n l := rfl

theorem allFrom_good {l : List (List Int)} (h : Val l) {s : Int × Int} (hs : s ∈ allFrom 0 l) : GoodS s := by
  obtain ⟨j, h1, h2, h3⟩ := allFrom_mem hs
  have hl := h.len
  have := (h.getD j).2 _ h3
  exact ⟨this, by rw [h2]; omega⟩

theorem flat_len {l : List (List Int)} (h : Val l) (k : Nat) : (l.take k).flatten.length ≤ k * 10 := by
  induction k with
  | zero => simp
  | succ k ih =>
    by_cases hk : k < l.length
    · rw [take_succ_getD [] hk, List.flatten_append, List.length_append]
      have := (h.getD k).1
      simp only [List.flatten_cons, List.flatten_nil, List.append_nil]; omega
    · rw [List.take_of_length_le (by omega)] at ih ⊢; omega
theorem Val.flat {l : List (List Int)} (h : Val l) : l.flatten.length ≤ 120 := by
  have := flat_len h l.length
  rw [List.take_length] at this
  have := h.len; omega

theorem F58_in {l : List (List Int)} {f : List Int} {base : List (Int × Int)} {i : Nat} (hi : i < 1000) (hf : f.length ≤ 10) (hb : base.length ≤ 1000) :
    iter (fun x => g58_1 x.1 x.2.1 x.2.2.1 x.2.2.2.1 x.2.2.2.2.1 x.2.2.2.2.2.1 x.2.2.2.2.2.2.1 x.2.2.2.2.2.2.2.1 x.2.2.2.2.2.2.2.2.1) (base.length, ((i : Int), (l, (((l.length : Nat) : Int), ((i : Int), (f, (((f.length : Nat) : Int), ((0 : Int), (base, ()))))))))) =
    some ((base ++ f.map (fun g => (g, (i : Int)))).length, (l, (((l.length : Nat) : Int), ((i : Int), (base ++ f.map (fun g => (g, (i : Int))), ()))))) := by
  have key := iter_count (step := fun x => g58_1 x.1 x.2.1 x.2.2.1 x.2.2.2.1 x.2.2.2.2.1 x.2.2.2.2.2.1 x.2.2.2.2.2.2.1 x.2.2.2.2.2.2.2.1 x.2.2.2.2.2.2.2.2.1) f.length
    (fun k => ((base ++ (f.take k).map (fun g => (g, (i : Int)))).length, ((i : Int), (l, (((l.length : Nat) : Int), ((i : Int), (f, (((f.length : Nat) : Int), ((k : Int), (base ++ (f.take k).map (fun g => (g, (i : Int))), ()))))))))) )
    (b := ((base ++ f.map (fun g => (g, (i : Int)))).length, (l, (((l.length : Nat) : Int), ((i : Int), (base ++ f.map (fun g => (g, (i : Int))), ())))))) (fun k hk => by
      simp only [g58_1, Int.toNat_natCast]
      rw [br_d, if_pos (by omega), need_inb (by omega) (by omega), need_big (by simp; omega), need_i64 (by omega) (by omega), take_succ_getD 0 hk]
      simp
      exact ⟨by omega, by rw [List.take_of_length_le (by simp)]; simp⟩) (by
      simp only [g58_1]; rw [br_d, if_neg (by omega), List.take_length])
  simp only [List.take_zero, List.map_nil, List.append_nil, Int.natCast_zero] at key
  exact key

theorem F58_eq {l : List (List Int)} (h : Val l) : F58 l = some (stepsF (fun _ => 0) l, ()) := by
  have hl := h.len
  have hfl := h.flat
  have key := iter_count (step := fun x => g58_0 x.1 x.2.1 x.2.2.1 x.2.2.2.1 x.2.2.2.2.1) l.length
    (fun k => ((allFrom 0 (l.take k)).length, (l, (((l.length : Nat) : Int), ((k : Int), (allFrom 0 (l.take k), ()))))))
    (b := ((allFrom 0 l).length, (allFrom 0 l, ()))) (fun k hk => by
      have e := allFrom_append 0 (l.take k) [l.getD k []]
      rw [← take_succ_getD [] hk] at e
      have hlen : (allFrom 0 (l.take k)).length ≤ 120 := by rw [allFrom_length]; have := flat_len h k; omega
      have e2 : (l.take k).length = k := by simp; omega
      rw [e2, Nat.zero_add] at e
      simp only [allFrom, List.append_nil] at e
      simp only [g58_0, Int.toNat_natCast]
      rw [br_d, if_pos (by omega), need_inb (by omega) (by omega), bind_of (F58_in (l := l) (f := l.getD k []) (by omega) (h.getD k).1 (by omega))]
      dsimp only
      rw [need_i64 (by omega) (by omega), e]
      simp) (by simp only [g58_0]; rw [br_d, if_neg (by omega), List.take_length])
  simp only [List.take_zero, allFrom, List.length_nil, Int.natCast_zero] at key
  unfold F58
  rw [bind_of key]
  dsimp only
  rw [FH74_eq, S74_ok F75_ok (fun z hz => allFrom_good h hz) rfl (by rw [allFrom_length]; omega), bindO_s]
  unfold F77
  rw [bindO_s]
  have : List.take (allFrom 0 l).length (srt (ltF fun _ => 0) (allFrom 0 l)) = srt (ltF fun _ => 0) (allFrom 0 l) := List.take_of_length_le (by rw [srt_length]; omega)
  simp only [List.drop_zero]
  rw [this]
  rfl

/-- How many of some steps each field has. -/
def planOf (n : Nat) (t : List (Int × Int)) : List Int := (List.range n).map fun j => ((cnt j t : Nat) : Int)
theorem planOf_length (n : Nat) (t : List (Int × Int)) : (planOf n t).length = n := by simp [planOf]
theorem planOf_getD {n j : Nat} (t : List (Int × Int)) (h : j < n) : (planOf n t).getD j 0 = ((cnt j t : Nat) : Int) := by
  simp [planOf, List.getD_eq_getElem?_getD, h]
theorem planOf_nil (n : Nat) : planOf n [] = List.replicate n 0 := by
  apply List.ext_getElem
  · simp [planOf]
  · intro i h1 h2; simp [planOf, cnt]
theorem planOf_snoc {n j : Nat} (t : List (Int × Int)) {s : Int × Int} (h : j < n) (e : s.2 = (j : Nat)) : planOf n (t ++ [s]) = (planOf n t).set j ((planOf n t).getD j 0 + 1) := by
  rw [planOf_getD t h]
  apply List.ext_getElem
  · simp [planOf]
  · intro i h1 h2
    rw [List.getElem_set]
    simp only [planOf, List.getElem_map, List.getElem_range, cnt_snoc, e]
    by_cases hh : j = i
    · subst hh; simp
    · rw [if_neg hh, if_neg (by omega)]; simp

theorem steps_good {l : List (List Int)} (h : Val l) (fv : Int → Int) {s : Int × Int} (hs : s ∈ stepsF fv l) : GoodS s := allFrom_good h ((stepsF_perm fv l).mem_iff.1 hs)
theorem steps_len {l : List (List Int)} (h : Val l) (fv : Int → Int) : (stepsF fv l).length ≤ 120 := by rw [stepsF_length]; exact h.flat
theorem gsum_bound {t : List (Int × Int)} (h : ∀ s ∈ t, GoodS s) : 0 ≤ gsum t ∧ gsum t ≤ t.length * 1000000 := by
  have := sumN_bound (l := t.map (·.1)) (c := 1000000) (by omega) (fun x hx => by obtain ⟨s, hs, rfl⟩ := List.mem_map.1 hx; exact (h s hs).1) t.length
  unfold sumN at this
  rwa [List.take_of_length_le (by simp)] at this
theorem cnt_le (j : Nat) (t : List (Int × Int)) : cnt j t ≤ t.length := List.length_filter_le ..

theorem F56_in {n g : Nat} {t : List (Int × Int)} (hg : ∀ s ∈ t, GoodS s) (hj : ∀ s ∈ t, ∃ j, j < n ∧ s.2 = (j : Nat)) (ht : t.length ≤ 1000) (hgg : g ≤ 1000) :
    bindO (g56_0 t (g : Int) n 0 (List.replicate n 0)) (fun z4 => match z4 with
      | .inl z5 => some ((((z5.2.2.1).drop (0 : Nat)).take z5.1), (z5.2.1, ()))
      | .inr z6 => some ((((z6.2.2.1).drop (0 : Nat)).take z6.1), (z6.2.1, ()))) = some (planOf n (t.take g), (gsum (t.take g), ())) := by
  have key := iter_count (step := fun x => g56_0i_0 x.1 x.2.1 x.2.2.1 x.2.2.2.1 x.2.2.2.2.1 x.2.2.2.2.2.1 x.2.2.2.2.2.2.1 x.2.2.2.2.2.2.2.1) (min g t.length)
    (fun k => (t, (((t.length : Nat) : Int), ((k : Int), (t, (((g : Int) - k), (n, (gsum (t.take k), (planOf n (t.take k), ())))))))))
    (b := if g < t.length then .inl (0, (n, (gsum (t.take g), (t, (planOf n (t.take g), ()))))) else .inr ((g : Int) - t.length, (n, (gsum (t.take g), (t, (planOf n (t.take g), ())))))) (fun k hk => by
      have hkt : k < t.length := by omega
      have hm := getD_mem (d := ((0 : Int), (0 : Int))) hkt
      obtain ⟨j, hj1, hj2⟩ := hj _ hm
      have hgs := hg _ hm
      have hb := gsum_bound (t := t.take k) (fun s hs => hg s (List.mem_of_mem_take hs))
      have hc := cnt_le j (t.take k)
      simp only [List.length_take] at hb hc
      simp only [g56_0i_0, Int.toNat_natCast]
      rw [br_d, if_pos (by omega), need_inb (by omega) (by omega), br_eq, if_neg (by omega), need_i64 (by omega) (by omega)]
      simp only [hj2, Int.toNat_natCast, Nat.zero_add]
      rw [need_inb (by omega) (by omega), need_d (by rw [planOf_length]; omega), need_i64 (by rw [planOf_getD _ hj1]; omega) (by rw [planOf_getD _ hj1]; omega), need_inb (by omega) (by omega), need_d (by rw [planOf_length]; omega), need_i64 (by have := hgs.1; omega) (by have := hgs.1; omega), need_i64 (by omega) (by omega)]
      rw [take_succ_getD (0, 0) hkt, gsum_snoc, planOf_snoc _ hj1 hj2]
      rw [show (g : Int) - ((k + 1 : Nat) : Int) = (g : Int) - k - 1 by omega, show ((k + 1 : Nat) : Int) = (k : Int) + 1 by omega]) (by
      simp only [g56_0i_0, Int.toNat_natCast]
      by_cases c : g < t.length
      · rw [show min g t.length = g by omega, br_d, if_pos (by omega), need_inb (by omega) (by omega), br_eq, if_pos (by omega), if_pos c]
        simp
      · rw [show min g t.length = t.length by omega, br_d, if_neg (by omega), if_neg c, List.take_length, List.take_of_length_le (by omega)])
  simp only [List.take_zero, Int.natCast_zero, Int.sub_zero, planOf_nil] at key
  have e0 : gsum [] = 0 := rfl
  rw [e0] at key
  unfold g56_0
  rw [bind_of key]
  have hp : List.take n (planOf n (t.take g)) = planOf n (t.take g) := List.take_of_length_le (by rw [planOf_length]; omega)
  by_cases c : g < t.length
  · rw [if_pos c]; simp only [bindO_s, List.drop_zero, hp]
  · rw [if_neg c]; simp only [bindO_s, List.drop_zero, hp]

theorem F56_eq {l : List (List Int)} (h : Val l) {g : Nat} (hg : g ≤ 1000) : F56 l g = some (planOf l.length ((stepsF (fun _ => 0) l).take g), (gsum ((stepsF (fun _ => 0) l).take g), ())) := by
  have hl := h.len
  have := steps_len h (fun _ => 0)
  unfold F56
  rw [need_inbL (by omega) (by omega), F58_eq h, bindO_s]
  simp only [Int.toNat_natCast]
  exact F56_in (fun s hs => steps_good h _ hs) (fun s hs => steps_fields _ hs) (by omega) hg

/-- The error of fields and a number of gangs. -/
def chkG (l : List (List Int)) (g : Int) : Int := if chk l = 0 then if 0 ≤ g ∧ g ≤ 200 then 0 else 2 else chk l

theorem F55_eq {l : List (List Int)} {g : Int} : F55 l g = some (chkG l g, ()) := by
  unfold F55 chkG
  rw [F20_eq, bindO_s]
  dsimp only
  rw [br_eq]
  by_cases h0 : chk l = 0
  · rw [if_pos h0, if_pos h0, F48_eq, bindO_s, br_not]
    by_cases h1 : 0 ≤ g ∧ g ≤ 200
    · rw [br_t (by simpa using h1), if_pos h1, h0]
    · rw [br_f (by simpa using h1), if_neg h1]
  · rw [if_neg h0, if_neg h0]

theorem chkG_val {l : List (List Int)} {g : Int} (h : chkG l g = 0) : Val l ∧ 0 ≤ g ∧ g ≤ 200 := by
  unfold chkG at h
  by_cases h0 : chk l = 0
  · rw [if_pos h0] at h
    by_cases h1 : 0 ≤ g ∧ g ≤ 200
    · exact ⟨chk_val.1 h0, h1⟩
    · rw [if_neg h1] at h; cases h
  · rw [if_neg h0] at h; exact absurd h h0
theorem val_chkG {l : List (List Int)} {g : Int} (h : Val l) (h1 : 0 ≤ g) (h2 : g ≤ 200) : chkG l g = 0 := by
  unfold chkG; rw [if_pos (chk_val.2 h), if_pos ⟨h1, h2⟩]

theorem F22_bad {l : List (List Int)} {g : Int} (h : chkG l g ≠ 0) : F22 l g = some ([], 0, chkG l g, ()) := by
  unfold F22
  rw [F55_eq, bindO_s]
  dsimp only
  rw [br_not, br_eq, if_neg h]
theorem F22_good {l : List (List Int)} (h : Val l) {g : Nat} (hg : g ≤ 200) : F22 l g = some (planOf l.length ((stepsF (fun _ => 0) l).take g), gsum ((stepsF (fun _ => 0) l).take g), 0, ()) := by
  unfold F22
  rw [F55_eq, bindO_s]
  dsimp only
  rw [br_not, br_eq, if_pos (val_chkG h (by omega) (by omega)), F56_eq h (by omega), bindO_s]
end Go.Proofs.Try
end
section
open Go.AM Go.Gm Go.Srt
namespace Go.Proofs.Try
set_option linter.unusedVariables false
set_option linter.unusedSimpArgs false

theorem dp_step {F f : List Int} (dF : Tops.Desc F) (df : Tops.Desc f) (nF : ∀ x ∈ F, 0 ≤ x) (nf : ∀ x ∈ f, 0 ≤ x) {j : Nat} {m : Int}
    (h1 : ∀ k, k ≤ f.length → k ≤ j → Tops.tops F (j - k) + sumN f k ≤ m) (h2 : ∃ k, k ≤ j ∧ m = Tops.tops F (j - k) + sumN f k) : m = Tops.tops (Tops.mrg F f) j := by
  apply Int.le_antisymm
  · obtain ⟨k, hk, rfl⟩ := h2
    exact Tops.mrg_best dF df nF nf (by omega)
  · obtain ⟨k, hk, e⟩ := Tops.mrg_split F f j
    rw [e]
    by_cases c : j - k ≤ f.length
    · have := h1 (j - k) c (by omega)
      rw [show j - (j - k) = k by omega] at this
      exact this
    · have h := h1 f.length (Nat.le_refl _) (by omega)
      have m1 := Tops.tops_mono nF (show k ≤ j - f.length by omega)
      have : Tops.tops f (j - k) = sumN f f.length := by unfold Tops.tops sumN; rw [List.take_of_length_le (by omega), List.take_of_length_le (Nat.le_refl _)]
      omega

/-- The most sugar of the first fields. -/
def dpv (l : List (List Int)) (i j : Nat) : Int := Tops.tops (mrgAll (l.take i)) j
theorem Val.take {l : List (List Int)} (h : Val l) (i : Nat) : Val (l.take i) :=
  ⟨by have := h.len; simp; omega, fun f hf => h.tab f (List.mem_of_mem_take hf), fun f hf => h.sm f (List.mem_of_mem_take hf), fun f hf => h.desc f (List.mem_of_mem_take hf)⟩
theorem Val.mrgAll_small {l : List (List Int)} (h : Val l) : Small (mrgAll l) 1000000 := fun x hx => by
  obtain ⟨f, hf, hx⟩ := List.mem_flatten.1 ((mrgAll_perm _).mem_iff.1 hx)
  exact h.sm f hf x hx
theorem tops_bound {l : List (List Int)} (h : Val l) (j : Nat) : 0 ≤ Tops.tops (mrgAll l) j ∧ Tops.tops (mrgAll l) j ≤ 120000000 := by
  have := sumN_le (by omega) h.mrgAll_small j
  rw [mrgAll_length] at this
  have := h.flat
  unfold sumN at *
  unfold Tops.tops
  omega
theorem dpv_bound {l : List (List Int)} (h : Val l) (i j : Nat) : 0 ≤ dpv l i j ∧ dpv l i j ≤ 120000000 := tops_bound (h.take i) j
theorem dpv_step {l : List (List Int)} (h : Val l) {i j : Nat} (hi : i < l.length) {m : Int} (h1 : ∀ k, k ≤ (l.getD i []).length → k ≤ j → dpv l i (j - k) + sumN (l.getD i []) k ≤ m) (h2 : ∃ k, k ≤ j ∧ m = dpv l i (j - k) + sumN (l.getD i []) k) : m = dpv l (i + 1) j := by
  unfold dpv at *
  rw [take_succ_getD [] hi, mrgAll_snoc]
  have hm := getD_mem (d := []) hi
  exact dp_step (mrgAll_desc (h.take i).desc) (h.desc _ hm) (fun x hx => ((h.take i).mrgAll_small x hx).1) (fun x hx => (h.sm _ hm x hx).1) h1 h2

theorem set_getD {α : Type} {l : List α} {j : Nat} {x d : α} (h : j < l.length) : (l.set j x).getD j d = x := by
  simp [List.getD_eq_getElem?_getD, h]

def row (l : List (List Int)) (i n : Nat) : List Int := (List.range n).map fun j => dpv l i j
theorem row_length (l : List (List Int)) (i n : Nat) : (row l i n).length = n := by simp [row]
theorem row_getD {l : List (List Int)} {i n j : Nat} (h : j < n) : (row l i n).getD j 0 = dpv l i j := by simp [row, List.getD_eq_getElem?_getD, h]

theorem F57_2 {l : List (List Int)} (h : Val l) {g i j : Nat} (hg : g ≤ 1000) (hi : i < l.length) (hj : j ≤ g) {b0 b2 : List (List Int)} {b3 : List Int} (h0 : b0.length = g + 1) (h2 : b2.length = g + 1) (h3 : b3.length = g + 1)
    (l0 : ∀ p ∈ b0, p.length ≤ i) (l2 : ∀ p ∈ b2, p.length ≤ i + 1) :
    ∃ b, iter (fun x => g57_2 x.1 x.2.1 x.2.2.1 x.2.2.2.1 x.2.2.2.2.1 x.2.2.2.2.2.1 x.2.2.2.2.2.2.1 x.2.2.2.2.2.2.2.1 x.2.2.2.2.2.2.2.2.1 x.2.2.2.2.2.2.2.2.2.1 x.2.2.2.2.2.2.2.2.2.2.1 x.2.2.2.2.2.2.2.2.2.2.2.1 x.2.2.2.2.2.2.2.2.2.2.2.2.1)
      (l, ((g : Int), (g + 1, (g + 1, ((i : Int), (g + 1, (g + 1, ((j : Int), ((0 : Int), (b0, (row l i (g + 1), (b2, (b3.set j (-1), ()))))))))))))) = some b ∧
      ∃ b2', b2'.length = g + 1 ∧ (∀ p ∈ b2', p.length ≤ i + 1) ∧ b = (l, ((g : Int), (g + 1, (g + 1, ((i : Int), (g + 1, (g + 1, ((j : Int), (b0, (row l i (g + 1), (b2', (b3.set j (dpv l (i + 1) j), ())))))))))))) := by
  have hl := h.len
  have hf := h.getD i
  refine iter_ex (min (l.getD i []).length j + 1) (fun k x => ∃ b2' m, b2'.length = g + 1 ∧ (∀ p ∈ b2', p.length ≤ i + 1) ∧ x = (l, ((g : Int), (g + 1, (g + 1, ((i : Int), (g + 1, (g + 1, ((j : Int), ((k : Int), (b0, (row l i (g + 1), (b2', (b3.set j m, ()))))))))))))) ∧
      -1 ≤ m ∧ (∀ k', k' < k → dpv l i (j - k') + sumN (l.getD i []) k' ≤ m) ∧ ((m = -1 ∧ k = 0) ∨ ∃ k', k' < k ∧ m = dpv l i (j - k') + sumN (l.getD i []) k'))
    _ (fun k x hk hx => ?_) (fun x hx => ?_) ⟨b2, -1, h2, l2, rfl, by omega, fun k' hk' => by omega, .inl ⟨rfl, rfl⟩⟩
  · obtain ⟨b2', m, q1, q2, rfl, q3, q4, q5⟩ := hx
    have d1 := dpv_bound h i (j - k)
    have d2 := sumN_bound (by omega) hf.2 k
    have hm1 : m ≤ 1000000000 := by
      rcases q5 with ⟨e, _⟩ | ⟨k', hk', e⟩
      · omega
      · have := dpv_bound h i (j - k'); have := sumN_bound (by omega) hf.2 k'; omega
    have hpl : (b0.getD (j - k) []).length ≤ i := l0 _ (getD_mem (by omega))
    have er : (row l i (g + 1)).getD (j - k) 0 = dpv l i (j - k) := row_getD (by omega)
    have es : (b3.set j m).getD j 0 = m := set_getD (by omega)
    have ej : ((j : Int) - (k : Int)).toNat = j - k := by omega
    by_cases c : m < dpv l i (j - k) + sumN (l.getD i []) k
    · refine ⟨(l, ((g : Int), (g + 1, (g + 1, ((i : Int), (g + 1, (g + 1, ((j : Int), (((k + 1 : Nat) : Int), (b0, (row l i (g + 1), (b2'.set j (b0.getD (j - k) [] ++ [(k : Int)]), (b3.set j (dpv l i (j - k) + sumN (l.getD i []) k), ()))))))))))))), ?_, ?_⟩
      · clear q5
        simp only [g57_2, Int.toNat_natCast, Nat.zero_add]
        rw [need_inb (by omega) (by omega), br_d, if_pos (by omega), br_d, if_pos (by omega), need_i64 (by omega) (by omega), need_inb (by omega) (by omega)]
        simp only [ej, er, es]
        rw [need_d (by rw [row_length]; omega), need_inb (by omega) (by omega), F51_eq (by omega) (by omega) hf.2, bindO_s]
        dsimp only
        rw [need_i64 (by omega) (by omega), need_inb (by omega) (by omega), need_d (by rw [List.length_set]; omega), br_d, if_pos c, need_i64 (by omega) (by omega), need_inb (by omega) (by omega), need_d (by omega), need_big (by omega), need_big (by simp only [List.drop_zero, List.length_take, List.length_cons, List.length_nil]; omega)]
        rw [need_inb (by omega) (by omega), need_d (by omega), need_inb (by omega) (by omega), need_d (by rw [List.length_set]; omega), need_i64 (by omega) (by omega), List.set_set]
        have e1 : List.take (b0.getD (j - k) []).length (b0.getD (j - k) []) = b0.getD (j - k) [] := List.take_of_length_le (by omega)
        simp only [List.drop_zero, List.take_zero, List.nil_append, e1]
        rw [List.take_of_length_le (l := b0.getD (j - k) [] ++ List.take 1 [(k : Int)]) (by simp)]
        simp
      · refine ⟨_, _, by simp [q1], fun p hp => ?_, rfl, by omega, fun k' hk' => ?_, .inr ⟨k, by omega, rfl⟩⟩
        · rcases List.mem_or_eq_of_mem_set hp with hp | rfl
          · exact q2 p hp
          · simp only [List.length_append, List.length_cons, List.length_nil]; omega
        · by_cases e : k' = k
          · subst e; omega
          · have := q4 k' (by omega); omega
    · refine ⟨(l, ((g : Int), (g + 1, (g + 1, ((i : Int), (g + 1, (g + 1, ((j : Int), (((k + 1 : Nat) : Int), (b0, (row l i (g + 1), (b2', (b3.set j m, ()))))))))))))), ?_, ?_⟩
      · clear q5
        simp only [g57_2, Int.toNat_natCast, Nat.zero_add]
        rw [need_inb (by omega) (by omega), br_d, if_pos (by omega), br_d, if_pos (by omega), need_i64 (by omega) (by omega), need_inb (by omega) (by omega)]
        simp only [ej, er, es]
        rw [need_d (by rw [row_length]; omega), need_inb (by omega) (by omega), F51_eq (by omega) (by omega) hf.2, bindO_s]
        dsimp only
        rw [need_i64 (by omega) (by omega), need_inb (by omega) (by omega), need_d (by rw [List.length_set]; omega), br_d, if_neg c, need_i64 (by omega) (by omega)]
        simp
      · refine ⟨_, _, q1, q2, rfl, q3, fun k' hk' => ?_, ?_⟩
        · by_cases e : k' = k
          · subst e; omega
          · exact q4 k' (by omega)
        · rcases q5 with ⟨e, _⟩ | ⟨k', hk', e⟩
          · omega
          · exact .inr ⟨k', by omega, e⟩
  · obtain ⟨b2', m, q1, q2, rfl, q3, q4, q5⟩ := hx
    have em : m = dpv l (i + 1) j := dpv_step h hi (fun k h1 h2 => q4 k (by omega)) (by
      rcases q5 with ⟨_, e⟩ | ⟨k', hk', e⟩
      · omega
      · exact ⟨k', by omega, e⟩)
    refine ⟨_, ?_, b2', q1, q2, rfl⟩
    simp only [g57_2, Int.toNat_natCast]
    rw [need_inb (by omega) (by omega), br_d, ← em]
    by_cases c : ((min (l.getD i []).length j + 1 : Nat) : Int) ≤ ((l.getD i []).length : Nat)
    · rw [if_pos c, br_d, if_neg (by omega)]
    · rw [if_neg c]

theorem F57_1 {l : List (List Int)} (h : Val l) {g i : Nat} (hg : g ≤ 1000) (hi : i < l.length) {b0 : List (List Int)} (h0 : b0.length = g + 1) (l0 : ∀ p ∈ b0, p.length ≤ i) :
    ∃ b, iter (fun x => g57_1 x.1 x.2.1 x.2.2.1 x.2.2.2.1 x.2.2.2.2.1 x.2.2.2.2.2.1 x.2.2.2.2.2.2.1 x.2.2.2.2.2.2.2.1 x.2.2.2.2.2.2.2.2.1 x.2.2.2.2.2.2.2.2.2.1 x.2.2.2.2.2.2.2.2.2.2.1 x.2.2.2.2.2.2.2.2.2.2.2.1)
      (l, ((g : Int), (g + 1, (g + 1, ((i : Int), (g + 1, (g + 1, ((0 : Int), (b0, (row l i (g + 1), (List.replicate (g + 1) [], (List.replicate (g + 1) 0, ())))))))))))) = some b ∧
      ∃ b2', b2'.length = g + 1 ∧ (∀ p ∈ b2', p.length ≤ i + 1) ∧ b = (l, ((g : Int), ((i : Int), (g + 1, (g + 1, (b2', (row l (i + 1) (g + 1), ()))))))) := by
  have hl := h.len
  refine iter_ex (g + 1) (fun j x => ∃ b2', b2'.length = g + 1 ∧ (∀ p ∈ b2', p.length ≤ i + 1) ∧ x = (l, ((g : Int), (g + 1, (g + 1, ((i : Int), (g + 1, (g + 1, ((j : Int), (b0, (row l i (g + 1), (b2', (row l (i + 1) j ++ List.replicate (g + 1 - j) 0, ())))))))))))))
    _ (fun j x hj hx => ?_) (fun x hx => ?_) ⟨List.replicate (g + 1) [], by simp, fun p hp => by rw [List.eq_of_mem_replicate hp]; simp, by simp [row]⟩
  · obtain ⟨b2', q1, q2, rfl⟩ := hx
    obtain ⟨b, hb, b2'', r1, r2, rfl⟩ := F57_2 h hg hi (j := j) (by omega) h0 q1 (b3 := row l (i + 1) j ++ List.replicate (g + 1 - j) 0) (by simp [row_length]; omega) l0 q2
    refine ⟨_, ?_, b2'', r1, r2, rfl⟩
    simp only [g57_1, Int.toNat_natCast, Nat.zero_add]
    rw [br_d, if_pos (by omega), need_inb (by omega) (by omega), need_d (by simp [row_length]; omega), bind_of hb]
    dsimp only
    rw [need_i64 (by omega) (by omega)]
    have e : (row l (i + 1) j ++ List.replicate (g + 1 - j) 0).set j (dpv l (i + 1) j) = row l (i + 1) (j + 1) ++ List.replicate (g + 1 - (j + 1)) 0 := by
      rw [show g + 1 - j = (g + 1 - (j + 1)) + 1 by omega, List.replicate_succ, set_at (by rw [row_length])]
      simp [row, List.range_succ]
    rw [e]
    simp
  · obtain ⟨b2', q1, q2, rfl⟩ := hx
    refine ⟨_, ?_, b2', q1, q2, rfl⟩
    simp only [g57_1, Int.toNat_natCast]
    rw [br_d, if_neg (by omega)]
    simp

theorem F57_eq {l : List (List Int)} (h : Val l) {g : Nat} (hg : g ≤ 1000) : ∃ p, F57 l g = some (p, Tops.tops (mrgAll l) g, ()) := by
  have hl := h.len
  obtain ⟨b, hb, b0', q1, rfl⟩ : ∃ b, iter (fun x => g57_0 x.1 x.2.1 x.2.2.1 x.2.2.2.1 x.2.2.2.2.1 x.2.2.2.2.2.1 x.2.2.2.2.2.2.1) (l, ((g : Int), (g + 1, (g + 1, ((0 : Int), ((List.replicate (g + 1) []), ((List.replicate (g + 1) 0), ()))))))) = some b ∧
      ∃ b0', b0'.length = g + 1 ∧ b = ((g : Int), (g + 1, (g + 1, (b0', (row l l.length (g + 1), ()))))) := by
    refine iter_ex l.length (fun i x => ∃ b0', b0'.length = g + 1 ∧ (∀ p ∈ b0', p.length ≤ i) ∧ x = (l, ((g : Int), (g + 1, (g + 1, ((i : Int), (b0', (row l i (g + 1), ()))))))))
      _ (fun i x hi hx => ?_) (fun x hx => ?_) ⟨List.replicate (g + 1) [], by simp, fun p hp => by rw [List.eq_of_mem_replicate hp]; simp, ?_⟩
    · obtain ⟨b0', q1, q2, rfl⟩ := hx
      obtain ⟨b, hb, b2', r1, r2, rfl⟩ := F57_1 h hg hi q1 q2
      refine ⟨_, ?_, b2', r1, r2, rfl⟩
      simp only [g57_0]
      rw [br_d, if_pos (by omega), need_i64 (by omega) (by omega), need_inbL (by omega) (by omega), need_i64 (by omega) (by omega), need_inbL (by omega) (by omega)]
      rw [show ((g : Int) + 1).toNat = g + 1 by omega, bind_of hb]
      dsimp only
      rw [need_i64 (by omega) (by omega)]
      simp
    · obtain ⟨b0', q1, q2, rfl⟩ := hx
      refine ⟨_, ?_, b0', q1, rfl⟩
      simp only [g57_0]
      rw [br_d, if_neg (by omega)]
    · have : row l 0 (g + 1) = List.replicate (g + 1) 0 := by
        apply List.ext_getElem
        · simp [row]
        · intro i h1 h2; simp [row, dpv, mrgAll, Tops.tops]
      rw [this]; simp
  unfold F57
  rw [need_i64 (by omega) (by omega), need_inbL (by omega) (by omega), need_i64 (by omega) (by omega), need_inbL (by omega) (by omega), show ((g : Int) + 1).toNat = g + 1 by omega, bind_of hb]
  dsimp only
  rw [need_inb (by omega) (by omega), need_d (by omega), need_inb (by omega) (by omega), need_d (by rw [row_length]; omega)]
  refine ⟨b0'.getD (0 + (g : Int).toNat) [], ?_⟩
  rw [show (0 : Nat) + (g : Int).toNat = g by omega, row_getD (by omega)]
  simp [dpv]

theorem F23_bad {l : List (List Int)} {g : Int} (h : chkG l g ≠ 0) : F23 l g = some ([], 0, chkG l g, ()) := by
  unfold F23
  rw [F21_eq, bindO_s]
  dsimp only
  unfold chkG at h ⊢
  rw [br_eq]
  by_cases h0 : chk l = 0
  · rw [if_pos h0] at h ⊢
    rw [if_pos h0, F50_eq, bindO_s, br_not]
    by_cases h1 : 0 ≤ g ∧ g ≤ 200
    · rw [if_pos h1] at h; exact absurd rfl h
    · rw [br_f (by simpa using h1), if_neg h1, br_not, br_f (by decide)]
  · rw [if_neg h0, if_neg h0, br_not, br_eq, if_neg h0]
theorem F23_good {l : List (List Int)} (h : Val l) {g : Nat} (hg : g ≤ 200) : ∃ p, F23 l g = some (p, Tops.tops (mrgAll l) g, 0, ()) := by
  obtain ⟨p, hp⟩ := F57_eq h (g := g) (by omega)
  refine ⟨p, ?_⟩
  unfold F23
  have h0 := chk_val.2 h
  rw [F21_eq, bindO_s, h0]
  dsimp only
  rw [br_eq, if_pos rfl, F50_eq, bindO_s, br_not, br_t (by simp; omega), br_not, br_eq, if_pos rfl, hp, bindO_s]
end Go.Proofs.Try
end
section
open Go.AM Go.Gm Go.Srt
namespace Go.Proofs.Try
set_option linter.unusedVariables false
set_option linter.unusedSimpArgs false

theorem F16_eq : F16 = some (true, ()) := Go.AM.Le.done CF16_le (by kernel_rfl)

theorem F15_eq (l : List (List Int)) : F15 l = some (true, ()) ∨ (F15 l = some (false, ()) ∧ l.length ≤ 30 ∧ ∀ f ∈ l, f.length ≤ 30) := by
  unfold F15
  rw [br_d]
  by_cases h0 : 30 < l.length
  · rw [if_pos (by omega)]; exact .inl rfl
  · rw [if_neg (by omega)]
    have key := iter_find (step := fun x => g15_0 x.1 x.2.1) l.length (fun k => (l, ((k : Int), ()))) (fun k => if 30 < (l.getD k []).length then some 1 else none) (fun (e : Nat) => .inl ()) (b := .inr ()) (fun k hk _ => by
      simp only [g15_0, Int.toNat_natCast]
      rw [br_d, if_pos (by omega), need_inb (by omega) (by omega), br_d]
      by_cases h1 : 30 < (l.getD k []).length
      · rw [if_pos (by omega), if_pos h1]
      · rw [if_neg (by omega), if_neg h1, need_i64 (by omega) (by omega)]; simp) (fun _ => by simp only [g15_0]; rw [br_d, if_neg (by omega)])
    simp only [Int.natCast_zero] at key
    rw [bind_of key]
    cases hf : (List.range l.length).findSome? (fun k => if 30 < (l.getD k []).length then some 1 else none) with
    | some e => exact .inl rfl
    | none =>
      refine .inr ⟨rfl, by omega, fun f hf' => ?_⟩
      obtain ⟨k, hk, rfl⟩ := List.mem_iff_getElem.1 hf'
      have := (List.findSome?_eq_none_iff.1 hf) k (by simpa using hk)
      rw [getD_el [] hk] at this
      by_cases c : 30 < l[k].length
      · rw [if_pos c] at this; cases this
      · omega

theorem F17_eq {l : List (List Int)} (h : l.length ≤ 30) : F17 l = some (l, ()) := by
  unfold F17
  have key := iter_count (step := fun x => g17_0 x.1 x.2.1 x.2.2.1 x.2.2.2.1) l.length (fun k => (l, (k, ((k : Int), (l.take k, ()))))) (b := (l.length, (l, ()))) (fun k hk => by
    simp only [g17_0, Int.toNat_natCast]
    rw [br_d, if_pos (by omega), need_inb (by omega) (by omega), need_big (by simp; omega), need_i64 (by omega) (by omega), take_succ_getD [] hk]
    simp
    rw [List.take_take, Nat.min_self]) (by simp only [g17_0]; rw [br_d, if_neg (by omega), List.take_length])
  simp only [List.take_zero, Int.natCast_zero] at key
  rw [bind_of key]
  simp

theorem take_fields {l : List (List Int)} (fv : Int → Int) (g : Nat) : ∀ s ∈ (stepsF fv l).take g, ∃ j, j < l.length ∧ s.2 = (j : Nat) := fun s hs => steps_fields fv (List.mem_of_mem_take hs)

/-- The plan of the first steps is one, and has their sugar. -/
theorem sug_plan {l : List (List Int)} (h : Val l) (fv : Int → Int) (g : Nat) : sug l (planOf l.length ((stepsF fv l).take g)) = (((((stepsF fv l).take g).length : Nat) : Int), Tops.tops (mrgAll l) g, 0) := by
  unfold sug
  rw [if_neg (by simpa using chk_val.2 h), if_neg (by simp [planOf_length])]
  have hs : (List.range (planOf l.length ((stepsF fv l).take g)).length).findSome? (stopP l (planOf l.length ((stepsF fv l).take g))) = none := findSome_none.2 fun k hk => by
    rw [planOf_length] at hk
    rw [stopP_none, planOf_getD _ hk]
    have := field_cnt fv h.desc k g
    omega
  rw [hs]
  simp only
  rw [planOf_length, ← steps_first fv h.desc, ← gsum_parts _ (take_fields fv g), ← cnt_parts _ (take_fields fv g)]
  congr 1
  · unfold planOf; rw [sum_map_range]
  · congr 1
    refine sumR_congr fun i hi => ?_
    rw [planOf_getD _ hi, field_sum fv h.desc]
    rfl
end Go.Proofs.Try
end
section
open Go.AM Go.Gm Go.Srt
namespace Go.Proofs.Try
set_option linter.unusedVariables false
set_option linter.unusedSimpArgs false

/-- What a field's last gang brings, and its next one. -/
def lastG (l : List (List Int)) (p : List Int) (a : Int) : Int := if 0 ≤ a then (l.getD a.toNat []).getD (p.getD a.toNat 0 - 1).toNat 0 else 0
def nextG (l : List (List Int)) (p : List Int) (b : Int) : Int := if 0 ≤ b then (l.getD b.toNat []).getD (p.getD b.toNat 0).toNat 0 else 0
def skipA (p : List Int) (full : Prop) (a : Int) : Prop := (a = -1 ∧ full) ∨ (0 ≤ a ∧ p.getD a.toNat 0 = 0)
def skipB (l : List (List Int)) (p : List Int) (b : Int) : Prop := 0 ≤ b ∧ p.getD b.toNat 0 = ((l.getD b.toNat []).length : Nat)
open Classical in
/-- The better one of what was found and an exchange. -/
noncomputable def exSt (l : List (List Int)) (p : List Int) (full : Prop) (a b : Int) (s : Int × Int × Int) : Int × Int × Int :=
  if a = b ∨ skipA p full a ∨ skipB l p b then s else if s.2.2 < nextG l p b - lastG l p a then (a, b, nextG l p b - lastG l p a) else s
noncomputable def exB (l : List (List Int)) (p : List Int) (full : Prop) (a : Int) (n : Nat) (s : Int × Int × Int) : Int × Int × Int := (List.range n).foldl (fun s (b : Nat) => exSt l p full a (b : Int) s) s
noncomputable def exA (l : List (List Int)) (p : List Int) (full : Prop) (k : Nat) : Int × Int × Int := (List.range k).foldl (fun s (a : Nat) => exB l p full ((a : Int) - 1) l.length s) (0, 0, 0)

theorem exB_succ (l : List (List Int)) (p : List Int) (full : Prop) (a : Int) (n : Nat) (s : Int × Int × Int) : exB l p full a (n + 1) s = exSt l p full a n (exB l p full a n s) := by
  simp [exB, List.range_succ]
theorem exA_succ (l : List (List Int)) (p : List Int) (full : Prop) (k : Nat) : exA l p full (k + 1) = exB l p full ((k : Int) - 1) l.length (exA l p full k) := by
  simp [exA, List.range_succ]
theorem exSt_nonneg {l : List (List Int)} {p : List Int} {full : Prop} {a b : Int} {s : Int × Int × Int} (h : 0 ≤ s.2.2) : 0 ≤ (exSt l p full a b s).2.2 := by
  unfold exSt
  split
  · exact h
  · split
    · simp only; omega
    · exact h
theorem exB_nonneg {l : List (List Int)} {p : List Int} {full : Prop} {a : Int} {n : Nat} {s : Int × Int × Int} (h : 0 ≤ s.2.2) : 0 ≤ (exB l p full a n s).2.2 := by
  induction n with
  | zero => simpa [exB] using h
  | succ n ih => rw [exB_succ]; exact exSt_nonneg ih
theorem exA_nonneg (l : List (List Int)) (p : List Int) (full : Prop) (k : Nat) : 0 ≤ (exA l p full k).2.2 := by
  induction k with
  | zero => simp [exA]
  | succ k ih => rw [exA_succ]; exact exB_nonneg ih
theorem exB_skip {l : List (List Int)} {p : List Int} {full : Prop} {a : Int} {n : Nat} {s : Int × Int × Int} (h : skipA p full a) : exB l p full a n s = s := by
  induction n with
  | zero => simp [exB]
  | succ n ih => rw [exB_succ, ih]; unfold exSt; rw [if_pos (.inr (.inl h))]

/-- A plan of fields. -/
structure PlanOk (l : List (List Int)) (p : List Int) : Prop where
  v : Val l
  len : p.length = l.length
  rng : ∀ k, k < l.length → 0 ≤ p.getD k 0 ∧ p.getD k 0 ≤ ((l.getD k []).length : Nat)

theorem sug_ok {l : List (List Int)} {p : List Int} (h : (sug l p).2.2 = 0) : PlanOk l p := by
  unfold sug at h
  by_cases h0 : chk l = 0
  · rw [if_neg (by simpa using h0)] at h
    by_cases h1 : p.length = l.length
    · rw [if_neg (by simpa using h1)] at h
      refine ⟨chk_val.1 h0, h1, ?_⟩
      cases hf : (List.range p.length).findSome? (stopP l p) with
      | some e =>
        rw [hf] at h
        simp only at h
        subst h
        obtain ⟨k, _, hk⟩ := List.exists_of_findSome?_eq_some hf
        unfold stopP at hk
        split at hk <;> cases hk
      | none =>
        intro k hk
        exact stopP_none.1 (findSome_none.1 hf k (by omega))
    · rw [if_pos (by simpa using h1)] at h; cases h
  · rw [if_pos h0] at h; exact absurd h h0

theorem cell_bound {l : List (List Int)} (h : Val l) (i j : Nat) : 0 ≤ (l.getD i []).getD j 0 ∧ (l.getD i []).getD j 0 ≤ 1000000 := by
  by_cases c : j < (l.getD i []).length
  · exact (h.getD i).2 _ (getD_mem c)
  · rw [getD_out 0 (by omega)]; omega

theorem g33_in {l : List (List Int)} {p : List Int} (h : PlanOk l p) {g u a : Int} {full : Prop} {s : Int × Int × Int} (hs : ¬skipA p full a) (ha : -1 ≤ a) :
    iter (fun x => g33_1 x.1 x.2.1 x.2.2.1 x.2.2.2.1 x.2.2.2.2.1 x.2.2.2.2.2.1 x.2.2.2.2.2.2.1 x.2.2.2.2.2.2.2.1 x.2.2.2.2.2.2.2.2.1 x.2.2.2.2.2.2.2.2.2.1 x.2.2.2.2.2.2.2.2.2.2.1 x.2.2.2.2.2.2.2.2.2.2.2.1)
      (l, (g, (p, (s.1, (s.2.1, (s.2.2, (u, (a, (lastG l p a, (l, (((l.length : Nat) : Int), ((0 : Int), ())))))))))))) = some (l, (g, (p, ((exB l p full a l.length s).1, ((exB l p full a l.length s).2.1, ((exB l p full a l.length s).2.2, (u, (a, ())))))))) := by
  have hl := h.v.len
  have hla : 0 ≤ lastG l p a ∧ lastG l p a ≤ 1000000 := by
    unfold lastG; split
    · exact cell_bound h.v _ _
    · omega
  have key := iter_count (step := fun x => g33_1 x.1 x.2.1 x.2.2.1 x.2.2.2.1 x.2.2.2.2.1 x.2.2.2.2.2.1 x.2.2.2.2.2.2.1 x.2.2.2.2.2.2.2.1 x.2.2.2.2.2.2.2.2.1 x.2.2.2.2.2.2.2.2.2.1 x.2.2.2.2.2.2.2.2.2.2.1 x.2.2.2.2.2.2.2.2.2.2.2.1) l.length
    (fun k => (l, (g, (p, ((exB l p full a k s).1, ((exB l p full a k s).2.1, ((exB l p full a k s).2.2, (u, (a, (lastG l p a, (l, (((l.length : Nat) : Int), ((k : Int), ()))))))))))))) (b := (l, (g, (p, ((exB l p full a l.length s).1, ((exB l p full a l.length s).2.1, ((exB l p full a l.length s).2.2, (u, (a, ())))))))) )
    (fun k hk => by
      have hp := h.rng k hk
      have hlen := h.len
      have hc := cell_bound h.v k (p.getD k 0).toNat
      have hn : nextG l p (k : Int) = (l.getD k []).getD (p.getD k 0).toNat 0 := by unfold nextG; rw [if_pos (by omega), Int.toNat_natCast]
      have hB : skipB l p (k : Int) ↔ p.getD k 0 = ((l.getD k []).length : Nat) := by unfold skipB; rw [Int.toNat_natCast]; constructor <;> intro hh; exact hh.2; exact ⟨by omega, hh⟩
      rw [exB_succ]
      generalize exB l p full a k s = s' at *
      unfold exSt
      rw [hn]
      simp only [g33_1, Int.toNat_natCast]
      rw [br_d, if_pos (by omega), need_inb (by omega) (by omega), br_eq]
      by_cases c1 : a = k
      · rw [if_pos c1.symm, if_pos (.inl c1), need_i64 (by omega) (by omega), Int.natCast_add]; rfl
      · rw [if_neg (fun e => c1 e.symm), need_inb (by omega) (by omega), br_eq]
        by_cases c2 : p.getD k 0 = ((l.getD k []).length : Nat)
        · rw [if_pos c2, if_pos (.inr (.inr (hB.2 c2))), need_i64 (by omega) (by omega), Int.natCast_add]; rfl
        · rw [if_neg c2, if_neg (by rintro (e | e | e); exact c1 e; exact hs e; exact c2 (hB.1 e)), need_inb (by omega) (by omega), need_inb (by omega) (by omega), need_i64 (by omega) (by omega), br_d]
          by_cases c3 : s'.2.2 < (l.getD k []).getD (p.getD k 0).toNat 0 - lastG l p a
          · rw [if_pos c3, if_pos c3, need_i64 (by omega) (by omega), Int.natCast_add]; rfl
          · rw [if_neg c3, if_neg c3, need_i64 (by omega) (by omega), Int.natCast_add]; rfl) (by
      simp only [g33_1]; rw [br_d, if_neg (by omega)])
  simp only [Int.natCast_zero] at key
  have e0 : exB l p full a 0 s = s := by simp [exB]
  rw [e0] at key
  exact key

theorem g33_out {l : List (List Int)} {p : List Int} (h : PlanOk l p) {g u : Int} :
    iter (fun x => g33_0 x.1 x.2.1 x.2.2.1 x.2.2.2.1 x.2.2.2.2.1 x.2.2.2.2.2.1 x.2.2.2.2.2.2.1 x.2.2.2.2.2.2.2.1) (l, (g, (p, ((0 : Int), ((0 : Int), ((0 : Int), (u, ((-1 : Int), ())))))))) = some ((exA l p (u = g) (l.length + 1)).1, ((exA l p (u = g) (l.length + 1)).2.1, ((exA l p (u = g) (l.length + 1)).2.2, ()))) := by
  have hl := h.v.len
  have key := iter_count (step := fun x => g33_0 x.1 x.2.1 x.2.2.1 x.2.2.2.1 x.2.2.2.2.1 x.2.2.2.2.2.1 x.2.2.2.2.2.2.1 x.2.2.2.2.2.2.2.1) (l.length + 1) (fun k => (l, (g, (p, ((exA l p (u = g) k).1, ((exA l p (u = g) k).2.1, ((exA l p (u = g) k).2.2, (u, (((k : Int) - 1), ()))))))) ))
    (b := ((exA l p (u = g) (l.length + 1)).1, ((exA l p (u = g) (l.length + 1)).2.1, ((exA l p (u = g) (l.length + 1)).2.2, ())))) (fun k hk => by
      have hlen := h.len
      rw [exA_succ]
      generalize exA l p (u = g) k = s
      simp only [g33_0]
      rw [br_d, if_pos (by omega), br_eq]
      by_cases c0 : (k : Int) - 1 = -1
      · rw [if_pos c0, br_eq]
        by_cases c1 : u = g
        · rw [if_pos c1, exB_skip (.inl ⟨c0, c1⟩), need_i64 (by omega) (by omega)]; simp
        · rw [if_neg c1, br_eq, if_pos c0]
          have hs : ¬skipA p (u = g) ((k : Int) - 1) := by rintro (e | e); exact c1 e.2; omega
          have hla : lastG l p ((k : Int) - 1) = 0 := by unfold lastG; rw [if_neg (by omega)]
          have := g33_in h (g := g) (u := u) (s := s) hs (by omega)
          rw [hla] at this
          rw [bind_of this]
          dsimp only
          rw [need_i64 (by omega) (by omega)]; simp
      · obtain ⟨j, hj⟩ : ∃ j : Nat, (k : Int) - 1 = j := ⟨k - 1, by omega⟩
        have hp := h.rng j (by omega)
        rw [if_neg c0, br_eq, if_neg c0, hj, need_inb (by omega) (by omega)]
        simp only [Int.toNat_natCast]
        rw [br_eq]
        by_cases c1 : p.getD j 0 = 0
        · rw [if_pos c1, exB_skip (.inr ⟨by omega, by rw [Int.toNat_natCast]; exact c1⟩), need_i64 (by omega) (by omega), show ((k + 1 : Nat) : Int) - 1 = (j : Int) + 1 by omega]
        · have hs : ¬skipA p (u = g) (j : Int) := by
            rintro (e | e)
            · omega
            · rw [Int.toNat_natCast] at e; exact c1 e.2
          have hla : lastG l p (j : Int) = (l.getD j []).getD (p.getD j 0 - 1).toNat 0 := by unfold lastG; rw [if_pos (by omega), Int.toNat_natCast]
          have := g33_in h (g := g) (u := u) (s := s) hs (by omega)
          rw [hla] at this
          have hg := (h.v.getD j).1
          rw [if_neg c1, need_inb (by omega) (by omega), need_inb (by omega) (by omega), need_i64 (by omega) (by omega), need_inb (by omega) (by omega), bind_of this]
          dsimp only
          rw [need_i64 (by omega) (by omega), show ((k + 1 : Nat) : Int) - 1 = (j : Int) + 1 by omega]) (by
      simp only [g33_0]; rw [br_d, if_neg (by omega)])
  have e0 : exA l p (u = g) 0 = (0, 0, 0) := by simp [exA]
  rw [e0] at key
  exact key

theorem g34_round {l : List (List Int)} {p : List Int} (h : PlanOk l p) {g u a b : Int} {s : Int × Int × Int} (h0 : 0 ≤ s.2.2) (ha : -1 ≤ a) (ha2 : a < l.length) (hb : -1 ≤ b) (hb2 : b < l.length) :
    g34_1 l g p u s.1 s.2.1 s.2.2 a b = some (.inl (l, (g, (p, (u, ((if b = -1 then s else exSt l p (u = g) a b s).1, ((if b = -1 then s else exSt l p (u = g) a b s).2.1, ((if b = -1 then s else exSt l p (u = g) a b s).2.2, (a, ((b + 1), ())))))))))) := by
  have hl := h.v.len
  have hlen := h.len
  obtain ⟨f, t, m⟩ := s
  simp only at h0 ⊢
  have ca := cell_bound h.v a.toNat (p.getD a.toNat 0 - 1).toNat
  have cb := cell_bound h.v b.toNat (p.getD b.toNat 0).toNat
  have ra := h.rng a.toNat
  have rb := h.rng b.toNat
  have ga := (h.v.getD a.toNat).1
  unfold exSt skipA skipB lastG nextG
  unfold g34_1
  generalize hx : (l.getD a.toNat []).getD (p.getD a.toNat 0 - 1).toNat 0 = x at *
  generalize hy : (l.getD b.toNat []).getD (p.getD b.toNat 0).toNat 0 = y at *
  generalize hpa : p.getD a.toNat 0 = pa at *
  generalize hpb : p.getD b.toNat 0 = pb at *
  generalize hlb : (l.getD b.toNat []).length = lb at *
  generalize hla : (l.getD a.toNat []).length = la at *
  have nx : (0 : Int) - x + y = y - x := by omega
  by_cases c1 : a = b
  · rw [br_d, if_pos hb2, br_eq, if_pos c1, need_i64 (by omega) (by omega)]; simp [c1]
  by_cases c2 : a = -1
  · have na : ¬ (0 ≤ a) := by omega
    by_cases c3 : u = g
    · rw [br_d, if_pos hb2, br_eq, if_neg c1, br_eq, if_pos c2, br_eq, if_pos c3, need_i64 (by omega) (by omega)]; simp [c2, c3]
    · have nb : 0 ≤ b := by omega
      have nb1 : ¬ b = -1 := by omega
      have rb := rb (by omega)
      by_cases c4 : pb = lb
      · simp (disch := omega) only [br_d, br_eq, c1, hb2, c2, c3, c4, na, nb, nb1, if_true, if_false, true_or, or_true, true_and, and_true, false_and, and_false, false_or, or_false, need_i64, need_inb, ite_self, show ¬(-1 : Int) = b by omega, show ¬((0 : Int) ≤ -1) by decide]
      · by_cases c5 : m < y
        · simp (disch := omega) only [br_d, br_eq, c1, hb2, c2, c3, c4, c5, na, nb, nb1, if_true, if_false, true_or, or_true, true_and, and_true, false_and, and_false, false_or, or_false, need_i64, need_inb, ite_self, show ¬(-1 : Int) = b by omega, show ¬((0 : Int) ≤ -1) by decide, Int.zero_add, Int.sub_zero]
        · simp (disch := omega) only [br_d, br_eq, c1, hb2, c2, c3, c4, c5, na, nb, nb1, if_true, if_false, true_or, or_true, true_and, and_true, false_and, and_false, false_or, or_false, need_i64, need_inb, ite_self, show ¬(-1 : Int) = b by omega, show ¬((0 : Int) ≤ -1) by decide, Int.zero_add, Int.sub_zero]
  · have na : 0 ≤ a := by omega
    have ra := ra (by omega)
    by_cases c3 : pa = 0
    · simp (disch := omega) only [br_d, br_eq, c1, hb2, c2, c3, na, if_true, if_false, true_or, or_true, true_and, and_true, false_and, and_false, false_or, or_false, need_i64, need_inb, ite_self]
    · by_cases nb1 : b = -1
      · have nb : ¬ (0 ≤ b) := by omega
        simp (disch := omega) only [br_d, br_eq, c1, hb2, c2, c3, na, nb, show ¬ m < 0 - x by omega, if_true, if_false, true_or, or_true, true_and, and_true, false_and, and_false, false_or, or_false, need_i64, need_inb, ite_self]
      · have nb : 0 ≤ b := by omega
        have rb := rb (by omega)
        by_cases c4 : pb = lb
        · simp (disch := omega) only [br_d, br_eq, c1, hb2, c2, c3, c4, na, nb, nb1, if_true, if_false, true_or, or_true, true_and, and_true, false_and, and_false, false_or, or_false, need_i64, need_inb, ite_self]
        · by_cases c5 : m < y - x
          · simp (disch := omega) only [br_d, br_eq, c1, hb2, c2, c3, c4, c5, nx, na, nb, nb1, if_true, if_false, true_or, or_true, true_and, and_true, false_and, and_false, false_or, or_false, need_i64, need_inb, ite_self]
          · simp (disch := omega) only [br_d, br_eq, c1, hb2, c2, c3, c4, c5, nx, na, nb, nb1, if_true, if_false, true_or, or_true, true_and, and_true, false_and, and_false, false_or, or_false, need_i64, need_inb, ite_self]

theorem g34_in {l : List (List Int)} {p : List Int} (h : PlanOk l p) {g u a : Int} {s : Int × Int × Int} (h0 : 0 ≤ s.2.2) (ha : -1 ≤ a) (ha2 : a < l.length) :
    iter (fun x => g34_1 x.1 x.2.1 x.2.2.1 x.2.2.2.1 x.2.2.2.2.1 x.2.2.2.2.2.1 x.2.2.2.2.2.2.1 x.2.2.2.2.2.2.2.1 x.2.2.2.2.2.2.2.2.1) (l, (g, (p, (u, (s.1, (s.2.1, (s.2.2, (a, ((-1 : Int), ()))))))))) =
      some (l, (g, (p, (u, ((exB l p (u = g) a l.length s).1, ((exB l p (u = g) a l.length s).2.1, ((exB l p (u = g) a l.length s).2.2, (a, ())))))))) := by
  have hl := h.v.len
  have key := iter_count (step := fun x => g34_1 x.1 x.2.1 x.2.2.1 x.2.2.2.1 x.2.2.2.2.1 x.2.2.2.2.2.1 x.2.2.2.2.2.2.1 x.2.2.2.2.2.2.2.1 x.2.2.2.2.2.2.2.2.1) (l.length + 1)
    (fun k => (l, (g, (p, (u, ((exB l p (u = g) a (k - 1) s).1, ((exB l p (u = g) a (k - 1) s).2.1, ((exB l p (u = g) a (k - 1) s).2.2, (a, (((k : Int) - 1), ()))))))))))
    (b := (l, (g, (p, (u, ((exB l p (u = g) a l.length s).1, ((exB l p (u = g) a l.length s).2.1, ((exB l p (u = g) a l.length s).2.2, (a, ()))))))))) (fun k hk => by
      dsimp only
      rw [g34_round h (exB_nonneg h0) ha ha2 (by omega) (by omega)]
      by_cases c : k = 0
      · subst c
        simp
      · rw [if_neg (by omega), show (k : Int) - 1 = ((k - 1 : Nat) : Int) by omega, ← exB_succ, show k - 1 + 1 = k by omega, show k + 1 - 1 = k by omega]
        simp; omega) (by
      simp only [g34_1]
      rw [br_d, if_neg (by omega), Nat.add_sub_cancel])
  have e0 : exB l p (u = g) a 0 s = s := by simp [exB]
  simp only [Nat.zero_sub, e0] at key
  exact key

theorem g34_out {l : List (List Int)} {p : List Int} (h : PlanOk l p) {g u : Int} :
    iter (fun x => g34_0 x.1 x.2.1 x.2.2.1 x.2.2.2.1 x.2.2.2.2.1 x.2.2.2.2.2.1 x.2.2.2.2.2.2.1 x.2.2.2.2.2.2.2.1) (l, (g, (p, (u, ((0 : Int), ((0 : Int), ((0 : Int), ((-1 : Int), ())))))))) = some ((exA l p (u = g) (l.length + 1)).1, ((exA l p (u = g) (l.length + 1)).2.1, ((exA l p (u = g) (l.length + 1)).2.2, ()))) := by
  have hl := h.v.len
  have key := iter_count (step := fun x => g34_0 x.1 x.2.1 x.2.2.1 x.2.2.2.1 x.2.2.2.2.1 x.2.2.2.2.2.1 x.2.2.2.2.2.2.1 x.2.2.2.2.2.2.2.1) (l.length + 1) (fun k => (l, (g, (p, (u, ((exA l p (u = g) k).1, ((exA l p (u = g) k).2.1, ((exA l p (u = g) k).2.2, (((k : Int) - 1), ()))))))) ))
    (b := ((exA l p (u = g) (l.length + 1)).1, ((exA l p (u = g) (l.length + 1)).2.1, ((exA l p (u = g) (l.length + 1)).2.2, ())))) (fun k hk => by
      rw [exA_succ]
      have h0 := exA_nonneg l p (u = g) k
      generalize exA l p (u = g) k = s at *
      simp only [g34_0]
      rw [br_d, if_pos (by omega), bind_of (g34_in h h0 (by omega) (by omega))]
      dsimp only
      rw [need_i64 (by omega) (by omega), show ((k + 1 : Nat) : Int) - 1 = (k : Int) - 1 + 1 by omega]) (by
      simp only [g34_0]; rw [br_d, if_neg (by omega)])
  have e0 : exA l p (u = g) 0 = (0, 0, 0) := by simp [exA]
  rw [e0] at key
  exact key

/-- The exchange that gains most. -/
noncomputable def exR (l : List (List Int)) (g : Int) (p : List Int) : Int × Int × Int × Int :=
  if chkG l g ≠ 0 then (0, 0, 0, chkG l g) else if (sug l p).2.2 ≠ 0 then (0, 0, 0, (sug l p).2.2) else if g < (sug l p).1 then (0, 0, 0, 10) else
    if (exA l p ((sug l p).1 = g) (l.length + 1)).2.2 = 0 then (0, 0, 0, 5) else
      ((exA l p ((sug l p).1 = g) (l.length + 1)).1, (exA l p ((sug l p).1 = g) (l.length + 1)).2.1, (exA l p ((sug l p).1 = g) (l.length + 1)).2.2, 0)

theorem F33_eq {l : List (List Int)} {g : Int} {p : List Int} : F33 l g p = some ((exR l g p).1, (exR l g p).2.1, (exR l g p).2.2.1, (exR l g p).2.2.2, ()) := by
  unfold F33 exR
  rw [F55_eq, bindO_s]
  dsimp only
  rw [br_not, br_eq]
  by_cases h0 : chkG l g = 0
  · rw [if_pos h0, if_neg (by simpa using h0), F18_eq, bindO_s]
    dsimp only
    rw [br_not, br_eq]
    by_cases h1 : (sug l p).2.2 = 0
    · rw [if_pos h1, if_neg (by simpa using h1), br_d]
      by_cases h2 : g < (sug l p).1
      · rw [if_pos h2, if_pos h2]
      · rw [if_neg h2, if_neg h2, bind_of (g33_out (sug_ok h1))]
        dsimp only
        rw [br_eq]
        by_cases h3 : (exA l p ((sug l p).1 = g) (l.length + 1)).2.2 = 0
        · rw [if_pos h3, if_pos h3]
        · rw [if_neg h3, if_neg h3]
    · rw [if_neg h1, if_pos h1]
  · rw [if_neg h0, if_pos h0]

theorem F34_eq {l : List (List Int)} {g : Int} {p : List Int} : F34 l g p = some ((exR l g p).1, (exR l g p).2.1, (exR l g p).2.2.1, (exR l g p).2.2.2, ()) := by
  unfold F34 exR
  rw [F21_eq, bindO_s]
  dsimp only
  rw [br_eq]
  by_cases hc : chk l = 0
  · rw [if_pos hc, F50_eq, bindO_s, br_not]
    by_cases hg : 0 ≤ g ∧ g ≤ 200
    · have h0 : chkG l g = 0 := by unfold chkG; rw [if_pos hc, if_pos hg]
      rw [br_t (by simpa using hg), if_neg (by simpa using h0), hc, br_not, br_t (by decide), F19_eq, bindO_s]
      dsimp only
      rw [br_not, br_eq]
      by_cases h1 : (sug l p).2.2 = 0
      · rw [if_pos h1, if_neg (by simpa using h1), br_d]
        by_cases h2 : g < (sug l p).1
        · rw [if_pos h2, if_pos h2]
        · rw [if_neg h2, if_neg h2, bind_of (g34_out (sug_ok h1))]
          dsimp only
          rw [br_eq]
          by_cases h3 : (exA l p ((sug l p).1 = g) (l.length + 1)).2.2 = 0
          · rw [if_pos h3, if_pos h3]
          · rw [if_neg h3, if_neg h3]
      · rw [if_neg h1, if_pos h1]
    · have h0 : chkG l g = 2 := by unfold chkG; rw [if_pos hc, if_neg hg]
      rw [br_f (by simpa using hg), br_not, br_f (by decide), if_pos (by rw [h0]; decide), h0]
  · have h0 : chkG l g = chk l := by unfold chkG; rw [if_neg hc]
    rw [if_neg hc, br_not, br_eq, if_neg hc, if_pos (by rw [h0]; exact hc), h0]
end Go.Proofs.Try
end
section
open Go.AM Go.Gm Go.Srt
namespace Go.Proofs.Try
set_option linter.unusedVariables false
set_option linter.unusedSimpArgs false

theorem law6 (l : List (List Int)) (g : Int) (p : List Int) : F6 l g p = some (true, ()) := by
  unfold F6
  rcases F15_eq l with e | ⟨e, h1, h2⟩
  · rw [e, bindO_s, br_t rfl, F16_eq, bindO_s]
  rw [e, bindO_s, br_f rfl, br_d]
  by_cases hp : 30 < p.length
  · rw [if_pos (by omega), F16_eq, bindO_s]
  rw [if_neg (by omega), F33_eq, bindO_s, F17_eq h1, bindO_s, F34_eq, bindO_s]
  dsimp only
  rw [br_t (by simp), br_t (by simp), br_t (by simp), br_t (by simp), F16_eq, bindO_s]
end Go.Proofs.Try
end
