/- What the plain functions of gang and its reference come to. Check of fields: the program and its reference find the same first error. Sums and the sugar of plans: the program and its reference count the same. The steps of fields in order, and best plans. The reference's best plans: field by field, for each number of gangs. What the laws share: given, large, works; the plan of a best one. Exchanges: the program and its reference find the same one. Valleys by numbers are valid fields; all plans, and their sugar. All plans of small fields, and the sugar of each. The exchange that gains most; plans that are changed by one gang. GangLocal, as a plain law. -/
import Derived.Test.YtigglifniejbpaaX9
set_option linter.unusedVariables false
set_option linter.unusedSimpArgs false
section
open Go.AM
namespace Go.Proofs.Try
set_option linter.unusedVariables false
set_option linter.unusedSimpArgs false
theorem F48_eq (a b c : Int) : F48 a b c = some (decide (a ≤ b) && decide (b ≤ c), ()) := by
  unfold F48; rw [br_d]; by_cases h : a ≤ b <;> simp [h]
theorem F53_eq (a : Int) : F53 a = some (decide (0 ≤ a) && decide (a ≤ 1000000), ()) := by
  unfold F53; rw [F48_eq, bindO_s]
/-- The sum of the first numbers. -/
def sumN (l : List Int) (k : Nat) : Int := (l.take k).sum
theorem sumN_succ {l : List Int} {k : Nat} (h : k < l.length) : sumN l (k + 1) = sumN l k + l.getD k 0 := by
  unfold sumN
  rw [List.take_succ_eq_append_getElem h, List.sum_append]
  simp [List.getD, h]
theorem sumN_bound {l : List Int} {c : Int} (hc : 0 ≤ c) (hb : ∀ x ∈ l, 0 ≤ x ∧ x ≤ c) (k : Nat) : 0 ≤ sumN l k ∧ sumN l k ≤ k * c := by
  induction k with
  | zero => simp [sumN]
  | succ k ih =>
    by_cases h : k < l.length
    · rw [sumN_succ h]
      have : l.getD k 0 ∈ l := by simp [List.getD, h]
      have := hb _ this
      rw [Int.natCast_add, Int.add_mul]
      omega
    · have : sumN l (k + 1) = sumN l k := by unfold sumN; rw [List.take_of_length_le (by omega), List.take_of_length_le (by omega)]
      rw [this, Int.natCast_add, Int.add_mul]
      omega
end Go.Proofs.Try
end
section
open Go.AM
namespace Go.Proofs.Try
set_option linter.unusedVariables false
set_option linter.unusedSimpArgs false
/-- The error of the k-th gain of a table. -/
def stopT (t : List Int) (k : Nat) : Option Int :=
  if ¬(0 ≤ t.getD k 0 ∧ t.getD k 0 ≤ 1000000) then some 2 else if 0 < k ∧ t.getD (k - 1) 0 < t.getD k 0 then some 7 else none
def errT (t : List Int) : Option Int := (List.range t.length).findSome? (stopT t)
def stopL (l : List (List Int)) (i : Nat) : Option Int := if 10 < (l.getD i []).length then some 1 else errT (l.getD i [])
def errL (l : List (List Int)) : Option Int := (List.range l.length).findSome? (stopL l)
def chk (l : List (List Int)) : Int := if 12 < l.length then 1 else (errL l).getD 0
theorem F52_in {l : List (List Int)} {t : List Int} {i : Nat} (ht : t.length ≤ 10) : iter (fun x => g52_1 x.1 x.2.1 x.2.2.1 x.2.2.2.1 x.2.2.2.2.1 x.2.2.2.2.2.1 x.2.2.2.2.2.2.1) (t, l, ((l.length : Nat) : Int), (i : Int), t, ((t.length : Nat) : Int), (0 : Int), ()) =
    some ((errT t).elim (.inr (l, ((l.length : Nat) : Int), (i : Int), ())) (fun e => .inl (e, ()))) := by
  have key := iter_find (step := fun x => g52_1 x.1 x.2.1 x.2.2.1 x.2.2.2.1 x.2.2.2.2.1 x.2.2.2.2.2.1 x.2.2.2.2.2.2.1) t.length (fun k => (t, l, ((l.length : Nat) : Int), (i : Int), t, ((t.length : Nat) : Int), (k : Int), ())) (stopT t) (fun e => .inl (e, ())) (b := .inr (l, ((l.length : Nat) : Int), (i : Int), ())) (fun k hk _ => by
    simp only [g52_1, Int.toNat_natCast]
    rw [br_d, if_pos (by omega), need_inb (by omega) (by omega), F53_eq, bindO_s, br_not]
    unfold stopT
    by_cases h1 : 0 ≤ t.getD k 0 ∧ t.getD k 0 ≤ 1000000
    · rw [if_neg (by simpa using h1), br_t (by simp only [Bool.and_eq_true, decide_eq_true_eq]; exact h1), br_d]
      by_cases h2 : 0 < k
      · have e : ((k : Int) - 1).toNat = k - 1 := by omega
        rw [if_pos (by omega), need_i64 (by omega) (by omega), need_inb (by omega) (by omega)]
        unfold F54
        rw [bindO_s, br_not, e]
        by_cases h3 : t.getD (k - 1) 0 < t.getD k 0
        · rw [if_pos ⟨h2, h3⟩, br_f (by simp only [decide_eq_false_iff_not]; omega)]
        · rw [if_neg (fun h => h3 h.2), br_t (by simp only [decide_eq_true_eq]; omega), need_i64 (by omega) (by omega)]
          simp
      · rw [if_neg (by omega), if_neg (fun h => h2 h.1), need_i64 (by omega) (by omega)]
        simp
    · rw [if_pos h1, br_f (by simpa using h1)]) (fun _ => by simp only [g52_1]; rw [br_d, if_neg (by omega)])
  simpa only [Int.natCast_zero, errT] using key
theorem F52_eq {l : List (List Int)} : F52 l = some (chk l, ()) := by
  unfold F52 chk
  rw [br_d]
  by_cases h0 : 12 < l.length
  · rw [if_pos (by omega), if_pos h0]
  · rw [if_neg (by omega), if_neg h0]
    have key := iter_find (step := fun x => g52_0 x.1 x.2.1 x.2.2.1) l.length (fun k => (l, ((l.length : Nat) : Int), (k : Int), ())) (stopL l) (fun e => .inl (e, ())) (b := .inr ()) (fun k hk _ => by
      simp only [g52_0, Int.toNat_natCast]
      rw [br_d, if_pos (by omega), need_inb (by omega) (by omega), br_d]
      unfold stopL
      by_cases h1 : 10 < (l.getD k []).length
      · rw [if_pos (by omega), if_pos h1]
      · rw [if_neg (by omega), if_neg h1, F52_in (by omega), bindO_s]
        cases errT (l.getD k []) with
        | some e => rfl
        | none =>
          simp only [Option.elim]
          rw [need_i64 (by omega) (by omega)]
          simp) (fun _ => by simp only [g52_0]; rw [br_d, if_neg (by omega)])
    simp only [Int.natCast_zero] at key
    rw [bind_of key]
    unfold errL
    cases (List.range l.length).findSome? (stopL l) <;> rfl
theorem F20_eq {l : List (List Int)} : F20 l = some (chk l, ()) := by
  unfold F20; rw [F52_eq, bindO_s]
end Go.Proofs.Try
end
section
open Go.AM Go.Gm
namespace Go.Proofs.Try
set_option linter.unusedVariables false
set_option linter.unusedSimpArgs false
/-- Small numbers. -/
def Small (l : List Int) (c : Int) : Prop := ∀ x ∈ l, 0 ≤ x ∧ x ≤ c
theorem F49_eq {l : List Int} (hn : l.length ≤ 1000) (hb : Small l 1000000) : F49 l = some (l.sum, ()) := by
  unfold F49
  have := iter_count (step := fun x => g49_0 x.1 x.2.1 x.2.2.1 x.2.2.2.1) l.length (fun k => (sumN l k, (l, (((l.length : Nat) : Int), ((k : Int), ()))))) (b := (sumN l l.length, ())) (fun k hk => by
      have hs := sumN_bound (by omega) hb k
      have hs' := sumN_bound (by omega) hb (k + 1)
      rw [sumN_succ (by omega)] at hs'
      simp only [g49_0, Int.toNat_natCast]
      rw [br_d, if_pos (by omega), need_inb (by omega) (by omega), need_i64 (by omega) (by omega), need_i64 (by omega) (by omega), sumN_succ (by omega)]
      simp) (by simp only [g49_0]; rw [br_d, if_neg (by omega)])
  have e : sumN l l.length = l.sum := by simp [sumN]
  have e0 : sumN l 0 = 0 := by simp [sumN]
  rw [e, e0, Int.natCast_zero] at this
  rw [bind_of this]
/-- What is so of valid fields. -/
structure Val (l : List (List Int)) : Prop where
  len : l.length ≤ 12
  tab : ∀ f ∈ l, f.length ≤ 10
  sm : ∀ f ∈ l, Small f 1000000
  desc : ∀ f ∈ l, Tops.Desc f
theorem findSome_none {n : Nat} {f : Nat → Option Int} : (List.range n).findSome? f = none ↔ ∀ k, k < n → f k = none := by
  rw [List.findSome?_eq_none_iff]; simp
theorem errT_none {t : List Int} : errT t = none ↔ Small t 1000000 ∧ Tops.Desc t := by
  unfold errT
  rw [findSome_none]
  constructor
  · intro h
    have h1 : ∀ k, k < t.length → 0 ≤ t.getD k 0 ∧ t.getD k 0 ≤ 1000000 := fun k hk => by
      have := h k hk
      unfold stopT at this
      by_cases hh : 0 ≤ t.getD k 0 ∧ t.getD k 0 ≤ 1000000
      · exact hh
      · rw [if_pos hh] at this; cases this
    have h2 : ∀ k, k + 1 < t.length → t.getD (k + 1) 0 ≤ t.getD k 0 := fun k hk => by
      have := h (k + 1) hk
      unfold stopT at this
      rw [if_neg (by have := h1 (k + 1) hk; omega)] at this
      by_cases hh : 0 < k + 1 ∧ t.getD (k + 1 - 1) 0 < t.getD (k + 1) 0
      · rw [if_pos hh] at this; cases this
      · simp only [Nat.add_sub_cancel] at hh; omega
    have h3 : ∀ d k, k + d < t.length → t.getD (k + d) 0 ≤ t.getD k 0 := by
      intro d
      induction d with
      | zero => intro k hk; exact Int.le_refl _
      | succ d ih => intro k hk; have := ih k (by omega); have := h2 (k + d) (by omega); rw [← Nat.add_assoc]; omega
    constructor
    · intro x hx
      obtain ⟨k, hk, rfl⟩ := List.mem_iff_getElem.1 hx
      have := h1 k hk
      rwa [getD_el 0 hk] at this
    · unfold Tops.Desc
      rw [List.pairwise_iff_getElem]
      intro i j hi hj hij
      have := h3 (j - i) i (by omega)
      rw [show i + (j - i) = j by omega, getD_el 0 hi, getD_el 0 hj] at this
      exact this
  · intro ⟨h1, h2⟩ k hk
    unfold stopT
    have a := h1 _ (getD_mem (d := 0) hk)
    rw [if_neg (by omega)]
    by_cases h0 : 0 < k
    · have := (List.pairwise_iff_getElem.1 h2) (k - 1) k (by omega) hk (by omega)
      rw [getD_el 0 hk, getD_el 0 (show k - 1 < t.length by omega), if_neg (by omega)]
    · rw [if_neg (by omega)]
theorem errT_ne {t : List Int} {e : Int} (h : errT t = some e) : e ≠ 0 := by
  unfold errT at h
  obtain ⟨k, _, hk⟩ := List.exists_of_findSome?_eq_some h
  unfold stopT at hk
  split at hk
  · cases hk; decide
  · split at hk
    · cases hk; decide
    · cases hk
theorem chk_val {l : List (List Int)} : chk l = 0 ↔ Val l := by
  unfold chk errL
  constructor
  · intro h
    by_cases h0 : 12 < l.length
    · rw [if_pos h0] at h; cases h
    rw [if_neg h0] at h
    cases he : (List.range l.length).findSome? (stopL l) with
    | some e =>
      rw [he] at h
      simp only [Option.getD] at h
      subst h
      obtain ⟨k, _, hk⟩ := List.exists_of_findSome?_eq_some he
      unfold stopL at hk
      split at hk
      · cases hk
      · exact absurd rfl (errT_ne hk)
    | none =>
      have hs := findSome_none.1 he
      have key : ∀ f ∈ l, f.length ≤ 10 ∧ Small f 1000000 ∧ Tops.Desc f := fun f hf => by
        obtain ⟨k, hk, rfl⟩ := List.mem_iff_getElem.1 hf
        have := hs k hk
        unfold stopL at this
        rw [getD_el [] hk] at this
        split at this
        · cases this
        · exact ⟨by omega, errT_none.1 this⟩
      exact ⟨by omega, fun f hf => (key f hf).1, fun f hf => (key f hf).2.1, fun f hf => (key f hf).2.2⟩
  · intro h
    rw [if_neg (by have := h.len; omega)]
    have : (List.range l.length).findSome? (stopL l) = none := findSome_none.2 fun k hk => by
      unfold stopL
      have hm := getD_mem (d := []) hk
      rw [if_neg (by have := h.tab _ hm; omega), errT_none.2 ⟨h.sm _ hm, h.desc _ hm⟩]
    rw [this]; rfl
theorem Val.getD {l : List (List Int)} (h : Val l) (k : Nat) : (l.getD k []).length ≤ 10 ∧ Small (l.getD k []) 1000000 := by
  by_cases hk : k < l.length
  · exact ⟨h.tab _ (getD_mem hk), h.sm _ (getD_mem hk)⟩
  · rw [getD_out [] (by omega)]; exact ⟨by simp, fun x hx => by cases hx⟩
theorem sumN_le {l : List Int} {c : Int} (hc : 0 ≤ c) (hb : Small l c) (k : Nat) : 0 ≤ sumN l k ∧ sumN l k ≤ l.length * c := by
  by_cases h : k ≤ l.length
  · have := sumN_bound hc hb k
    have h2 : (k : Int) * c ≤ l.length * c := Int.mul_le_mul_of_nonneg_right (by omega) hc
    omega
  · have e : sumN l k = sumN l l.length := by unfold sumN; rw [List.take_of_length_le (by omega), List.take_of_length_le (Nat.le_refl _)]
    rw [e]; exact sumN_bound hc hb l.length
theorem Val.sumN {l : List (List Int)} (h : Val l) (k j : Nat) : 0 ≤ sumN (l.getD k []) j ∧ sumN (l.getD k []) j ≤ 10000000 := by
  have := sumN_le (by omega) (h.getD k).2 j
  have := (h.getD k).1
  omega
/-- The sugar of a plan, and how many gangs it has. -/
def stopP (l : List (List Int)) (p : List Int) (k : Nat) : Option Int := if 0 ≤ p.getD k 0 ∧ p.getD k 0 ≤ ((l.getD k []).length : Nat) then none else some 10
def sug (l : List (List Int)) (p : List Int) : Int × Int × Int :=
  if chk l ≠ 0 then (0, 0, chk l) else if p.length ≠ l.length then (0, 0, 3) else
    match (List.range p.length).findSome? (stopP l p) with
    | some e => (0, 0, e)
    | none => (p.sum, sumR p.length (fun i => sumN (l.getD i []) (p.getD i 0).toNat), 0)
theorem stopP_none {l : List (List Int)} {p : List Int} {k : Nat} : stopP l p k = none ↔ 0 ≤ p.getD k 0 ∧ p.getD k 0 ≤ ((l.getD k []).length : Nat) := by
  unfold stopP; split <;> simp_all
theorem sugR_bound {l : List (List Int)} (h : Val l) (p : List Int) (n : Nat) (hn : n ≤ 12) : 0 ≤ sumR n (fun i => sumN (l.getD i []) (p.getD i 0).toNat) ∧ sumR n (fun i => sumN (l.getD i []) (p.getD i 0).toNat) ≤ 120000000 := by
  have := sumR_bound (n := n) (c := 10000000) (fun i _ => h.sumN i (p.getD i 0).toNat)
  omega
theorem plan_small {l : List (List Int)} (h : Val l) {p : List Int} (hp : p.length = l.length) (hs : ∀ j, j < p.length → stopP l p j = none) : Small p 10 := fun x hx => by
  obtain ⟨k, hk, rfl⟩ := List.mem_iff_getElem.1 hx
  have := stopP_none.1 (hs k hk)
  rw [getD_el 0 hk] at this
  have := (h.getD k).1
  omega
theorem F18_eq {l : List (List Int)} {p : List Int} : F18 l p = some ((sug l p).1, (sug l p).2.1, (sug l p).2.2, ()) := by
  unfold F18 sug
  rw [F20_eq, bindO_s]
  dsimp only
  rw [br_not, br_eq]
  by_cases h0 : chk l = 0
  · rw [if_pos h0, if_neg (by simpa using h0), br_not, br_eq]
    have hv := chk_val.1 h0
    by_cases h1 : p.length = l.length
    · rw [if_pos (by omega), if_neg (by simpa using h1)]
      have hlen := hv.len
      have key := iter_find (step := fun x => g18_0 x.1 x.2.1 x.2.2.1 x.2.2.2.1 x.2.2.2.2.1 x.2.2.2.2.2.1) p.length (fun k => (l, (p, (sumR k (fun i => sumN (l.getD i []) (p.getD i 0).toNat), (p, (((p.length : Nat) : Int), ((k : Int), ()))))))) (stopP l p) (fun e => .inl (0, (0, (e, ()))))
        (b := .inr (p, (sumR p.length (fun i => sumN (l.getD i []) (p.getD i 0).toNat), ()))) (fun k hk hs => by
          simp only [g18_0, Int.toNat_natCast]
          rw [br_d, if_pos (by omega), need_inb (by omega) (by omega), need_inb (by omega) (by omega), F48_eq, bindO_s, br_not]
          by_cases h2 : stopP l p k = none
          · rw [h2]
            have h3 := stopP_none.1 h2
            have hb := sugR_bound hv p k (by omega)
            have hb' := sugR_bound hv p (k + 1) (by omega)
            have hg := hv.getD k
            rw [br_t (by simpa using h3), need_inb (by omega) (by omega), need_d (by omega), need_d h3.1, need_d h3.2]
            have e : List.take ((p.getD k 0).toNat - Int.toNat 0) (List.drop (Int.toNat 0) (l.getD k [])) = (l.getD k []).take (p.getD k 0).toNat := by simp
            rw [e, F49_eq (by rw [List.length_take]; omega) (fun x hx => hg.2 x (List.mem_of_mem_take hx)), bindO_s]
            simp only [sumR] at hb' ⊢
            simp only [sumN] at hb' hb ⊢
            rw [need_i64 (by omega) (by omega), need_i64 (by omega) (by omega)]
            simp
          · have h3 : ¬(0 ≤ p.getD k 0 ∧ p.getD k 0 ≤ ((l.getD k []).length : Nat)) := fun h => h2 (stopP_none.2 h)
            rw [br_f (by simpa using h3)]
            unfold stopP
            rw [if_neg h3]) (fun hs => by simp only [g18_0]; rw [br_d, if_neg (by omega)])
      simp only [sumR, Int.natCast_zero] at key
      rw [bind_of key]
      cases hf : (List.range p.length).findSome? (stopP l p) with
      | some e => rfl
      | none =>
        have hs := findSome_none.1 hf
        simp only [Option.elim]
        rw [F49_eq (by omega) (fun x hx => by have := plan_small hv h1 hs x hx; omega), bindO_s]
    · rw [if_neg (by omega), if_pos (by simpa using h1)]
  · rw [if_neg h0, if_pos h0]
end Go.Proofs.Try
end
section
open Go.AM Go.Gm Go.Srt
namespace Go.Proofs.Try
set_option linter.unusedVariables false
set_option linter.unusedSimpArgs false
theorem F76_3 (a b c : Int) : F76 [a, b, c] = some (if a ≠ 0 then a else if b ≠ 0 then b else c, ()) := by
  unfold F76
  have key := iter_find (step := fun x => g76_0 x.1 x.2.1 x.2.2.1 x.2.2.2.1) 3 (fun k => ((0 : Int), ([a, b, c], ((3 : Int), ((k : Int), ()))))) (fun k => if [a, b, c].getD k 0 ≠ 0 then some ([a, b, c].getD k 0) else none) (fun e => .inl (e, ())) (b := .inr (0, ())) (fun k hk _ => by
    simp only [g76_0, Int.toNat_natCast]
    rw [br_d, if_pos (by omega), need_inb (by omega) (by simp; omega), br_not, br_eq]
    by_cases h : [a, b, c].getD k 0 = 0
    · rw [if_pos h, if_neg (by simpa using h), need_i64 (by omega) (by omega)]; simp
    · rw [if_neg h, if_pos h]) (fun _ => by simp only [g76_0]; rw [br_d, if_neg (by omega)])
  have q : iter (fun x => g76_0 x.1 x.2.1 x.2.2.1 x.2.2.2.1) ((0 : Int), ([a, b, c], (((([a, b, c]).length : Nat) : Int), ((0 : Int), ())))) = _ := key
  rw [bind_of q]
  have e : List.range 3 = [0, 1, 2] := by decide
  rw [e]
  by_cases ha : a = 0
  · by_cases hb : b = 0
    · by_cases hc : c = 0 <;> simp [ha, hb, hc]
    · simp [ha, hb]
  · simp [ha]
/-- Steps that are small enough. -/
def GoodS (s : Int × Int) : Prop := (0 ≤ s.1 ∧ s.1 ≤ 1000000) ∧ (0 ≤ s.2 ∧ s.2 ≤ 1000)
theorem ltF_z {fv : Int → Int} {a b : Int × Int} (f1 : -1000 ≤ fv a.2 ∧ fv a.2 ≤ 1000) (f2 : -1000 ≤ fv b.2 ∧ fv b.2 ≤ 1000) :
    ltF fv a b = decide ((if b.1 - a.1 ≠ 0 then b.1 - a.1 else if fv b.2 - fv a.2 ≠ 0 then fv b.2 - fv a.2 else a.2 - b.2) < 0) := by
  unfold ltF
  rw [Bool.eq_iff_iff]
  simp only [Bool.or_eq_true, Bool.and_eq_true, decide_eq_true_eq, beq_iff_eq]
  by_cases h1 : b.1 - a.1 = 0
  · by_cases h2 : fv b.2 - fv a.2 = 0
    · rw [if_neg (by omega), if_neg (by omega)]; omega
    · rw [if_neg (by omega), if_pos (by omega)]; omega
  · rw [if_pos (by omega)]; omega
theorem F75_ok : CmpOk F75 (ltF fun _ => 0) GoodS := ⟨ltF_ord _, fun a b ha hb => by
  obtain ⟨⟨a1, a2⟩, a3, a4⟩ := ha
  obtain ⟨⟨b1, b2⟩, b3, b4⟩ := hb
  unfold F75 F59
  by_cases h : a = b
  · subst h
    refine ⟨0, ?_, ?_⟩
    · rw [br_t (by simp)]
    · simp [ltF]
  · have hne : ((a.1 == b.1) && ((a.2 == b.2) && true)) = false := by
      cases hc : ((a.1 == b.1) && ((a.2 == b.2) && true)) with
      | false => rfl
      | true => exact absurd (Prod.ext_iff.2 (by simpa using hc)) h
    refine ⟨_, ?_, ltF_z (by omega) (by omega)⟩
    rw [br_f hne, need_i64 (by omega) (by omega), bindO_s, bindO_s, need_i64 (by omega) (by omega), need_i64 (by omega) (by omega)]
    have := F76_3 (b.1 - a.1) ((0 : Int) - 0) (a.2 - b.2)
    simp only [List.drop_zero]
    rw [show List.take 3 [b.1 - a.1, (0 : Int) - 0, a.2 - b.2] = [b.1 - a.1, (0 : Int) - 0, a.2 - b.2] by rfl, this, bindO_s]⟩
theorem FH74_eq (n : Nat) (l : List (Int × Int)) : FH74_v1 n l = S74 F75 (0, 0) n l := rfl
theorem allFrom_good {l : List (List Int)} (h : Val l) {s : Int × Int} (hs : s ∈ allFrom 0 l) : GoodS s := by
  obtain ⟨j, h1, h2, h3⟩ := allFrom_mem hs
  have hl := h.len
  have := (h.getD j).2 _ h3
  exact ⟨this, by rw [h2]; omega⟩
theorem flat_len {l : List (List Int)} (h : Val l) (k : Nat) : (l.take k).flatten.length ≤ k * 10 := by
  induction k with
  | zero => simp
  | succ k ih =>
    by_cases hk : k < l.length
    · rw [take_succ_getD [] hk, List.flatten_append, List.length_append]
      have := (h.getD k).1
      simp only [List.flatten_cons, List.flatten_nil, List.append_nil]; omega
    · rw [List.take_of_length_le (by omega)] at ih ⊢; omega
theorem Val.flat {l : List (List Int)} (h : Val l) : l.flatten.length ≤ 120 := by
  have := flat_len h l.length
  rw [List.take_length] at this
  have := h.len; omega
theorem F58_in {l : List (List Int)} {f : List Int} {base : List (Int × Int)} {i : Nat} (hi : i < 1000) (hf : f.length ≤ 10) (hb : base.length ≤ 1000) :
    iter (fun x => g58_1 x.1 x.2.1 x.2.2.1 x.2.2.2.1 x.2.2.2.2.1 x.2.2.2.2.2.1 x.2.2.2.2.2.2.1 x.2.2.2.2.2.2.2.1 x.2.2.2.2.2.2.2.2.1) (base.length, ((i : Int), (l, (((l.length : Nat) : Int), ((i : Int), (f, (((f.length : Nat) : Int), ((0 : Int), (base, ()))))))))) =
    some ((base ++ f.map (fun g => (g, (i : Int)))).length, (l, (((l.length : Nat) : Int), ((i : Int), (base ++ f.map (fun g => (g, (i : Int))), ()))))) := by
  have key := iter_count (step := fun x => g58_1 x.1 x.2.1 x.2.2.1 x.2.2.2.1 x.2.2.2.2.1 x.2.2.2.2.2.1 x.2.2.2.2.2.2.1 x.2.2.2.2.2.2.2.1 x.2.2.2.2.2.2.2.2.1) f.length
    (fun k => ((base ++ (f.take k).map (fun g => (g, (i : Int)))).length, ((i : Int), (l, (((l.length : Nat) : Int), ((i : Int), (f, (((f.length : Nat) : Int), ((k : Int), (base ++ (f.take k).map (fun g => (g, (i : Int))), ()))))))))) )
    (b := ((base ++ f.map (fun g => (g, (i : Int)))).length, (l, (((l.length : Nat) : Int), ((i : Int), (base ++ f.map (fun g => (g, (i : Int))), ())))))) (fun k hk => by
      simp only [g58_1, Int.toNat_natCast]
      rw [br_d, if_pos (by omega), need_inb (by omega) (by omega), need_big (by simp; omega), need_i64 (by omega) (by omega), take_succ_getD 0 hk]
      simp
      exact ⟨by omega, by rw [List.take_of_length_le (by simp)]; simp⟩) (by
      simp only [g58_1]; rw [br_d, if_neg (by omega), List.take_length])
  simp only [List.take_zero, List.map_nil, List.append_nil, Int.natCast_zero] at key
  exact key
theorem F58_eq {l : List (List Int)} (h : Val l) : F58 l = some (stepsF (fun _ => 0) l, ()) := by
  have hl := h.len
  have hfl := h.flat
  have key := iter_count (step := fun x => g58_0 x.1 x.2.1 x.2.2.1 x.2.2.2.1 x.2.2.2.2.1) l.length
    (fun k => ((allFrom 0 (l.take k)).length, (l, (((l.length : Nat) : Int), ((k : Int), (allFrom 0 (l.take k), ()))))))
    (b := ((allFrom 0 l).length, (allFrom 0 l, ()))) (fun k hk => by
      have e := allFrom_append 0 (l.take k) [l.getD k []]
      rw [← take_succ_getD [] hk] at e
      have hlen : (allFrom 0 (l.take k)).length ≤ 120 := by rw [allFrom_length]; have := flat_len h k; omega
      have e2 : (l.take k).length = k := by simp; omega
      rw [e2, Nat.zero_add] at e
      simp only [allFrom, List.append_nil] at e
      simp only [g58_0, Int.toNat_natCast]
      rw [br_d, if_pos (by omega), need_inb (by omega) (by omega), bind_of (F58_in (l := l) (f := l.getD k []) (by omega) (h.getD k).1 (by omega))]
      dsimp only
      rw [need_i64 (by omega) (by omega), e]
      simp) (by simp only [g58_0]; rw [br_d, if_neg (by omega), List.take_length])
  simp only [List.take_zero, allFrom, List.length_nil, Int.natCast_zero] at key
  unfold F58
  rw [bind_of key]
  dsimp only
  rw [FH74_eq, S74_ok F75_ok (fun z hz => allFrom_good h hz) rfl (by rw [allFrom_length]; omega), bindO_s]
  unfold F77
  rw [bindO_s]
  have : List.take (allFrom 0 l).length (srt (ltF fun _ => 0) (allFrom 0 l)) = srt (ltF fun _ => 0) (allFrom 0 l) := List.take_of_length_le (by rw [srt_length]; omega)
  simp only [List.drop_zero]
  rw [this]
  rfl
/-- How many of some steps each field has. -/
def planOf (n : Nat) (t : List (Int × Int)) : List Int := (List.range n).map fun j => ((cnt j t : Nat) : Int)
theorem planOf_length (n : Nat) (t : List (Int × Int)) : (planOf n t).length = n := by simp [planOf]
theorem planOf_getD {n j : Nat} (t : List (Int × Int)) (h : j < n) : (planOf n t).getD j 0 = ((cnt j t : Nat) : Int) := by
  simp [planOf, List.getD_eq_getElem?_getD, h]
theorem planOf_nil (n : Nat) : planOf n [] = List.replicate n 0 := by
  apply List.ext_getElem
  · simp [planOf]
  · intro i h1 h2; simp [planOf, cnt]
theorem planOf_snoc {n j : Nat} (t : List (Int × Int)) {s : Int × Int} (h : j < n) (e : s.2 = (j : Nat)) : planOf n (t ++ [s]) = (planOf n t).set j ((planOf n t).getD j 0 + 1) := by
  rw [planOf_getD t h]
  apply List.ext_getElem
  · simp [planOf]
  · intro i h1 h2
    rw [List.getElem_set]
    simp only [planOf, List.getElem_map, List.getElem_range, cnt_snoc, e]
    by_cases hh : j = i
    · subst hh; simp
    · rw [if_neg hh, if_neg (by omega)]; simp
theorem steps_good {l : List (List Int)} (h : Val l) (fv : Int → Int) {s : Int × Int} (hs : s ∈ stepsF fv l) : GoodS s := allFrom_good h ((stepsF_perm fv l).mem_iff.1 hs)
theorem steps_len {l : List (List Int)} (h : Val l) (fv : Int → Int) : (stepsF fv l).length ≤ 120 := by rw [stepsF_length]; exact h.flat
theorem gsum_bound {t : List (Int × Int)} (h : ∀ s ∈ t, GoodS s) : 0 ≤ gsum t ∧ gsum t ≤ t.length * 1000000 := by
  have := sumN_bound (l := t.map (·.1)) (c := 1000000) (by omega) (fun x hx => by obtain ⟨s, hs, rfl⟩ := List.mem_map.1 hx; exact (h s hs).1) t.length
  unfold sumN at this
  rwa [List.take_of_length_le (by simp)] at this
theorem cnt_le (j : Nat) (t : List (Int × Int)) : cnt j t ≤ t.length := List.length_filter_le ..
theorem F56_in {n g : Nat} {t : List (Int × Int)} (hg : ∀ s ∈ t, GoodS s) (hj : ∀ s ∈ t, ∃ j, j < n ∧ s.2 = (j : Nat)) (ht : t.length ≤ 1000) (hgg : g ≤ 1000) :
    bindO (g56_0 t (g : Int) n 0 (List.replicate n 0)) (fun z4 => match z4 with
      | .inl z5 => some ((((z5.2.2.1).drop (0 : Nat)).take z5.1), (z5.2.1, ()))
      | .inr z6 => some ((((z6.2.2.1).drop (0 : Nat)).take z6.1), (z6.2.1, ()))) = some (planOf n (t.take g), (gsum (t.take g), ())) := by
  have key := iter_count (step := fun x => g56_0i_0 x.1 x.2.1 x.2.2.1 x.2.2.2.1 x.2.2.2.2.1 x.2.2.2.2.2.1 x.2.2.2.2.2.2.1 x.2.2.2.2.2.2.2.1) (min g t.length)
    (fun k => (t, (((t.length : Nat) : Int), ((k : Int), (t, (((g : Int) - k), (n, (gsum (t.take k), (planOf n (t.take k), ())))))))))
    (b := if g < t.length then .inl (0, (n, (gsum (t.take g), (t, (planOf n (t.take g), ()))))) else .inr ((g : Int) - t.length, (n, (gsum (t.take g), (t, (planOf n (t.take g), ())))))) (fun k hk => by
      have hkt : k < t.length := by omega
      have hm := getD_mem (d := ((0 : Int), (0 : Int))) hkt
      obtain ⟨j, hj1, hj2⟩ := hj _ hm
      have hgs := hg _ hm
      have hb := gsum_bound (t := t.take k) (fun s hs => hg s (List.mem_of_mem_take hs))
      have hc := cnt_le j (t.take k)
      simp only [List.length_take] at hb hc
      simp only [g56_0i_0, Int.toNat_natCast]
      rw [br_d, if_pos (by omega), need_inb (by omega) (by omega), br_eq, if_neg (by omega), need_i64 (by omega) (by omega)]
      simp only [hj2, Int.toNat_natCast, Nat.zero_add]
      rw [need_inb (by omega) (by omega), need_d (by rw [planOf_length]; omega), need_i64 (by rw [planOf_getD _ hj1]; omega) (by rw [planOf_getD _ hj1]; omega), need_inb (by omega) (by omega), need_d (by rw [planOf_length]; omega), need_i64 (by have := hgs.1; omega) (by have := hgs.1; omega), need_i64 (by omega) (by omega)]
      rw [take_succ_getD (0, 0) hkt, gsum_snoc, planOf_snoc _ hj1 hj2]
      rw [show (g : Int) - ((k + 1 : Nat) : Int) = (g : Int) - k - 1 by omega, show ((k + 1 : Nat) : Int) = (k : Int) + 1 by omega]) (by
      simp only [g56_0i_0, Int.toNat_natCast]
      by_cases c : g < t.length
      · rw [show min g t.length = g by omega, br_d, if_pos (by omega), need_inb (by omega) (by omega), br_eq, if_pos (by omega), if_pos c]
        simp
      · rw [show min g t.length = t.length by omega, br_d, if_neg (by omega), if_neg c, List.take_length, List.take_of_length_le (by omega)])
  simp only [List.take_zero, Int.natCast_zero, Int.sub_zero, planOf_nil] at key
  have e0 : gsum [] = 0 := rfl
  rw [e0] at key
  unfold g56_0
  rw [bind_of key]
  have hp : List.take n (planOf n (t.take g)) = planOf n (t.take g) := List.take_of_length_le (by rw [planOf_length]; omega)
  by_cases c : g < t.length
  · rw [if_pos c]; simp only [bindO_s, List.drop_zero, hp]
  · rw [if_neg c]; simp only [bindO_s, List.drop_zero, hp]
theorem F56_eq {l : List (List Int)} (h : Val l) {g : Nat} (hg : g ≤ 1000) : F56 l g = some (planOf l.length ((stepsF (fun _ => 0) l).take g), (gsum ((stepsF (fun _ => 0) l).take g), ())) := by
  have hl := h.len
  have := steps_len h (fun _ => 0)
  unfold F56
  rw [need_inbL (by omega) (by omega), F58_eq h, bindO_s]
  simp only [Int.toNat_natCast]
  exact F56_in (fun s hs => steps_good h _ hs) (fun s hs => steps_fields _ hs) (by omega) hg
/-- The error of fields and a number of gangs. -/
def chkG (l : List (List Int)) (g : Int) : Int := if chk l = 0 then if 0 ≤ g ∧ g ≤ 200 then 0 else 2 else chk l
theorem F55_eq {l : List (List Int)} {g : Int} : F55 l g = some (chkG l g, ()) := by
  unfold F55 chkG
  rw [F20_eq, bindO_s]
  dsimp only
  rw [br_eq]
  by_cases h0 : chk l = 0
  · rw [if_pos h0, if_pos h0, F48_eq, bindO_s, br_not]
    by_cases h1 : 0 ≤ g ∧ g ≤ 200
    · rw [br_t (by simpa using h1), if_pos h1, h0]
    · rw [br_f (by simpa using h1), if_neg h1]
  · rw [if_neg h0, if_neg h0]
theorem val_chkG {l : List (List Int)} {g : Int} (h : Val l) (h1 : 0 ≤ g) (h2 : g ≤ 200) : chkG l g = 0 := by
  unfold chkG; rw [if_pos (chk_val.2 h), if_pos ⟨h1, h2⟩]
theorem F22_good {l : List (List Int)} (h : Val l) {g : Nat} (hg : g ≤ 200) : F22 l g = some (planOf l.length ((stepsF (fun _ => 0) l).take g), gsum ((stepsF (fun _ => 0) l).take g), 0, ()) := by
  unfold F22
  rw [F55_eq, bindO_s]
  dsimp only
  rw [br_not, br_eq, if_pos (val_chkG h (by omega) (by omega)), F56_eq h (by omega), bindO_s]
end Go.Proofs.Try
end
section
open Go.AM Go.Gm Go.Srt
namespace Go.Proofs.Try
set_option linter.unusedVariables false
set_option linter.unusedSimpArgs false
/-- The most sugar of the first fields. -/
def dpv (l : List (List Int)) (i j : Nat) : Int := Tops.tops (mrgAll (l.take i)) j
theorem Val.take {l : List (List Int)} (h : Val l) (i : Nat) : Val (l.take i) :=
  ⟨by have := h.len; simp; omega, fun f hf => h.tab f (List.mem_of_mem_take hf), fun f hf => h.sm f (List.mem_of_mem_take hf), fun f hf => h.desc f (List.mem_of_mem_take hf)⟩
theorem Val.mrgAll_small {l : List (List Int)} (h : Val l) : Small (mrgAll l) 1000000 := fun x hx => by
  obtain ⟨f, hf, hx⟩ := List.mem_flatten.1 ((mrgAll_perm _).mem_iff.1 hx)
  exact h.sm f hf x hx
theorem tops_bound {l : List (List Int)} (h : Val l) (j : Nat) : 0 ≤ Tops.tops (mrgAll l) j ∧ Tops.tops (mrgAll l) j ≤ 120000000 := by
  have := sumN_le (by omega) h.mrgAll_small j
  rw [mrgAll_length] at this
  have := h.flat
  unfold sumN at *
  unfold Tops.tops
  omega
theorem set_getD {α : Type} {l : List α} {j : Nat} {x d : α} (h : j < l.length) : (l.set j x).getD j d = x := by
  simp [List.getD_eq_getElem?_getD, h]
def row (l : List (List Int)) (i n : Nat) : List Int := (List.range n).map fun j => dpv l i j
end Go.Proofs.Try
end
section
open Go.AM Go.Gm Go.Srt
namespace Go.Proofs.Try
set_option linter.unusedVariables false
set_option linter.unusedSimpArgs false
theorem F16_eq : F16 = some (true, ()) := Go.AM.Le.done CF16_le (by kernel_rfl)
end Go.Proofs.Try
end
section
open Go.AM Go.Gm Go.Srt
namespace Go.Proofs.Try
set_option linter.unusedVariables false
set_option linter.unusedSimpArgs false
/-- What a field's last gang brings, and its next one. -/
def lastG (l : List (List Int)) (p : List Int) (a : Int) : Int := if 0 ≤ a then (l.getD a.toNat []).getD (p.getD a.toNat 0 - 1).toNat 0 else 0
def nextG (l : List (List Int)) (p : List Int) (b : Int) : Int := if 0 ≤ b then (l.getD b.toNat []).getD (p.getD b.toNat 0).toNat 0 else 0
def skipA (p : List Int) (full : Prop) (a : Int) : Prop := (a = -1 ∧ full) ∨ (0 ≤ a ∧ p.getD a.toNat 0 = 0)
def skipB (l : List (List Int)) (p : List Int) (b : Int) : Prop := 0 ≤ b ∧ p.getD b.toNat 0 = ((l.getD b.toNat []).length : Nat)
open Classical in
/-- The better one of what was found and an exchange. -/
noncomputable def exSt (l : List (List Int)) (p : List Int) (full : Prop) (a b : Int) (s : Int × Int × Int) : Int × Int × Int :=
  if a = b ∨ skipA p full a ∨ skipB l p b then s else if s.2.2 < nextG l p b - lastG l p a then (a, b, nextG l p b - lastG l p a) else s
noncomputable def exB (l : List (List Int)) (p : List Int) (full : Prop) (a : Int) (n : Nat) (s : Int × Int × Int) : Int × Int × Int := (List.range n).foldl (fun s (b : Nat) => exSt l p full a (b : Int) s) s
noncomputable def exA (l : List (List Int)) (p : List Int) (full : Prop) (k : Nat) : Int × Int × Int := (List.range k).foldl (fun s (a : Nat) => exB l p full ((a : Int) - 1) l.length s) (0, 0, 0)
theorem exB_succ (l : List (List Int)) (p : List Int) (full : Prop) (a : Int) (n : Nat) (s : Int × Int × Int) : exB l p full a (n + 1) s = exSt l p full a n (exB l p full a n s) := by
  simp [exB, List.range_succ]
theorem exA_succ (l : List (List Int)) (p : List Int) (full : Prop) (k : Nat) : exA l p full (k + 1) = exB l p full ((k : Int) - 1) l.length (exA l p full k) := by
  simp [exA, List.range_succ]
theorem exSt_nonneg {l : List (List Int)} {p : List Int} {full : Prop} {a b : Int} {s : Int × Int × Int} (h : 0 ≤ s.2.2) : 0 ≤ (exSt l p full a b s).2.2 := by
  unfold exSt
  split
  · exact h
  · split
    · simp only; omega
    · exact h
theorem exB_nonneg {l : List (List Int)} {p : List Int} {full : Prop} {a : Int} {n : Nat} {s : Int × Int × Int} (h : 0 ≤ s.2.2) : 0 ≤ (exB l p full a n s).2.2 := by
  induction n with
  | zero => simpa [exB] using h
  | succ n ih => rw [exB_succ]; exact exSt_nonneg ih
theorem exA_nonneg (l : List (List Int)) (p : List Int) (full : Prop) (k : Nat) : 0 ≤ (exA l p full k).2.2 := by
  induction k with
  | zero => simp [exA]
  | succ k ih => rw [exA_succ]; exact exB_nonneg ih
theorem exB_skip {l : List (List Int)} {p : List Int} {full : Prop} {a : Int} {n : Nat} {s : Int × Int × Int} (h : skipA p full a) : exB l p full a n s = s := by
  induction n with
  | zero => simp [exB]
  | succ n ih => rw [exB_succ, ih]; unfold exSt; rw [if_pos (.inr (.inl h))]
/-- A plan of fields. -/
structure PlanOk (l : List (List Int)) (p : List Int) : Prop where
  v : Val l
  len : p.length = l.length
  rng : ∀ k, k < l.length → 0 ≤ p.getD k 0 ∧ p.getD k 0 ≤ ((l.getD k []).length : Nat)
theorem sug_ok {l : List (List Int)} {p : List Int} (h : (sug l p).2.2 = 0) : PlanOk l p := by
  unfold sug at h
  by_cases h0 : chk l = 0
  · rw [if_neg (by simpa using h0)] at h
    by_cases h1 : p.length = l.length
    · rw [if_neg (by simpa using h1)] at h
      refine ⟨chk_val.1 h0, h1, ?_⟩
      cases hf : (List.range p.length).findSome? (stopP l p) with
      | some e =>
        rw [hf] at h
        simp only at h
        subst h
        obtain ⟨k, _, hk⟩ := List.exists_of_findSome?_eq_some hf
        unfold stopP at hk
        split at hk <;> cases hk
      | none =>
        intro k hk
        exact stopP_none.1 (findSome_none.1 hf k (by omega))
    · rw [if_pos (by simpa using h1)] at h; cases h
  · rw [if_pos h0] at h; exact absurd h h0
theorem cell_bound {l : List (List Int)} (h : Val l) (i j : Nat) : 0 ≤ (l.getD i []).getD j 0 ∧ (l.getD i []).getD j 0 ≤ 1000000 := by
  by_cases c : j < (l.getD i []).length
  · exact (h.getD i).2 _ (getD_mem c)
  · rw [getD_out 0 (by omega)]; omega
theorem g33_in {l : List (List Int)} {p : List Int} (h : PlanOk l p) {g u a : Int} {full : Prop} {s : Int × Int × Int} (hs : ¬skipA p full a) (ha : -1 ≤ a) :
    iter (fun x => g33_1 x.1 x.2.1 x.2.2.1 x.2.2.2.1 x.2.2.2.2.1 x.2.2.2.2.2.1 x.2.2.2.2.2.2.1 x.2.2.2.2.2.2.2.1 x.2.2.2.2.2.2.2.2.1 x.2.2.2.2.2.2.2.2.2.1 x.2.2.2.2.2.2.2.2.2.2.1 x.2.2.2.2.2.2.2.2.2.2.2.1)
      (l, (g, (p, (s.1, (s.2.1, (s.2.2, (u, (a, (lastG l p a, (l, (((l.length : Nat) : Int), ((0 : Int), ())))))))))))) = some (l, (g, (p, ((exB l p full a l.length s).1, ((exB l p full a l.length s).2.1, ((exB l p full a l.length s).2.2, (u, (a, ())))))))) := by
  have hl := h.v.len
  have hla : 0 ≤ lastG l p a ∧ lastG l p a ≤ 1000000 := by
    unfold lastG; split
    · exact cell_bound h.v _ _
    · omega
  have key := iter_count (step := fun x => g33_1 x.1 x.2.1 x.2.2.1 x.2.2.2.1 x.2.2.2.2.1 x.2.2.2.2.2.1 x.2.2.2.2.2.2.1 x.2.2.2.2.2.2.2.1 x.2.2.2.2.2.2.2.2.1 x.2.2.2.2.2.2.2.2.2.1 x.2.2.2.2.2.2.2.2.2.2.1 x.2.2.2.2.2.2.2.2.2.2.2.1) l.length
    (fun k => (l, (g, (p, ((exB l p full a k s).1, ((exB l p full a k s).2.1, ((exB l p full a k s).2.2, (u, (a, (lastG l p a, (l, (((l.length : Nat) : Int), ((k : Int), ()))))))))))))) (b := (l, (g, (p, ((exB l p full a l.length s).1, ((exB l p full a l.length s).2.1, ((exB l p full a l.length s).2.2, (u, (a, ())))))))) )
    (fun k hk => by
      have hp := h.rng k hk
      have hlen := h.len
      have hc := cell_bound h.v k (p.getD k 0).toNat
      have hn : nextG l p (k : Int) = (l.getD k []).getD (p.getD k 0).toNat 0 := by unfold nextG; rw [if_pos (by omega), Int.toNat_natCast]
      have hB : skipB l p (k : Int) ↔ p.getD k 0 = ((l.getD k []).length : Nat) := by unfold skipB; rw [Int.toNat_natCast]; constructor <;> intro hh; exact hh.2; exact ⟨by omega, hh⟩
      rw [exB_succ]
      generalize exB l p full a k s = s' at *
      unfold exSt
      rw [hn]
      simp only [g33_1, Int.toNat_natCast]
      rw [br_d, if_pos (by omega), need_inb (by omega) (by omega), br_eq]
      by_cases c1 : a = k
      · rw [if_pos c1.symm, if_pos (.inl c1), need_i64 (by omega) (by omega), Int.natCast_add]; rfl
      · rw [if_neg (fun e => c1 e.symm), need_inb (by omega) (by omega), br_eq]
        by_cases c2 : p.getD k 0 = ((l.getD k []).length : Nat)
        · rw [if_pos c2, if_pos (.inr (.inr (hB.2 c2))), need_i64 (by omega) (by omega), Int.natCast_add]; rfl
        · rw [if_neg c2, if_neg (by rintro (e | e | e); exact c1 e; exact hs e; exact c2 (hB.1 e)), need_inb (by omega) (by omega), need_inb (by omega) (by omega), need_i64 (by omega) (by omega), br_d]
          by_cases c3 : s'.2.2 < (l.getD k []).getD (p.getD k 0).toNat 0 - lastG l p a
          · rw [if_pos c3, if_pos c3, need_i64 (by omega) (by omega), Int.natCast_add]; rfl
          · rw [if_neg c3, if_neg c3, need_i64 (by omega) (by omega), Int.natCast_add]; rfl) (by
      simp only [g33_1]; rw [br_d, if_neg (by omega)])
  simp only [Int.natCast_zero] at key
  have e0 : exB l p full a 0 s = s := by simp [exB]
  rw [e0] at key
  exact key
theorem g33_out {l : List (List Int)} {p : List Int} (h : PlanOk l p) {g u : Int} :
    iter (fun x => g33_0 x.1 x.2.1 x.2.2.1 x.2.2.2.1 x.2.2.2.2.1 x.2.2.2.2.2.1 x.2.2.2.2.2.2.1 x.2.2.2.2.2.2.2.1) (l, (g, (p, ((0 : Int), ((0 : Int), ((0 : Int), (u, ((-1 : Int), ())))))))) = some ((exA l p (u = g) (l.length + 1)).1, ((exA l p (u = g) (l.length + 1)).2.1, ((exA l p (u = g) (l.length + 1)).2.2, ()))) := by
  have hl := h.v.len
  have key := iter_count (step := fun x => g33_0 x.1 x.2.1 x.2.2.1 x.2.2.2.1 x.2.2.2.2.1 x.2.2.2.2.2.1 x.2.2.2.2.2.2.1 x.2.2.2.2.2.2.2.1) (l.length + 1) (fun k => (l, (g, (p, ((exA l p (u = g) k).1, ((exA l p (u = g) k).2.1, ((exA l p (u = g) k).2.2, (u, (((k : Int) - 1), ()))))))) ))
    (b := ((exA l p (u = g) (l.length + 1)).1, ((exA l p (u = g) (l.length + 1)).2.1, ((exA l p (u = g) (l.length + 1)).2.2, ())))) (fun k hk => by
      have hlen := h.len
      rw [exA_succ]
      generalize exA l p (u = g) k = s
      simp only [g33_0]
      rw [br_d, if_pos (by omega), br_eq]
      by_cases c0 : (k : Int) - 1 = -1
      · rw [if_pos c0, br_eq]
        by_cases c1 : u = g
        · rw [if_pos c1, exB_skip (.inl ⟨c0, c1⟩), need_i64 (by omega) (by omega)]; simp
        · rw [if_neg c1, br_eq, if_pos c0]
          have hs : ¬skipA p (u = g) ((k : Int) - 1) := by rintro (e | e); exact c1 e.2; omega
          have hla : lastG l p ((k : Int) - 1) = 0 := by unfold lastG; rw [if_neg (by omega)]
          have := g33_in h (g := g) (u := u) (s := s) hs (by omega)
          rw [hla] at this
          rw [bind_of this]
          dsimp only
          rw [need_i64 (by omega) (by omega)]; simp
      · obtain ⟨j, hj⟩ : ∃ j : Nat, (k : Int) - 1 = j := ⟨k - 1, by omega⟩
        have hp := h.rng j (by omega)
        rw [if_neg c0, br_eq, if_neg c0, hj, need_inb (by omega) (by omega)]
        simp only [Int.toNat_natCast]
        rw [br_eq]
        by_cases c1 : p.getD j 0 = 0
        · rw [if_pos c1, exB_skip (.inr ⟨by omega, by rw [Int.toNat_natCast]; exact c1⟩), need_i64 (by omega) (by omega), show ((k + 1 : Nat) : Int) - 1 = (j : Int) + 1 by omega]
        · have hs : ¬skipA p (u = g) (j : Int) := by
            rintro (e | e)
            · omega
            · rw [Int.toNat_natCast] at e; exact c1 e.2
          have hla : lastG l p (j : Int) = (l.getD j []).getD (p.getD j 0 - 1).toNat 0 := by unfold lastG; rw [if_pos (by omega), Int.toNat_natCast]
          have := g33_in h (g := g) (u := u) (s := s) hs (by omega)
          rw [hla] at this
          have hg := (h.v.getD j).1
          rw [if_neg c1, need_inb (by omega) (by omega), need_inb (by omega) (by omega), need_i64 (by omega) (by omega), need_inb (by omega) (by omega), bind_of this]
          dsimp only
          rw [need_i64 (by omega) (by omega), show ((k + 1 : Nat) : Int) - 1 = (j : Int) + 1 by omega]) (by
      simp only [g33_0]; rw [br_d, if_neg (by omega)])
  have e0 : exA l p (u = g) 0 = (0, 0, 0) := by simp [exA]
  rw [e0] at key
  exact key
/-- The exchange that gains most. -/
noncomputable def exR (l : List (List Int)) (g : Int) (p : List Int) : Int × Int × Int × Int :=
  if chkG l g ≠ 0 then (0, 0, 0, chkG l g) else if (sug l p).2.2 ≠ 0 then (0, 0, 0, (sug l p).2.2) else if g < (sug l p).1 then (0, 0, 0, 10) else
    if (exA l p ((sug l p).1 = g) (l.length + 1)).2.2 = 0 then (0, 0, 0, 5) else
      ((exA l p ((sug l p).1 = g) (l.length + 1)).1, (exA l p ((sug l p).1 = g) (l.length + 1)).2.1, (exA l p ((sug l p).1 = g) (l.length + 1)).2.2, 0)
theorem F33_eq {l : List (List Int)} {g : Int} {p : List Int} : F33 l g p = some ((exR l g p).1, (exR l g p).2.1, (exR l g p).2.2.1, (exR l g p).2.2.2, ()) := by
  unfold F33 exR
  rw [F55_eq, bindO_s]
  dsimp only
  rw [br_not, br_eq]
  by_cases h0 : chkG l g = 0
  · rw [if_pos h0, if_neg (by simpa using h0), F18_eq, bindO_s]
    dsimp only
    rw [br_not, br_eq]
    by_cases h1 : (sug l p).2.2 = 0
    · rw [if_pos h1, if_neg (by simpa using h1), br_d]
      by_cases h2 : g < (sug l p).1
      · rw [if_pos h2, if_pos h2]
      · rw [if_neg h2, if_neg h2, bind_of (g33_out (sug_ok h1))]
        dsimp only
        rw [br_eq]
        by_cases h3 : (exA l p ((sug l p).1 = g) (l.length + 1)).2.2 = 0
        · rw [if_pos h3, if_pos h3]
        · rw [if_neg h3, if_neg h3]
    · rw [if_neg h1, if_pos h1]
  · rw [if_neg h0, if_pos h0]
end Go.Proofs.Try
end
section
open Go.AM Go.Gm Go.Srt
namespace Go.Proofs.Try
set_option linter.unusedVariables false
set_option linter.unusedSimpArgs false
/-- What is left of a number, less some others, but no less than 0. -/
def lst (row : List Int) (k : Nat) : Int := (row.take k).foldl (fun a x => imax 0 (a - x)) 300
def mrow (row : List Int) (k : Nat) : List Int := (List.range k).map fun j => lst row (j + 1)
def made (v : List (List Int)) (n : Nat) : List (List Int) := (List.range n).map fun i => mrow (v.getD i []) (min (v.getD i []).length 4)
def valley (v : List (List Int)) : List (List Int) := made v (min v.length 4)
theorem lst_succ {row : List Int} {k : Nat} (h : k < row.length) : lst row (k + 1) = imax 0 (lst row k - row.getD k 0) := by
  unfold lst; rw [take_succ_getD 0 h, List.foldl_append]; rfl
theorem lst_bound {row : List Int} (h : ∀ x ∈ row, 0 ≤ x ∧ x ≤ 255) (k : Nat) : 0 ≤ lst row k ∧ lst row k ≤ 300 := by
  induction k with
  | zero => simp [lst]
  | succ k ih =>
    by_cases c : k < row.length
    · rw [lst_succ c]
      have := h _ (getD_mem (d := 0) c)
      unfold imax; omega
    · have : lst row (k + 1) = lst row k := by unfold lst; rw [List.take_of_length_le (by omega), List.take_of_length_le (by omega)]
      rw [this]; exact ih
theorem lst_anti {row : List Int} (h : ∀ x ∈ row, 0 ≤ x ∧ x ≤ 255) (k : Nat) : lst row (k + 1) ≤ lst row k := by
  by_cases c : k < row.length
  · rw [lst_succ c]
    have := h _ (getD_mem (d := 0) c)
    have := lst_bound h k
    unfold imax; omega
  · have : lst row (k + 1) = lst row k := by unfold lst; rw [List.take_of_length_le (by omega), List.take_of_length_le (by omega)]
    rw [this]; exact Int.le_refl _
theorem lst_anti' {row : List Int} (h : ∀ x ∈ row, 0 ≤ x ∧ x ≤ 255) (k d : Nat) : lst row (k + d) ≤ lst row k := by
  induction d with
  | zero => exact Int.le_refl _
  | succ d ih => have := lst_anti h (k + d); rw [← Nat.add_assoc]; omega
theorem mrow_succ (row : List Int) (k : Nat) : mrow row (k + 1) = mrow row k ++ [lst row (k + 1)] := by simp [mrow, List.range_succ]
theorem mrow_length (row : List Int) (k : Nat) : (mrow row k).length = k := by simp [mrow]
theorem made_succ (v : List (List Int)) (k : Nat) : made v (k + 1) = made v k ++ [mrow (v.getD k []) (min (v.getD k []).length 4)] := by simp [made, List.range_succ]
theorem made_length (v : List (List Int)) (k : Nat) : (made v k).length = k := by simp [made]
/-- Lists of bytes. -/
def Bytes (v : List (List Int)) : Prop := v.length ≤ maxLen ∧ ∀ row ∈ v, row.length ≤ maxLen ∧ ∀ x ∈ row, 0 ≤ x ∧ x ≤ 255
theorem bytes_of {v : List (List Int)} (h : Wf (.list (.list (.int .u8))) v) : Bytes v := by
  refine ⟨h.1, fun row hr => ⟨(h.2 row hr).1, fun x hx => ?_⟩⟩
  have := (h.2 row hr).2 x hx
  simp only [Wf] at this
  have e1 : IntKind.u8.min = 0 := by decide
  have e2 : IntKind.u8.max = 255 := by decide
  rw [e1, e2] at this
  exact this
theorem Bytes.row {v : List (List Int)} (h : Bytes v) (i : Nat) : ∀ x ∈ v.getD i [], 0 ≤ x ∧ x ≤ 255 := by
  by_cases c : i < v.length
  · exact (h.2 _ (getD_mem c)).2
  · rw [getD_out [] (by omega)]; intro x hx; cases hx
theorem made_val {v : List (List Int)} (h : Bytes v) {n : Nat} (hn : n ≤ 4) : Val (made v n) ∧ ∀ f ∈ made v n, f.length ≤ 4 ∧ Small f 300 := by
  have key : ∀ f ∈ made v n, f.length ≤ 4 ∧ Small f 300 ∧ Tops.Desc f := fun f hf => by
    obtain ⟨i, hi, rfl⟩ := List.mem_map.1 hf
    refine ⟨by rw [mrow_length]; omega, fun x hx => ?_, ?_⟩
    · obtain ⟨j, hj, rfl⟩ := List.mem_map.1 hx
      exact lst_bound (h.row i) _
    · unfold Tops.Desc mrow
      rw [List.pairwise_map]
      refine List.pairwise_lt_range.imp fun {a b} hab => ?_
      have := lst_anti' (h.row i) (a + 1) (b - a)
      rwa [show a + 1 + (b - a) = b + 1 by omega] at this
  refine ⟨⟨by rw [made_length]; omega, fun f hf => by have := key f hf; omega, fun f hf x hx => by have := (key f hf).2.1 x hx; omega, fun f hf => (key f hf).2.2⟩, fun f hf => ⟨(key f hf).1, (key f hf).2.1⟩⟩
theorem F39_in {v : List (List Int)} (h : Bytes v) {i : Nat} (hi : i < v.length) (hi4 : i < 4) {n : Nat} {t : Bool} {b0 : List (List Int)} :
    iter (fun x => g39_1 x.1 x.2.1 x.2.2.1 x.2.2.2.1 x.2.2.2.2.1 x.2.2.2.2.2.1 x.2.2.2.2.2.2.1 x.2.2.2.2.2.2.2.1 x.2.2.2.2.2.2.2.2.1 x.2.2.2.2.2.2.2.2.2.1) (v, n, (i : Int), (300 : Int), 0, (0 : Int), (i : Int), t, b0, [], ()) =
      some (v, n, (i : Int), min (v.getD i []).length 4, (i : Int), t, b0, mrow (v.getD i []) (min (v.getD i []).length 4), ()) := by
  have hv := h.1
  have hr := (h.2 _ (getD_mem (d := []) hi)).1
  have key := iter_count (step := fun x => g39_1 x.1 x.2.1 x.2.2.1 x.2.2.2.1 x.2.2.2.2.1 x.2.2.2.2.2.1 x.2.2.2.2.2.2.1 x.2.2.2.2.2.2.2.1 x.2.2.2.2.2.2.2.2.1 x.2.2.2.2.2.2.2.2.2.1) (min (v.getD i []).length 4)
    (fun k => (v, n, (i : Int), lst (v.getD i []) k, k, (k : Int), (i : Int), t, b0, mrow (v.getD i []) k, ()))
    (b := (v, n, (i : Int), min (v.getD i []).length 4, (i : Int), t, b0, mrow (v.getD i []) (min (v.getD i []).length 4), ())) (fun k hk => by
      have hb := lst_bound (h.row i) k
      have hx := h.row i _ (getD_mem (d := 0) (show k < (v.getD i []).length by omega))
      simp only [g39_1, Int.toNat_natCast]
      rw [need_inb (by omega) (by omega), br_d, if_pos (by omega), br_d, if_pos (by omega), need_inb (by omega) (by omega), need_inb (by omega) (by omega), need_i64 (by omega) (by omega), need_i64 (by omega) (by omega), need_big (by simp; omega), need_i64 (by omega) (by omega), mrow_succ, lst_succ (by omega)]
      simp only [List.drop_zero]
      rw [List.take_of_length_le (l := mrow (v.getD i []) k) (by rw [mrow_length]; omega)]
      simp) (by
      simp only [g39_1, Int.toNat_natCast]
      rw [need_inb (by omega) (by omega), br_d, br_d]
      by_cases c : ((min (v.getD i []).length 4 : Nat) : Int) < (((v.getD i []).length : Nat) : Int)
      · rw [if_pos c, if_neg (by omega)]
      · rw [if_neg c])
  have e0 : lst (v.getD i []) 0 = 300 := by simp [lst]
  have e1 : mrow (v.getD i []) 0 = [] := rfl
  simp only [e0, e1, Int.natCast_zero] at key
  exact key
theorem F39_eq {v : List (List Int)} (h : Bytes v) : F39 v = some (valley v, ()) := by
  have hv := h.1
  unfold F39
  have key := iter_count (step := fun x => g39_0 x.1 x.2.1 x.2.2.1 x.2.2.2.1) (min v.length 4) (fun k => (v, k, (k : Int), made v k, ())) (b := (min v.length 4, made v (min v.length 4), ())) (fun k hk => by
    simp only [g39_0]
    rw [br_d, if_pos (by omega), br_d, if_pos (by omega), bind_of (F39_in h (by omega) (by omega))]
    dsimp only
    rw [need_big (by simp; omega), need_i64 (by omega) (by omega), made_succ]
    simp only [List.drop_zero]
    rw [List.take_of_length_le (l := made v k) (by rw [made_length]; omega), List.take_of_length_le (l := mrow (v.getD k []) (min (v.getD k []).length 4)) (by rw [mrow_length]; omega)]
    simp) (by
    simp only [g39_0]
    rw [br_d, br_d]
    by_cases c : ((min v.length 4 : Nat) : Int) < ((v.length : Nat) : Int)
    · rw [if_pos c, if_neg (by omega)]
    · rw [if_neg c])
  have e0 : made v 0 = [] := rfl
  simp only [e0, Int.natCast_zero] at key
  rw [bind_of key]
  dsimp only
  rw [List.drop_zero, List.take_of_length_le (by rw [made_length]; omega)]
  rfl
theorem valley_val {v : List (List Int)} (h : Bytes v) : Val (valley v) ∧ (valley v).length ≤ 4 ∧ ∀ f ∈ valley v, f.length ≤ 4 ∧ Small f 300 := by
  have := made_val h (n := min v.length 4) (by omega)
  exact ⟨this.1, by unfold valley; rw [made_length]; omega, this.2⟩
end Go.Proofs.Try
end
section
open Go.AM Go.Gm Go.Srt
namespace Go.Proofs.Try
set_option linter.unusedVariables false
set_option linter.unusedSimpArgs false
/-- What is so of a plan. -/
structure PlanIn (g : Nat) (l : List (List Int)) (q : List Int) : Prop where
  len : q.length = l.length
  rng : ∀ i, i < l.length → 0 ≤ q.getD i 0 ∧ q.getD i 0 ≤ ((l.getD i []).length : Nat)
  sum : q.sum ≤ g
theorem getD_snoc_lt {α : Type} {l : List α} {x d : α} {i : Nat} (h : i < l.length) : (l ++ [x]).getD i d = l.getD i d := by
  simp [List.getD_eq_getElem?_getD, List.getElem?_append_left h]
theorem getD_snoc_eq {α : Type} {l : List α} {x d : α} {i : Nat} (h : i = l.length) : (l ++ [x]).getD i d = x := by
  subst h; simp [List.getD_eq_getElem?_getD]
theorem sum_nonneg {l : List Int} (h : ∀ x ∈ l, 0 ≤ x) : 0 ≤ l.sum := by
  induction l with
  | nil => simp
  | cons x l ih => have := h x (by simp); have := ih fun y hy => h y (by simp [hy]); simp; omega
/-- The sugar of a plan. -/
def sugP (l : List (List Int)) (q : List Int) : Int := sumR q.length (fun i => sumN (l.getD i []) (q.getD i 0).toNat)
theorem F41_in {l : List (List Int)} (h : Val l) {q : List Int} {i n : Nat} (hi : i < l.length) (hn : n ≤ (l.getD i []).length) {s : Int} (hs : 0 ≤ s ∧ s ≤ 1000000000) {v10 v11 : Int} :
    iter (fun x => g41_1 x.1 x.2.1 x.2.2.1 x.2.2.2.1 x.2.2.2.2.1 x.2.2.2.2.2.1 x.2.2.2.2.2.2.1 x.2.2.2.2.2.2.2.1) (l, s, (i : Int), (n : Int), (0 : Int), q, v10, v11, ()) = some (l, s + sumN (l.getD i []) n, q, v10, v11, ()) := by
  have hl := h.len
  have hg := h.getD i
  have key := iter_count (step := fun x => g41_1 x.1 x.2.1 x.2.2.1 x.2.2.2.1 x.2.2.2.2.1 x.2.2.2.2.2.1 x.2.2.2.2.2.2.1 x.2.2.2.2.2.2.2.1) n (fun k => (l, s + sumN (l.getD i []) k, (i : Int), (n : Int), (k : Int), q, v10, v11, ())) (b := (l, s + sumN (l.getD i []) n, q, v10, v11, ())) (fun k hk => by
    have h1 := h.sumN i k
    have h2 := h.sumN i (k + 1)
    rw [sumN_succ (by omega)] at h2
    simp only [g41_1, Int.toNat_natCast]
    rw [br_d, if_pos (by omega), need_inb (by omega) (by omega), need_inb (by omega) (by omega), need_i64 (by omega) (by omega), need_i64 (by omega) (by omega), sumN_succ (by omega)]
    simp; omega) (by simp only [g41_1]; rw [br_d, if_neg (by omega)])
  have e0 : sumN (l.getD i []) 0 = 0 := by simp [sumN]
  simp only [e0, Int.natCast_zero, Int.add_zero] at key
  exact key
theorem F41_eq {l : List (List Int)} (h : Val l) {q : List Int} (hq : q.length = l.length) (hr : ∀ i, i < l.length → 0 ≤ q.getD i 0 ∧ q.getD i 0 ≤ ((l.getD i []).length : Nat)) : F41 l q = some (sugP l q, ()) := by
  have hl := h.len
  unfold F41
  have key := iter_count (step := fun x => g41_0 x.1 x.2.1 x.2.2.1 x.2.2.2.1 x.2.2.2.2.1) q.length (fun k => (l, sumR k (fun i => sumN (l.getD i []) (q.getD i 0).toNat), q, ((q.length : Nat) : Int), (k : Int), ())) (b := (sugP l q, ())) (fun k hk => by
    have h1 := sugR_bound h q k (by omega)
    have h2 := hr k (by omega)
    simp only [g41_0, Int.toNat_natCast]
    rw [br_d, if_pos (by omega), need_inb (by omega) (by omega)]
    have := F41_in h (q := q) (i := k) (n := (q.getD k 0).toNat) (by omega) (by omega) (s := sumR k (fun i => sumN (l.getD i []) (q.getD i 0).toNat)) (by omega) (v10 := ((q.length : Nat) : Int)) (v11 := (k : Int))
    rw [Int.toNat_of_nonneg h2.1] at this
    rw [bind_of this]
    dsimp only
    rw [need_i64 (by omega) (by omega)]
    simp [sumR]) (by simp only [g41_0]; rw [br_d, if_neg (by omega)]; rfl)
  simp only [sumR, Int.natCast_zero] at key
  rw [bind_of key]
theorem plan_sum {l : List (List Int)} {q : List Int} (hq : ∀ i, i < q.length → 0 ≤ q.getD i 0) : sumR q.length (fun i => ((q.getD i 0).toNat : Int)) = q.sum := by
  induction q using snoc_ind with
  | h0 => rfl
  | h1 q x ih =>
    rw [List.length_append, List.sum_append]
    simp only [List.length_cons, List.length_nil, Nat.zero_add, sumR]
    have hx := hq q.length (by simp)
    rw [getD_snoc_eq rfl] at hx
    rw [← ih fun i hi => by have := hq i (by simp; omega); rwa [getD_snoc_lt hi] at this, getD_snoc_eq rfl]
    rw [sumR_congr (g := fun i => ((q.getD i 0).toNat : Int)) fun i hi => by rw [getD_snoc_lt hi]]
    simp; omega
/-- No plan has more than the first steps. -/
theorem sug_most {l : List (List Int)} (h : Val l) {g : Nat} {q : List Int} (hq : PlanIn g l q) : sugP l q ≤ Tops.tops (mrgAll l) g := by
  have h1 := plan_le h.desc (fun f hf x hx => (h.sm f hf x hx).1) (fun i => (q.getD i 0).toNat) (g := g) (n := l.length) (Nat.le_refl _) (by
    have e := plan_sum (l := l) (q := q) fun i hi => (hq.rng i (by rw [← hq.len]; exact hi)).1
    rw [hq.len] at e
    rw [e]; exact hq.sum)
  rw [List.take_length] at h1
  unfold sugP
  rw [hq.len]
  exact h1
end Go.Proofs.Try
end
section
open Go.AM Go.Gm Go.Srt
namespace Go.Proofs.Try
set_option linter.unusedVariables false
set_option linter.unusedSimpArgs false
section
variable (l : List (List Int)) (p : List Int) (full : Prop)
def vEx (a b : Int) : Prop := a ≠ b ∧ ¬skipA p full a ∧ ¬skipB l p b
def gEx (a b : Int) : Int := nextG l p b - lastG l p a
/-- What was found is an exchange. -/
def found (s : Int × Int × Int) : Prop := 0 < s.2.2 → vEx l p full s.1 s.2.1 ∧ (-1 ≤ s.1 ∧ s.1 < l.length) ∧ (0 ≤ s.2.1 ∧ s.2.1 < l.length) ∧ s.2.2 = gEx l p s.1 s.2.1
end
variable {l : List (List Int)} {p : List Int} {full : Prop}
theorem exSt_char {a b : Int} {s : Int × Int × Int} (ha : -1 ≤ a ∧ a < l.length) (hb : 0 ≤ b ∧ b < l.length) (h : found l p full s) : found l p full (exSt l p full a b s) ∧ s.2.2 ≤ (exSt l p full a b s).2.2 ∧ (vEx l p full a b → gEx l p a b ≤ (exSt l p full a b s).2.2) := by
  unfold exSt
  by_cases c : a = b ∨ skipA p full a ∨ skipB l p b
  · rw [if_pos c]
    refine ⟨h, Int.le_refl _, fun v => ?_⟩
    rcases c with c | c | c
    · exact absurd c v.1
    · exact absurd c v.2.1
    · exact absurd c v.2.2
  · rw [if_neg c]
    have hv : vEx l p full a b := ⟨fun e => c (.inl e), fun e => c (.inr (.inl e)), fun e => c (.inr (.inr e))⟩
    by_cases c2 : s.2.2 < nextG l p b - lastG l p a
    · rw [if_pos c2]
      exact ⟨fun _ => ⟨hv, ha, hb, rfl⟩, by simp only; omega, fun _ => Int.le_refl _⟩
    · rw [if_neg c2]
      exact ⟨h, Int.le_refl _, fun _ => by unfold gEx; omega⟩
theorem exB_char {a : Int} (ha : -1 ≤ a ∧ a < l.length) {s : Int × Int × Int} (h : found l p full s) : ∀ {n : Nat}, n ≤ l.length → found l p full (exB l p full a n s) ∧ s.2.2 ≤ (exB l p full a n s).2.2 ∧ (∀ b : Int, 0 ≤ b → b < n → vEx l p full a b → gEx l p a b ≤ (exB l p full a n s).2.2) := by
  intro n
  induction n with
  | zero => intro _; simp only [exB, List.range_zero, List.foldl_nil]; exact ⟨h, Int.le_refl _, fun b h1 h2 => by omega⟩
  | succ n ih =>
    intro hn
    obtain ⟨i1, i2, i3⟩ := ih (by omega)
    rw [exB_succ]
    obtain ⟨j1, j2, j3⟩ := exSt_char (b := (n : Int)) ha (by omega) i1
    refine ⟨j1, by omega, fun b h1 h2 hv => ?_⟩
    by_cases e : b = n
    · subst e; exact j3 hv
    · have := i3 b h1 (by omega) hv; omega
theorem exA_char : ∀ {k : Nat}, k ≤ l.length + 1 → found l p full (exA l p full k) ∧ (∀ a b : Int, -1 ≤ a → a < (k : Int) - 1 → 0 ≤ b → b < l.length → vEx l p full a b → gEx l p a b ≤ (exA l p full k).2.2) := by
  intro k
  induction k with
  | zero => intro _; simp only [exA, List.range_zero, List.foldl_nil]; exact ⟨fun h => by simp at h, fun a b h1 h2 => by omega⟩
  | succ k ih =>
    intro hk
    obtain ⟨i1, i2⟩ := ih (by omega)
    rw [exA_succ]
    obtain ⟨j1, j2, j3⟩ := exB_char (a := (k : Int) - 1) (by omega) i1 (n := l.length) (Nat.le_refl _)
    refine ⟨j1, fun a b h1 h2 h3 h4 hv => ?_⟩
    by_cases e : a = (k : Int) - 1
    · subst e; exact j3 b h3 h4 hv
    · have := i2 a b h1 (by omega) h3 h4 hv; omega
/-- One number changed. -/
theorem set_getD_ne {α : Type} {l : List α} {i j : Nat} {x d : α} (h : i ≠ j) : (l.set i x).getD j d = l.getD j d := by
  simp [List.getD_eq_getElem?_getD, List.getElem?_set, h]
theorem sumR_set {n j : Nat} {q : List Int} {x : Int} (F : Nat → Int → Int) (hj : j < n) (hq : n = q.length) : sumR n (fun i => F i ((q.set j x).getD i 0)) = sumR n (fun i => F i (q.getD i 0)) - F j (q.getD j 0) + F j x := by
  subst hq
  have key : ∀ n, n ≤ q.length → sumR n (fun i => F i ((q.set j x).getD i 0)) = sumR n (fun i => F i (q.getD i 0)) + (if j < n then F j x - F j (q.getD j 0) else 0) := by
    intro n
    induction n with
    | zero => intro _; simp [sumR]
    | succ n ih =>
      intro hn
      simp only [sumR]
      rw [ih (by omega)]
      by_cases e : j = n
      · subst e
        rw [set_getD (by omega), if_neg (by omega), if_pos (by omega)]; omega
      · rw [set_getD_ne e]
        by_cases c : j < n
        · rw [if_pos c, if_pos (by omega)]; omega
        · rw [if_neg c, if_neg (by omega)]; omega
  rw [key _ (Nat.le_refl _), if_pos hj]; omega
theorem sum_sumR (q : List Int) : q.sum = sumR q.length (fun i => q.getD i 0) := by
  induction q using snoc_ind with
  | h0 => rfl
  | h1 q x ih =>
    rw [List.sum_append, ih, List.length_append]
    simp only [List.length_cons, List.length_nil, Nat.zero_add, sumR]
    rw [getD_snoc_eq rfl, sumR_congr (g := fun i => q.getD i 0) fun i hi => getD_snoc_lt hi]
    simp
theorem sum_set {q : List Int} {j : Nat} {x : Int} (hj : j < q.length) : (q.set j x).sum = q.sum - q.getD j 0 + x := by
  rw [sum_sumR, sum_sumR, List.length_set]
  exact sumR_set (fun _ y => y) hj rfl
theorem sugP_set {q : List Int} {j : Nat} {x : Int} (hj : j < q.length) : sugP l (q.set j x) = sugP l q - sumN (l.getD j []) (q.getD j 0).toNat + sumN (l.getD j []) x.toNat := by
  unfold sugP
  rw [List.length_set]
  exact sumR_set (fun i y => sumN (l.getD i []) y.toNat) hj rfl
/-- How many gains that are not taken are above a number. -/
def above (l : List (List Int)) (c : Int) (q : List Int) : Int := sumR q.length (fun i => ((((l.getD i []).drop (q.getD i 0).toNat).countP (fun x => decide (c < x)) : Nat) : Int))
theorem above_set {c : Int} {q : List Int} {j : Nat} {x : Int} (hj : j < q.length) : above l c (q.set j x) = above l c q - ((((l.getD j []).drop (q.getD j 0).toNat).countP (fun x => decide (c < x)) : Nat) : Int) + ((((l.getD j []).drop x.toNat).countP (fun x => decide (c < x)) : Nat) : Int) := by
  unfold above
  rw [List.length_set]
  exact sumR_set (fun i y => ((((l.getD i []).drop y.toNat).countP (fun x => decide (c < x)) : Nat) : Int)) hj rfl
theorem above_mono {c d : Int} (h : c ≤ d) (q : List Int) : above l d q ≤ above l c q := by
  unfold above
  refine sumR_le fun i _ => ?_
  have : ∀ L : List Int, L.countP (fun x => decide (d < x)) ≤ L.countP (fun x => decide (c < x)) := fun L => List.countP_mono_left fun x _ hx => by simp at hx ⊢; omega
  have := this ((l.getD i []).drop (q.getD i 0).toNat)
  omega
theorem drop_count {L : List Int} {k : Nat} (h : k < L.length) (c : Int) : (L.drop k).countP (fun x => decide (c < x)) = (if c < L.getD k 0 then 1 else 0) + (L.drop (k + 1)).countP (fun x => decide (c < x)) := by
  rw [List.drop_eq_getElem_cons h, List.countP_cons, getD_el 0 h]
  by_cases hc : c < L[k] <;> simp [hc] <;> omega
theorem sug_of_plan (h : Val l) {g : Nat} {q : List Int} (hq : PlanIn g l q) : sug l q = (q.sum, sugP l q, 0) := by
  unfold sug
  rw [if_neg (by simpa using chk_val.2 h), if_neg (by simpa using hq.len)]
  have hs : (List.range q.length).findSome? (stopP l q) = none := findSome_none.2 fun k hk => stopP_none.2 (hq.rng k (by rw [← hq.len]; exact hk))
  rw [hs]
  rfl
/-- If no exchange gains, the plan is a best one. -/
theorem local_best (h : Val l) {g : Nat} {q : List Int} (hq : PlanIn g l q) (hg : g ≤ 200) (hno : ∀ a b : Int, -1 ≤ a → a < l.length → 0 ≤ b → b < l.length → vEx l q (q.sum = g) a b → gEx l q a b ≤ 0) : sugP l q = Tops.tops (mrgAll l) g := by
  have hlen := hq.len
  -- a wage between what is taken and what is not
  obtain ⟨w, w0, w1, w2⟩ : ∃ w : Int, 0 ≤ w ∧ (∀ i j, i < l.length → j < (q.getD i 0).toNat → q.sum = g → w ≤ (l.getD i []).getD j 0) ∧ (∀ i j, i < l.length → (q.getD i 0).toNat ≤ j → j < (l.getD i []).length → (l.getD i []).getD j 0 ≤ w) ∧ (q.sum ≠ g → w = 0) := by
    by_cases c : q.sum = g
    · -- the greatest of the next gains
      let nx := fun i : Nat => if (q.getD i 0).toNat < (l.getD i []).length then (l.getD i []).getD (q.getD i 0).toNat 0 else 0
      have hmax : ∀ n, ∃ w, 0 ≤ w ∧ (∀ i, i < n → nx i ≤ w) ∧ (w = 0 ∨ ∃ i, i < n ∧ w = nx i) := by
        intro n
        induction n with
        | zero => exact ⟨0, by omega, fun i hi => by omega, .inl rfl⟩
        | succ n ih =>
          obtain ⟨w, h1, h2, h3⟩ := ih
          by_cases hc : nx n ≤ w
          · exact ⟨w, h1, fun i hi => by by_cases e : i = n; (subst e; exact hc); exact h2 i (by omega), by rcases h3 with h3 | ⟨i, hi, h3⟩; exact .inl h3; exact .inr ⟨i, by omega, h3⟩⟩
          · exact ⟨nx n, by omega, fun i hi => by by_cases e : i = n; (subst e; exact Int.le_refl _); (have := h2 i (by omega); omega), .inr ⟨n, by omega, rfl⟩⟩
      obtain ⟨w, h1, h2, h3⟩ := hmax l.length
      refine ⟨w, h1, fun i j hi hj _ => ?_, fun i j hi hj hjl => ?_, fun hne => absurd c hne⟩
      · have hri := hq.rng i hi
        have hd := desc_getD (h.desc _ (getD_mem (d := []) hi)) (fun x hx => (h.sm _ (getD_mem (d := []) hi) x hx).1) (show j ≤ (q.getD i 0).toNat - 1 by omega)
        have hcb := cell_bound h i j
        rcases h3 with h3 | ⟨b, hb, h3⟩
        · omega
        · simp only [nx] at h3
          by_cases hcap : (q.getD b 0).toNat < (l.getD b []).length
          · rw [if_pos hcap] at h3
            by_cases e : i = b
            · subst e
              have := desc_getD (h.desc _ (getD_mem (d := []) hi)) (fun x hx => (h.sm _ (getD_mem (d := []) hi) x hx).1) (show j ≤ (q.getD i 0).toNat by omega)
              omega
            · have hrb := hq.rng b hb
              have := hno i b (by omega) (by omega) (by omega) (by omega) ⟨by omega, by
                rintro (hh | hh)
                · omega
                · rw [Int.toNat_natCast] at hh; omega, by
                rintro ⟨_, hh⟩
                rw [Int.toNat_natCast] at hh; omega⟩
              unfold gEx nextG lastG at this
              rw [if_pos (by omega), if_pos (by omega), Int.toNat_natCast, Int.toNat_natCast, show (q.getD i 0 - 1).toNat = (q.getD i 0).toNat - 1 by omega] at this
              omega
          · rw [if_neg hcap] at h3; omega
      · have := h2 i hi
        simp only [nx] at this
        rw [if_pos (by omega)] at this
        have := desc_getD (h.desc _ (getD_mem (d := []) hi)) (fun x hx => (h.sm _ (getD_mem (d := []) hi) x hx).1) hj
        omega
    · refine ⟨0, Int.le_refl _, fun i j hi hj hs => absurd hs c, fun i j hi hj hjl => ?_, fun _ => rfl⟩
      have hri := hq.rng i hi
      have := hno (-1) i (by omega) (by omega) (by omega) (by omega) ⟨by omega, by rintro (hh | hh); exact c hh.2; omega, by
        rintro ⟨_, hh⟩
        rw [Int.toNat_natCast] at hh; omega⟩
      unfold gEx nextG lastG at this
      rw [if_pos (by omega), if_neg (by omega), Int.toNat_natCast] at this
      have := desc_getD (h.desc _ (getD_mem (d := []) hi)) (fun x hx => (h.sm _ (getD_mem (d := []) hi) x hx).1) hj
      omega
  apply Int.le_antisymm (sug_most h hq)
  have hbt := (bnd_tops (g := g) (mrgAll_desc h.desc) (fun x hx => (h.mrgAll_small x hx).1) w0).1
  -- its bound is just the plan's sugar
  have hex : ∀ n, n ≤ l.length → exS w (l.take n).flatten = sumR n (fun i => sumN (l.getD i []) (q.getD i 0).toNat) - w * sumR n (fun i => q.getD i 0) ∨ q.sum ≠ g ∧ exS w (l.take n).flatten = sumR n (fun i => sumN (l.getD i []) (q.getD i 0).toNat) := by
    intro n
    have one : ∀ i, i < l.length → exS w (l.getD i []) = sumN (l.getD i []) (q.getD i 0).toNat - w * q.getD i 0 := fun i hi => by
      have hri := hq.rng i hi
      have hsmall := (h.getD i).2
      have e : exS w (l.getD i []) = exS w ((l.getD i []).take (q.getD i 0).toNat) + exS w ((l.getD i []).drop (q.getD i 0).toNat) := by rw [← exS_append, List.take_append_drop]
      have e2 : exS w ((l.getD i []).drop (q.getD i 0).toNat) = 0 := exS_zero fun x hx => by
        obtain ⟨j, hj, rfl⟩ := List.mem_iff_getElem.1 hx
        rw [List.length_drop] at hj
        have := w2.1 i ((q.getD i 0).toNat + j) hi (by omega) (by omega)
        rw [List.getElem_drop]
        rwa [getD_el 0 (by omega)] at this
      have e3 : ∀ k, k ≤ (q.getD i 0).toNat → exS w ((l.getD i []).take k) = sumN (l.getD i []) k - w * k := by
        intro k
        induction k with
        | zero => intro _; simp [exS, sumN]
        | succ k ih =>
          intro hk
          rw [take_succ_getD 0 (by omega), exS_append, ih (by omega), sumN_succ (by omega), exS_cons, exS_nil]
          have hw : w ≤ (l.getD i []).getD k 0 := by
            by_cases c : q.sum = g
            · exact w1 i k hi (by omega) c
            · rw [w2.2 c]; exact (cell_bound h i k).1
          unfold ex
          rw [Int.natCast_add, Int.mul_add]
          simp only [Int.natCast_one, Int.mul_one]
          omega
      rw [e, e2, e3 _ (Nat.le_refl _), Int.toNat_of_nonneg hri.1]
      omega
    intro hn
    left
    induction n with
    | zero => simp [exS, sumR]
    | succ n ih =>
      rw [take_succ_getD [] (by omega), List.flatten_append, exS_append]
      have : exS w ([l.getD n []] : List (List Int)).flatten = exS w (l.getD n []) := by simp
      rw [this, ih (by omega), one n (by omega)]
      simp only [sumR]
      rw [Int.mul_add]; omega
  have hfin := hex l.length (Nat.le_refl _)
  rw [List.take_length, ← exS_perm (mrgAll_perm l)] at hfin
  have hsum : sumR l.length (fun i => q.getD i 0) = q.sum := by rw [← hlen, ← sum_sumR]
  have hsug : sumR l.length (fun i => sumN (l.getD i []) (q.getD i 0).toNat) = sugP l q := by unfold sugP; rw [hlen]
  rw [hsum, hsug] at hfin
  unfold bnd at hbt
  by_cases c : q.sum = g
  · rcases hfin with hfin | ⟨hne, _⟩
    · rw [c] at hfin; omega
    · exact absurd c hne
  · have w00 := w2.2 c
    subst w00
    rcases hfin with hfin | ⟨_, hfin⟩ <;> omega
end Go.Proofs.Try
end
section
open Go.AM Go.Gm Go.Srt
namespace Go.Proofs.Try
set_option linter.unusedVariables false
set_option linter.unusedSimpArgs false
/-- The first plan, by numbers. -/
theorem F9_first {l : List (List Int)} (hl : l.length ≤ 4) (hf : ∀ f ∈ l, f.length ≤ 4) {g : Nat} (hg : g ≤ 100) {by' : List Int} (hb : ∀ x ∈ by', 0 ≤ x ∧ x ≤ 255) :
    ∃ p, PlanIn g l p ∧ iter (fun x => g9_0 x.1 x.2.1 x.2.2.1 x.2.2.2.1 x.2.2.2.2.1 x.2.2.2.2.2.1 x.2.2.2.2.2.2.1 x.2.2.2.2.2.2.2.1) (by', l, (g : Int), l.length, (g : Int), ((l.length : Nat) : Int), (0 : Int), List.replicate l.length 0, ()) = some (l, (g : Int), l.length, p, ()) := by
  obtain ⟨b, e, p, hp, hb'⟩ := iter_ex (step := fun x => g9_0 x.1 x.2.1 x.2.2.1 x.2.2.2.1 x.2.2.2.2.1 x.2.2.2.2.2.1 x.2.2.2.2.2.2.1 x.2.2.2.2.2.2.2.1) l.length
    (fun k x => ∃ p : List Int, x = (by', l, (g : Int), l.length, (g : Int) - p.sum, ((l.length : Nat) : Int), (k : Int), p, ()) ∧ p.length = l.length ∧ (∀ i, i < l.length → 0 ≤ p.getD i 0 ∧ p.getD i 0 ≤ ((l.getD i []).length : Nat)) ∧ (∀ i, k ≤ i → p.getD i 0 = 0) ∧ p.sum ≤ g)
    (fun b => ∃ p, PlanIn g l p ∧ b = (l, (g : Int), l.length, p, ())) (x := (by', l, (g : Int), l.length, (g : Int), ((l.length : Nat) : Int), (0 : Int), List.replicate l.length 0, ()))
    (fun k x hk hx => by
      obtain ⟨p, rfl, h1, h2, h3, h4⟩ := hx
      have hs : 0 ≤ p.sum := sum_nonneg fun x hx => by
        obtain ⟨i, hi, rfl⟩ := List.mem_iff_getElem.1 hx
        have := (h2 i (by omega)).1
        rwa [getD_el 0 hi] at this
      have hlk := hf _ (getD_mem (d := []) hk)
      have h0 := h3 k (Nat.le_refl _)
      simp only [g9_0, Int.toNat_natCast, Nat.zero_add]
      rw [br_d, if_pos (by omega), br_d]
      by_cases c : k < by'.length
      · have hx := hb _ (getD_mem (d := 0) c)
        have hm0 : 0 ≤ Int.tmod (by'.getD k 0) ((((l.getD k []).length : Nat) : Int) + 1) := Int.tmod_nonneg _ (by omega)
        have hm1 : Int.tmod (by'.getD k 0) ((((l.getD k []).length : Nat) : Int) + 1) < (((l.getD k []).length : Nat) : Int) + 1 := Int.tmod_lt_of_pos _ (by omega)
        obtain ⟨y, hy⟩ : ∃ y, imin ((g : Int) - p.sum) (Int.tmod (by'.getD k 0) ((((l.getD k []).length : Nat) : Int) + 1)) = y := ⟨_, rfl⟩
        have hy0 : 0 ≤ y ∧ y ≤ (((l.getD k []).length : Nat) : Int) ∧ y ≤ (g : Int) - p.sum := by unfold imin at hy; omega
        have hset : (p.set k y).getD k 0 = y := set_getD (by omega)
        have hsum : (p.set k y).sum = p.sum + y := by rw [sum_set (by omega), h0]; omega
        rw [if_pos (by omega), need_inb (by omega) (by omega), need_i64 (by omega) (by omega), need_inb (by omega) (by omega), need_i64 (by omega) (by omega), need_t (by simp; omega), need_inb (by omega) (by omega), need_d (by omega), need_inb (by omega) (by omega)]
        simp only [hy, hset]
        refine ⟨_, by rw [need_d (by rw [List.length_set]; omega), need_i64 (by omega) (by omega), need_i64 (by omega) (by omega)], p.set k y, ?_, by simp [h1], fun i hi => ?_, fun i hi => ?_, by omega⟩
        · rw [hsum]; simp; omega
        · by_cases e : k = i
          · subst e; rw [hset]; omega
          · rw [set_getD_ne e]; exact h2 i hi
        · rw [set_getD_ne (by omega)]; exact h3 i (by omega)
      · rw [if_neg (by omega)]
        exact ⟨_, by rw [need_i64 (by omega) (by omega)], p, by simp, h1, h2, fun i hi => h3 i (by omega), h4⟩)
    (fun x hx => by
      obtain ⟨p, rfl, h1, h2, h3, h4⟩ := hx
      exact ⟨_, by simp only [g9_0]; rw [br_d, if_neg (by omega)], p, ⟨h1, h2, h4⟩, rfl⟩)
    ⟨List.replicate l.length 0, by
      have : (List.replicate l.length (0 : Int)).sum = 0 := by
        have : ∀ n, (List.replicate n (0 : Int)).sum = 0 := fun n => by induction n with
          | zero => rfl
          | succ n ih => rw [List.replicate_succ, List.sum_cons, ih]; rfl
        exact this _
      rw [this]; simp, by simp, fun i hi => by simp [List.getD_eq_getElem?_getD, hi], fun i hi => by rw [List.getD_eq_getElem?_getD, List.getElem?_replicate]; split <;> rfl, by
      have : ∀ n, (List.replicate n (0 : Int)).sum = 0 := fun n => by induction n with
        | zero => rfl
        | succ n ih => rw [List.replicate_succ, List.sum_cons, ih]; rfl
      rw [this]; omega⟩
  exact ⟨p, hp, by rw [e, hb']⟩
/-- The plan with one gang moved. -/
def moved (p : List Int) (a b : Int) : List Int := (if 0 ≤ a then p.set a.toNat (p.getD a.toNat 0 - 1) else p).set b.toNat (p.getD b.toNat 0 + 1)
theorem moved_ok {l : List (List Int)} (h : Val l) {g : Nat} {p : List Int} (hp : PlanIn g l p) {a b : Int} (hv : vEx l p (p.sum = g) a b) (ha : -1 ≤ a ∧ a < l.length) (hb : 0 ≤ b ∧ b < l.length) :
    PlanIn g l (moved p a b) ∧ sugP l (moved p a b) = sugP l p + gEx l p a b ∧
    (∀ c, (∀ i, i < l.length → 0 < p.getD i 0 → lastG l p a ≤ lastG l p i) → 0 < gEx l p a b → c = lastG l p a → above l c (moved p a b) + 1 = above l c p ∧ ∀ i, i < l.length → 0 < (moved p a b).getD i 0 → c ≤ lastG l (moved p a b) i) := by
  have hlen := hp.len
  obtain ⟨hne, hA, hB⟩ := hv
  obtain ⟨B, rfl⟩ : ∃ n : Nat, b = n := ⟨b.toNat, by omega⟩
  have rB := hp.rng B (by omega)
  have hcap : p.getD B 0 < ((l.getD B []).length : Nat) := by
    by_cases c : p.getD B 0 = ((l.getD B []).length : Nat)
    · exact absurd ⟨by omega, by rw [Int.toNat_natCast]; exact c⟩ hB
    · omega
  have hnb : nextG l p (B : Int) = (l.getD B []).getD (p.getD B 0).toNat 0 := by unfold nextG; rw [if_pos (by omega), Int.toNat_natCast]
  have sB : sumN (l.getD B []) (p.getD B 0 + 1).toNat = sumN (l.getD B []) (p.getD B 0).toNat + nextG l p B := by
    rw [show (p.getD B 0 + 1).toNat = (p.getD B 0).toNat + 1 by omega, sumN_succ (by omega), hnb]
  have dB : ∀ c, ((((l.getD B []).drop (p.getD B 0).toNat).countP (fun x => decide (c < x)) : Nat) : Int) = (if c < nextG l p B then 1 else 0) + ((((l.getD B []).drop (p.getD B 0 + 1).toNat).countP (fun x => decide (c < x)) : Nat) : Int) := fun c => by
    rw [drop_count (by omega), ← hnb, show (p.getD B 0 + 1).toNat = (p.getD B 0).toNat + 1 by omega]
    by_cases hc : c < nextG l p B <;> simp [hc]
  unfold moved gEx
  rw [Int.toNat_natCast]
  by_cases c0 : 0 ≤ a
  · obtain ⟨A, rfl⟩ : ∃ n : Nat, a = n := ⟨a.toNat, by omega⟩
    rw [if_pos c0, Int.toNat_natCast]
    have hAB : A ≠ B := fun e => hne (by omega)
    have rA := hp.rng A (by omega)
    have hpos : 0 < p.getD A 0 := by
      by_cases c : p.getD A 0 = 0
      · exact absurd (.inr ⟨by omega, by rw [Int.toNat_natCast]; exact c⟩) hA
      · omega
    have hla : lastG l p (A : Int) = (l.getD A []).getD (p.getD A 0 - 1).toNat 0 := by unfold lastG; rw [if_pos (by omega), Int.toNat_natCast]
    have sA : sumN (l.getD A []) (p.getD A 0).toNat = sumN (l.getD A []) (p.getD A 0 - 1).toNat + lastG l p A := by
      rw [show (p.getD A 0).toNat = (p.getD A 0 - 1).toNat + 1 by omega, sumN_succ (by omega), hla]
    have dA : ∀ c, ((((l.getD A []).drop (p.getD A 0 - 1).toNat).countP (fun x => decide (c < x)) : Nat) : Int) = (if c < lastG l p A then 1 else 0) + ((((l.getD A []).drop (p.getD A 0).toNat).countP (fun x => decide (c < x)) : Nat) : Int) := fun c => by
      rw [drop_count (by omega), ← hla, show (p.getD A 0).toNat = (p.getD A 0 - 1).toNat + 1 by omega]
      by_cases hc : c < lastG l p A <;> simp [hc]
    have gB : (p.set A (p.getD A 0 - 1)).getD B 0 = p.getD B 0 := set_getD_ne hAB
    have gm : ∀ i, ((p.set A (p.getD A 0 - 1)).set B (p.getD B 0 + 1)).getD i 0 = if i = B then p.getD B 0 + 1 else if i = A then p.getD A 0 - 1 else p.getD i 0 := fun i => by
      by_cases e : i = B
      · subst e; rw [if_pos rfl, set_getD (by simp; omega)]
      · rw [if_neg e, set_getD_ne (by omega)]
        by_cases e2 : i = A
        · subst e2; rw [if_pos rfl, set_getD (by omega)]
        · rw [if_neg e2, set_getD_ne (by omega)]
    refine ⟨⟨by simp [hlen], fun i hi => ?_, ?_⟩, ?_, fun c hmin hg hc => ⟨?_, fun i hi hpi => ?_⟩⟩
    · have := hp.rng i hi
      rw [gm]
      by_cases e : i = B
      · subst e; rw [if_pos rfl]; omega
      · rw [if_neg e]
        by_cases e2 : i = A
        · subst e2; rw [if_pos rfl]; omega
        · rw [if_neg e2]; exact this
    · rw [sum_set (by simp; omega), gB, sum_set (by omega)]; have := hp.sum; omega
    · rw [sugP_set (by simp; omega), gB, sugP_set (by omega), sB, sA]; omega
    · rw [above_set (by simp; omega), gB, above_set (by omega), dA, dB, if_neg (by omega), if_pos (by omega)]; omega
    · have hri := hp.rng i hi
      have hd := fun {x y : Nat} (hxy : x ≤ y) => desc_getD (h.desc _ (getD_mem (d := []) hi)) (fun x hx => (h.sm _ (getD_mem (d := []) hi) x hx).1) hxy
      rw [gm] at hpi
      unfold lastG
      rw [if_pos (by omega), Int.toNat_natCast, gm]
      by_cases e : i = B
      · subst e
        rw [if_pos rfl, show (p.getD i 0 + 1 - 1).toNat = (p.getD i 0).toNat by omega, ← hnb]; omega
      · rw [if_neg e] at hpi ⊢
        by_cases e2 : i = A
        · subst e2
          rw [if_pos rfl] at hpi ⊢
          have := hd (show (p.getD i 0 - 1 - 1).toNat ≤ (p.getD i 0 - 1).toNat by omega)
          omega
        · rw [if_neg e2] at hpi ⊢
          have := hmin i hi hpi
          have e3 : lastG l p (i : Int) = (l.getD i []).getD (p.getD i 0 - 1).toNat 0 := by unfold lastG; rw [if_pos (by omega), Int.toNat_natCast]
          omega
  · rw [if_neg c0]
    have hlt : p.sum < g := by
      have := hp.sum
      by_cases c : p.sum = g
      · exact absurd (.inl ⟨by omega, c⟩) hA
      · omega
    have hla : lastG l p a = 0 := by unfold lastG; rw [if_neg c0]
    have gm : ∀ i, (p.set B (p.getD B 0 + 1)).getD i 0 = if i = B then p.getD B 0 + 1 else p.getD i 0 := fun i => by
      by_cases e : i = B
      · subst e; rw [if_pos rfl, set_getD (by omega)]
      · rw [if_neg e, set_getD_ne (by omega)]
    refine ⟨⟨by simp [hlen], fun i hi => ?_, ?_⟩, ?_, fun c hmin hg hc => ⟨?_, fun i hi hpi => ?_⟩⟩
    · have := hp.rng i hi
      rw [gm]
      by_cases e : i = B
      · subst e; rw [if_pos rfl]; omega
      · rw [if_neg e]; exact this
    · rw [sum_set (by omega)]; omega
    · rw [sugP_set (by omega), sB, hla]; omega
    · rw [above_set (by omega), dB, if_pos (by omega)]; omega
    · have := cell_bound h i ((p.set B (p.getD B 0 + 1)).getD i 0 - 1).toNat
      unfold lastG
      rw [if_pos (by omega), Int.toNat_natCast]
      omega
/-- What one exchange comes to. -/
theorem exR_plan {l : List (List Int)} (h : Val l) {g : Nat} (hg : g ≤ 200) {p : List Int} (hp : PlanIn g l p) :
    (sugP l p = Tops.tops (mrgAll l) g ∧ exR l g p = (0, 0, 0, 5)) ∨
    ∃ a b m, exR l g p = (a, b, m, 0) ∧ 0 < m ∧ m = gEx l p a b ∧ vEx l p (p.sum = g) a b ∧ (-1 ≤ a ∧ a < l.length) ∧ (0 ≤ b ∧ b < l.length) ∧ (p.sum ≠ g → lastG l p a ≤ 0) ∧ ∀ i, i < l.length → 0 < p.getD i 0 → lastG l p a ≤ lastG l p i := by
  have hs := sug_of_plan h hp
  obtain ⟨c1, c2⟩ := exA_char (l := l) (p := p) (full := p.sum = g) (k := l.length + 1) (Nat.le_refl _)
  have hnn := exA_nonneg l p (p.sum = g) (l.length + 1)
  unfold exR
  rw [if_neg (by simp [val_chkG h (g := (g : Int)) (by omega) (by omega)]), hs]
  dsimp only
  rw [if_neg (by simp), if_neg (by have := hp.sum; omega)]
  generalize exA l p (p.sum = g) (l.length + 1) = s at *
  by_cases c : s.2.2 = 0
  · left
    rw [if_pos c]
    refine ⟨local_best h hp hg fun a b h1 h2 h3 h4 hv => ?_, rfl⟩
    have := c2 a b h1 (by omega) h3 h4 hv
    omega
  · right
    rw [if_neg c]
    obtain ⟨f1, f2, f3, f4⟩ := c1 (by omega)
    refine ⟨s.1, s.2.1, s.2.2, rfl, by omega, f4, f1, f2, f3, fun hne => ?_, fun i hi hpi => ?_⟩
    · have := c2 (-1) s.2.1 (by omega) (by omega) f3.1 f3.2 ⟨by omega, by
        rintro (hh | hh)
        · exact hne hh.2
        · omega, f1.2.2⟩
      unfold gEx at f4 this
      have e : lastG l p (-1) = 0 := by unfold lastG; rw [if_neg (by omega)]
      omega
    by_cases e : (i : Int) = s.2.1
    · -- the field that gets a gang: its last gain is no less than its next one
      have hri := hp.rng i hi
      have hd := desc_getD (h.desc _ (getD_mem (d := []) hi)) (fun x hx => (h.sm _ (getD_mem (d := []) hi) x hx).1) (show (p.getD i 0 - 1).toNat ≤ (p.getD i 0).toNat by omega)
      unfold gEx nextG at f4
      rw [if_pos (by omega), ← e, Int.toNat_natCast] at f4
      have : lastG l p (i : Int) = (l.getD i []).getD (p.getD i 0 - 1).toNat 0 := by unfold lastG; rw [if_pos (by omega), Int.toNat_natCast]
      omega
    · have := c2 i s.2.1 (by omega) (by omega) f3.1 f3.2 ⟨e, by
        rintro (hh | hh)
        · omega
        · rw [Int.toNat_natCast] at hh; omega, f1.2.2⟩
      unfold gEx at f4 this
      omega
theorem F9_rounds {l : List (List Int)} (h : Val l) {g : Nat} (hg : g ≤ 200) : ∀ {n r : Nat} {p : List Int} {c : Int}, PlanIn g l p → (∀ i, i < l.length → 0 < p.getD i 0 → c ≤ lastG l p i) → (p.sum ≠ g → c ≤ 0) → above l c p ≤ n → n + r < 100 →
    iter (fun x => g9_1 x.1 x.2.1 x.2.2.1 x.2.2.2.1 x.2.2.2.2.1 x.2.2.2.2.2.1 x.2.2.2.2.2.2.1) (l, (g : Int), l.length, Tops.tops (mrgAll l) g, sugP l p, (r : Int), p, ()) = some (.inl (true, ())) := by
  have hl := h.len
  intro n
  induction n with
  | zero =>
    intro r p c hp hc hc2 ha hr
    have hlen := hp.len
    rcases exR_plan h hg hp with ⟨h1, h2⟩ | ⟨a, b, m, h1, h2, h3, h4, h5, h6, h8, h7⟩
    · apply iter_inr
      simp only [g9_1]
      rw [br_d, if_pos (by omega), List.drop_zero, List.take_of_length_le (by omega), F33_eq, bindO_s, h2]
      dsimp only
      rw [br_t (by decide), br_eq, if_pos h1, F16_eq, bindO_s]
    · exfalso
      have hcl : c ≤ lastG l p a := by
        by_cases c0 : 0 ≤ a
        · obtain ⟨A, rfl⟩ : ∃ n : Nat, a = n := ⟨a.toNat, by omega⟩
          have rA := hp.rng A (by omega)
          refine hc A (by omega) ?_
          by_cases e : p.getD A 0 = 0
          · exact absurd (.inr ⟨by omega, by rw [Int.toNat_natCast]; exact e⟩) h4.2.1
          · omega
        · have : lastG l p a = 0 := by unfold lastG; rw [if_neg c0]
          rw [this]
          exact hc2 fun e => h4.2.1 (.inl ⟨by omega, e⟩)
      have hmv := (moved_ok h hp h4 h5 h6).2.2 (lastG l p a) h7 (by omega) rfl
      have hmono := above_mono (l := l) hcl p
      have : 0 ≤ above l (lastG l p a) (moved p a b) := sumR_nonneg fun i _ => by omega
      omega
  | succ n ih =>
    intro r p c hp hc hc2 ha hr
    have hlen := hp.len
    rcases exR_plan h hg hp with ⟨h1, h2⟩ | ⟨a, b, m, h1, h2, h3, h4, h5, h6, h8, h7⟩
    · apply iter_inr
      simp only [g9_1]
      rw [br_d, if_pos (by omega), List.drop_zero, List.take_of_length_le (by omega), F33_eq, bindO_s, h2]
      dsimp only
      rw [br_t (by decide), br_eq, if_pos h1, F16_eq, bindO_s]
    · have hcl : c ≤ lastG l p a := by
        by_cases c0 : 0 ≤ a
        · obtain ⟨A, rfl⟩ : ∃ n : Nat, a = n := ⟨a.toNat, by omega⟩
          have rA := hp.rng A (by omega)
          refine hc A (by omega) ?_
          by_cases e : p.getD A 0 = 0
          · exact absurd (.inr ⟨by omega, by rw [Int.toNat_natCast]; exact e⟩) h4.2.1
          · omega
        · have : lastG l p a = 0 := by unfold lastG; rw [if_neg c0]
          rw [this]
          exact hc2 fun e => h4.2.1 (.inl ⟨by omega, e⟩)
      obtain ⟨m1, m2, m3⟩ := moved_ok h hp h4 h5 h6
      obtain ⟨m4, m5⟩ := m3 (lastG l p a) h7 (by omega) rfl
      have hmono := above_mono (l := l) hcl p
      have hmost := sug_most h m1
      have hT := tops_bound h g
      have hs0 : 0 ≤ sugP l p := sumR_nonneg fun i _ => (h.sumN i _).1
      have hnew := ih (r := r + 1) (p := moved p a b) (c := lastG l p a) m1 m5 (fun hne => by
        by_cases c0 : 0 ≤ a
        · refine h8 fun e => hne ?_
          obtain ⟨A, rfl⟩ : ∃ n : Nat, a = n := ⟨a.toNat, by omega⟩
          obtain ⟨B, rfl⟩ : ∃ n : Nat, b = n := ⟨b.toNat, by omega⟩
          have hAB : A ≠ B := fun e => h4.1 (by omega)
          unfold moved
          rw [if_pos (by omega), Int.toNat_natCast, Int.toNat_natCast, sum_set (by simp; omega), set_getD_ne hAB, sum_set (by omega)]; omega
        · have : lastG l p a = 0 := by unfold lastG; rw [if_neg c0]
          omega) (by omega) (by omega)
      have hne : a ≠ b := h4.1
      have hml := m1.len
      have tk : List.take l.length (moved p a b) = moved p a b := List.take_of_length_le (by omega)
      refine iter_inl ?_ hnew
      simp only [g9_1, Nat.zero_add]
      rw [br_d, if_pos (by omega), List.drop_zero, List.take_of_length_le (by omega), F33_eq, bindO_s, h1]
      dsimp only
      rw [br_f (by decide), br_not, br_t (by decide), br_d, if_neg (by omega), br_eq, if_neg hne, br_d, if_neg (by omega), br_d, if_neg (by omega), br_d, if_neg (by omega), br_d, if_neg (by omega), br_eq, if_neg (by omega), br_d]
      have fin : (bindO (F18 l (List.take l.length (moved p a b))) fun y6 => brO (!(y6.2.2.1 == (0 : Int))) (some (.inr <| .inl <| (false, ()))) (brO (decide ((g : Int) < y6.1)) (some (.inr <| .inl <| (false, ()))) (need (rng .i64 (sugP l p + m)) (brO (!(y6.2.1 == (sugP l p + m))) (some (.inr <| .inl <| (false, ()))) (bindO (F41 l (List.take l.length (moved p a b))) fun y7 => brO (!(y6.2.1 == y7.1)) (some (.inr <| .inl <| (false, ()))) (need (rng .i64 ((r : Int) + 1)) (some (.inl (l, (g : Int), l.length, Tops.tops (mrgAll l) g, y6.2.1, (r : Int) + 1, moved p a b, ())))))))))
          = (some (.inl (l, (g : Int), l.length, Tops.tops (mrgAll l) g, sugP l (moved p a b), ((r + 1 : Nat) : Int), moved p a b, ())) : Option ((List (List Int) × Int × Nat × Int × Int × Int × List Int × Unit) ⊕ ((Bool × Unit) ⊕ ((Unit))))) := by
        rw [tk, F18_eq, bindO_s, sug_of_plan h m1]
        dsimp only
        rw [br_not, br_t (by decide), br_d, if_neg (by have := m1.sum; omega), need_i64 (by omega) (by omega), br_not, br_eq, if_pos (by omega), F41_eq h m1.len m1.rng, bindO_s]
        dsimp only
        rw [br_not, br_eq, if_pos rfl, need_i64 (by omega) (by omega)]
        rfl
      obtain ⟨B, rfl⟩ : ∃ n : Nat, b = n := ⟨b.toNat, by omega⟩
      have rB := hp.rng B (by omega)
      have bB := (h.getD B).1
      by_cases c0 : 0 ≤ a
      · obtain ⟨A, rfl⟩ : ∃ n : Nat, a = n := ⟨a.toNat, by omega⟩
        have rA := hp.rng A (by omega)
        have bA := (h.getD A).1
        have hAB : A ≠ B := fun e => hne (by omega)
        have gB : (p.set A (p.getD A 0 - 1)).getD B 0 = p.getD B 0 := set_getD_ne hAB
        have em : moved p (A : Int) (B : Int) = (p.set A (p.getD A 0 - 1)).set B (p.getD B 0 + 1) := by
          unfold moved; rw [if_pos c0, Int.toNat_natCast, Int.toNat_natCast]
        rw [if_pos c0, Int.toNat_natCast, Int.toNat_natCast, gB]
        rw [need_inb (by omega) (by omega), need_d (by omega), need_i64 (by omega) (by omega), need_inb (by omega) (by omega), need_d (by omega), br_d, if_pos (by omega), need_inb (by omega) (by omega), need_d (by rw [List.length_set]; omega), need_i64 (by omega) (by omega), need_inb (by omega) (by omega), need_d (by rw [List.length_set]; omega)]
        rw [em] at fin
        rw [List.drop_zero, em]
        exact fin
      · have em : moved p a (B : Int) = p.set B (p.getD B 0 + 1) := by
          unfold moved; rw [if_neg c0, Int.toNat_natCast]
        rw [if_neg c0, br_d, if_pos (by omega), Int.toNat_natCast]
        rw [need_inb (by omega) (by omega), need_d (by omega), need_i64 (by omega) (by omega), need_inb (by omega) (by omega), need_d (by omega)]
        rw [em] at fin
        rw [List.drop_zero, em]
        exact fin
theorem above_le {l : List (List Int)} (hf : ∀ f ∈ l, f.length ≤ 4) {q : List Int} (hq : q.length = l.length) (c : Int) : above l c q ≤ (l.length : Int) * 4 := by
  unfold above
  rw [hq]
  refine (sumR_bound (c := 4) fun i hi => ?_).2
  have h1 := hf _ (getD_mem (d := []) hi)
  have h2 := List.countP_le_length (p := fun x => decide (c < x)) (l := (l.getD i []).drop (q.getD i 0).toNat)
  rw [List.length_drop] at h2
  omega
theorem law9 (v : List (List Int)) (gangs : Int) (plan : List Int) (hW : WfAll [.list (.list (.int .u8)), .int .u8, .list (.int .u8)] (v, gangs, plan, ())) : F9 v gangs plan = some (true, ()) := by
  have hB := bytes_of hW.1
  have e1 : IntKind.u8.min = 0 := by decide
  have e2 : IntKind.u8.max = 255 := by decide
  have hg : 0 ≤ gangs ∧ gangs ≤ 255 := by have := hW.2.1; simp only [Wf] at this; rwa [e1, e2] at this
  have hb : ∀ x ∈ plan, 0 ≤ x ∧ x ≤ 255 := fun x hx => by have := hW.2.2.1.2 x hx; simp only [Wf] at this; rwa [e1, e2] at this
  obtain ⟨hv, hl4, hf4⟩ := valley_val hB
  obtain ⟨G, rfl⟩ : ∃ n : Nat, gangs = n := ⟨gangs.toNat, by omega⟩
  have eg : Int.tmod (G : Int) 18 = ((G % 18 : Nat) : Int) := rfl
  unfold F9
  rw [F39_eq hB, bindO_s]
  dsimp only
  rw [need_i64 (by omega) (by omega), need_t (by decide), eg]
  generalize hgg : G % 18 = g
  have hg18 : g < 18 := by omega
  generalize valley v = l at *
  obtain ⟨p, hp, e⟩ := F9_first hl4 (fun f hf => (hf4 f hf).1) (g := g) (by omega) hb
  rw [need_inbL (by omega) (by omega), Int.toNat_natCast, bind_of e]
  dsimp only
  rw [F22_good hv (by omega), bindO_s]
  dsimp only
  have hlen := hp.len
  rw [br_not, br_t (by decide), List.drop_zero, List.take_of_length_le (by omega), F41_eq hv hp.len hp.rng, bindO_s]
  dsimp only
  have hab := above_le (fun f hf => (hf4 f hf).1) hp.len (-1)
  have key := F9_rounds hv (g := g) (by omega) (n := 16) (r := 0) (p := p) (c := -1) hp (fun i hi _ => by
    unfold lastG
    rw [if_pos (by omega)]
    have := cell_bound hv (i : Int).toNat (p.getD (i : Int).toNat 0 - 1).toNat
    omega) (fun _ => by omega) (by omega) (by omega)
  rw [steps_first _ hv.desc]
  simp only [Int.natCast_zero] at key
  rw [bind_of key]
end Go.Proofs.Try
end
