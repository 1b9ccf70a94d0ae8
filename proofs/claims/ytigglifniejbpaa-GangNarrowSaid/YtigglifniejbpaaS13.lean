/- What the plain functions of gang and its reference come to. Check of fields: the program and its reference find the same first error. Sums and the sugar of plans: the program and its reference count the same. The steps of fields in order, and best plans. The reference's best plans: field by field, for each number of gangs. What the laws share: given, large, works; the plan of a best one. Guesses: their check, and the fields that are made of them. Fields that are made of guesses: the lowest, the highest, and those that are worst and best for a field. A sort whose closure has captured cells does what the generic one does. Shares: how many gangs a field has in best plans, the fewest and the most. Shares: the program and its reference find the same. Exchanges: the program and its reference find the same one. Valleys by numbers are valid fields; all plans, and their sugar. All plans of small fields, and the sugar of each. The exchange that gains most; plans that are changed by one gang. GangLocal, as a plain law. What all best plans give a field: the fewest and the most; and how that changes with the fields. Guesses by numbers are valid; fields that agree with guesses. GangTrue, as a plain law. GangTrue, as a plain law. GangNarrow, as a plain law. -/
import Derived.Test.YtigglifniejbpaaX13
set_option linter.unusedVariables false
set_option linter.unusedSimpArgs false
section
open Go.AM
namespace Go.Proofs.Try
set_option linter.unusedVariables false
set_option linter.unusedSimpArgs false
theorem F48_eq (a b c : Int) : F48 a b c = some (decide (a ≤ b) && decide (b ≤ c), ()) := by
 unfold F48; rw [br_d]; by_cases h : a ≤ b <;> simp [h]
/-- The sum of the first numbers. -/
def sumN (l : List Int) (k : Nat) : Int := (l.take k).sum
theorem sumN_succ {l : List Int} {k : Nat} (h : k < l.length) : sumN l (k + 1) = sumN l k + l.getD k 0 := by
 unfold sumN
 rw [List.take_succ_eq_append_getElem h, List.sum_append]
 simp [List.getD, h]
theorem sumN_bound {l : List Int} {c : Int} (hc : 0 ≤ c) (hb : ∀ x ∈ l, 0 ≤ x ∧ x ≤ c) (k : Nat) : 0 ≤ sumN l k ∧ sumN l k ≤ k * c := by
 induction k with
 | zero => simp [sumN]
 | succ k ih =>
  by_cases h : k < l.length
  ·rw [sumN_succ h]
   have : l.getD k 0 ∈ l := by simp [List.getD, h]
   have := hb _ this
   rw [Int.natCast_add, Int.add_mul]
   omega
  ·have : sumN l (k + 1) = sumN l k := by unfold sumN; rw [List.take_of_length_le (by omega), List.take_of_length_le (by omega)]
   rw [this, Int.natCast_add, Int.add_mul]
   omega
end Go.Proofs.Try
end
section
open Go.AM
namespace Go.Proofs.Try
set_option linter.unusedVariables false
set_option linter.unusedSimpArgs false
/-- The error of the k-th gain of a table. -/
def stopT (t : List Int) (k : Nat) : Option Int :=
 if ¬(0 ≤ t.getD k 0 ∧ t.getD k 0 ≤ 1000000) then some 2 else if 0 < k ∧ t.getD (k - 1) 0 < t.getD k 0 then some 7 else none
def errT (t : List Int) : Option Int := (List.range t.length).findSome? (stopT t)
def stopL (l : List (List Int)) (i : Nat) : Option Int := if 10 < (l.getD i []).length then some 1 else errT (l.getD i [])
def errL (l : List (List Int)) : Option Int := (List.range l.length).findSome? (stopL l)
def chk (l : List (List Int)) : Int := if 12 < l.length then 1 else (errL l).getD 0
end Go.Proofs.Try
end
section
open Go.AM Go.Gm
namespace Go.Proofs.Try
set_option linter.unusedVariables false
set_option linter.unusedSimpArgs false
/-- Small numbers. -/
def Small (l : List Int) (c : Int) : Prop := ∀ x ∈ l, 0 ≤ x ∧ x ≤ c
/-- What is so of valid fields. -/
structure Val (l : List (List Int)) : Prop where
 len : l.length ≤ 12
 tab : ∀ f ∈ l, f.length ≤ 10
 sm : ∀ f ∈ l, Small f 1000000
 desc : ∀ f ∈ l, Tops.Desc f
theorem findSome_none {n : Nat} {f : Nat → Option Int} : (List.range n).findSome? f = none ↔ ∀ k, k < n → f k = none := by
 rw [List.findSome?_eq_none_iff]; simp
theorem errT_none {t : List Int} : errT t = none ↔ Small t 1000000 ∧ Tops.Desc t := by
 unfold errT
 rw [findSome_none]
 constructor
 ·intro h
  have h1 : ∀ k, k < t.length → 0 ≤ t.getD k 0 ∧ t.getD k 0 ≤ 1000000 := fun k hk => by
   have := h k hk
   unfold stopT at this
   by_cases hh : 0 ≤ t.getD k 0 ∧ t.getD k 0 ≤ 1000000
   ·exact hh
   ·rw [if_pos hh] at this; cases this
  have h2 : ∀ k, k + 1 < t.length → t.getD (k + 1) 0 ≤ t.getD k 0 := fun k hk => by
   have := h (k + 1) hk
   unfold stopT at this
   rw [if_neg (by have := h1 (k + 1) hk; omega)] at this
   by_cases hh : 0 < k + 1 ∧ t.getD (k + 1 - 1) 0 < t.getD (k + 1) 0
   ·rw [if_pos hh] at this; cases this
   ·simp only [Nat.add_sub_cancel] at hh; omega
  have h3 : ∀ d k, k + d < t.length → t.getD (k + d) 0 ≤ t.getD k 0 := by
   intro d
   induction d with
   | zero => intro k hk; exact Int.le_refl _
   | succ d ih => intro k hk; have := ih k (by omega); have := h2 (k + d) (by omega); rw [← Nat.add_assoc]; omega
  constructor
  ·intro x hx
   obtain ⟨k, hk, rfl⟩ := List.mem_iff_getElem.1 hx
   have := h1 k hk
   rwa [getD_el 0 hk] at this
  ·unfold Tops.Desc
   rw [List.pairwise_iff_getElem]
   intro i j hi hj hij
   have := h3 (j - i) i (by omega)
   rw [show i + (j - i) = j by omega, getD_el 0 hi, getD_el 0 hj] at this
   exact this
 ·intro ⟨h1, h2⟩ k hk
  unfold stopT
  have a := h1 _ (getD_mem (d := 0) hk)
  rw [if_neg (by omega)]
  by_cases h0 : 0 < k
  ·have := (List.pairwise_iff_getElem.1 h2) (k - 1) k (by omega) hk (by omega)
   rw [getD_el 0 hk, getD_el 0 (show k - 1 < t.length by omega), if_neg (by omega)]
  ·rw [if_neg (by omega)]
theorem errT_ne {t : List Int} {e : Int} (h : errT t = some e) : e ≠ 0 := by
 unfold errT at h
 obtain ⟨k, _, hk⟩ := List.exists_of_findSome?_eq_some h
 unfold stopT at hk
 split at hk
 ·cases hk; decide
 ·split at hk
  ·cases hk; decide
  ·cases hk
theorem chk_val {l : List (List Int)} : chk l = 0 ↔ Val l := by
 unfold chk errL
 constructor
 ·intro h
  by_cases h0 : 12 < l.length
  ·rw [if_pos h0] at h; cases h
  rw [if_neg h0] at h
  cases he : (List.range l.length).findSome? (stopL l) with
  | some e =>
   rw [he] at h
   simp only [Option.getD] at h
   subst h
   obtain ⟨k, _, hk⟩ := List.exists_of_findSome?_eq_some he
   unfold stopL at hk
   split at hk
   ·cases hk
   ·exact absurd rfl (errT_ne hk)
  | none =>
   have hs := findSome_none.1 he
   have key : ∀ f ∈ l, f.length ≤ 10 ∧ Small f 1000000 ∧ Tops.Desc f := fun f hf => by
    obtain ⟨k, hk, rfl⟩ := List.mem_iff_getElem.1 hf
    have := hs k hk
    unfold stopL at this
    rw [getD_el [] hk] at this
    split at this
    ·cases this
    ·exact ⟨by omega, errT_none.1 this⟩
   exact ⟨by omega, fun f hf => (key f hf).1, fun f hf => (key f hf).2.1, fun f hf => (key f hf).2.2⟩
 ·intro h
  rw [if_neg (by have := h.len; omega)]
  have : (List.range l.length).findSome? (stopL l) = none := findSome_none.2 fun k hk => by
   unfold stopL
   have hm := getD_mem (d := []) hk
   rw [if_neg (by have := h.tab _ hm; omega), errT_none.2 ⟨h.sm _ hm, h.desc _ hm⟩]
  rw [this]; rfl
theorem Val.getD {l : List (List Int)} (h : Val l) (k : Nat) : (l.getD k []).length ≤ 10 ∧ Small (l.getD k []) 1000000 := by
 by_cases hk : k < l.length
 ·exact ⟨h.tab _ (getD_mem hk), h.sm _ (getD_mem hk)⟩
 ·rw [getD_out [] (by omega)]; exact ⟨by simp, fun x hx => by cases hx⟩
theorem sumN_le {l : List Int} {c : Int} (hc : 0 ≤ c) (hb : Small l c) (k : Nat) : 0 ≤ sumN l k ∧ sumN l k ≤ l.length * c := by
 by_cases h : k ≤ l.length
 ·have := sumN_bound hc hb k
  have h2 : (k : Int) * c ≤ l.length * c := Int.mul_le_mul_of_nonneg_right (by omega) hc
  omega
 ·have e : sumN l k = sumN l l.length := by unfold sumN; rw [List.take_of_length_le (by omega), List.take_of_length_le (Nat.le_refl _)]
  rw [e]; exact sumN_bound hc hb l.length
theorem Val.sumN {l : List (List Int)} (h : Val l) (k j : Nat) : 0 ≤ sumN (l.getD k []) j ∧ sumN (l.getD k []) j ≤ 10000000 := by
 have := sumN_le (by omega) (h.getD k).2 j
 have := (h.getD k).1
 omega
/-- The sugar of a plan, and how many gangs it has. -/
def stopP (l : List (List Int)) (p : List Int) (k : Nat) : Option Int := if 0 ≤ p.getD k 0 ∧ p.getD k 0 ≤ ((l.getD k []).length : Nat) then none else some 10
def sug (l : List (List Int)) (p : List Int) : Int × Int × Int :=
 if chk l ≠ 0 then (0, 0, chk l) else if p.length ≠ l.length then (0, 0, 3) else
  match (List.range p.length).findSome? (stopP l p) with
  | some e => (0, 0, e)
  | none => (p.sum, sumR p.length (fun i => sumN (l.getD i []) (p.getD i 0).toNat), 0)
theorem stopP_none {l : List (List Int)} {p : List Int} {k : Nat} : stopP l p k = none ↔ 0 ≤ p.getD k 0 ∧ p.getD k 0 ≤ ((l.getD k []).length : Nat) := by
 unfold stopP; split <;> simp_all
end Go.Proofs.Try
end
section
open Go.AM Go.Gm Go.Srt
namespace Go.Proofs.Try
set_option linter.unusedVariables false
set_option linter.unusedSimpArgs false
theorem F76_3 (a b c : Int) : F76 [a, b, c] = some (if a ≠ 0 then a else if b ≠ 0 then b else c, ()) := by
 unfold F76
 have key := iter_find (step := fun x => g76_0 x.1 x.2.1 x.2.2.1 x.2.2.2.1) 3 (fun k => ((0 : Int), ([a, b, c], ((3 : Int), ((k : Int), ()))))) (fun k => if [a, b, c].getD k 0 ≠ 0 then some ([a, b, c].getD k 0) else none) (fun e => .inl (e, ())) (b := .inr (0, ())) (fun k hk _ => by
  simp only [g76_0, Int.toNat_natCast]
  rw [br_d, if_pos (by omega), need_inb (by omega) (by simp; omega), br_not, br_eq]
  by_cases h : [a, b, c].getD k 0 = 0
  ·rw [if_pos h, if_neg (by simpa using h), need_i64 (by omega) (by omega)]; simp
  ·rw [if_neg h, if_pos h]) (fun _ => by simp only [g76_0]; rw [br_d, if_neg (by omega)])
 have q : iter (fun x => g76_0 x.1 x.2.1 x.2.2.1 x.2.2.2.1) ((0 : Int), ([a, b, c], (((([a, b, c]).length : Nat) : Int), ((0 : Int), ())))) = _ := key
 rw [bind_of q]
 have e : List.range 3 = [0, 1, 2] := by decide
 rw [e]
 by_cases ha : a = 0
 ·by_cases hb : b = 0
  ·by_cases hc : c = 0 <;> simp [ha, hb, hc]
  ·simp [ha, hb]
 ·simp [ha]
/-- Steps that are small enough. -/
def GoodS (s : Int × Int) : Prop := (0 ≤ s.1 ∧ s.1 ≤ 1000000) ∧ (0 ≤ s.2 ∧ s.2 ≤ 1000)
theorem ltF_z {fv : Int → Int} {a b : Int × Int} (f1 : -1000 ≤ fv a.2 ∧ fv a.2 ≤ 1000) (f2 : -1000 ≤ fv b.2 ∧ fv b.2 ≤ 1000) :
  ltF fv a b = decide ((if b.1 - a.1 ≠ 0 then b.1 - a.1 else if fv b.2 - fv a.2 ≠ 0 then fv b.2 - fv a.2 else a.2 - b.2) < 0) := by
 unfold ltF
 rw [Bool.eq_iff_iff]
 simp only [Bool.or_eq_true, Bool.and_eq_true, decide_eq_true_eq, beq_iff_eq]
 by_cases h1 : b.1 - a.1 = 0
 ·by_cases h2 : fv b.2 - fv a.2 = 0
  ·rw [if_neg (by omega), if_neg (by omega)]; omega
  ·rw [if_neg (by omega), if_pos (by omega)]; omega
 ·rw [if_pos (by omega)]; omega
theorem F75_ok : CmpOk F75 (ltF fun _ => 0) GoodS := ⟨ltF_ord _, fun a b ha hb => by
 obtain ⟨⟨a1, a2⟩, a3, a4⟩ := ha
 obtain ⟨⟨b1, b2⟩, b3, b4⟩ := hb
 unfold F75 F59
 by_cases h : a = b
 ·subst h
  refine ⟨0, ?_, ?_⟩
  ·rw [br_t (by simp)]
  ·simp [ltF]
 ·have hne : ((a.1 == b.1) && ((a.2 == b.2) && true)) = false := by
   cases hc : ((a.1 == b.1) && ((a.2 == b.2) && true)) with
   | false => rfl
   | true => exact absurd (Prod.ext_iff.2 (by simpa using hc)) h
  refine ⟨_, ?_, ltF_z (by omega) (by omega)⟩
  rw [br_f hne, need_i64 (by omega) (by omega), bindO_s, bindO_s, need_i64 (by omega) (by omega), need_i64 (by omega) (by omega)]
  have := F76_3 (b.1 - a.1) ((0 : Int) - 0) (a.2 - b.2)
  simp only [List.drop_zero]
  rw [show List.take 3 [b.1 - a.1, (0 : Int) - 0, a.2 - b.2] = [b.1 - a.1, (0 : Int) - 0, a.2 - b.2] by rfl, this, bindO_s]⟩
theorem FH74_eq (n : Nat) (l : List (Int × Int)) : FH74_v1 n l = S74 F75 (0, 0) n l := rfl
theorem allFrom_good {l : List (List Int)} (h : Val l) {s : Int × Int} (hs : s ∈ allFrom 0 l) : GoodS s := by
 obtain ⟨j, h1, h2, h3⟩ := allFrom_mem hs
 have hl := h.len
 have := (h.getD j).2 _ h3
 exact ⟨this, by rw [h2]; omega⟩
theorem flat_len {l : List (List Int)} (h : Val l) (k : Nat) : (l.take k).flatten.length ≤ k * 10 := by
 induction k with
 | zero => simp
 | succ k ih =>
  by_cases hk : k < l.length
  ·rw [take_succ_getD [] hk, List.flatten_append, List.length_append]
   have := (h.getD k).1
   simp only [List.flatten_cons, List.flatten_nil, List.append_nil]; omega
  ·rw [List.take_of_length_le (by omega)] at ih ⊢; omega
theorem Val.flat {l : List (List Int)} (h : Val l) : l.flatten.length ≤ 120 := by
 have := flat_len h l.length
 rw [List.take_length] at this
 have := h.len; omega
theorem F58_in {l : List (List Int)} {f : List Int} {base : List (Int × Int)} {i : Nat} (hi : i < 1000) (hf : f.length ≤ 10) (hb : base.length ≤ 1000) :
  iter (fun x => g58_1 x.1 x.2.1 x.2.2.1 x.2.2.2.1 x.2.2.2.2.1 x.2.2.2.2.2.1 x.2.2.2.2.2.2.1 x.2.2.2.2.2.2.2.1 x.2.2.2.2.2.2.2.2.1) (base.length, ((i : Int), (l, (((l.length : Nat) : Int), ((i : Int), (f, (((f.length : Nat) : Int), ((0 : Int), (base, ()))))))))) =
  some ((base ++ f.map (fun g => (g, (i : Int)))).length, (l, (((l.length : Nat) : Int), ((i : Int), (base ++ f.map (fun g => (g, (i : Int))), ()))))) := by
 have key := iter_count (step := fun x => g58_1 x.1 x.2.1 x.2.2.1 x.2.2.2.1 x.2.2.2.2.1 x.2.2.2.2.2.1 x.2.2.2.2.2.2.1 x.2.2.2.2.2.2.2.1 x.2.2.2.2.2.2.2.2.1) f.length
  (fun k => ((base ++ (f.take k).map (fun g => (g, (i : Int)))).length, ((i : Int), (l, (((l.length : Nat) : Int), ((i : Int), (f, (((f.length : Nat) : Int), ((k : Int), (base ++ (f.take k).map (fun g => (g, (i : Int))), ()))))))))) )
  (b := ((base ++ f.map (fun g => (g, (i : Int)))).length, (l, (((l.length : Nat) : Int), ((i : Int), (base ++ f.map (fun g => (g, (i : Int))), ())))))) (fun k hk => by
   simp only [g58_1, Int.toNat_natCast]
   rw [br_d, if_pos (by omega), need_inb (by omega) (by omega), need_big (by simp; omega), need_i64 (by omega) (by omega), take_succ_getD 0 hk]
   simp
   exact ⟨by omega, by rw [List.take_of_length_le (by simp)]; simp⟩) (by
   simp only [g58_1]; rw [br_d, if_neg (by omega), List.take_length])
 simp only [List.take_zero, List.map_nil, List.append_nil, Int.natCast_zero] at key
 exact key
theorem F58_eq {l : List (List Int)} (h : Val l) : F58 l = some (stepsF (fun _ => 0) l, ()) := by
 have hl := h.len
 have hfl := h.flat
 have key := iter_count (step := fun x => g58_0 x.1 x.2.1 x.2.2.1 x.2.2.2.1 x.2.2.2.2.1) l.length
  (fun k => ((allFrom 0 (l.take k)).length, (l, (((l.length : Nat) : Int), ((k : Int), (allFrom 0 (l.take k), ()))))))
  (b := ((allFrom 0 l).length, (allFrom 0 l, ()))) (fun k hk => by
   have e := allFrom_append 0 (l.take k) [l.getD k []]
   rw [← take_succ_getD [] hk] at e
   have hlen : (allFrom 0 (l.take k)).length ≤ 120 := by rw [allFrom_length]; have := flat_len h k; omega
   have e2 : (l.take k).length = k := by simp; omega
   rw [e2, Nat.zero_add] at e
   simp only [allFrom, List.append_nil] at e
   simp only [g58_0, Int.toNat_natCast]
   rw [br_d, if_pos (by omega), need_inb (by omega) (by omega), bind_of (F58_in (l := l) (f := l.getD k []) (by omega) (h.getD k).1 (by omega))]
   dsimp only
   rw [need_i64 (by omega) (by omega), e]
   simp) (by simp only [g58_0]; rw [br_d, if_neg (by omega), List.take_length])
 simp only [List.take_zero, allFrom, List.length_nil, Int.natCast_zero] at key
 unfold F58
 rw [bind_of key]
 dsimp only
 rw [FH74_eq, S74_ok F75_ok (fun z hz => allFrom_good h hz) rfl (by rw [allFrom_length]; omega), bindO_s]
 unfold F77
 rw [bindO_s]
 have : List.take (allFrom 0 l).length (srt (ltF fun _ => 0) (allFrom 0 l)) = srt (ltF fun _ => 0) (allFrom 0 l) := List.take_of_length_le (by rw [srt_length]; omega)
 simp only [List.drop_zero]
 rw [this]
 rfl
/-- How many of some steps each field has. -/
def planOf (n : Nat) (t : List (Int × Int)) : List Int := (List.range n).map fun j => ((cnt j t : Nat) : Int)
theorem planOf_length (n : Nat) (t : List (Int × Int)) : (planOf n t).length = n := by simp [planOf]
theorem planOf_getD {n j : Nat} (t : List (Int × Int)) (h : j < n) : (planOf n t).getD j 0 = ((cnt j t : Nat) : Int) := by
 simp [planOf, List.getD_eq_getElem?_getD, h]
theorem planOf_nil (n : Nat) : planOf n [] = List.replicate n 0 := by
 apply List.ext_getElem
 ·simp [planOf]
 ·intro i h1 h2; simp [planOf, cnt]
theorem planOf_snoc {n j : Nat} (t : List (Int × Int)) {s : Int × Int} (h : j < n) (e : s.2 = (j : Nat)) : planOf n (t ++ [s]) = (planOf n t).set j ((planOf n t).getD j 0 + 1) := by
 rw [planOf_getD t h]
 apply List.ext_getElem
 ·simp [planOf]
 ·intro i h1 h2
  rw [List.getElem_set]
  simp only [planOf, List.getElem_map, List.getElem_range, cnt_snoc, e]
  by_cases hh : j = i
  ·subst hh; simp
  ·rw [if_neg hh, if_neg (by omega)]; simp
theorem steps_good {l : List (List Int)} (h : Val l) (fv : Int → Int) {s : Int × Int} (hs : s ∈ stepsF fv l) : GoodS s := allFrom_good h ((stepsF_perm fv l).mem_iff.1 hs)
theorem steps_len {l : List (List Int)} (h : Val l) (fv : Int → Int) : (stepsF fv l).length ≤ 120 := by rw [stepsF_length]; exact h.flat
theorem gsum_bound {t : List (Int × Int)} (h : ∀ s ∈ t, GoodS s) : 0 ≤ gsum t ∧ gsum t ≤ t.length * 1000000 := by
 have := sumN_bound (l := t.map (·.1)) (c := 1000000) (by omega) (fun x hx => by obtain ⟨s, hs, rfl⟩ := List.mem_map.1 hx; exact (h s hs).1) t.length
 unfold sumN at this
 rwa [List.take_of_length_le (by simp)] at this
theorem cnt_le (j : Nat) (t : List (Int × Int)) : cnt j t ≤ t.length := List.length_filter_le ..
theorem F56_in {n g : Nat} {t : List (Int × Int)} (hg : ∀ s ∈ t, GoodS s) (hj : ∀ s ∈ t, ∃ j, j < n ∧ s.2 = (j : Nat)) (ht : t.length ≤ 1000) (hgg : g ≤ 1000) :
  bindO (g56_0 t (g : Int) n 0 (List.replicate n 0)) (fun z4 => match z4 with
   | .inl z5 => some ((((z5.2.2.1).drop (0 : Nat)).take z5.1), (z5.2.1, ()))
   | .inr z6 => some ((((z6.2.2.1).drop (0 : Nat)).take z6.1), (z6.2.1, ()))) = some (planOf n (t.take g), (gsum (t.take g), ())) := by
 have key := iter_count (step := fun x => g56_0i_0 x.1 x.2.1 x.2.2.1 x.2.2.2.1 x.2.2.2.2.1 x.2.2.2.2.2.1 x.2.2.2.2.2.2.1 x.2.2.2.2.2.2.2.1) (min g t.length)
  (fun k => (t, (((t.length : Nat) : Int), ((k : Int), (t, (((g : Int) - k), (n, (gsum (t.take k), (planOf n (t.take k), ())))))))))
  (b := if g < t.length then .inl (0, (n, (gsum (t.take g), (t, (planOf n (t.take g), ()))))) else .inr ((g : Int) - t.length, (n, (gsum (t.take g), (t, (planOf n (t.take g), ())))))) (fun k hk => by
   have hkt : k < t.length := by omega
   have hm := getD_mem (d := ((0 : Int), (0 : Int))) hkt
   obtain ⟨j, hj1, hj2⟩ := hj _ hm
   have hgs := hg _ hm
   have hb := gsum_bound (t := t.take k) (fun s hs => hg s (List.mem_of_mem_take hs))
   have hc := cnt_le j (t.take k)
   simp only [List.length_take] at hb hc
   simp only [g56_0i_0, Int.toNat_natCast]
   rw [br_d, if_pos (by omega), need_inb (by omega) (by omega), br_eq, if_neg (by omega), need_i64 (by omega) (by omega)]
   simp only [hj2, Int.toNat_natCast, Nat.zero_add]
   rw [need_inb (by omega) (by omega), need_d (by rw [planOf_length]; omega), need_i64 (by rw [planOf_getD _ hj1]; omega) (by rw [planOf_getD _ hj1]; omega), need_inb (by omega) (by omega), need_d (by rw [planOf_length]; omega), need_i64 (by have := hgs.1; omega) (by have := hgs.1; omega), need_i64 (by omega) (by omega)]
   rw [take_succ_getD (0, 0) hkt, gsum_snoc, planOf_snoc _ hj1 hj2]
   rw [show (g : Int) - ((k + 1 : Nat) : Int) = (g : Int) - k - 1 by omega, show ((k + 1 : Nat) : Int) = (k : Int) + 1 by omega]) (by
   simp only [g56_0i_0, Int.toNat_natCast]
   by_cases c : g < t.length
   ·rw [show min g t.length = g by omega, br_d, if_pos (by omega), need_inb (by omega) (by omega), br_eq, if_pos (by omega), if_pos c]
    simp
   ·rw [show min g t.length = t.length by omega, br_d, if_neg (by omega), if_neg c, List.take_length, List.take_of_length_le (by omega)])
 simp only [List.take_zero, Int.natCast_zero, Int.sub_zero, planOf_nil] at key
 have e0 : gsum [] = 0 := rfl
 rw [e0] at key
 unfold g56_0
 rw [bind_of key]
 have hp : List.take n (planOf n (t.take g)) = planOf n (t.take g) := List.take_of_length_le (by rw [planOf_length]; omega)
 by_cases c : g < t.length
 ·rw [if_pos c]; simp only [bindO_s, List.drop_zero, hp]
 ·rw [if_neg c]; simp only [bindO_s, List.drop_zero, hp]
theorem F56_eq {l : List (List Int)} (h : Val l) {g : Nat} (hg : g ≤ 1000) : F56 l g = some (planOf l.length ((stepsF (fun _ => 0) l).take g), (gsum ((stepsF (fun _ => 0) l).take g), ())) := by
 have hl := h.len
 have := steps_len h (fun _ => 0)
 unfold F56
 rw [need_inbL (by omega) (by omega), F58_eq h, bindO_s]
 simp only [Int.toNat_natCast]
 exact F56_in (fun s hs => steps_good h _ hs) (fun s hs => steps_fields _ hs) (by omega) hg
end Go.Proofs.Try
end
section
open Go.AM Go.Gm Go.Srt
namespace Go.Proofs.Try
set_option linter.unusedVariables false
set_option linter.unusedSimpArgs false
/-- The most sugar of the first fields. -/
def dpv (l : List (List Int)) (i j : Nat) : Int := Tops.tops (mrgAll (l.take i)) j
theorem Val.take {l : List (List Int)} (h : Val l) (i : Nat) : Val (l.take i) :=
 ⟨by have := h.len; simp; omega, fun f hf => h.tab f (List.mem_of_mem_take hf), fun f hf => h.sm f (List.mem_of_mem_take hf), fun f hf => h.desc f (List.mem_of_mem_take hf)⟩
theorem set_getD {α : Type} {l : List α} {j : Nat} {x d : α} (h : j < l.length) : (l.set j x).getD j d = x := by
 simp [List.getD_eq_getElem?_getD, h]
def row (l : List (List Int)) (i n : Nat) : List Int := (List.range n).map fun j => dpv l i j
end Go.Proofs.Try
end
section
open Go.AM Go.Gm Go.Srt
namespace Go.Proofs.Try
set_option linter.unusedVariables false
set_option linter.unusedSimpArgs false
theorem F16_eq : F16 = some (true, ()) := Go.AM.Le.done CF16_le (by kernel_rfl)
theorem take_fields {l : List (List Int)} (fv : Int → Int) (g : Nat) : ∀ s ∈ (stepsF fv l).take g, ∃ j, j < l.length ∧ s.2 = (j : Nat) := fun s hs => steps_fields fv (List.mem_of_mem_take hs)
/-- The plan of the first steps is one, and has their sugar. -/
theorem sug_plan {l : List (List Int)} (h : Val l) (fv : Int → Int) (g : Nat) : sug l (planOf l.length ((stepsF fv l).take g)) = (((((stepsF fv l).take g).length : Nat) : Int), Tops.tops (mrgAll l) g, 0) := by
 unfold sug
 rw [if_neg (by simpa using chk_val.2 h), if_neg (by simp [planOf_length])]
 have hs : (List.range (planOf l.length ((stepsF fv l).take g)).length).findSome? (stopP l (planOf l.length ((stepsF fv l).take g))) = none := findSome_none.2 fun k hk => by
  rw [planOf_length] at hk
  rw [stopP_none, planOf_getD _ hk]
  have := field_cnt fv h.desc k g
  omega
 rw [hs]
 simp only
 rw [planOf_length, ← steps_first fv h.desc, ← gsum_parts _ (take_fields fv g), ← cnt_parts _ (take_fields fv g)]
 congr 1
 ·unfold planOf; rw [sum_map_range]
 ·congr 1
  refine sumR_congr fun i hi => ?_
  rw [planOf_getD _ hi, field_sum fv h.desc]
  rfl
end Go.Proofs.Try
end
section
open Go.AM Go.Gm Go.Srt
namespace Go.Proofs.Try
set_option linter.unusedVariables false
set_option linter.unusedSimpArgs false
abbrev Gs := List (List (Int × Int))
/-- The error of the k-th span of a guess. -/
def stopTg (t : List (Int × Int)) (k : Nat) : Option Int :=
 if ¬(0 ≤ (t.getD k (0, 0)).1 ∧ (t.getD k (0, 0)).1 ≤ (t.getD k (0, 0)).2 ∧ (t.getD k (0, 0)).2 ≤ 1000000) then some 2 else
 if 0 < k ∧ ¬((t.getD k (0, 0)).1 ≤ (t.getD (k - 1) (0, 0)).1 ∧ (t.getD k (0, 0)).2 ≤ (t.getD (k - 1) (0, 0)).2) then some 7 else none
def errTg (t : List (Int × Int)) : Option Int := (List.range t.length).findSome? (stopTg t)
def stopLg (l : Gs) (i : Nat) : Option Int := if 10 < (l.getD i []).length then some 1 else errTg (l.getD i [])
def errLg (l : Gs) : Option Int := (List.range l.length).findSome? (stopLg l)
def chkGs (l : Gs) : Int := if 12 < l.length then 1 else (errLg l).getD 0
theorem F61_eq (s : Int × Int) : F61 s = some (decide (0 ≤ s.1 ∧ s.1 ≤ s.2 ∧ s.2 ≤ 1000000), ()) := by
 unfold F61
 rw [br_d, br_d]
 by_cases h1 : 0 ≤ s.1
 ·by_cases h2 : s.1 ≤ s.2
  ·rw [if_pos h1, if_pos h2]; simp [h1, h2]
  ·rw [if_pos h1, if_neg h2]; simp [h2]
 ·rw [if_neg h1]; simp [h1]
theorem F63_eq (s t : Int × Int) : F63 s t = some (decide (s.1 ≤ t.1 ∧ s.2 ≤ t.2), ()) := by
 unfold F63
 rw [br_d]
 by_cases h1 : s.1 ≤ t.1
 ·rw [if_pos h1]; simp [h1]
 ·rw [if_neg h1]; simp [h1]
theorem F62_in {l : Gs} {t : List (Int × Int)} {i : Nat} (ht : t.length ≤ 10) : iter (fun x => g62_1 x.1 x.2.1 x.2.2.1 x.2.2.2.1 x.2.2.2.2.1 x.2.2.2.2.2.1 x.2.2.2.2.2.2.1) (t, l, ((l.length : Nat) : Int), (i : Int), t, ((t.length : Nat) : Int), (0 : Int), ()) =
  some ((errTg t).elim (.inr (l, ((l.length : Nat) : Int), (i : Int), ())) (fun e => .inl (e, ()))) := by
 have key := iter_find (step := fun x => g62_1 x.1 x.2.1 x.2.2.1 x.2.2.2.1 x.2.2.2.2.1 x.2.2.2.2.2.1 x.2.2.2.2.2.2.1) t.length (fun k => (t, l, ((l.length : Nat) : Int), (i : Int), t, ((t.length : Nat) : Int), (k : Int), ())) (stopTg t) (fun e => .inl (e, ())) (b := .inr (l, ((l.length : Nat) : Int), (i : Int), ())) (fun k hk _ => by
  simp only [g62_1, Int.toNat_natCast]
  rw [br_d, if_pos (by omega), need_inb (by omega) (by omega), F61_eq, bindO_s, br_not, br_d]
  unfold stopTg
  by_cases h1 : 0 ≤ (t.getD k (0, 0)).1 ∧ (t.getD k (0, 0)).1 ≤ (t.getD k (0, 0)).2 ∧ (t.getD k (0, 0)).2 ≤ 1000000
  ·rw [if_pos h1, if_neg (by simpa using h1), br_d]
   by_cases h2 : 0 < k
   ·have e : ((k : Int) - 1).toNat = k - 1 := by omega
    rw [if_pos (by omega), need_i64 (by omega) (by omega), need_inb (by omega) (by omega), F63_eq, bindO_s, br_not, br_d, e]
    by_cases h3 : (t.getD k (0, 0)).1 ≤ (t.getD (k - 1) (0, 0)).1 ∧ (t.getD k (0, 0)).2 ≤ (t.getD (k - 1) (0, 0)).2
    ·rw [if_pos h3, if_neg (fun h => h.2 h3), need_i64 (by omega) (by omega)]; simp
    ·rw [if_neg h3, if_pos ⟨h2, h3⟩]
   ·rw [if_neg (by omega), if_neg (fun h => h2 h.1), need_i64 (by omega) (by omega)]
    simp
  ·rw [if_pos h1, if_neg (by simpa using h1)]) (fun _ => by simp only [g62_1]; rw [br_d, if_neg (by omega)])
 simpa only [Int.natCast_zero, errTg] using key
theorem F62_eq {l : Gs} : F62 l = some (chkGs l, ()) := by
 unfold F62 chkGs
 rw [br_d]
 by_cases h0 : 12 < l.length
 ·rw [if_pos (by omega), if_pos h0]
 ·rw [if_neg (by omega), if_neg h0]
  have key := iter_find (step := fun x => g62_0 x.1 x.2.1 x.2.2.1) l.length (fun k => (l, ((l.length : Nat) : Int), (k : Int), ())) (stopLg l) (fun e => .inl (e, ())) (b := .inr ()) (fun k hk _ => by
   simp only [g62_0, Int.toNat_natCast]
   rw [br_d, if_pos (by omega), need_inb (by omega) (by omega), br_d]
   unfold stopLg
   by_cases h1 : 10 < (l.getD k []).length
   ·rw [if_pos (by omega), if_pos h1]
   ·rw [if_neg (by omega), if_neg h1, F62_in (by omega), bindO_s]
    cases errTg (l.getD k []) with
    | some e => rfl
    | none =>
     simp only [Option.elim]
     rw [need_i64 (by omega) (by omega)]
     simp) (fun _ => by simp only [g62_0]; rw [br_d, if_neg (by omega)])
  simp only [Int.natCast_zero] at key
  rw [bind_of key]
  unfold errLg
  cases (List.range l.length).findSome? (stopLg l) <;> rfl
/-- Fields of guesses. -/
def turn (f : Nat → Int × Int → Int) (l : Gs) : List (List Int) := l.mapIdx fun i t => t.map (f i)
def lows (l : Gs) : List (List Int) := l.map fun t => t.map (·.1)
def highs (l : Gs) : List (List Int) := l.map fun t => t.map (·.2)
/-- What is so of valid guesses. -/
structure VG (l : Gs) : Prop where
 len : l.length ≤ 12
 tab : ∀ t ∈ l, t.length ≤ 10
 lo : Val (lows l)
 hi : Val (highs l)
 le : ∀ t ∈ l, ∀ s ∈ t, s.1 ≤ s.2
theorem turn_take (f : Nat → Int × Int → Int) (l : Gs) {k : Nat} (h : k < l.length) : turn f (l.take (k + 1)) = turn f (l.take k) ++ [(l.getD k []).map (f k)] := by
 unfold turn
 rw [take_succ_getD [] h, List.mapIdx_append]
 have e : min k l.length = k := by omega
 simp [e]
theorem turn_length (f : Nat → Int × Int → Int) (l : Gs) : (turn f l).length = l.length := by simp [turn]
end Go.Proofs.Try
end
section
open Go.AM Go.Gm Go.Srt
namespace Go.Proofs.Try
set_option linter.unusedVariables false
set_option linter.unusedSimpArgs false
theorem F64_in {l : Gs} {t : List (Int × Int)} {a i : Nat} {b0 : List (List Int)} (f : Nat → Int × Int → Int) (hf : ∀ (i : Nat) s, i < 12 → F65 (i : Int) s (a : Int) = some (f i s, ())) (hi : i < 12) (ht : t.length ≤ 10) {n : Nat} :
  iter (fun x => g64_1 x.1 x.2.1 x.2.2.1 x.2.2.2.1 x.2.2.2.2.1 x.2.2.2.2.2.1 x.2.2.2.2.2.2.1 x.2.2.2.2.2.2.2.1 x.2.2.2.2.2.2.2.2.1 x.2.2.2.2.2.2.2.2.2.1 x.2.2.2.2.2.2.2.2.2.2.1 x.2.2.2.2.2.2.2.2.2.2.2.1) ((a : Int), n, (i : Int), 0, l, ((l.length : Nat) : Int), (i : Int), t, ((t.length : Nat) : Int), (0 : Int), b0, [], ()) = some ((a : Int), n, t.length, l, ((l.length : Nat) : Int), (i : Int), b0, t.map (f i), ()) := by
 have key := iter_count (step := fun x => g64_1 x.1 x.2.1 x.2.2.1 x.2.2.2.1 x.2.2.2.2.1 x.2.2.2.2.2.1 x.2.2.2.2.2.2.1 x.2.2.2.2.2.2.2.1 x.2.2.2.2.2.2.2.2.1 x.2.2.2.2.2.2.2.2.2.1 x.2.2.2.2.2.2.2.2.2.2.1 x.2.2.2.2.2.2.2.2.2.2.2.1) t.length
  (fun k => ((a : Int), n, (i : Int), k, l, ((l.length : Nat) : Int), (i : Int), t, ((t.length : Nat) : Int), (k : Int), b0, (t.take k).map (f i), ()))
  (b := ((a : Int), n, t.length, l, ((l.length : Nat) : Int), (i : Int), b0, t.map (f i), ())) (fun k hk => by
   simp only [g64_1, Int.toNat_natCast]
   rw [br_d, if_pos (by omega), need_inb (by omega) (by omega), hf i _ hi, bindO_s, need_big (by simp; omega), need_i64 (by omega) (by omega), take_succ_getD (0, 0) hk]
   simp
   rw [List.take_of_length_le (by simp; omega)]) (by
   simp only [g64_1]; rw [br_d, if_neg (by omega), List.take_length])
 simp only [List.take_zero, List.map_nil, Int.natCast_zero] at key
 exact key
theorem F64_turn {l : Gs} {a : Nat} (f : Nat → Int × Int → Int) (hf : ∀ (i : Nat) s, i < 12 → F65 (i : Int) s (a : Int) = some (f i s, ())) (hl : l.length ≤ 12) (ht : ∀ t ∈ l, t.length ≤ 10) : F64 l (a : Int) = some (turn f l, ()) := by
 unfold F64
 have key := iter_count (step := fun x => g64_0 x.1 x.2.1 x.2.2.1 x.2.2.2.1 x.2.2.2.2.1 x.2.2.2.2.2.1) l.length (fun k => ((a : Int), k, l, ((l.length : Nat) : Int), (k : Int), turn f (l.take k), ())) (b := (l.length, turn f l, ())) (fun k hk => by
  simp only [g64_0, Int.toNat_natCast]
  have i := F64_in (l := l) (t := l.getD k []) (b0 := turn f (l.take k)) (i := k) f hf (by omega) (ht _ (getD_mem hk)) (n := k)
  rw [br_d, if_pos (by omega), need_inb (by omega) (by omega), bind_of i]
  dsimp only
  rw [need_big (by simp; omega), need_i64 (by omega) (by omega), turn_take f l hk]
  have e1 : ∀ x : List Int, List.take (l.getD k []).length ((l.getD k []).map (f k)) = (l.getD k []).map (f k) := fun _ => List.take_of_length_le (by rw [List.length_map]; omega)
  have e2 : List.take k (turn f (l.take k)) = turn f (l.take k) := List.take_of_length_le (by rw [turn_length, List.length_take]; omega)
  rw [List.drop_zero, List.drop_zero, List.drop_zero, e1 [], e2]
  simp) (by simp only [g64_0]; rw [br_d, if_neg (by omega), List.take_length])
 have e0 : turn f (l.take 0) = [] := by simp [turn]
 simp only [e0, Int.natCast_zero] at key
 rw [bind_of key]
 dsimp only
 rw [List.drop_zero, List.take_of_length_le (by rw [turn_length]; omega)]
theorem F64_v1_in {l : Gs} {t : List (Int × Int)} {a i : Nat} {b0 : List (List Int)} (f : Nat → Int × Int → Int) (hf : ∀ (i : Nat) s, i < 12 → F66 (i : Int) s (a : Int) = some (f i s, ())) (hi : i < 12) (ht : t.length ≤ 10) {n : Nat} :
  iter (fun x => g64_v1_1 x.1 x.2.1 x.2.2.1 x.2.2.2.1 x.2.2.2.2.1 x.2.2.2.2.2.1 x.2.2.2.2.2.2.1 x.2.2.2.2.2.2.2.1 x.2.2.2.2.2.2.2.2.1 x.2.2.2.2.2.2.2.2.2.1 x.2.2.2.2.2.2.2.2.2.2.1 x.2.2.2.2.2.2.2.2.2.2.2.1) ((a : Int), n, (i : Int), 0, l, ((l.length : Nat) : Int), (i : Int), t, ((t.length : Nat) : Int), (0 : Int), b0, [], ()) = some ((a : Int), n, t.length, l, ((l.length : Nat) : Int), (i : Int), b0, t.map (f i), ()) := by
 have key := iter_count (step := fun x => g64_v1_1 x.1 x.2.1 x.2.2.1 x.2.2.2.1 x.2.2.2.2.1 x.2.2.2.2.2.1 x.2.2.2.2.2.2.1 x.2.2.2.2.2.2.2.1 x.2.2.2.2.2.2.2.2.1 x.2.2.2.2.2.2.2.2.2.1 x.2.2.2.2.2.2.2.2.2.2.1 x.2.2.2.2.2.2.2.2.2.2.2.1) t.length
  (fun k => ((a : Int), n, (i : Int), k, l, ((l.length : Nat) : Int), (i : Int), t, ((t.length : Nat) : Int), (k : Int), b0, (t.take k).map (f i), ()))
  (b := ((a : Int), n, t.length, l, ((l.length : Nat) : Int), (i : Int), b0, t.map (f i), ())) (fun k hk => by
   simp only [g64_v1_1, Int.toNat_natCast]
   rw [br_d, if_pos (by omega), need_inb (by omega) (by omega), hf i _ hi, bindO_s, need_big (by simp; omega), need_i64 (by omega) (by omega), take_succ_getD (0, 0) hk]
   simp
   rw [List.take_of_length_le (by simp; omega)]) (by
   simp only [g64_v1_1]; rw [br_d, if_neg (by omega), List.take_length])
 simp only [List.take_zero, List.map_nil, Int.natCast_zero] at key
 exact key
theorem F64_v1_turn {l : Gs} {a : Nat} (f : Nat → Int × Int → Int) (hf : ∀ (i : Nat) s, i < 12 → F66 (i : Int) s (a : Int) = some (f i s, ())) (hl : l.length ≤ 12) (ht : ∀ t ∈ l, t.length ≤ 10) : F64_v1 l (a : Int) = some (turn f l, ()) := by
 unfold F64_v1
 have key := iter_count (step := fun x => g64_v1_0 x.1 x.2.1 x.2.2.1 x.2.2.2.1 x.2.2.2.2.1 x.2.2.2.2.2.1) l.length (fun k => ((a : Int), k, l, ((l.length : Nat) : Int), (k : Int), turn f (l.take k), ())) (b := (l.length, turn f l, ())) (fun k hk => by
  simp only [g64_v1_0, Int.toNat_natCast]
  have i := F64_v1_in (l := l) (t := l.getD k []) (b0 := turn f (l.take k)) (i := k) f hf (by omega) (ht _ (getD_mem hk)) (n := k)
  rw [br_d, if_pos (by omega), need_inb (by omega) (by omega), bind_of i]
  dsimp only
  rw [need_big (by simp; omega), need_i64 (by omega) (by omega), turn_take f l hk]
  have e1 : ∀ x : List Int, List.take (l.getD k []).length ((l.getD k []).map (f k)) = (l.getD k []).map (f k) := fun _ => List.take_of_length_le (by rw [List.length_map]; omega)
  have e2 : List.take k (turn f (l.take k)) = turn f (l.take k) := List.take_of_length_le (by rw [turn_length, List.length_take]; omega)
  rw [List.drop_zero, List.drop_zero, List.drop_zero, e1 [], e2]
  simp) (by simp only [g64_v1_0]; rw [br_d, if_neg (by omega), List.take_length])
 have e0 : turn f (l.take 0) = [] := by simp [turn]
 simp only [e0, Int.natCast_zero] at key
 rw [bind_of key]
 dsimp only
 rw [List.drop_zero, List.take_of_length_le (by rw [turn_length]; omega)]
theorem F64_v2_in {l : Gs} {t : List (Int × Int)} {i : Nat} {b0 : List (List Int)} (f : Nat → Int × Int → Int) (hf : ∀ (i : Nat) s, i < 12 → F68 (i : Int) s = some (f i s, ())) (hi : i < 12) (ht : t.length ≤ 10) {n : Nat} :
  iter (fun x => g64_v2_1 x.1 x.2.1 x.2.2.1 x.2.2.2.1 x.2.2.2.2.1 x.2.2.2.2.2.1 x.2.2.2.2.2.2.1 x.2.2.2.2.2.2.2.1 x.2.2.2.2.2.2.2.2.1 x.2.2.2.2.2.2.2.2.2.1 x.2.2.2.2.2.2.2.2.2.2.1) (n, (i : Int), 0, l, ((l.length : Nat) : Int), (i : Int), t, ((t.length : Nat) : Int), (0 : Int), b0, [], ()) = some (n, t.length, l, ((l.length : Nat) : Int), (i : Int), b0, t.map (f i), ()) := by
 have key := iter_count (step := fun x => g64_v2_1 x.1 x.2.1 x.2.2.1 x.2.2.2.1 x.2.2.2.2.1 x.2.2.2.2.2.1 x.2.2.2.2.2.2.1 x.2.2.2.2.2.2.2.1 x.2.2.2.2.2.2.2.2.1 x.2.2.2.2.2.2.2.2.2.1 x.2.2.2.2.2.2.2.2.2.2.1) t.length
  (fun k => (n, (i : Int), k, l, ((l.length : Nat) : Int), (i : Int), t, ((t.length : Nat) : Int), (k : Int), b0, (t.take k).map (f i), ()))
  (b := (n, t.length, l, ((l.length : Nat) : Int), (i : Int), b0, t.map (f i), ())) (fun k hk => by
   simp only [g64_v2_1, Int.toNat_natCast]
   rw [br_d, if_pos (by omega), need_inb (by omega) (by omega), hf i _ hi, bindO_s, need_big (by simp; omega), need_i64 (by omega) (by omega), take_succ_getD (0, 0) hk]
   simp
   rw [List.take_of_length_le (by simp; omega)]) (by
   simp only [g64_v2_1]; rw [br_d, if_neg (by omega), List.take_length])
 simp only [List.take_zero, List.map_nil, Int.natCast_zero] at key
 exact key
theorem F64_v2_turn {l : Gs} (f : Nat → Int × Int → Int) (hf : ∀ (i : Nat) s, i < 12 → F68 (i : Int) s = some (f i s, ())) (hl : l.length ≤ 12) (ht : ∀ t ∈ l, t.length ≤ 10) : F64_v2 l = some (turn f l, ()) := by
 unfold F64_v2
 have key := iter_count (step := fun x => g64_v2_0 x.1 x.2.1 x.2.2.1 x.2.2.2.1 x.2.2.2.2.1) l.length (fun k => (k, l, ((l.length : Nat) : Int), (k : Int), turn f (l.take k), ())) (b := (l.length, turn f l, ())) (fun k hk => by
  simp only [g64_v2_0, Int.toNat_natCast]
  have i := F64_v2_in (l := l) (t := l.getD k []) (b0 := turn f (l.take k)) (i := k) f hf (by omega) (ht _ (getD_mem hk)) (n := k)
  rw [br_d, if_pos (by omega), need_inb (by omega) (by omega), bind_of i]
  dsimp only
  rw [need_big (by simp; omega), need_i64 (by omega) (by omega), turn_take f l hk]
  have e1 : ∀ x : List Int, List.take (l.getD k []).length ((l.getD k []).map (f k)) = (l.getD k []).map (f k) := fun _ => List.take_of_length_le (by rw [List.length_map]; omega)
  have e2 : List.take k (turn f (l.take k)) = turn f (l.take k) := List.take_of_length_le (by rw [turn_length, List.length_take]; omega)
  rw [List.drop_zero, List.drop_zero, List.drop_zero, e1 [], e2]
  simp) (by simp only [g64_v2_0]; rw [br_d, if_neg (by omega), List.take_length])
 have e0 : turn f (l.take 0) = [] := by simp [turn]
 simp only [e0, Int.natCast_zero] at key
 rw [bind_of key]
 dsimp only
 rw [List.drop_zero, List.take_of_length_le (by rw [turn_length]; omega)]
theorem F64_v3_in {l : Gs} {t : List (Int × Int)} {i : Nat} {b0 : List (List Int)} (f : Nat → Int × Int → Int) (hf : ∀ (i : Nat) s, i < 12 → F69 (i : Int) s = some (f i s, ())) (hi : i < 12) (ht : t.length ≤ 10) {n : Nat} :
  iter (fun x => g64_v3_1 x.1 x.2.1 x.2.2.1 x.2.2.2.1 x.2.2.2.2.1 x.2.2.2.2.2.1 x.2.2.2.2.2.2.1 x.2.2.2.2.2.2.2.1 x.2.2.2.2.2.2.2.2.1 x.2.2.2.2.2.2.2.2.2.1 x.2.2.2.2.2.2.2.2.2.2.1) (n, (i : Int), 0, l, ((l.length : Nat) : Int), (i : Int), t, ((t.length : Nat) : Int), (0 : Int), b0, [], ()) = some (n, t.length, l, ((l.length : Nat) : Int), (i : Int), b0, t.map (f i), ()) := by
 have key := iter_count (step := fun x => g64_v3_1 x.1 x.2.1 x.2.2.1 x.2.2.2.1 x.2.2.2.2.1 x.2.2.2.2.2.1 x.2.2.2.2.2.2.1 x.2.2.2.2.2.2.2.1 x.2.2.2.2.2.2.2.2.1 x.2.2.2.2.2.2.2.2.2.1 x.2.2.2.2.2.2.2.2.2.2.1) t.length
  (fun k => (n, (i : Int), k, l, ((l.length : Nat) : Int), (i : Int), t, ((t.length : Nat) : Int), (k : Int), b0, (t.take k).map (f i), ()))
  (b := (n, t.length, l, ((l.length : Nat) : Int), (i : Int), b0, t.map (f i), ())) (fun k hk => by
   simp only [g64_v3_1, Int.toNat_natCast]
   rw [br_d, if_pos (by omega), need_inb (by omega) (by omega), hf i _ hi, bindO_s, need_big (by simp; omega), need_i64 (by omega) (by omega), take_succ_getD (0, 0) hk]
   simp
   rw [List.take_of_length_le (by simp; omega)]) (by
   simp only [g64_v3_1]; rw [br_d, if_neg (by omega), List.take_length])
 simp only [List.take_zero, List.map_nil, Int.natCast_zero] at key
 exact key
theorem F64_v3_turn {l : Gs} (f : Nat → Int × Int → Int) (hf : ∀ (i : Nat) s, i < 12 → F69 (i : Int) s = some (f i s, ())) (hl : l.length ≤ 12) (ht : ∀ t ∈ l, t.length ≤ 10) : F64_v3 l = some (turn f l, ()) := by
 unfold F64_v3
 have key := iter_count (step := fun x => g64_v3_0 x.1 x.2.1 x.2.2.1 x.2.2.2.1 x.2.2.2.2.1) l.length (fun k => (k, l, ((l.length : Nat) : Int), (k : Int), turn f (l.take k), ())) (b := (l.length, turn f l, ())) (fun k hk => by
  simp only [g64_v3_0, Int.toNat_natCast]
  have i := F64_v3_in (l := l) (t := l.getD k []) (b0 := turn f (l.take k)) (i := k) f hf (by omega) (ht _ (getD_mem hk)) (n := k)
  rw [br_d, if_pos (by omega), need_inb (by omega) (by omega), bind_of i]
  dsimp only
  rw [need_big (by simp; omega), need_i64 (by omega) (by omega), turn_take f l hk]
  have e1 : ∀ x : List Int, List.take (l.getD k []).length ((l.getD k []).map (f k)) = (l.getD k []).map (f k) := fun _ => List.take_of_length_le (by rw [List.length_map]; omega)
  have e2 : List.take k (turn f (l.take k)) = turn f (l.take k) := List.take_of_length_le (by rw [turn_length, List.length_take]; omega)
  rw [List.drop_zero, List.drop_zero, List.drop_zero, e1 [], e2]
  simp) (by simp only [g64_v3_0]; rw [br_d, if_neg (by omega), List.take_length])
 have e0 : turn f (l.take 0) = [] := by simp [turn]
 simp only [e0, Int.natCast_zero] at key
 rw [bind_of key]
 dsimp only
 rw [List.drop_zero, List.take_of_length_le (by rw [turn_length]; omega)]
theorem turn_lo (l : Gs) : turn (fun _ s => s.1) l = lows l := by
 apply List.ext_getElem <;> simp [turn, lows]
theorem turn_hi (l : Gs) : turn (fun _ s => s.2) l = highs l := by
 apply List.ext_getElem <;> simp [turn, highs]
/-- The fields that are worst for one, and best. -/
def worstF (a : Nat) : Nat → Int × Int → Int := fun i s => if i = a then s.1 else s.2
def fineF (a : Nat) : Nat → Int × Int → Int := fun i s => if i = a then s.2 else s.1
theorem turn_worst (l : Gs) (a : Nat) : turn (worstF a) l = (highs l).set a ((lows l).getD a []) := by
 apply List.ext_getElem
 ·simp [turn, highs]
 ·intro i h1 h2
  simp only [turn_length] at h1
  rw [List.getElem_set]
  by_cases c : a = i
  ·subst c
   simp [turn, lows, worstF, List.getD_eq_getElem?_getD, h1]
  ·rw [if_neg c]
   simp [turn, highs, worstF, show ¬ i = a by omega]
theorem turn_fine (l : Gs) (a : Nat) : turn (fineF a) l = (lows l).set a ((highs l).getD a []) := by
 apply List.ext_getElem
 ·simp [turn, lows]
 ·intro i h1 h2
  simp only [turn_length] at h1
  rw [List.getElem_set]
  by_cases c : a = i
  ·subst c
   simp [turn, highs, fineF, List.getD_eq_getElem?_getD, h1]
  ·rw [if_neg c]
   simp [turn, lows, fineF, show ¬ i = a by omega]
theorem F64_eq {l : Gs} (hl : l.length ≤ 12) (ht : ∀ t ∈ l, t.length ≤ 10) (a : Nat) : F64 l a = some (turn (worstF a) l, ()) :=
 F64_turn (worstF a) (fun i s _ => by unfold F65 worstF; rw [br_eq]; by_cases c : i = a <;> simp [c]; omega) hl ht
theorem F64_v1_eq {l : Gs} (hl : l.length ≤ 12) (ht : ∀ t ∈ l, t.length ≤ 10) (a : Nat) : F64_v1 l a = some (turn (fineF a) l, ()) :=
 F64_v1_turn (fineF a) (fun i s _ => by unfold F66 fineF; rw [br_eq]; by_cases c : i = a <;> simp [c]; omega) hl ht
theorem F64_v2_eq {l : Gs} (hl : l.length ≤ 12) (ht : ∀ t ∈ l, t.length ≤ 10) : F64_v2 l = some (lows l, ()) := by
 rw [← turn_lo]; exact F64_v2_turn (fun _ s => s.1) (fun i s _ => rfl) hl ht
theorem F64_v3_eq {l : Gs} (hl : l.length ≤ 12) (ht : ∀ t ∈ l, t.length ≤ 10) : F64_v3 l = some (highs l, ()) := by
 rw [← turn_hi]; exact F64_v3_turn (fun _ s => s.2) (fun i s _ => rfl) hl ht
end Go.Proofs.Try
end
section
open Go.AM Go.Srt
namespace Go.Proofs.Try
set_option linter.unusedVariables false
set_option linter.unusedSimpArgs false
set_option maxRecDepth 100000
theorem smr81_1 (k0 : Int) (k1 : Int) (nv0 : Nat) (v1 : Int) (v2 : Int) (v8 : Int) (v9 : Int) (b0 : List (Int × Int)) : gH81_v3_1 nv0 v1 v2 v8 v9 b0 k0 k1 = mp (Sum.map (fun x => (x.1, x.2.1, x.2.2.1, x.2.2.2.1, x.2.2.2.2.1, x.2.2.2.2.2.1, k0, k1, ())) (fun x => (x.1, x.2.1, x.2.2.1, x.2.2.2.1, x.2.2.2.2.1, k0, k1, ()))) (s81_1 (fun a b => F75_v1 a b k0 k1) (0, 0) nv0 v1 v2 v8 v9 b0) := by
 unfold gH81_v3_1 s81_1
 simp only [mp_br, mp_nd, mp_bd, mp_s, bd_mp, Sum.map]
 try rfl
theorem smi81_1 (k0 : Int) (k1 : Int) (nv0 : Nat) (v1 : Int) (v2 : Int) (v8 : Int) (v9 : Int) (b0 : List (Int × Int)) : iter (fun x => gH81_v3_1 x.1 x.2.1 x.2.2.1 x.2.2.2.1 x.2.2.2.2.1 x.2.2.2.2.2.1 x.2.2.2.2.2.2.1 x.2.2.2.2.2.2.2.1) (nv0, v1, v2, v8, v9, b0, k0, k1, ()) = mp (fun x => (x.1, x.2.1, x.2.2.1, x.2.2.2.1, x.2.2.2.2.1, k0, k1, ())) (iter (fun x => s81_1 (fun a b => F75_v1 a b k0 k1) (0, 0) x.1 x.2.1 x.2.2.1 x.2.2.2.1 x.2.2.2.2.1 x.2.2.2.2.2.1) (nv0, v1, v2, v8, v9, b0, ())) :=
 iter_map (fun x => (x.1, x.2.1, x.2.2.1, x.2.2.2.1, x.2.2.2.2.1, x.2.2.2.2.2.1, k0, k1, ())) (fun x => (x.1, x.2.1, x.2.2.1, x.2.2.2.1, x.2.2.2.2.1, k0, k1, ())) (step := (fun x => s81_1 (fun a b => F75_v1 a b k0 k1) (0, 0) x.1 x.2.1 x.2.2.1 x.2.2.2.1 x.2.2.2.2.1 x.2.2.2.2.2.1)) (step' := (fun x => gH81_v3_1 x.1 x.2.1 x.2.2.1 x.2.2.2.1 x.2.2.2.2.1 x.2.2.2.2.2.1 x.2.2.2.2.2.2.1 x.2.2.2.2.2.2.2.1)) (fun x => smr81_1 k0 k1 x.1 x.2.1 x.2.2.1 x.2.2.2.1 x.2.2.2.2.1 x.2.2.2.2.2.1) (nv0, v1, v2, v8, v9, b0, ())
theorem smr81_0 (k0 : Int) (k1 : Int) (nv0 : Nat) (v1 : Int) (v2 : Int) (v8 : Int) (b0 : List (Int × Int)) : gH81_v3_0 nv0 v1 v2 v8 b0 k0 k1 = mp (Sum.map (fun x => (x.1, x.2.1, x.2.2.1, x.2.2.2.1, x.2.2.2.2.1, k0, k1, ())) (fun x => (k0, k1, x.1, ()))) (s81_0 (fun a b => F75_v1 a b k0 k1) (0, 0) nv0 v1 v2 v8 b0) := by
 unfold gH81_v3_0 s81_0
 simp only [mp_br, mp_nd, mp_bd, mp_s, bd_mp, Sum.map, smi81_1]
 try rfl
theorem smi81_0 (k0 : Int) (k1 : Int) (nv0 : Nat) (v1 : Int) (v2 : Int) (v8 : Int) (b0 : List (Int × Int)) : iter (fun x => gH81_v3_0 x.1 x.2.1 x.2.2.1 x.2.2.2.1 x.2.2.2.2.1 x.2.2.2.2.2.1 x.2.2.2.2.2.2.1) (nv0, v1, v2, v8, b0, k0, k1, ()) = mp (fun x => (k0, k1, x.1, ())) (iter (fun x => s81_0 (fun a b => F75_v1 a b k0 k1) (0, 0) x.1 x.2.1 x.2.2.1 x.2.2.2.1 x.2.2.2.2.1) (nv0, v1, v2, v8, b0, ())) :=
 iter_map (fun x => (x.1, x.2.1, x.2.2.1, x.2.2.2.1, x.2.2.2.2.1, k0, k1, ())) (fun x => (k0, k1, x.1, ())) (step := (fun x => s81_0 (fun a b => F75_v1 a b k0 k1) (0, 0) x.1 x.2.1 x.2.2.1 x.2.2.2.1 x.2.2.2.2.1)) (step' := (fun x => gH81_v3_0 x.1 x.2.1 x.2.2.1 x.2.2.2.1 x.2.2.2.2.1 x.2.2.2.2.2.1 x.2.2.2.2.2.2.1)) (fun x => smr81_0 k0 k1 x.1 x.2.1 x.2.2.1 x.2.2.2.1 x.2.2.2.2.1) (nv0, v1, v2, v8, b0, ())
theorem smf81 (k0 : Int) (k1 : Int) (nv0 : Nat) (v1 : Int) (v2 : Int) (b0 : List (Int × Int)) : FH81_v3 nv0 v1 v2 b0 k0 k1 = mp (fun x => (k0, k1, x.1, ())) (S81 (fun a b => F75_v1 a b k0 k1) (0, 0) nv0 v1 v2 b0) := by
 unfold FH81_v3 S81
 simp only [mp_br, mp_nd, mp_bd, mp_s, bd_mp, smi81_1, smi81_0]
 try rfl
theorem smr84_0 (k0 : Int) (k1 : Int) (nv0 : Nat) (v1 : Int) (v2 : Int) (v3 : Int) (v10 : Int) (b0 : List (Int × Int)) : gH84_v3_0 nv0 v1 v2 v3 v10 b0 k0 k1 = mp (Sum.map (fun x => (x.1, x.2.1, x.2.2.1, x.2.2.2.1, x.2.2.2.2.1, x.2.2.2.2.2.1, k0, k1, ())) (fun x => (k0, k1, x.1, ()))) (s84_0 (fun a b => F75_v1 a b k0 k1) (0, 0) nv0 v1 v2 v3 v10 b0) := by
 unfold gH84_v3_0 s84_0
 simp only [mp_br, mp_nd, mp_bd, mp_s, bd_mp, Sum.map, smi81_1, smi81_0, smf81]
 try rfl
theorem smi84_0 (k0 : Int) (k1 : Int) (nv0 : Nat) (v1 : Int) (v2 : Int) (v3 : Int) (v10 : Int) (b0 : List (Int × Int)) : iter (fun x => gH84_v3_0 x.1 x.2.1 x.2.2.1 x.2.2.2.1 x.2.2.2.2.1 x.2.2.2.2.2.1 x.2.2.2.2.2.2.1 x.2.2.2.2.2.2.2.1) (nv0, v1, v2, v3, v10, b0, k0, k1, ()) = mp (fun x => (k0, k1, x.1, ())) (iter (fun x => s84_0 (fun a b => F75_v1 a b k0 k1) (0, 0) x.1 x.2.1 x.2.2.1 x.2.2.2.1 x.2.2.2.2.1 x.2.2.2.2.2.1) (nv0, v1, v2, v3, v10, b0, ())) :=
 iter_map (fun x => (x.1, x.2.1, x.2.2.1, x.2.2.2.1, x.2.2.2.2.1, x.2.2.2.2.2.1, k0, k1, ())) (fun x => (k0, k1, x.1, ())) (step := (fun x => s84_0 (fun a b => F75_v1 a b k0 k1) (0, 0) x.1 x.2.1 x.2.2.1 x.2.2.2.1 x.2.2.2.2.1 x.2.2.2.2.2.1)) (step' := (fun x => gH84_v3_0 x.1 x.2.1 x.2.2.1 x.2.2.2.1 x.2.2.2.2.1 x.2.2.2.2.2.1 x.2.2.2.2.2.2.1 x.2.2.2.2.2.2.2.1)) (fun x => smr84_0 k0 k1 x.1 x.2.1 x.2.2.1 x.2.2.2.1 x.2.2.2.2.1 x.2.2.2.2.2.1) (nv0, v1, v2, v3, v10, b0, ())
theorem smf84 (k0 : Int) (k1 : Int) (nv0 : Nat) (v1 : Int) (v2 : Int) (v3 : Int) (b0 : List (Int × Int)) : FH84_v3 nv0 v1 v2 v3 b0 k0 k1 = mp (fun x => (k0, k1, x.1, ())) (S84 (fun a b => F75_v1 a b k0 k1) (0, 0) nv0 v1 v2 v3 b0) := by
 unfold FH84_v3 S84
 simp only [mp_br, mp_nd, mp_bd, mp_s, bd_mp, smi81_1, smi81_0, smf81, smi84_0]
 try rfl
theorem smr83_0 (k0 : Int) (k1 : Int) (nv0 : Nat) (v2 : Int) (v10 : Int) (v11 : Int) (b0 : List (Int × Int)) : gH83_v3_0 nv0 v2 v10 v11 b0 k0 k1 = mp (Sum.map (fun x => (x.1, x.2.1, x.2.2.1, x.2.2.2.1, x.2.2.2.2.1, k0, k1, ())) (fun x => (x.1, x.2.1, x.2.2.1, x.2.2.2.1, k0, k1, ()))) (s83_0 (fun a b => F75_v1 a b k0 k1) (0, 0) nv0 v2 v10 v11 b0) := by
 unfold gH83_v3_0 s83_0
 simp only [mp_br, mp_nd, mp_bd, mp_s, bd_mp, Sum.map, smi81_1, smi81_0, smf81, smi84_0, smf84]
 try rfl
theorem smi83_0 (k0 : Int) (k1 : Int) (nv0 : Nat) (v2 : Int) (v10 : Int) (v11 : Int) (b0 : List (Int × Int)) : iter (fun x => gH83_v3_0 x.1 x.2.1 x.2.2.1 x.2.2.2.1 x.2.2.2.2.1 x.2.2.2.2.2.1 x.2.2.2.2.2.2.1) (nv0, v2, v10, v11, b0, k0, k1, ()) = mp (fun x => (x.1, x.2.1, x.2.2.1, x.2.2.2.1, k0, k1, ())) (iter (fun x => s83_0 (fun a b => F75_v1 a b k0 k1) (0, 0) x.1 x.2.1 x.2.2.1 x.2.2.2.1 x.2.2.2.2.1) (nv0, v2, v10, v11, b0, ())) :=
 iter_map (fun x => (x.1, x.2.1, x.2.2.1, x.2.2.2.1, x.2.2.2.2.1, k0, k1, ())) (fun x => (x.1, x.2.1, x.2.2.1, x.2.2.2.1, k0, k1, ())) (step := (fun x => s83_0 (fun a b => F75_v1 a b k0 k1) (0, 0) x.1 x.2.1 x.2.2.1 x.2.2.2.1 x.2.2.2.2.1)) (step' := (fun x => gH83_v3_0 x.1 x.2.1 x.2.2.1 x.2.2.2.1 x.2.2.2.2.1 x.2.2.2.2.2.1 x.2.2.2.2.2.2.1)) (fun x => smr83_0 k0 k1 x.1 x.2.1 x.2.2.1 x.2.2.2.1 x.2.2.2.2.1) (nv0, v2, v10, v11, b0, ())
theorem smf83 (k0 : Int) (k1 : Int) (nv0 : Nat) (v1 : Int) (v2 : Int) (v3 : Int) (b0 : List (Int × Int)) : FH83_v3 nv0 v1 v2 v3 b0 k0 k1 = mp (fun x => (k0, k1, x.1, ())) (S83 (fun a b => F75_v1 a b k0 k1) (0, 0) nv0 v1 v2 v3 b0) := by
 unfold FH83_v3 S83
 simp only [mp_br, mp_nd, mp_bd, mp_s, bd_mp, smi81_1, smi81_0, smf81, smi84_0, smf84, smi83_0]
 try rfl
theorem smr82_0 (k0 : Int) (k1 : Int) (rec : pH82_v3.T → Option qH82_v3.T) (rec2 : (Nat × Int × Int × Int × List (Int × Int) × Unit) → Option (List (Int × Int) × Unit)) (nv0 : Nat) (v1 : Int) (v10 : Int) (v11 : Int) (b0 : List (Int × Int)) : gH82_v3_0 rec nv0 v1 v10 v11 b0 k0 k1 = mp (Sum.map (fun x => (x.1, x.2.1, x.2.2.1, x.2.2.2.1, x.2.2.2.2.1, k0, k1, ())) (fun x => (x.1, x.2.1, x.2.2.1, x.2.2.2.1, k0, k1, ()))) (s82_0 (fun a b => F75_v1 a b k0 k1) (0, 0) rec2 nv0 v1 v10 v11 b0) := by
 unfold gH82_v3_0 s82_0
 simp only [mp_br, mp_nd, mp_bd, mp_s, bd_mp, Sum.map, smi81_1, smi81_0, smf81, smi84_0, smf84, smi83_0, smf83]
 try rfl
theorem smi82_0 (k0 : Int) (k1 : Int) (rec : pH82_v3.T → Option qH82_v3.T) (rec2 : (Nat × Int × Int × Int × List (Int × Int) × Unit) → Option (List (Int × Int) × Unit)) (nv0 : Nat) (v1 : Int) (v10 : Int) (v11 : Int) (b0 : List (Int × Int)) : iter (fun x => gH82_v3_0 rec x.1 x.2.1 x.2.2.1 x.2.2.2.1 x.2.2.2.2.1 x.2.2.2.2.2.1 x.2.2.2.2.2.2.1) (nv0, v1, v10, v11, b0, k0, k1, ()) = mp (fun x => (x.1, x.2.1, x.2.2.1, x.2.2.2.1, k0, k1, ())) (iter (fun x => s82_0 (fun a b => F75_v1 a b k0 k1) (0, 0) rec2 x.1 x.2.1 x.2.2.1 x.2.2.2.1 x.2.2.2.2.1) (nv0, v1, v10, v11, b0, ())) :=
 iter_map (fun x => (x.1, x.2.1, x.2.2.1, x.2.2.2.1, x.2.2.2.2.1, k0, k1, ())) (fun x => (x.1, x.2.1, x.2.2.1, x.2.2.2.1, k0, k1, ())) (step := (fun x => s82_0 (fun a b => F75_v1 a b k0 k1) (0, 0) rec2 x.1 x.2.1 x.2.2.1 x.2.2.2.1 x.2.2.2.2.1)) (step' := (fun x => gH82_v3_0 rec x.1 x.2.1 x.2.2.1 x.2.2.2.1 x.2.2.2.2.1 x.2.2.2.2.2.1 x.2.2.2.2.2.2.1)) (fun x => smr82_0 k0 k1 rec rec2 x.1 x.2.1 x.2.2.1 x.2.2.2.1 x.2.2.2.2.1) (nv0, v1, v10, v11, b0, ())
theorem smr82_1 (k0 : Int) (k1 : Int) (rec : pH82_v3.T → Option qH82_v3.T) (rec2 : (Nat × Int × Int × Int × List (Int × Int) × Unit) → Option (List (Int × Int) × Unit)) (nv0 : Nat) (v10 : Int) (v13 : Int) (b0 : List (Int × Int)) : gH82_v3_1 rec nv0 v10 v13 b0 k0 k1 = mp (Sum.map (fun x => (x.1, x.2.1, x.2.2.1, x.2.2.2.1, k0, k1, ())) (fun x => (k0, k1, x.1, ()))) (s82_1 (fun a b => F75_v1 a b k0 k1) (0, 0) rec2 nv0 v10 v13 b0) := by
 unfold gH82_v3_1 s82_1
 simp only [mp_br, mp_nd, mp_bd, mp_s, bd_mp, Sum.map, smi81_1, smi81_0, smf81, smi84_0, smf84, smi83_0, smf83, smi82_0 _ _ rec rec2]
 try rfl
theorem smi82_1 (k0 : Int) (k1 : Int) (rec : pH82_v3.T → Option qH82_v3.T) (rec2 : (Nat × Int × Int × Int × List (Int × Int) × Unit) → Option (List (Int × Int) × Unit)) (nv0 : Nat) (v10 : Int) (v13 : Int) (b0 : List (Int × Int)) : iter (fun x => gH82_v3_1 rec x.1 x.2.1 x.2.2.1 x.2.2.2.1 x.2.2.2.2.1 x.2.2.2.2.2.1) (nv0, v10, v13, b0, k0, k1, ()) = mp (fun x => (k0, k1, x.1, ())) (iter (fun x => s82_1 (fun a b => F75_v1 a b k0 k1) (0, 0) rec2 x.1 x.2.1 x.2.2.1 x.2.2.2.1) (nv0, v10, v13, b0, ())) :=
 iter_map (fun x => (x.1, x.2.1, x.2.2.1, x.2.2.2.1, k0, k1, ())) (fun x => (k0, k1, x.1, ())) (step := (fun x => s82_1 (fun a b => F75_v1 a b k0 k1) (0, 0) rec2 x.1 x.2.1 x.2.2.1 x.2.2.2.1)) (step' := (fun x => gH82_v3_1 rec x.1 x.2.1 x.2.2.1 x.2.2.2.1 x.2.2.2.2.1 x.2.2.2.2.2.1)) (fun x => smr82_1 k0 k1 rec rec2 x.1 x.2.1 x.2.2.1 x.2.2.2.1) (nv0, v10, v13, b0, ())
theorem smr82_2 (k0 : Int) (k1 : Int) (rec : pH82_v3.T → Option qH82_v3.T) (rec2 : (Nat × Int × Int × Int × List (Int × Int) × Unit) → Option (List (Int × Int) × Unit)) (nv0 : Nat) (v2 : Int) (v14 : Int) (v15 : Int) (b0 : List (Int × Int)) : gH82_v3_2 rec nv0 v2 v14 v15 b0 k0 k1 = mp (Sum.map (fun x => (x.1, x.2.1, x.2.2.1, x.2.2.2.1, x.2.2.2.2.1, k0, k1, ())) (fun x => (x.1, x.2.1, x.2.2.1, x.2.2.2.1, k0, k1, ()))) (s82_2 (fun a b => F75_v1 a b k0 k1) (0, 0) rec2 nv0 v2 v14 v15 b0) := by
 unfold gH82_v3_2 s82_2
 simp only [mp_br, mp_nd, mp_bd, mp_s, bd_mp, Sum.map, smi81_1, smi81_0, smf81, smi84_0, smf84, smi83_0, smf83, smi82_0 _ _ rec rec2, smi82_1 _ _ rec rec2]
 try rfl
theorem smi82_2 (k0 : Int) (k1 : Int) (rec : pH82_v3.T → Option qH82_v3.T) (rec2 : (Nat × Int × Int × Int × List (Int × Int) × Unit) → Option (List (Int × Int) × Unit)) (nv0 : Nat) (v2 : Int) (v14 : Int) (v15 : Int) (b0 : List (Int × Int)) : iter (fun x => gH82_v3_2 rec x.1 x.2.1 x.2.2.1 x.2.2.2.1 x.2.2.2.2.1 x.2.2.2.2.2.1 x.2.2.2.2.2.2.1) (nv0, v2, v14, v15, b0, k0, k1, ()) = mp (fun x => (x.1, x.2.1, x.2.2.1, x.2.2.2.1, k0, k1, ())) (iter (fun x => s82_2 (fun a b => F75_v1 a b k0 k1) (0, 0) rec2 x.1 x.2.1 x.2.2.1 x.2.2.2.1 x.2.2.2.2.1) (nv0, v2, v14, v15, b0, ())) :=
 iter_map (fun x => (x.1, x.2.1, x.2.2.1, x.2.2.2.1, x.2.2.2.2.1, k0, k1, ())) (fun x => (x.1, x.2.1, x.2.2.1, x.2.2.2.1, k0, k1, ())) (step := (fun x => s82_2 (fun a b => F75_v1 a b k0 k1) (0, 0) rec2 x.1 x.2.1 x.2.2.1 x.2.2.2.1 x.2.2.2.2.1)) (step' := (fun x => gH82_v3_2 rec x.1 x.2.1 x.2.2.1 x.2.2.2.1 x.2.2.2.2.1 x.2.2.2.2.2.1 x.2.2.2.2.2.2.1)) (fun x => smr82_2 k0 k1 rec rec2 x.1 x.2.1 x.2.2.1 x.2.2.2.1 x.2.2.2.2.1) (nv0, v2, v14, v15, b0, ())
theorem smr82_3 (k0 : Int) (k1 : Int) (rec : pH82_v3.T → Option qH82_v3.T) (rec2 : (Nat × Int × Int × Int × List (Int × Int) × Unit) → Option (List (Int × Int) × Unit)) (nv0 : Nat) (v14 : Int) (v17 : Int) (b0 : List (Int × Int)) : gH82_v3_3 rec nv0 v14 v17 b0 k0 k1 = mp (Sum.map (fun x => (x.1, x.2.1, x.2.2.1, x.2.2.2.1, k0, k1, ())) (fun x => (k0, k1, x.1, ()))) (s82_3 (fun a b => F75_v1 a b k0 k1) (0, 0) rec2 nv0 v14 v17 b0) := by
 unfold gH82_v3_3 s82_3
 simp only [mp_br, mp_nd, mp_bd, mp_s, bd_mp, Sum.map, smi81_1, smi81_0, smf81, smi84_0, smf84, smi83_0, smf83, smi82_0 _ _ rec rec2, smi82_1 _ _ rec rec2, smi82_2 _ _ rec rec2]
 try rfl
theorem smi82_3 (k0 : Int) (k1 : Int) (rec : pH82_v3.T → Option qH82_v3.T) (rec2 : (Nat × Int × Int × Int × List (Int × Int) × Unit) → Option (List (Int × Int) × Unit)) (nv0 : Nat) (v14 : Int) (v17 : Int) (b0 : List (Int × Int)) : iter (fun x => gH82_v3_3 rec x.1 x.2.1 x.2.2.1 x.2.2.2.1 x.2.2.2.2.1 x.2.2.2.2.2.1) (nv0, v14, v17, b0, k0, k1, ()) = mp (fun x => (k0, k1, x.1, ())) (iter (fun x => s82_3 (fun a b => F75_v1 a b k0 k1) (0, 0) rec2 x.1 x.2.1 x.2.2.1 x.2.2.2.1) (nv0, v14, v17, b0, ())) :=
 iter_map (fun x => (x.1, x.2.1, x.2.2.1, x.2.2.2.1, k0, k1, ())) (fun x => (k0, k1, x.1, ())) (step := (fun x => s82_3 (fun a b => F75_v1 a b k0 k1) (0, 0) rec2 x.1 x.2.1 x.2.2.1 x.2.2.2.1)) (step' := (fun x => gH82_v3_3 rec x.1 x.2.1 x.2.2.1 x.2.2.2.1 x.2.2.2.2.1 x.2.2.2.2.2.1)) (fun x => smr82_3 k0 k1 rec rec2 x.1 x.2.1 x.2.2.1 x.2.2.2.1) (nv0, v14, v17, b0, ())
theorem smr82_4 (k0 : Int) (k1 : Int) (rec : pH82_v3.T → Option qH82_v3.T) (rec2 : (Nat × Int × Int × Int × List (Int × Int) × Unit) → Option (List (Int × Int) × Unit)) (nv0 : Nat) (v1 : Int) (v2 : Int) (v3 : Int) (v18 : Int) (v19 : Int) (v20 : Int) (v21 : Int) (v22 : Int) (b0 : List (Int × Int)) : gH82_v3_4 rec nv0 v1 v2 v3 v18 v19 v20 v21 v22 b0 k0 k1 = mp (Sum.map (fun x => (x.1, x.2.1, x.2.2.1, x.2.2.2.1, x.2.2.2.2.1, x.2.2.2.2.2.1, x.2.2.2.2.2.2.1, x.2.2.2.2.2.2.2.1, x.2.2.2.2.2.2.2.2.1, x.2.2.2.2.2.2.2.2.2.1, k0, k1, ())) (fun x => (x.1, x.2.1, x.2.2.1, x.2.2.2.1, x.2.2.2.2.1, x.2.2.2.2.2.1, x.2.2.2.2.2.2.1, x.2.2.2.2.2.2.2.1, k0, k1, ()))) (s82_4 (fun a b => F75_v1 a b k0 k1) (0, 0) rec2 nv0 v1 v2 v3 v18 v19 v20 v21 v22 b0) := by
 unfold gH82_v3_4 s82_4
 simp only [mp_br, mp_nd, mp_bd, mp_s, bd_mp, Sum.map, smi81_1, smi81_0, smf81, smi84_0, smf84, smi83_0, smf83, smi82_0 _ _ rec rec2, smi82_1 _ _ rec rec2, smi82_2 _ _ rec rec2, smi82_3 _ _ rec rec2]
 try rfl
theorem smi82_4 (k0 : Int) (k1 : Int) (rec : pH82_v3.T → Option qH82_v3.T) (rec2 : (Nat × Int × Int × Int × List (Int × Int) × Unit) → Option (List (Int × Int) × Unit)) (nv0 : Nat) (v1 : Int) (v2 : Int) (v3 : Int) (v18 : Int) (v19 : Int) (v20 : Int) (v21 : Int) (v22 : Int) (b0 : List (Int × Int)) : iter (fun x => gH82_v3_4 rec x.1 x.2.1 x.2.2.1 x.2.2.2.1 x.2.2.2.2.1 x.2.2.2.2.2.1 x.2.2.2.2.2.2.1 x.2.2.2.2.2.2.2.1 x.2.2.2.2.2.2.2.2.1 x.2.2.2.2.2.2.2.2.2.1 x.2.2.2.2.2.2.2.2.2.2.1 x.2.2.2.2.2.2.2.2.2.2.2.1) (nv0, v1, v2, v3, v18, v19, v20, v21, v22, b0, k0, k1, ()) = mp (fun x => (x.1, x.2.1, x.2.2.1, x.2.2.2.1, x.2.2.2.2.1, x.2.2.2.2.2.1, x.2.2.2.2.2.2.1, x.2.2.2.2.2.2.2.1, k0, k1, ())) (iter (fun x => s82_4 (fun a b => F75_v1 a b k0 k1) (0, 0) rec2 x.1 x.2.1 x.2.2.1 x.2.2.2.1 x.2.2.2.2.1 x.2.2.2.2.2.1 x.2.2.2.2.2.2.1 x.2.2.2.2.2.2.2.1 x.2.2.2.2.2.2.2.2.1 x.2.2.2.2.2.2.2.2.2.1) (nv0, v1, v2, v3, v18, v19, v20, v21, v22, b0, ())) :=
 iter_map (fun x => (x.1, x.2.1, x.2.2.1, x.2.2.2.1, x.2.2.2.2.1, x.2.2.2.2.2.1, x.2.2.2.2.2.2.1, x.2.2.2.2.2.2.2.1, x.2.2.2.2.2.2.2.2.1, x.2.2.2.2.2.2.2.2.2.1, k0, k1, ())) (fun x => (x.1, x.2.1, x.2.2.1, x.2.2.2.1, x.2.2.2.2.1, x.2.2.2.2.2.1, x.2.2.2.2.2.2.1, x.2.2.2.2.2.2.2.1, k0, k1, ())) (step := (fun x => s82_4 (fun a b => F75_v1 a b k0 k1) (0, 0) rec2 x.1 x.2.1 x.2.2.1 x.2.2.2.1 x.2.2.2.2.1 x.2.2.2.2.2.1 x.2.2.2.2.2.2.1 x.2.2.2.2.2.2.2.1 x.2.2.2.2.2.2.2.2.1 x.2.2.2.2.2.2.2.2.2.1)) (step' := (fun x => gH82_v3_4 rec x.1 x.2.1 x.2.2.1 x.2.2.2.1 x.2.2.2.2.1 x.2.2.2.2.2.1 x.2.2.2.2.2.2.1 x.2.2.2.2.2.2.2.1 x.2.2.2.2.2.2.2.2.1 x.2.2.2.2.2.2.2.2.2.1 x.2.2.2.2.2.2.2.2.2.2.1 x.2.2.2.2.2.2.2.2.2.2.2.1)) (fun x => smr82_4 k0 k1 rec rec2 x.1 x.2.1 x.2.2.1 x.2.2.2.1 x.2.2.2.2.1 x.2.2.2.2.2.1 x.2.2.2.2.2.2.1 x.2.2.2.2.2.2.2.1 x.2.2.2.2.2.2.2.2.1 x.2.2.2.2.2.2.2.2.2.1) (nv0, v1, v2, v3, v18, v19, v20, v21, v22, b0, ())
theorem smf82 (k0 : Int) (k1 : Int) (rec : pH82_v3.T → Option qH82_v3.T) (rec2 : (Nat × Int × Int × Int × List (Int × Int) × Unit) → Option (List (Int × Int) × Unit)) (hrec : ∀ x, rec (x.1, x.2.1, x.2.2.1, x.2.2.2.1, x.2.2.2.2.1, k0, k1, ()) = mp (B := qH82_v3.T) (fun x => (k0, k1, x.1, ())) (rec2 x)) (nv0 : Nat) (v1 : Int) (v2 : Int) (v3 : Int) (b0 : List (Int × Int)) : FH82_v3 rec nv0 v1 v2 v3 b0 k0 k1 = mp (fun x => (k0, k1, x.1, ())) (S82 (fun a b => F75_v1 a b k0 k1) (0, 0) rec2 nv0 v1 v2 v3 b0) := by
 have hrec' := fun p q r t u => hrec (p, q, r, t, u, ())
 have hb : ∀ {X : Type} (f : qH82_v3.T → Option X) p q r t u, bindO (A := qH82_v3.T) (rec (p, q, r, t, u, k0, k1, ())) f = bindO (rec2 (p, q, r, t, u, ())) (fun x => f (k0, k1, x.1, ())) := fun f p q r t u => (congrArg (fun o => bindO o f) (hrec' p q r t u)).trans bd_mp
 unfold FH82_v3 S82
 simp only [mp_br, mp_nd, mp_bd, mp_s, bd_mp, hb, smi81_1, smi81_0, smf81, smi84_0, smf84, smi83_0, smf83, smi82_0 _ _ rec rec2, smi82_1 _ _ rec rec2, smi82_2 _ _ rec rec2, smi82_3 _ _ rec rec2, smi82_4 _ _ rec rec2]
 try rfl
theorem smf82fix (k0 : Int) (k1 : Int) (nv0 : Nat) (v1 : Int) (v2 : Int) (v3 : Int) (b0 : List (Int × Int)) : FH82_v3fix nv0 v1 v2 v3 b0 k0 k1 = mp (fun x => (k0, k1, x.1, ())) (S82fix (fun a b => F75_v1 a b k0 k1) (0, 0) nv0 v1 v2 v3 b0) :=
 fixO_map (fun (x : Nat × Int × Int × Int × List (Int × Int) × Unit) => (x.1, x.2.1, x.2.2.1, x.2.2.2.1, x.2.2.2.2.1, k0, k1, ())) (fun (x : List (Int × Int) × Unit) => (k0, k1, x.1, ())) (fun a b h => by simpa [Prod.ext_iff] using h) (F := fun rec x => S82 (fun a b => F75_v1 a b k0 k1) (0, 0) rec x.1 x.2.1 x.2.2.1 x.2.2.2.1 x.2.2.2.2.1) (F' := fun rec x => FH82_v3 rec x.1 x.2.1 x.2.2.1 x.2.2.2.1 x.2.2.2.2.1 x.2.2.2.2.2.1 x.2.2.2.2.2.2.1)
  (fun rec rec2 h x => smf82 k0 k1 rec rec2 h x.1 x.2.1 x.2.2.1 x.2.2.2.1 x.2.2.2.2.1) (nv0, v1, v2, v3, b0, ())
theorem smr79_0 (k0 : Int) (k1 : Int) (nv0 : Nat) (v1 : Int) (v6 : Int) (v7 : Int) (v8 : Int) (b0 : List (Int × Int)) : gH79_v3_0 nv0 v1 v6 v7 v8 b0 k0 k1 = mp (Sum.map (fun x => (x.1, x.2.1, x.2.2.1, x.2.2.2.1, x.2.2.2.2.1, x.2.2.2.2.2.1, k0, k1, ())) (fun x => (x.1, x.2.1, x.2.2.1, x.2.2.2.1, x.2.2.2.2.1, k0, k1, ()))) (s79_0 (fun a b => F75_v1 a b k0 k1) (0, 0) nv0 v1 v6 v7 v8 b0) := by
 unfold gH79_v3_0 s79_0
 simp only [mp_br, mp_nd, mp_bd, mp_s, bd_mp, Sum.map, smi81_1, smi81_0, smf81, smi84_0, smf84, smi83_0, smf83, smf82fix]
 try rfl
theorem smi79_0 (k0 : Int) (k1 : Int) (nv0 : Nat) (v1 : Int) (v6 : Int) (v7 : Int) (v8 : Int) (b0 : List (Int × Int)) : iter (fun x => gH79_v3_0 x.1 x.2.1 x.2.2.1 x.2.2.2.1 x.2.2.2.2.1 x.2.2.2.2.2.1 x.2.2.2.2.2.2.1 x.2.2.2.2.2.2.2.1) (nv0, v1, v6, v7, v8, b0, k0, k1, ()) = mp (fun x => (x.1, x.2.1, x.2.2.1, x.2.2.2.1, x.2.2.2.2.1, k0, k1, ())) (iter (fun x => s79_0 (fun a b => F75_v1 a b k0 k1) (0, 0) x.1 x.2.1 x.2.2.1 x.2.2.2.1 x.2.2.2.2.1 x.2.2.2.2.2.1) (nv0, v1, v6, v7, v8, b0, ())) :=
 iter_map (fun x => (x.1, x.2.1, x.2.2.1, x.2.2.2.1, x.2.2.2.2.1, x.2.2.2.2.2.1, k0, k1, ())) (fun x => (x.1, x.2.1, x.2.2.1, x.2.2.2.1, x.2.2.2.2.1, k0, k1, ())) (step := (fun x => s79_0 (fun a b => F75_v1 a b k0 k1) (0, 0) x.1 x.2.1 x.2.2.1 x.2.2.2.1 x.2.2.2.2.1 x.2.2.2.2.2.1)) (step' := (fun x => gH79_v3_0 x.1 x.2.1 x.2.2.1 x.2.2.2.1 x.2.2.2.2.1 x.2.2.2.2.2.1 x.2.2.2.2.2.2.1 x.2.2.2.2.2.2.2.1)) (fun x => smr79_0 k0 k1 x.1 x.2.1 x.2.2.1 x.2.2.2.1 x.2.2.2.2.1 x.2.2.2.2.2.1) (nv0, v1, v6, v7, v8, b0, ())
theorem smr79_2 (k0 : Int) (k1 : Int) (nv0 : Nat) (v1 : Int) (v6 : Int) (v7 : Int) (v8 : Int) (b0 : List (Int × Int)) : gH79_v3_2 nv0 v1 v6 v7 v8 b0 k0 k1 = mp (Sum.map (fun x => (x.1, x.2.1, x.2.2.1, x.2.2.2.1, x.2.2.2.2.1, x.2.2.2.2.2.1, k0, k1, ())) (fun x => (x.1, x.2.1, x.2.2.1, x.2.2.2.1, x.2.2.2.2.1, k0, k1, ()))) (s79_2 (fun a b => F75_v1 a b k0 k1) (0, 0) nv0 v1 v6 v7 v8 b0) := by
 unfold gH79_v3_2 s79_2
 simp only [mp_br, mp_nd, mp_bd, mp_s, bd_mp, Sum.map, smi81_1, smi81_0, smf81, smi84_0, smf84, smi83_0, smf83, smf82fix, smi79_0]
 try rfl
theorem smi79_2 (k0 : Int) (k1 : Int) (nv0 : Nat) (v1 : Int) (v6 : Int) (v7 : Int) (v8 : Int) (b0 : List (Int × Int)) : iter (fun x => gH79_v3_2 x.1 x.2.1 x.2.2.1 x.2.2.2.1 x.2.2.2.2.1 x.2.2.2.2.2.1 x.2.2.2.2.2.2.1 x.2.2.2.2.2.2.2.1) (nv0, v1, v6, v7, v8, b0, k0, k1, ()) = mp (fun x => (x.1, x.2.1, x.2.2.1, x.2.2.2.1, x.2.2.2.2.1, k0, k1, ())) (iter (fun x => s79_2 (fun a b => F75_v1 a b k0 k1) (0, 0) x.1 x.2.1 x.2.2.1 x.2.2.2.1 x.2.2.2.2.1 x.2.2.2.2.2.1) (nv0, v1, v6, v7, v8, b0, ())) :=
 iter_map (fun x => (x.1, x.2.1, x.2.2.1, x.2.2.2.1, x.2.2.2.2.1, x.2.2.2.2.2.1, k0, k1, ())) (fun x => (x.1, x.2.1, x.2.2.1, x.2.2.2.1, x.2.2.2.2.1, k0, k1, ())) (step := (fun x => s79_2 (fun a b => F75_v1 a b k0 k1) (0, 0) x.1 x.2.1 x.2.2.1 x.2.2.2.1 x.2.2.2.2.1 x.2.2.2.2.2.1)) (step' := (fun x => gH79_v3_2 x.1 x.2.1 x.2.2.1 x.2.2.2.1 x.2.2.2.2.1 x.2.2.2.2.2.1 x.2.2.2.2.2.2.1 x.2.2.2.2.2.2.2.1)) (fun x => smr79_2 k0 k1 x.1 x.2.1 x.2.2.1 x.2.2.2.1 x.2.2.2.2.1 x.2.2.2.2.2.1) (nv0, v1, v6, v7, v8, b0, ())
theorem smr79_1 (k0 : Int) (k1 : Int) (nv0 : Nat) (v1 : Int) (v6 : Int) (b0 : List (Int × Int)) : gH79_v3_1 nv0 v1 v6 b0 k0 k1 = mp (Sum.map (fun x => (x.1, x.2.1, x.2.2.1, x.2.2.2.1, k0, k1, ())) (fun x => (k0, k1, x.1, ()))) (s79_1 (fun a b => F75_v1 a b k0 k1) (0, 0) nv0 v1 v6 b0) := by
 unfold gH79_v3_1 s79_1
 simp only [mp_br, mp_nd, mp_bd, mp_s, bd_mp, Sum.map, smi81_1, smi81_0, smf81, smi84_0, smf84, smi83_0, smf83, smf82fix, smi79_0, smi79_2]
 try rfl
theorem smi79_1 (k0 : Int) (k1 : Int) (nv0 : Nat) (v1 : Int) (v6 : Int) (b0 : List (Int × Int)) : iter (fun x => gH79_v3_1 x.1 x.2.1 x.2.2.1 x.2.2.2.1 x.2.2.2.2.1 x.2.2.2.2.2.1) (nv0, v1, v6, b0, k0, k1, ()) = mp (fun x => (k0, k1, x.1, ())) (iter (fun x => s79_1 (fun a b => F75_v1 a b k0 k1) (0, 0) x.1 x.2.1 x.2.2.1 x.2.2.2.1) (nv0, v1, v6, b0, ())) :=
 iter_map (fun x => (x.1, x.2.1, x.2.2.1, x.2.2.2.1, k0, k1, ())) (fun x => (k0, k1, x.1, ())) (step := (fun x => s79_1 (fun a b => F75_v1 a b k0 k1) (0, 0) x.1 x.2.1 x.2.2.1 x.2.2.2.1)) (step' := (fun x => gH79_v3_1 x.1 x.2.1 x.2.2.1 x.2.2.2.1 x.2.2.2.2.1 x.2.2.2.2.2.1)) (fun x => smr79_1 k0 k1 x.1 x.2.1 x.2.2.1 x.2.2.2.1) (nv0, v1, v6, b0, ())
theorem smf79 (k0 : Int) (k1 : Int) (nv0 : Nat) (v1 : Int) (b0 : List (Int × Int)) : FH79_v3 nv0 v1 b0 k0 k1 = mp (fun x => (k0, k1, x.1, ())) (S79 (fun a b => F75_v1 a b k0 k1) (0, 0) nv0 v1 b0) := by
 unfold FH79_v3 S79
 simp only [mp_br, mp_nd, mp_bd, mp_s, bd_mp, smi81_1, smi81_0, smf81, smi84_0, smf84, smi83_0, smf83, smf82fix, smi79_0, smi79_2, smi79_1]
 try rfl
theorem smf74 (k0 : Int) (k1 : Int) (nv0 : Nat) (b0 : List (Int × Int)) : FH74_v3 nv0 b0 k0 k1 = mp (fun x => (k0, k1, x.1, ())) (S74 (fun a b => F75_v1 a b k0 k1) (0, 0) nv0 b0) := by
 unfold FH74_v3 S74
 simp only [mp_br, mp_nd, mp_bd, mp_s, bd_mp, smi81_1, smi81_0, smf81, smi84_0, smf84, smi83_0, smf83, smf82fix, smi79_0, smi79_2, smi79_1, smf79]
 try rfl
end Go.Proofs.Try
end
section
open Go.AM Go.Gm Go.Srt
namespace Go.Proofs.Try
set_option linter.unusedVariables false
set_option linter.unusedSimpArgs false
theorem F75_v1_ok (a : Nat) (v : Int) (hv : -1 ≤ v ∧ v ≤ 1) : CmpOk (fun x y => F75_v1 x y (a : Int) v) (ltF (favF a v)) GoodS := ⟨ltF_ord _, fun x y hx hy => by
 obtain ⟨⟨a1, a2⟩, a3, a4⟩ := hx
 obtain ⟨⟨b1, b2⟩, b3, b4⟩ := hy
 have f78 : ∀ i : Int, F78 i a v = some (favF a v i, ()) := fun i => by
  unfold F78 favF; rw [br_eq]; by_cases c : i = a <;> simp [c]
 have fb : ∀ i : Int, -1 ≤ favF a v i ∧ favF a v i ≤ 1 := fun i => by unfold favF; split <;> omega
 have fx := fb x.2
 have fy := fb y.2
 unfold F75_v1
 by_cases h : x = y
 ·subst h
  refine ⟨0, ?_, ?_⟩
  ·rw [br_t (by simp)]
  ·simp [ltF]
 ·have hne : ((x.1 == y.1) && ((x.2 == y.2) && true)) = false := by
   cases hc : ((x.1 == y.1) && ((x.2 == y.2) && true)) with
   | false => rfl
   | true => exact absurd (Prod.ext_iff.2 (by simpa using hc)) h
  refine ⟨_, ?_, ltF_z (by omega) (by omega)⟩
  rw [br_f hne, need_i64 (by omega) (by omega), f78, f78, bindO_s, bindO_s, need_i64 (by omega) (by omega), need_i64 (by omega) (by omega)]
  have := F76_3 (y.1 - x.1) (favF a v y.2 - favF a v x.2) (x.2 - y.2)
  simp only [List.drop_zero]
  rw [show List.take 3 [y.1 - x.1, favF a v y.2 - favF a v x.2, x.2 - y.2] = [y.1 - x.1, favF a v y.2 - favF a v x.2, x.2 - y.2] by rfl, this, bindO_s]⟩
theorem F58_v1_in {l : List (List Int)} {f : List Int} {base : List (Int × Int)} {i : Nat} {a v : Int} (hi : i < 1000) (hf : f.length ≤ 10) (hb : base.length ≤ 1000) :
  iter (fun x => g58_v1_1 x.1 x.2.1 x.2.2.1 x.2.2.2.1 x.2.2.2.2.1 x.2.2.2.2.2.1 x.2.2.2.2.2.2.1 x.2.2.2.2.2.2.2.1 x.2.2.2.2.2.2.2.2.1 x.2.2.2.2.2.2.2.2.2.1 x.2.2.2.2.2.2.2.2.2.2.1) (base.length, (i : Int), l, ((l.length : Nat) : Int), (i : Int), f, ((f.length : Nat) : Int), (0 : Int), a, v, base, ()) =
  some ((base ++ f.map (fun g => (g, (i : Int)))).length, l, ((l.length : Nat) : Int), (i : Int), a, v, base ++ f.map (fun g => (g, (i : Int))), ()) := by
 have key := iter_count (step := fun x => g58_v1_1 x.1 x.2.1 x.2.2.1 x.2.2.2.1 x.2.2.2.2.1 x.2.2.2.2.2.1 x.2.2.2.2.2.2.1 x.2.2.2.2.2.2.2.1 x.2.2.2.2.2.2.2.2.1 x.2.2.2.2.2.2.2.2.2.1 x.2.2.2.2.2.2.2.2.2.2.1) f.length
  (fun k => ((base ++ (f.take k).map (fun g => (g, (i : Int)))).length, (i : Int), l, ((l.length : Nat) : Int), (i : Int), f, ((f.length : Nat) : Int), (k : Int), a, v, base ++ (f.take k).map (fun g => (g, (i : Int))), ()))
  (b := ((base ++ f.map (fun g => (g, (i : Int)))).length, l, ((l.length : Nat) : Int), (i : Int), a, v, base ++ f.map (fun g => (g, (i : Int))), ())) (fun k hk => by
   simp only [g58_v1_1, Int.toNat_natCast]
   rw [br_d, if_pos (by omega), need_inb (by omega) (by omega), need_big (by simp; omega), need_i64 (by omega) (by omega), take_succ_getD 0 hk]
   simp
   exact ⟨by omega, by rw [List.take_of_length_le (by simp)]; simp⟩) (by
   simp only [g58_v1_1]; rw [br_d, if_neg (by omega), List.take_length])
 simp only [List.take_zero, List.map_nil, List.append_nil, Int.natCast_zero] at key
 exact key
theorem F58_v1_eq {l : List (List Int)} (h : Val l) (a : Nat) {v : Int} (hv : -1 ≤ v ∧ v ≤ 1) : F58_v1 l a v = some (stepsF (favF a v) l, ()) := by
 have hl := h.len
 have hfl := h.flat
 have key := iter_count (step := fun x => g58_v1_0 x.1 x.2.1 x.2.2.1 x.2.2.2.1 x.2.2.2.2.1 x.2.2.2.2.2.1 x.2.2.2.2.2.2.1) l.length
  (fun k => ((allFrom 0 (l.take k)).length, l, ((l.length : Nat) : Int), (k : Int), (a : Int), v, allFrom 0 (l.take k), ()))
  (b := ((allFrom 0 l).length, (a : Int), v, allFrom 0 l, ())) (fun k hk => by
   have e := allFrom_append 0 (l.take k) [l.getD k []]
   rw [← take_succ_getD [] hk] at e
   have hlen : (allFrom 0 (l.take k)).length ≤ 120 := by rw [allFrom_length]; have := flat_len h k; omega
   have e2 : (l.take k).length = k := by simp; omega
   rw [e2, Nat.zero_add] at e
   simp only [allFrom, List.append_nil] at e
   simp only [g58_v1_0, Int.toNat_natCast]
   rw [br_d, if_pos (by omega), need_inb (by omega) (by omega), bind_of (F58_v1_in (l := l) (f := l.getD k []) (by omega) (h.getD k).1 (by omega))]
   dsimp only
   rw [need_i64 (by omega) (by omega), e]
   simp) (by simp only [g58_v1_0]; rw [br_d, if_neg (by omega), List.take_length])
 simp only [List.take_zero, allFrom, List.length_nil, Int.natCast_zero] at key
 unfold F58_v1
 rw [bind_of key]
 dsimp only
 rw [smf74, S74_ok (F75_v1_ok a v hv) (fun z hz => allFrom_good h hz) rfl (by rw [allFrom_length]; omega), mp_s, bindO_s]
 unfold F77
 dsimp only
 rw [bindO_s]
 have : List.take (allFrom 0 l).length (srt (ltF (favF a v)) (allFrom 0 l)) = srt (ltF (favF a v)) (allFrom 0 l) := List.take_of_length_le (by rw [srt_length]; omega)
 simp only [List.drop_zero]
 rw [this]
 rfl
/-- Does a step count for a field? -/
def cntB (a : Nat) (v : Int) (s : Int × Int) : Bool := inF a s && (decide (0 < v) || decide (0 < s.1))
def cntQ (a : Nat) (v : Int) (t : List (Int × Int)) : Nat := (t.filter (cntB a v)).length
theorem cntQ_snoc (a : Nat) (v : Int) (t : List (Int × Int)) (s : Int × Int) : cntQ a v (t ++ [s]) = cntQ a v t + (if cntB a v s = true then 1 else 0) := by
 simp only [cntQ, List.filter_append, List.length_append, List.filter_cons]
 by_cases h : cntB a v s = true <;> simp [h]
theorem F67_eq {l : List (List Int)} (h : Val l) (a : Nat) {v : Int} (hv : -1 ≤ v ∧ v ≤ 1) {g : Nat} (hg : g ≤ 200) : F67 l a g v = some (((cntQ a v ((stepsF (favF a v) l).take g) : Nat) : Int), ()) := by
 have ht := steps_len h (favF a v)
 have hgood : ∀ s ∈ stepsF (favF a v) l, GoodS s := fun s hs => steps_good h _ hs
 unfold F67
 rw [F58_v1_eq h a hv, bindO_s]
 dsimp only
 generalize stepsF (favF a v) l = t at *
 have key := iter_count (step := fun x => g67_0i_0 x.1 x.2.1 x.2.2.1 x.2.2.2.1 x.2.2.2.2.1 x.2.2.2.2.2.1 x.2.2.2.2.2.2.1 x.2.2.2.2.2.2.2.1 x.2.2.2.2.2.2.2.2.1) (min g t.length)
  (fun k => (t, ((t.length : Nat) : Int), (k : Int), (0 : Int), t, (a : Int), (g : Int) - k, v, ((cntQ a v (t.take k) : Nat) : Int), ()))
  (b := if g < t.length then .inl ((a : Int), (0 : Int), v, ((cntQ a v (t.take g) : Nat) : Int), (0 : Int), t, ()) else .inr ((a : Int), (g : Int) - t.length, v, ((cntQ a v (t.take g) : Nat) : Int), (0 : Int), t, ())) (fun k hk => by
   have hkt : k < t.length := by omega
   have hq : cntQ a v (t.take k) ≤ k := by have := List.length_filter_le (cntB a v) (t.take k); simp at this; unfold cntQ; omega
   simp only [g67_0i_0, Int.toNat_natCast]
   rw [br_d, if_pos (by omega), need_inb (by omega) (by omega), br_eq, if_neg (by omega), need_i64 (by omega) (by omega), br_eq, take_succ_getD (0, 0) hkt, cntQ_snoc]
   obtain ⟨s, hs⟩ : ∃ s, t.getD k (0, 0) = s := ⟨_, rfl⟩
   simp only [hs]
   by_cases c1 : s.2 = (a : Int)
   ·rw [if_pos c1, br_d]
    by_cases c2 : 0 < v
    ·rw [if_pos c2, need_i64 (by omega) (by omega), need_i64 (by omega) (by omega), if_pos (by simp [cntB, inF, c1, c2])]
     simp; omega
    ·rw [if_neg c2, br_d]
     by_cases c3 : 0 < s.1
     ·rw [if_pos c3, need_i64 (by omega) (by omega), need_i64 (by omega) (by omega), if_pos (by simp [cntB, inF, c1, c3])]
      simp; omega
     ·rw [if_neg c3, need_i64 (by omega) (by omega), if_neg (by simp [cntB, inF, c2, c3])]
      simp; omega
   ·rw [if_neg c1, need_i64 (by omega) (by omega), if_neg (by simp [cntB, inF, c1])]
    simp; omega) (by
   simp only [g67_0i_0, Int.toNat_natCast]
   by_cases c : g < t.length
   ·rw [show min g t.length = g by omega, br_d, if_pos (by omega), need_inb (by omega) (by omega), br_eq, if_pos (by omega), if_pos c]
    simp
   ·rw [show min g t.length = t.length by omega, br_d, if_neg (by omega), if_neg c, List.take_length, List.take_of_length_le (by omega)])
 have e0 : cntQ a v [] = 0 := rfl
 simp only [List.take_zero, Int.natCast_zero, Int.sub_zero, e0] at key
 unfold g67_0
 rw [bind_of key]
 by_cases c : g < t.length
 ·rw [if_pos c]; simp only [bindO_s]
 ·rw [if_neg c]; simp only [bindO_s]
/-- The reference's way: the last one before which there are few enough. -/
def befP (most : Bool) (g x : Int) : Bool := decide (g < x) || (!most && x == g)
theorem oth_take {l : List (List Int)} {most : Bool} {a k : Nat} {g : Int} (hk : k < l.length) : (allFrom 0 (l.take (k + 1))).countP (othB most a g) = (allFrom 0 (l.take k)).countP (othB most a g) + (if k = a then 0 else (l.getD k []).countP (befP most g)) := by
 rw [take_succ_getD [] hk, allFrom_append, List.countP_append]
 have e2 : (l.take k).length = k := by simp; omega
 rw [e2, Nat.zero_add]
 congr 1
 simp only [allFrom, List.append_nil, List.countP_map]
 by_cases c : k = a
 ·rw [if_pos c, List.countP_eq_zero]
  intro x hx; simp [othB, inF, c]
 ·rw [if_neg c]
  apply List.countP_congr
  intro x hx
  have : ¬ ((k : Int) = a) := by omega
  simp [othB, inF, befP, this]
theorem F72_2 {l : List (List Int)} (h : Val l) {a i : Nat} (hi : i < l.length) {most : Bool} {g v9 v10 : Int} {b : Nat} (hb : b ≤ 1000) :
  iter (fun x => g72_2 x.1 x.2.1 x.2.2.1 x.2.2.2.1 x.2.2.2.2.1 x.2.2.2.2.2.1 x.2.2.2.2.2.2.1 x.2.2.2.2.2.2.2.1 x.2.2.2.2.2.2.2.2.1) (l, (a : Int), g, most, v9, v10, (b : Int), (i : Int), (0 : Int), ()) =
   some (l, (a : Int), g, most, v9, v10, ((b + (if i = a then 0 else (l.getD i []).countP (befP most v10)) : Nat) : Int), (i : Int), ()) := by
 have hl := h.len
 have hg := h.getD i
 by_cases c : i = a
 ·rw [if_pos c]
  apply iter_inr
  simp only [g72_2, Int.toNat_natCast]
  rw [need_inb (by omega) (by omega), br_d]
  by_cases c2 : (0 : Int) < (((l.getD i []).length : Nat) : Int)
  ·rw [if_pos c2, br_not, br_eq, if_pos (by omega)]; rfl
  ·rw [if_neg c2]; rfl
 ·rw [if_neg c]
  have key := iter_count (step := fun x => g72_2 x.1 x.2.1 x.2.2.1 x.2.2.2.1 x.2.2.2.2.1 x.2.2.2.2.2.1 x.2.2.2.2.2.2.1 x.2.2.2.2.2.2.2.1 x.2.2.2.2.2.2.2.2.1) (l.getD i []).length
   (fun k => (l, (a : Int), g, most, v9, v10, ((b + ((l.getD i []).take k).countP (befP most v10) : Nat) : Int), (i : Int), (k : Int), ()))
   (b := (l, (a : Int), g, most, v9, v10, ((b + (l.getD i []).countP (befP most v10) : Nat) : Int), (i : Int), ())) (fun k hk => by
    have hc : ((l.getD i []).take k).countP (befP most v10) ≤ k := by have := List.countP_le_length (p := befP most v10) (l := (l.getD i []).take k); simp only [List.length_take] at this; omega
    simp only [g72_2, Int.toNat_natCast]
    rw [need_inb (by omega) (by omega), br_d, if_pos (by omega), br_not, br_eq, if_neg (by omega), need_inb (by omega) (by omega), need_inb (by omega) (by omega), br_d, take_succ_getD 0 hk, List.countP_append]
    by_cases c1 : v10 < (l.getD i []).getD k 0
    ·have e : List.countP (befP most v10) [(l.getD i []).getD k 0] = 1 := by rw [List.countP_singleton, if_pos (by unfold befP; simp only [Bool.or_eq_true, decide_eq_true_eq]; exact .inl c1)]
     rw [if_pos c1, need_i64 (by omega) (by omega), need_i64 (by omega) (by omega), e]
     simp; omega
    ·rw [if_neg c1, br_not]
     cases hm : most with
     | true =>
      have e : List.countP (befP true v10) [(l.getD i []).getD k 0] = 0 := by rw [List.countP_singleton, if_neg (by unfold befP; simp only [Bool.not_true, Bool.false_and, Bool.or_false, decide_eq_true_eq]; exact c1)]
      rw [br_t rfl, need_i64 (by omega) (by omega), e]
      simp
     | false =>
      rw [br_f rfl, need_inb (by omega) (by omega), need_inb (by omega) (by omega), br_eq]
      by_cases c2 : (l.getD i []).getD k 0 = v10
      ·have e : List.countP (befP false v10) [(l.getD i []).getD k 0] = 1 := by rw [List.countP_singleton, if_pos (by simp only [befP, c2]; simp)]
       rw [if_pos c2, need_i64 (by omega) (by rw [hm] at hc; omega), need_i64 (by omega) (by omega), e]
       simp; omega
      ·have e : List.countP (befP false v10) [(l.getD i []).getD k 0] = 0 := by rw [List.countP_singleton, if_neg (by simp only [befP, Bool.or_eq_true, decide_eq_true_eq, Bool.and_eq_true, beq_iff_eq]; rintro (hh | hh); exact c1 hh; exact c2 hh.2)]
       rw [if_neg c2, need_i64 (by omega) (by omega), e]
       simp) (by
    simp only [g72_2, Int.toNat_natCast]; rw [need_inb (by omega) (by omega), br_d, if_neg (by omega), List.take_length])
  simp only [List.take_zero, List.countP_nil, Nat.add_zero, Int.natCast_zero] at key
  exact key
theorem F72_1 {l : List (List Int)} (h : Val l) {a n : Nat} {most : Bool} {g v9 v10 : Int} (hn : n ≤ 100) :
  iter (fun x => g72_1 x.1 x.2.1 x.2.2.1 x.2.2.2.1 x.2.2.2.2.1 x.2.2.2.2.2.1 x.2.2.2.2.2.2.1 x.2.2.2.2.2.2.2.1) (l, (a : Int), g, most, v9, v10, (n : Int), (0 : Int), ()) =
   some (l, (a : Int), g, most, v9, v10, ((n + (allFrom 0 l).countP (othB most a v10) : Nat) : Int), ()) := by
 have hl := h.len
 have key := iter_count (step := fun x => g72_1 x.1 x.2.1 x.2.2.1 x.2.2.2.1 x.2.2.2.2.1 x.2.2.2.2.2.1 x.2.2.2.2.2.2.1 x.2.2.2.2.2.2.2.1) l.length
  (fun k => (l, (a : Int), g, most, v9, v10, ((n + (allFrom 0 (l.take k)).countP (othB most a v10) : Nat) : Int), (k : Int), ()))
  (b := (l, (a : Int), g, most, v9, v10, ((n + (allFrom 0 l).countP (othB most a v10) : Nat) : Int), ())) (fun k hk => by
   have hc : (allFrom 0 (l.take k)).countP (othB most a v10) ≤ 120 := by
    have := List.countP_le_length (p := othB most a v10) (l := allFrom 0 (l.take k))
    rw [allFrom_length] at this
    have := flat_len h k
    omega
   simp only [g72_1]
   rw [br_d, if_pos (by omega), bind_of (F72_2 h hk (by omega))]
   dsimp only
   rw [need_i64 (by omega) (by omega), oth_take hk, Nat.add_assoc]
   simp) (by simp only [g72_1]; rw [br_d, if_neg (by omega), List.take_length])
 have e0 : (allFrom 0 (l.take 0)).countP (othB most a v10) = 0 := by simp [allFrom]
 simp only [e0, Nat.add_zero, Int.natCast_zero] at key
 exact key
/-- Is the n-th gang of a field there? -/
def getB (l : List (List Int)) (a g : Nat) (most : Bool) (n : Nat) : Bool := decide (n - 1 + (allFrom 0 l).countP (othB most a ((l.getD a []).getD (n - 1) 0)) < g) && (most || decide (0 < (l.getD a []).getD (n - 1) 0))
theorem F72_eq {l : List (List Int)} (h : Val l) {a g : Nat} (ha : a < l.length) {most : Bool} {N : Nat} (hN : N ≤ (l.getD a []).length) (hh : ∀ n, 1 ≤ n → n ≤ (l.getD a []).length → (getB l a g most n = true ↔ n ≤ N)) : F72 l a g most = some ((N : Int), ()) := by
 have hl := h.len
 have hg := h.getD a
 generalize hL : (l.getD a []).length = L at *
 unfold F72
 have key := iter_find (step := fun x => g72_0 x.1 x.2.1 x.2.2.1 x.2.2.2.1 x.2.2.2.2.1) L (fun k => (l, (a : Int), (g : Int), most, (L : Int) - k, ())) (fun k => if getB l a g most (L - k) = true then some (L - k) else none) (fun n => .inl ((n : Int), ())) (b := .inr ()) (fun k hk _ => by
  have hc : ∀ v, (allFrom 0 l).countP (othB most a v) ≤ 120 := fun v => by
   have := List.countP_le_length (p := othB most a v) (l := allFrom 0 l)
   rw [allFrom_length] at this
   have := h.flat
   omega
  have e : ((L : Int) - k - 1).toNat = L - k - 1 := by omega
  have e2 : (L : Int) - k - 1 = ((L - k - 1 : Nat) : Int) := by omega
  simp only [g72_0, Int.toNat_natCast, e]
  rw [br_d, if_pos (by omega), need_inb (by omega) (by omega), need_i64 (by omega) (by omega), need_inb (by omega) (by omega), need_i64 (by omega) (by omega), e2, bind_of (F72_1 h (by omega))]
  dsimp only
  rw [br_d]
  unfold getB
  by_cases c1 : L - k - 1 + (allFrom 0 l).countP (othB most a ((l.getD a []).getD (L - k - 1) 0)) < g
  ·rw [if_pos (by omega)]
   cases hm : most with
   | true =>
    rw [hm] at c1
    rw [br_t rfl, if_pos (by simp only [Bool.true_or, Bool.and_true, decide_eq_true_eq]; exact c1)]
    simp; omega
   | false =>
    rw [hm] at c1
    rw [br_f rfl, br_d]
    by_cases c2 : 0 < (l.getD a []).getD (L - k - 1) 0
    ·rw [if_pos c2, if_pos (by simp only [Bool.and_eq_true, decide_eq_true_eq, Bool.or_eq_true]; exact ⟨c1, .inr c2⟩)]
     simp; omega
    ·rw [if_neg c2, need_i64 (by omega) (by omega), if_neg (by simp only [Bool.and_eq_true, decide_eq_true_eq, Bool.or_eq_true]; rintro ⟨_, hh | hh⟩; cases hh; exact c2 hh)]
     simp; omega
  ·rw [if_neg (by omega), need_i64 (by omega) (by omega), if_neg (by simp only [Bool.and_eq_true, decide_eq_true_eq]; rintro ⟨hh, _⟩; exact c1 hh)]
   simp; omega) (fun _ => by simp only [g72_0]; rw [br_d, if_neg (by omega)])
 simp only [Int.natCast_zero, Int.sub_zero] at key
 rw [need_inb (by omega) (by omega), Int.toNat_natCast, hL, bind_of key]
 cases hf : (List.range L).findSome? (fun k => if getB l a g most (L - k) = true then some (L - k) else none) with
 | none =>
  have : N = 0 := by
   by_cases c : N = 0
   ·exact c
   ·have := List.findSome?_eq_none_iff.1 hf (L - N) (by simp; omega)
    rw [show L - (L - N) = N by omega, if_pos ((hh N (by omega) hN).2 (Nat.le_refl _))] at this
    cases this
  subst this
  rfl
 | some n =>
  obtain ⟨l1, k, l2, e1, e2, e3⟩ := List.findSome?_eq_some_iff.1 hf
  by_cases c : getB l a g most (L - k) = true
  ·rw [if_pos c] at e2
   cases e2
   have hk : k = l1.length := by
    have : (List.range L)[l1.length]? = some k := by rw [e1]; simp
    rw [List.getElem?_range (by have := congrArg List.length e1; simp at this; omega)] at this
    cases this; rfl
   have hkL : k < L := by have := congrArg List.length e1; simp at this; omega
   have h1 := (hh (L - k) (by omega) (by omega)).1 c
   have h2 : N ≤ L - k := by
    by_cases c2 : N ≤ L - k
    ·exact c2
    ·exfalso
     have hm : L - N ∈ l1 := by
      have : (List.range L)[L - N]? = some (L - N) := List.getElem?_range (by omega)
      rw [e1, List.getElem?_append_left (by omega)] at this
      exact List.mem_of_getElem? this
     have := e3 _ hm
     rw [show L - (L - N) = N by omega, if_pos ((hh N (by omega) hN).2 (Nat.le_refl _))] at this
     cases this
   have : L - k = N := by omega
   rw [this]; rfl
  ·rw [if_neg c] at e2; cases e2
end Go.Proofs.Try
end
section
open Go.AM Go.Gm Go.Srt
namespace Go.Proofs.Try
set_option linter.unusedVariables false
set_option linter.unusedSimpArgs false
theorem pos_prefix : ∀ {L : List Int}, Tops.Desc L → ∀ {n : Nat}, 1 ≤ n → (n ≤ (L.filter (fun x => decide (0 < x))).length ↔ n ≤ L.length ∧ 0 < L.getD (n - 1) 0)
 | [], _, n, hn => by simp; omega
 | x :: L, hd, n, hn => by
  have hp := List.pairwise_cons.1 hd
  by_cases c : 0 < x
  ·rw [List.filter_cons, if_pos (by simpa using c)]
   by_cases e : n = 1
   ·subst e; simp [c]
   ·have ih := pos_prefix hp.2 (n := n - 1) (by omega)
    rw [show n - 1 = (n - 1 - 1) + 1 by omega, List.getD_cons_succ]
    simp only [List.length_cons]
    omega
  ·have e : (x :: L).filter (fun x => decide (0 < x)) = [] := by
    rw [List.filter_eq_nil_iff]
    intro y hy
    rcases List.mem_cons.1 hy with rfl | hy
    ·simpa using c
    ·have := hp.1 y hy; simp; omega
   rw [e]
   simp only [List.length_nil, List.length_cons]
   constructor
   ·intro h; omega
   ·intro ⟨h1, h2⟩
    exfalso
    by_cases e : n = 1
    ·subst e; exact c h2
    ·rw [show n - 1 = (n - 2) + 1 by omega, List.getD_cons_succ] at h2
     by_cases hk : n - 2 < L.length
     ·have := hp.1 _ (getD_mem (d := 0) hk); omega
     ·rw [getD_out 0 (by omega)] at h2; omega
theorem field_take (fv : Int → Int) {l : List (List Int)} (h : ∀ f ∈ l, Tops.Desc f) (a g : Nat) : (((stepsF fv l).take g).filter (inF a)).map (·.1) = (l.getD a []).take (cnt a ((stepsF fv l).take g)) := by
 rw [take_filter_prefix, List.map_take, steps_field fv h]; rfl
theorem gets_cnt {l : List (List Int)} (h : Val l) {a : Nat} {v : Int} {most : Bool} (hv : (v = 1 ∧ most = true) ∨ (v = -1 ∧ most = false)) (g : Nat) :
  cntQ a v ((stepsF (favF a v) l).take g) ≤ (l.getD a []).length ∧ ∀ n, 1 ≤ n → n ≤ (l.getD a []).length → (getB l a g most n = true ↔ n ≤ cntQ a v ((stepsF (favF a v) l).take g)) := by
 have hC := field_cnt (favF a v) h.desc a g
 have hd : Tops.Desc (l.getD a []) := by
  by_cases c : a < l.length
  ·exact h.desc _ (getD_mem c)
  ·rw [getD_out [] (by omega)]; exact List.Pairwise.nil
 have am : ∀ n, 1 ≤ n → n ≤ (l.getD a []).length → (n - 1 + (allFrom 0 l).countP (othB most a ((l.getD a []).getD (n - 1) 0)) < g ↔ n ≤ cnt a ((stepsF (favF a v) l).take g)) := fun n h1 h2 => by
  rw [← among h.desc hv (n := n - 1) (by omega)]; omega
 rcases hv with ⟨rfl, rfl⟩ | ⟨rfl, rfl⟩
 ·have e : cntQ a 1 ((stepsF (favF a 1) l).take g) = cnt a ((stepsF (favF a 1) l).take g) := by
   unfold cntQ cnt
   congr 1
   apply List.filter_congr
   intro x _
   simp [cntB]
  rw [e]
  refine ⟨hC, fun n h1 h2 => ?_⟩
  rw [← am n h1 h2]
  unfold getB
  simp only [Bool.true_or, Bool.and_true, decide_eq_true_eq]
 ·have e : cntQ a (-1) ((stepsF (favF a (-1)) l).take g) = (((l.getD a []).take (cnt a ((stepsF (favF a (-1)) l).take g))).filter (fun x => decide (0 < x))).length := by
   rw [← field_take _ h.desc, List.filter_map, List.length_map, List.filter_filter]
   unfold cntQ
   congr 1
   apply List.filter_congr
   intro x _
   simp only [cntB, Function.comp]
   rw [Bool.and_comm]
   simp
  have hd2 : Tops.Desc ((l.getD a []).take (cnt a ((stepsF (favF a (-1)) l).take g))) := hd.sublist (List.take_sublist _ _)
  rw [e]
  refine ⟨?_, fun n h1 h2 => ?_⟩
  ·have := List.length_filter_le (fun x => decide (0 < x)) ((l.getD a []).take (cnt a ((stepsF (favF a (-1)) l).take g)))
   simp only [List.length_take] at this
   omega
  ·rw [pos_prefix hd2 h1, List.length_take]
   unfold getB
   simp only [Bool.false_or, Bool.and_eq_true, decide_eq_true_eq]
   rw [am n h1 h2]
   constructor
   ·intro ⟨q1, q2⟩
    refine ⟨by omega, ?_⟩
    rw [getD_take (by omega)]; exact q2
   ·intro ⟨q1, q2⟩
    rw [getD_take (by omega)] at q2
    exact ⟨by omega, q2⟩
theorem gets_eq {l : List (List Int)} (h : Val l) {a : Nat} (ha : a < l.length) {v : Int} {most : Bool} (hv : (v = 1 ∧ most = true) ∨ (v = -1 ∧ most = false)) {g : Nat} (hg : g ≤ 200) :
  F67 l a g v = some (((cntQ a v ((stepsF (favF a v) l).take g) : Nat) : Int), ()) ∧ F72 l a g most = some (((cntQ a v ((stepsF (favF a v) l).take g) : Nat) : Int), ()) := by
 have hc := gets_cnt h hv (a := a) g
 exact ⟨F67_eq h a (by omega) hg, F72_eq h ha hc.1 hc.2⟩
theorem F71_in {l : Gs} (hl : l.length ≤ 12) (ht : ∀ t ∈ l, t.length ≤ 10) (hi : Bool) {i n : Nat} (h : i < l.length) {b0 : List (List Int)} :
  iter (fun x => g71_1 x.1 x.2.1 x.2.2.1 x.2.2.2.1 x.2.2.2.2.1 x.2.2.2.2.2.1 x.2.2.2.2.2.2.1 x.2.2.2.2.2.2.2.1) (l, hi, n, (i : Int), 0, (0 : Int), b0, [], ()) = some (l, hi, n, (i : Int), (l.getD i []).length, b0, (l.getD i []).map (fun s => if hi = true then s.2 else s.1), ()) := by
 have hlen := ht _ (getD_mem (d := []) h)
 have key := iter_count (step := fun x => g71_1 x.1 x.2.1 x.2.2.1 x.2.2.2.1 x.2.2.2.2.1 x.2.2.2.2.2.1 x.2.2.2.2.2.2.1 x.2.2.2.2.2.2.2.1) (l.getD i []).length
  (fun k => (l, hi, n, (i : Int), k, (k : Int), b0, ((l.getD i []).take k).map (fun s => if hi = true then s.2 else s.1), ())) (b := (l, hi, n, (i : Int), (l.getD i []).length, b0, (l.getD i []).map (fun s => if hi = true then s.2 else s.1), ())) (fun k hk => by
   simp only [g71_1, Int.toNat_natCast]
   rw [need_inb (by omega) (by omega), br_d, if_pos (by omega), take_succ_getD (0, 0) hk]
   cases hi with
   | true =>
    rw [br_t rfl, need_inb (by omega) (by omega), need_inb (by omega) (by omega), need_big (by simp; omega), need_i64 (by omega) (by omega)]
    simp
    rw [List.take_of_length_le (by simp; omega)]
   | false =>
    rw [br_f rfl, need_inb (by omega) (by omega), need_inb (by omega) (by omega), need_big (by simp; omega), need_i64 (by omega) (by omega)]
    simp
    rw [List.take_of_length_le (by simp; omega)]) (by
   simp only [g71_1, Int.toNat_natCast]; rw [need_inb (by omega) (by omega), br_d, if_neg (by omega), List.take_length])
 simp only [List.take_zero, List.map_nil, Int.natCast_zero] at key
 exact key
theorem errTg_none {t : List (Int × Int)} (h : errTg t = none) : (Small (t.map (·.1)) 1000000 ∧ Tops.Desc (t.map (·.1))) ∧ (Small (t.map (·.2)) 1000000 ∧ Tops.Desc (t.map (·.2))) ∧ ∀ s ∈ t, s.1 ≤ s.2 := by
 unfold errTg at h
 rw [findSome_none] at h
 have h1 : ∀ k, k < t.length → 0 ≤ (t.getD k (0, 0)).1 ∧ (t.getD k (0, 0)).1 ≤ (t.getD k (0, 0)).2 ∧ (t.getD k (0, 0)).2 ≤ 1000000 := fun k hk => by
  have := h k hk
  unfold stopTg at this
  by_cases hh : 0 ≤ (t.getD k (0, 0)).1 ∧ (t.getD k (0, 0)).1 ≤ (t.getD k (0, 0)).2 ∧ (t.getD k (0, 0)).2 ≤ 1000000
  ·exact hh
  ·rw [if_pos hh] at this; cases this
 have h2 : ∀ k, k + 1 < t.length → (t.getD (k + 1) (0, 0)).1 ≤ (t.getD k (0, 0)).1 ∧ (t.getD (k + 1) (0, 0)).2 ≤ (t.getD k (0, 0)).2 := fun k hk => by
  have := h (k + 1) hk
  unfold stopTg at this
  rw [if_neg (by have := h1 (k + 1) hk; omega)] at this
  simp only [Nat.add_sub_cancel] at this
  by_cases hh : (t.getD (k + 1) (0, 0)).1 ≤ (t.getD k (0, 0)).1 ∧ (t.getD (k + 1) (0, 0)).2 ≤ (t.getD k (0, 0)).2
  ·exact hh
  ·rw [if_pos ⟨by omega, hh⟩] at this; cases this
 have h3 : ∀ d k, k + d < t.length → (t.getD (k + d) (0, 0)).1 ≤ (t.getD k (0, 0)).1 ∧ (t.getD (k + d) (0, 0)).2 ≤ (t.getD k (0, 0)).2 := by
  intro d
  induction d with
  | zero => intro k hk; exact ⟨Int.le_refl _, Int.le_refl _⟩
  | succ d ih => intro k hk; have := ih k (by omega); have := h2 (k + d) (by omega); rw [← Nat.add_assoc]; omega
 refine ⟨⟨fun x hx => ?_, ?_⟩, ⟨fun x hx => ?_, ?_⟩, fun s hs => ?_⟩
 ·obtain ⟨s, hs, rfl⟩ := List.mem_map.1 hx
  obtain ⟨k, hk, rfl⟩ := List.mem_iff_getElem.1 hs
  have := h1 k hk
  rw [getD_el (0, 0) hk] at this; omega
 ·unfold Tops.Desc
  rw [List.pairwise_map, List.pairwise_iff_getElem]
  intro i j hi hj hij
  have := (h3 (j - i) i (by omega)).1
  rwa [show i + (j - i) = j by omega, getD_el (0, 0) hi, getD_el (0, 0) hj] at this
 ·obtain ⟨s, hs, rfl⟩ := List.mem_map.1 hx
  obtain ⟨k, hk, rfl⟩ := List.mem_iff_getElem.1 hs
  have := h1 k hk
  rw [getD_el (0, 0) hk] at this; omega
 ·unfold Tops.Desc
  rw [List.pairwise_map, List.pairwise_iff_getElem]
  intro i j hi hj hij
  have := (h3 (j - i) i (by omega)).2
  rwa [show i + (j - i) = j by omega, getD_el (0, 0) hi, getD_el (0, 0) hj] at this
 ·obtain ⟨k, hk, rfl⟩ := List.mem_iff_getElem.1 hs
  have := h1 k hk
  rw [getD_el (0, 0) hk] at this; omega
theorem chkGs_val {l : Gs} (h : chkGs l = 0) : VG l := by
 unfold chkGs errLg at h
 by_cases h0 : 12 < l.length
 ·rw [if_pos h0] at h; cases h
 rw [if_neg h0] at h
 cases he : (List.range l.length).findSome? (stopLg l) with
 | some e =>
  rw [he] at h
  simp only [Option.getD] at h
  subst h
  obtain ⟨k, _, hk⟩ := List.exists_of_findSome?_eq_some he
  unfold stopLg at hk
  split at hk
  ·cases hk
  ·exfalso
   unfold errTg at hk
   obtain ⟨j, _, hj⟩ := List.exists_of_findSome?_eq_some hk
   unfold stopTg at hj
   split at hj
   ·cases hj
   ·split at hj <;> cases hj
 | none =>
  have hs := findSome_none.1 he
  have key : ∀ t ∈ l, t.length ≤ 10 ∧ errTg t = none := fun t ht => by
   obtain ⟨k, hk, rfl⟩ := List.mem_iff_getElem.1 ht
   have := hs k hk
   unfold stopLg at this
   rw [getD_el [] hk] at this
   split at this
   ·cases this
   ·exact ⟨by omega, this⟩
  have key2 : ∀ t ∈ l, _ := fun t ht => errTg_none (key t ht).2
  refine ⟨by omega, fun t ht => (key t ht).1, ⟨by simp [lows]; omega, ?_, ?_, ?_⟩, ⟨by simp [highs]; omega, ?_, ?_, ?_⟩, fun t ht => (key2 t ht).2.2⟩
  ·intro f hf; obtain ⟨t, ht, rfl⟩ := List.mem_map.1 hf; rw [List.length_map]; exact (key t ht).1
  ·intro f hf; obtain ⟨t, ht, rfl⟩ := List.mem_map.1 hf; exact (key2 t ht).1.1
  ·intro f hf; obtain ⟨t, ht, rfl⟩ := List.mem_map.1 hf; exact (key2 t ht).1.2
  ·intro f hf; obtain ⟨t, ht, rfl⟩ := List.mem_map.1 hf; rw [List.length_map]; exact (key t ht).1
  ·intro f hf; obtain ⟨t, ht, rfl⟩ := List.mem_map.1 hf; exact (key2 t ht).2.1.1
  ·intro f hf; obtain ⟨t, ht, rfl⟩ := List.mem_map.1 hf; exact (key2 t ht).2.1.2
theorem Val.set {l m : List (List Int)} (h : Val l) (hm : Val m) (a : Nat) : Val (l.set a (m.getD a [])) := by
 have key : ∀ f ∈ l.set a (m.getD a []), f ∈ l ∨ f ∈ m ∨ f = [] := fun f hf => by
  rcases List.mem_or_eq_of_mem_set hf with hf | rfl
  ·exact .inl hf
  ·by_cases c : a < m.length
   ·exact .inr (.inl (getD_mem c))
   ·exact .inr (.inr (getD_out [] (by omega)))
 refine ⟨by have := h.len; simpa using this, fun f hf => ?_, fun f hf => ?_, fun f hf => ?_⟩
 ·rcases key f hf with hf | hf | rfl
  ·exact h.tab f hf
  ·exact hm.tab f hf
  ·simp
 ·rcases key f hf with hf | hf | rfl
  ·exact h.sm f hf
  ·exact hm.sm f hf
  ·intro x hx; cases hx
 ·rcases key f hf with hf | hf | rfl
  ·exact h.desc f hf
  ·exact hm.desc f hf
  ·exact List.Pairwise.nil
/-- Shares of a field. -/
def shareOf (l : Gs) (g a : Nat) : Int × Int :=
 (((cntQ a (-1) ((stepsF (favF a (-1)) ((highs l).set a ((lows l).getD a []))).take g) : Nat) : Int), ((cntQ a 1 ((stepsF (favF a 1) ((lows l).set a ((highs l).getD a []))).take g) : Nat) : Int))
def shares (l : Gs) (g n : Nat) : List (Int × Int) := (List.range n).map (shareOf l g)
theorem shares_succ (l : Gs) (g n : Nat) : shares l g (n + 1) = shares l g n ++ [shareOf l g n] := by simp [shares, List.range_succ]
theorem shares_length (l : Gs) (g n : Nat) : (shares l g n).length = n := by simp [shares]
theorem F35_good {l : Gs} (h : VG l) (hc : chkGs l = 0) {g : Nat} (hg : g ≤ 200) : F35 l g = some (shares l g l.length, (Tops.tops (mrgAll (lows l)) g, Tops.tops (mrgAll (highs l)) g), 0, ()) := by
 have hl := h.len
 unfold F35
 rw [F62_eq, bindO_s, hc]
 dsimp only
 rw [br_not, br_t (by decide), F48_eq, bindO_s, br_not, br_t (by simp; omega)]
 have key := iter_count (step := fun x => g35_0 x.1 x.2.1 x.2.2.1 x.2.2.2.1 x.2.2.2.2.1 x.2.2.2.2.2.1 x.2.2.2.2.2.2.1 x.2.2.2.2.2.2.2.1) l.length (fun k => (l, (g : Int), k, ((l.length : Nat) : Int), (k : Int), shares l g k, (0 : Int), (0 : Int), ()))
  (b := (l, (g : Int), l.length, shares l g l.length, (0 : Int), (0 : Int), ())) (fun k hk => by
   have e1 := (gets_eq (h.hi.set h.lo k) (a := k) (by simp [highs]; omega) (v := -1) (most := false) (.inr ⟨rfl, rfl⟩) hg).1
   have e2 := (gets_eq (h.lo.set h.hi k) (a := k) (by simp [lows]; omega) (v := 1) (most := true) (.inl ⟨rfl, rfl⟩) hg).1
   simp only [g35_0]
   rw [br_d, if_pos (by omega), F64_eq h.len h.tab, bindO_s, F64_v1_eq h.len h.tab, bindO_s, turn_worst, turn_fine]
   dsimp only
   rw [e1, bindO_s, e2, bindO_s, need_big (by simp; omega), need_i64 (by omega) (by omega), shares_succ]
   simp
   exact ⟨by rw [List.take_of_length_le (by rw [shares_length]; omega)], rfl⟩) (by simp only [g35_0]; rw [br_d, if_neg (by omega)])
 have e0 : shares l g 0 = [] := rfl
 simp only [e0, Int.natCast_zero] at key
 rw [bind_of key]
 dsimp only
 rw [F64_v2_eq h.len h.tab, bindO_s]
 dsimp only
 rw [F56_eq h.lo (by omega), bindO_s, F64_v3_eq h.len h.tab, bindO_s]
 dsimp only
 rw [F56_eq h.hi (by omega), bindO_s]
 dsimp only
 rw [steps_first _ h.lo.desc, steps_first _ h.hi.desc, List.drop_zero, List.take_of_length_le (by rw [shares_length]; omega)]
end Go.Proofs.Try
end
section
open Go.AM Go.Gm Go.Srt
namespace Go.Proofs.Try
set_option linter.unusedVariables false
set_option linter.unusedSimpArgs false
/-- What a field's last gang brings, and its next one. -/
def lastG (l : List (List Int)) (p : List Int) (a : Int) : Int := if 0 ≤ a then (l.getD a.toNat []).getD (p.getD a.toNat 0 - 1).toNat 0 else 0
def nextG (l : List (List Int)) (p : List Int) (b : Int) : Int := if 0 ≤ b then (l.getD b.toNat []).getD (p.getD b.toNat 0).toNat 0 else 0
def skipA (p : List Int) (full : Prop) (a : Int) : Prop := (a = -1 ∧ full) ∨ (0 ≤ a ∧ p.getD a.toNat 0 = 0)
def skipB (l : List (List Int)) (p : List Int) (b : Int) : Prop := 0 ≤ b ∧ p.getD b.toNat 0 = ((l.getD b.toNat []).length : Nat)
open Classical in
/-- A plan of fields. -/
structure PlanOk (l : List (List Int)) (p : List Int) : Prop where
 v : Val l
 len : p.length = l.length
 rng : ∀ k, k < l.length → 0 ≤ p.getD k 0 ∧ p.getD k 0 ≤ ((l.getD k []).length : Nat)
theorem cell_bound {l : List (List Int)} (h : Val l) (i j : Nat) : 0 ≤ (l.getD i []).getD j 0 ∧ (l.getD i []).getD j 0 ≤ 1000000 := by
 by_cases c : j < (l.getD i []).length
 ·exact (h.getD i).2 _ (getD_mem c)
 ·rw [getD_out 0 (by omega)]; omega
end Go.Proofs.Try
end
section
open Go.AM Go.Gm Go.Srt
namespace Go.Proofs.Try
set_option linter.unusedVariables false
set_option linter.unusedSimpArgs false
/-- What is left of a number, less some others, but no less than 0. -/
def lst (row : List Int) (k : Nat) : Int := (row.take k).foldl (fun a x => imax 0 (a - x)) 300
def mrow (row : List Int) (k : Nat) : List Int := (List.range k).map fun j => lst row (j + 1)
def made (v : List (List Int)) (n : Nat) : List (List Int) := (List.range n).map fun i => mrow (v.getD i []) (min (v.getD i []).length 4)
/-- Lists of bytes. -/
def Bytes (v : List (List Int)) : Prop := v.length ≤ maxLen ∧ ∀ row ∈ v, row.length ≤ maxLen ∧ ∀ x ∈ row, 0 ≤ x ∧ x ≤ 255
theorem Bytes.row {v : List (List Int)} (h : Bytes v) (i : Nat) : ∀ x ∈ v.getD i [], 0 ≤ x ∧ x ≤ 255 := by
 by_cases c : i < v.length
 ·exact (h.2 _ (getD_mem c)).2
 ·rw [getD_out [] (by omega)]; intro x hx; cases hx
end Go.Proofs.Try
end
section
open Go.AM Go.Gm Go.Srt
namespace Go.Proofs.Try
set_option linter.unusedVariables false
set_option linter.unusedSimpArgs false
/-- What is so of a plan. -/
structure PlanIn (g : Nat) (l : List (List Int)) (q : List Int) : Prop where
 len : q.length = l.length
 rng : ∀ i, i < l.length → 0 ≤ q.getD i 0 ∧ q.getD i 0 ≤ ((l.getD i []).length : Nat)
 sum : q.sum ≤ g
theorem getD_snoc_lt {α : Type} {l : List α} {x d : α} {i : Nat} (h : i < l.length) : (l ++ [x]).getD i d = l.getD i d := by
 simp [List.getD_eq_getElem?_getD, List.getElem?_append_left h]
theorem getD_snoc_eq {α : Type} {l : List α} {x d : α} {i : Nat} (h : i = l.length) : (l ++ [x]).getD i d = x := by
 subst h; simp [List.getD_eq_getElem?_getD]
/-- The sugar of a plan. -/
def sugP (l : List (List Int)) (q : List Int) : Int := sumR q.length (fun i => sumN (l.getD i []) (q.getD i 0).toNat)
theorem plan_sum {l : List (List Int)} {q : List Int} (hq : ∀ i, i < q.length → 0 ≤ q.getD i 0) : sumR q.length (fun i => ((q.getD i 0).toNat : Int)) = q.sum := by
 induction q using snoc_ind with
 | h0 => rfl
 | h1 q x ih =>
  rw [List.length_append, List.sum_append]
  simp only [List.length_cons, List.length_nil, Nat.zero_add, sumR]
  have hx := hq q.length (by simp)
  rw [getD_snoc_eq rfl] at hx
  rw [← ih fun i hi => by have := hq i (by simp; omega); rwa [getD_snoc_lt hi] at this, getD_snoc_eq rfl]
  rw [sumR_congr (g := fun i => ((q.getD i 0).toNat : Int)) fun i hi => by rw [getD_snoc_lt hi]]
  simp; omega
/-- No plan has more than the first steps. -/
theorem sug_most {l : List (List Int)} (h : Val l) {g : Nat} {q : List Int} (hq : PlanIn g l q) : sugP l q ≤ Tops.tops (mrgAll l) g := by
 have h1 := plan_le h.desc (fun f hf x hx => (h.sm f hf x hx).1) (fun i => (q.getD i 0).toNat) (g := g) (n := l.length) (Nat.le_refl _) (by
  have e := plan_sum (l := l) (q := q) fun i hi => (hq.rng i (by rw [← hq.len]; exact hi)).1
  rw [hq.len] at e
  rw [e]; exact hq.sum)
 rw [List.take_length] at h1
 unfold sugP
 rw [hq.len]
 exact h1
theorem sug_ok' {l : List (List Int)} (h : Val l) (fv : Int → Int) (g : Nat) : ∀ i, i < l.length → 0 ≤ (planOf l.length ((stepsF fv l).take g)).getD i 0 ∧ (planOf l.length ((stepsF fv l).take g)).getD i 0 ≤ ((l.getD i []).length : Nat) := fun i hi => by
 rw [planOf_getD _ hi]
 have := field_cnt fv h.desc i g
 omega
theorem plan_first {l : List (List Int)} (h : Val l) (fv : Int → Int) (g : Nat) : PlanIn g l (planOf l.length ((stepsF fv l).take g)) ∧ sugP l (planOf l.length ((stepsF fv l).take g)) = Tops.tops (mrgAll l) g := by
 have hs := sug_plan h fv g
 have hok := sug_ok' h fv g
 refine ⟨⟨planOf_length _ _, hok, ?_⟩, ?_⟩
 ·have : (planOf l.length ((stepsF fv l).take g)).sum = (((stepsF fv l).take g).length : Nat) := by
   unfold planOf; rw [sum_map_range, cnt_parts _ (take_fields fv g)]
  rw [this]; simp; omega
 ·unfold sugP
  rw [planOf_length, ← steps_first fv h.desc, ← gsum_parts _ (take_fields fv g)]
  refine sumR_congr fun i hi => ?_
  rw [planOf_getD _ hi, field_sum fv h.desc]
  rfl
end Go.Proofs.Try
end
section
open Go.AM Go.Gm Go.Srt
namespace Go.Proofs.Try
set_option linter.unusedVariables false
set_option linter.unusedSimpArgs false
section
variable (l : List (List Int)) (p : List Int) (full : Prop)
def vEx (a b : Int) : Prop := a ≠ b ∧ ¬skipA p full a ∧ ¬skipB l p b
def gEx (a b : Int) : Int := nextG l p b - lastG l p a
/-- What was found is an exchange. -/
def found (s : Int × Int × Int) : Prop := 0 < s.2.2 → vEx l p full s.1 s.2.1 ∧ (-1 ≤ s.1 ∧ s.1 < l.length) ∧ (0 ≤ s.2.1 ∧ s.2.1 < l.length) ∧ s.2.2 = gEx l p s.1 s.2.1
end
variable {l : List (List Int)} {p : List Int} {full : Prop}
/-- One number changed. -/
theorem set_getD_ne {α : Type} {l : List α} {i j : Nat} {x d : α} (h : i ≠ j) : (l.set i x).getD j d = l.getD j d := by
 simp [List.getD_eq_getElem?_getD, List.getElem?_set, h]
theorem sumR_set {n j : Nat} {q : List Int} {x : Int} (F : Nat → Int → Int) (hj : j < n) (hq : n = q.length) : sumR n (fun i => F i ((q.set j x).getD i 0)) = sumR n (fun i => F i (q.getD i 0)) - F j (q.getD j 0) + F j x := by
 subst hq
 have key : ∀ n, n ≤ q.length → sumR n (fun i => F i ((q.set j x).getD i 0)) = sumR n (fun i => F i (q.getD i 0)) + (if j < n then F j x - F j (q.getD j 0) else 0) := by
  intro n
  induction n with
  | zero => intro _; simp [sumR]
  | succ n ih =>
   intro hn
   simp only [sumR]
   rw [ih (by omega)]
   by_cases e : j = n
   ·subst e
    rw [set_getD (by omega), if_neg (by omega), if_pos (by omega)]; omega
   ·rw [set_getD_ne e]
    by_cases c : j < n
    ·rw [if_pos c, if_pos (by omega)]; omega
    ·rw [if_neg c, if_neg (by omega)]; omega
 rw [key _ (Nat.le_refl _), if_pos hj]; omega
theorem sum_sumR (q : List Int) : q.sum = sumR q.length (fun i => q.getD i 0) := by
 induction q using snoc_ind with
 | h0 => rfl
 | h1 q x ih =>
  rw [List.sum_append, ih, List.length_append]
  simp only [List.length_cons, List.length_nil, Nat.zero_add, sumR]
  rw [getD_snoc_eq rfl, sumR_congr (g := fun i => q.getD i 0) fun i hi => getD_snoc_lt hi]
  simp
theorem sum_set {q : List Int} {j : Nat} {x : Int} (hj : j < q.length) : (q.set j x).sum = q.sum - q.getD j 0 + x := by
 rw [sum_sumR, sum_sumR, List.length_set]
 exact sumR_set (fun _ y => y) hj rfl
theorem sugP_set {q : List Int} {j : Nat} {x : Int} (hj : j < q.length) : sugP l (q.set j x) = sugP l q - sumN (l.getD j []) (q.getD j 0).toNat + sumN (l.getD j []) x.toNat := by
 unfold sugP
 rw [List.length_set]
 exact sumR_set (fun i y => sumN (l.getD i []) y.toNat) hj rfl
/-- How many gains that are not taken are above a number. -/
def above (l : List (List Int)) (c : Int) (q : List Int) : Int := sumR q.length (fun i => ((((l.getD i []).drop (q.getD i 0).toNat).countP (fun x => decide (c < x)) : Nat) : Int))
theorem above_set {c : Int} {q : List Int} {j : Nat} {x : Int} (hj : j < q.length) : above l c (q.set j x) = above l c q - ((((l.getD j []).drop (q.getD j 0).toNat).countP (fun x => decide (c < x)) : Nat) : Int) + ((((l.getD j []).drop x.toNat).countP (fun x => decide (c < x)) : Nat) : Int) := by
 unfold above
 rw [List.length_set]
 exact sumR_set (fun i y => ((((l.getD i []).drop y.toNat).countP (fun x => decide (c < x)) : Nat) : Int)) hj rfl
theorem drop_count {L : List Int} {k : Nat} (h : k < L.length) (c : Int) : (L.drop k).countP (fun x => decide (c < x)) = (if c < L.getD k 0 then 1 else 0) + (L.drop (k + 1)).countP (fun x => decide (c < x)) := by
 rw [List.drop_eq_getElem_cons h, List.countP_cons, getD_el 0 h]
 by_cases hc : c < L[k] <;> simp [hc] <;> omega
end Go.Proofs.Try
end
section
open Go.AM Go.Gm Go.Srt
namespace Go.Proofs.Try
set_option linter.unusedVariables false
set_option linter.unusedSimpArgs false
/-- The plan with one gang moved. -/
def moved (p : List Int) (a b : Int) : List Int := (if 0 ≤ a then p.set a.toNat (p.getD a.toNat 0 - 1) else p).set b.toNat (p.getD b.toNat 0 + 1)
theorem moved_ok {l : List (List Int)} (h : Val l) {g : Nat} {p : List Int} (hp : PlanIn g l p) {a b : Int} (hv : vEx l p (p.sum = g) a b) (ha : -1 ≤ a ∧ a < l.length) (hb : 0 ≤ b ∧ b < l.length) :
  PlanIn g l (moved p a b) ∧ sugP l (moved p a b) = sugP l p + gEx l p a b ∧
  (∀ c, (∀ i, i < l.length → 0 < p.getD i 0 → lastG l p a ≤ lastG l p i) → 0 < gEx l p a b → c = lastG l p a → above l c (moved p a b) + 1 = above l c p ∧ ∀ i, i < l.length → 0 < (moved p a b).getD i 0 → c ≤ lastG l (moved p a b) i) := by
 have hlen := hp.len
 obtain ⟨hne, hA, hB⟩ := hv
 obtain ⟨B, rfl⟩ : ∃ n : Nat, b = n := ⟨b.toNat, by omega⟩
 have rB := hp.rng B (by omega)
 have hcap : p.getD B 0 < ((l.getD B []).length : Nat) := by
  by_cases c : p.getD B 0 = ((l.getD B []).length : Nat)
  ·exact absurd ⟨by omega, by rw [Int.toNat_natCast]; exact c⟩ hB
  ·omega
 have hnb : nextG l p (B : Int) = (l.getD B []).getD (p.getD B 0).toNat 0 := by unfold nextG; rw [if_pos (by omega), Int.toNat_natCast]
 have sB : sumN (l.getD B []) (p.getD B 0 + 1).toNat = sumN (l.getD B []) (p.getD B 0).toNat + nextG l p B := by
  rw [show (p.getD B 0 + 1).toNat = (p.getD B 0).toNat + 1 by omega, sumN_succ (by omega), hnb]
 have dB : ∀ c, ((((l.getD B []).drop (p.getD B 0).toNat).countP (fun x => decide (c < x)) : Nat) : Int) = (if c < nextG l p B then 1 else 0) + ((((l.getD B []).drop (p.getD B 0 + 1).toNat).countP (fun x => decide (c < x)) : Nat) : Int) := fun c => by
  rw [drop_count (by omega), ← hnb, show (p.getD B 0 + 1).toNat = (p.getD B 0).toNat + 1 by omega]
  by_cases hc : c < nextG l p B <;> simp [hc]
 unfold moved gEx
 rw [Int.toNat_natCast]
 by_cases c0 : 0 ≤ a
 ·obtain ⟨A, rfl⟩ : ∃ n : Nat, a = n := ⟨a.toNat, by omega⟩
  rw [if_pos c0, Int.toNat_natCast]
  have hAB : A ≠ B := fun e => hne (by omega)
  have rA := hp.rng A (by omega)
  have hpos : 0 < p.getD A 0 := by
   by_cases c : p.getD A 0 = 0
   ·exact absurd (.inr ⟨by omega, by rw [Int.toNat_natCast]; exact c⟩) hA
   ·omega
  have hla : lastG l p (A : Int) = (l.getD A []).getD (p.getD A 0 - 1).toNat 0 := by unfold lastG; rw [if_pos (by omega), Int.toNat_natCast]
  have sA : sumN (l.getD A []) (p.getD A 0).toNat = sumN (l.getD A []) (p.getD A 0 - 1).toNat + lastG l p A := by
   rw [show (p.getD A 0).toNat = (p.getD A 0 - 1).toNat + 1 by omega, sumN_succ (by omega), hla]
  have dA : ∀ c, ((((l.getD A []).drop (p.getD A 0 - 1).toNat).countP (fun x => decide (c < x)) : Nat) : Int) = (if c < lastG l p A then 1 else 0) + ((((l.getD A []).drop (p.getD A 0).toNat).countP (fun x => decide (c < x)) : Nat) : Int) := fun c => by
   rw [drop_count (by omega), ← hla, show (p.getD A 0).toNat = (p.getD A 0 - 1).toNat + 1 by omega]
   by_cases hc : c < lastG l p A <;> simp [hc]
  have gB : (p.set A (p.getD A 0 - 1)).getD B 0 = p.getD B 0 := set_getD_ne hAB
  have gm : ∀ i, ((p.set A (p.getD A 0 - 1)).set B (p.getD B 0 + 1)).getD i 0 = if i = B then p.getD B 0 + 1 else if i = A then p.getD A 0 - 1 else p.getD i 0 := fun i => by
   by_cases e : i = B
   ·subst e; rw [if_pos rfl, set_getD (by simp; omega)]
   ·rw [if_neg e, set_getD_ne (by omega)]
    by_cases e2 : i = A
    ·subst e2; rw [if_pos rfl, set_getD (by omega)]
    ·rw [if_neg e2, set_getD_ne (by omega)]
  refine ⟨⟨by simp [hlen], fun i hi => ?_, ?_⟩, ?_, fun c hmin hg hc => ⟨?_, fun i hi hpi => ?_⟩⟩
  ·have := hp.rng i hi
   rw [gm]
   by_cases e : i = B
   ·subst e; rw [if_pos rfl]; omega
   ·rw [if_neg e]
    by_cases e2 : i = A
    ·subst e2; rw [if_pos rfl]; omega
    ·rw [if_neg e2]; exact this
  ·rw [sum_set (by simp; omega), gB, sum_set (by omega)]; have := hp.sum; omega
  ·rw [sugP_set (by simp; omega), gB, sugP_set (by omega), sB, sA]; omega
  ·rw [above_set (by simp; omega), gB, above_set (by omega), dA, dB, if_neg (by omega), if_pos (by omega)]; omega
  ·have hri := hp.rng i hi
   have hd := fun {x y : Nat} (hxy : x ≤ y) => desc_getD (h.desc _ (getD_mem (d := []) hi)) (fun x hx => (h.sm _ (getD_mem (d := []) hi) x hx).1) hxy
   rw [gm] at hpi
   unfold lastG
   rw [if_pos (by omega), Int.toNat_natCast, gm]
   by_cases e : i = B
   ·subst e
    rw [if_pos rfl, show (p.getD i 0 + 1 - 1).toNat = (p.getD i 0).toNat by omega, ← hnb]; omega
   ·rw [if_neg e] at hpi ⊢
    by_cases e2 : i = A
    ·subst e2
     rw [if_pos rfl] at hpi ⊢
     have := hd (show (p.getD i 0 - 1 - 1).toNat ≤ (p.getD i 0 - 1).toNat by omega)
     omega
    ·rw [if_neg e2] at hpi ⊢
     have := hmin i hi hpi
     have e3 : lastG l p (i : Int) = (l.getD i []).getD (p.getD i 0 - 1).toNat 0 := by unfold lastG; rw [if_pos (by omega), Int.toNat_natCast]
     omega
 ·rw [if_neg c0]
  have hlt : p.sum < g := by
   have := hp.sum
   by_cases c : p.sum = g
   ·exact absurd (.inl ⟨by omega, c⟩) hA
   ·omega
  have hla : lastG l p a = 0 := by unfold lastG; rw [if_neg c0]
  have gm : ∀ i, (p.set B (p.getD B 0 + 1)).getD i 0 = if i = B then p.getD B 0 + 1 else p.getD i 0 := fun i => by
   by_cases e : i = B
   ·subst e; rw [if_pos rfl, set_getD (by omega)]
   ·rw [if_neg e, set_getD_ne (by omega)]
  refine ⟨⟨by simp [hlen], fun i hi => ?_, ?_⟩, ?_, fun c hmin hg hc => ⟨?_, fun i hi hpi => ?_⟩⟩
  ·have := hp.rng i hi
   rw [gm]
   by_cases e : i = B
   ·subst e; rw [if_pos rfl]; omega
   ·rw [if_neg e]; exact this
  ·rw [sum_set (by omega)]; omega
  ·rw [sugP_set (by omega), sB, hla]; omega
  ·rw [above_set (by omega), dB, if_pos (by omega)]; omega
  ·have := cell_bound h i ((p.set B (p.getD B 0 + 1)).getD i 0 - 1).toNat
   unfold lastG
   rw [if_pos (by omega), Int.toNat_natCast]
   omega
end Go.Proofs.Try
end
section
open Go.AM Go.Gm Go.Srt
namespace Go.Proofs.Try
set_option linter.unusedVariables false
set_option linter.unusedSimpArgs false
theorem sumR_split {n a : Nat} (h : a < n) (f : Nat → Int) : sumR n f = f a + sumR n (fun i => if i = a then 0 else f i) := by
 induction n with
 | zero => omega
 | succ n ih =>
  simp only [sumR]
  by_cases e : a = n
  ·subst e
   rw [if_pos rfl, sumR_congr (g := fun i => if i = a then 0 else f i) fun i hi => by rw [if_neg (by omega)]]
   omega
  ·rw [ih (by omega), if_neg (by omega)]; omega
theorem no_gain {l : List (List Int)} (h : Val l) {g : Nat} {p : List Int} (hp : PlanIn g l p) (hb : sugP l p = Tops.tops (mrgAll l) g) {x y : Int} (hx : -1 ≤ x ∧ x < l.length) (hy : 0 ≤ y ∧ y < l.length) (hv : vEx l p (p.sum = g) x y) : gEx l p x y ≤ 0 := by
 obtain ⟨m1, m2, _⟩ := moved_ok h hp hv hx hy
 have := sug_most h m1
 omega
/-- Those of other fields, field by field. -/
theorem oth_ge {l : List (List Int)} {most : Bool} {a : Nat} {γ : Int} {p : List Int} (h : ∀ i, i < l.length → i ≠ a → p.getD i 0 ≤ (((l.getD i []).countP (befP most γ) : Nat) : Int)) : ∀ k, k ≤ l.length → sumR k (fun i => if i = a then 0 else p.getD i 0) ≤ (((allFrom 0 (l.take k)).countP (othB most a γ) : Nat) : Int) := by
 intro k
 induction k with
 | zero => intro _; simp [sumR]
 | succ k ih =>
  intro hk
  have i1 := ih (by omega)
  rw [oth_take (by omega)]
  simp only [sumR]
  by_cases e : k = a
  ·rw [if_pos e, if_pos e]; omega
  ·have := h k (by omega) e
   rw [if_neg e, if_neg e]; omega
theorem count_ge {L : List Int} {P : Int → Bool} {n : Nat} (hn : n ≤ L.length) (h : ∀ j, j < n → P (L.getD j 0) = true) : n ≤ L.countP P := by
 have e : L.countP P = (L.take n).countP P + (L.drop n).countP P := by rw [← List.countP_append, List.take_append_drop]
 have e2 : (L.take n).countP P = (L.take n).length := List.countP_eq_length.2 fun x hx => by
  obtain ⟨j, hj, rfl⟩ := List.mem_iff_getElem.1 hx
  rw [List.length_take] at hj
  have := h j (by omega)
  rw [getD_el 0 (by omega)] at this
  simpa using this
 rw [List.length_take] at e2
 omega
theorem row_desc {l : List (List Int)} (h : Val l) (i : Nat) {x y : Nat} (hxy : x ≤ y) : (l.getD i []).getD y 0 ≤ (l.getD i []).getD x 0 := by
 by_cases c : i < l.length
 ·exact desc_getD (h.desc _ (getD_mem (d := []) c)) (fun x hx => (h.sm _ (getD_mem (d := []) c) x hx).1) hxy
 ·rw [getD_out [] (by omega)]; simp
theorem best_ge {l : List (List Int)} (h : Val l) {g : Nat} {p : List Int} (hp : PlanIn g l p) (hb : sugP l p = Tops.tops (mrgAll l) g) {a : Nat} (ha : a < l.length) : ((cntQ a (-1) ((stepsF (favF a (-1)) l).take g) : Nat) : Int) ≤ p.getD a 0 := by
 obtain ⟨c1, c2⟩ := gets_cnt h (a := a) (v := -1) (most := false) (.inr ⟨rfl, rfl⟩) g
 generalize cntQ a (-1) ((stepsF (favF a (-1)) l).take g) = n at *
 have ra := hp.rng a ha
 by_cases hlt : (n : Int) ≤ p.getD a 0
 ·exact hlt
 exfalso
 have hg := (c2 n (by omega) c1).2 (Nat.le_refl _)
 unfold getB at hg
 simp only [Bool.false_or, Bool.and_eq_true, decide_eq_true_eq] at hg
 obtain ⟨q1, q2⟩ := hg
 have hnx : nextG l p (a : Int) = (l.getD a []).getD (p.getD a 0).toNat 0 := by unfold nextG; rw [if_pos (by omega), Int.toNat_natCast]
 have hge := row_desc h a (show (p.getD a 0).toNat ≤ n - 1 by omega)
 have hsB : ¬skipB l p (a : Int) := by rintro ⟨_, e⟩; rw [Int.toNat_natCast] at e; omega
 have hsum : p.sum = g := by
  by_cases e : p.sum = g
  ·exact e
  ·have := no_gain h hp hb (x := -1) (y := a) (by omega) (by omega) ⟨by omega, by rintro (hh | hh); exact e hh.2; omega, hsB⟩
   unfold gEx at this
   have e2 : lastG l p (-1) = 0 := by unfold lastG; rw [if_neg (by omega)]
   omega
 have hoth := oth_ge (l := l) (most := false) (a := a) (γ := (l.getD a []).getD (n - 1) 0) (p := p) (fun i hi hia => by
  have ri := hp.rng i hi
  by_cases c : 0 < p.getD i 0
  ·have hne := no_gain h hp hb (x := i) (y := a) (by omega) (by omega) ⟨by omega, by rintro (hh | hh); omega; rw [Int.toNat_natCast] at hh; omega, hsB⟩
   have hl : lastG l p (i : Int) = (l.getD i []).getD (p.getD i 0 - 1).toNat 0 := by unfold lastG; rw [if_pos (by omega), Int.toNat_natCast]
   unfold gEx at hne
   have := count_ge (L := l.getD i []) (P := befP false ((l.getD a []).getD (n - 1) 0)) (n := (p.getD i 0).toNat) (by omega) (fun j hj => by
    have := row_desc h i (show j ≤ (p.getD i 0 - 1).toNat by omega)
    unfold befP
    simp only [Bool.not_false, Bool.true_and, Bool.or_eq_true, decide_eq_true_eq, beq_iff_eq]
    omega)
   omega
  ·omega) l.length (Nat.le_refl _)
 rw [List.take_length] at hoth
 have hs := sum_sumR p
 rw [hp.len, sumR_split ha] at hs
 omega
/-- Better own gains and worse ones of others: no fewer gangs. -/
theorem getB_mono {f w : List (List Int)} {a g n : Nat} {most : Bool} (hl : f.length = w.length) (hlen : ∀ i, i < f.length → (f.getD i []).length = (w.getD i []).length) (own : (w.getD a []).getD (n - 1) 0 ≤ (f.getD a []).getD (n - 1) 0)
  (oth : ∀ i, i < f.length → i ≠ a → ∀ k, k < (f.getD i []).length → (f.getD i []).getD k 0 ≤ (w.getD i []).getD k 0) (h : getB w a g most n = true) : getB f a g most n = true := by
 unfold getB at h ⊢
 simp only [Bool.and_eq_true, decide_eq_true_eq, Bool.or_eq_true] at h ⊢
 have key : ∀ k, k ≤ f.length → (allFrom 0 (f.take k)).countP (othB most a ((f.getD a []).getD (n - 1) 0)) ≤ (allFrom 0 (w.take k)).countP (othB most a ((w.getD a []).getD (n - 1) 0)) := by
  intro k
  induction k with
  | zero => intro _; simp [allFrom]
  | succ k ih =>
   intro hk
   rw [oth_take (by omega), oth_take (by omega)]
   have i1 := ih (by omega)
   by_cases e : k = a
   ·rw [if_pos e, if_pos e]; omega
   ·rw [if_neg e, if_neg e]
    have hle := hlen k (by omega)
    have ho := oth k (by omega) e
    have : ∀ (A B : List Int), A.length = B.length → (∀ j, j < A.length → A.getD j 0 ≤ B.getD j 0) → A.countP (befP most ((f.getD a []).getD (n - 1) 0)) ≤ B.countP (befP most ((w.getD a []).getD (n - 1) 0)) := by
     intro A
     induction A with
     | nil => intro B _ _; simp
     | cons x A ihA =>
      intro B hB hAB
      cases B with
      | nil => simp at hB
      | cons y B =>
       have h0 := hAB 0 (by simp)
       simp only [List.getD_cons_zero] at h0
       have i2 := ihA B (by simpa using hB) (fun j hj => by have := hAB (j + 1) (by simpa using hj); simpa using this)
       rw [List.countP_cons, List.countP_cons]
       have : befP most ((f.getD a []).getD (n - 1) 0) x = true → befP most ((w.getD a []).getD (n - 1) 0) y = true := fun hx => by
        unfold befP at hx ⊢
        simp only [Bool.or_eq_true, decide_eq_true_eq, Bool.and_eq_true, Bool.not_eq_true', beq_iff_eq] at hx ⊢
        rcases hx with hx | ⟨hm, hx⟩
        ·left; omega
        ·by_cases hlt : (w.getD a []).getD (n - 1) 0 < y
         ·exact .inl hlt
         ·exact .inr ⟨hm, by omega⟩
       by_cases hx : befP most ((f.getD a []).getD (n - 1) 0) x = true
       ·rw [if_pos hx, if_pos (this hx)]; omega
       ·rw [if_neg hx]; split <;> omega
    have := this _ _ hle ho
    omega
 have := key f.length (Nat.le_refl _)
 rw [List.take_length, hl, List.take_length] at this
 refine ⟨by omega, ?_⟩
 rcases h.2 with h2 | h2
 ·exact .inl h2
 ·exact .inr (by omega)
theorem cntQ_mono {f w : List (List Int)} (hf : Val f) (hw : Val w) {a g : Nat} {v : Int} {most : Bool} (hv : (v = 1 ∧ most = true) ∨ (v = -1 ∧ most = false)) (hl : f.length = w.length) (hlen : ∀ i, i < f.length → (f.getD i []).length = (w.getD i []).length)
  (own : ∀ k, k < (f.getD a []).length → (w.getD a []).getD k 0 ≤ (f.getD a []).getD k 0) (oth : ∀ i, i < f.length → i ≠ a → ∀ k, k < (f.getD i []).length → (f.getD i []).getD k 0 ≤ (w.getD i []).getD k 0) (ha : a < f.length) :
  cntQ a v ((stepsF (favF a v) w).take g) ≤ cntQ a v ((stepsF (favF a v) f).take g) := by
 obtain ⟨c1, c2⟩ := gets_cnt hf hv (a := a) g
 obtain ⟨d1, d2⟩ := gets_cnt hw hv (a := a) g
 have hla := hlen a ha
 by_cases c : cntQ a v ((stepsF (favF a v) w).take g) = 0
 ·omega
 ·have := (d2 _ (by omega) d1).2 (Nat.le_refl _)
  exact (c2 _ (by omega) (by omega)).1 (getB_mono hl hlen (own _ (by omega)) oth this)
/-- Greater gains, more sugar. -/
theorem tops_mono_fields {f h : List (List Int)} (vf : Val f) (vh : Val h) (g : Nat) (hl : f.length = h.length) (hlen : ∀ i, i < f.length → (f.getD i []).length = (h.getD i []).length) (hle : ∀ i, i < f.length → ∀ k, k < (f.getD i []).length → (f.getD i []).getD k 0 ≤ (h.getD i []).getD k 0) :
  Tops.tops (mrgAll f) g ≤ Tops.tops (mrgAll h) g := by
 obtain ⟨p1, p2⟩ := plan_first vf (fun _ => 0) g
 generalize planOf f.length ((stepsF (fun _ => 0) f).take g) = p at *
 have q1 : PlanIn g h p := ⟨by rw [p1.len, hl], fun i hi => by have := p1.rng i (by omega); rwa [hlen i (by omega)] at this, p1.sum⟩
 have q2 := sug_most vh q1
 rw [← p2]
 refine Int.le_trans ?_ q2
 unfold sugP
 refine sumR_le fun i hi => ?_
 have hi' : i < f.length := by have := p1.len; omega
 have hr := p1.rng i hi'
 have : ∀ k, k ≤ (f.getD i []).length → sumN (f.getD i []) k ≤ sumN (h.getD i []) k := fun k => by
  induction k with
  | zero => intro _; simp [sumN]
  | succ k ih =>
   intro hk
   have e := hlen i hi'
   rw [sumN_succ (by omega), sumN_succ (by omega)]
   have := ih (by omega)
   have := hle i hi' k (by omega)
   omega
 exact this _ (by omega)
end Go.Proofs.Try
end
section
open Go.AM Go.Gm Go.Srt
namespace Go.Proofs.Try
set_option linter.unusedVariables false
set_option linter.unusedSimpArgs false
/-- The next span. -/
def stepSp (s x : Int × Int) : Int × Int := (imax 0 (s.1 - Int.tmod x.1 30), imax (imax 0 (s.1 - Int.tmod x.1 30)) (s.2 - Int.tmod x.2 15))
def spK (row : List (Int × Int)) (k : Nat) : Int × Int := (row.take k).foldl stepSp (60, 60)
def grow (row : List (Int × Int)) (k : Nat) : List (Int × Int) := (List.range k).map fun j => spK row (j + 1)
def gmade (d : Gs) (n : Nat) : Gs := (List.range n).map fun i => grow (d.getD i []) (min (d.getD i []).length 3)
def doubt (d : Gs) : Gs := gmade d (min d.length 3)
def Bytes2 (d : Gs) : Prop := ∀ row ∈ d, ∀ x ∈ row, (0 ≤ x.1 ∧ x.1 ≤ 255) ∧ 0 ≤ x.2 ∧ x.2 ≤ 255
theorem bytes2_of {d : Gs} (h : Wf (.list (.list (.prod (.int .u8) (.int .u8)))) d) : Bytes2 d := fun row hr x hx => by
 have := (h.2 row hr).2 x hx
 simp only [Wf] at this
 have e1 : IntKind.u8.min = 0 := by decide
 have e2 : IntKind.u8.max = 255 := by decide
 rw [e1, e2] at this
 exact this
theorem Bytes2.row {d : Gs} (h : Bytes2 d) (i : Nat) : ∀ x ∈ d.getD i [], (0 ≤ x.1 ∧ x.1 ≤ 255) ∧ 0 ≤ x.2 ∧ x.2 ≤ 255 := by
 by_cases c : i < d.length
 ·exact h _ (getD_mem c)
 ·rw [getD_out [] (by omega)]; intro x hx; cases hx
theorem ne0 {x : Int} (h : x ≠ 0) : (!(x == 0)) = true := by simp [h]
theorem spK_succ {row : List (Int × Int)} {k : Nat} (h : k < row.length) : spK row (k + 1) = stepSp (spK row k) (row.getD k (0, 0)) := by
 unfold spK; rw [take_succ_getD (0, 0) h, List.foldl_append]; rfl
theorem tmod_rng {x m : Int} (hx : 0 ≤ x) (hm : 0 < m) : 0 ≤ Int.tmod x m ∧ Int.tmod x m < m := ⟨Int.tmod_nonneg _ hx, Int.tmod_lt_of_pos _ hm⟩
theorem spK_ok {row : List (Int × Int)} (h : ∀ x ∈ row, (0 ≤ x.1 ∧ x.1 ≤ 255) ∧ 0 ≤ x.2 ∧ x.2 ≤ 255) (k : Nat) : 0 ≤ (spK row k).1 ∧ (spK row k).1 ≤ (spK row k).2 ∧ (spK row k).2 ≤ 60 := by
 induction k with
 | zero => simp [spK]
 | succ k ih =>
  by_cases c : k < row.length
  ·have hx := h _ (getD_mem (d := (0, 0)) c)
   have m1 := tmod_rng hx.1.1 (m := 30) (by omega)
   have m2 := tmod_rng hx.2.1 (m := 15) (by omega)
   rw [spK_succ c]
   unfold stepSp imax
   simp only
   omega
  ·have : spK row (k + 1) = spK row k := by unfold spK; rw [List.take_of_length_le (by omega), List.take_of_length_le (by omega)]
   rw [this]; exact ih
theorem spK_anti {row : List (Int × Int)} (h : ∀ x ∈ row, (0 ≤ x.1 ∧ x.1 ≤ 255) ∧ 0 ≤ x.2 ∧ x.2 ≤ 255) (k : Nat) : (spK row (k + 1)).1 ≤ (spK row k).1 ∧ (spK row (k + 1)).2 ≤ (spK row k).2 := by
 by_cases c : k < row.length
 ·have hx := h _ (getD_mem (d := (0, 0)) c)
  have m1 := tmod_rng hx.1.1 (m := 30) (by omega)
  have m2 := tmod_rng hx.2.1 (m := 15) (by omega)
  have := spK_ok h k
  rw [spK_succ c]
  unfold stepSp imax
  simp only
  omega
 ·have : spK row (k + 1) = spK row k := by unfold spK; rw [List.take_of_length_le (by omega), List.take_of_length_le (by omega)]
  rw [this]; omega
theorem grow_succ (row : List (Int × Int)) (k : Nat) : grow row (k + 1) = grow row k ++ [spK row (k + 1)] := by simp [grow, List.range_succ]
theorem grow_length (row : List (Int × Int)) (k : Nat) : (grow row k).length = k := by simp [grow]
theorem grow_getD {row : List (Int × Int)} {n k : Nat} (h : k < n) : (grow row n).getD k (0, 0) = spK row (k + 1) := by simp [grow, List.getD_eq_getElem?_getD, h]
theorem gmade_succ (d : Gs) (k : Nat) : gmade d (k + 1) = gmade d k ++ [grow (d.getD k []) (min (d.getD k []).length 3)] := by simp [gmade, List.range_succ]
theorem gmade_length (d : Gs) (k : Nat) : (gmade d k).length = k := by simp [gmade]
theorem chkGs_ok {l : Gs} (hl : l.length ≤ 12) (h : ∀ t ∈ l, t.length ≤ 10 ∧ ∀ k, k < t.length → stopTg t k = none) : chkGs l = 0 := by
 unfold chkGs errLg
 rw [if_neg (by omega)]
 have : (List.range l.length).findSome? (stopLg l) = none := findSome_none.2 fun k hk => by
  unfold stopLg errTg
  have hm := h _ (getD_mem (d := []) hk)
  rw [if_neg (by omega)]
  exact findSome_none.2 hm.2
 rw [this]; rfl
theorem doubt_ok {d : Gs} (h : Bytes2 d) : chkGs (doubt d) = 0 ∧ (doubt d).length ≤ 3 ∧ ∀ t ∈ doubt d, t.length ≤ 3 := by
 have key : ∀ t ∈ doubt d, t.length ≤ 3 ∧ ∀ k, k < t.length → stopTg t k = none := fun t ht => by
  obtain ⟨i, hi, rfl⟩ := List.mem_map.1 ht
  refine ⟨by rw [grow_length]; omega, fun k hk => ?_⟩
  rw [grow_length] at hk
  have h1 := spK_ok (h.row i) (k + 1)
  unfold stopTg
  rw [grow_getD hk, if_neg (by omega)]
  by_cases c : 0 < k
  ·have h2 := spK_anti (h.row i) k
   rw [grow_getD (by omega), show k - 1 + 1 = k by omega, if_neg (by omega)]
  ·rw [if_neg (by omega)]
 have hl : (doubt d).length ≤ 3 := by unfold doubt; rw [gmade_length]; omega
 exact ⟨chkGs_ok (by omega) fun t ht => ⟨by have := key t ht; omega, (key t ht).2⟩, hl, fun t ht => (key t ht).1⟩
theorem F42_in {d : Gs} (h : Bytes2 d) {i : Nat} (hi : i < d.length) (hi4 : i < 3) {n : Nat} {t : Bool} {b0 : Gs} :
  iter (fun x => g42_1 x.1 x.2.1 x.2.2.1 x.2.2.2.1 x.2.2.2.2.1 x.2.2.2.2.2.1 x.2.2.2.2.2.2.1 x.2.2.2.2.2.2.2.1 x.2.2.2.2.2.2.2.2.1 x.2.2.2.2.2.2.2.2.2.1 x.2.2.2.2.2.2.2.2.2.2.1) (d, n, (i : Int), 0, (0 : Int), (i : Int), t, b0, (60 : Int), (60 : Int), [], ()) =
   some (d, n, (i : Int), min (d.getD i []).length 3, (i : Int), t, b0, grow (d.getD i []) (min (d.getD i []).length 3), ()) := by
 have key := iter_count (step := fun x => g42_1 x.1 x.2.1 x.2.2.1 x.2.2.2.1 x.2.2.2.2.1 x.2.2.2.2.2.1 x.2.2.2.2.2.2.1 x.2.2.2.2.2.2.2.1 x.2.2.2.2.2.2.2.2.1 x.2.2.2.2.2.2.2.2.2.1 x.2.2.2.2.2.2.2.2.2.2.1) (min (d.getD i []).length 3)
  (fun k => (d, n, (i : Int), k, (k : Int), (i : Int), t, b0, (spK (d.getD i []) k).1, (spK (d.getD i []) k).2, grow (d.getD i []) k, ()))
  (b := (d, n, (i : Int), min (d.getD i []).length 3, (i : Int), t, b0, grow (d.getD i []) (min (d.getD i []).length 3), ())) (fun k hk => by
   have hb := spK_ok (h.row i) k
   have hx := h.row i _ (getD_mem (d := (0, 0)) (show k < (d.getD i []).length by omega))
   have m1 := tmod_rng hx.1.1 (m := 30) (by omega)
   have m2 := tmod_rng hx.2.1 (m := 15) (by omega)
   simp only [g42_1, Int.toNat_natCast]
   rw [need_inb (by omega) (by omega), br_d, if_pos (by omega), br_d, if_pos (by omega), need_inb (by omega) (by omega), need_inb (by omega) (by omega), need_i64 (by omega) (by omega), need_t (by decide), need_i64 (by omega) (by omega), need_inb (by omega) (by omega), need_inb (by omega) (by omega), need_i64 (by omega) (by omega), need_t (by decide), need_i64 (by omega) (by omega), need_big (by simp; omega), need_i64 (by omega) (by omega), grow_succ, spK_succ (by omega)]
   simp only [List.drop_zero]
   rw [List.take_of_length_le (l := grow (d.getD i []) k) (by rw [grow_length]; omega)]
   simp [stepSp]) (by
   simp only [g42_1, Int.toNat_natCast]
   rw [need_inb (by omega) (by omega), br_d, br_d]
   by_cases c : ((min (d.getD i []).length 3 : Nat) : Int) < (((d.getD i []).length : Nat) : Int)
   ·rw [if_pos c, if_neg (by omega)]
   ·rw [if_neg c])
 have e0 : spK (d.getD i []) 0 = (60, 60) := rfl
 have e1 : grow (d.getD i []) 0 = [] := rfl
 simp only [e0, e1, Int.natCast_zero] at key
 exact key
theorem F42_eq {d : Gs} (h : Bytes2 d) : F42 d = some (doubt d, ()) := by
 unfold F42
 have key := iter_count (step := fun x => g42_0 x.1 x.2.1 x.2.2.1 x.2.2.2.1) (min d.length 3) (fun k => (d, k, (k : Int), gmade d k, ())) (b := (min d.length 3, gmade d (min d.length 3), ())) (fun k hk => by
  simp only [g42_0]
  rw [br_d, if_pos (by omega), br_d, if_pos (by omega), bind_of (F42_in h (by omega) (by omega))]
  dsimp only
  rw [need_big (by simp; omega), need_i64 (by omega) (by omega), gmade_succ]
  simp only [List.drop_zero]
  rw [List.take_of_length_le (l := gmade d k) (by rw [gmade_length]; omega), List.take_of_length_le (l := grow (d.getD k []) (min (d.getD k []).length 3)) (by rw [grow_length]; omega)]
  simp) (by
  simp only [g42_0]
  rw [br_d, br_d]
  by_cases c : ((min d.length 3 : Nat) : Int) < ((d.length : Nat) : Int)
  ·rw [if_pos c, if_neg (by omega)]
  ·rw [if_neg c])
 have e0 : gmade d 0 = [] := rfl
 simp only [e0, Int.natCast_zero] at key
 rw [bind_of key]
 dsimp only
 rw [List.drop_zero, List.take_of_length_le (by rw [gmade_length]; omega)]
 rfl
/-- Gains that agree with a guess. -/
structure RowIn (t : List (Int × Int)) (f : List Int) : Prop where
 len : f.length = t.length
 rng : ∀ k, k < t.length → (t.getD k (0, 0)).1 ≤ f.getD k 0 ∧ f.getD k 0 ≤ (t.getD k (0, 0)).2
 desc : ∀ k, k + 1 < t.length → f.getD (k + 1) 0 ≤ f.getD k 0
structure TruthOf (l : Gs) (f : List (List Int)) : Prop where
 len : f.length = l.length
 row : ∀ i, i < l.length → RowIn (l.getD i []) (f.getD i [])
theorem desc_of_steps {L : List Int} (h : ∀ k, k + 1 < L.length → L.getD (k + 1) 0 ≤ L.getD k 0) : Tops.Desc L := by
 have h3 : ∀ d k, k + d < L.length → L.getD (k + d) 0 ≤ L.getD k 0 := by
  intro d
  induction d with
  | zero => intro k hk; exact Int.le_refl _
  | succ d ih => intro k hk; have := ih k (by omega); have := h (k + d) (by omega); rw [← Nat.add_assoc]; omega
 unfold Tops.Desc
 rw [List.pairwise_iff_getElem]
 intro i j hi hj hij
 have := h3 (j - i) i (by omega)
 rwa [show i + (j - i) = j by omega, getD_el 0 hi, getD_el 0 hj] at this
theorem lows_getD (l : Gs) (i k : Nat) : ((lows l).getD i []).getD k 0 = ((l.getD i []).getD k (0, 0)).1 := by
 by_cases c : i < l.length
 ·by_cases c2 : k < (l.getD i []).length
  ·rw [getD_el [] c] at c2 ⊢
   simp [lows, List.getD_eq_getElem?_getD, c, c2]
  ·rw [getD_out (0, 0) (by omega), getD_out 0]
   rw [getD_el [] c] at c2
   simp [lows, List.getD_eq_getElem?_getD, c]; omega
 ·rw [getD_out [] (by simp [lows]; omega), getD_out (l := l) [] (by omega)]; simp
theorem highs_getD (l : Gs) (i k : Nat) : ((highs l).getD i []).getD k 0 = ((l.getD i []).getD k (0, 0)).2 := by
 by_cases c : i < l.length
 ·by_cases c2 : k < (l.getD i []).length
  ·rw [getD_el [] c] at c2 ⊢
   simp [highs, List.getD_eq_getElem?_getD, c, c2]
  ·rw [getD_out (0, 0) (by omega), getD_out 0]
   rw [getD_el [] c] at c2
   simp [highs, List.getD_eq_getElem?_getD, c]; omega
 ·rw [getD_out [] (by simp [highs]; omega), getD_out (l := l) [] (by omega)]; simp
theorem lows_len (l : Gs) (i : Nat) : ((lows l).getD i []).length = (l.getD i []).length := by
 by_cases c : i < l.length
 ·simp [lows, List.getD_eq_getElem?_getD, c]
 ·rw [getD_out [] (by simp [lows]; omega), getD_out (l := l) [] (by omega)]; rfl
theorem highs_len (l : Gs) (i : Nat) : ((highs l).getD i []).length = (l.getD i []).length := by
 by_cases c : i < l.length
 ·simp [highs, List.getD_eq_getElem?_getD, c]
 ·rw [getD_out [] (by simp [highs]; omega), getD_out (l := l) [] (by omega)]; rfl
theorem TruthOf.val {l : Gs} (h : VG l) {f : List (List Int)} (hf : TruthOf l f) : Val f := by
 have hl := h.len
 refine ⟨by rw [hf.len]; exact hl, fun r hr => ?_, fun r hr x hx => ?_, fun r hr => ?_⟩
 all_goals
  obtain ⟨i, hi, rfl⟩ := List.mem_iff_getElem.1 hr
  have hi2 : i < l.length := by rw [← hf.len]; exact hi
  have ri := hf.row i hi2
  rw [getD_el [] hi] at ri
 ·rw [ri.len]; exact h.tab _ (getD_mem hi2)
 ·obtain ⟨k, hk, rfl⟩ := List.mem_iff_getElem.1 hx
  have hk2 : k < (l.getD i []).length := by rw [← ri.len]; exact hk
  have r2 := ri.rng k hk2
  rw [getD_el 0 hk] at r2
  have b1 := cell_bound h.lo i k
  have b2 := cell_bound h.hi i k
  rw [lows_getD] at b1
  rw [highs_getD] at b2
  omega
 ·exact desc_of_steps fun k hk => ri.desc k (by rw [← ri.len]; exact hk)
theorem F43_in {l : Gs} (h : VG l) {by' : List Int} (hb : ∀ x ∈ by', 0 ≤ x ∧ x ≤ 255) {i n : Nat} (hi : i < l.length) {v6 : Int} (hv : 0 ≤ v6 ∧ v6 ≤ 1000) {b0 : List (List Int)} :
  ∃ b, iter (fun x => g43_1 x.1 x.2.1 x.2.2.1 x.2.2.2.1 x.2.2.2.2.1 x.2.2.2.2.2.1 x.2.2.2.2.2.2.1 x.2.2.2.2.2.2.2.1 x.2.2.2.2.2.2.2.2.1 x.2.2.2.2.2.2.2.2.2.1 x.2.2.2.2.2.2.2.2.2.2.1 x.2.2.2.2.2.2.2.2.2.2.2.1)
   (by', n, v6, 0, l, ((l.length : Nat) : Int), (i : Int), l.getD i [], (((l.getD i []).length : Nat) : Int), (0 : Int), b0, [], ()) = some b ∧
   ∃ f v', RowIn (l.getD i []) f ∧ 0 ≤ v' ∧ v' ≤ v6 + 10 ∧ b = (by', n, v', f.length, l, ((l.length : Nat) : Int), (i : Int), b0, f, ()) := by
 have hl := h.len
 have ht := h.tab _ (getD_mem (d := []) hi)
 have cl := fun k => cell_bound h.lo i k
 have ch := fun k => cell_bound h.hi i k
 simp only [lows_getD] at cl
 simp only [highs_getD] at ch
 have hle : ∀ k, k < (l.getD i []).length → ((l.getD i []).getD k (0, 0)).1 ≤ ((l.getD i []).getD k (0, 0)).2 := fun k hk => h.le _ (getD_mem hi) _ (getD_mem hk)
 have hanti : ∀ k, k + 1 < (l.getD i []).length → ((l.getD i []).getD (k + 1) (0, 0)).1 ≤ ((l.getD i []).getD k (0, 0)).1 := fun k hk => by
  have := row_desc h.lo i (show k ≤ k + 1 by omega)
  rwa [lows_getD, lows_getD] at this
 obtain ⟨b, e, f, v', q1, q2, q3, q4, q5, q6⟩ := iter_ex (step := fun x => g43_1 x.1 x.2.1 x.2.2.1 x.2.2.2.1 x.2.2.2.2.1 x.2.2.2.2.2.1 x.2.2.2.2.2.2.1 x.2.2.2.2.2.2.2.1 x.2.2.2.2.2.2.2.2.1 x.2.2.2.2.2.2.2.2.2.1 x.2.2.2.2.2.2.2.2.2.2.1 x.2.2.2.2.2.2.2.2.2.2.2.1) (l.getD i []).length
  (fun k x => ∃ (f : List Int) (v' : Int), f.length = k ∧ (∀ j, j < k → ((l.getD i []).getD j (0, 0)).1 ≤ f.getD j 0 ∧ f.getD j 0 ≤ ((l.getD i []).getD j (0, 0)).2) ∧ (∀ j, j + 1 < k → f.getD (j + 1) 0 ≤ f.getD j 0) ∧ 0 ≤ v' ∧ v' ≤ v6 + k ∧
   x = (by', n, v', f.length, l, ((l.length : Nat) : Int), (i : Int), l.getD i [], (((l.getD i []).length : Nat) : Int), (k : Int), b0, f, ()))
  (fun b => ∃ (f : List Int) (v' : Int), f.length = (l.getD i []).length ∧ (∀ j, j < (l.getD i []).length → ((l.getD i []).getD j (0, 0)).1 ≤ f.getD j 0 ∧ f.getD j 0 ≤ ((l.getD i []).getD j (0, 0)).2) ∧ (∀ j, j + 1 < (l.getD i []).length → f.getD (j + 1) 0 ≤ f.getD j 0) ∧ 0 ≤ v' ∧ v' ≤ v6 + (l.getD i []).length ∧
   b = (by', n, v', f.length, l, ((l.length : Nat) : Int), (i : Int), b0, f, ()))
  (x := (by', n, v6, 0, l, ((l.length : Nat) : Int), (i : Int), l.getD i [], (((l.getD i []).length : Nat) : Int), (0 : Int), b0, [], ()))
  (fun k x hk hx => by
   obtain ⟨f, v', p1, p2, p3, p4, p5, rfl⟩ := hx
   have ck := cl k
   have hk1 := ch k
   have hlek := hle k hk
   -- what comes next, at whatever greatest number
   have nxt : ∀ y, ((l.getD i []).getD k (0, 0)).1 ≤ y → y ≤ ((l.getD i []).getD k (0, 0)).2 → (0 < k → y ≤ f.getD (k - 1) 0) →
     ∃ (f' : List Int) (w : Int), f'.length = k + 1 ∧ (∀ j, j < k + 1 → ((l.getD i []).getD j (0, 0)).1 ≤ f'.getD j 0 ∧ f'.getD j 0 ≤ ((l.getD i []).getD j (0, 0)).2) ∧ (∀ j, j + 1 < k + 1 → f'.getD (j + 1) 0 ≤ f'.getD j 0) ∧ 0 ≤ w ∧ w ≤ v6 + ((k + 1 : Nat) : Int) ∧
      (by', n, v' + 1, f.length + 1, l, ((l.length : Nat) : Int), (i : Int), l.getD i [], (((l.getD i []).length : Nat) : Int), (k : Int) + 1, b0, f ++ [y], ()) = (by', n, w, f'.length, l, ((l.length : Nat) : Int), (i : Int), l.getD i [], (((l.getD i []).length : Nat) : Int), ((k + 1 : Nat) : Int), b0, f', ()) := fun y y1 y2 y3 => by
    refine ⟨f ++ [y], v' + 1, by simp [p1], fun j hj => ?_, fun j hj => ?_, by omega, by omega, by simp⟩
    ·by_cases e : j = k
     ·subst e; rw [getD_snoc_eq p1.symm]; exact ⟨y1, y2⟩
     ·rw [getD_snoc_lt (by omega)]; exact p2 j (by omega)
    ·by_cases e : j + 1 = k
     ·rw [getD_snoc_eq (by omega), getD_snoc_lt (by omega)]; have := y3 (by omega); rwa [show k - 1 = j by omega] at this
     ·rw [getD_snoc_lt (by omega), getD_snoc_lt (by omega)]; exact p3 j (by omega)
   have tk : ∀ y : Int, List.take f.length (List.drop 0 f) ++ List.take 1 (List.drop 0 [y]) = f ++ [y] := fun y => by simp
   have tl : ∀ y : Int, f.length + (List.take 1 (List.drop 0 [y])).length = f.length + 1 := fun y => by simp
   have hby : 0 < by'.length → ∀ hi : Int, ((l.getD i []).getD k (0, 0)).1 ≤ hi → hi ≤ 1000000 →
     (0 ≤ Int.tmod v' (by'.length : Nat) ∧ Int.tmod v' (by'.length : Nat) < (by'.length : Nat)) ∧
     (0 ≤ by'.getD (Int.tmod v' (by'.length : Nat)).toNat 0 ∧ by'.getD (Int.tmod v' (by'.length : Nat)).toNat 0 ≤ 255) ∧
     (0 ≤ Int.tmod (by'.getD (Int.tmod v' (by'.length : Nat)).toNat 0) (hi - ((l.getD i []).getD k (0, 0)).1 + 1) ∧ Int.tmod (by'.getD (Int.tmod v' (by'.length : Nat)).toNat 0) (hi - ((l.getD i []).getD k (0, 0)).1 + 1) ≤ hi - ((l.getD i []).getD k (0, 0)).1) := fun hpos hi h1 h2 => by
    have m1 := tmod_rng p4 (m := ((by'.length : Nat) : Int)) (by omega)
    have m2 := hb _ (getD_mem (d := 0) (show (Int.tmod v' (by'.length : Nat)).toNat < by'.length by omega))
    have m3 := tmod_rng m2.1 (m := hi - ((l.getD i []).getD k (0, 0)).1 + 1) (by omega)
    exact ⟨m1, m2, by omega, by omega⟩
   simp only [g43_1, Int.toNat_natCast, Nat.zero_add, tk, tl]
   rw [br_d, if_pos (by omega), need_inb (by omega) (by omega), br_d]
   by_cases c0 : 0 < k
   ·have ek : ((k : Int) - 1).toNat = k - 1 := by omega
    have pk := p2 (k - 1) (by omega)
    have an := hanti (k - 1) (by omega)
    rw [show k - 1 + 1 = k by omega] at an
    rw [if_pos (by omega), need_i64 (by omega) (by omega), need_inb (by omega) (by omega)]
    simp only [ek]
    rw [need_d (by omega), br_d]
    obtain ⟨hi2, hh⟩ : ∃ hi2, imin ((l.getD i []).getD k (0, 0)).2 (f.getD (k - 1) 0) = hi2 := ⟨_, rfl⟩
    have hh2 : ((l.getD i []).getD k (0, 0)).1 ≤ hi2 ∧ hi2 ≤ ((l.getD i []).getD k (0, 0)).2 ∧ hi2 ≤ f.getD (k - 1) 0 := by unfold imin at hh; omega
    by_cases c1 : 0 < by'.length
    ·obtain ⟨m1, m2, m3, m4⟩ := hby c1 hi2 (by omega) (by omega)
     obtain ⟨z, hz⟩ : ∃ z, Int.tmod (by'.getD (Int.tmod v' (by'.length : Nat)).toNat 0) (hi2 - ((l.getD i []).getD k (0, 0)).1 + 1) = z := ⟨_, rfl⟩
     simp only [hh, hz] at m3 m4 ⊢
     refine ⟨_, by rw [if_pos (by omega), need_t (ne0 (by omega)), need_inb (by omega) (by omega), need_i64 (by omega) (by omega), need_i64 (by omega) (by omega), need_i64 (by omega) (by omega), need_t (ne0 (by omega)), need_i64 (by omega) (by omega), need_i64 (by omega) (by omega), need_big (by omega), need_i64 (by omega) (by omega)], nxt _ (by omega) (by omega) (fun _ => by omega)⟩
    ·refine ⟨_, by rw [if_neg (by omega), need_i64 (by omega) (by omega), need_big (by omega), need_i64 (by omega) (by omega)], nxt _ (by omega) (by omega) (fun _ => by omega)⟩
   ·rw [if_neg (by omega), br_d]
    by_cases c1 : 0 < by'.length
    ·obtain ⟨m1, m2, m3, m4⟩ := hby c1 ((l.getD i []).getD k (0, 0)).2 (by omega) (by omega)
     obtain ⟨z, hz⟩ : ∃ z, Int.tmod (by'.getD (Int.tmod v' (by'.length : Nat)).toNat 0) (((l.getD i []).getD k (0, 0)).2 - ((l.getD i []).getD k (0, 0)).1 + 1) = z := ⟨_, rfl⟩
     simp only [hz] at m3 m4 ⊢
     refine ⟨_, by rw [if_pos (by omega), need_t (ne0 (by omega)), need_inb (by omega) (by omega), need_i64 (by omega) (by omega), need_i64 (by omega) (by omega), need_i64 (by omega) (by omega), need_t (ne0 (by omega)), need_i64 (by omega) (by omega), need_i64 (by omega) (by omega), need_big (by omega), need_i64 (by omega) (by omega)], nxt _ (by omega) (by omega) (fun _ => by omega)⟩
    ·refine ⟨_, by rw [if_neg (by omega), need_i64 (by omega) (by omega), need_big (by omega), need_i64 (by omega) (by omega)], nxt _ (by omega) (by omega) (fun _ => by omega)⟩)
  (fun x hx => by
   obtain ⟨f, v', p1, p2, p3, p4, p5, rfl⟩ := hx
   exact ⟨_, by simp only [g43_1]; rw [br_d, if_neg (by omega)], f, v', p1, p2, p3, p4, p5, rfl⟩)
  ⟨[], v6, rfl, fun j hj => by omega, fun j hj => by omega, hv.1, by omega, rfl⟩
 exact ⟨b, e, f, v', ⟨q1, q2, q3⟩, q4, by omega, q6⟩
theorem F43_eq {l : Gs} (h : VG l) {by' : List Int} (hb : ∀ x ∈ by', 0 ≤ x ∧ x ≤ 255) : ∃ f, TruthOf l f ∧ F43 l by' = some (f, ()) := by
 have hl := h.len
 obtain ⟨b, e, f, q1, q2⟩ := iter_ex (step := fun x => g43_0 x.1 x.2.1 x.2.2.1 x.2.2.2.1 x.2.2.2.2.1 x.2.2.2.2.2.1 x.2.2.2.2.2.2.1) l.length
  (fun k x => ∃ (f : List (List Int)) (v' : Int), f.length = k ∧ (∀ j, j < k → RowIn (l.getD j []) (f.getD j [])) ∧ 0 ≤ v' ∧ v' ≤ k * 10 ∧ x = (by', f.length, v', l, ((l.length : Nat) : Int), (k : Int), f, ()))
  (fun b => ∃ f : List (List Int), TruthOf l f ∧ b = (f.length, f, ())) (x := (by', 0, (0 : Int), l, ((l.length : Nat) : Int), (0 : Int), [], ()))
  (fun k x hk hx => by
   obtain ⟨f, v', p1, p2, p3, p4, rfl⟩ := hx
   obtain ⟨b, e, r, w, r1, r2, r3, rfl⟩ := F43_in h hb hk (n := f.length) (v6 := v') (by omega) (b0 := f)
   have hr := r1.len
   have ht := h.tab _ (getD_mem (d := []) hk)
   refine ⟨_, by
    simp only [g43_0, Int.toNat_natCast]
    rw [br_d, if_pos (by omega), need_inb (by omega) (by omega), bind_of e]
    dsimp only
    rw [need_big (by simp; omega), need_i64 (by omega) (by omega)], f ++ [r], w, by simp [p1], fun j hj => ?_, r2, by omega, by simp [p1, List.take_of_length_le (l := f) (i := k) (by omega)]⟩
   by_cases ej : j = k
   ·subst ej; rw [getD_snoc_eq p1.symm]; exact r1
   ·rw [getD_snoc_lt (by omega)]; exact p2 j (by omega))
  (fun x hx => by
   obtain ⟨f, v', p1, p2, p3, p4, rfl⟩ := hx
   exact ⟨_, by simp only [g43_0]; rw [br_d, if_neg (by omega)], f, ⟨p1, p2⟩, rfl⟩)
  ⟨[], 0, rfl, fun j hj => by omega, by omega, by omega, rfl⟩
 subst q2
 refine ⟨f, q1, ?_⟩
 unfold F43
 rw [bind_of e]
 dsimp only
 rw [List.drop_zero, List.take_of_length_le (Nat.le_refl _)]
end Go.Proofs.Try
end
section
open Go.AM Go.Gm Go.Srt
namespace Go.Proofs.Try
set_option linter.unusedVariables false
set_option linter.unusedSimpArgs false
/-- Among those with the most, the least value. -/
def BestInv (F val : List Int → Int) (L : List (List Int)) (m y : Int) : Prop :=
 (∀ q ∈ L, F q ≤ m ∧ (F q = m → y ≤ val q)) ∧ ((L = [] ∧ m = -1) ∨ ∃ q ∈ L, F q = m ∧ val q = y)
theorem BestInv.up {F val : List Int → Int} {L : List (List Int)} {m y : Int} (h : BestInv F val L m y) {q : List Int} (hq : m < F q) : BestInv F val (L ++ [q]) (F q) (val q) := by
 refine ⟨fun p hp => ?_, .inr ⟨q, by simp, rfl, rfl⟩⟩
 rcases List.mem_append.1 hp with hp | hp
 ·have := h.1 p hp; exact ⟨by omega, fun e => by omega⟩
 ·have : p = q := by simpa using hp
  subst this; exact ⟨Int.le_refl _, fun _ => Int.le_refl _⟩
theorem BestInv.eq {F val : List Int → Int} {L : List (List Int)} {m y : Int} (h : BestInv F val L m y) {q : List Int} (hq : F q = m) (hv : val q < y) : BestInv F val (L ++ [q]) (F q) (val q) := by
 refine ⟨fun p hp => ?_, .inr ⟨q, by simp, rfl, rfl⟩⟩
 rcases List.mem_append.1 hp with hp | hp
 ·have := h.1 p hp; exact ⟨by omega, fun e => by have := this.2 (by omega); omega⟩
 ·have : p = q := by simpa using hp
  subst this; exact ⟨Int.le_refl _, fun _ => Int.le_refl _⟩
theorem BestInv.keep {F val : List Int → Int} {L : List (List Int)} {m y : Int} (h : BestInv F val L m y) {q : List Int} (h0 : 0 ≤ F q) (hq : F q ≤ m) (hv : F q = m → y ≤ val q) : BestInv F val (L ++ [q]) m y := by
 refine ⟨fun p hp => ?_, ?_⟩
 ·rcases List.mem_append.1 hp with hp | hp
  ·exact h.1 p hp
  ·have : p = q := by simpa using hp
   subst this; exact ⟨hq, hv⟩
 ·rcases h.2 with ⟨_, e⟩ | ⟨p, hp, e⟩
  ·omega
  ·exact .inr ⟨p, by simp [hp], e⟩
end Go.Proofs.Try
end
section
open Go.AM Go.Gm Go.Srt
namespace Go.Proofs.Try
set_option linter.unusedVariables false
set_option linter.unusedSimpArgs false
theorem bytes1_of {d : List Int} (h : Wf (.list (.int .u8)) d) : ∀ x ∈ d, 0 ≤ x ∧ x ≤ 255 := fun x hx => by
 have := h.2 x hx
 simp only [Wf] at this
 have e1 : IntKind.u8.min = 0 := by decide
 have e2 : IntKind.u8.max = 255 := by decide
 rw [e1, e2] at this
 exact this
end Go.Proofs.Try
end
section
open Go.AM Go.Gm Go.Srt
namespace Go.Proofs.Try
set_option linter.unusedVariables false
set_option linter.unusedSimpArgs false
/-- Narrower guesses that the truth meets. -/
structure NRow (t : List (Int × Int)) (f : List Int) (b : List (Int × Int)) : Prop where
 len : b.length = t.length
 rng : ∀ k, k < t.length → (t.getD k (0, 0)).1 ≤ (b.getD k (0, 0)).1 ∧ (b.getD k (0, 0)).1 ≤ f.getD k 0 ∧ (b.getD k (0, 0)).2 = f.getD k 0
structure NarrowOf (l : Gs) (f : List (List Int)) (m : Gs) : Prop where
 len : m.length = l.length
 row : ∀ i, i < l.length → NRow (l.getD i []) (f.getD i []) (m.getD i [])
 desc : ∀ i, i < l.length → ∀ k, k + 1 < (l.getD i []).length → ((m.getD i []).getD (k + 1) (0, 0)).1 ≤ ((m.getD i []).getD k (0, 0)).1
theorem NarrowOf.chk {l : Gs} (h : VG l) {f : List (List Int)} (hf : TruthOf l f) {m : Gs} (hm : NarrowOf l f m) : chkGs m = 0 := by
 have hl := h.len
 have hml := hm.len
 refine chkGs_ok (by omega) fun t ht => ?_
 obtain ⟨i, hi, rfl⟩ := List.mem_iff_getElem.1 ht
 have hi2 : i < l.length := by omega
 have hn := hm.row i hi2
 have hd := hm.desc i hi2
 have hr := hf.row i hi2
 rw [getD_el [] hi] at hn hd
 have htl := h.tab _ (getD_mem (d := []) hi2)
 refine ⟨by rw [hn.len]; exact htl, fun k hk => ?_⟩
 rw [hn.len] at hk
 have n1 := hn.rng k hk
 have r1 := hr.rng k hk
 have c1 := cell_bound h.lo i k
 have c2 := cell_bound h.hi i k
 rw [lows_getD] at c1
 rw [highs_getD] at c2
 unfold stopTg
 rw [if_neg (by omega)]
 by_cases c : 0 < k
 ·have n2 := hn.rng (k - 1) (by omega)
  have d2 := hd (k - 1) (by omega)
  have d3 := hr.desc (k - 1) (by omega)
  rw [show k - 1 + 1 = k by omega] at d2 d3
  rw [if_neg (by omega)]
 ·rw [if_neg (by omega)]
theorem F13_row {l : Gs} (h : VG l) {f : List (List Int)} (hf : TruthOf l f) {by' : List Int} (hb : ∀ x ∈ by', 0 ≤ x ∧ x ≤ 255) {g n9 i : Nat} (hi : i < l.length) {n : Int} {b0 : Gs} :
  ∃ b, NRow (l.getD i []) (f.getD i []) b ∧ iter (fun x => g13_1 x.1 x.2.1 x.2.2.1 x.2.2.2.1 x.2.2.2.2.1 x.2.2.2.2.2.1 x.2.2.2.2.2.2.1 x.2.2.2.2.2.2.2.1 x.2.2.2.2.2.2.2.2.1 x.2.2.2.2.2.2.2.2.2.1 x.2.2.2.2.2.2.2.2.2.2.1 x.2.2.2.2.2.2.2.2.2.2.2.1 x.2.2.2.2.2.2.2.2.2.2.2.2.1 x.2.2.2.2.2.2.2.2.2.2.2.2.2.1) (by', l, (g : Int), n9, (i : Int), 0, f, n, (i : Int), f.getD i [], (((f.getD i []).length : Nat) : Int), (0 : Int), b0, [], ()) =
   some (by', l, (g : Int), n9, b.length, f, n, (i : Int), b0, b, ()) := by
 have hl := h.len
 have hr := hf.row i hi
 have hrl := hr.len
 have ht := h.tab _ (getD_mem (d := []) hi)
 obtain ⟨b, e, c, q1, q2⟩ := iter_ex (step := (fun x => g13_1 x.1 x.2.1 x.2.2.1 x.2.2.2.1 x.2.2.2.2.1 x.2.2.2.2.2.1 x.2.2.2.2.2.2.1 x.2.2.2.2.2.2.2.1 x.2.2.2.2.2.2.2.2.1 x.2.2.2.2.2.2.2.2.2.1 x.2.2.2.2.2.2.2.2.2.2.1 x.2.2.2.2.2.2.2.2.2.2.2.1 x.2.2.2.2.2.2.2.2.2.2.2.2.1 x.2.2.2.2.2.2.2.2.2.2.2.2.2.1)) (l.getD i []).length
  (fun k x => ∃ b : List (Int × Int), b.length = k ∧ (∀ j, j < k → ((l.getD i []).getD j (0, 0)).1 ≤ (b.getD j (0, 0)).1 ∧ (b.getD j (0, 0)).1 ≤ (f.getD i []).getD j 0 ∧ (b.getD j (0, 0)).2 = (f.getD i []).getD j 0) ∧
   x = (by', l, (g : Int), n9, (i : Int), b.length, f, n, (i : Int), f.getD i [], (((f.getD i []).length : Nat) : Int), (k : Int), b0, b, ()))
  (fun y => ∃ b, NRow (l.getD i []) (f.getD i []) b ∧ y = (by', l, (g : Int), n9, b.length, f, n, (i : Int), b0, b, ()))
  (x := (by', l, (g : Int), n9, (i : Int), 0, f, n, (i : Int), f.getD i [], (((f.getD i []).length : Nat) : Int), (0 : Int), b0, [], ()))
  (fun k x hk hx => by
   obtain ⟨b, p1, p2, rfl⟩ := hx
   have r1 := hr.rng k hk
   have c1 := cell_bound h.lo i k
   have c2 := cell_bound h.hi i k
   rw [lows_getD] at c1
   rw [highs_getD] at c2
   have nxt : ∀ y : Int × Int, ((l.getD i []).getD k (0, 0)).1 ≤ y.1 → y.1 ≤ (f.getD i []).getD k 0 → y.2 = (f.getD i []).getD k 0 →
     ∃ b' : List (Int × Int), b'.length = k + 1 ∧ (∀ j, j < k + 1 → ((l.getD i []).getD j (0, 0)).1 ≤ (b'.getD j (0, 0)).1 ∧ (b'.getD j (0, 0)).1 ≤ (f.getD i []).getD j 0 ∧ (b'.getD j (0, 0)).2 = (f.getD i []).getD j 0) ∧
      (by', l, (g : Int), n9, (i : Int), b.length + 1, f, n, (i : Int), f.getD i [], (((f.getD i []).length : Nat) : Int), (k : Int) + 1, b0, b ++ [y], ()) =
      (by', l, (g : Int), n9, (i : Int), b'.length, f, n, (i : Int), f.getD i [], (((f.getD i []).length : Nat) : Int), ((k + 1 : Nat) : Int), b0, b', ()) := fun y y1 y2 y3 => by
    refine ⟨b ++ [y], by simp [p1], fun j hj => ?_, by simp⟩
    by_cases e : j = k
    ·subst e; rw [getD_snoc_eq p1.symm]; exact ⟨y1, y2, y3⟩
    ·rw [getD_snoc_lt (by omega)]; exact p2 j (by omega)
   have tk : ∀ y : Int × Int, List.take b.length (List.drop 0 b) ++ List.take 1 (List.drop 0 [y]) = b ++ [y] := fun y => by simp
   have tl : ∀ y : Int × Int, b.length + (List.take 1 (List.drop 0 [y])).length = b.length + 1 := fun y => by simp
   have hmx : imax ((f.getD i []).getD k 0) ((l.getD i []).getD k (0, 0)).1 = (f.getD i []).getD k 0 := by unfold imax; omega
   simp only [g13_1, Int.toNat_natCast, tk, tl, hmx]
   rw [br_d, if_pos (by omega), need_inb (by omega) (by omega), br_d]
   by_cases c1 : 0 < by'.length
   ·have m1 := tmod_rng (x := (i : Int) + (k : Int)) (by omega) (m := ((by'.length : Nat) : Int)) (by omega)
    rw [if_pos (by omega), need_i64 (by omega) (by omega), need_t (ne0 (by omega)), need_inb (by omega) (by omega), need_t (by decide), br_eq]
    by_cases c3 : Int.tmod (by'.getD (Int.tmod ((i : Int) + (k : Int)) ((by'.length : Nat) : Int)).toNat 0) 3 = 0
    ·refine ⟨_, by rw [if_pos c3, need_big (by omega), need_i64 (by omega) (by omega)], nxt _ (by simp only; omega) (by simp only; omega) rfl⟩
    ·refine ⟨_, by rw [if_neg c3, need_inb (by omega) (by omega), need_inb (by omega) (by omega), need_inb (by omega) (by omega), need_inb (by omega) (by omega), need_big (by omega), need_i64 (by omega) (by omega)], nxt _ (by simp only; omega) (by simp only; omega) rfl⟩
   ·refine ⟨_, by rw [if_neg (by omega), need_inb (by omega) (by omega), need_inb (by omega) (by omega), need_inb (by omega) (by omega), need_inb (by omega) (by omega), need_big (by omega), need_i64 (by omega) (by omega)], nxt _ (by simp only; omega) (by simp only; omega) rfl⟩)
  (fun x hx => by
   obtain ⟨b, p1, p2, rfl⟩ := hx
   exact ⟨_, by simp only [g13_1]; rw [br_d, if_neg (by omega)], b, ⟨p1, p2⟩, rfl⟩)
  ⟨[], rfl, fun j hj => by omega, rfl⟩
 subst q2
 exact ⟨c, q1, e⟩
theorem F13_down {l : Gs} (h : VG l) {f : List (List Int)} (hf : TruthOf l f) {by' : List Int} {g n9 i : Nat} (hi : i < l.length) {n : Int} {b0 : Gs} {b : List (Int × Int)} (hb : NRow (l.getD i []) (f.getD i []) b) :
  ∃ c, NRow (l.getD i []) (f.getD i []) c ∧ (∀ k, k + 1 < (l.getD i []).length → (c.getD (k + 1) (0, 0)).1 ≤ (c.getD k (0, 0)).1) ∧
   iter (fun x => g13_2 x.1 x.2.1 x.2.2.1 x.2.2.2.1 x.2.2.2.2.1 x.2.2.2.2.2.1 x.2.2.2.2.2.2.1 x.2.2.2.2.2.2.2.1 x.2.2.2.2.2.2.2.2.1 x.2.2.2.2.2.2.2.2.2.1 x.2.2.2.2.2.2.2.2.2.2.1) (by', l, (g : Int), n9, b.length, ((b.length : Nat) : Int) - 2, f, n, (i : Int), b0, b, ()) = some (by', l, (g : Int), n9, c.length, f, n, (i : Int), b0, c, ()) := by
 have hl := h.len
 have hr := hf.row i hi
 have ht := h.tab _ (getD_mem (d := []) hi)
 have hbl := hb.len
 obtain ⟨y, e, c, q1, q2, q3⟩ := iter_ex (step := (fun x => g13_2 x.1 x.2.1 x.2.2.1 x.2.2.2.1 x.2.2.2.2.1 x.2.2.2.2.2.1 x.2.2.2.2.2.2.1 x.2.2.2.2.2.2.2.1 x.2.2.2.2.2.2.2.2.1 x.2.2.2.2.2.2.2.2.2.1 x.2.2.2.2.2.2.2.2.2.2.1)) ((l.getD i []).length - 1)
  (fun r x => ∃ c, NRow (l.getD i []) (f.getD i []) c ∧ (∀ k, k + 1 < (l.getD i []).length → (l.getD i []).length ≤ k + 1 + r → (c.getD (k + 1) (0, 0)).1 ≤ (c.getD k (0, 0)).1) ∧
   x = (by', l, (g : Int), n9, c.length, ((b.length : Nat) : Int) - 2 - (r : Int), f, n, (i : Int), b0, c, ()))
  (fun y => ∃ c, NRow (l.getD i []) (f.getD i []) c ∧ (∀ k, k + 1 < (l.getD i []).length → (c.getD (k + 1) (0, 0)).1 ≤ (c.getD k (0, 0)).1) ∧ y = (by', l, (g : Int), n9, c.length, f, n, (i : Int), b0, c, ()))
  (x := (by', l, (g : Int), n9, b.length, ((b.length : Nat) : Int) - 2, f, n, (i : Int), b0, b, ()))
  (fun r x hk hx => by
   obtain ⟨c, p1, p2, rfl⟩ := hx
   have hcl := p1.len
   obtain ⟨j, hj⟩ : ∃ j : Nat, ((b.length : Nat) : Int) - 2 - (r : Int) = (j : Int) := ⟨b.length - 2 - r, by omega⟩
   have n1 := p1.rng j (by omega)
   have n2 := p1.rng (j + 1) (by omega)
   have d := hr.desc j (by omega)
   have ej : ((j : Int) + 1).toNat = j + 1 := by omega
   simp only [g13_2, hj, Int.toNat_natCast, Nat.zero_add, ej]
   rw [br_d, if_pos (by omega), need_inb (by omega) (by omega), need_d (by omega), need_i64 (by omega) (by omega), need_inb (by omega) (by omega), need_d (by omega), need_inb (by omega) (by omega), need_d (by omega), need_i64 (by omega) (by omega), need_inb (by omega) (by omega), need_d (by omega), need_inb (by omega) (by omega), need_d (by omega), need_inb (by omega) (by omega), need_d (by rw [List.length_set]; omega), need_i64 (by omega) (by omega), set_getD (by omega), List.set_set]
   have v1 : ((l.getD i []).getD j (0, 0)).1 ≤ imax (c.getD j (0, 0)).1 (c.getD (j + 1) (0, 0)).1 ∧ imax (c.getD j (0, 0)).1 (c.getD (j + 1) (0, 0)).1 ≤ (f.getD i []).getD j 0 ∧ (c.getD (j + 1) (0, 0)).1 ≤ imax (c.getD j (0, 0)).1 (c.getD (j + 1) (0, 0)).1 := by unfold imax; omega
   have v2 : imax (c.getD j (0, 0)).2 (c.getD (j + 1) (0, 0)).2 = (f.getD i []).getD j 0 := by unfold imax; omega
   generalize imax (c.getD j (0, 0)).1 (c.getD (j + 1) (0, 0)).1 = w1 at *
   generalize imax (c.getD j (0, 0)).2 (c.getD (j + 1) (0, 0)).2 = w2 at *
   refine ⟨_, rfl, c.set j (w1, w2), ⟨by rw [List.length_set]; omega, fun k hk2 => ?_⟩, fun k hk2 hk3 => ?_, by simp; omega⟩
   ·by_cases e : j = k
    ·subst e; rw [set_getD (by omega)]; exact ⟨v1.1, v1.2.1, v2⟩
    ·rw [set_getD_ne e]; exact p1.rng k hk2
   ·by_cases e : j = k
    ·subst e; rw [set_getD (by omega), set_getD_ne (by omega)]; exact v1.2.2
    ·rw [set_getD_ne e, set_getD_ne (by omega)]; exact p2 k hk2 (by omega))
  (fun x hx => by
   obtain ⟨c, p1, p2, rfl⟩ := hx
   exact ⟨_, by simp only [g13_2]; rw [br_d, if_neg (by omega)], c, p1, fun k hk => p2 k hk (by omega), rfl⟩)
  ⟨b, hb, fun k h1 h2 => by omega, by simp⟩
 subst q3
 exact ⟨c, q1, q2, e⟩
theorem F13_made {l : Gs} (h : VG l) {f : List (List Int)} (hf : TruthOf l f) {by' : List Int} (hb : ∀ x ∈ by', 0 ≤ x ∧ x ≤ 255) {g : Nat} :
  ∃ m, NarrowOf l f m ∧ iter (fun x => g13_0 x.1 x.2.1 x.2.2.1 x.2.2.2.1 x.2.2.2.2.1 x.2.2.2.2.2.1 x.2.2.2.2.2.2.1 x.2.2.2.2.2.2.2.1) (by', l, (g : Int), 0, f, ((f.length : Nat) : Int), (0 : Int), [], ()) = some (l, (g : Int), m.length, m, ()) := by
 have hl := h.len
 have hfl := hf.len
 obtain ⟨y, e, m, q1, q2⟩ := iter_ex (step := (fun x => g13_0 x.1 x.2.1 x.2.2.1 x.2.2.2.1 x.2.2.2.2.1 x.2.2.2.2.2.1 x.2.2.2.2.2.2.1 x.2.2.2.2.2.2.2.1)) l.length
  (fun k x => ∃ m : Gs, m.length = k ∧ (∀ i, i < k → NRow (l.getD i []) (f.getD i []) (m.getD i []) ∧ ∀ j, j + 1 < (l.getD i []).length → ((m.getD i []).getD (j + 1) (0, 0)).1 ≤ ((m.getD i []).getD j (0, 0)).1) ∧
   x = (by', l, (g : Int), m.length, f, ((f.length : Nat) : Int), (k : Int), m, ()))
  (fun y => ∃ m, NarrowOf l f m ∧ y = (l, (g : Int), m.length, m, ())) (x := (by', l, (g : Int), 0, f, ((f.length : Nat) : Int), (0 : Int), [], ()))
  (fun k x hk hx => by
   obtain ⟨m, p1, p2, rfl⟩ := hx
   obtain ⟨b, r1, e1⟩ := F13_row h hf hb hk (g := g) (n9 := m.length) (n := ((f.length : Nat) : Int)) (b0 := m)
   obtain ⟨c, r2, r3, e2⟩ := F13_down h hf hk (by' := by') (g := g) (n9 := m.length) (n := ((f.length : Nat) : Int)) (b0 := m) r1
   have hbl := r1.len
   have hcl := r2.len
   have ht := h.tab _ (getD_mem (d := []) hk)
   refine ⟨_, by
    simp only [g13_0, Int.toNat_natCast]
    rw [br_d, if_pos (by omega), need_inb (by omega) (by omega), bind_of e1]
    dsimp only
    rw [need_i64 (by omega) (by omega), bind_of e2]
    dsimp only
    rw [need_big (by simp; omega), need_i64 (by omega) (by omega)], m ++ [c], by simp [p1], fun i hi => ?_, by simp [p1, List.take_of_length_le (l := m) (i := k) (by omega)]⟩
   by_cases ei : i = k
   ·subst ei; rw [getD_snoc_eq p1.symm]; exact ⟨r2, r3⟩
   ·rw [getD_snoc_lt (by omega)]; exact p2 i (by omega))
  (fun x hx => by
   obtain ⟨m, p1, p2, rfl⟩ := hx
   exact ⟨_, by simp only [g13_0]; rw [br_d, if_neg (by omega)], m, ⟨p1, fun i hi => (p2 i hi).1, fun i hi => (p2 i hi).2⟩, rfl⟩)
  ⟨[], rfl, fun i hi => by omega, rfl⟩
 subst q2
 exact ⟨m, q1, e⟩
theorem narrow_in {l : Gs} (h : VG l) {f : List (List Int)} (hf : TruthOf l f) {m : Gs} (hm : NarrowOf l f m) (vm : VG m) {g a : Nat} (ha : a < l.length) :
  (shareOf l g a).1 ≤ (shareOf m g a).1 ∧ (shareOf m g a).2 ≤ (shareOf l g a).2 := by
 have el : (lows l).length = l.length := by simp [lows]
 have eh : (highs l).length = l.length := by simp [highs]
 have ml : (lows m).length = m.length := by simp [lows]
 have mh : (highs m).length = m.length := by simp [highs]
 have hml := hm.len
 have n1 := cntQ_mono (g := g) (vm.hi.set vm.lo a) (h.hi.set h.lo a) (a := a) (v := -1) (most := false) (.inr ⟨rfl, rfl⟩) (by simp; omega) (fun i hi => by
   have hi2 : i < l.length := by simp only [List.length_set, mh] at hi; omega
   by_cases e : a = i
   ·subst e; rw [set_getD (by omega), set_getD (by omega), lows_len, lows_len, (hm.row _ ha).len]
   ·rw [set_getD_ne e, set_getD_ne e, highs_len, highs_len, (hm.row i hi2).len]) (fun k hk => by
   rw [set_getD (by omega), lows_len, (hm.row a ha).len] at hk
   rw [set_getD (by omega), set_getD (by omega), lows_getD, lows_getD]
   exact ((hm.row a ha).rng k hk).1) (fun i hi e k hk => by
   have hi2 : i < l.length := by simp only [List.length_set, mh] at hi; omega
   rw [set_getD_ne (by omega), highs_len, (hm.row i hi2).len] at hk
   rw [set_getD_ne (by omega), set_getD_ne (by omega), highs_getD, highs_getD]
   have := (hm.row i hi2).rng k hk
   have := (hf.row i hi2).rng k hk
   omega) (by simp; omega)
 have n2 := cntQ_mono (g := g) (h.lo.set h.hi a) (vm.lo.set vm.hi a) (a := a) (v := 1) (most := true) (.inl ⟨rfl, rfl⟩) (by simp; omega) (fun i hi => by
   have hi2 : i < l.length := by simp only [List.length_set, el] at hi; omega
   by_cases e : a = i
   ·subst e; rw [set_getD (by omega), set_getD (by omega), highs_len, highs_len, (hm.row _ ha).len]
   ·rw [set_getD_ne e, set_getD_ne e, lows_len, lows_len, (hm.row i hi2).len]) (fun k hk => by
   rw [set_getD (by omega), highs_len] at hk
   rw [set_getD (by omega), set_getD (by omega), highs_getD, highs_getD]
   have := (hm.row a ha).rng k hk
   have := (hf.row a ha).rng k hk
   omega) (fun i hi e k hk => by
   have hi2 : i < l.length := by simp only [List.length_set, el] at hi; omega
   rw [set_getD_ne (by omega), lows_len] at hk
   rw [set_getD_ne (by omega), set_getD_ne (by omega), lows_getD, lows_getD]
   exact ((hm.row i hi2).rng k hk).1) (by simp; omega)
 unfold shareOf
 dsimp only
 omega
theorem narrow_sugar {l : Gs} (h : VG l) {f : List (List Int)} (hf : TruthOf l f) {m : Gs} (hm : NarrowOf l f m) (vm : VG m) (g : Nat) :
  Tops.tops (mrgAll (lows l)) g ≤ Tops.tops (mrgAll (lows m)) g ∧ Tops.tops (mrgAll (highs m)) g ≤ Tops.tops (mrgAll (highs l)) g := by
 have el : (lows l).length = l.length := by simp [lows]
 have eh : (highs l).length = l.length := by simp [highs]
 have ml : (lows m).length = m.length := by simp [lows]
 have mh : (highs m).length = m.length := by simp [highs]
 have hml := hm.len
 refine ⟨tops_mono_fields h.lo vm.lo g (by omega) (fun i hi => ?_) (fun i hi k hk => ?_), tops_mono_fields vm.hi h.hi g (by omega) (fun i hi => ?_) (fun i hi k hk => ?_)⟩
 ·rw [lows_len, lows_len, (hm.row i (by omega)).len]
 ·rw [lows_len] at hk; rw [lows_getD, lows_getD]; exact ((hm.row i (by omega)).rng k hk).1
 ·rw [highs_len, highs_len, (hm.row i (by omega)).len]
 ·rw [highs_len, (hm.row i (by omega)).len] at hk
  rw [highs_getD, highs_getD]
  have := (hm.row i (by omega)).rng k hk
  have := (hf.row i (by omega)).rng k hk
  omega
theorem shares_getD {l : Gs} {g n a : Nat} (h : a < n) : (shares l g n).getD a (0, 0) = shareOf l g a := by simp [shares, List.getD_eq_getElem?_getD, h]
theorem law13 (d : List (List (Int × Int))) (gangs : Int) (by' : List Int) (hW : WfAll [.list (.list (.prod (.int .u8) (.int .u8))), .int .u8, .list (.int .u8)] (d, gangs, by', ())) : F13 d gangs by' = some (true, ()) := by
 have hB := bytes2_of hW.1
 have hb := bytes1_of hW.2.2.1
 have e1 : IntKind.u8.min = 0 := by decide
 have e2 : IntKind.u8.max = 255 := by decide
 have hg : 0 ≤ gangs ∧ gangs ≤ 255 := by have := hW.2.1; simp only [Wf] at this; rwa [e1, e2] at this
 obtain ⟨hc, hl3, ht3⟩ := doubt_ok hB
 have h := chkGs_val hc
 obtain ⟨G, rfl⟩ : ∃ n : Nat, gangs = n := ⟨gangs.toNat, by omega⟩
 have eg : Int.tmod (G : Int) 12 = ((G % 12 : Nat) : Int) := rfl
 unfold F13
 rw [F42_eq hB, bindO_s]
 dsimp only
 rw [need_i64 (by omega) (by omega), need_t (by decide), eg]
 generalize hgg : G % 12 = g
 have hg12 : g < 12 := by omega
 generalize doubt d = l at *
 obtain ⟨f, hf, e43⟩ := F43_eq h hb
 rw [e43, bindO_s]
 dsimp only
 obtain ⟨m, hm, em⟩ := F13_made h hf hb (g := g)
 have hcm := hm.chk h hf
 have vm := chkGs_val hcm
 have hml := hm.len
 have ns := narrow_sugar h hf hm vm g
 rw [bind_of em]
 dsimp only
 rw [List.drop_zero, List.take_of_length_le (Nat.le_refl _), F35_good h hc (by omega), bindO_s, F35_good vm hcm (by omega), bindO_s]
 dsimp only
 rw [br_not, br_t (by decide), br_not, br_t (by decide), shares_length, shares_length, br_not, br_eq, if_pos (by omega), br_d, if_neg (by omega), br_d, if_neg (by omega)]
 have key : iter (fun x => g13_3 x.1 x.2.1 x.2.2.1 x.2.2.2.1) (shares l g l.length, shares m g m.length, ((l.length : Nat) : Int), (0 : Int), ()) = some (.inr ()) :=
  iter_count (step := (fun x => g13_3 x.1 x.2.1 x.2.2.1 x.2.2.2.1)) l.length (fun k => (shares l g l.length, shares m g m.length, ((l.length : Nat) : Int), (k : Int), ())) (fun k hk => by
   have hl := h.len
   have s1 := shares_length l g l.length
   have s2 := shares_length m g m.length
   have ni := narrow_in h hf hm vm (g := g) hk
   rw [← shares_getD (l := l) (g := g) hk, ← shares_getD (l := m) (g := g) (n := m.length) (by omega)] at ni
   simp only [g13_3, Int.toNat_natCast]
   rw [br_d, if_pos (by omega), need_inb (by omega) (by omega), need_inb (by omega) (by omega), br_d, if_neg (by omega), need_inb (by omega) (by omega), need_inb (by omega) (by omega), br_d, if_neg (by omega), need_i64 (by omega) (by omega)]
   simp) (by simp only [g13_3]; rw [br_d, if_neg (by omega)])
 rw [bind_of key]
 dsimp only
 rw [F16_eq, bindO_s]
end Go.Proofs.Try
end
