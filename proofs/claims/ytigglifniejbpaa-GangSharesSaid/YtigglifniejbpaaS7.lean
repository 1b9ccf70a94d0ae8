/- What the plain functions of gang and its reference come to. Check of fields: the program and its reference find the same first error. Sums and the sugar of plans: the program and its reference count the same. The steps of fields in order, and best plans. The reference's best plans: field by field, for each number of gangs. What the laws share: given, large, works; the plan of a best one. Guesses: their check, and the fields that are made of them. Fields that are made of guesses: the lowest, the highest, and those that are worst and best for a field. A sort whose closure has captured cells does what the generic one does. Shares: how many gangs a field has in best plans, the fewest and the most. Shares: the program and its reference find the same. -/
import Derived.Test.YtigglifniejbpaaX7
set_option linter.unusedVariables false
set_option linter.unusedSimpArgs false
section
open Go.AM
namespace Go.Proofs.Try
set_option linter.unusedVariables false
set_option linter.unusedSimpArgs false
theorem F48_eq (a b c : Int) : F48 a b c = some (decide (a ≤ b) && decide (b ≤ c), ()) := by
  unfold F48; rw [br_d]; by_cases h : a ≤ b <;> simp [h]
theorem F73_eq (a b c : Int) : F73 a b c = some (decide (b ≤ a) && decide (a ≤ c), ()) := by
  unfold F73; rw [br_d]; by_cases h : b ≤ a <;> simp [h]
theorem F50_eq (a b c : Int) : F50 a b c = some (decide (b ≤ a) && decide (a ≤ c), ()) := by
  unfold F50; rw [F73_eq, bindO_s]
/-- The sum of the first numbers. -/
def sumN (l : List Int) (k : Nat) : Int := (l.take k).sum
theorem sumN_succ {l : List Int} {k : Nat} (h : k < l.length) : sumN l (k + 1) = sumN l k + l.getD k 0 := by
  unfold sumN
  rw [List.take_succ_eq_append_getElem h, List.sum_append]
  simp [List.getD, h]
theorem sumN_bound {l : List Int} {c : Int} (hc : 0 ≤ c) (hb : ∀ x ∈ l, 0 ≤ x ∧ x ≤ c) (k : Nat) : 0 ≤ sumN l k ∧ sumN l k ≤ k * c := by
  induction k with
  | zero => simp [sumN]
  | succ k ih =>
    by_cases h : k < l.length
    · rw [sumN_succ h]
      have : l.getD k 0 ∈ l := by simp [List.getD, h]
      have := hb _ this
      rw [Int.natCast_add, Int.add_mul]
      omega
    · have : sumN l (k + 1) = sumN l k := by unfold sumN; rw [List.take_of_length_le (by omega), List.take_of_length_le (by omega)]
      rw [this, Int.natCast_add, Int.add_mul]
      omega
theorem F51_eq {l : List Int} {n : Nat} (h : n ≤ l.length) (hn : l.length ≤ 1000) (hb : ∀ x ∈ l, 0 ≤ x ∧ x ≤ 1000000) : F51 l n = some (sumN l n, ()) := by
  unfold F51
  have := iter_count (step := fun x => g51_0 x.1 x.2.1 x.2.2.1 x.2.2.2.1) n (fun k => (l, ((n : Int), (sumN l k, ((k : Int), ()))))) (b := (sumN l n, ())) (fun k hk => by
      have hs := sumN_bound (by omega) hb k
      have hs' := sumN_bound (by omega) hb (k + 1)
      rw [sumN_succ (by omega)] at hs'
      simp only [g51_0, Int.toNat_natCast]
      rw [br_d, if_pos (by omega), need_inb (by omega) (by omega), need_i64 (by omega) (by omega), need_i64 (by omega) (by omega), sumN_succ (by omega)]
      simp) (by simp only [g51_0]; rw [br_d, if_neg (by omega)])
  simp only [sumN, List.take_zero, List.sum_nil, Int.natCast_zero] at this ⊢
  rw [bind_of this]
end Go.Proofs.Try
end
section
open Go.AM
namespace Go.Proofs.Try
set_option linter.unusedVariables false
set_option linter.unusedSimpArgs false
end Go.Proofs.Try
end
section
open Go.AM Go.Gm
namespace Go.Proofs.Try
set_option linter.unusedVariables false
set_option linter.unusedSimpArgs false
/-- Small numbers. -/
def Small (l : List Int) (c : Int) : Prop := ∀ x ∈ l, 0 ≤ x ∧ x ≤ c
/-- What is so of valid fields. -/
structure Val (l : List (List Int)) : Prop where
  len : l.length ≤ 12
  tab : ∀ f ∈ l, f.length ≤ 10
  sm : ∀ f ∈ l, Small f 1000000
  desc : ∀ f ∈ l, Tops.Desc f
theorem findSome_none {n : Nat} {f : Nat → Option Int} : (List.range n).findSome? f = none ↔ ∀ k, k < n → f k = none := by
  rw [List.findSome?_eq_none_iff]; simp
theorem Val.getD {l : List (List Int)} (h : Val l) (k : Nat) : (l.getD k []).length ≤ 10 ∧ Small (l.getD k []) 1000000 := by
  by_cases hk : k < l.length
  · exact ⟨h.tab _ (getD_mem hk), h.sm _ (getD_mem hk)⟩
  · rw [getD_out [] (by omega)]; exact ⟨by simp, fun x hx => by cases hx⟩
theorem sumN_le {l : List Int} {c : Int} (hc : 0 ≤ c) (hb : Small l c) (k : Nat) : 0 ≤ sumN l k ∧ sumN l k ≤ l.length * c := by
  by_cases h : k ≤ l.length
  · have := sumN_bound hc hb k
    have h2 : (k : Int) * c ≤ l.length * c := Int.mul_le_mul_of_nonneg_right (by omega) hc
    omega
  · have e : sumN l k = sumN l l.length := by unfold sumN; rw [List.take_of_length_le (by omega), List.take_of_length_le (Nat.le_refl _)]
    rw [e]; exact sumN_bound hc hb l.length
theorem Val.sumN {l : List (List Int)} (h : Val l) (k j : Nat) : 0 ≤ sumN (l.getD k []) j ∧ sumN (l.getD k []) j ≤ 10000000 := by
  have := sumN_le (by omega) (h.getD k).2 j
  have := (h.getD k).1
  omega
end Go.Proofs.Try
end
section
open Go.AM Go.Gm Go.Srt
namespace Go.Proofs.Try
set_option linter.unusedVariables false
set_option linter.unusedSimpArgs false
theorem F76_3 (a b c : Int) : F76 [a, b, c] = some (if a ≠ 0 then a else if b ≠ 0 then b else c, ()) := by
  unfold F76
  have key := iter_find (step := fun x => g76_0 x.1 x.2.1 x.2.2.1 x.2.2.2.1) 3 (fun k => ((0 : Int), ([a, b, c], ((3 : Int), ((k : Int), ()))))) (fun k => if [a, b, c].getD k 0 ≠ 0 then some ([a, b, c].getD k 0) else none) (fun e => .inl (e, ())) (b := .inr (0, ())) (fun k hk _ => by
    simp only [g76_0, Int.toNat_natCast]
    rw [br_d, if_pos (by omega), need_inb (by omega) (by simp; omega), br_not, br_eq]
    by_cases h : [a, b, c].getD k 0 = 0
    · rw [if_pos h, if_neg (by simpa using h), need_i64 (by omega) (by omega)]; simp
    · rw [if_neg h, if_pos h]) (fun _ => by simp only [g76_0]; rw [br_d, if_neg (by omega)])
  have q : iter (fun x => g76_0 x.1 x.2.1 x.2.2.1 x.2.2.2.1) ((0 : Int), ([a, b, c], (((([a, b, c]).length : Nat) : Int), ((0 : Int), ())))) = _ := key
  rw [bind_of q]
  have e : List.range 3 = [0, 1, 2] := by decide
  rw [e]
  by_cases ha : a = 0
  · by_cases hb : b = 0
    · by_cases hc : c = 0 <;> simp [ha, hb, hc]
    · simp [ha, hb]
  · simp [ha]
/-- Steps that are small enough. -/
def GoodS (s : Int × Int) : Prop := (0 ≤ s.1 ∧ s.1 ≤ 1000000) ∧ (0 ≤ s.2 ∧ s.2 ≤ 1000)
theorem ltF_z {fv : Int → Int} {a b : Int × Int} (f1 : -1000 ≤ fv a.2 ∧ fv a.2 ≤ 1000) (f2 : -1000 ≤ fv b.2 ∧ fv b.2 ≤ 1000) :
    ltF fv a b = decide ((if b.1 - a.1 ≠ 0 then b.1 - a.1 else if fv b.2 - fv a.2 ≠ 0 then fv b.2 - fv a.2 else a.2 - b.2) < 0) := by
  unfold ltF
  rw [Bool.eq_iff_iff]
  simp only [Bool.or_eq_true, Bool.and_eq_true, decide_eq_true_eq, beq_iff_eq]
  by_cases h1 : b.1 - a.1 = 0
  · by_cases h2 : fv b.2 - fv a.2 = 0
    · rw [if_neg (by omega), if_neg (by omega)]; omega
    · rw [if_neg (by omega), if_pos (by omega)]; omega
  · rw [if_pos (by omega)]; omega
theorem F75_ok : CmpOk F75 (ltF fun _ => 0) GoodS := ⟨ltF_ord _, fun a b ha hb => by
  obtain ⟨⟨a1, a2⟩, a3, a4⟩ := ha
  obtain ⟨⟨b1, b2⟩, b3, b4⟩ := hb
  unfold F75 F59
  by_cases h : a = b
  · subst h
    refine ⟨0, ?_, ?_⟩
    · rw [br_t (by simp)]
    · simp [ltF]
  · have hne : ((a.1 == b.1) && ((a.2 == b.2) && true)) = false := by
      cases hc : ((a.1 == b.1) && ((a.2 == b.2) && true)) with
      | false => rfl
      | true => exact absurd (Prod.ext_iff.2 (by simpa using hc)) h
    refine ⟨_, ?_, ltF_z (by omega) (by omega)⟩
    rw [br_f hne, need_i64 (by omega) (by omega), bindO_s, bindO_s, need_i64 (by omega) (by omega), need_i64 (by omega) (by omega)]
    have := F76_3 (b.1 - a.1) ((0 : Int) - 0) (a.2 - b.2)
    simp only [List.drop_zero]
    rw [show List.take 3 [b.1 - a.1, (0 : Int) - 0, a.2 - b.2] = [b.1 - a.1, (0 : Int) - 0, a.2 - b.2] by rfl, this, bindO_s]⟩
theorem FH74_eq (n : Nat) (l : List (Int × Int)) : FH74_v1 n l = S74 F75 (0, 0) n l := rfl
theorem allFrom_good {l : List (List Int)} (h : Val l) {s : Int × Int} (hs : s ∈ allFrom 0 l) : GoodS s := by
  obtain ⟨j, h1, h2, h3⟩ := allFrom_mem hs
  have hl := h.len
  have := (h.getD j).2 _ h3
  exact ⟨this, by rw [h2]; omega⟩
theorem flat_len {l : List (List Int)} (h : Val l) (k : Nat) : (l.take k).flatten.length ≤ k * 10 := by
  induction k with
  | zero => simp
  | succ k ih =>
    by_cases hk : k < l.length
    · rw [take_succ_getD [] hk, List.flatten_append, List.length_append]
      have := (h.getD k).1
      simp only [List.flatten_cons, List.flatten_nil, List.append_nil]; omega
    · rw [List.take_of_length_le (by omega)] at ih ⊢; omega
theorem Val.flat {l : List (List Int)} (h : Val l) : l.flatten.length ≤ 120 := by
  have := flat_len h l.length
  rw [List.take_length] at this
  have := h.len; omega
theorem F58_in {l : List (List Int)} {f : List Int} {base : List (Int × Int)} {i : Nat} (hi : i < 1000) (hf : f.length ≤ 10) (hb : base.length ≤ 1000) :
    iter (fun x => g58_1 x.1 x.2.1 x.2.2.1 x.2.2.2.1 x.2.2.2.2.1 x.2.2.2.2.2.1 x.2.2.2.2.2.2.1 x.2.2.2.2.2.2.2.1 x.2.2.2.2.2.2.2.2.1) (base.length, ((i : Int), (l, (((l.length : Nat) : Int), ((i : Int), (f, (((f.length : Nat) : Int), ((0 : Int), (base, ()))))))))) =
    some ((base ++ f.map (fun g => (g, (i : Int)))).length, (l, (((l.length : Nat) : Int), ((i : Int), (base ++ f.map (fun g => (g, (i : Int))), ()))))) := by
  have key := iter_count (step := fun x => g58_1 x.1 x.2.1 x.2.2.1 x.2.2.2.1 x.2.2.2.2.1 x.2.2.2.2.2.1 x.2.2.2.2.2.2.1 x.2.2.2.2.2.2.2.1 x.2.2.2.2.2.2.2.2.1) f.length
    (fun k => ((base ++ (f.take k).map (fun g => (g, (i : Int)))).length, ((i : Int), (l, (((l.length : Nat) : Int), ((i : Int), (f, (((f.length : Nat) : Int), ((k : Int), (base ++ (f.take k).map (fun g => (g, (i : Int))), ()))))))))) )
    (b := ((base ++ f.map (fun g => (g, (i : Int)))).length, (l, (((l.length : Nat) : Int), ((i : Int), (base ++ f.map (fun g => (g, (i : Int))), ())))))) (fun k hk => by
      simp only [g58_1, Int.toNat_natCast]
      rw [br_d, if_pos (by omega), need_inb (by omega) (by omega), need_big (by simp; omega), need_i64 (by omega) (by omega), take_succ_getD 0 hk]
      simp
      exact ⟨by omega, by rw [List.take_of_length_le (by simp)]; simp⟩) (by
      simp only [g58_1]; rw [br_d, if_neg (by omega), List.take_length])
  simp only [List.take_zero, List.map_nil, List.append_nil, Int.natCast_zero] at key
  exact key
theorem F58_eq {l : List (List Int)} (h : Val l) : F58 l = some (stepsF (fun _ => 0) l, ()) := by
  have hl := h.len
  have hfl := h.flat
  have key := iter_count (step := fun x => g58_0 x.1 x.2.1 x.2.2.1 x.2.2.2.1 x.2.2.2.2.1) l.length
    (fun k => ((allFrom 0 (l.take k)).length, (l, (((l.length : Nat) : Int), ((k : Int), (allFrom 0 (l.take k), ()))))))
    (b := ((allFrom 0 l).length, (allFrom 0 l, ()))) (fun k hk => by
      have e := allFrom_append 0 (l.take k) [l.getD k []]
      rw [← take_succ_getD [] hk] at e
      have hlen : (allFrom 0 (l.take k)).length ≤ 120 := by rw [allFrom_length]; have := flat_len h k; omega
      have e2 : (l.take k).length = k := by simp; omega
      rw [e2, Nat.zero_add] at e
      simp only [allFrom, List.append_nil] at e
      simp only [g58_0, Int.toNat_natCast]
      rw [br_d, if_pos (by omega), need_inb (by omega) (by omega), bind_of (F58_in (l := l) (f := l.getD k []) (by omega) (h.getD k).1 (by omega))]
      dsimp only
      rw [need_i64 (by omega) (by omega), e]
      simp) (by simp only [g58_0]; rw [br_d, if_neg (by omega), List.take_length])
  simp only [List.take_zero, allFrom, List.length_nil, Int.natCast_zero] at key
  unfold F58
  rw [bind_of key]
  dsimp only
  rw [FH74_eq, S74_ok F75_ok (fun z hz => allFrom_good h hz) rfl (by rw [allFrom_length]; omega), bindO_s]
  unfold F77
  rw [bindO_s]
  have : List.take (allFrom 0 l).length (srt (ltF fun _ => 0) (allFrom 0 l)) = srt (ltF fun _ => 0) (allFrom 0 l) := List.take_of_length_le (by rw [srt_length]; omega)
  simp only [List.drop_zero]
  rw [this]
  rfl
/-- How many of some steps each field has. -/
def planOf (n : Nat) (t : List (Int × Int)) : List Int := (List.range n).map fun j => ((cnt j t : Nat) : Int)
theorem planOf_length (n : Nat) (t : List (Int × Int)) : (planOf n t).length = n := by simp [planOf]
theorem planOf_getD {n j : Nat} (t : List (Int × Int)) (h : j < n) : (planOf n t).getD j 0 = ((cnt j t : Nat) : Int) := by
  simp [planOf, List.getD_eq_getElem?_getD, h]
theorem planOf_nil (n : Nat) : planOf n [] = List.replicate n 0 := by
  apply List.ext_getElem
  · simp [planOf]
  · intro i h1 h2; simp [planOf, cnt]
theorem planOf_snoc {n j : Nat} (t : List (Int × Int)) {s : Int × Int} (h : j < n) (e : s.2 = (j : Nat)) : planOf n (t ++ [s]) = (planOf n t).set j ((planOf n t).getD j 0 + 1) := by
  rw [planOf_getD t h]
  apply List.ext_getElem
  · simp [planOf]
  · intro i h1 h2
    rw [List.getElem_set]
    simp only [planOf, List.getElem_map, List.getElem_range, cnt_snoc, e]
    by_cases hh : j = i
    · subst hh; simp
    · rw [if_neg hh, if_neg (by omega)]; simp
theorem steps_good {l : List (List Int)} (h : Val l) (fv : Int → Int) {s : Int × Int} (hs : s ∈ stepsF fv l) : GoodS s := allFrom_good h ((stepsF_perm fv l).mem_iff.1 hs)
theorem steps_len {l : List (List Int)} (h : Val l) (fv : Int → Int) : (stepsF fv l).length ≤ 120 := by rw [stepsF_length]; exact h.flat
theorem gsum_bound {t : List (Int × Int)} (h : ∀ s ∈ t, GoodS s) : 0 ≤ gsum t ∧ gsum t ≤ t.length * 1000000 := by
  have := sumN_bound (l := t.map (·.1)) (c := 1000000) (by omega) (fun x hx => by obtain ⟨s, hs, rfl⟩ := List.mem_map.1 hx; exact (h s hs).1) t.length
  unfold sumN at this
  rwa [List.take_of_length_le (by simp)] at this
theorem cnt_le (j : Nat) (t : List (Int × Int)) : cnt j t ≤ t.length := List.length_filter_le ..
theorem F56_in {n g : Nat} {t : List (Int × Int)} (hg : ∀ s ∈ t, GoodS s) (hj : ∀ s ∈ t, ∃ j, j < n ∧ s.2 = (j : Nat)) (ht : t.length ≤ 1000) (hgg : g ≤ 1000) :
    bindO (g56_0 t (g : Int) n 0 (List.replicate n 0)) (fun z4 => match z4 with
      | .inl z5 => some ((((z5.2.2.1).drop (0 : Nat)).take z5.1), (z5.2.1, ()))
      | .inr z6 => some ((((z6.2.2.1).drop (0 : Nat)).take z6.1), (z6.2.1, ()))) = some (planOf n (t.take g), (gsum (t.take g), ())) := by
  have key := iter_count (step := fun x => g56_0i_0 x.1 x.2.1 x.2.2.1 x.2.2.2.1 x.2.2.2.2.1 x.2.2.2.2.2.1 x.2.2.2.2.2.2.1 x.2.2.2.2.2.2.2.1) (min g t.length)
    (fun k => (t, (((t.length : Nat) : Int), ((k : Int), (t, (((g : Int) - k), (n, (gsum (t.take k), (planOf n (t.take k), ())))))))))
    (b := if g < t.length then .inl (0, (n, (gsum (t.take g), (t, (planOf n (t.take g), ()))))) else .inr ((g : Int) - t.length, (n, (gsum (t.take g), (t, (planOf n (t.take g), ())))))) (fun k hk => by
      have hkt : k < t.length := by omega
      have hm := getD_mem (d := ((0 : Int), (0 : Int))) hkt
      obtain ⟨j, hj1, hj2⟩ := hj _ hm
      have hgs := hg _ hm
      have hb := gsum_bound (t := t.take k) (fun s hs => hg s (List.mem_of_mem_take hs))
      have hc := cnt_le j (t.take k)
      simp only [List.length_take] at hb hc
      simp only [g56_0i_0, Int.toNat_natCast]
      rw [br_d, if_pos (by omega), need_inb (by omega) (by omega), br_eq, if_neg (by omega), need_i64 (by omega) (by omega)]
      simp only [hj2, Int.toNat_natCast, Nat.zero_add]
      rw [need_inb (by omega) (by omega), need_d (by rw [planOf_length]; omega), need_i64 (by rw [planOf_getD _ hj1]; omega) (by rw [planOf_getD _ hj1]; omega), need_inb (by omega) (by omega), need_d (by rw [planOf_length]; omega), need_i64 (by have := hgs.1; omega) (by have := hgs.1; omega), need_i64 (by omega) (by omega)]
      rw [take_succ_getD (0, 0) hkt, gsum_snoc, planOf_snoc _ hj1 hj2]
      rw [show (g : Int) - ((k + 1 : Nat) : Int) = (g : Int) - k - 1 by omega, show ((k + 1 : Nat) : Int) = (k : Int) + 1 by omega]) (by
      simp only [g56_0i_0, Int.toNat_natCast]
      by_cases c : g < t.length
      · rw [show min g t.length = g by omega, br_d, if_pos (by omega), need_inb (by omega) (by omega), br_eq, if_pos (by omega), if_pos c]
        simp
      · rw [show min g t.length = t.length by omega, br_d, if_neg (by omega), if_neg c, List.take_length, List.take_of_length_le (by omega)])
  simp only [List.take_zero, Int.natCast_zero, Int.sub_zero, planOf_nil] at key
  have e0 : gsum [] = 0 := rfl
  rw [e0] at key
  unfold g56_0
  rw [bind_of key]
  have hp : List.take n (planOf n (t.take g)) = planOf n (t.take g) := List.take_of_length_le (by rw [planOf_length]; omega)
  by_cases c : g < t.length
  · rw [if_pos c]; simp only [bindO_s, List.drop_zero, hp]
  · rw [if_neg c]; simp only [bindO_s, List.drop_zero, hp]
theorem F56_eq {l : List (List Int)} (h : Val l) {g : Nat} (hg : g ≤ 1000) : F56 l g = some (planOf l.length ((stepsF (fun _ => 0) l).take g), (gsum ((stepsF (fun _ => 0) l).take g), ())) := by
  have hl := h.len
  have := steps_len h (fun _ => 0)
  unfold F56
  rw [need_inbL (by omega) (by omega), F58_eq h, bindO_s]
  simp only [Int.toNat_natCast]
  exact F56_in (fun s hs => steps_good h _ hs) (fun s hs => steps_fields _ hs) (by omega) hg
end Go.Proofs.Try
end
section
open Go.AM Go.Gm Go.Srt
namespace Go.Proofs.Try
set_option linter.unusedVariables false
set_option linter.unusedSimpArgs false
theorem dp_step {F f : List Int} (dF : Tops.Desc F) (df : Tops.Desc f) (nF : ∀ x ∈ F, 0 ≤ x) (nf : ∀ x ∈ f, 0 ≤ x) {j : Nat} {m : Int}
    (h1 : ∀ k, k ≤ f.length → k ≤ j → Tops.tops F (j - k) + sumN f k ≤ m) (h2 : ∃ k, k ≤ j ∧ m = Tops.tops F (j - k) + sumN f k) : m = Tops.tops (Tops.mrg F f) j := by
  apply Int.le_antisymm
  · obtain ⟨k, hk, rfl⟩ := h2
    exact Tops.mrg_best dF df nF nf (by omega)
  · obtain ⟨k, hk, e⟩ := Tops.mrg_split F f j
    rw [e]
    by_cases c : j - k ≤ f.length
    · have := h1 (j - k) c (by omega)
      rw [show j - (j - k) = k by omega] at this
      exact this
    · have h := h1 f.length (Nat.le_refl _) (by omega)
      have m1 := Tops.tops_mono nF (show k ≤ j - f.length by omega)
      have : Tops.tops f (j - k) = sumN f f.length := by unfold Tops.tops sumN; rw [List.take_of_length_le (by omega), List.take_of_length_le (Nat.le_refl _)]
      omega
/-- The most sugar of the first fields. -/
def dpv (l : List (List Int)) (i j : Nat) : Int := Tops.tops (mrgAll (l.take i)) j
theorem Val.take {l : List (List Int)} (h : Val l) (i : Nat) : Val (l.take i) :=
  ⟨by have := h.len; simp; omega, fun f hf => h.tab f (List.mem_of_mem_take hf), fun f hf => h.sm f (List.mem_of_mem_take hf), fun f hf => h.desc f (List.mem_of_mem_take hf)⟩
theorem Val.mrgAll_small {l : List (List Int)} (h : Val l) : Small (mrgAll l) 1000000 := fun x hx => by
  obtain ⟨f, hf, hx⟩ := List.mem_flatten.1 ((mrgAll_perm _).mem_iff.1 hx)
  exact h.sm f hf x hx
theorem tops_bound {l : List (List Int)} (h : Val l) (j : Nat) : 0 ≤ Tops.tops (mrgAll l) j ∧ Tops.tops (mrgAll l) j ≤ 120000000 := by
  have := sumN_le (by omega) h.mrgAll_small j
  rw [mrgAll_length] at this
  have := h.flat
  unfold sumN at *
  unfold Tops.tops
  omega
theorem dpv_bound {l : List (List Int)} (h : Val l) (i j : Nat) : 0 ≤ dpv l i j ∧ dpv l i j ≤ 120000000 := tops_bound (h.take i) j
theorem dpv_step {l : List (List Int)} (h : Val l) {i j : Nat} (hi : i < l.length) {m : Int} (h1 : ∀ k, k ≤ (l.getD i []).length → k ≤ j → dpv l i (j - k) + sumN (l.getD i []) k ≤ m) (h2 : ∃ k, k ≤ j ∧ m = dpv l i (j - k) + sumN (l.getD i []) k) : m = dpv l (i + 1) j := by
  unfold dpv at *
  rw [take_succ_getD [] hi, mrgAll_snoc]
  have hm := getD_mem (d := []) hi
  exact dp_step (mrgAll_desc (h.take i).desc) (h.desc _ hm) (fun x hx => ((h.take i).mrgAll_small x hx).1) (fun x hx => (h.sm _ hm x hx).1) h1 h2
theorem set_getD {α : Type} {l : List α} {j : Nat} {x d : α} (h : j < l.length) : (l.set j x).getD j d = x := by
  simp [List.getD_eq_getElem?_getD, h]
def row (l : List (List Int)) (i n : Nat) : List Int := (List.range n).map fun j => dpv l i j
theorem row_length (l : List (List Int)) (i n : Nat) : (row l i n).length = n := by simp [row]
theorem row_getD {l : List (List Int)} {i n j : Nat} (h : j < n) : (row l i n).getD j 0 = dpv l i j := by simp [row, List.getD_eq_getElem?_getD, h]
theorem F57_2 {l : List (List Int)} (h : Val l) {g i j : Nat} (hg : g ≤ 1000) (hi : i < l.length) (hj : j ≤ g) {b0 b2 : List (List Int)} {b3 : List Int} (h0 : b0.length = g + 1) (h2 : b2.length = g + 1) (h3 : b3.length = g + 1)
    (l0 : ∀ p ∈ b0, p.length ≤ i) (l2 : ∀ p ∈ b2, p.length ≤ i + 1) :
    ∃ b, iter (fun x => g57_2 x.1 x.2.1 x.2.2.1 x.2.2.2.1 x.2.2.2.2.1 x.2.2.2.2.2.1 x.2.2.2.2.2.2.1 x.2.2.2.2.2.2.2.1 x.2.2.2.2.2.2.2.2.1 x.2.2.2.2.2.2.2.2.2.1 x.2.2.2.2.2.2.2.2.2.2.1 x.2.2.2.2.2.2.2.2.2.2.2.1 x.2.2.2.2.2.2.2.2.2.2.2.2.1)
      (l, ((g : Int), (g + 1, (g + 1, ((i : Int), (g + 1, (g + 1, ((j : Int), ((0 : Int), (b0, (row l i (g + 1), (b2, (b3.set j (-1), ()))))))))))))) = some b ∧
      ∃ b2', b2'.length = g + 1 ∧ (∀ p ∈ b2', p.length ≤ i + 1) ∧ b = (l, ((g : Int), (g + 1, (g + 1, ((i : Int), (g + 1, (g + 1, ((j : Int), (b0, (row l i (g + 1), (b2', (b3.set j (dpv l (i + 1) j), ())))))))))))) := by
  have hl := h.len
  have hf := h.getD i
  refine iter_ex (min (l.getD i []).length j + 1) (fun k x => ∃ b2' m, b2'.length = g + 1 ∧ (∀ p ∈ b2', p.length ≤ i + 1) ∧ x = (l, ((g : Int), (g + 1, (g + 1, ((i : Int), (g + 1, (g + 1, ((j : Int), ((k : Int), (b0, (row l i (g + 1), (b2', (b3.set j m, ()))))))))))))) ∧
      -1 ≤ m ∧ (∀ k', k' < k → dpv l i (j - k') + sumN (l.getD i []) k' ≤ m) ∧ ((m = -1 ∧ k = 0) ∨ ∃ k', k' < k ∧ m = dpv l i (j - k') + sumN (l.getD i []) k'))
    _ (fun k x hk hx => ?_) (fun x hx => ?_) ⟨b2, -1, h2, l2, rfl, by omega, fun k' hk' => by omega, .inl ⟨rfl, rfl⟩⟩
  · obtain ⟨b2', m, q1, q2, rfl, q3, q4, q5⟩ := hx
    have d1 := dpv_bound h i (j - k)
    have d2 := sumN_bound (by omega) hf.2 k
    have hm1 : m ≤ 1000000000 := by
      rcases q5 with ⟨e, _⟩ | ⟨k', hk', e⟩
      · omega
      · have := dpv_bound h i (j - k'); have := sumN_bound (by omega) hf.2 k'; omega
    have hpl : (b0.getD (j - k) []).length ≤ i := l0 _ (getD_mem (by omega))
    have er : (row l i (g + 1)).getD (j - k) 0 = dpv l i (j - k) := row_getD (by omega)
    have es : (b3.set j m).getD j 0 = m := set_getD (by omega)
    have ej : ((j : Int) - (k : Int)).toNat = j - k := by omega
    by_cases c : m < dpv l i (j - k) + sumN (l.getD i []) k
    · refine ⟨(l, ((g : Int), (g + 1, (g + 1, ((i : Int), (g + 1, (g + 1, ((j : Int), (((k + 1 : Nat) : Int), (b0, (row l i (g + 1), (b2'.set j (b0.getD (j - k) [] ++ [(k : Int)]), (b3.set j (dpv l i (j - k) + sumN (l.getD i []) k), ()))))))))))))), ?_, ?_⟩
      · clear q5
        simp only [g57_2, Int.toNat_natCast, Nat.zero_add]
        rw [need_inb (by omega) (by omega), br_d, if_pos (by omega), br_d, if_pos (by omega), need_i64 (by omega) (by omega), need_inb (by omega) (by omega)]
        simp only [ej, er, es]
        rw [need_d (by rw [row_length]; omega), need_inb (by omega) (by omega), F51_eq (by omega) (by omega) hf.2, bindO_s]
        dsimp only
        rw [need_i64 (by omega) (by omega), need_inb (by omega) (by omega), need_d (by rw [List.length_set]; omega), br_d, if_pos c, need_i64 (by omega) (by omega), need_inb (by omega) (by omega), need_d (by omega), need_big (by omega), need_big (by simp only [List.drop_zero, List.length_take, List.length_cons, List.length_nil]; omega)]
        rw [need_inb (by omega) (by omega), need_d (by omega), need_inb (by omega) (by omega), need_d (by rw [List.length_set]; omega), need_i64 (by omega) (by omega), List.set_set]
        have e1 : List.take (b0.getD (j - k) []).length (b0.getD (j - k) []) = b0.getD (j - k) [] := List.take_of_length_le (by omega)
        simp only [List.drop_zero, List.take_zero, List.nil_append, e1]
        rw [List.take_of_length_le (l := b0.getD (j - k) [] ++ List.take 1 [(k : Int)]) (by simp)]
        simp
      · refine ⟨_, _, by simp [q1], fun p hp => ?_, rfl, by omega, fun k' hk' => ?_, .inr ⟨k, by omega, rfl⟩⟩
        · rcases List.mem_or_eq_of_mem_set hp with hp | rfl
          · exact q2 p hp
          · simp only [List.length_append, List.length_cons, List.length_nil]; omega
        · by_cases e : k' = k
          · subst e; omega
          · have := q4 k' (by omega); omega
    · refine ⟨(l, ((g : Int), (g + 1, (g + 1, ((i : Int), (g + 1, (g + 1, ((j : Int), (((k + 1 : Nat) : Int), (b0, (row l i (g + 1), (b2', (b3.set j m, ()))))))))))))), ?_, ?_⟩
      · clear q5
        simp only [g57_2, Int.toNat_natCast, Nat.zero_add]
        rw [need_inb (by omega) (by omega), br_d, if_pos (by omega), br_d, if_pos (by omega), need_i64 (by omega) (by omega), need_inb (by omega) (by omega)]
        simp only [ej, er, es]
        rw [need_d (by rw [row_length]; omega), need_inb (by omega) (by omega), F51_eq (by omega) (by omega) hf.2, bindO_s]
        dsimp only
        rw [need_i64 (by omega) (by omega), need_inb (by omega) (by omega), need_d (by rw [List.length_set]; omega), br_d, if_neg c, need_i64 (by omega) (by omega)]
        simp
      · refine ⟨_, _, q1, q2, rfl, q3, fun k' hk' => ?_, ?_⟩
        · by_cases e : k' = k
          · subst e; omega
          · exact q4 k' (by omega)
        · rcases q5 with ⟨e, _⟩ | ⟨k', hk', e⟩
          · omega
          · exact .inr ⟨k', by omega, e⟩
  · obtain ⟨b2', m, q1, q2, rfl, q3, q4, q5⟩ := hx
    have em : m = dpv l (i + 1) j := dpv_step h hi (fun k h1 h2 => q4 k (by omega)) (by
      rcases q5 with ⟨_, e⟩ | ⟨k', hk', e⟩
      · omega
      · exact ⟨k', by omega, e⟩)
    refine ⟨_, ?_, b2', q1, q2, rfl⟩
    simp only [g57_2, Int.toNat_natCast]
    rw [need_inb (by omega) (by omega), br_d, ← em]
    by_cases c : ((min (l.getD i []).length j + 1 : Nat) : Int) ≤ ((l.getD i []).length : Nat)
    · rw [if_pos c, br_d, if_neg (by omega)]
    · rw [if_neg c]
theorem F57_1 {l : List (List Int)} (h : Val l) {g i : Nat} (hg : g ≤ 1000) (hi : i < l.length) {b0 : List (List Int)} (h0 : b0.length = g + 1) (l0 : ∀ p ∈ b0, p.length ≤ i) :
    ∃ b, iter (fun x => g57_1 x.1 x.2.1 x.2.2.1 x.2.2.2.1 x.2.2.2.2.1 x.2.2.2.2.2.1 x.2.2.2.2.2.2.1 x.2.2.2.2.2.2.2.1 x.2.2.2.2.2.2.2.2.1 x.2.2.2.2.2.2.2.2.2.1 x.2.2.2.2.2.2.2.2.2.2.1 x.2.2.2.2.2.2.2.2.2.2.2.1)
      (l, ((g : Int), (g + 1, (g + 1, ((i : Int), (g + 1, (g + 1, ((0 : Int), (b0, (row l i (g + 1), (List.replicate (g + 1) [], (List.replicate (g + 1) 0, ())))))))))))) = some b ∧
      ∃ b2', b2'.length = g + 1 ∧ (∀ p ∈ b2', p.length ≤ i + 1) ∧ b = (l, ((g : Int), ((i : Int), (g + 1, (g + 1, (b2', (row l (i + 1) (g + 1), ()))))))) := by
  have hl := h.len
  refine iter_ex (g + 1) (fun j x => ∃ b2', b2'.length = g + 1 ∧ (∀ p ∈ b2', p.length ≤ i + 1) ∧ x = (l, ((g : Int), (g + 1, (g + 1, ((i : Int), (g + 1, (g + 1, ((j : Int), (b0, (row l i (g + 1), (b2', (row l (i + 1) j ++ List.replicate (g + 1 - j) 0, ())))))))))))))
    _ (fun j x hj hx => ?_) (fun x hx => ?_) ⟨List.replicate (g + 1) [], by simp, fun p hp => by rw [List.eq_of_mem_replicate hp]; simp, by simp [row]⟩
  · obtain ⟨b2', q1, q2, rfl⟩ := hx
    obtain ⟨b, hb, b2'', r1, r2, rfl⟩ := F57_2 h hg hi (j := j) (by omega) h0 q1 (b3 := row l (i + 1) j ++ List.replicate (g + 1 - j) 0) (by simp [row_length]; omega) l0 q2
    refine ⟨_, ?_, b2'', r1, r2, rfl⟩
    simp only [g57_1, Int.toNat_natCast, Nat.zero_add]
    rw [br_d, if_pos (by omega), need_inb (by omega) (by omega), need_d (by simp [row_length]; omega), bind_of hb]
    dsimp only
    rw [need_i64 (by omega) (by omega)]
    have e : (row l (i + 1) j ++ List.replicate (g + 1 - j) 0).set j (dpv l (i + 1) j) = row l (i + 1) (j + 1) ++ List.replicate (g + 1 - (j + 1)) 0 := by
      rw [show g + 1 - j = (g + 1 - (j + 1)) + 1 by omega, List.replicate_succ, set_at (by rw [row_length])]
      simp [row, List.range_succ]
    rw [e]
    simp
  · obtain ⟨b2', q1, q2, rfl⟩ := hx
    refine ⟨_, ?_, b2', q1, q2, rfl⟩
    simp only [g57_1, Int.toNat_natCast]
    rw [br_d, if_neg (by omega)]
    simp
theorem F57_eq {l : List (List Int)} (h : Val l) {g : Nat} (hg : g ≤ 1000) : ∃ p, F57 l g = some (p, Tops.tops (mrgAll l) g, ()) := by
  have hl := h.len
  obtain ⟨b, hb, b0', q1, rfl⟩ : ∃ b, iter (fun x => g57_0 x.1 x.2.1 x.2.2.1 x.2.2.2.1 x.2.2.2.2.1 x.2.2.2.2.2.1 x.2.2.2.2.2.2.1) (l, ((g : Int), (g + 1, (g + 1, ((0 : Int), ((List.replicate (g + 1) []), ((List.replicate (g + 1) 0), ()))))))) = some b ∧
      ∃ b0', b0'.length = g + 1 ∧ b = ((g : Int), (g + 1, (g + 1, (b0', (row l l.length (g + 1), ()))))) := by
    refine iter_ex l.length (fun i x => ∃ b0', b0'.length = g + 1 ∧ (∀ p ∈ b0', p.length ≤ i) ∧ x = (l, ((g : Int), (g + 1, (g + 1, ((i : Int), (b0', (row l i (g + 1), ()))))))))
      _ (fun i x hi hx => ?_) (fun x hx => ?_) ⟨List.replicate (g + 1) [], by simp, fun p hp => by rw [List.eq_of_mem_replicate hp]; simp, ?_⟩
    · obtain ⟨b0', q1, q2, rfl⟩ := hx
      obtain ⟨b, hb, b2', r1, r2, rfl⟩ := F57_1 h hg hi q1 q2
      refine ⟨_, ?_, b2', r1, r2, rfl⟩
      simp only [g57_0]
      rw [br_d, if_pos (by omega), need_i64 (by omega) (by omega), need_inbL (by omega) (by omega), need_i64 (by omega) (by omega), need_inbL (by omega) (by omega)]
      rw [show ((g : Int) + 1).toNat = g + 1 by omega, bind_of hb]
      dsimp only
      rw [need_i64 (by omega) (by omega)]
      simp
    · obtain ⟨b0', q1, q2, rfl⟩ := hx
      refine ⟨_, ?_, b0', q1, rfl⟩
      simp only [g57_0]
      rw [br_d, if_neg (by omega)]
    · have : row l 0 (g + 1) = List.replicate (g + 1) 0 := by
        apply List.ext_getElem
        · simp [row]
        · intro i h1 h2; simp [row, dpv, mrgAll, Tops.tops]
      rw [this]; simp
  unfold F57
  rw [need_i64 (by omega) (by omega), need_inbL (by omega) (by omega), need_i64 (by omega) (by omega), need_inbL (by omega) (by omega), show ((g : Int) + 1).toNat = g + 1 by omega, bind_of hb]
  dsimp only
  rw [need_inb (by omega) (by omega), need_d (by omega), need_inb (by omega) (by omega), need_d (by rw [row_length]; omega)]
  refine ⟨b0'.getD (0 + (g : Int).toNat) [], ?_⟩
  rw [show (0 : Nat) + (g : Int).toNat = g by omega, row_getD (by omega)]
  simp [dpv]
end Go.Proofs.Try
end
section
open Go.AM Go.Gm Go.Srt
namespace Go.Proofs.Try
set_option linter.unusedVariables false
set_option linter.unusedSimpArgs false
theorem F16_eq : F16 = some (true, ()) := Go.AM.Le.done CF16_le (by kernel_rfl)
end Go.Proofs.Try
end
section
open Go.AM Go.Gm Go.Srt
namespace Go.Proofs.Try
set_option linter.unusedVariables false
set_option linter.unusedSimpArgs false
abbrev Gs := List (List (Int × Int))
/-- The error of the k-th span of a guess. -/
def stopTg (t : List (Int × Int)) (k : Nat) : Option Int :=
  if ¬(0 ≤ (t.getD k (0, 0)).1 ∧ (t.getD k (0, 0)).1 ≤ (t.getD k (0, 0)).2 ∧ (t.getD k (0, 0)).2 ≤ 1000000) then some 2 else
  if 0 < k ∧ ¬((t.getD k (0, 0)).1 ≤ (t.getD (k - 1) (0, 0)).1 ∧ (t.getD k (0, 0)).2 ≤ (t.getD (k - 1) (0, 0)).2) then some 7 else none
def errTg (t : List (Int × Int)) : Option Int := (List.range t.length).findSome? (stopTg t)
def stopLg (l : Gs) (i : Nat) : Option Int := if 10 < (l.getD i []).length then some 1 else errTg (l.getD i [])
def errLg (l : Gs) : Option Int := (List.range l.length).findSome? (stopLg l)
def chkGs (l : Gs) : Int := if 12 < l.length then 1 else (errLg l).getD 0
theorem F61_eq (s : Int × Int) : F61 s = some (decide (0 ≤ s.1 ∧ s.1 ≤ s.2 ∧ s.2 ≤ 1000000), ()) := by
  unfold F61
  rw [br_d, br_d]
  by_cases h1 : 0 ≤ s.1
  · by_cases h2 : s.1 ≤ s.2
    · rw [if_pos h1, if_pos h2]; simp [h1, h2]
    · rw [if_pos h1, if_neg h2]; simp [h2]
  · rw [if_neg h1]; simp [h1]
theorem F63_eq (s t : Int × Int) : F63 s t = some (decide (s.1 ≤ t.1 ∧ s.2 ≤ t.2), ()) := by
  unfold F63
  rw [br_d]
  by_cases h1 : s.1 ≤ t.1
  · rw [if_pos h1]; simp [h1]
  · rw [if_neg h1]; simp [h1]
theorem F62_in {l : Gs} {t : List (Int × Int)} {i : Nat} (ht : t.length ≤ 10) : iter (fun x => g62_1 x.1 x.2.1 x.2.2.1 x.2.2.2.1 x.2.2.2.2.1 x.2.2.2.2.2.1 x.2.2.2.2.2.2.1) (t, l, ((l.length : Nat) : Int), (i : Int), t, ((t.length : Nat) : Int), (0 : Int), ()) =
    some ((errTg t).elim (.inr (l, ((l.length : Nat) : Int), (i : Int), ())) (fun e => .inl (e, ()))) := by
  have key := iter_find (step := fun x => g62_1 x.1 x.2.1 x.2.2.1 x.2.2.2.1 x.2.2.2.2.1 x.2.2.2.2.2.1 x.2.2.2.2.2.2.1) t.length (fun k => (t, l, ((l.length : Nat) : Int), (i : Int), t, ((t.length : Nat) : Int), (k : Int), ())) (stopTg t) (fun e => .inl (e, ())) (b := .inr (l, ((l.length : Nat) : Int), (i : Int), ())) (fun k hk _ => by
    simp only [g62_1, Int.toNat_natCast]
    rw [br_d, if_pos (by omega), need_inb (by omega) (by omega), F61_eq, bindO_s, br_not, br_d]
    unfold stopTg
    by_cases h1 : 0 ≤ (t.getD k (0, 0)).1 ∧ (t.getD k (0, 0)).1 ≤ (t.getD k (0, 0)).2 ∧ (t.getD k (0, 0)).2 ≤ 1000000
    · rw [if_pos h1, if_neg (by simpa using h1), br_d]
      by_cases h2 : 0 < k
      · have e : ((k : Int) - 1).toNat = k - 1 := by omega
        rw [if_pos (by omega), need_i64 (by omega) (by omega), need_inb (by omega) (by omega), F63_eq, bindO_s, br_not, br_d, e]
        by_cases h3 : (t.getD k (0, 0)).1 ≤ (t.getD (k - 1) (0, 0)).1 ∧ (t.getD k (0, 0)).2 ≤ (t.getD (k - 1) (0, 0)).2
        · rw [if_pos h3, if_neg (fun h => h.2 h3), need_i64 (by omega) (by omega)]; simp
        · rw [if_neg h3, if_pos ⟨h2, h3⟩]
      · rw [if_neg (by omega), if_neg (fun h => h2 h.1), need_i64 (by omega) (by omega)]
        simp
    · rw [if_pos h1, if_neg (by simpa using h1)]) (fun _ => by simp only [g62_1]; rw [br_d, if_neg (by omega)])
  simpa only [Int.natCast_zero, errTg] using key
theorem F62_eq {l : Gs} : F62 l = some (chkGs l, ()) := by
  unfold F62 chkGs
  rw [br_d]
  by_cases h0 : 12 < l.length
  · rw [if_pos (by omega), if_pos h0]
  · rw [if_neg (by omega), if_neg h0]
    have key := iter_find (step := fun x => g62_0 x.1 x.2.1 x.2.2.1) l.length (fun k => (l, ((l.length : Nat) : Int), (k : Int), ())) (stopLg l) (fun e => .inl (e, ())) (b := .inr ()) (fun k hk _ => by
      simp only [g62_0, Int.toNat_natCast]
      rw [br_d, if_pos (by omega), need_inb (by omega) (by omega), br_d]
      unfold stopLg
      by_cases h1 : 10 < (l.getD k []).length
      · rw [if_pos (by omega), if_pos h1]
      · rw [if_neg (by omega), if_neg h1, F62_in (by omega), bindO_s]
        cases errTg (l.getD k []) with
        | some e => rfl
        | none =>
          simp only [Option.elim]
          rw [need_i64 (by omega) (by omega)]
          simp) (fun _ => by simp only [g62_0]; rw [br_d, if_neg (by omega)])
    simp only [Int.natCast_zero] at key
    rw [bind_of key]
    unfold errLg
    cases (List.range l.length).findSome? (stopLg l) <;> rfl
theorem F70_in {l : Gs} {i : Nat} (hi : i < l.length) (hl : l.length ≤ 12) (ht : (l.getD i []).length ≤ 10) : iter (fun x => g70_1 x.1 x.2.1 x.2.2.1) (l, (i : Int), (0 : Int), ()) =
    some ((errTg (l.getD i [])).elim (.inr (l, (i : Int), ())) (fun e => .inl (e, ()))) := by
  have key := iter_find (step := fun x => g70_1 x.1 x.2.1 x.2.2.1) (l.getD i []).length (fun k => (l, (i : Int), (k : Int), ())) (stopTg (l.getD i [])) (fun e => .inl (e, ())) (b := .inr (l, (i : Int), ())) (fun k hk _ => by
    simp only [g70_1, Int.toNat_natCast]
    rw [need_inb (by omega) (by omega), br_d, if_pos (by omega), need_inb (by omega) (by omega), need_inb (by omega) (by omega), F50_eq, bindO_s, br_not]
    unfold stopTg
    by_cases h1 : 0 ≤ ((l.getD i []).getD k (0, 0)).1 ∧ ((l.getD i []).getD k (0, 0)).1 ≤ ((l.getD i []).getD k (0, 0)).2
    · rw [br_t (by simpa using h1), br_d]
      by_cases h1' : ((l.getD i []).getD k (0, 0)).2 ≤ 1000000
      · rw [if_neg (by omega), if_neg (by simpa using ⟨h1.1, h1.2, h1'⟩), br_d]
        by_cases h2 : 0 < k
        · have e : ((k : Int) - 1).toNat = k - 1 := by omega
          rw [if_pos (by omega), need_inb (by omega) (by omega), need_i64 (by omega) (by omega), need_inb (by omega) (by omega), br_d, e]
          by_cases h3 : ((l.getD i []).getD (k - 1) (0, 0)).1 < ((l.getD i []).getD k (0, 0)).1
          · rw [if_pos h3, if_pos ⟨h2, by omega⟩]
          · rw [if_neg h3, need_inb (by omega) (by omega), need_i64 (by omega) (by omega), need_inb (by omega) (by omega), br_d]
            by_cases h4 : ((l.getD i []).getD (k - 1) (0, 0)).2 < ((l.getD i []).getD k (0, 0)).2
            · rw [if_pos h4, if_pos ⟨h2, by omega⟩]
            · rw [if_neg h4, if_neg (fun h => h.2 ⟨by omega, by omega⟩), need_i64 (by omega) (by omega)]
              simp
        · rw [if_neg (by omega), if_neg (fun h => h2 h.1), need_i64 (by omega) (by omega)]
          simp
      · rw [if_pos (by omega), if_pos (fun h => h1' h.2.2)]
    · rw [br_f (by simpa using h1), if_pos (fun h => h1 ⟨h.1, h.2.1⟩)]) (fun _ => by simp only [g70_1, Int.toNat_natCast]; rw [need_inb (by omega) (by omega), br_d, if_neg (by omega)])
  simpa only [Int.natCast_zero, errTg] using key
theorem F70_eq {l : Gs} : F70 l = some (chkGs l, ()) := by
  unfold F70 chkGs
  rw [br_d]
  by_cases h0 : 12 < l.length
  · rw [if_pos (by omega), if_pos h0]
  · rw [if_neg (by omega), if_neg h0]
    have key := iter_find (step := fun x => g70_0 x.1 x.2.1) l.length (fun k => (l, (k : Int), ())) (stopLg l) (fun e => .inl (e, ())) (b := .inr ()) (fun k hk _ => by
      simp only [g70_0, Int.toNat_natCast]
      rw [br_d, if_pos (by omega), need_inb (by omega) (by omega), br_d]
      unfold stopLg
      by_cases h1 : 10 < (l.getD k []).length
      · rw [if_pos (by omega), if_pos h1]
      · rw [if_neg (by omega), if_neg h1, F70_in hk (by omega) (by omega), bindO_s]
        cases errTg (l.getD k []) with
        | some e => rfl
        | none =>
          simp only [Option.elim]
          rw [need_i64 (by omega) (by omega)]
          simp) (fun _ => by simp only [g70_0]; rw [br_d, if_neg (by omega)])
    simp only [Int.natCast_zero] at key
    rw [bind_of key]
    unfold errLg
    cases (List.range l.length).findSome? (stopLg l) <;> rfl
/-- Fields of guesses. -/
def turn (f : Nat → Int × Int → Int) (l : Gs) : List (List Int) := l.mapIdx fun i t => t.map (f i)
def lows (l : Gs) : List (List Int) := l.map fun t => t.map (·.1)
def highs (l : Gs) : List (List Int) := l.map fun t => t.map (·.2)
/-- What is so of valid guesses. -/
structure VG (l : Gs) : Prop where
  len : l.length ≤ 12
  tab : ∀ t ∈ l, t.length ≤ 10
  lo : Val (lows l)
  hi : Val (highs l)
  le : ∀ t ∈ l, ∀ s ∈ t, s.1 ≤ s.2
theorem turn_take (f : Nat → Int × Int → Int) (l : Gs) {k : Nat} (h : k < l.length) : turn f (l.take (k + 1)) = turn f (l.take k) ++ [(l.getD k []).map (f k)] := by
  unfold turn
  rw [take_succ_getD [] h, List.mapIdx_append]
  have e : min k l.length = k := by omega
  simp [e]
theorem turn_length (f : Nat → Int × Int → Int) (l : Gs) : (turn f l).length = l.length := by simp [turn]
end Go.Proofs.Try
end
section
open Go.AM Go.Gm Go.Srt
namespace Go.Proofs.Try
set_option linter.unusedVariables false
set_option linter.unusedSimpArgs false
theorem F64_in {l : Gs} {t : List (Int × Int)} {a i : Nat} {b0 : List (List Int)} (f : Nat → Int × Int → Int) (hf : ∀ (i : Nat) s, i < 12 → F65 (i : Int) s (a : Int) = some (f i s, ())) (hi : i < 12) (ht : t.length ≤ 10) {n : Nat} :
    iter (fun x => g64_1 x.1 x.2.1 x.2.2.1 x.2.2.2.1 x.2.2.2.2.1 x.2.2.2.2.2.1 x.2.2.2.2.2.2.1 x.2.2.2.2.2.2.2.1 x.2.2.2.2.2.2.2.2.1 x.2.2.2.2.2.2.2.2.2.1 x.2.2.2.2.2.2.2.2.2.2.1 x.2.2.2.2.2.2.2.2.2.2.2.1) ((a : Int), n, (i : Int), 0, l, ((l.length : Nat) : Int), (i : Int), t, ((t.length : Nat) : Int), (0 : Int), b0, [], ()) = some ((a : Int), n, t.length, l, ((l.length : Nat) : Int), (i : Int), b0, t.map (f i), ()) := by
  have key := iter_count (step := fun x => g64_1 x.1 x.2.1 x.2.2.1 x.2.2.2.1 x.2.2.2.2.1 x.2.2.2.2.2.1 x.2.2.2.2.2.2.1 x.2.2.2.2.2.2.2.1 x.2.2.2.2.2.2.2.2.1 x.2.2.2.2.2.2.2.2.2.1 x.2.2.2.2.2.2.2.2.2.2.1 x.2.2.2.2.2.2.2.2.2.2.2.1) t.length
    (fun k => ((a : Int), n, (i : Int), k, l, ((l.length : Nat) : Int), (i : Int), t, ((t.length : Nat) : Int), (k : Int), b0, (t.take k).map (f i), ()))
    (b := ((a : Int), n, t.length, l, ((l.length : Nat) : Int), (i : Int), b0, t.map (f i), ())) (fun k hk => by
      simp only [g64_1, Int.toNat_natCast]
      rw [br_d, if_pos (by omega), need_inb (by omega) (by omega), hf i _ hi, bindO_s, need_big (by simp; omega), need_i64 (by omega) (by omega), take_succ_getD (0, 0) hk]
      simp
      rw [List.take_of_length_le (by simp; omega)]) (by
      simp only [g64_1]; rw [br_d, if_neg (by omega), List.take_length])
  simp only [List.take_zero, List.map_nil, Int.natCast_zero] at key
  exact key
theorem F64_turn {l : Gs} {a : Nat} (f : Nat → Int × Int → Int) (hf : ∀ (i : Nat) s, i < 12 → F65 (i : Int) s (a : Int) = some (f i s, ())) (hl : l.length ≤ 12) (ht : ∀ t ∈ l, t.length ≤ 10) : F64 l (a : Int) = some (turn f l, ()) := by
  unfold F64
  have key := iter_count (step := fun x => g64_0 x.1 x.2.1 x.2.2.1 x.2.2.2.1 x.2.2.2.2.1 x.2.2.2.2.2.1) l.length (fun k => ((a : Int), k, l, ((l.length : Nat) : Int), (k : Int), turn f (l.take k), ())) (b := (l.length, turn f l, ())) (fun k hk => by
    simp only [g64_0, Int.toNat_natCast]
    have i := F64_in (l := l) (t := l.getD k []) (b0 := turn f (l.take k)) (i := k) f hf (by omega) (ht _ (getD_mem hk)) (n := k)
    rw [br_d, if_pos (by omega), need_inb (by omega) (by omega), bind_of i]
    dsimp only
    rw [need_big (by simp; omega), need_i64 (by omega) (by omega), turn_take f l hk]
    have e1 : ∀ x : List Int, List.take (l.getD k []).length ((l.getD k []).map (f k)) = (l.getD k []).map (f k) := fun _ => List.take_of_length_le (by rw [List.length_map]; omega)
    have e2 : List.take k (turn f (l.take k)) = turn f (l.take k) := List.take_of_length_le (by rw [turn_length, List.length_take]; omega)
    rw [List.drop_zero, List.drop_zero, List.drop_zero, e1 [], e2]
    simp) (by simp only [g64_0]; rw [br_d, if_neg (by omega), List.take_length])
  have e0 : turn f (l.take 0) = [] := by simp [turn]
  simp only [e0, Int.natCast_zero] at key
  rw [bind_of key]
  dsimp only
  rw [List.drop_zero, List.take_of_length_le (by rw [turn_length]; omega)]
theorem F64_v1_in {l : Gs} {t : List (Int × Int)} {a i : Nat} {b0 : List (List Int)} (f : Nat → Int × Int → Int) (hf : ∀ (i : Nat) s, i < 12 → F66 (i : Int) s (a : Int) = some (f i s, ())) (hi : i < 12) (ht : t.length ≤ 10) {n : Nat} :
    iter (fun x => g64_v1_1 x.1 x.2.1 x.2.2.1 x.2.2.2.1 x.2.2.2.2.1 x.2.2.2.2.2.1 x.2.2.2.2.2.2.1 x.2.2.2.2.2.2.2.1 x.2.2.2.2.2.2.2.2.1 x.2.2.2.2.2.2.2.2.2.1 x.2.2.2.2.2.2.2.2.2.2.1 x.2.2.2.2.2.2.2.2.2.2.2.1) ((a : Int), n, (i : Int), 0, l, ((l.length : Nat) : Int), (i : Int), t, ((t.length : Nat) : Int), (0 : Int), b0, [], ()) = some ((a : Int), n, t.length, l, ((l.length : Nat) : Int), (i : Int), b0, t.map (f i), ()) := by
  have key := iter_count (step := fun x => g64_v1_1 x.1 x.2.1 x.2.2.1 x.2.2.2.1 x.2.2.2.2.1 x.2.2.2.2.2.1 x.2.2.2.2.2.2.1 x.2.2.2.2.2.2.2.1 x.2.2.2.2.2.2.2.2.1 x.2.2.2.2.2.2.2.2.2.1 x.2.2.2.2.2.2.2.2.2.2.1 x.2.2.2.2.2.2.2.2.2.2.2.1) t.length
    (fun k => ((a : Int), n, (i : Int), k, l, ((l.length : Nat) : Int), (i : Int), t, ((t.length : Nat) : Int), (k : Int), b0, (t.take k).map (f i), ()))
    (b := ((a : Int), n, t.length, l, ((l.length : Nat) : Int), (i : Int), b0, t.map (f i), ())) (fun k hk => by
      simp only [g64_v1_1, Int.toNat_natCast]
      rw [br_d, if_pos (by omega), need_inb (by omega) (by omega), hf i _ hi, bindO_s, need_big (by simp; omega), need_i64 (by omega) (by omega), take_succ_getD (0, 0) hk]
      simp
      rw [List.take_of_length_le (by simp; omega)]) (by
      simp only [g64_v1_1]; rw [br_d, if_neg (by omega), List.take_length])
  simp only [List.take_zero, List.map_nil, Int.natCast_zero] at key
  exact key
theorem F64_v1_turn {l : Gs} {a : Nat} (f : Nat → Int × Int → Int) (hf : ∀ (i : Nat) s, i < 12 → F66 (i : Int) s (a : Int) = some (f i s, ())) (hl : l.length ≤ 12) (ht : ∀ t ∈ l, t.length ≤ 10) : F64_v1 l (a : Int) = some (turn f l, ()) := by
  unfold F64_v1
  have key := iter_count (step := fun x => g64_v1_0 x.1 x.2.1 x.2.2.1 x.2.2.2.1 x.2.2.2.2.1 x.2.2.2.2.2.1) l.length (fun k => ((a : Int), k, l, ((l.length : Nat) : Int), (k : Int), turn f (l.take k), ())) (b := (l.length, turn f l, ())) (fun k hk => by
    simp only [g64_v1_0, Int.toNat_natCast]
    have i := F64_v1_in (l := l) (t := l.getD k []) (b0 := turn f (l.take k)) (i := k) f hf (by omega) (ht _ (getD_mem hk)) (n := k)
    rw [br_d, if_pos (by omega), need_inb (by omega) (by omega), bind_of i]
    dsimp only
    rw [need_big (by simp; omega), need_i64 (by omega) (by omega), turn_take f l hk]
    have e1 : ∀ x : List Int, List.take (l.getD k []).length ((l.getD k []).map (f k)) = (l.getD k []).map (f k) := fun _ => List.take_of_length_le (by rw [List.length_map]; omega)
    have e2 : List.take k (turn f (l.take k)) = turn f (l.take k) := List.take_of_length_le (by rw [turn_length, List.length_take]; omega)
    rw [List.drop_zero, List.drop_zero, List.drop_zero, e1 [], e2]
    simp) (by simp only [g64_v1_0]; rw [br_d, if_neg (by omega), List.take_length])
  have e0 : turn f (l.take 0) = [] := by simp [turn]
  simp only [e0, Int.natCast_zero] at key
  rw [bind_of key]
  dsimp only
  rw [List.drop_zero, List.take_of_length_le (by rw [turn_length]; omega)]
theorem F64_v2_in {l : Gs} {t : List (Int × Int)} {i : Nat} {b0 : List (List Int)} (f : Nat → Int × Int → Int) (hf : ∀ (i : Nat) s, i < 12 → F68 (i : Int) s = some (f i s, ())) (hi : i < 12) (ht : t.length ≤ 10) {n : Nat} :
    iter (fun x => g64_v2_1 x.1 x.2.1 x.2.2.1 x.2.2.2.1 x.2.2.2.2.1 x.2.2.2.2.2.1 x.2.2.2.2.2.2.1 x.2.2.2.2.2.2.2.1 x.2.2.2.2.2.2.2.2.1 x.2.2.2.2.2.2.2.2.2.1 x.2.2.2.2.2.2.2.2.2.2.1) (n, (i : Int), 0, l, ((l.length : Nat) : Int), (i : Int), t, ((t.length : Nat) : Int), (0 : Int), b0, [], ()) = some (n, t.length, l, ((l.length : Nat) : Int), (i : Int), b0, t.map (f i), ()) := by
  have key := iter_count (step := fun x => g64_v2_1 x.1 x.2.1 x.2.2.1 x.2.2.2.1 x.2.2.2.2.1 x.2.2.2.2.2.1 x.2.2.2.2.2.2.1 x.2.2.2.2.2.2.2.1 x.2.2.2.2.2.2.2.2.1 x.2.2.2.2.2.2.2.2.2.1 x.2.2.2.2.2.2.2.2.2.2.1) t.length
    (fun k => (n, (i : Int), k, l, ((l.length : Nat) : Int), (i : Int), t, ((t.length : Nat) : Int), (k : Int), b0, (t.take k).map (f i), ()))
    (b := (n, t.length, l, ((l.length : Nat) : Int), (i : Int), b0, t.map (f i), ())) (fun k hk => by
      simp only [g64_v2_1, Int.toNat_natCast]
      rw [br_d, if_pos (by omega), need_inb (by omega) (by omega), hf i _ hi, bindO_s, need_big (by simp; omega), need_i64 (by omega) (by omega), take_succ_getD (0, 0) hk]
      simp
      rw [List.take_of_length_le (by simp; omega)]) (by
      simp only [g64_v2_1]; rw [br_d, if_neg (by omega), List.take_length])
  simp only [List.take_zero, List.map_nil, Int.natCast_zero] at key
  exact key
theorem F64_v2_turn {l : Gs} (f : Nat → Int × Int → Int) (hf : ∀ (i : Nat) s, i < 12 → F68 (i : Int) s = some (f i s, ())) (hl : l.length ≤ 12) (ht : ∀ t ∈ l, t.length ≤ 10) : F64_v2 l = some (turn f l, ()) := by
  unfold F64_v2
  have key := iter_count (step := fun x => g64_v2_0 x.1 x.2.1 x.2.2.1 x.2.2.2.1 x.2.2.2.2.1) l.length (fun k => (k, l, ((l.length : Nat) : Int), (k : Int), turn f (l.take k), ())) (b := (l.length, turn f l, ())) (fun k hk => by
    simp only [g64_v2_0, Int.toNat_natCast]
    have i := F64_v2_in (l := l) (t := l.getD k []) (b0 := turn f (l.take k)) (i := k) f hf (by omega) (ht _ (getD_mem hk)) (n := k)
    rw [br_d, if_pos (by omega), need_inb (by omega) (by omega), bind_of i]
    dsimp only
    rw [need_big (by simp; omega), need_i64 (by omega) (by omega), turn_take f l hk]
    have e1 : ∀ x : List Int, List.take (l.getD k []).length ((l.getD k []).map (f k)) = (l.getD k []).map (f k) := fun _ => List.take_of_length_le (by rw [List.length_map]; omega)
    have e2 : List.take k (turn f (l.take k)) = turn f (l.take k) := List.take_of_length_le (by rw [turn_length, List.length_take]; omega)
    rw [List.drop_zero, List.drop_zero, List.drop_zero, e1 [], e2]
    simp) (by simp only [g64_v2_0]; rw [br_d, if_neg (by omega), List.take_length])
  have e0 : turn f (l.take 0) = [] := by simp [turn]
  simp only [e0, Int.natCast_zero] at key
  rw [bind_of key]
  dsimp only
  rw [List.drop_zero, List.take_of_length_le (by rw [turn_length]; omega)]
theorem F64_v3_in {l : Gs} {t : List (Int × Int)} {i : Nat} {b0 : List (List Int)} (f : Nat → Int × Int → Int) (hf : ∀ (i : Nat) s, i < 12 → F69 (i : Int) s = some (f i s, ())) (hi : i < 12) (ht : t.length ≤ 10) {n : Nat} :
    iter (fun x => g64_v3_1 x.1 x.2.1 x.2.2.1 x.2.2.2.1 x.2.2.2.2.1 x.2.2.2.2.2.1 x.2.2.2.2.2.2.1 x.2.2.2.2.2.2.2.1 x.2.2.2.2.2.2.2.2.1 x.2.2.2.2.2.2.2.2.2.1 x.2.2.2.2.2.2.2.2.2.2.1) (n, (i : Int), 0, l, ((l.length : Nat) : Int), (i : Int), t, ((t.length : Nat) : Int), (0 : Int), b0, [], ()) = some (n, t.length, l, ((l.length : Nat) : Int), (i : Int), b0, t.map (f i), ()) := by
  have key := iter_count (step := fun x => g64_v3_1 x.1 x.2.1 x.2.2.1 x.2.2.2.1 x.2.2.2.2.1 x.2.2.2.2.2.1 x.2.2.2.2.2.2.1 x.2.2.2.2.2.2.2.1 x.2.2.2.2.2.2.2.2.1 x.2.2.2.2.2.2.2.2.2.1 x.2.2.2.2.2.2.2.2.2.2.1) t.length
    (fun k => (n, (i : Int), k, l, ((l.length : Nat) : Int), (i : Int), t, ((t.length : Nat) : Int), (k : Int), b0, (t.take k).map (f i), ()))
    (b := (n, t.length, l, ((l.length : Nat) : Int), (i : Int), b0, t.map (f i), ())) (fun k hk => by
      simp only [g64_v3_1, Int.toNat_natCast]
      rw [br_d, if_pos (by omega), need_inb (by omega) (by omega), hf i _ hi, bindO_s, need_big (by simp; omega), need_i64 (by omega) (by omega), take_succ_getD (0, 0) hk]
      simp
      rw [List.take_of_length_le (by simp; omega)]) (by
      simp only [g64_v3_1]; rw [br_d, if_neg (by omega), List.take_length])
  simp only [List.take_zero, List.map_nil, Int.natCast_zero] at key
  exact key
theorem F64_v3_turn {l : Gs} (f : Nat → Int × Int → Int) (hf : ∀ (i : Nat) s, i < 12 → F69 (i : Int) s = some (f i s, ())) (hl : l.length ≤ 12) (ht : ∀ t ∈ l, t.length ≤ 10) : F64_v3 l = some (turn f l, ()) := by
  unfold F64_v3
  have key := iter_count (step := fun x => g64_v3_0 x.1 x.2.1 x.2.2.1 x.2.2.2.1 x.2.2.2.2.1) l.length (fun k => (k, l, ((l.length : Nat) : Int), (k : Int), turn f (l.take k), ())) (b := (l.length, turn f l, ())) (fun k hk => by
    simp only [g64_v3_0, Int.toNat_natCast]
    have i := F64_v3_in (l := l) (t := l.getD k []) (b0 := turn f (l.take k)) (i := k) f hf (by omega) (ht _ (getD_mem hk)) (n := k)
    rw [br_d, if_pos (by omega), need_inb (by omega) (by omega), bind_of i]
    dsimp only
    rw [need_big (by simp; omega), need_i64 (by omega) (by omega), turn_take f l hk]
    have e1 : ∀ x : List Int, List.take (l.getD k []).length ((l.getD k []).map (f k)) = (l.getD k []).map (f k) := fun _ => List.take_of_length_le (by rw [List.length_map]; omega)
    have e2 : List.take k (turn f (l.take k)) = turn f (l.take k) := List.take_of_length_le (by rw [turn_length, List.length_take]; omega)
    rw [List.drop_zero, List.drop_zero, List.drop_zero, e1 [], e2]
    simp) (by simp only [g64_v3_0]; rw [br_d, if_neg (by omega), List.take_length])
  have e0 : turn f (l.take 0) = [] := by simp [turn]
  simp only [e0, Int.natCast_zero] at key
  rw [bind_of key]
  dsimp only
  rw [List.drop_zero, List.take_of_length_le (by rw [turn_length]; omega)]
theorem turn_lo (l : Gs) : turn (fun _ s => s.1) l = lows l := by
  apply List.ext_getElem <;> simp [turn, lows]
theorem turn_hi (l : Gs) : turn (fun _ s => s.2) l = highs l := by
  apply List.ext_getElem <;> simp [turn, highs]
/-- The fields that are worst for one, and best. -/
def worstF (a : Nat) : Nat → Int × Int → Int := fun i s => if i = a then s.1 else s.2
def fineF (a : Nat) : Nat → Int × Int → Int := fun i s => if i = a then s.2 else s.1
theorem turn_worst (l : Gs) (a : Nat) : turn (worstF a) l = (highs l).set a ((lows l).getD a []) := by
  apply List.ext_getElem
  · simp [turn, highs]
  · intro i h1 h2
    simp only [turn_length] at h1
    rw [List.getElem_set]
    by_cases c : a = i
    · subst c
      simp [turn, lows, worstF, List.getD_eq_getElem?_getD, h1]
    · rw [if_neg c]
      simp [turn, highs, worstF, show ¬ i = a by omega]
theorem turn_fine (l : Gs) (a : Nat) : turn (fineF a) l = (lows l).set a ((highs l).getD a []) := by
  apply List.ext_getElem
  · simp [turn, lows]
  · intro i h1 h2
    simp only [turn_length] at h1
    rw [List.getElem_set]
    by_cases c : a = i
    · subst c
      simp [turn, highs, fineF, List.getD_eq_getElem?_getD, h1]
    · rw [if_neg c]
      simp [turn, lows, fineF, show ¬ i = a by omega]
theorem F64_eq {l : Gs} (hl : l.length ≤ 12) (ht : ∀ t ∈ l, t.length ≤ 10) (a : Nat) : F64 l a = some (turn (worstF a) l, ()) :=
  F64_turn (worstF a) (fun i s _ => by unfold F65 worstF; rw [br_eq]; by_cases c : i = a <;> simp [c]; omega) hl ht
theorem F64_v1_eq {l : Gs} (hl : l.length ≤ 12) (ht : ∀ t ∈ l, t.length ≤ 10) (a : Nat) : F64_v1 l a = some (turn (fineF a) l, ()) :=
  F64_v1_turn (fineF a) (fun i s _ => by unfold F66 fineF; rw [br_eq]; by_cases c : i = a <;> simp [c]; omega) hl ht
theorem F64_v2_eq {l : Gs} (hl : l.length ≤ 12) (ht : ∀ t ∈ l, t.length ≤ 10) : F64_v2 l = some (lows l, ()) := by
  rw [← turn_lo]; exact F64_v2_turn (fun _ s => s.1) (fun i s _ => rfl) hl ht
theorem F64_v3_eq {l : Gs} (hl : l.length ≤ 12) (ht : ∀ t ∈ l, t.length ≤ 10) : F64_v3 l = some (highs l, ()) := by
  rw [← turn_hi]; exact F64_v3_turn (fun _ s => s.2) (fun i s _ => rfl) hl ht
end Go.Proofs.Try
end
section
open Go.AM Go.Srt
namespace Go.Proofs.Try
set_option linter.unusedVariables false
set_option linter.unusedSimpArgs false
set_option maxRecDepth 100000
theorem smr81_1 (k0 : Int) (k1 : Int) (nv0 : Nat) (v1 : Int) (v2 : Int) (v8 : Int) (v9 : Int) (b0 : List (Int × Int)) : gH81_v3_1 nv0 v1 v2 v8 v9 b0 k0 k1 = mp (Sum.map (fun x => (x.1, x.2.1, x.2.2.1, x.2.2.2.1, x.2.2.2.2.1, x.2.2.2.2.2.1, k0, k1, ())) (fun x => (x.1, x.2.1, x.2.2.1, x.2.2.2.1, x.2.2.2.2.1, k0, k1, ()))) (s81_1 (fun a b => F75_v1 a b k0 k1) (0, 0) nv0 v1 v2 v8 v9 b0) := by
  unfold gH81_v3_1 s81_1
  simp only [mp_br, mp_nd, mp_bd, mp_s, bd_mp, Sum.map]
  try rfl
theorem smi81_1 (k0 : Int) (k1 : Int) (nv0 : Nat) (v1 : Int) (v2 : Int) (v8 : Int) (v9 : Int) (b0 : List (Int × Int)) : iter (fun x => gH81_v3_1 x.1 x.2.1 x.2.2.1 x.2.2.2.1 x.2.2.2.2.1 x.2.2.2.2.2.1 x.2.2.2.2.2.2.1 x.2.2.2.2.2.2.2.1) (nv0, v1, v2, v8, v9, b0, k0, k1, ()) = mp (fun x => (x.1, x.2.1, x.2.2.1, x.2.2.2.1, x.2.2.2.2.1, k0, k1, ())) (iter (fun x => s81_1 (fun a b => F75_v1 a b k0 k1) (0, 0) x.1 x.2.1 x.2.2.1 x.2.2.2.1 x.2.2.2.2.1 x.2.2.2.2.2.1) (nv0, v1, v2, v8, v9, b0, ())) :=
  iter_map (fun x => (x.1, x.2.1, x.2.2.1, x.2.2.2.1, x.2.2.2.2.1, x.2.2.2.2.2.1, k0, k1, ())) (fun x => (x.1, x.2.1, x.2.2.1, x.2.2.2.1, x.2.2.2.2.1, k0, k1, ())) (step := (fun x => s81_1 (fun a b => F75_v1 a b k0 k1) (0, 0) x.1 x.2.1 x.2.2.1 x.2.2.2.1 x.2.2.2.2.1 x.2.2.2.2.2.1)) (step' := (fun x => gH81_v3_1 x.1 x.2.1 x.2.2.1 x.2.2.2.1 x.2.2.2.2.1 x.2.2.2.2.2.1 x.2.2.2.2.2.2.1 x.2.2.2.2.2.2.2.1)) (fun x => smr81_1 k0 k1 x.1 x.2.1 x.2.2.1 x.2.2.2.1 x.2.2.2.2.1 x.2.2.2.2.2.1) (nv0, v1, v2, v8, v9, b0, ())
theorem smr81_0 (k0 : Int) (k1 : Int) (nv0 : Nat) (v1 : Int) (v2 : Int) (v8 : Int) (b0 : List (Int × Int)) : gH81_v3_0 nv0 v1 v2 v8 b0 k0 k1 = mp (Sum.map (fun x => (x.1, x.2.1, x.2.2.1, x.2.2.2.1, x.2.2.2.2.1, k0, k1, ())) (fun x => (k0, k1, x.1, ()))) (s81_0 (fun a b => F75_v1 a b k0 k1) (0, 0) nv0 v1 v2 v8 b0) := by
  unfold gH81_v3_0 s81_0
  simp only [mp_br, mp_nd, mp_bd, mp_s, bd_mp, Sum.map, smi81_1]
  try rfl
theorem smi81_0 (k0 : Int) (k1 : Int) (nv0 : Nat) (v1 : Int) (v2 : Int) (v8 : Int) (b0 : List (Int × Int)) : iter (fun x => gH81_v3_0 x.1 x.2.1 x.2.2.1 x.2.2.2.1 x.2.2.2.2.1 x.2.2.2.2.2.1 x.2.2.2.2.2.2.1) (nv0, v1, v2, v8, b0, k0, k1, ()) = mp (fun x => (k0, k1, x.1, ())) (iter (fun x => s81_0 (fun a b => F75_v1 a b k0 k1) (0, 0) x.1 x.2.1 x.2.2.1 x.2.2.2.1 x.2.2.2.2.1) (nv0, v1, v2, v8, b0, ())) :=
  iter_map (fun x => (x.1, x.2.1, x.2.2.1, x.2.2.2.1, x.2.2.2.2.1, k0, k1, ())) (fun x => (k0, k1, x.1, ())) (step := (fun x => s81_0 (fun a b => F75_v1 a b k0 k1) (0, 0) x.1 x.2.1 x.2.2.1 x.2.2.2.1 x.2.2.2.2.1)) (step' := (fun x => gH81_v3_0 x.1 x.2.1 x.2.2.1 x.2.2.2.1 x.2.2.2.2.1 x.2.2.2.2.2.1 x.2.2.2.2.2.2.1)) (fun x => smr81_0 k0 k1 x.1 x.2.1 x.2.2.1 x.2.2.2.1 x.2.2.2.2.1) (nv0, v1, v2, v8, b0, ())
theorem smf81 (k0 : Int) (k1 : Int) (nv0 : Nat) (v1 : Int) (v2 : Int) (b0 : List (Int × Int)) : FH81_v3 nv0 v1 v2 b0 k0 k1 = mp (fun x => (k0, k1, x.1, ())) (S81 (fun a b => F75_v1 a b k0 k1) (0, 0) nv0 v1 v2 b0) := by
  unfold FH81_v3 S81
  simp only [mp_br, mp_nd, mp_bd, mp_s, bd_mp, smi81_1, smi81_0]
  try rfl
theorem smr84_0 (k0 : Int) (k1 : Int) (nv0 : Nat) (v1 : Int) (v2 : Int) (v3 : Int) (v10 : Int) (b0 : List (Int × Int)) : gH84_v3_0 nv0 v1 v2 v3 v10 b0 k0 k1 = mp (Sum.map (fun x => (x.1, x.2.1, x.2.2.1, x.2.2.2.1, x.2.2.2.2.1, x.2.2.2.2.2.1, k0, k1, ())) (fun x => (k0, k1, x.1, ()))) (s84_0 (fun a b => F75_v1 a b k0 k1) (0, 0) nv0 v1 v2 v3 v10 b0) := by
  unfold gH84_v3_0 s84_0
  simp only [mp_br, mp_nd, mp_bd, mp_s, bd_mp, Sum.map, smi81_1, smi81_0, smf81]
  try rfl
theorem smi84_0 (k0 : Int) (k1 : Int) (nv0 : Nat) (v1 : Int) (v2 : Int) (v3 : Int) (v10 : Int) (b0 : List (Int × Int)) : iter (fun x => gH84_v3_0 x.1 x.2.1 x.2.2.1 x.2.2.2.1 x.2.2.2.2.1 x.2.2.2.2.2.1 x.2.2.2.2.2.2.1 x.2.2.2.2.2.2.2.1) (nv0, v1, v2, v3, v10, b0, k0, k1, ()) = mp (fun x => (k0, k1, x.1, ())) (iter (fun x => s84_0 (fun a b => F75_v1 a b k0 k1) (0, 0) x.1 x.2.1 x.2.2.1 x.2.2.2.1 x.2.2.2.2.1 x.2.2.2.2.2.1) (nv0, v1, v2, v3, v10, b0, ())) :=
  iter_map (fun x => (x.1, x.2.1, x.2.2.1, x.2.2.2.1, x.2.2.2.2.1, x.2.2.2.2.2.1, k0, k1, ())) (fun x => (k0, k1, x.1, ())) (step := (fun x => s84_0 (fun a b => F75_v1 a b k0 k1) (0, 0) x.1 x.2.1 x.2.2.1 x.2.2.2.1 x.2.2.2.2.1 x.2.2.2.2.2.1)) (step' := (fun x => gH84_v3_0 x.1 x.2.1 x.2.2.1 x.2.2.2.1 x.2.2.2.2.1 x.2.2.2.2.2.1 x.2.2.2.2.2.2.1 x.2.2.2.2.2.2.2.1)) (fun x => smr84_0 k0 k1 x.1 x.2.1 x.2.2.1 x.2.2.2.1 x.2.2.2.2.1 x.2.2.2.2.2.1) (nv0, v1, v2, v3, v10, b0, ())
theorem smf84 (k0 : Int) (k1 : Int) (nv0 : Nat) (v1 : Int) (v2 : Int) (v3 : Int) (b0 : List (Int × Int)) : FH84_v3 nv0 v1 v2 v3 b0 k0 k1 = mp (fun x => (k0, k1, x.1, ())) (S84 (fun a b => F75_v1 a b k0 k1) (0, 0) nv0 v1 v2 v3 b0) := by
  unfold FH84_v3 S84
  simp only [mp_br, mp_nd, mp_bd, mp_s, bd_mp, smi81_1, smi81_0, smf81, smi84_0]
  try rfl
theorem smr83_0 (k0 : Int) (k1 : Int) (nv0 : Nat) (v2 : Int) (v10 : Int) (v11 : Int) (b0 : List (Int × Int)) : gH83_v3_0 nv0 v2 v10 v11 b0 k0 k1 = mp (Sum.map (fun x => (x.1, x.2.1, x.2.2.1, x.2.2.2.1, x.2.2.2.2.1, k0, k1, ())) (fun x => (x.1, x.2.1, x.2.2.1, x.2.2.2.1, k0, k1, ()))) (s83_0 (fun a b => F75_v1 a b k0 k1) (0, 0) nv0 v2 v10 v11 b0) := by
  unfold gH83_v3_0 s83_0
  simp only [mp_br, mp_nd, mp_bd, mp_s, bd_mp, Sum.map, smi81_1, smi81_0, smf81, smi84_0, smf84]
  try rfl
theorem smi83_0 (k0 : Int) (k1 : Int) (nv0 : Nat) (v2 : Int) (v10 : Int) (v11 : Int) (b0 : List (Int × Int)) : iter (fun x => gH83_v3_0 x.1 x.2.1 x.2.2.1 x.2.2.2.1 x.2.2.2.2.1 x.2.2.2.2.2.1 x.2.2.2.2.2.2.1) (nv0, v2, v10, v11, b0, k0, k1, ()) = mp (fun x => (x.1, x.2.1, x.2.2.1, x.2.2.2.1, k0, k1, ())) (iter (fun x => s83_0 (fun a b => F75_v1 a b k0 k1) (0, 0) x.1 x.2.1 x.2.2.1 x.2.2.2.1 x.2.2.2.2.1) (nv0, v2, v10, v11, b0, ())) :=
  iter_map (fun x => (x.1, x.2.1, x.2.2.1, x.2.2.2.1, x.2.2.2.2.1, k0, k1, ())) (fun x => (x.1, x.2.1, x.2.2.1, x.2.2.2.1, k0, k1, ())) (step := (fun x => s83_0 (fun a b => F75_v1 a b k0 k1) (0, 0) x.1 x.2.1 x.2.2.1 x.2.2.2.1 x.2.2.2.2.1)) (step' := (fun x => gH83_v3_0 x.1 x.2.1 x.2.2.1 x.2.2.2.1 x.2.2.2.2.1 x.2.2.2.2.2.1 x.2.2.2.2.2.2.1)) (fun x => smr83_0 k0 k1 x.1 x.2.1 x.2.2.1 x.2.2.2.1 x.2.2.2.2.1) (nv0, v2, v10, v11, b0, ())
theorem smf83 (k0 : Int) (k1 : Int) (nv0 : Nat) (v1 : Int) (v2 : Int) (v3 : Int) (b0 : List (Int × Int)) : FH83_v3 nv0 v1 v2 v3 b0 k0 k1 = mp (fun x => (k0, k1, x.1, ())) (S83 (fun a b => F75_v1 a b k0 k1) (0, 0) nv0 v1 v2 v3 b0) := by
  unfold FH83_v3 S83
  simp only [mp_br, mp_nd, mp_bd, mp_s, bd_mp, smi81_1, smi81_0, smf81, smi84_0, smf84, smi83_0]
  try rfl
theorem smr82_0 (k0 : Int) (k1 : Int) (rec : pH82_v3.T → Option qH82_v3.T) (rec2 : (Nat × Int × Int × Int × List (Int × Int) × Unit) → Option (List (Int × Int) × Unit)) (nv0 : Nat) (v1 : Int) (v10 : Int) (v11 : Int) (b0 : List (Int × Int)) : gH82_v3_0 rec nv0 v1 v10 v11 b0 k0 k1 = mp (Sum.map (fun x => (x.1, x.2.1, x.2.2.1, x.2.2.2.1, x.2.2.2.2.1, k0, k1, ())) (fun x => (x.1, x.2.1, x.2.2.1, x.2.2.2.1, k0, k1, ()))) (s82_0 (fun a b => F75_v1 a b k0 k1) (0, 0) rec2 nv0 v1 v10 v11 b0) := by
  unfold gH82_v3_0 s82_0
  simp only [mp_br, mp_nd, mp_bd, mp_s, bd_mp, Sum.map, smi81_1, smi81_0, smf81, smi84_0, smf84, smi83_0, smf83]
  try rfl
theorem smi82_0 (k0 : Int) (k1 : Int) (rec : pH82_v3.T → Option qH82_v3.T) (rec2 : (Nat × Int × Int × Int × List (Int × Int) × Unit) → Option (List (Int × Int) × Unit)) (nv0 : Nat) (v1 : Int) (v10 : Int) (v11 : Int) (b0 : List (Int × Int)) : iter (fun x => gH82_v3_0 rec x.1 x.2.1 x.2.2.1 x.2.2.2.1 x.2.2.2.2.1 x.2.2.2.2.2.1 x.2.2.2.2.2.2.1) (nv0, v1, v10, v11, b0, k0, k1, ()) = mp (fun x => (x.1, x.2.1, x.2.2.1, x.2.2.2.1, k0, k1, ())) (iter (fun x => s82_0 (fun a b => F75_v1 a b k0 k1) (0, 0) rec2 x.1 x.2.1 x.2.2.1 x.2.2.2.1 x.2.2.2.2.1) (nv0, v1, v10, v11, b0, ())) :=
  iter_map (fun x => (x.1, x.2.1, x.2.2.1, x.2.2.2.1, x.2.2.2.2.1, k0, k1, ())) (fun x => (x.1, x.2.1, x.2.2.1, x.2.2.2.1, k0, k1, ())) (step := (fun x => s82_0 (fun a b => F75_v1 a b k0 k1) (0, 0) rec2 x.1 x.2.1 x.2.2.1 x.2.2.2.1 x.2.2.2.2.1)) (step' := (fun x => gH82_v3_0 rec x.1 x.2.1 x.2.2.1 x.2.2.2.1 x.2.2.2.2.1 x.2.2.2.2.2.1 x.2.2.2.2.2.2.1)) (fun x => smr82_0 k0 k1 rec rec2 x.1 x.2.1 x.2.2.1 x.2.2.2.1 x.2.2.2.2.1) (nv0, v1, v10, v11, b0, ())
theorem smr82_1 (k0 : Int) (k1 : Int) (rec : pH82_v3.T → Option qH82_v3.T) (rec2 : (Nat × Int × Int × Int × List (Int × Int) × Unit) → Option (List (Int × Int) × Unit)) (nv0 : Nat) (v10 : Int) (v13 : Int) (b0 : List (Int × Int)) : gH82_v3_1 rec nv0 v10 v13 b0 k0 k1 = mp (Sum.map (fun x => (x.1, x.2.1, x.2.2.1, x.2.2.2.1, k0, k1, ())) (fun x => (k0, k1, x.1, ()))) (s82_1 (fun a b => F75_v1 a b k0 k1) (0, 0) rec2 nv0 v10 v13 b0) := by
  unfold gH82_v3_1 s82_1
  simp only [mp_br, mp_nd, mp_bd, mp_s, bd_mp, Sum.map, smi81_1, smi81_0, smf81, smi84_0, smf84, smi83_0, smf83, smi82_0 _ _ rec rec2]
  try rfl
theorem smi82_1 (k0 : Int) (k1 : Int) (rec : pH82_v3.T → Option qH82_v3.T) (rec2 : (Nat × Int × Int × Int × List (Int × Int) × Unit) → Option (List (Int × Int) × Unit)) (nv0 : Nat) (v10 : Int) (v13 : Int) (b0 : List (Int × Int)) : iter (fun x => gH82_v3_1 rec x.1 x.2.1 x.2.2.1 x.2.2.2.1 x.2.2.2.2.1 x.2.2.2.2.2.1) (nv0, v10, v13, b0, k0, k1, ()) = mp (fun x => (k0, k1, x.1, ())) (iter (fun x => s82_1 (fun a b => F75_v1 a b k0 k1) (0, 0) rec2 x.1 x.2.1 x.2.2.1 x.2.2.2.1) (nv0, v10, v13, b0, ())) :=
  iter_map (fun x => (x.1, x.2.1, x.2.2.1, x.2.2.2.1, k0, k1, ())) (fun x => (k0, k1, x.1, ())) (step := (fun x => s82_1 (fun a b => F75_v1 a b k0 k1) (0, 0) rec2 x.1 x.2.1 x.2.2.1 x.2.2.2.1)) (step' := (fun x => gH82_v3_1 rec x.1 x.2.1 x.2.2.1 x.2.2.2.1 x.2.2.2.2.1 x.2.2.2.2.2.1)) (fun x => smr82_1 k0 k1 rec rec2 x.1 x.2.1 x.2.2.1 x.2.2.2.1) (nv0, v10, v13, b0, ())
theorem smr82_2 (k0 : Int) (k1 : Int) (rec : pH82_v3.T → Option qH82_v3.T) (rec2 : (Nat × Int × Int × Int × List (Int × Int) × Unit) → Option (List (Int × Int) × Unit)) (nv0 : Nat) (v2 : Int) (v14 : Int) (v15 : Int) (b0 : List (Int × Int)) : gH82_v3_2 rec nv0 v2 v14 v15 b0 k0 k1 = mp (Sum.map (fun x => (x.1, x.2.1, x.2.2.1, x.2.2.2.1, x.2.2.2.2.1, k0, k1, ())) (fun x => (x.1, x.2.1, x.2.2.1, x.2.2.2.1, k0, k1, ()))) (s82_2 (fun a b => F75_v1 a b k0 k1) (0, 0) rec2 nv0 v2 v14 v15 b0) := by
  unfold gH82_v3_2 s82_2
  simp only [mp_br, mp_nd, mp_bd, mp_s, bd_mp, Sum.map, smi81_1, smi81_0, smf81, smi84_0, smf84, smi83_0, smf83, smi82_0 _ _ rec rec2, smi82_1 _ _ rec rec2]
  try rfl
theorem smi82_2 (k0 : Int) (k1 : Int) (rec : pH82_v3.T → Option qH82_v3.T) (rec2 : (Nat × Int × Int × Int × List (Int × Int) × Unit) → Option (List (Int × Int) × Unit)) (nv0 : Nat) (v2 : Int) (v14 : Int) (v15 : Int) (b0 : List (Int × Int)) : iter (fun x => gH82_v3_2 rec x.1 x.2.1 x.2.2.1 x.2.2.2.1 x.2.2.2.2.1 x.2.2.2.2.2.1 x.2.2.2.2.2.2.1) (nv0, v2, v14, v15, b0, k0, k1, ()) = mp (fun x => (x.1, x.2.1, x.2.2.1, x.2.2.2.1, k0, k1, ())) (iter (fun x => s82_2 (fun a b => F75_v1 a b k0 k1) (0, 0) rec2 x.1 x.2.1 x.2.2.1 x.2.2.2.1 x.2.2.2.2.1) (nv0, v2, v14, v15, b0, ())) :=
  iter_map (fun x => (x.1, x.2.1, x.2.2.1, x.2.2.2.1, x.2.2.2.2.1, k0, k1, ())) (fun x => (x.1, x.2.1, x.2.2.1, x.2.2.2.1, k0, k1, ())) (step := (fun x => s82_2 (fun a b => F75_v1 a b k0 k1) (0, 0) rec2 x.1 x.2.1 x.2.2.1 x.2.2.2.1 x.2.2.2.2.1)) (step' := (fun x => gH82_v3_2 rec x.1 x.2.1 x.2.2.1 x.2.2.2.1 x.2.2.2.2.1 x.2.2.2.2.2.1 x.2.2.2.2.2.2.1)) (fun x => smr82_2 k0 k1 rec rec2 x.1 x.2.1 x.2.2.1 x.2.2.2.1 x.2.2.2.2.1) (nv0, v2, v14, v15, b0, ())
theorem smr82_3 (k0 : Int) (k1 : Int) (rec : pH82_v3.T → Option qH82_v3.T) (rec2 : (Nat × Int × Int × Int × List (Int × Int) × Unit) → Option (List (Int × Int) × Unit)) (nv0 : Nat) (v14 : Int) (v17 : Int) (b0 : List (Int × Int)) : gH82_v3_3 rec nv0 v14 v17 b0 k0 k1 = mp (Sum.map (fun x => (x.1, x.2.1, x.2.2.1, x.2.2.2.1, k0, k1, ())) (fun x => (k0, k1, x.1, ()))) (s82_3 (fun a b => F75_v1 a b k0 k1) (0, 0) rec2 nv0 v14 v17 b0) := by
  unfold gH82_v3_3 s82_3
  simp only [mp_br, mp_nd, mp_bd, mp_s, bd_mp, Sum.map, smi81_1, smi81_0, smf81, smi84_0, smf84, smi83_0, smf83, smi82_0 _ _ rec rec2, smi82_1 _ _ rec rec2, smi82_2 _ _ rec rec2]
  try rfl
theorem smi82_3 (k0 : Int) (k1 : Int) (rec : pH82_v3.T → Option qH82_v3.T) (rec2 : (Nat × Int × Int × Int × List (Int × Int) × Unit) → Option (List (Int × Int) × Unit)) (nv0 : Nat) (v14 : Int) (v17 : Int) (b0 : List (Int × Int)) : iter (fun x => gH82_v3_3 rec x.1 x.2.1 x.2.2.1 x.2.2.2.1 x.2.2.2.2.1 x.2.2.2.2.2.1) (nv0, v14, v17, b0, k0, k1, ()) = mp (fun x => (k0, k1, x.1, ())) (iter (fun x => s82_3 (fun a b => F75_v1 a b k0 k1) (0, 0) rec2 x.1 x.2.1 x.2.2.1 x.2.2.2.1) (nv0, v14, v17, b0, ())) :=
  iter_map (fun x => (x.1, x.2.1, x.2.2.1, x.2.2.2.1, k0, k1, ())) (fun x => (k0, k1, x.1, ())) (step := (fun x => s82_3 (fun a b => F75_v1 a b k0 k1) (0, 0) rec2 x.1 x.2.1 x.2.2.1 x.2.2.2.1)) (step' := (fun x => gH82_v3_3 rec x.1 x.2.1 x.2.2.1 x.2.2.2.1 x.2.2.2.2.1 x.2.2.2.2.2.1)) (fun x => smr82_3 k0 k1 rec rec2 x.1 x.2.1 x.2.2.1 x.2.2.2.1) (nv0, v14, v17, b0, ())
theorem smr82_4 (k0 : Int) (k1 : Int) (rec : pH82_v3.T → Option qH82_v3.T) (rec2 : (Nat × Int × Int × Int × List (Int × Int) × Unit) → Option (List (Int × Int) × Unit)) (nv0 : Nat) (v1 : Int) (v2 : Int) (v3 : Int) (v18 : Int) (v19 : Int) (v20 : Int) (v21 : Int) (v22 : Int) (b0 : List (Int × Int)) : gH82_v3_4 rec nv0 v1 v2 v3 v18 v19 v20 v21 v22 b0 k0 k1 = mp (Sum.map (fun x => (x.1, x.2.1, x.2.2.1, x.2.2.2.1, x.2.2.2.2.1, x.2.2.2.2.2.1, x.2.2.2.2.2.2.1, x.2.2.2.2.2.2.2.1, x.2.2.2.2.2.2.2.2.1, x.2.2.2.2.2.2.2.2.2.1, k0, k1, ())) (fun x => (x.1, x.2.1, x.2.2.1, x.2.2.2.1, x.2.2.2.2.1, x.2.2.2.2.2.1, x.2.2.2.2.2.2.1, x.2.2.2.2.2.2.2.1, k0, k1, ()))) (s82_4 (fun a b => F75_v1 a b k0 k1) (0, 0) rec2 nv0 v1 v2 v3 v18 v19 v20 v21 v22 b0) := by
  unfold gH82_v3_4 s82_4
  simp only [mp_br, mp_nd, mp_bd, mp_s, bd_mp, Sum.map, smi81_1, smi81_0, smf81, smi84_0, smf84, smi83_0, smf83, smi82_0 _ _ rec rec2, smi82_1 _ _ rec rec2, smi82_2 _ _ rec rec2, smi82_3 _ _ rec rec2]
  try rfl
theorem smi82_4 (k0 : Int) (k1 : Int) (rec : pH82_v3.T → Option qH82_v3.T) (rec2 : (Nat × Int × Int × Int × List (Int × Int) × Unit) → Option (List (Int × Int) × Unit)) (nv0 : Nat) (v1 : Int) (v2 : Int) (v3 : Int) (v18 : Int) (v19 : Int) (v20 : Int) (v21 : Int) (v22 : Int) (b0 : List (Int × Int)) : iter (fun x => gH82_v3_4 rec x.1 x.2.1 x.2.2.1 x.2.2.2.1 x.2.2.2.2.1 x.2.2.2.2.2.1 x.2.2.2.2.2.2.1 x.2.2.2.2.2.2.2.1 x.2.2.2.2.2.2.2.2.1 x.2.2.2.2.2.2.2.2.2.1 x.2.2.2.2.2.2.2.2.2.2.1 x.2.2.2.2.2.2.2.2.2.2.2.1) (nv0, v1, v2, v3, v18, v19, v20, v21, v22, b0, k0, k1, ()) = mp (fun x => (x.1, x.2.1, x.2.2.1, x.2.2.2.1, x.2.2.2.2.1, x.2.2.2.2.2.1, x.2.2.2.2.2.2.1, x.2.2.2.2.2.2.2.1, k0, k1, ())) (iter (fun x => s82_4 (fun a b => F75_v1 a b k0 k1) (0, 0) rec2 x.1 x.2.1 x.2.2.1 x.2.2.2.1 x.2.2.2.2.1 x.2.2.2.2.2.1 x.2.2.2.2.2.2.1 x.2.2.2.2.2.2.2.1 x.2.2.2.2.2.2.2.2.1 x.2.2.2.2.2.2.2.2.2.1) (nv0, v1, v2, v3, v18, v19, v20, v21, v22, b0, ())) :=
  iter_map (fun x => (x.1, x.2.1, x.2.2.1, x.2.2.2.1, x.2.2.2.2.1, x.2.2.2.2.2.1, x.2.2.2.2.2.2.1, x.2.2.2.2.2.2.2.1, x.2.2.2.2.2.2.2.2.1, x.2.2.2.2.2.2.2.2.2.1, k0, k1, ())) (fun x => (x.1, x.2.1, x.2.2.1, x.2.2.2.1, x.2.2.2.2.1, x.2.2.2.2.2.1, x.2.2.2.2.2.2.1, x.2.2.2.2.2.2.2.1, k0, k1, ())) (step := (fun x => s82_4 (fun a b => F75_v1 a b k0 k1) (0, 0) rec2 x.1 x.2.1 x.2.2.1 x.2.2.2.1 x.2.2.2.2.1 x.2.2.2.2.2.1 x.2.2.2.2.2.2.1 x.2.2.2.2.2.2.2.1 x.2.2.2.2.2.2.2.2.1 x.2.2.2.2.2.2.2.2.2.1)) (step' := (fun x => gH82_v3_4 rec x.1 x.2.1 x.2.2.1 x.2.2.2.1 x.2.2.2.2.1 x.2.2.2.2.2.1 x.2.2.2.2.2.2.1 x.2.2.2.2.2.2.2.1 x.2.2.2.2.2.2.2.2.1 x.2.2.2.2.2.2.2.2.2.1 x.2.2.2.2.2.2.2.2.2.2.1 x.2.2.2.2.2.2.2.2.2.2.2.1)) (fun x => smr82_4 k0 k1 rec rec2 x.1 x.2.1 x.2.2.1 x.2.2.2.1 x.2.2.2.2.1 x.2.2.2.2.2.1 x.2.2.2.2.2.2.1 x.2.2.2.2.2.2.2.1 x.2.2.2.2.2.2.2.2.1 x.2.2.2.2.2.2.2.2.2.1) (nv0, v1, v2, v3, v18, v19, v20, v21, v22, b0, ())
theorem smf82 (k0 : Int) (k1 : Int) (rec : pH82_v3.T → Option qH82_v3.T) (rec2 : (Nat × Int × Int × Int × List (Int × Int) × Unit) → Option (List (Int × Int) × Unit)) (hrec : ∀ x, rec (x.1, x.2.1, x.2.2.1, x.2.2.2.1, x.2.2.2.2.1, k0, k1, ()) = mp (B := qH82_v3.T) (fun x => (k0, k1, x.1, ())) (rec2 x)) (nv0 : Nat) (v1 : Int) (v2 : Int) (v3 : Int) (b0 : List (Int × Int)) : FH82_v3 rec nv0 v1 v2 v3 b0 k0 k1 = mp (fun x => (k0, k1, x.1, ())) (S82 (fun a b => F75_v1 a b k0 k1) (0, 0) rec2 nv0 v1 v2 v3 b0) := by
  have hrec' := fun p q r t u => hrec (p, q, r, t, u, ())
  have hb : ∀ {X : Type} (f : qH82_v3.T → Option X) p q r t u, bindO (A := qH82_v3.T) (rec (p, q, r, t, u, k0, k1, ())) f = bindO (rec2 (p, q, r, t, u, ())) (fun x => f (k0, k1, x.1, ())) := fun f p q r t u => (congrArg (fun o => bindO o f) (hrec' p q r t u)).trans bd_mp
  unfold FH82_v3 S82
  simp only [mp_br, mp_nd, mp_bd, mp_s, bd_mp, hb, smi81_1, smi81_0, smf81, smi84_0, smf84, smi83_0, smf83, smi82_0 _ _ rec rec2, smi82_1 _ _ rec rec2, smi82_2 _ _ rec rec2, smi82_3 _ _ rec rec2, smi82_4 _ _ rec rec2]
  try rfl
theorem smf82fix (k0 : Int) (k1 : Int) (nv0 : Nat) (v1 : Int) (v2 : Int) (v3 : Int) (b0 : List (Int × Int)) : FH82_v3fix nv0 v1 v2 v3 b0 k0 k1 = mp (fun x => (k0, k1, x.1, ())) (S82fix (fun a b => F75_v1 a b k0 k1) (0, 0) nv0 v1 v2 v3 b0) :=
  fixO_map (fun (x : Nat × Int × Int × Int × List (Int × Int) × Unit) => (x.1, x.2.1, x.2.2.1, x.2.2.2.1, x.2.2.2.2.1, k0, k1, ())) (fun (x : List (Int × Int) × Unit) => (k0, k1, x.1, ())) (fun a b h => by simpa [Prod.ext_iff] using h) (F := fun rec x => S82 (fun a b => F75_v1 a b k0 k1) (0, 0) rec x.1 x.2.1 x.2.2.1 x.2.2.2.1 x.2.2.2.2.1) (F' := fun rec x => FH82_v3 rec x.1 x.2.1 x.2.2.1 x.2.2.2.1 x.2.2.2.2.1 x.2.2.2.2.2.1 x.2.2.2.2.2.2.1)
    (fun rec rec2 h x => smf82 k0 k1 rec rec2 h x.1 x.2.1 x.2.2.1 x.2.2.2.1 x.2.2.2.2.1) (nv0, v1, v2, v3, b0, ())
theorem smr79_0 (k0 : Int) (k1 : Int) (nv0 : Nat) (v1 : Int) (v6 : Int) (v7 : Int) (v8 : Int) (b0 : List (Int × Int)) : gH79_v3_0 nv0 v1 v6 v7 v8 b0 k0 k1 = mp (Sum.map (fun x => (x.1, x.2.1, x.2.2.1, x.2.2.2.1, x.2.2.2.2.1, x.2.2.2.2.2.1, k0, k1, ())) (fun x => (x.1, x.2.1, x.2.2.1, x.2.2.2.1, x.2.2.2.2.1, k0, k1, ()))) (s79_0 (fun a b => F75_v1 a b k0 k1) (0, 0) nv0 v1 v6 v7 v8 b0) := by
  unfold gH79_v3_0 s79_0
  simp only [mp_br, mp_nd, mp_bd, mp_s, bd_mp, Sum.map, smi81_1, smi81_0, smf81, smi84_0, smf84, smi83_0, smf83, smf82fix]
  try rfl
theorem smi79_0 (k0 : Int) (k1 : Int) (nv0 : Nat) (v1 : Int) (v6 : Int) (v7 : Int) (v8 : Int) (b0 : List (Int × Int)) : iter (fun x => gH79_v3_0 x.1 x.2.1 x.2.2.1 x.2.2.2.1 x.2.2.2.2.1 x.2.2.2.2.2.1 x.2.2.2.2.2.2.1 x.2.2.2.2.2.2.2.1) (nv0, v1, v6, v7, v8, b0, k0, k1, ()) = mp (fun x => (x.1, x.2.1, x.2.2.1, x.2.2.2.1, x.2.2.2.2.1, k0, k1, ())) (iter (fun x => s79_0 (fun a b => F75_v1 a b k0 k1) (0, 0) x.1 x.2.1 x.2.2.1 x.2.2.2.1 x.2.2.2.2.1 x.2.2.2.2.2.1) (nv0, v1, v6, v7, v8, b0, ())) :=
  iter_map (fun x => (x.1, x.2.1, x.2.2.1, x.2.2.2.1, x.2.2.2.2.1, x.2.2.2.2.2.1, k0, k1, ())) (fun x => (x.1, x.2.1, x.2.2.1, x.2.2.2.1, x.2.2.2.2.1, k0, k1, ())) (step := (fun x => s79_0 (fun a b => F75_v1 a b k0 k1) (0, 0) x.1 x.2.1 x.2.2.1 x.2.2.2.1 x.2.2.2.2.1 x.2.2.2.2.2.1)) (step' := (fun x => gH79_v3_0 x.1 x.2.1 x.2.2.1 x.2.2.2.1 x.2.2.2.2.1 x.2.2.2.2.2.1 x.2.2.2.2.2.2.1 x.2.2.2.2.2.2.2.1)) (fun x => smr79_0 k0 k1 x.1 x.2.1 x.2.2.1 x.2.2.2.1 x.2.2.2.2.1 x.2.2.2.2.2.1) (nv0, v1, v6, v7, v8, b0, ())
theorem smr79_2 (k0 : Int) (k1 : Int) (nv0 : Nat) (v1 : Int) (v6 : Int) (v7 : Int) (v8 : Int) (b0 : List (Int × Int)) : gH79_v3_2 nv0 v1 v6 v7 v8 b0 k0 k1 = mp (Sum.map (fun x => (x.1, x.2.1, x.2.2.1, x.2.2.2.1, x.2.2.2.2.1, x.2.2.2.2.2.1, k0, k1, ())) (fun x => (x.1, x.2.1, x.2.2.1, x.2.2.2.1, x.2.2.2.2.1, k0, k1, ()))) (s79_2 (fun a b => F75_v1 a b k0 k1) (0, 0) nv0 v1 v6 v7 v8 b0) := by
  unfold gH79_v3_2 s79_2
  simp only [mp_br, mp_nd, mp_bd, mp_s, bd_mp, Sum.map, smi81_1, smi81_0, smf81, smi84_0, smf84, smi83_0, smf83, smf82fix, smi79_0]
  try rfl
theorem smi79_2 (k0 : Int) (k1 : Int) (nv0 : Nat) (v1 : Int) (v6 : Int) (v7 : Int) (v8 : Int) (b0 : List (Int × Int)) : iter (fun x => gH79_v3_2 x.1 x.2.1 x.2.2.1 x.2.2.2.1 x.2.2.2.2.1 x.2.2.2.2.2.1 x.2.2.2.2.2.2.1 x.2.2.2.2.2.2.2.1) (nv0, v1, v6, v7, v8, b0, k0, k1, ()) = mp (fun x => (x.1, x.2.1, x.2.2.1, x.2.2.2.1, x.2.2.2.2.1, k0, k1, ())) (iter (fun x => s79_2 (fun a b => F75_v1 a b k0 k1) (0, 0) x.1 x.2.1 x.2.2.1 x.2.2.2.1 x.2.2.2.2.1 x.2.2.2.2.2.1) (nv0, v1, v6, v7, v8, b0, ())) :=
  iter_map (fun x => (x.1, x.2.1, x.2.2.1, x.2.2.2.1, x.2.2.2.2.1, x.2.2.2.2.2.1, k0, k1, ())) (fun x => (x.1, x.2.1, x.2.2.1, x.2.2.2.1, x.2.2.2.2.1, k0, k1, ())) (step := (fun x => s79_2 (fun a b => F75_v1 a b k0 k1) (0, 0) x.1 x.2.1 x.2.2.1 x.2.2.2.1 x.2.2.2.2.1 x.2.2.2.2.2.1)) (step' := (fun x => gH79_v3_2 x.1 x.2.1 x.2.2.1 x.2.2.2.1 x.2.2.2.2.1 x.2.2.2.2.2.1 x.2.2.2.2.2.2.1 x.2.2.2.2.2.2.2.1)) (fun x => smr79_2 k0 k1 x.1 x.2.1 x.2.2.1 x.2.2.2.1 x.2.2.2.2.1 x.2.2.2.2.2.1) (nv0, v1, v6, v7, v8, b0, ())
theorem smr79_1 (k0 : Int) (k1 : Int) (nv0 : Nat) (v1 : Int) (v6 : Int) (b0 : List (Int × Int)) : gH79_v3_1 nv0 v1 v6 b0 k0 k1 = mp (Sum.map (fun x => (x.1, x.2.1, x.2.2.1, x.2.2.2.1, k0, k1, ())) (fun x => (k0, k1, x.1, ()))) (s79_1 (fun a b => F75_v1 a b k0 k1) (0, 0) nv0 v1 v6 b0) := by
  unfold gH79_v3_1 s79_1
  simp only [mp_br, mp_nd, mp_bd, mp_s, bd_mp, Sum.map, smi81_1, smi81_0, smf81, smi84_0, smf84, smi83_0, smf83, smf82fix, smi79_0, smi79_2]
  try rfl
theorem smi79_1 (k0 : Int) (k1 : Int) (nv0 : Nat) (v1 : Int) (v6 : Int) (b0 : List (Int × Int)) : iter (fun x => gH79_v3_1 x.1 x.2.1 x.2.2.1 x.2.2.2.1 x.2.2.2.2.1 x.2.2.2.2.2.1) (nv0, v1, v6, b0, k0, k1, ()) = mp (fun x => (k0, k1, x.1, ())) (iter (fun x => s79_1 (fun a b => F75_v1 a b k0 k1) (0, 0) x.1 x.2.1 x.2.2.1 x.2.2.2.1) (nv0, v1, v6, b0, ())) :=
  iter_map (fun x => (x.1, x.2.1, x.2.2.1, x.2.2.2.1, k0, k1, ())) (fun x => (k0, k1, x.1, ())) (step := (fun x => s79_1 (fun a b => F75_v1 a b k0 k1) (0, 0) x.1 x.2.1 x.2.2.1 x.2.2.2.1)) (step' := (fun x => gH79_v3_1 x.1 x.2.1 x.2.2.1 x.2.2.2.1 x.2.2.2.2.1 x.2.2.2.2.2.1)) (fun x => smr79_1 k0 k1 x.1 x.2.1 x.2.2.1 x.2.2.2.1) (nv0, v1, v6, b0, ())
theorem smf79 (k0 : Int) (k1 : Int) (nv0 : Nat) (v1 : Int) (b0 : List (Int × Int)) : FH79_v3 nv0 v1 b0 k0 k1 = mp (fun x => (k0, k1, x.1, ())) (S79 (fun a b => F75_v1 a b k0 k1) (0, 0) nv0 v1 b0) := by
  unfold FH79_v3 S79
  simp only [mp_br, mp_nd, mp_bd, mp_s, bd_mp, smi81_1, smi81_0, smf81, smi84_0, smf84, smi83_0, smf83, smf82fix, smi79_0, smi79_2, smi79_1]
  try rfl
theorem smf74 (k0 : Int) (k1 : Int) (nv0 : Nat) (b0 : List (Int × Int)) : FH74_v3 nv0 b0 k0 k1 = mp (fun x => (k0, k1, x.1, ())) (S74 (fun a b => F75_v1 a b k0 k1) (0, 0) nv0 b0) := by
  unfold FH74_v3 S74
  simp only [mp_br, mp_nd, mp_bd, mp_s, bd_mp, smi81_1, smi81_0, smf81, smi84_0, smf84, smi83_0, smf83, smf82fix, smi79_0, smi79_2, smi79_1, smf79]
  try rfl
end Go.Proofs.Try
end
section
open Go.AM Go.Gm Go.Srt
namespace Go.Proofs.Try
set_option linter.unusedVariables false
set_option linter.unusedSimpArgs false
theorem F75_v1_ok (a : Nat) (v : Int) (hv : -1 ≤ v ∧ v ≤ 1) : CmpOk (fun x y => F75_v1 x y (a : Int) v) (ltF (favF a v)) GoodS := ⟨ltF_ord _, fun x y hx hy => by
  obtain ⟨⟨a1, a2⟩, a3, a4⟩ := hx
  obtain ⟨⟨b1, b2⟩, b3, b4⟩ := hy
  have f78 : ∀ i : Int, F78 i a v = some (favF a v i, ()) := fun i => by
    unfold F78 favF; rw [br_eq]; by_cases c : i = a <;> simp [c]
  have fb : ∀ i : Int, -1 ≤ favF a v i ∧ favF a v i ≤ 1 := fun i => by unfold favF; split <;> omega
  have fx := fb x.2
  have fy := fb y.2
  unfold F75_v1
  by_cases h : x = y
  · subst h
    refine ⟨0, ?_, ?_⟩
    · rw [br_t (by simp)]
    · simp [ltF]
  · have hne : ((x.1 == y.1) && ((x.2 == y.2) && true)) = false := by
      cases hc : ((x.1 == y.1) && ((x.2 == y.2) && true)) with
      | false => rfl
      | true => exact absurd (Prod.ext_iff.2 (by simpa using hc)) h
    refine ⟨_, ?_, ltF_z (by omega) (by omega)⟩
    rw [br_f hne, need_i64 (by omega) (by omega), f78, f78, bindO_s, bindO_s, need_i64 (by omega) (by omega), need_i64 (by omega) (by omega)]
    have := F76_3 (y.1 - x.1) (favF a v y.2 - favF a v x.2) (x.2 - y.2)
    simp only [List.drop_zero]
    rw [show List.take 3 [y.1 - x.1, favF a v y.2 - favF a v x.2, x.2 - y.2] = [y.1 - x.1, favF a v y.2 - favF a v x.2, x.2 - y.2] by rfl, this, bindO_s]⟩
theorem F58_v1_in {l : List (List Int)} {f : List Int} {base : List (Int × Int)} {i : Nat} {a v : Int} (hi : i < 1000) (hf : f.length ≤ 10) (hb : base.length ≤ 1000) :
    iter (fun x => g58_v1_1 x.1 x.2.1 x.2.2.1 x.2.2.2.1 x.2.2.2.2.1 x.2.2.2.2.2.1 x.2.2.2.2.2.2.1 x.2.2.2.2.2.2.2.1 x.2.2.2.2.2.2.2.2.1 x.2.2.2.2.2.2.2.2.2.1 x.2.2.2.2.2.2.2.2.2.2.1) (base.length, (i : Int), l, ((l.length : Nat) : Int), (i : Int), f, ((f.length : Nat) : Int), (0 : Int), a, v, base, ()) =
    some ((base ++ f.map (fun g => (g, (i : Int)))).length, l, ((l.length : Nat) : Int), (i : Int), a, v, base ++ f.map (fun g => (g, (i : Int))), ()) := by
  have key := iter_count (step := fun x => g58_v1_1 x.1 x.2.1 x.2.2.1 x.2.2.2.1 x.2.2.2.2.1 x.2.2.2.2.2.1 x.2.2.2.2.2.2.1 x.2.2.2.2.2.2.2.1 x.2.2.2.2.2.2.2.2.1 x.2.2.2.2.2.2.2.2.2.1 x.2.2.2.2.2.2.2.2.2.2.1) f.length
    (fun k => ((base ++ (f.take k).map (fun g => (g, (i : Int)))).length, (i : Int), l, ((l.length : Nat) : Int), (i : Int), f, ((f.length : Nat) : Int), (k : Int), a, v, base ++ (f.take k).map (fun g => (g, (i : Int))), ()))
    (b := ((base ++ f.map (fun g => (g, (i : Int)))).length, l, ((l.length : Nat) : Int), (i : Int), a, v, base ++ f.map (fun g => (g, (i : Int))), ())) (fun k hk => by
      simp only [g58_v1_1, Int.toNat_natCast]
      rw [br_d, if_pos (by omega), need_inb (by omega) (by omega), need_big (by simp; omega), need_i64 (by omega) (by omega), take_succ_getD 0 hk]
      simp
      exact ⟨by omega, by rw [List.take_of_length_le (by simp)]; simp⟩) (by
      simp only [g58_v1_1]; rw [br_d, if_neg (by omega), List.take_length])
  simp only [List.take_zero, List.map_nil, List.append_nil, Int.natCast_zero] at key
  exact key
theorem F58_v1_eq {l : List (List Int)} (h : Val l) (a : Nat) {v : Int} (hv : -1 ≤ v ∧ v ≤ 1) : F58_v1 l a v = some (stepsF (favF a v) l, ()) := by
  have hl := h.len
  have hfl := h.flat
  have key := iter_count (step := fun x => g58_v1_0 x.1 x.2.1 x.2.2.1 x.2.2.2.1 x.2.2.2.2.1 x.2.2.2.2.2.1 x.2.2.2.2.2.2.1) l.length
    (fun k => ((allFrom 0 (l.take k)).length, l, ((l.length : Nat) : Int), (k : Int), (a : Int), v, allFrom 0 (l.take k), ()))
    (b := ((allFrom 0 l).length, (a : Int), v, allFrom 0 l, ())) (fun k hk => by
      have e := allFrom_append 0 (l.take k) [l.getD k []]
      rw [← take_succ_getD [] hk] at e
      have hlen : (allFrom 0 (l.take k)).length ≤ 120 := by rw [allFrom_length]; have := flat_len h k; omega
      have e2 : (l.take k).length = k := by simp; omega
      rw [e2, Nat.zero_add] at e
      simp only [allFrom, List.append_nil] at e
      simp only [g58_v1_0, Int.toNat_natCast]
      rw [br_d, if_pos (by omega), need_inb (by omega) (by omega), bind_of (F58_v1_in (l := l) (f := l.getD k []) (by omega) (h.getD k).1 (by omega))]
      dsimp only
      rw [need_i64 (by omega) (by omega), e]
      simp) (by simp only [g58_v1_0]; rw [br_d, if_neg (by omega), List.take_length])
  simp only [List.take_zero, allFrom, List.length_nil, Int.natCast_zero] at key
  unfold F58_v1
  rw [bind_of key]
  dsimp only
  rw [smf74, S74_ok (F75_v1_ok a v hv) (fun z hz => allFrom_good h hz) rfl (by rw [allFrom_length]; omega), mp_s, bindO_s]
  unfold F77
  dsimp only
  rw [bindO_s]
  have : List.take (allFrom 0 l).length (srt (ltF (favF a v)) (allFrom 0 l)) = srt (ltF (favF a v)) (allFrom 0 l) := List.take_of_length_le (by rw [srt_length]; omega)
  simp only [List.drop_zero]
  rw [this]
  rfl
/-- Does a step count for a field? -/
def cntB (a : Nat) (v : Int) (s : Int × Int) : Bool := inF a s && (decide (0 < v) || decide (0 < s.1))
def cntQ (a : Nat) (v : Int) (t : List (Int × Int)) : Nat := (t.filter (cntB a v)).length
theorem cntQ_snoc (a : Nat) (v : Int) (t : List (Int × Int)) (s : Int × Int) : cntQ a v (t ++ [s]) = cntQ a v t + (if cntB a v s = true then 1 else 0) := by
  simp only [cntQ, List.filter_append, List.length_append, List.filter_cons]
  by_cases h : cntB a v s = true <;> simp [h]
theorem F67_eq {l : List (List Int)} (h : Val l) (a : Nat) {v : Int} (hv : -1 ≤ v ∧ v ≤ 1) {g : Nat} (hg : g ≤ 200) : F67 l a g v = some (((cntQ a v ((stepsF (favF a v) l).take g) : Nat) : Int), ()) := by
  have ht := steps_len h (favF a v)
  have hgood : ∀ s ∈ stepsF (favF a v) l, GoodS s := fun s hs => steps_good h _ hs
  unfold F67
  rw [F58_v1_eq h a hv, bindO_s]
  dsimp only
  generalize stepsF (favF a v) l = t at *
  have key := iter_count (step := fun x => g67_0i_0 x.1 x.2.1 x.2.2.1 x.2.2.2.1 x.2.2.2.2.1 x.2.2.2.2.2.1 x.2.2.2.2.2.2.1 x.2.2.2.2.2.2.2.1 x.2.2.2.2.2.2.2.2.1) (min g t.length)
    (fun k => (t, ((t.length : Nat) : Int), (k : Int), (0 : Int), t, (a : Int), (g : Int) - k, v, ((cntQ a v (t.take k) : Nat) : Int), ()))
    (b := if g < t.length then .inl ((a : Int), (0 : Int), v, ((cntQ a v (t.take g) : Nat) : Int), (0 : Int), t, ()) else .inr ((a : Int), (g : Int) - t.length, v, ((cntQ a v (t.take g) : Nat) : Int), (0 : Int), t, ())) (fun k hk => by
      have hkt : k < t.length := by omega
      have hq : cntQ a v (t.take k) ≤ k := by have := List.length_filter_le (cntB a v) (t.take k); simp at this; unfold cntQ; omega
      simp only [g67_0i_0, Int.toNat_natCast]
      rw [br_d, if_pos (by omega), need_inb (by omega) (by omega), br_eq, if_neg (by omega), need_i64 (by omega) (by omega), br_eq, take_succ_getD (0, 0) hkt, cntQ_snoc]
      obtain ⟨s, hs⟩ : ∃ s, t.getD k (0, 0) = s := ⟨_, rfl⟩
      simp only [hs]
      by_cases c1 : s.2 = (a : Int)
      · rw [if_pos c1, br_d]
        by_cases c2 : 0 < v
        · rw [if_pos c2, need_i64 (by omega) (by omega), need_i64 (by omega) (by omega), if_pos (by simp [cntB, inF, c1, c2])]
          simp; omega
        · rw [if_neg c2, br_d]
          by_cases c3 : 0 < s.1
          · rw [if_pos c3, need_i64 (by omega) (by omega), need_i64 (by omega) (by omega), if_pos (by simp [cntB, inF, c1, c3])]
            simp; omega
          · rw [if_neg c3, need_i64 (by omega) (by omega), if_neg (by simp [cntB, inF, c2, c3])]
            simp; omega
      · rw [if_neg c1, need_i64 (by omega) (by omega), if_neg (by simp [cntB, inF, c1])]
        simp; omega) (by
      simp only [g67_0i_0, Int.toNat_natCast]
      by_cases c : g < t.length
      · rw [show min g t.length = g by omega, br_d, if_pos (by omega), need_inb (by omega) (by omega), br_eq, if_pos (by omega), if_pos c]
        simp
      · rw [show min g t.length = t.length by omega, br_d, if_neg (by omega), if_neg c, List.take_length, List.take_of_length_le (by omega)])
  have e0 : cntQ a v [] = 0 := rfl
  simp only [List.take_zero, Int.natCast_zero, Int.sub_zero, e0] at key
  unfold g67_0
  rw [bind_of key]
  by_cases c : g < t.length
  · rw [if_pos c]; simp only [bindO_s]
  · rw [if_neg c]; simp only [bindO_s]
/-- The reference's way: the last one before which there are few enough. -/
def befP (most : Bool) (g x : Int) : Bool := decide (g < x) || (!most && x == g)
theorem oth_take {l : List (List Int)} {most : Bool} {a k : Nat} {g : Int} (hk : k < l.length) : (allFrom 0 (l.take (k + 1))).countP (othB most a g) = (allFrom 0 (l.take k)).countP (othB most a g) + (if k = a then 0 else (l.getD k []).countP (befP most g)) := by
  rw [take_succ_getD [] hk, allFrom_append, List.countP_append]
  have e2 : (l.take k).length = k := by simp; omega
  rw [e2, Nat.zero_add]
  congr 1
  simp only [allFrom, List.append_nil, List.countP_map]
  by_cases c : k = a
  · rw [if_pos c, List.countP_eq_zero]
    intro x hx; simp [othB, inF, c]
  · rw [if_neg c]
    apply List.countP_congr
    intro x hx
    have : ¬ ((k : Int) = a) := by omega
    simp [othB, inF, befP, this]
theorem F72_2 {l : List (List Int)} (h : Val l) {a i : Nat} (hi : i < l.length) {most : Bool} {g v9 v10 : Int} {b : Nat} (hb : b ≤ 1000) :
    iter (fun x => g72_2 x.1 x.2.1 x.2.2.1 x.2.2.2.1 x.2.2.2.2.1 x.2.2.2.2.2.1 x.2.2.2.2.2.2.1 x.2.2.2.2.2.2.2.1 x.2.2.2.2.2.2.2.2.1) (l, (a : Int), g, most, v9, v10, (b : Int), (i : Int), (0 : Int), ()) =
      some (l, (a : Int), g, most, v9, v10, ((b + (if i = a then 0 else (l.getD i []).countP (befP most v10)) : Nat) : Int), (i : Int), ()) := by
  have hl := h.len
  have hg := h.getD i
  by_cases c : i = a
  · rw [if_pos c]
    apply iter_inr
    simp only [g72_2, Int.toNat_natCast]
    rw [need_inb (by omega) (by omega), br_d]
    by_cases c2 : (0 : Int) < (((l.getD i []).length : Nat) : Int)
    · rw [if_pos c2, br_not, br_eq, if_pos (by omega)]; rfl
    · rw [if_neg c2]; rfl
  · rw [if_neg c]
    have key := iter_count (step := fun x => g72_2 x.1 x.2.1 x.2.2.1 x.2.2.2.1 x.2.2.2.2.1 x.2.2.2.2.2.1 x.2.2.2.2.2.2.1 x.2.2.2.2.2.2.2.1 x.2.2.2.2.2.2.2.2.1) (l.getD i []).length
      (fun k => (l, (a : Int), g, most, v9, v10, ((b + ((l.getD i []).take k).countP (befP most v10) : Nat) : Int), (i : Int), (k : Int), ()))
      (b := (l, (a : Int), g, most, v9, v10, ((b + (l.getD i []).countP (befP most v10) : Nat) : Int), (i : Int), ())) (fun k hk => by
        have hc : ((l.getD i []).take k).countP (befP most v10) ≤ k := by have := List.countP_le_length (p := befP most v10) (l := (l.getD i []).take k); simp only [List.length_take] at this; omega
        simp only [g72_2, Int.toNat_natCast]
        rw [need_inb (by omega) (by omega), br_d, if_pos (by omega), br_not, br_eq, if_neg (by omega), need_inb (by omega) (by omega), need_inb (by omega) (by omega), br_d, take_succ_getD 0 hk, List.countP_append]
        by_cases c1 : v10 < (l.getD i []).getD k 0
        · have e : List.countP (befP most v10) [(l.getD i []).getD k 0] = 1 := by rw [List.countP_singleton, if_pos (by unfold befP; simp only [Bool.or_eq_true, decide_eq_true_eq]; exact .inl c1)]
          rw [if_pos c1, need_i64 (by omega) (by omega), need_i64 (by omega) (by omega), e]
          simp; omega
        · rw [if_neg c1, br_not]
          cases hm : most with
          | true =>
            have e : List.countP (befP true v10) [(l.getD i []).getD k 0] = 0 := by rw [List.countP_singleton, if_neg (by unfold befP; simp only [Bool.not_true, Bool.false_and, Bool.or_false, decide_eq_true_eq]; exact c1)]
            rw [br_t rfl, need_i64 (by omega) (by omega), e]
            simp
          | false =>
            rw [br_f rfl, need_inb (by omega) (by omega), need_inb (by omega) (by omega), br_eq]
            by_cases c2 : (l.getD i []).getD k 0 = v10
            · have e : List.countP (befP false v10) [(l.getD i []).getD k 0] = 1 := by rw [List.countP_singleton, if_pos (by simp only [befP, c2]; simp)]
              rw [if_pos c2, need_i64 (by omega) (by rw [hm] at hc; omega), need_i64 (by omega) (by omega), e]
              simp; omega
            · have e : List.countP (befP false v10) [(l.getD i []).getD k 0] = 0 := by rw [List.countP_singleton, if_neg (by simp only [befP, Bool.or_eq_true, decide_eq_true_eq, Bool.and_eq_true, beq_iff_eq]; rintro (hh | hh); exact c1 hh; exact c2 hh.2)]
              rw [if_neg c2, need_i64 (by omega) (by omega), e]
              simp) (by
        simp only [g72_2, Int.toNat_natCast]; rw [need_inb (by omega) (by omega), br_d, if_neg (by omega), List.take_length])
    simp only [List.take_zero, List.countP_nil, Nat.add_zero, Int.natCast_zero] at key
    exact key
theorem F72_1 {l : List (List Int)} (h : Val l) {a n : Nat} {most : Bool} {g v9 v10 : Int} (hn : n ≤ 100) :
    iter (fun x => g72_1 x.1 x.2.1 x.2.2.1 x.2.2.2.1 x.2.2.2.2.1 x.2.2.2.2.2.1 x.2.2.2.2.2.2.1 x.2.2.2.2.2.2.2.1) (l, (a : Int), g, most, v9, v10, (n : Int), (0 : Int), ()) =
      some (l, (a : Int), g, most, v9, v10, ((n + (allFrom 0 l).countP (othB most a v10) : Nat) : Int), ()) := by
  have hl := h.len
  have key := iter_count (step := fun x => g72_1 x.1 x.2.1 x.2.2.1 x.2.2.2.1 x.2.2.2.2.1 x.2.2.2.2.2.1 x.2.2.2.2.2.2.1 x.2.2.2.2.2.2.2.1) l.length
    (fun k => (l, (a : Int), g, most, v9, v10, ((n + (allFrom 0 (l.take k)).countP (othB most a v10) : Nat) : Int), (k : Int), ()))
    (b := (l, (a : Int), g, most, v9, v10, ((n + (allFrom 0 l).countP (othB most a v10) : Nat) : Int), ())) (fun k hk => by
      have hc : (allFrom 0 (l.take k)).countP (othB most a v10) ≤ 120 := by
        have := List.countP_le_length (p := othB most a v10) (l := allFrom 0 (l.take k))
        rw [allFrom_length] at this
        have := flat_len h k
        omega
      simp only [g72_1]
      rw [br_d, if_pos (by omega), bind_of (F72_2 h hk (by omega))]
      dsimp only
      rw [need_i64 (by omega) (by omega), oth_take hk, Nat.add_assoc]
      simp) (by simp only [g72_1]; rw [br_d, if_neg (by omega), List.take_length])
  have e0 : (allFrom 0 (l.take 0)).countP (othB most a v10) = 0 := by simp [allFrom]
  simp only [e0, Nat.add_zero, Int.natCast_zero] at key
  exact key
/-- Is the n-th gang of a field there? -/
def getB (l : List (List Int)) (a g : Nat) (most : Bool) (n : Nat) : Bool := decide (n - 1 + (allFrom 0 l).countP (othB most a ((l.getD a []).getD (n - 1) 0)) < g) && (most || decide (0 < (l.getD a []).getD (n - 1) 0))
theorem F72_eq {l : List (List Int)} (h : Val l) {a g : Nat} (ha : a < l.length) {most : Bool} {N : Nat} (hN : N ≤ (l.getD a []).length) (hh : ∀ n, 1 ≤ n → n ≤ (l.getD a []).length → (getB l a g most n = true ↔ n ≤ N)) : F72 l a g most = some ((N : Int), ()) := by
  have hl := h.len
  have hg := h.getD a
  generalize hL : (l.getD a []).length = L at *
  unfold F72
  have key := iter_find (step := fun x => g72_0 x.1 x.2.1 x.2.2.1 x.2.2.2.1 x.2.2.2.2.1) L (fun k => (l, (a : Int), (g : Int), most, (L : Int) - k, ())) (fun k => if getB l a g most (L - k) = true then some (L - k) else none) (fun n => .inl ((n : Int), ())) (b := .inr ()) (fun k hk _ => by
    have hc : ∀ v, (allFrom 0 l).countP (othB most a v) ≤ 120 := fun v => by
      have := List.countP_le_length (p := othB most a v) (l := allFrom 0 l)
      rw [allFrom_length] at this
      have := h.flat
      omega
    have e : ((L : Int) - k - 1).toNat = L - k - 1 := by omega
    have e2 : (L : Int) - k - 1 = ((L - k - 1 : Nat) : Int) := by omega
    simp only [g72_0, Int.toNat_natCast, e]
    rw [br_d, if_pos (by omega), need_inb (by omega) (by omega), need_i64 (by omega) (by omega), need_inb (by omega) (by omega), need_i64 (by omega) (by omega), e2, bind_of (F72_1 h (by omega))]
    dsimp only
    rw [br_d]
    unfold getB
    by_cases c1 : L - k - 1 + (allFrom 0 l).countP (othB most a ((l.getD a []).getD (L - k - 1) 0)) < g
    · rw [if_pos (by omega)]
      cases hm : most with
      | true =>
        rw [hm] at c1
        rw [br_t rfl, if_pos (by simp only [Bool.true_or, Bool.and_true, decide_eq_true_eq]; exact c1)]
        simp; omega
      | false =>
        rw [hm] at c1
        rw [br_f rfl, br_d]
        by_cases c2 : 0 < (l.getD a []).getD (L - k - 1) 0
        · rw [if_pos c2, if_pos (by simp only [Bool.and_eq_true, decide_eq_true_eq, Bool.or_eq_true]; exact ⟨c1, .inr c2⟩)]
          simp; omega
        · rw [if_neg c2, need_i64 (by omega) (by omega), if_neg (by simp only [Bool.and_eq_true, decide_eq_true_eq, Bool.or_eq_true]; rintro ⟨_, hh | hh⟩; cases hh; exact c2 hh)]
          simp; omega
    · rw [if_neg (by omega), need_i64 (by omega) (by omega), if_neg (by simp only [Bool.and_eq_true, decide_eq_true_eq]; rintro ⟨hh, _⟩; exact c1 hh)]
      simp; omega) (fun _ => by simp only [g72_0]; rw [br_d, if_neg (by omega)])
  simp only [Int.natCast_zero, Int.sub_zero] at key
  rw [need_inb (by omega) (by omega), Int.toNat_natCast, hL, bind_of key]
  cases hf : (List.range L).findSome? (fun k => if getB l a g most (L - k) = true then some (L - k) else none) with
  | none =>
    have : N = 0 := by
      by_cases c : N = 0
      · exact c
      · have := List.findSome?_eq_none_iff.1 hf (L - N) (by simp; omega)
        rw [show L - (L - N) = N by omega, if_pos ((hh N (by omega) hN).2 (Nat.le_refl _))] at this
        cases this
    subst this
    rfl
  | some n =>
    obtain ⟨l1, k, l2, e1, e2, e3⟩ := List.findSome?_eq_some_iff.1 hf
    by_cases c : getB l a g most (L - k) = true
    · rw [if_pos c] at e2
      cases e2
      have hk : k = l1.length := by
        have : (List.range L)[l1.length]? = some k := by rw [e1]; simp
        rw [List.getElem?_range (by have := congrArg List.length e1; simp at this; omega)] at this
        cases this; rfl
      have hkL : k < L := by have := congrArg List.length e1; simp at this; omega
      have h1 := (hh (L - k) (by omega) (by omega)).1 c
      have h2 : N ≤ L - k := by
        by_cases c2 : N ≤ L - k
        · exact c2
        · exfalso
          have hm : L - N ∈ l1 := by
            have : (List.range L)[L - N]? = some (L - N) := List.getElem?_range (by omega)
            rw [e1, List.getElem?_append_left (by omega)] at this
            exact List.mem_of_getElem? this
          have := e3 _ hm
          rw [show L - (L - N) = N by omega, if_pos ((hh N (by omega) hN).2 (Nat.le_refl _))] at this
          cases this
      have : L - k = N := by omega
      rw [this]; rfl
    · rw [if_neg c] at e2; cases e2
end Go.Proofs.Try
end
section
open Go.AM Go.Gm Go.Srt
namespace Go.Proofs.Try
set_option linter.unusedVariables false
set_option linter.unusedSimpArgs false
theorem pos_prefix : ∀ {L : List Int}, Tops.Desc L → ∀ {n : Nat}, 1 ≤ n → (n ≤ (L.filter (fun x => decide (0 < x))).length ↔ n ≤ L.length ∧ 0 < L.getD (n - 1) 0)
  | [], _, n, hn => by simp; omega
  | x :: L, hd, n, hn => by
    have hp := List.pairwise_cons.1 hd
    by_cases c : 0 < x
    · rw [List.filter_cons, if_pos (by simpa using c)]
      by_cases e : n = 1
      · subst e; simp [c]
      · have ih := pos_prefix hp.2 (n := n - 1) (by omega)
        rw [show n - 1 = (n - 1 - 1) + 1 by omega, List.getD_cons_succ]
        simp only [List.length_cons]
        omega
    · have e : (x :: L).filter (fun x => decide (0 < x)) = [] := by
        rw [List.filter_eq_nil_iff]
        intro y hy
        rcases List.mem_cons.1 hy with rfl | hy
        · simpa using c
        · have := hp.1 y hy; simp; omega
      rw [e]
      simp only [List.length_nil, List.length_cons]
      constructor
      · intro h; omega
      · intro ⟨h1, h2⟩
        exfalso
        by_cases e : n = 1
        · subst e; exact c h2
        · rw [show n - 1 = (n - 2) + 1 by omega, List.getD_cons_succ] at h2
          by_cases hk : n - 2 < L.length
          · have := hp.1 _ (getD_mem (d := 0) hk); omega
          · rw [getD_out 0 (by omega)] at h2; omega
theorem field_take (fv : Int → Int) {l : List (List Int)} (h : ∀ f ∈ l, Tops.Desc f) (a g : Nat) : (((stepsF fv l).take g).filter (inF a)).map (·.1) = (l.getD a []).take (cnt a ((stepsF fv l).take g)) := by
  rw [take_filter_prefix, List.map_take, steps_field fv h]; rfl
theorem gets_cnt {l : List (List Int)} (h : Val l) {a : Nat} {v : Int} {most : Bool} (hv : (v = 1 ∧ most = true) ∨ (v = -1 ∧ most = false)) (g : Nat) :
    cntQ a v ((stepsF (favF a v) l).take g) ≤ (l.getD a []).length ∧ ∀ n, 1 ≤ n → n ≤ (l.getD a []).length → (getB l a g most n = true ↔ n ≤ cntQ a v ((stepsF (favF a v) l).take g)) := by
  have hC := field_cnt (favF a v) h.desc a g
  have hd : Tops.Desc (l.getD a []) := by
    by_cases c : a < l.length
    · exact h.desc _ (getD_mem c)
    · rw [getD_out [] (by omega)]; exact List.Pairwise.nil
  have am : ∀ n, 1 ≤ n → n ≤ (l.getD a []).length → (n - 1 + (allFrom 0 l).countP (othB most a ((l.getD a []).getD (n - 1) 0)) < g ↔ n ≤ cnt a ((stepsF (favF a v) l).take g)) := fun n h1 h2 => by
    rw [← among h.desc hv (n := n - 1) (by omega)]; omega
  rcases hv with ⟨rfl, rfl⟩ | ⟨rfl, rfl⟩
  · have e : cntQ a 1 ((stepsF (favF a 1) l).take g) = cnt a ((stepsF (favF a 1) l).take g) := by
      unfold cntQ cnt
      congr 1
      apply List.filter_congr
      intro x _
      simp [cntB]
    rw [e]
    refine ⟨hC, fun n h1 h2 => ?_⟩
    rw [← am n h1 h2]
    unfold getB
    simp only [Bool.true_or, Bool.and_true, decide_eq_true_eq]
  · have e : cntQ a (-1) ((stepsF (favF a (-1)) l).take g) = (((l.getD a []).take (cnt a ((stepsF (favF a (-1)) l).take g))).filter (fun x => decide (0 < x))).length := by
      rw [← field_take _ h.desc, List.filter_map, List.length_map, List.filter_filter]
      unfold cntQ
      congr 1
      apply List.filter_congr
      intro x _
      simp only [cntB, Function.comp]
      rw [Bool.and_comm]
      simp
    have hd2 : Tops.Desc ((l.getD a []).take (cnt a ((stepsF (favF a (-1)) l).take g))) := hd.sublist (List.take_sublist _ _)
    rw [e]
    refine ⟨?_, fun n h1 h2 => ?_⟩
    · have := List.length_filter_le (fun x => decide (0 < x)) ((l.getD a []).take (cnt a ((stepsF (favF a (-1)) l).take g)))
      simp only [List.length_take] at this
      omega
    · rw [pos_prefix hd2 h1, List.length_take]
      unfold getB
      simp only [Bool.false_or, Bool.and_eq_true, decide_eq_true_eq]
      rw [am n h1 h2]
      constructor
      · intro ⟨q1, q2⟩
        refine ⟨by omega, ?_⟩
        rw [getD_take (by omega)]; exact q2
      · intro ⟨q1, q2⟩
        rw [getD_take (by omega)] at q2
        exact ⟨by omega, q2⟩
theorem gets_eq {l : List (List Int)} (h : Val l) {a : Nat} (ha : a < l.length) {v : Int} {most : Bool} (hv : (v = 1 ∧ most = true) ∨ (v = -1 ∧ most = false)) {g : Nat} (hg : g ≤ 200) :
    F67 l a g v = some (((cntQ a v ((stepsF (favF a v) l).take g) : Nat) : Int), ()) ∧ F72 l a g most = some (((cntQ a v ((stepsF (favF a v) l).take g) : Nat) : Int), ()) := by
  have hc := gets_cnt h hv (a := a) g
  exact ⟨F67_eq h a (by omega) hg, F72_eq h ha hc.1 hc.2⟩
theorem F71_in {l : Gs} (hl : l.length ≤ 12) (ht : ∀ t ∈ l, t.length ≤ 10) (hi : Bool) {i n : Nat} (h : i < l.length) {b0 : List (List Int)} :
    iter (fun x => g71_1 x.1 x.2.1 x.2.2.1 x.2.2.2.1 x.2.2.2.2.1 x.2.2.2.2.2.1 x.2.2.2.2.2.2.1 x.2.2.2.2.2.2.2.1) (l, hi, n, (i : Int), 0, (0 : Int), b0, [], ()) = some (l, hi, n, (i : Int), (l.getD i []).length, b0, (l.getD i []).map (fun s => if hi = true then s.2 else s.1), ()) := by
  have hlen := ht _ (getD_mem (d := []) h)
  have key := iter_count (step := fun x => g71_1 x.1 x.2.1 x.2.2.1 x.2.2.2.1 x.2.2.2.2.1 x.2.2.2.2.2.1 x.2.2.2.2.2.2.1 x.2.2.2.2.2.2.2.1) (l.getD i []).length
    (fun k => (l, hi, n, (i : Int), k, (k : Int), b0, ((l.getD i []).take k).map (fun s => if hi = true then s.2 else s.1), ())) (b := (l, hi, n, (i : Int), (l.getD i []).length, b0, (l.getD i []).map (fun s => if hi = true then s.2 else s.1), ())) (fun k hk => by
      simp only [g71_1, Int.toNat_natCast]
      rw [need_inb (by omega) (by omega), br_d, if_pos (by omega), take_succ_getD (0, 0) hk]
      cases hi with
      | true =>
        rw [br_t rfl, need_inb (by omega) (by omega), need_inb (by omega) (by omega), need_big (by simp; omega), need_i64 (by omega) (by omega)]
        simp
        rw [List.take_of_length_le (by simp; omega)]
      | false =>
        rw [br_f rfl, need_inb (by omega) (by omega), need_inb (by omega) (by omega), need_big (by simp; omega), need_i64 (by omega) (by omega)]
        simp
        rw [List.take_of_length_le (by simp; omega)]) (by
      simp only [g71_1, Int.toNat_natCast]; rw [need_inb (by omega) (by omega), br_d, if_neg (by omega), List.take_length])
  simp only [List.take_zero, List.map_nil, Int.natCast_zero] at key
  exact key
theorem F71_eq {l : Gs} (hl : l.length ≤ 12) (ht : ∀ t ∈ l, t.length ≤ 10) (hi : Bool) : F71 l hi = some (l.map (fun t => t.map (fun s => if hi = true then s.2 else s.1)), ()) := by
  unfold F71
  have key := iter_count (step := fun x => g71_0 x.1 x.2.1 x.2.2.1 x.2.2.2.1 x.2.2.2.2.1) l.length (fun k => (l, hi, k, (k : Int), (l.take k).map (fun t => t.map (fun s => if hi = true then s.2 else s.1)), ())) (b := (l.length, l.map (fun t => t.map (fun s => if hi = true then s.2 else s.1)), ())) (fun k hk => by
    simp only [g71_0]
    rw [br_d, if_pos (by omega), bind_of (F71_in hl ht hi hk)]
    dsimp only
    rw [need_big (by simp; omega), need_i64 (by omega) (by omega), take_succ_getD [] hk]
    have e1 : List.take (l.getD k []).length ((l.getD k []).map (fun s => if hi = true then s.2 else s.1)) = (l.getD k []).map (fun s => if hi = true then s.2 else s.1) := List.take_of_length_le (by rw [List.length_map]; omega)
    have e2 : List.take k ((l.take k).map (fun t => t.map (fun s => if hi = true then s.2 else s.1))) = (l.take k).map (fun t => t.map (fun s => if hi = true then s.2 else s.1)) := List.take_of_length_le (by simp; omega)
    rw [List.drop_zero, List.drop_zero, List.drop_zero, e1, e2]
    simp) (by simp only [g71_0]; rw [br_d, if_neg (by omega), List.take_length])
  simp only [List.take_zero, List.map_nil, Int.natCast_zero] at key
  rw [bind_of key]
  dsimp only
  rw [List.drop_zero, List.take_of_length_le (by simp)]
theorem F71_lo {l : Gs} (hl : l.length ≤ 12) (ht : ∀ t ∈ l, t.length ≤ 10) : F71 l false = some (lows l, ()) := by rw [F71_eq hl ht]; simp [lows]
theorem F71_hi {l : Gs} (hl : l.length ≤ 12) (ht : ∀ t ∈ l, t.length ≤ 10) : F71 l true = some (highs l, ()) := by rw [F71_eq hl ht]; simp [highs]
theorem errTg_none {t : List (Int × Int)} (h : errTg t = none) : (Small (t.map (·.1)) 1000000 ∧ Tops.Desc (t.map (·.1))) ∧ (Small (t.map (·.2)) 1000000 ∧ Tops.Desc (t.map (·.2))) ∧ ∀ s ∈ t, s.1 ≤ s.2 := by
  unfold errTg at h
  rw [findSome_none] at h
  have h1 : ∀ k, k < t.length → 0 ≤ (t.getD k (0, 0)).1 ∧ (t.getD k (0, 0)).1 ≤ (t.getD k (0, 0)).2 ∧ (t.getD k (0, 0)).2 ≤ 1000000 := fun k hk => by
    have := h k hk
    unfold stopTg at this
    by_cases hh : 0 ≤ (t.getD k (0, 0)).1 ∧ (t.getD k (0, 0)).1 ≤ (t.getD k (0, 0)).2 ∧ (t.getD k (0, 0)).2 ≤ 1000000
    · exact hh
    · rw [if_pos hh] at this; cases this
  have h2 : ∀ k, k + 1 < t.length → (t.getD (k + 1) (0, 0)).1 ≤ (t.getD k (0, 0)).1 ∧ (t.getD (k + 1) (0, 0)).2 ≤ (t.getD k (0, 0)).2 := fun k hk => by
    have := h (k + 1) hk
    unfold stopTg at this
    rw [if_neg (by have := h1 (k + 1) hk; omega)] at this
    simp only [Nat.add_sub_cancel] at this
    by_cases hh : (t.getD (k + 1) (0, 0)).1 ≤ (t.getD k (0, 0)).1 ∧ (t.getD (k + 1) (0, 0)).2 ≤ (t.getD k (0, 0)).2
    · exact hh
    · rw [if_pos ⟨by omega, hh⟩] at this; cases this
  have h3 : ∀ d k, k + d < t.length → (t.getD (k + d) (0, 0)).1 ≤ (t.getD k (0, 0)).1 ∧ (t.getD (k + d) (0, 0)).2 ≤ (t.getD k (0, 0)).2 := by
    intro d
    induction d with
    | zero => intro k hk; exact ⟨Int.le_refl _, Int.le_refl _⟩
    | succ d ih => intro k hk; have := ih k (by omega); have := h2 (k + d) (by omega); rw [← Nat.add_assoc]; omega
  refine ⟨⟨fun x hx => ?_, ?_⟩, ⟨fun x hx => ?_, ?_⟩, fun s hs => ?_⟩
  · obtain ⟨s, hs, rfl⟩ := List.mem_map.1 hx
    obtain ⟨k, hk, rfl⟩ := List.mem_iff_getElem.1 hs
    have := h1 k hk
    rw [getD_el (0, 0) hk] at this; omega
  · unfold Tops.Desc
    rw [List.pairwise_map, List.pairwise_iff_getElem]
    intro i j hi hj hij
    have := (h3 (j - i) i (by omega)).1
    rwa [show i + (j - i) = j by omega, getD_el (0, 0) hi, getD_el (0, 0) hj] at this
  · obtain ⟨s, hs, rfl⟩ := List.mem_map.1 hx
    obtain ⟨k, hk, rfl⟩ := List.mem_iff_getElem.1 hs
    have := h1 k hk
    rw [getD_el (0, 0) hk] at this; omega
  · unfold Tops.Desc
    rw [List.pairwise_map, List.pairwise_iff_getElem]
    intro i j hi hj hij
    have := (h3 (j - i) i (by omega)).2
    rwa [show i + (j - i) = j by omega, getD_el (0, 0) hi, getD_el (0, 0) hj] at this
  · obtain ⟨k, hk, rfl⟩ := List.mem_iff_getElem.1 hs
    have := h1 k hk
    rw [getD_el (0, 0) hk] at this; omega
theorem chkGs_val {l : Gs} (h : chkGs l = 0) : VG l := by
  unfold chkGs errLg at h
  by_cases h0 : 12 < l.length
  · rw [if_pos h0] at h; cases h
  rw [if_neg h0] at h
  cases he : (List.range l.length).findSome? (stopLg l) with
  | some e =>
    rw [he] at h
    simp only [Option.getD] at h
    subst h
    obtain ⟨k, _, hk⟩ := List.exists_of_findSome?_eq_some he
    unfold stopLg at hk
    split at hk
    · cases hk
    · exfalso
      unfold errTg at hk
      obtain ⟨j, _, hj⟩ := List.exists_of_findSome?_eq_some hk
      unfold stopTg at hj
      split at hj
      · cases hj
      · split at hj <;> cases hj
  | none =>
    have hs := findSome_none.1 he
    have key : ∀ t ∈ l, t.length ≤ 10 ∧ errTg t = none := fun t ht => by
      obtain ⟨k, hk, rfl⟩ := List.mem_iff_getElem.1 ht
      have := hs k hk
      unfold stopLg at this
      rw [getD_el [] hk] at this
      split at this
      · cases this
      · exact ⟨by omega, this⟩
    have key2 : ∀ t ∈ l, _ := fun t ht => errTg_none (key t ht).2
    refine ⟨by omega, fun t ht => (key t ht).1, ⟨by simp [lows]; omega, ?_, ?_, ?_⟩, ⟨by simp [highs]; omega, ?_, ?_, ?_⟩, fun t ht => (key2 t ht).2.2⟩
    · intro f hf; obtain ⟨t, ht, rfl⟩ := List.mem_map.1 hf; rw [List.length_map]; exact (key t ht).1
    · intro f hf; obtain ⟨t, ht, rfl⟩ := List.mem_map.1 hf; exact (key2 t ht).1.1
    · intro f hf; obtain ⟨t, ht, rfl⟩ := List.mem_map.1 hf; exact (key2 t ht).1.2
    · intro f hf; obtain ⟨t, ht, rfl⟩ := List.mem_map.1 hf; rw [List.length_map]; exact (key t ht).1
    · intro f hf; obtain ⟨t, ht, rfl⟩ := List.mem_map.1 hf; exact (key2 t ht).2.1.1
    · intro f hf; obtain ⟨t, ht, rfl⟩ := List.mem_map.1 hf; exact (key2 t ht).2.1.2
theorem Val.set {l m : List (List Int)} (h : Val l) (hm : Val m) (a : Nat) : Val (l.set a (m.getD a [])) := by
  have key : ∀ f ∈ l.set a (m.getD a []), f ∈ l ∨ f ∈ m ∨ f = [] := fun f hf => by
    rcases List.mem_or_eq_of_mem_set hf with hf | rfl
    · exact .inl hf
    · by_cases c : a < m.length
      · exact .inr (.inl (getD_mem c))
      · exact .inr (.inr (getD_out [] (by omega)))
  refine ⟨by have := h.len; simpa using this, fun f hf => ?_, fun f hf => ?_, fun f hf => ?_⟩
  · rcases key f hf with hf | hf | rfl
    · exact h.tab f hf
    · exact hm.tab f hf
    · simp
  · rcases key f hf with hf | hf | rfl
    · exact h.sm f hf
    · exact hm.sm f hf
    · intro x hx; cases hx
  · rcases key f hf with hf | hf | rfl
    · exact h.desc f hf
    · exact hm.desc f hf
    · exact List.Pairwise.nil
/-- Shares of a field. -/
def shareOf (l : Gs) (g a : Nat) : Int × Int :=
  (((cntQ a (-1) ((stepsF (favF a (-1)) ((highs l).set a ((lows l).getD a []))).take g) : Nat) : Int), ((cntQ a 1 ((stepsF (favF a 1) ((lows l).set a ((highs l).getD a []))).take g) : Nat) : Int))
def shares (l : Gs) (g n : Nat) : List (Int × Int) := (List.range n).map (shareOf l g)
theorem shares_succ (l : Gs) (g n : Nat) : shares l g (n + 1) = shares l g n ++ [shareOf l g n] := by simp [shares, List.range_succ]
theorem shares_length (l : Gs) (g n : Nat) : (shares l g n).length = n := by simp [shares]
theorem F35_good {l : Gs} (h : VG l) (hc : chkGs l = 0) {g : Nat} (hg : g ≤ 200) : F35 l g = some (shares l g l.length, (Tops.tops (mrgAll (lows l)) g, Tops.tops (mrgAll (highs l)) g), 0, ()) := by
  have hl := h.len
  unfold F35
  rw [F62_eq, bindO_s, hc]
  dsimp only
  rw [br_not, br_t (by decide), F48_eq, bindO_s, br_not, br_t (by simp; omega)]
  have key := iter_count (step := fun x => g35_0 x.1 x.2.1 x.2.2.1 x.2.2.2.1 x.2.2.2.2.1 x.2.2.2.2.2.1 x.2.2.2.2.2.2.1 x.2.2.2.2.2.2.2.1) l.length (fun k => (l, (g : Int), k, ((l.length : Nat) : Int), (k : Int), shares l g k, (0 : Int), (0 : Int), ()))
    (b := (l, (g : Int), l.length, shares l g l.length, (0 : Int), (0 : Int), ())) (fun k hk => by
      have e1 := (gets_eq (h.hi.set h.lo k) (a := k) (by simp [highs]; omega) (v := -1) (most := false) (.inr ⟨rfl, rfl⟩) hg).1
      have e2 := (gets_eq (h.lo.set h.hi k) (a := k) (by simp [lows]; omega) (v := 1) (most := true) (.inl ⟨rfl, rfl⟩) hg).1
      simp only [g35_0]
      rw [br_d, if_pos (by omega), F64_eq h.len h.tab, bindO_s, F64_v1_eq h.len h.tab, bindO_s, turn_worst, turn_fine]
      dsimp only
      rw [e1, bindO_s, e2, bindO_s, need_big (by simp; omega), need_i64 (by omega) (by omega), shares_succ]
      simp
      exact ⟨by rw [List.take_of_length_le (by rw [shares_length]; omega)], rfl⟩) (by simp only [g35_0]; rw [br_d, if_neg (by omega)])
  have e0 : shares l g 0 = [] := rfl
  simp only [e0, Int.natCast_zero] at key
  rw [bind_of key]
  dsimp only
  rw [F64_v2_eq h.len h.tab, bindO_s]
  dsimp only
  rw [F56_eq h.lo (by omega), bindO_s, F64_v3_eq h.len h.tab, bindO_s]
  dsimp only
  rw [F56_eq h.hi (by omega), bindO_s]
  dsimp only
  rw [steps_first _ h.lo.desc, steps_first _ h.hi.desc, List.drop_zero, List.take_of_length_le (by rw [shares_length]; omega)]
theorem F36_good {l : Gs} (h : VG l) (hc : chkGs l = 0) {g : Nat} (hg : g ≤ 200) : F36 l g = some (shares l g l.length, (Tops.tops (mrgAll (lows l)) g, Tops.tops (mrgAll (highs l)) g), 0, ()) := by
  have hl := h.len
  have hlo : (lows l).length = l.length := by simp [lows]
  have hhi : (highs l).length = l.length := by simp [highs]
  unfold F36
  rw [F70_eq, bindO_s, hc]
  dsimp only
  rw [br_t (by decide), F50_eq, bindO_s, br_not, br_t (by simp; omega), br_not, br_t (by decide), F71_lo h.len h.tab, bindO_s, F71_hi h.len h.tab, bindO_s]
  dsimp only
  have key := iter_count (step := fun x => g36_0 x.1 x.2.1 x.2.2.1 x.2.2.2.1 x.2.2.2.2.1 x.2.2.2.2.2.1 x.2.2.2.2.2.2.1 x.2.2.2.2.2.2.2.1 x.2.2.2.2.2.2.2.2.1) l.length (fun k => (l, (g : Int), k, lows l, highs l, (k : Int), (0 : Int), (0 : Int), shares l g k, ()))
    (b := ((g : Int), l.length, lows l, highs l, (0 : Int), (0 : Int), shares l g l.length, ())) (fun k hk => by
      have e1 := (gets_eq (h.hi.set h.lo k) (a := k) (by simp [highs]; omega) (v := -1) (most := false) (.inr ⟨rfl, rfl⟩) hg).2
      have e2 := (gets_eq (h.lo.set h.hi k) (a := k) (by simp [lows]; omega) (v := 1) (most := true) (.inl ⟨rfl, rfl⟩) hg).2
      simp only [g36_0, Int.toNat_natCast, Nat.zero_add]
      rw [br_d, if_pos (by omega), need_big (by omega), need_big (by omega), need_inb (by omega) (by omega), need_inb (by omega) (by omega), need_inb (by omega) (by omega), need_d (by simp; omega), need_inb (by omega) (by omega), need_d (by simp; omega)]
      simp only [List.take_zero, List.nil_append, List.drop_zero]
      rw [List.take_of_length_le (l := (highs l).set k ((lows l).getD k [])) (by simp), List.take_of_length_le (l := (lows l).set k ((highs l).getD k [])) (by simp)]
      rw [e1, bindO_s, e2, bindO_s, need_big (by simp; omega), need_i64 (by omega) (by omega), shares_succ]
      simp
      exact ⟨by rw [List.take_of_length_le (by rw [shares_length]; omega)], rfl⟩) (by simp only [g36_0]; rw [br_d, if_neg (by omega)])
  have e0 : shares l g 0 = [] := rfl
  simp only [e0, Int.natCast_zero] at key
  rw [bind_of key]
  dsimp only
  obtain ⟨p, hp⟩ := F57_eq h.lo (g := g) (by omega)
  obtain ⟨q, hq⟩ := F57_eq h.hi (g := g) (by omega)
  rw [hp, bindO_s, hq, bindO_s]
  dsimp only
  rw [List.drop_zero, List.take_of_length_le (by rw [shares_length]; omega)]
theorem F35_36 (l : Gs) (g : Int) : ∃ s a b e, s.length ≤ 12 ∧ F35 l g = some (s, (a, b), e, ()) ∧ F36 l g = some (s, (a, b), e, ()) := by
  by_cases hc : chkGs l = 0
  · have h := chkGs_val hc
    have hl := h.len
    by_cases hg : 0 ≤ g ∧ g ≤ 200
    · obtain ⟨g, rfl⟩ : ∃ n : Nat, g = n := ⟨g.toNat, by omega⟩
      exact ⟨_, _, _, _, by rw [shares_length]; omega, F35_good h hc (by omega), F36_good h hc (by omega)⟩
    · refine ⟨[], 0, 0, 2, by simp, ?_, ?_⟩
      · unfold F35
        rw [F62_eq, bindO_s, hc]
        dsimp only
        rw [br_not, br_t (by decide), F48_eq, bindO_s, br_not, br_f (by simpa using hg)]
      · unfold F36
        rw [F70_eq, bindO_s, hc]
        dsimp only
        rw [br_t (by decide), F50_eq, bindO_s, br_not, br_f (by simpa using hg), br_not, br_f (by decide)]
  · refine ⟨[], 0, 0, chkGs l, by simp, ?_, ?_⟩
    · unfold F35
      rw [F62_eq, bindO_s]
      dsimp only
      rw [br_not, br_eq, if_neg hc]
    · unfold F36
      rw [F70_eq, bindO_s]
      dsimp only
      rw [br_eq, if_neg hc, br_not, br_eq, if_neg hc]
theorem F38_self {l : List (Int × Int)} (h : l.length ≤ 1000000) : F38 l l = some (true, ()) := by
  unfold F38
  rw [br_not, br_t (by simp)]
  have key := iter_count (step := fun x => g38_0 x.1 x.2.1 x.2.2.1) l.length (fun k => (l, l, (k : Int), ())) (b := .inr ()) (fun k hk => by
    simp only [g38_0, Int.toNat_natCast]
    rw [br_d, if_pos (by omega), need_inb (by omega) (by omega), need_inb (by omega) (by omega), br_not, br_t (by simp), need_i64 (by omega) (by omega)]
    simp) (by simp only [g38_0]; rw [br_d, if_neg (by omega)])
  simp only [Int.natCast_zero] at key
  rw [bind_of key]
theorem F37_eq {l : Gs} (h : l.length ≤ 30) : F37 l = some (l, ()) := by
  unfold F37
  have key := iter_count (step := fun x => g37_0 x.1 x.2.1 x.2.2.1 x.2.2.2.1) l.length (fun k => (l, k, (k : Int), l.take k, ())) (b := (l.length, l, ())) (fun k hk => by
    simp only [g37_0, Int.toNat_natCast]
    rw [br_d, if_pos (by omega), need_inb (by omega) (by omega), need_big (by simp; omega), need_i64 (by omega) (by omega), take_succ_getD [] hk]
    simp
    rw [List.take_take, Nat.min_self]) (by simp only [g37_0]; rw [br_d, if_neg (by omega), List.take_length])
  simp only [List.take_zero, Int.natCast_zero] at key
  rw [bind_of key]
  simp
/-- GangShares, as a plain law. -/
theorem law7 (l : Gs) (g : Int) : F7 l g = some (true, ()) := by
  unfold F7
  rw [br_d]
  by_cases h0 : 30 < l.length
  · rw [if_pos (by omega), F16_eq, bindO_s]
  rw [if_neg (by omega)]
  have key := iter_find (step := fun x => g7_0 x.1 x.2.1 x.2.2.1) l.length (fun k => (l, g, (k : Int), ())) (fun k => if 30 < (l.getD k []).length then some 1 else none) (fun (e : Nat) => .inl (true, ())) (b := .inr (l, g, ())) (fun k hk _ => by
    simp only [g7_0, Int.toNat_natCast]
    rw [br_d, if_pos (by omega), need_inb (by omega) (by omega), br_d]
    by_cases h1 : 30 < (l.getD k []).length
    · rw [if_pos (by omega), if_pos h1, F16_eq, bindO_s]
    · rw [if_neg (by omega), if_neg h1, need_i64 (by omega) (by omega)]; simp) (fun _ => by simp only [g7_0]; rw [br_d, if_neg (by omega)])
  simp only [Int.natCast_zero] at key
  rw [bind_of key]
  cases (List.range l.length).findSome? (fun k => if 30 < (l.getD k []).length then some 1 else none) with
  | some e => rfl
  | none =>
    obtain ⟨s, a, b, e, hs, e1, e2⟩ := F35_36 l g
    simp only [Option.elim]
    rw [e1, bindO_s, F37_eq (by omega), bindO_s, e2, bindO_s]
    dsimp only
    rw [F38_self (by omega), bindO_s, br_t rfl, br_t (by simp), br_t (by simp), F16_eq, bindO_s]
end Go.Proofs.Try
end
