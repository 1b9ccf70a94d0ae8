/- What the plain functions of gang and its reference come to. Check of fields: the program and its reference find the same first error. Sums and the sugar of plans: the program and its reference count the same. The steps of fields in order, and best plans. The reference's best plans: field by field, for each number of gangs. What the laws share: given, large, works; the plan of a best one. Bounds of wages, wages, and what they prove. Valleys by numbers are valid fields; all plans, and their sugar. All plans of small fields, and the sugar of each. Verify, and lists that are equal. GangBest, as a plain law. -/
import Derived.Test.YtigglifniejbpaaX8
set_option linter.unusedVariables false
set_option linter.unusedSimpArgs false
section
open Go.AM
namespace Go.Proofs.Try
set_option linter.unusedVariables false
set_option linter.unusedSimpArgs false
theorem F48_eq (a b c : Int) : F48 a b c = some (decide (a ≤ b) && decide (b ≤ c), ()) := by
  unfold F48; rw [br_d]; by_cases h : a ≤ b <;> simp [h]
theorem F53_eq (a : Int) : F53 a = some (decide (0 ≤ a) && decide (a ≤ 1000000), ()) := by
  unfold F53; rw [F48_eq, bindO_s]
/-- The sum of the first numbers. -/
def sumN (l : List Int) (k : Nat) : Int := (l.take k).sum
theorem sumN_succ {l : List Int} {k : Nat} (h : k < l.length) : sumN l (k + 1) = sumN l k + l.getD k 0 := by
  unfold sumN
  rw [List.take_succ_eq_append_getElem h, List.sum_append]
  simp [List.getD, h]
theorem sumN_bound {l : List Int} {c : Int} (hc : 0 ≤ c) (hb : ∀ x ∈ l, 0 ≤ x ∧ x ≤ c) (k : Nat) : 0 ≤ sumN l k ∧ sumN l k ≤ k * c := by
  induction k with
  | zero => simp [sumN]
  | succ k ih =>
    by_cases h : k < l.length
    · rw [sumN_succ h]
      have : l.getD k 0 ∈ l := by simp [List.getD, h]
      have := hb _ this
      rw [Int.natCast_add, Int.add_mul]
      omega
    · have : sumN l (k + 1) = sumN l k := by unfold sumN; rw [List.take_of_length_le (by omega), List.take_of_length_le (by omega)]
      rw [this, Int.natCast_add, Int.add_mul]
      omega
end Go.Proofs.Try
end
section
open Go.AM
namespace Go.Proofs.Try
set_option linter.unusedVariables false
set_option linter.unusedSimpArgs false
/-- The error of the k-th gain of a table. -/
def stopT (t : List Int) (k : Nat) : Option Int :=
  if ¬(0 ≤ t.getD k 0 ∧ t.getD k 0 ≤ 1000000) then some 2 else if 0 < k ∧ t.getD (k - 1) 0 < t.getD k 0 then some 7 else none
def errT (t : List Int) : Option Int := (List.range t.length).findSome? (stopT t)
def stopL (l : List (List Int)) (i : Nat) : Option Int := if 10 < (l.getD i []).length then some 1 else errT (l.getD i [])
def errL (l : List (List Int)) : Option Int := (List.range l.length).findSome? (stopL l)
def chk (l : List (List Int)) : Int := if 12 < l.length then 1 else (errL l).getD 0
theorem F52_in {l : List (List Int)} {t : List Int} {i : Nat} (ht : t.length ≤ 10) : iter (fun x => g52_1 x.1 x.2.1 x.2.2.1 x.2.2.2.1 x.2.2.2.2.1 x.2.2.2.2.2.1 x.2.2.2.2.2.2.1) (t, l, ((l.length : Nat) : Int), (i : Int), t, ((t.length : Nat) : Int), (0 : Int), ()) =
    some ((errT t).elim (.inr (l, ((l.length : Nat) : Int), (i : Int), ())) (fun e => .inl (e, ()))) := by
  have key := iter_find (step := fun x => g52_1 x.1 x.2.1 x.2.2.1 x.2.2.2.1 x.2.2.2.2.1 x.2.2.2.2.2.1 x.2.2.2.2.2.2.1) t.length (fun k => (t, l, ((l.length : Nat) : Int), (i : Int), t, ((t.length : Nat) : Int), (k : Int), ())) (stopT t) (fun e => .inl (e, ())) (b := .inr (l, ((l.length : Nat) : Int), (i : Int), ())) (fun k hk _ => by
    simp only [g52_1, Int.toNat_natCast]
    rw [br_d, if_pos (by omega), need_inb (by omega) (by omega), F53_eq, bindO_s, br_not]
    unfold stopT
    by_cases h1 : 0 ≤ t.getD k 0 ∧ t.getD k 0 ≤ 1000000
    · rw [if_neg (by simpa using h1), br_t (by simp only [Bool.and_eq_true, decide_eq_true_eq]; exact h1), br_d]
      by_cases h2 : 0 < k
      · have e : ((k : Int) - 1).toNat = k - 1 := by omega
        rw [if_pos (by omega), need_i64 (by omega) (by omega), need_inb (by omega) (by omega)]
        unfold F54
        rw [bindO_s, br_not, e]
        by_cases h3 : t.getD (k - 1) 0 < t.getD k 0
        · rw [if_pos ⟨h2, h3⟩, br_f (by simp only [decide_eq_false_iff_not]; omega)]
        · rw [if_neg (fun h => h3 h.2), br_t (by simp only [decide_eq_true_eq]; omega), need_i64 (by omega) (by omega)]
          simp
      · rw [if_neg (by omega), if_neg (fun h => h2 h.1), need_i64 (by omega) (by omega)]
        simp
    · rw [if_pos h1, br_f (by simpa using h1)]) (fun _ => by simp only [g52_1]; rw [br_d, if_neg (by omega)])
  simpa only [Int.natCast_zero, errT] using key
theorem F52_eq {l : List (List Int)} : F52 l = some (chk l, ()) := by
  unfold F52 chk
  rw [br_d]
  by_cases h0 : 12 < l.length
  · rw [if_pos (by omega), if_pos h0]
  · rw [if_neg (by omega), if_neg h0]
    have key := iter_find (step := fun x => g52_0 x.1 x.2.1 x.2.2.1) l.length (fun k => (l, ((l.length : Nat) : Int), (k : Int), ())) (stopL l) (fun e => .inl (e, ())) (b := .inr ()) (fun k hk _ => by
      simp only [g52_0, Int.toNat_natCast]
      rw [br_d, if_pos (by omega), need_inb (by omega) (by omega), br_d]
      unfold stopL
      by_cases h1 : 10 < (l.getD k []).length
      · rw [if_pos (by omega), if_pos h1]
      · rw [if_neg (by omega), if_neg h1, F52_in (by omega), bindO_s]
        cases errT (l.getD k []) with
        | some e => rfl
        | none =>
          simp only [Option.elim]
          rw [need_i64 (by omega) (by omega)]
          simp) (fun _ => by simp only [g52_0]; rw [br_d, if_neg (by omega)])
    simp only [Int.natCast_zero] at key
    rw [bind_of key]
    unfold errL
    cases (List.range l.length).findSome? (stopL l) <;> rfl
theorem F20_eq {l : List (List Int)} : F20 l = some (chk l, ()) := by
  unfold F20; rw [F52_eq, bindO_s]
end Go.Proofs.Try
end
section
open Go.AM Go.Gm
namespace Go.Proofs.Try
set_option linter.unusedVariables false
set_option linter.unusedSimpArgs false
/-- Small numbers. -/
def Small (l : List Int) (c : Int) : Prop := ∀ x ∈ l, 0 ≤ x ∧ x ≤ c
/-- What is so of valid fields. -/
structure Val (l : List (List Int)) : Prop where
  len : l.length ≤ 12
  tab : ∀ f ∈ l, f.length ≤ 10
  sm : ∀ f ∈ l, Small f 1000000
  desc : ∀ f ∈ l, Tops.Desc f
theorem findSome_none {n : Nat} {f : Nat → Option Int} : (List.range n).findSome? f = none ↔ ∀ k, k < n → f k = none := by
  rw [List.findSome?_eq_none_iff]; simp
theorem errT_none {t : List Int} : errT t = none ↔ Small t 1000000 ∧ Tops.Desc t := by
  unfold errT
  rw [findSome_none]
  constructor
  · intro h
    have h1 : ∀ k, k < t.length → 0 ≤ t.getD k 0 ∧ t.getD k 0 ≤ 1000000 := fun k hk => by
      have := h k hk
      unfold stopT at this
      by_cases hh : 0 ≤ t.getD k 0 ∧ t.getD k 0 ≤ 1000000
      · exact hh
      · rw [if_pos hh] at this; cases this
    have h2 : ∀ k, k + 1 < t.length → t.getD (k + 1) 0 ≤ t.getD k 0 := fun k hk => by
      have := h (k + 1) hk
      unfold stopT at this
      rw [if_neg (by have := h1 (k + 1) hk; omega)] at this
      by_cases hh : 0 < k + 1 ∧ t.getD (k + 1 - 1) 0 < t.getD (k + 1) 0
      · rw [if_pos hh] at this; cases this
      · simp only [Nat.add_sub_cancel] at hh; omega
    have h3 : ∀ d k, k + d < t.length → t.getD (k + d) 0 ≤ t.getD k 0 := by
      intro d
      induction d with
      | zero => intro k hk; exact Int.le_refl _
      | succ d ih => intro k hk; have := ih k (by omega); have := h2 (k + d) (by omega); rw [← Nat.add_assoc]; omega
    constructor
    · intro x hx
      obtain ⟨k, hk, rfl⟩ := List.mem_iff_getElem.1 hx
      have := h1 k hk
      rwa [getD_el 0 hk] at this
    · unfold Tops.Desc
      rw [List.pairwise_iff_getElem]
      intro i j hi hj hij
      have := h3 (j - i) i (by omega)
      rw [show i + (j - i) = j by omega, getD_el 0 hi, getD_el 0 hj] at this
      exact this
  · intro ⟨h1, h2⟩ k hk
    unfold stopT
    have a := h1 _ (getD_mem (d := 0) hk)
    rw [if_neg (by omega)]
    by_cases h0 : 0 < k
    · have := (List.pairwise_iff_getElem.1 h2) (k - 1) k (by omega) hk (by omega)
      rw [getD_el 0 hk, getD_el 0 (show k - 1 < t.length by omega), if_neg (by omega)]
    · rw [if_neg (by omega)]
theorem errT_ne {t : List Int} {e : Int} (h : errT t = some e) : e ≠ 0 := by
  unfold errT at h
  obtain ⟨k, _, hk⟩ := List.exists_of_findSome?_eq_some h
  unfold stopT at hk
  split at hk
  · cases hk; decide
  · split at hk
    · cases hk; decide
    · cases hk
theorem chk_val {l : List (List Int)} : chk l = 0 ↔ Val l := by
  unfold chk errL
  constructor
  · intro h
    by_cases h0 : 12 < l.length
    · rw [if_pos h0] at h; cases h
    rw [if_neg h0] at h
    cases he : (List.range l.length).findSome? (stopL l) with
    | some e =>
      rw [he] at h
      simp only [Option.getD] at h
      subst h
      obtain ⟨k, _, hk⟩ := List.exists_of_findSome?_eq_some he
      unfold stopL at hk
      split at hk
      · cases hk
      · exact absurd rfl (errT_ne hk)
    | none =>
      have hs := findSome_none.1 he
      have key : ∀ f ∈ l, f.length ≤ 10 ∧ Small f 1000000 ∧ Tops.Desc f := fun f hf => by
        obtain ⟨k, hk, rfl⟩ := List.mem_iff_getElem.1 hf
        have := hs k hk
        unfold stopL at this
        rw [getD_el [] hk] at this
        split at this
        · cases this
        · exact ⟨by omega, errT_none.1 this⟩
      exact ⟨by omega, fun f hf => (key f hf).1, fun f hf => (key f hf).2.1, fun f hf => (key f hf).2.2⟩
  · intro h
    rw [if_neg (by have := h.len; omega)]
    have : (List.range l.length).findSome? (stopL l) = none := findSome_none.2 fun k hk => by
      unfold stopL
      have hm := getD_mem (d := []) hk
      rw [if_neg (by have := h.tab _ hm; omega), errT_none.2 ⟨h.sm _ hm, h.desc _ hm⟩]
    rw [this]; rfl
theorem Val.getD {l : List (List Int)} (h : Val l) (k : Nat) : (l.getD k []).length ≤ 10 ∧ Small (l.getD k []) 1000000 := by
  by_cases hk : k < l.length
  · exact ⟨h.tab _ (getD_mem hk), h.sm _ (getD_mem hk)⟩
  · rw [getD_out [] (by omega)]; exact ⟨by simp, fun x hx => by cases hx⟩
theorem sumN_le {l : List Int} {c : Int} (hc : 0 ≤ c) (hb : Small l c) (k : Nat) : 0 ≤ sumN l k ∧ sumN l k ≤ l.length * c := by
  by_cases h : k ≤ l.length
  · have := sumN_bound hc hb k
    have h2 : (k : Int) * c ≤ l.length * c := Int.mul_le_mul_of_nonneg_right (by omega) hc
    omega
  · have e : sumN l k = sumN l l.length := by unfold sumN; rw [List.take_of_length_le (by omega), List.take_of_length_le (Nat.le_refl _)]
    rw [e]; exact sumN_bound hc hb l.length
theorem Val.sumN {l : List (List Int)} (h : Val l) (k j : Nat) : 0 ≤ sumN (l.getD k []) j ∧ sumN (l.getD k []) j ≤ 10000000 := by
  have := sumN_le (by omega) (h.getD k).2 j
  have := (h.getD k).1
  omega
/-- The sugar of a plan, and how many gangs it has. -/
def stopP (l : List (List Int)) (p : List Int) (k : Nat) : Option Int := if 0 ≤ p.getD k 0 ∧ p.getD k 0 ≤ ((l.getD k []).length : Nat) then none else some 10
def sug (l : List (List Int)) (p : List Int) : Int × Int × Int :=
  if chk l ≠ 0 then (0, 0, chk l) else if p.length ≠ l.length then (0, 0, 3) else
    match (List.range p.length).findSome? (stopP l p) with
    | some e => (0, 0, e)
    | none => (p.sum, sumR p.length (fun i => sumN (l.getD i []) (p.getD i 0).toNat), 0)
theorem stopP_none {l : List (List Int)} {p : List Int} {k : Nat} : stopP l p k = none ↔ 0 ≤ p.getD k 0 ∧ p.getD k 0 ≤ ((l.getD k []).length : Nat) := by
  unfold stopP; split <;> simp_all
theorem sugR_bound {l : List (List Int)} (h : Val l) (p : List Int) (n : Nat) (hn : n ≤ 12) : 0 ≤ sumR n (fun i => sumN (l.getD i []) (p.getD i 0).toNat) ∧ sumR n (fun i => sumN (l.getD i []) (p.getD i 0).toNat) ≤ 120000000 := by
  have := sumR_bound (n := n) (c := 10000000) (fun i _ => h.sumN i (p.getD i 0).toNat)
  omega
end Go.Proofs.Try
end
section
open Go.AM Go.Gm Go.Srt
namespace Go.Proofs.Try
set_option linter.unusedVariables false
set_option linter.unusedSimpArgs false
theorem F76_3 (a b c : Int) : F76 [a, b, c] = some (if a ≠ 0 then a else if b ≠ 0 then b else c, ()) := by
  unfold F76
  have key := iter_find (step := fun x => g76_0 x.1 x.2.1 x.2.2.1 x.2.2.2.1) 3 (fun k => ((0 : Int), ([a, b, c], ((3 : Int), ((k : Int), ()))))) (fun k => if [a, b, c].getD k 0 ≠ 0 then some ([a, b, c].getD k 0) else none) (fun e => .inl (e, ())) (b := .inr (0, ())) (fun k hk _ => by
    simp only [g76_0, Int.toNat_natCast]
    rw [br_d, if_pos (by omega), need_inb (by omega) (by simp; omega), br_not, br_eq]
    by_cases h : [a, b, c].getD k 0 = 0
    · rw [if_pos h, if_neg (by simpa using h), need_i64 (by omega) (by omega)]; simp
    · rw [if_neg h, if_pos h]) (fun _ => by simp only [g76_0]; rw [br_d, if_neg (by omega)])
  have q : iter (fun x => g76_0 x.1 x.2.1 x.2.2.1 x.2.2.2.1) ((0 : Int), ([a, b, c], (((([a, b, c]).length : Nat) : Int), ((0 : Int), ())))) = _ := key
  rw [bind_of q]
  have e : List.range 3 = [0, 1, 2] := by decide
  rw [e]
  by_cases ha : a = 0
  · by_cases hb : b = 0
    · by_cases hc : c = 0 <;> simp [ha, hb, hc]
    · simp [ha, hb]
  · simp [ha]
/-- Steps that are small enough. -/
def GoodS (s : Int × Int) : Prop := (0 ≤ s.1 ∧ s.1 ≤ 1000000) ∧ (0 ≤ s.2 ∧ s.2 ≤ 1000)
theorem ltF_z {fv : Int → Int} {a b : Int × Int} (f1 : -1000 ≤ fv a.2 ∧ fv a.2 ≤ 1000) (f2 : -1000 ≤ fv b.2 ∧ fv b.2 ≤ 1000) :
    ltF fv a b = decide ((if b.1 - a.1 ≠ 0 then b.1 - a.1 else if fv b.2 - fv a.2 ≠ 0 then fv b.2 - fv a.2 else a.2 - b.2) < 0) := by
  unfold ltF
  rw [Bool.eq_iff_iff]
  simp only [Bool.or_eq_true, Bool.and_eq_true, decide_eq_true_eq, beq_iff_eq]
  by_cases h1 : b.1 - a.1 = 0
  · by_cases h2 : fv b.2 - fv a.2 = 0
    · rw [if_neg (by omega), if_neg (by omega)]; omega
    · rw [if_neg (by omega), if_pos (by omega)]; omega
  · rw [if_pos (by omega)]; omega
theorem F75_ok : CmpOk F75 (ltF fun _ => 0) GoodS := ⟨ltF_ord _, fun a b ha hb => by
  obtain ⟨⟨a1, a2⟩, a3, a4⟩ := ha
  obtain ⟨⟨b1, b2⟩, b3, b4⟩ := hb
  unfold F75 F59
  by_cases h : a = b
  · subst h
    refine ⟨0, ?_, ?_⟩
    · rw [br_t (by simp)]
    · simp [ltF]
  · have hne : ((a.1 == b.1) && ((a.2 == b.2) && true)) = false := by
      cases hc : ((a.1 == b.1) && ((a.2 == b.2) && true)) with
      | false => rfl
      | true => exact absurd (Prod.ext_iff.2 (by simpa using hc)) h
    refine ⟨_, ?_, ltF_z (by omega) (by omega)⟩
    rw [br_f hne, need_i64 (by omega) (by omega), bindO_s, bindO_s, need_i64 (by omega) (by omega), need_i64 (by omega) (by omega)]
    have := F76_3 (b.1 - a.1) ((0 : Int) - 0) (a.2 - b.2)
    simp only [List.drop_zero]
    rw [show List.take 3 [b.1 - a.1, (0 : Int) - 0, a.2 - b.2] = [b.1 - a.1, (0 : Int) - 0, a.2 - b.2] by rfl, this, bindO_s]⟩
theorem FH74_eq (n : Nat) (l : List (Int × Int)) : FH74_v1 n l = S74 F75 (0, 0) n l := rfl
theorem allFrom_good {l : List (List Int)} (h : Val l) {s : Int × Int} (hs : s ∈ allFrom 0 l) : GoodS s := by
  obtain ⟨j, h1, h2, h3⟩ := allFrom_mem hs
  have hl := h.len
  have := (h.getD j).2 _ h3
  exact ⟨this, by rw [h2]; omega⟩
theorem flat_len {l : List (List Int)} (h : Val l) (k : Nat) : (l.take k).flatten.length ≤ k * 10 := by
  induction k with
  | zero => simp
  | succ k ih =>
    by_cases hk : k < l.length
    · rw [take_succ_getD [] hk, List.flatten_append, List.length_append]
      have := (h.getD k).1
      simp only [List.flatten_cons, List.flatten_nil, List.append_nil]; omega
    · rw [List.take_of_length_le (by omega)] at ih ⊢; omega
theorem Val.flat {l : List (List Int)} (h : Val l) : l.flatten.length ≤ 120 := by
  have := flat_len h l.length
  rw [List.take_length] at this
  have := h.len; omega
theorem F58_in {l : List (List Int)} {f : List Int} {base : List (Int × Int)} {i : Nat} (hi : i < 1000) (hf : f.length ≤ 10) (hb : base.length ≤ 1000) :
    iter (fun x => g58_1 x.1 x.2.1 x.2.2.1 x.2.2.2.1 x.2.2.2.2.1 x.2.2.2.2.2.1 x.2.2.2.2.2.2.1 x.2.2.2.2.2.2.2.1 x.2.2.2.2.2.2.2.2.1) (base.length, ((i : Int), (l, (((l.length : Nat) : Int), ((i : Int), (f, (((f.length : Nat) : Int), ((0 : Int), (base, ()))))))))) =
    some ((base ++ f.map (fun g => (g, (i : Int)))).length, (l, (((l.length : Nat) : Int), ((i : Int), (base ++ f.map (fun g => (g, (i : Int))), ()))))) := by
  have key := iter_count (step := fun x => g58_1 x.1 x.2.1 x.2.2.1 x.2.2.2.1 x.2.2.2.2.1 x.2.2.2.2.2.1 x.2.2.2.2.2.2.1 x.2.2.2.2.2.2.2.1 x.2.2.2.2.2.2.2.2.1) f.length
    (fun k => ((base ++ (f.take k).map (fun g => (g, (i : Int)))).length, ((i : Int), (l, (((l.length : Nat) : Int), ((i : Int), (f, (((f.length : Nat) : Int), ((k : Int), (base ++ (f.take k).map (fun g => (g, (i : Int))), ()))))))))) )
    (b := ((base ++ f.map (fun g => (g, (i : Int)))).length, (l, (((l.length : Nat) : Int), ((i : Int), (base ++ f.map (fun g => (g, (i : Int))), ())))))) (fun k hk => by
      simp only [g58_1, Int.toNat_natCast]
      rw [br_d, if_pos (by omega), need_inb (by omega) (by omega), need_big (by simp; omega), need_i64 (by omega) (by omega), take_succ_getD 0 hk]
      simp
      exact ⟨by omega, by rw [List.take_of_length_le (by simp)]; simp⟩) (by
      simp only [g58_1]; rw [br_d, if_neg (by omega), List.take_length])
  simp only [List.take_zero, List.map_nil, List.append_nil, Int.natCast_zero] at key
  exact key
theorem F58_eq {l : List (List Int)} (h : Val l) : F58 l = some (stepsF (fun _ => 0) l, ()) := by
  have hl := h.len
  have hfl := h.flat
  have key := iter_count (step := fun x => g58_0 x.1 x.2.1 x.2.2.1 x.2.2.2.1 x.2.2.2.2.1) l.length
    (fun k => ((allFrom 0 (l.take k)).length, (l, (((l.length : Nat) : Int), ((k : Int), (allFrom 0 (l.take k), ()))))))
    (b := ((allFrom 0 l).length, (allFrom 0 l, ()))) (fun k hk => by
      have e := allFrom_append 0 (l.take k) [l.getD k []]
      rw [← take_succ_getD [] hk] at e
      have hlen : (allFrom 0 (l.take k)).length ≤ 120 := by rw [allFrom_length]; have := flat_len h k; omega
      have e2 : (l.take k).length = k := by simp; omega
      rw [e2, Nat.zero_add] at e
      simp only [allFrom, List.append_nil] at e
      simp only [g58_0, Int.toNat_natCast]
      rw [br_d, if_pos (by omega), need_inb (by omega) (by omega), bind_of (F58_in (l := l) (f := l.getD k []) (by omega) (h.getD k).1 (by omega))]
      dsimp only
      rw [need_i64 (by omega) (by omega), e]
      simp) (by simp only [g58_0]; rw [br_d, if_neg (by omega), List.take_length])
  simp only [List.take_zero, allFrom, List.length_nil, Int.natCast_zero] at key
  unfold F58
  rw [bind_of key]
  dsimp only
  rw [FH74_eq, S74_ok F75_ok (fun z hz => allFrom_good h hz) rfl (by rw [allFrom_length]; omega), bindO_s]
  unfold F77
  rw [bindO_s]
  have : List.take (allFrom 0 l).length (srt (ltF fun _ => 0) (allFrom 0 l)) = srt (ltF fun _ => 0) (allFrom 0 l) := List.take_of_length_le (by rw [srt_length]; omega)
  simp only [List.drop_zero]
  rw [this]
  rfl
/-- How many of some steps each field has. -/
def planOf (n : Nat) (t : List (Int × Int)) : List Int := (List.range n).map fun j => ((cnt j t : Nat) : Int)
theorem planOf_length (n : Nat) (t : List (Int × Int)) : (planOf n t).length = n := by simp [planOf]
theorem planOf_getD {n j : Nat} (t : List (Int × Int)) (h : j < n) : (planOf n t).getD j 0 = ((cnt j t : Nat) : Int) := by
  simp [planOf, List.getD_eq_getElem?_getD, h]
theorem planOf_nil (n : Nat) : planOf n [] = List.replicate n 0 := by
  apply List.ext_getElem
  · simp [planOf]
  · intro i h1 h2; simp [planOf, cnt]
theorem planOf_snoc {n j : Nat} (t : List (Int × Int)) {s : Int × Int} (h : j < n) (e : s.2 = (j : Nat)) : planOf n (t ++ [s]) = (planOf n t).set j ((planOf n t).getD j 0 + 1) := by
  rw [planOf_getD t h]
  apply List.ext_getElem
  · simp [planOf]
  · intro i h1 h2
    rw [List.getElem_set]
    simp only [planOf, List.getElem_map, List.getElem_range, cnt_snoc, e]
    by_cases hh : j = i
    · subst hh; simp
    · rw [if_neg hh, if_neg (by omega)]; simp
theorem steps_good {l : List (List Int)} (h : Val l) (fv : Int → Int) {s : Int × Int} (hs : s ∈ stepsF fv l) : GoodS s := allFrom_good h ((stepsF_perm fv l).mem_iff.1 hs)
theorem steps_len {l : List (List Int)} (h : Val l) (fv : Int → Int) : (stepsF fv l).length ≤ 120 := by rw [stepsF_length]; exact h.flat
theorem gsum_bound {t : List (Int × Int)} (h : ∀ s ∈ t, GoodS s) : 0 ≤ gsum t ∧ gsum t ≤ t.length * 1000000 := by
  have := sumN_bound (l := t.map (·.1)) (c := 1000000) (by omega) (fun x hx => by obtain ⟨s, hs, rfl⟩ := List.mem_map.1 hx; exact (h s hs).1) t.length
  unfold sumN at this
  rwa [List.take_of_length_le (by simp)] at this
theorem cnt_le (j : Nat) (t : List (Int × Int)) : cnt j t ≤ t.length := List.length_filter_le ..
theorem F56_in {n g : Nat} {t : List (Int × Int)} (hg : ∀ s ∈ t, GoodS s) (hj : ∀ s ∈ t, ∃ j, j < n ∧ s.2 = (j : Nat)) (ht : t.length ≤ 1000) (hgg : g ≤ 1000) :
    bindO (g56_0 t (g : Int) n 0 (List.replicate n 0)) (fun z4 => match z4 with
      | .inl z5 => some ((((z5.2.2.1).drop (0 : Nat)).take z5.1), (z5.2.1, ()))
      | .inr z6 => some ((((z6.2.2.1).drop (0 : Nat)).take z6.1), (z6.2.1, ()))) = some (planOf n (t.take g), (gsum (t.take g), ())) := by
  have key := iter_count (step := fun x => g56_0i_0 x.1 x.2.1 x.2.2.1 x.2.2.2.1 x.2.2.2.2.1 x.2.2.2.2.2.1 x.2.2.2.2.2.2.1 x.2.2.2.2.2.2.2.1) (min g t.length)
    (fun k => (t, (((t.length : Nat) : Int), ((k : Int), (t, (((g : Int) - k), (n, (gsum (t.take k), (planOf n (t.take k), ())))))))))
    (b := if g < t.length then .inl (0, (n, (gsum (t.take g), (t, (planOf n (t.take g), ()))))) else .inr ((g : Int) - t.length, (n, (gsum (t.take g), (t, (planOf n (t.take g), ())))))) (fun k hk => by
      have hkt : k < t.length := by omega
      have hm := getD_mem (d := ((0 : Int), (0 : Int))) hkt
      obtain ⟨j, hj1, hj2⟩ := hj _ hm
      have hgs := hg _ hm
      have hb := gsum_bound (t := t.take k) (fun s hs => hg s (List.mem_of_mem_take hs))
      have hc := cnt_le j (t.take k)
      simp only [List.length_take] at hb hc
      simp only [g56_0i_0, Int.toNat_natCast]
      rw [br_d, if_pos (by omega), need_inb (by omega) (by omega), br_eq, if_neg (by omega), need_i64 (by omega) (by omega)]
      simp only [hj2, Int.toNat_natCast, Nat.zero_add]
      rw [need_inb (by omega) (by omega), need_d (by rw [planOf_length]; omega), need_i64 (by rw [planOf_getD _ hj1]; omega) (by rw [planOf_getD _ hj1]; omega), need_inb (by omega) (by omega), need_d (by rw [planOf_length]; omega), need_i64 (by have := hgs.1; omega) (by have := hgs.1; omega), need_i64 (by omega) (by omega)]
      rw [take_succ_getD (0, 0) hkt, gsum_snoc, planOf_snoc _ hj1 hj2]
      rw [show (g : Int) - ((k + 1 : Nat) : Int) = (g : Int) - k - 1 by omega, show ((k + 1 : Nat) : Int) = (k : Int) + 1 by omega]) (by
      simp only [g56_0i_0, Int.toNat_natCast]
      by_cases c : g < t.length
      · rw [show min g t.length = g by omega, br_d, if_pos (by omega), need_inb (by omega) (by omega), br_eq, if_pos (by omega), if_pos c]
        simp
      · rw [show min g t.length = t.length by omega, br_d, if_neg (by omega), if_neg c, List.take_length, List.take_of_length_le (by omega)])
  simp only [List.take_zero, Int.natCast_zero, Int.sub_zero, planOf_nil] at key
  have e0 : gsum [] = 0 := rfl
  rw [e0] at key
  unfold g56_0
  rw [bind_of key]
  have hp : List.take n (planOf n (t.take g)) = planOf n (t.take g) := List.take_of_length_le (by rw [planOf_length]; omega)
  by_cases c : g < t.length
  · rw [if_pos c]; simp only [bindO_s, List.drop_zero, hp]
  · rw [if_neg c]; simp only [bindO_s, List.drop_zero, hp]
theorem F56_eq {l : List (List Int)} (h : Val l) {g : Nat} (hg : g ≤ 1000) : F56 l g = some (planOf l.length ((stepsF (fun _ => 0) l).take g), (gsum ((stepsF (fun _ => 0) l).take g), ())) := by
  have hl := h.len
  have := steps_len h (fun _ => 0)
  unfold F56
  rw [need_inbL (by omega) (by omega), F58_eq h, bindO_s]
  simp only [Int.toNat_natCast]
  exact F56_in (fun s hs => steps_good h _ hs) (fun s hs => steps_fields _ hs) (by omega) hg
/-- The error of fields and a number of gangs. -/
def chkG (l : List (List Int)) (g : Int) : Int := if chk l = 0 then if 0 ≤ g ∧ g ≤ 200 then 0 else 2 else chk l
theorem F55_eq {l : List (List Int)} {g : Int} : F55 l g = some (chkG l g, ()) := by
  unfold F55 chkG
  rw [F20_eq, bindO_s]
  dsimp only
  rw [br_eq]
  by_cases h0 : chk l = 0
  · rw [if_pos h0, if_pos h0, F48_eq, bindO_s, br_not]
    by_cases h1 : 0 ≤ g ∧ g ≤ 200
    · rw [br_t (by simpa using h1), if_pos h1, h0]
    · rw [br_f (by simpa using h1), if_neg h1]
  · rw [if_neg h0, if_neg h0]
theorem chkG_val {l : List (List Int)} {g : Int} (h : chkG l g = 0) : Val l ∧ 0 ≤ g ∧ g ≤ 200 := by
  unfold chkG at h
  by_cases h0 : chk l = 0
  · rw [if_pos h0] at h
    by_cases h1 : 0 ≤ g ∧ g ≤ 200
    · exact ⟨chk_val.1 h0, h1⟩
    · rw [if_neg h1] at h; cases h
  · rw [if_neg h0] at h; exact absurd h h0
theorem val_chkG {l : List (List Int)} {g : Int} (h : Val l) (h1 : 0 ≤ g) (h2 : g ≤ 200) : chkG l g = 0 := by
  unfold chkG; rw [if_pos (chk_val.2 h), if_pos ⟨h1, h2⟩]
theorem F22_good {l : List (List Int)} (h : Val l) {g : Nat} (hg : g ≤ 200) : F22 l g = some (planOf l.length ((stepsF (fun _ => 0) l).take g), gsum ((stepsF (fun _ => 0) l).take g), 0, ()) := by
  unfold F22
  rw [F55_eq, bindO_s]
  dsimp only
  rw [br_not, br_eq, if_pos (val_chkG h (by omega) (by omega)), F56_eq h (by omega), bindO_s]
end Go.Proofs.Try
end
section
open Go.AM Go.Gm Go.Srt
namespace Go.Proofs.Try
set_option linter.unusedVariables false
set_option linter.unusedSimpArgs false
/-- The most sugar of the first fields. -/
def dpv (l : List (List Int)) (i j : Nat) : Int := Tops.tops (mrgAll (l.take i)) j
theorem Val.take {l : List (List Int)} (h : Val l) (i : Nat) : Val (l.take i) :=
  ⟨by have := h.len; simp; omega, fun f hf => h.tab f (List.mem_of_mem_take hf), fun f hf => h.sm f (List.mem_of_mem_take hf), fun f hf => h.desc f (List.mem_of_mem_take hf)⟩
theorem Val.mrgAll_small {l : List (List Int)} (h : Val l) : Small (mrgAll l) 1000000 := fun x hx => by
  obtain ⟨f, hf, hx⟩ := List.mem_flatten.1 ((mrgAll_perm _).mem_iff.1 hx)
  exact h.sm f hf x hx
theorem tops_bound {l : List (List Int)} (h : Val l) (j : Nat) : 0 ≤ Tops.tops (mrgAll l) j ∧ Tops.tops (mrgAll l) j ≤ 120000000 := by
  have := sumN_le (by omega) h.mrgAll_small j
  rw [mrgAll_length] at this
  have := h.flat
  unfold sumN at *
  unfold Tops.tops
  omega
def row (l : List (List Int)) (i n : Nat) : List Int := (List.range n).map fun j => dpv l i j
end Go.Proofs.Try
end
section
open Go.AM Go.Gm Go.Srt
namespace Go.Proofs.Try
set_option linter.unusedVariables false
set_option linter.unusedSimpArgs false
theorem F16_eq : F16 = some (true, ()) := Go.AM.Le.done CF16_le (by kernel_rfl)
theorem take_fields {l : List (List Int)} (fv : Int → Int) (g : Nat) : ∀ s ∈ (stepsF fv l).take g, ∃ j, j < l.length ∧ s.2 = (j : Nat) := fun s hs => steps_fields fv (List.mem_of_mem_take hs)
/-- The plan of the first steps is one, and has their sugar. -/
theorem sug_plan {l : List (List Int)} (h : Val l) (fv : Int → Int) (g : Nat) : sug l (planOf l.length ((stepsF fv l).take g)) = (((((stepsF fv l).take g).length : Nat) : Int), Tops.tops (mrgAll l) g, 0) := by
  unfold sug
  rw [if_neg (by simpa using chk_val.2 h), if_neg (by simp [planOf_length])]
  have hs : (List.range (planOf l.length ((stepsF fv l).take g)).length).findSome? (stopP l (planOf l.length ((stepsF fv l).take g))) = none := findSome_none.2 fun k hk => by
    rw [planOf_length] at hk
    rw [stopP_none, planOf_getD _ hk]
    have := field_cnt fv h.desc k g
    omega
  rw [hs]
  simp only
  rw [planOf_length, ← steps_first fv h.desc, ← gsum_parts _ (take_fields fv g), ← cnt_parts _ (take_fields fv g)]
  congr 1
  · unfold planOf; rw [sum_map_range]
  · congr 1
    refine sumR_congr fun i hi => ?_
    rw [planOf_getD _ hi, field_sum fv h.desc]
    rfl
end Go.Proofs.Try
end
section
open Go.AM Go.Gm Go.Srt
namespace Go.Proofs.Try
set_option linter.unusedVariables false
set_option linter.unusedSimpArgs false
theorem exS_bound {w : Int} (hw : 0 ≤ w) {l : List Int} (h : Small l 1000000) : 0 ≤ exS w l ∧ exS w l ≤ l.length * 1000000 := by
  have := sumN_bound (l := l.map (ex w)) (c := 1000000) (by omega) (fun x hx => by
    obtain ⟨y, hy, rfl⟩ := List.mem_map.1 hx
    have := h y hy
    unfold ex; omega) l.length
  unfold sumN at this
  rw [List.take_of_length_le (by simp)] at this
  exact this
theorem mul_bound {w g : Int} (h1 : 0 ≤ w) (h2 : w ≤ 1000000) (h3 : 0 ≤ g) (h4 : g ≤ 200) : 0 ≤ w * g ∧ w * g ≤ 200000000 := by
  refine ⟨Int.mul_nonneg h1 h3, ?_⟩
  have := Int.mul_le_mul h2 h4 h3 (by omega : (0 : Int) ≤ 1000000)
  omega
theorem F27_in {t : List (Int × Int)} {w z : Int} {g : Nat} (hd : Tops.Desc (t.map (·.1))) (hs : ∀ s ∈ t, GoodS s) (ht : t.length ≤ 1000) (hw : 0 ≤ w) (hw2 : w ≤ 1000000) (hg : g ≤ 200) (hz : z = w * g) :
    bindO (g27_0 0 0 t w z) (fun z6 => match z6 with
      | .inl z7 => some (z7.1, ((0 : Int), ()))
      | .inr z8 => some (z8.1, ((0 : Int), ()))) = some (bnd (t.map (·.1)) g w, (0, ())) := by
  have hm := mul_bound hw hw2 (g := g) (by omega) (by omega)
  have hsm : ∀ k, Small ((t.take k).map (·.1)) 1000000 := fun k x hx => by
    obtain ⟨s, hs', rfl⟩ := List.mem_map.1 hx
    exact (hs s (List.mem_of_mem_take hs')).1
  have key := iter_find (step := fun x => g27_0i_0 x.1 x.2.1 x.2.2.1 x.2.2.2.1 x.2.2.2.2.1 x.2.2.2.2.2.1 x.2.2.2.2.2.2.1 x.2.2.2.2.2.2.2.1) t.length
    (fun k => (t, (((t.length : Nat) : Int), ((k : Int), ((0 : Int), ((0 : Int), (t, (w, (w * g + exS w ((t.take k).map (·.1)), ())))))))))
    (fun k => if (t.getD k (0, 0)).1 ≤ w then some k else none) (fun k => .inl (w, (w * g + exS w ((t.take k).map (·.1)), (0, (0, (t, ()))))))
    (b := .inr (w, (w * g + exS w (t.map (·.1)), (0, (0, (t, ())))))) (fun k hk _ => by
      have hb := exS_bound hw (hsm k)
      have hgs := (hs _ (getD_mem (d := (0, 0)) hk)).1
      simp only [List.length_map, List.length_take] at hb
      simp only [g27_0i_0, Int.toNat_natCast]
      rw [br_d, if_pos (by omega), need_inb (by omega) (by omega), br_d]
      by_cases c : (t.getD k (0, 0)).1 ≤ w
      · rw [if_pos c, if_pos c]
      · rw [if_neg c, if_neg c, need_i64 (by omega) (by omega), need_i64 (by omega) (by omega), need_i64 (by omega) (by omega), take_succ_getD (0, 0) hk, List.map_append, exS_append]
        have e : exS w (List.map (fun x => x.1) [t.getD k (0, 0)]) = (t.getD k (0, 0)).1 - w := by
          simp only [List.map_cons, List.map_nil, exS_cons, exS_nil]; unfold ex; omega
        rw [e]
        simp; omega) (fun _ => by simp only [g27_0i_0]; rw [br_d, if_neg (by omega), List.take_length])
  simp only [List.take_zero, List.map_nil, exS_nil, Int.natCast_zero, Int.add_zero] at key
  unfold g27_0
  rw [hz, bind_of key]
  cases hf : (List.range t.length).findSome? (fun k => if (t.getD k (0, 0)).1 ≤ w then some k else none) with
  | none => simp only [Option.elim, bindO_s]; rfl
  | some k =>
    simp only [Option.elim, bindO_s]
    obtain ⟨k', hk', e⟩ := List.exists_of_findSome?_eq_some hf
    have hk' : k' < t.length := by simpa using hk'
    by_cases c : (t.getD k' (0, 0)).1 ≤ w
    · rw [if_pos c] at e
      cases e
      have e2 : exS w ((t.drop k).map (·.1)) = 0 := exS_zero fun x hx => by
        obtain ⟨s, hs', rfl⟩ := List.mem_map.1 hx
        obtain ⟨i, hi, rfl⟩ := List.mem_iff_getElem.1 hs'
        rw [List.getElem_drop]
        rw [getD_el _ hk'] at c
        simp at hi
        by_cases e : i = 0
        · subst e; exact c
        · have := (List.pairwise_iff_getElem.1 hd) k (k + i) (by simp; omega) (by simp; omega) (by omega)
          simp only [List.getElem_map] at this
          omega
      have e3 : exS w (t.map (·.1)) = exS w ((t.take k).map (·.1)) := by
        conv => lhs; rw [← List.take_append_drop k t, List.map_append, exS_append, e2]
        omega
      unfold bnd; rw [e3]
    · rw [if_neg c] at e; cases e
/-- The error of fields, gangs and a wage; a wage's bound. -/
def bndR (l : List (List Int)) (g w : Int) : Int × Int :=
  if chkG l g ≠ 0 then (0, chkG l g) else if 0 ≤ w ∧ w ≤ 1000000 then (bnd (mrgAll l) g.toNat w, 0) else (0, 2)
theorem F27_eq {l : List (List Int)} {g w : Int} : F27 l g w = some ((bndR l g w).1, (bndR l g w).2, ()) := by
  unfold F27 bndR
  rw [F55_eq, bindO_s]
  dsimp only
  rw [br_not, br_eq]
  by_cases h0 : chkG l g = 0
  · obtain ⟨hv, g1, g2⟩ := chkG_val h0
    obtain ⟨g, rfl⟩ : ∃ n : Nat, g = n := ⟨g.toNat, by omega⟩
    rw [if_pos h0, if_neg (by simpa using h0), F48_eq, bindO_s, br_not]
    by_cases h1 : 0 ≤ w ∧ w ≤ 1000000
    · have hm := mul_bound h1.1 h1.2 g1 g2
      have := steps_len hv (fun _ => 0)
      rw [br_t (by simpa using h1), if_pos h1, need_i64 (by omega) (by omega), F58_eq hv, bindO_s]
      dsimp only
      have key := F27_in (g := g) (t := stepsF (fun _ => 0) l) (w := w) (by rw [steps_gains _ hv.desc]; exact mrgAll_desc hv.desc) (fun s hs => steps_good hv _ hs) (by omega) h1.1 h1.2 (by omega) rfl
      rw [steps_gains _ hv.desc] at key
      rw [Int.toNat_natCast]
      exact key
    · rw [br_f (by simpa using h1), if_neg h1]
  · rw [if_neg h0, if_pos h0]
theorem F29_in {t : List (Int × Int)} (ht : t.length ≤ 1000) {g : Nat} (hg : g ≤ 200) {hi0 : Int} :
    g29_0 0 t g 0 0 0 hi0 0 = some ((0, (0, ((if g < t.length then (t.getD g (0, 0)).1 else 0), ((if 0 < g ∧ g ≤ t.length then (t.getD (g - 1) (0, 0)).1 else hi0), ()))))) := by
  unfold g29_0
  have key := iter_count (step := fun x => g29_0i_0 x.1 x.2.1 x.2.2.1 x.2.2.2.1 x.2.2.2.2.1 x.2.2.2.2.2.1 x.2.2.2.2.2.2.1 x.2.2.2.2.2.2.2.1 x.2.2.2.2.2.2.2.2.1 x.2.2.2.2.2.2.2.2.2.1 x.2.2.2.2.2.2.2.2.2.2.1) t.length
    (fun k => (t, (((t.length : Nat) : Int), ((k : Int), ((0 : Int), (t, ((g : Int), ((0 : Int), ((0 : Int), ((if g < k then (t.getD g (0, 0)).1 else 0), ((if 0 < g ∧ g ≤ k then (t.getD (g - 1) (0, 0)).1 else hi0), ((k : Int), ()))))))))))))
    (b := ((g : Int), (0, (0, ((if g < t.length then (t.getD g (0, 0)).1 else 0), ((if 0 < g ∧ g ≤ t.length then (t.getD (g - 1) (0, 0)).1 else hi0), (((t.length : Nat) : Int), (0, (t, ()))))))))) (fun k hk => by
      simp only [g29_0i_0, Int.toNat_natCast]
      have hlo : ¬ k = g → (if g < k + 1 then (t.getD g (0, 0)).1 else 0) = (if g < k then (t.getD g (0, 0)).1 else 0) := fun hne => by
        by_cases c : g < k
        · rw [if_pos c, if_pos (by omega)]
        · rw [if_neg c, if_neg (by omega)]
      have hhi : ¬ k + 1 = g → (if 0 < g ∧ g ≤ k + 1 then (t.getD (g - 1) (0, 0)).1 else hi0) = (if 0 < g ∧ g ≤ k then (t.getD (g - 1) (0, 0)).1 else hi0) := fun hne => by
        by_cases c : 0 < g ∧ g ≤ k
        · rw [if_pos c, if_pos (by omega)]
        · rw [if_neg c, if_neg (by omega)]
      rw [br_d, if_pos (by omega), need_inb (by omega) (by omega), need_i64 (by omega) (by omega), br_eq]
      by_cases c1 : (k : Int) + 1 = g
      · rw [if_pos c1, need_i64 (by omega) (by omega), hlo (by omega), if_pos (show 0 < g ∧ g ≤ k + 1 by omega), show g - 1 = k by omega, Int.natCast_add]
        rfl
      · rw [if_neg c1, need_i64 (by omega) (by omega), br_eq]
        by_cases c2 : (k : Int) + 1 = g + 1
        · have e : k = g := by omega
          rw [if_pos c2, need_i64 (by omega) (by omega), hhi (by omega), if_pos (show g < k + 1 by omega), e, Int.natCast_add]
          rfl
        · rw [if_neg c2, need_i64 (by omega) (by omega), hlo (by omega), hhi (by omega), Int.natCast_add]
          rfl) (by simp only [g29_0i_0]; rw [br_d, if_neg (by omega)])
  have k0 : (if 0 < g ∧ g ≤ 0 then (t.getD (g - 1) (0, 0)).1 else hi0) = hi0 := if_neg (by omega)
  have k1 : (if g < 0 then (t.getD g (0, 0)).1 else 0) = 0 := if_neg (by omega)
  simp only [Int.natCast_zero, k0, k1] at key
  rw [bind_of key]
theorem getD_fst {t : List (Int × Int)} {k : Nat} (h : k < t.length) : (t.map (·.1)).getD k 0 = (t.getD k (0, 0)).1 := by
  simp [List.getD_eq_getElem?_getD, List.getElem?_eq_getElem h]
theorem F29_good {l : List (List Int)} (h : Val l) {g : Nat} (hg : g ≤ 200) : F29 l g = some ((wLo (mrgAll l) g, wHi (mrgAll l) g 1000000), 0, ()) := by
  have hn := steps_len h (fun _ => 0)
  have hG := steps_gains (fun _ => 0) h.desc
  have e1 : (if g < (stepsF (fun _ => 0) l).length then ((stepsF (fun _ => 0) l).getD g (0, 0)).1 else 0) = wLo (mrgAll l) g := by
    unfold wLo
    rw [← hG]
    by_cases c : g < (stepsF (fun _ => 0) l).length
    · rw [if_pos c, getD_fst c]
    · rw [if_neg c, getD_out 0 (by simp; omega)]
  have e2 : ∀ hi0, (g = 0 → hi0 = 1000000) → (0 < g → hi0 = 0) → (if 0 < g ∧ g ≤ (stepsF (fun _ => 0) l).length then ((stepsF (fun _ => 0) l).getD (g - 1) (0, 0)).1 else hi0) = wHi (mrgAll l) g 1000000 := fun hi0 p1 p2 => by
    unfold wHi
    rw [← hG]
    by_cases c0 : g = 0
    · rw [if_neg (by omega), if_pos c0, p1 c0]
    · rw [if_neg c0]
      by_cases c : g ≤ (stepsF (fun _ => 0) l).length
      · rw [if_pos (by omega), getD_fst (by omega)]
      · rw [if_neg (by omega), p2 (by omega), getD_out 0 (by simp; omega)]
  unfold F29
  rw [F55_eq, bindO_s, val_chkG h (by omega) (by omega)]
  dsimp only
  rw [br_not, br_eq, if_pos rfl, br_d, F58_eq h, bindO_s, bindO_s]
  dsimp only
  by_cases c : 0 < g
  · rw [if_pos (by omega), F29_in (by omega) hg, bindO_s, e1, e2 _ (by omega) (fun _ => rfl)]
  · rw [if_neg (by omega), F29_in (by omega) hg, bindO_s, e1, e2 _ (fun _ => rfl) (by omega)]
end Go.Proofs.Try
end
section
open Go.AM Go.Gm Go.Srt
namespace Go.Proofs.Try
set_option linter.unusedVariables false
set_option linter.unusedSimpArgs false
/-- What is left of a number, less some others, but no less than 0. -/
def lst (row : List Int) (k : Nat) : Int := (row.take k).foldl (fun a x => imax 0 (a - x)) 300
def mrow (row : List Int) (k : Nat) : List Int := (List.range k).map fun j => lst row (j + 1)
def made (v : List (List Int)) (n : Nat) : List (List Int) := (List.range n).map fun i => mrow (v.getD i []) (min (v.getD i []).length 4)
def valley (v : List (List Int)) : List (List Int) := made v (min v.length 4)
theorem lst_succ {row : List Int} {k : Nat} (h : k < row.length) : lst row (k + 1) = imax 0 (lst row k - row.getD k 0) := by
  unfold lst; rw [take_succ_getD 0 h, List.foldl_append]; rfl
theorem lst_bound {row : List Int} (h : ∀ x ∈ row, 0 ≤ x ∧ x ≤ 255) (k : Nat) : 0 ≤ lst row k ∧ lst row k ≤ 300 := by
  induction k with
  | zero => simp [lst]
  | succ k ih =>
    by_cases c : k < row.length
    · rw [lst_succ c]
      have := h _ (getD_mem (d := 0) c)
      unfold imax; omega
    · have : lst row (k + 1) = lst row k := by unfold lst; rw [List.take_of_length_le (by omega), List.take_of_length_le (by omega)]
      rw [this]; exact ih
theorem lst_anti {row : List Int} (h : ∀ x ∈ row, 0 ≤ x ∧ x ≤ 255) (k : Nat) : lst row (k + 1) ≤ lst row k := by
  by_cases c : k < row.length
  · rw [lst_succ c]
    have := h _ (getD_mem (d := 0) c)
    have := lst_bound h k
    unfold imax; omega
  · have : lst row (k + 1) = lst row k := by unfold lst; rw [List.take_of_length_le (by omega), List.take_of_length_le (by omega)]
    rw [this]; exact Int.le_refl _
theorem lst_anti' {row : List Int} (h : ∀ x ∈ row, 0 ≤ x ∧ x ≤ 255) (k d : Nat) : lst row (k + d) ≤ lst row k := by
  induction d with
  | zero => exact Int.le_refl _
  | succ d ih => have := lst_anti h (k + d); rw [← Nat.add_assoc]; omega
theorem mrow_succ (row : List Int) (k : Nat) : mrow row (k + 1) = mrow row k ++ [lst row (k + 1)] := by simp [mrow, List.range_succ]
theorem mrow_length (row : List Int) (k : Nat) : (mrow row k).length = k := by simp [mrow]
theorem made_succ (v : List (List Int)) (k : Nat) : made v (k + 1) = made v k ++ [mrow (v.getD k []) (min (v.getD k []).length 4)] := by simp [made, List.range_succ]
theorem made_length (v : List (List Int)) (k : Nat) : (made v k).length = k := by simp [made]
/-- Lists of bytes. -/
def Bytes (v : List (List Int)) : Prop := v.length ≤ maxLen ∧ ∀ row ∈ v, row.length ≤ maxLen ∧ ∀ x ∈ row, 0 ≤ x ∧ x ≤ 255
theorem bytes_of {v : List (List Int)} (h : Wf (.list (.list (.int .u8))) v) : Bytes v := by
  refine ⟨h.1, fun row hr => ⟨(h.2 row hr).1, fun x hx => ?_⟩⟩
  have := (h.2 row hr).2 x hx
  simp only [Wf] at this
  have e1 : IntKind.u8.min = 0 := by decide
  have e2 : IntKind.u8.max = 255 := by decide
  rw [e1, e2] at this
  exact this
theorem Bytes.row {v : List (List Int)} (h : Bytes v) (i : Nat) : ∀ x ∈ v.getD i [], 0 ≤ x ∧ x ≤ 255 := by
  by_cases c : i < v.length
  · exact (h.2 _ (getD_mem c)).2
  · rw [getD_out [] (by omega)]; intro x hx; cases hx
theorem made_val {v : List (List Int)} (h : Bytes v) {n : Nat} (hn : n ≤ 4) : Val (made v n) ∧ ∀ f ∈ made v n, f.length ≤ 4 ∧ Small f 300 := by
  have key : ∀ f ∈ made v n, f.length ≤ 4 ∧ Small f 300 ∧ Tops.Desc f := fun f hf => by
    obtain ⟨i, hi, rfl⟩ := List.mem_map.1 hf
    refine ⟨by rw [mrow_length]; omega, fun x hx => ?_, ?_⟩
    · obtain ⟨j, hj, rfl⟩ := List.mem_map.1 hx
      exact lst_bound (h.row i) _
    · unfold Tops.Desc mrow
      rw [List.pairwise_map]
      refine List.pairwise_lt_range.imp fun {a b} hab => ?_
      have := lst_anti' (h.row i) (a + 1) (b - a)
      rwa [show a + 1 + (b - a) = b + 1 by omega] at this
  refine ⟨⟨by rw [made_length]; omega, fun f hf => by have := key f hf; omega, fun f hf x hx => by have := (key f hf).2.1 x hx; omega, fun f hf => (key f hf).2.2⟩, fun f hf => ⟨(key f hf).1, (key f hf).2.1⟩⟩
theorem F39_in {v : List (List Int)} (h : Bytes v) {i : Nat} (hi : i < v.length) (hi4 : i < 4) {n : Nat} {t : Bool} {b0 : List (List Int)} :
    iter (fun x => g39_1 x.1 x.2.1 x.2.2.1 x.2.2.2.1 x.2.2.2.2.1 x.2.2.2.2.2.1 x.2.2.2.2.2.2.1 x.2.2.2.2.2.2.2.1 x.2.2.2.2.2.2.2.2.1 x.2.2.2.2.2.2.2.2.2.1) (v, n, (i : Int), (300 : Int), 0, (0 : Int), (i : Int), t, b0, [], ()) =
      some (v, n, (i : Int), min (v.getD i []).length 4, (i : Int), t, b0, mrow (v.getD i []) (min (v.getD i []).length 4), ()) := by
  have hv := h.1
  have hr := (h.2 _ (getD_mem (d := []) hi)).1
  have key := iter_count (step := fun x => g39_1 x.1 x.2.1 x.2.2.1 x.2.2.2.1 x.2.2.2.2.1 x.2.2.2.2.2.1 x.2.2.2.2.2.2.1 x.2.2.2.2.2.2.2.1 x.2.2.2.2.2.2.2.2.1 x.2.2.2.2.2.2.2.2.2.1) (min (v.getD i []).length 4)
    (fun k => (v, n, (i : Int), lst (v.getD i []) k, k, (k : Int), (i : Int), t, b0, mrow (v.getD i []) k, ()))
    (b := (v, n, (i : Int), min (v.getD i []).length 4, (i : Int), t, b0, mrow (v.getD i []) (min (v.getD i []).length 4), ())) (fun k hk => by
      have hb := lst_bound (h.row i) k
      have hx := h.row i _ (getD_mem (d := 0) (show k < (v.getD i []).length by omega))
      simp only [g39_1, Int.toNat_natCast]
      rw [need_inb (by omega) (by omega), br_d, if_pos (by omega), br_d, if_pos (by omega), need_inb (by omega) (by omega), need_inb (by omega) (by omega), need_i64 (by omega) (by omega), need_i64 (by omega) (by omega), need_big (by simp; omega), need_i64 (by omega) (by omega), mrow_succ, lst_succ (by omega)]
      simp only [List.drop_zero]
      rw [List.take_of_length_le (l := mrow (v.getD i []) k) (by rw [mrow_length]; omega)]
      simp) (by
      simp only [g39_1, Int.toNat_natCast]
      rw [need_inb (by omega) (by omega), br_d, br_d]
      by_cases c : ((min (v.getD i []).length 4 : Nat) : Int) < (((v.getD i []).length : Nat) : Int)
      · rw [if_pos c, if_neg (by omega)]
      · rw [if_neg c])
  have e0 : lst (v.getD i []) 0 = 300 := by simp [lst]
  have e1 : mrow (v.getD i []) 0 = [] := rfl
  simp only [e0, e1, Int.natCast_zero] at key
  exact key
theorem F39_eq {v : List (List Int)} (h : Bytes v) : F39 v = some (valley v, ()) := by
  have hv := h.1
  unfold F39
  have key := iter_count (step := fun x => g39_0 x.1 x.2.1 x.2.2.1 x.2.2.2.1) (min v.length 4) (fun k => (v, k, (k : Int), made v k, ())) (b := (min v.length 4, made v (min v.length 4), ())) (fun k hk => by
    simp only [g39_0]
    rw [br_d, if_pos (by omega), br_d, if_pos (by omega), bind_of (F39_in h (by omega) (by omega))]
    dsimp only
    rw [need_big (by simp; omega), need_i64 (by omega) (by omega), made_succ]
    simp only [List.drop_zero]
    rw [List.take_of_length_le (l := made v k) (by rw [made_length]; omega), List.take_of_length_le (l := mrow (v.getD k []) (min (v.getD k []).length 4)) (by rw [mrow_length]; omega)]
    simp) (by
    simp only [g39_0]
    rw [br_d, br_d]
    by_cases c : ((min v.length 4 : Nat) : Int) < ((v.length : Nat) : Int)
    · rw [if_pos c, if_neg (by omega)]
    · rw [if_neg c])
  have e0 : made v 0 = [] := rfl
  simp only [e0, Int.natCast_zero] at key
  rw [bind_of key]
  dsimp only
  rw [List.drop_zero, List.take_of_length_le (by rw [made_length]; omega)]
  rfl
theorem valley_val {v : List (List Int)} (h : Bytes v) : Val (valley v) ∧ (valley v).length ≤ 4 ∧ ∀ f ∈ valley v, f.length ≤ 4 ∧ Small f 300 := by
  have := made_val h (n := min v.length 4) (by omega)
  exact ⟨this.1, by unfold valley; rw [made_length]; omega, this.2⟩
end Go.Proofs.Try
end
section
open Go.AM Go.Gm Go.Srt
namespace Go.Proofs.Try
set_option linter.unusedVariables false
set_option linter.unusedSimpArgs false
/-- The plans that go on from one. -/
def nexts (g : Nat) (f p : List Int) : List (List Int) := (List.range (min f.length (g - p.sum.toNat) + 1)).map fun (k : Nat) => p ++ [(k : Int)]
def plansL (g : Nat) (l : List (List Int)) : List (List Int) := l.foldl (fun out f => out.flatMap (nexts g f)) [[]]
theorem plansL_snoc (g : Nat) (l : List (List Int)) (f : List Int) : plansL g (l ++ [f]) = (plansL g l).flatMap (nexts g f) := by simp [plansL]
/-- What is so of a plan. -/
structure PlanIn (g : Nat) (l : List (List Int)) (q : List Int) : Prop where
  len : q.length = l.length
  rng : ∀ i, i < l.length → 0 ≤ q.getD i 0 ∧ q.getD i 0 ≤ ((l.getD i []).length : Nat)
  sum : q.sum ≤ g
theorem getD_snoc_lt {α : Type} {l : List α} {x d : α} {i : Nat} (h : i < l.length) : (l ++ [x]).getD i d = l.getD i d := by
  simp [List.getD_eq_getElem?_getD, List.getElem?_append_left h]
theorem getD_snoc_eq {α : Type} {l : List α} {x d : α} {i : Nat} (h : i = l.length) : (l ++ [x]).getD i d = x := by
  subst h; simp [List.getD_eq_getElem?_getD]
theorem PlanIn.nonneg {g : Nat} {l : List (List Int)} {q : List Int} (h : PlanIn g l q) : ∀ x ∈ q, 0 ≤ x := fun x hx => by
  obtain ⟨i, hi, rfl⟩ := List.mem_iff_getElem.1 hx
  have := (h.rng i (by rw [← h.len]; exact hi)).1
  rwa [getD_el 0 hi] at this
theorem sum_nonneg {l : List Int} (h : ∀ x ∈ l, 0 ≤ x) : 0 ≤ l.sum := by
  induction l with
  | nil => simp
  | cons x l ih => have := h x (by simp); have := ih fun y hy => h y (by simp [hy]); simp; omega
theorem mem_plans {g : Nat} {l : List (List Int)} {q : List Int} : q ∈ plansL g l ↔ PlanIn g l q := by
  induction l using snoc_ind generalizing q with
  | h0 =>
    constructor
    · intro h
      have : q = [] := by simpa [plansL] using h
      subst this
      exact ⟨rfl, fun i hi => by simp at hi, by simp⟩
    · intro h
      have : q = [] := List.length_eq_zero_iff.1 h.len
      subst this; simp [plansL]
  | h1 l f ih =>
    rw [plansL_snoc, List.mem_flatMap]
    constructor
    · rintro ⟨p, hp, hq⟩
      have hp := ih.1 hp
      obtain ⟨k, hk, rfl⟩ := List.mem_map.1 hq
      have hk := List.mem_range.1 hk
      have hlen := hp.len
      have hs := sum_nonneg hp.nonneg
      refine ⟨by simp [hlen], fun i hi => ?_, by rw [List.sum_append]; simp; have := hp.sum; omega⟩
      by_cases c : i < l.length
      · rw [getD_snoc_lt (by omega), getD_snoc_lt c]; exact hp.rng i c
      · simp at hi
        rw [getD_snoc_eq (by omega), getD_snoc_eq (by omega)]; omega
    · intro h
      rcases snoc_cases q with rfl | ⟨p, x, rfl⟩
      · have := h.len; simp at this
      have hlen := h.len
      simp only [List.length_append, List.length_cons, List.length_nil] at hlen
      have hx := h.rng l.length (by simp)
      rw [getD_snoc_eq (by omega), getD_snoc_eq rfl] at hx
      have hsum := h.sum
      rw [List.sum_append] at hsum
      simp only [List.sum_cons, List.sum_nil, Int.add_zero] at hsum
      have hp : PlanIn g l p := ⟨by omega, fun i hi => by
        have := h.rng i (by simp; omega)
        rwa [getD_snoc_lt (by omega), getD_snoc_lt hi] at this, by omega⟩
      have hs := sum_nonneg hp.nonneg
      refine ⟨p, ih.2 hp, List.mem_map.2 ⟨x.toNat, List.mem_range.2 (by omega), by rw [Int.toNat_of_nonneg hx.1]⟩⟩
theorem plans_length {g : Nat} {l : List (List Int)} (h : ∀ f ∈ l, f.length ≤ 4) : (plansL g l).length ≤ 5 ^ l.length := by
  induction l using snoc_ind with
  | h0 => simp [plansL]
  | h1 l f ih =>
    have i := ih fun f hf => h f (by simp [hf])
    have hf := h f (by simp)
    rw [plansL_snoc, List.length_append, List.length_flatMap]
    have key : ∀ L : List (List Int), (L.map (fun a => (nexts g f a).length)).sum ≤ L.length * 5 := fun L => by
      induction L with
      | nil => simp
      | cons p L ih2 =>
        have : (nexts g f p).length ≤ 5 := by simp [nexts]; omega
        simp only [List.map_cons, List.sum_cons, List.length_cons]; omega
    have := key (plansL g l)
    rw [List.length_singleton, Nat.pow_succ]
    omega
theorem g40_2_eq {v1 v17 v18 v23 v24 : Int} {f p : List Int} {n8 n22 : Nat} {l b0 b1 : List (List Int)} (hp : p.length ≤ 10) (hs : Small p 1000) :
    iter (fun x => g40_2 x.1 x.2.1 x.2.2.1 x.2.2.2.1 x.2.2.2.2.1 x.2.2.2.2.2.1 x.2.2.2.2.2.2.1 x.2.2.2.2.2.2.2.1 x.2.2.2.2.2.2.2.2.1 x.2.2.2.2.2.2.2.2.2.1 x.2.2.2.2.2.2.2.2.2.2.1 x.2.2.2.2.2.2.2.2.2.2.2.1 x.2.2.2.2.2.2.2.2.2.2.2.2.1 x.2.2.2.2.2.2.2.2.2.2.2.2.2.1 x.2.2.2.2.2.2.2.2.2.2.2.2.2.2.1 x.2.2.2.2.2.2.2.2.2.2.2.2.2.2.2.1)
      (v1, f, n8, p, (0 : Int), l, v17, v18, n22, v23, v24, p, ((p.length : Nat) : Int), (0 : Int), b0, b1, ()) = some (v1, f, n8, p, p.sum, l, v17, v18, n22, v23, v24, b0, b1, ()) := by
  have key := iter_count (step := fun x => g40_2 x.1 x.2.1 x.2.2.1 x.2.2.2.1 x.2.2.2.2.1 x.2.2.2.2.2.1 x.2.2.2.2.2.2.1 x.2.2.2.2.2.2.2.1 x.2.2.2.2.2.2.2.2.1 x.2.2.2.2.2.2.2.2.2.1 x.2.2.2.2.2.2.2.2.2.2.1 x.2.2.2.2.2.2.2.2.2.2.2.1 x.2.2.2.2.2.2.2.2.2.2.2.2.1 x.2.2.2.2.2.2.2.2.2.2.2.2.2.1 x.2.2.2.2.2.2.2.2.2.2.2.2.2.2.1 x.2.2.2.2.2.2.2.2.2.2.2.2.2.2.2.1) p.length
    (fun k => (v1, f, n8, p, sumN p k, l, v17, v18, n22, v23, v24, p, ((p.length : Nat) : Int), (k : Int), b0, b1, ())) (b := (v1, f, n8, p, sumN p p.length, l, v17, v18, n22, v23, v24, b0, b1, ())) (fun k hk => by
      have h1 := sumN_bound (by omega) hs k
      have h2 := sumN_bound (by omega) hs (k + 1)
      rw [sumN_succ (by omega)] at h2
      simp only [g40_2, Int.toNat_natCast]
      rw [br_d, if_pos (by omega), need_inb (by omega) (by omega), need_i64 (by omega) (by omega), need_i64 (by omega) (by omega), sumN_succ (by omega)]
      simp) (by simp only [g40_2]; rw [br_d, if_neg (by omega)])
  have e0 : sumN p 0 = 0 := by simp [sumN]
  have e1 : sumN p p.length = p.sum := by simp [sumN]
  simp only [e0, e1, Int.natCast_zero] at key
  exact key
theorem g40_3_eq {g : Nat} {v17 v18 v23 v24 : Int} {f p : List Int} {n22 : Nat} {l b0 b1 : List (List Int)} (hf : f.length ≤ 10) (hp : p.length ≤ 10) (hs : 0 ≤ p.sum) (hs2 : p.sum ≤ g) (hg : g ≤ 1000) (hb : b0.length ≤ 100000) :
    iter (fun x => g40_3 x.1 x.2.1 x.2.2.1 x.2.2.2.1 x.2.2.2.2.1 x.2.2.2.2.2.1 x.2.2.2.2.2.2.1 x.2.2.2.2.2.2.2.1 x.2.2.2.2.2.2.2.2.1 x.2.2.2.2.2.2.2.2.2.1 x.2.2.2.2.2.2.2.2.2.2.1 x.2.2.2.2.2.2.2.2.2.2.2.1 x.2.2.2.2.2.2.2.2.2.2.2.2.1 x.2.2.2.2.2.2.2.2.2.2.2.2.2.1)
      ((g : Int), f, b0.length, p, p.sum, (0 : Int), l, v17, v18, n22, v23, v24, b0, b1, ()) = some ((g : Int), f, (b0 ++ nexts g f p).length, l, v17, v18, n22, v23, v24, b0 ++ nexts g f p, b1, ()) := by
  have key := iter_count (step := fun x => g40_3 x.1 x.2.1 x.2.2.1 x.2.2.2.1 x.2.2.2.2.1 x.2.2.2.2.2.1 x.2.2.2.2.2.2.1 x.2.2.2.2.2.2.2.1 x.2.2.2.2.2.2.2.2.1 x.2.2.2.2.2.2.2.2.2.1 x.2.2.2.2.2.2.2.2.2.2.1 x.2.2.2.2.2.2.2.2.2.2.2.1 x.2.2.2.2.2.2.2.2.2.2.2.2.1 x.2.2.2.2.2.2.2.2.2.2.2.2.2.1) (min f.length (g - p.sum.toNat) + 1)
    (fun k => ((g : Int), f, (b0 ++ (List.range k).map fun (k : Nat) => p ++ [(k : Int)]).length, p, p.sum, (k : Int), l, v17, v18, n22, v23, v24, b0 ++ (List.range k).map fun (k : Nat) => p ++ [(k : Int)], b1, ()))
    (b := ((g : Int), f, (b0 ++ nexts g f p).length, l, v17, v18, n22, v23, v24, b0 ++ nexts g f p, b1, ())) (fun k hk => by
      simp only [g40_3]
      rw [br_d, if_pos (by omega), need_i64 (by omega) (by omega), br_d, if_pos (by omega), need_big (by omega), need_big (by simp; omega), need_big (by simp; omega), need_i64 (by omega) (by omega)]
      simp only [List.drop_zero, List.take_zero, List.nil_append, Nat.zero_add]
      rw [List.take_of_length_le (l := p) (Nat.le_refl _)]
      rw [List.take_of_length_le (l := p ++ List.take 1 [(k : Int)]) (by simp)]
      rw [List.take_of_length_le (l := b0 ++ (List.range k).map fun (k : Nat) => p ++ [(k : Int)]) (Nat.le_refl _), List.range_succ]
      simp
      omega) (by
      simp only [g40_3]
      rw [br_d, need_i64 (by omega) (by omega), br_d]
      have e : ∀ (c : Prop) [Decidable c], ¬ c ∨ True := fun _ => .inr trivial
      by_cases c : ((min f.length (g - p.sum.toNat) + 1 : Nat) : Int) ≤ ((f.length : Nat) : Int)
      · rw [if_pos c, if_neg (by omega)]; rfl
      · rw [if_neg c]; rfl)
  simp only [List.range_zero, List.map_nil, List.append_nil, Int.natCast_zero] at key
  exact key
theorem g40_1_eq {g : Nat} {v17 v18 : Int} {f : List Int} {l L : List (List Int)} (hf : f.length ≤ 4) (hg : g ≤ 1000) (hL : ∀ p ∈ L, p.length ≤ 10 ∧ Small p 1000 ∧ p.sum ≤ g) (hn : L.length ≤ 625) :
    iter (fun x => g40_1 x.1 x.2.1 x.2.2.1 x.2.2.2.1 x.2.2.2.2.1 x.2.2.2.2.2.1 x.2.2.2.2.2.2.1 x.2.2.2.2.2.2.2.1 x.2.2.2.2.2.2.2.2.1 x.2.2.2.2.2.2.2.2.2.1 x.2.2.2.2.2.2.2.2.2.2.1) ((g : Int), f, 0, l, v17, v18, L.length, ((L.length : Nat) : Int), (0 : Int), [], L, ()) =
      some ((g : Int), (L.flatMap (nexts g f)).length, l, v17, v18, L.flatMap (nexts g f), ()) := by
  have hlen : ∀ k, ((L.take k).flatMap (nexts g f)).length ≤ k * 5 := fun k => by
    induction k with
    | zero => simp
    | succ k ih =>
      by_cases c : k < L.length
      · rw [take_succ_getD [] c, List.flatMap_append, List.length_append]
        have : (nexts g f (L.getD k [])).length ≤ 5 := by simp only [nexts, List.length_map, List.length_range]; omega
        simp only [List.flatMap_cons, List.flatMap_nil, List.append_nil]
        omega
      · rw [List.take_of_length_le (by omega)] at ih ⊢; omega
  have key := iter_count (step := fun x => g40_1 x.1 x.2.1 x.2.2.1 x.2.2.2.1 x.2.2.2.2.1 x.2.2.2.2.2.1 x.2.2.2.2.2.2.1 x.2.2.2.2.2.2.2.1 x.2.2.2.2.2.2.2.2.1 x.2.2.2.2.2.2.2.2.2.1 x.2.2.2.2.2.2.2.2.2.2.1) L.length
    (fun k => ((g : Int), f, ((L.take k).flatMap (nexts g f)).length, l, v17, v18, L.length, ((L.length : Nat) : Int), (k : Int), (L.take k).flatMap (nexts g f), L, ()))
    (b := ((g : Int), (L.flatMap (nexts g f)).length, l, v17, v18, L.flatMap (nexts g f), ())) (fun k hk => by
      obtain ⟨p1, p2, p3⟩ := hL _ (getD_mem (d := []) hk)
      have hb := hlen k
      simp only [g40_1, Int.toNat_natCast, Nat.zero_add]
      rw [br_d, if_pos (by omega), need_inb (by omega) (by omega), need_d (by omega), bind_of (g40_2_eq p1 p2)]
      dsimp only
      rw [bind_of (g40_3_eq (by omega) p1 (sum_nonneg fun x hx => (p2 x hx).1) p3 hg (by omega))]
      dsimp only
      rw [need_i64 (by omega) (by omega), take_succ_getD [] hk, List.flatMap_append]
      simp) (by simp only [g40_1]; rw [br_d, if_neg (by omega), List.take_length])
  simp only [List.take_zero, List.flatMap_nil, List.length_nil, Int.natCast_zero] at key
  exact key
theorem F40_eq {l : List (List Int)} (hl : l.length ≤ 4) (hf : ∀ f ∈ l, f.length ≤ 4) {g : Nat} (hg : g ≤ 1000) : F40 l g = some (plansL g l, ()) := by
  have hlen : ∀ k, k ≤ 4 → (plansL g (l.take k)).length ≤ 625 := fun k hk => by
    have h1 := plans_length (g := g) (l := l.take k) fun f hh => hf f (List.mem_of_mem_take hh)
    have h2 : (l.take k).length ≤ 4 := by simp; omega
    have : 5 ^ (l.take k).length ≤ 5 ^ 4 := Nat.pow_le_pow_right (by omega) h2
    omega
  unfold F40
  have key := iter_count (step := fun x => g40_0 x.1 x.2.1 x.2.2.1 x.2.2.2.1 x.2.2.2.2.1 x.2.2.2.2.2.1) l.length (fun k => ((g : Int), (plansL g (l.take k)).length, l, ((l.length : Nat) : Int), (k : Int), plansL g (l.take k), ())) (b := ((plansL g l).length, plansL g l, ())) (fun k hk => by
    have h1 := hlen k (by omega)
    have e := plansL_snoc g (l.take k) (l.getD k [])
    rw [← take_succ_getD [] hk] at e
    simp only [g40_0, Int.toNat_natCast]
    rw [br_d, if_pos (by omega), need_inb (by omega) (by omega), bind_of (g40_1_eq (hf _ (getD_mem hk)) hg (fun p hp => by
      have h := mem_plans.1 hp
      have hpl := h.len
      simp at hpl
      refine ⟨by omega, fun x hx => ?_, h.sum⟩
      obtain ⟨i, hi, rfl⟩ := List.mem_iff_getElem.1 hx
      have h2 := h.rng i (by simp; omega)
      rw [getD_el 0 hi, getD_take (by omega)] at h2
      have := hf _ (getD_mem (d := []) (show i < l.length by omega))
      omega) h1)]
    dsimp only
    rw [need_i64 (by omega) (by omega), e]
    simp) (by simp only [g40_0]; rw [br_d, if_neg (by omega), List.take_length])
  have e0 : plansL g (l.take 0) = [[]] := by simp [plansL]
  simp only [e0, List.length_cons, List.length_nil, Int.natCast_zero, Nat.zero_add] at key
  rw [bind_of key]
  dsimp only
  rw [List.drop_zero, List.take_of_length_le (Nat.le_refl _)]
/-- The sugar of a plan. -/
def sugP (l : List (List Int)) (q : List Int) : Int := sumR q.length (fun i => sumN (l.getD i []) (q.getD i 0).toNat)
theorem F41_in {l : List (List Int)} (h : Val l) {q : List Int} {i n : Nat} (hi : i < l.length) (hn : n ≤ (l.getD i []).length) {s : Int} (hs : 0 ≤ s ∧ s ≤ 1000000000) {v10 v11 : Int} :
    iter (fun x => g41_1 x.1 x.2.1 x.2.2.1 x.2.2.2.1 x.2.2.2.2.1 x.2.2.2.2.2.1 x.2.2.2.2.2.2.1 x.2.2.2.2.2.2.2.1) (l, s, (i : Int), (n : Int), (0 : Int), q, v10, v11, ()) = some (l, s + sumN (l.getD i []) n, q, v10, v11, ()) := by
  have hl := h.len
  have hg := h.getD i
  have key := iter_count (step := fun x => g41_1 x.1 x.2.1 x.2.2.1 x.2.2.2.1 x.2.2.2.2.1 x.2.2.2.2.2.1 x.2.2.2.2.2.2.1 x.2.2.2.2.2.2.2.1) n (fun k => (l, s + sumN (l.getD i []) k, (i : Int), (n : Int), (k : Int), q, v10, v11, ())) (b := (l, s + sumN (l.getD i []) n, q, v10, v11, ())) (fun k hk => by
    have h1 := h.sumN i k
    have h2 := h.sumN i (k + 1)
    rw [sumN_succ (by omega)] at h2
    simp only [g41_1, Int.toNat_natCast]
    rw [br_d, if_pos (by omega), need_inb (by omega) (by omega), need_inb (by omega) (by omega), need_i64 (by omega) (by omega), need_i64 (by omega) (by omega), sumN_succ (by omega)]
    simp; omega) (by simp only [g41_1]; rw [br_d, if_neg (by omega)])
  have e0 : sumN (l.getD i []) 0 = 0 := by simp [sumN]
  simp only [e0, Int.natCast_zero, Int.add_zero] at key
  exact key
theorem F41_eq {l : List (List Int)} (h : Val l) {q : List Int} (hq : q.length = l.length) (hr : ∀ i, i < l.length → 0 ≤ q.getD i 0 ∧ q.getD i 0 ≤ ((l.getD i []).length : Nat)) : F41 l q = some (sugP l q, ()) := by
  have hl := h.len
  unfold F41
  have key := iter_count (step := fun x => g41_0 x.1 x.2.1 x.2.2.1 x.2.2.2.1 x.2.2.2.2.1) q.length (fun k => (l, sumR k (fun i => sumN (l.getD i []) (q.getD i 0).toNat), q, ((q.length : Nat) : Int), (k : Int), ())) (b := (sugP l q, ())) (fun k hk => by
    have h1 := sugR_bound h q k (by omega)
    have h2 := hr k (by omega)
    simp only [g41_0, Int.toNat_natCast]
    rw [br_d, if_pos (by omega), need_inb (by omega) (by omega)]
    have := F41_in h (q := q) (i := k) (n := (q.getD k 0).toNat) (by omega) (by omega) (s := sumR k (fun i => sumN (l.getD i []) (q.getD i 0).toNat)) (by omega) (v10 := ((q.length : Nat) : Int)) (v11 := (k : Int))
    rw [Int.toNat_of_nonneg h2.1] at this
    rw [bind_of this]
    dsimp only
    rw [need_i64 (by omega) (by omega)]
    simp [sumR]) (by simp only [g41_0]; rw [br_d, if_neg (by omega)]; rfl)
  simp only [sumR, Int.natCast_zero] at key
  rw [bind_of key]
theorem plan_sum {l : List (List Int)} {q : List Int} (hq : ∀ i, i < q.length → 0 ≤ q.getD i 0) : sumR q.length (fun i => ((q.getD i 0).toNat : Int)) = q.sum := by
  induction q using snoc_ind with
  | h0 => rfl
  | h1 q x ih =>
    rw [List.length_append, List.sum_append]
    simp only [List.length_cons, List.length_nil, Nat.zero_add, sumR]
    have hx := hq q.length (by simp)
    rw [getD_snoc_eq rfl] at hx
    rw [← ih fun i hi => by have := hq i (by simp; omega); rwa [getD_snoc_lt hi] at this, getD_snoc_eq rfl]
    rw [sumR_congr (g := fun i => ((q.getD i 0).toNat : Int)) fun i hi => by rw [getD_snoc_lt hi]]
    simp; omega
/-- No plan has more than the first steps. -/
theorem sug_most {l : List (List Int)} (h : Val l) {g : Nat} {q : List Int} (hq : PlanIn g l q) : sugP l q ≤ Tops.tops (mrgAll l) g := by
  have h1 := plan_le h.desc (fun f hf x hx => (h.sm f hf x hx).1) (fun i => (q.getD i 0).toNat) (g := g) (n := l.length) (Nat.le_refl _) (by
    have e := plan_sum (l := l) (q := q) fun i hi => (hq.rng i (by rw [← hq.len]; exact hi)).1
    rw [hq.len] at e
    rw [e]; exact hq.sum)
  rw [List.take_length] at h1
  unfold sugP
  rw [hq.len]
  exact h1
theorem sug_ok' {l : List (List Int)} (h : Val l) (fv : Int → Int) (g : Nat) : ∀ i, i < l.length → 0 ≤ (planOf l.length ((stepsF fv l).take g)).getD i 0 ∧ (planOf l.length ((stepsF fv l).take g)).getD i 0 ≤ ((l.getD i []).length : Nat) := fun i hi => by
  rw [planOf_getD _ hi]
  have := field_cnt fv h.desc i g
  omega
theorem plan_first {l : List (List Int)} (h : Val l) (fv : Int → Int) (g : Nat) : PlanIn g l (planOf l.length ((stepsF fv l).take g)) ∧ sugP l (planOf l.length ((stepsF fv l).take g)) = Tops.tops (mrgAll l) g := by
  have hs := sug_plan h fv g
  have hok := sug_ok' h fv g
  refine ⟨⟨planOf_length _ _, hok, ?_⟩, ?_⟩
  · have : (planOf l.length ((stepsF fv l).take g)).sum = (((stepsF fv l).take g).length : Nat) := by
      unfold planOf; rw [sum_map_range, cnt_parts _ (take_fields fv g)]
    rw [this]; simp; omega
  · unfold sugP
    rw [planOf_length, ← steps_first fv h.desc, ← gsum_parts _ (take_fields fv g)]
    refine sumR_congr fun i hi => ?_
    rw [planOf_getD _ hi, field_sum fv h.desc]
    rfl
end Go.Proofs.Try
end
section
open Go.AM Go.Gm Go.Srt
namespace Go.Proofs.Try
set_option linter.unusedVariables false
set_option linter.unusedSimpArgs false
/-- What a wage proves. -/
def verR (l : List (List Int)) (g w s : Int) : Int := if (bndR l g w).2 ≠ 0 then (bndR l g w).2 else if s < 0 then 2 else if s < (bndR l g w).1 then 11 else 0
theorem F31_eq {l : List (List Int)} {g w s : Int} : F31 l g w s = some (verR l g w s, ()) := by
  unfold F31 verR
  rw [F27_eq, bindO_s]
  dsimp only
  rw [br_not, br_eq]
  by_cases h0 : (bndR l g w).2 = 0
  · rw [if_pos h0, br_d, if_neg (show ¬ ((bndR l g w).2 ≠ 0) by simpa using h0)]
    by_cases h1 : s < 0
    · rw [if_pos h1, if_pos h1]
    · rw [if_neg h1, if_neg h1, br_d]
      by_cases h2 : s < (bndR l g w).1
      · rw [if_pos h2, if_pos h2]
      · rw [if_neg h2, if_neg h2]
  · rw [if_neg h0, if_pos h0]
theorem bndR_good {l : List (List Int)} (h : Val l) {g : Nat} (hg : g ≤ 200) {w : Int} (h1 : 0 ≤ w) (h2 : w ≤ 1000000) : bndR l g w = (bnd (mrgAll l) g w, 0) := by
  unfold bndR
  rw [if_neg (by simp [val_chkG h (g := (g : Int)) (by omega) (by omega)]), if_pos ⟨h1, h2⟩, Int.toNat_natCast]
theorem ver_ok {l : List (List Int)} (h : Val l) {g : Nat} (hg : g ≤ 200) {w s : Int} (h1 : 0 ≤ w) (h2 : w ≤ 1000000) (hs : 0 ≤ s) (hb : bnd (mrgAll l) g w ≤ s) : verR l g w s = 0 := by
  unfold verR
  rw [bndR_good h hg h1 h2, if_neg (by simp), if_neg (by omega), if_neg (by simp only; omega)]
theorem ver_no {l : List (List Int)} (h : Val l) {g : Nat} (hg : g ≤ 200) {w s : Int} (h1 : 0 ≤ w) (h2 : w ≤ 1000000) (hs : 0 ≤ s) (hb : s < bnd (mrgAll l) g w) : verR l g w s = 11 := by
  unfold verR
  rw [bndR_good h hg h1 h2, if_neg (by simp), if_neg (by omega), if_pos hb]
theorem F26_eq {a b : List Int} (ha : a.length ≤ 1000000) : F26 a b = some (decide (a = b), ()) := by
  unfold F26
  rw [br_not, br_eq]
  by_cases h : a.length = b.length
  · rw [if_pos (by omega)]
    have key := iter_find (step := fun x => g26_0 x.1 x.2.1 x.2.2.1) a.length (fun k => (a, b, (k : Int), ())) (fun k => if a.getD k 0 = b.getD k 0 then none else some k) (fun _ => .inl ()) (b := .inr ()) (fun k hk _ => by
      simp only [g26_0, Int.toNat_natCast]
      rw [br_d, if_pos (by omega), need_inb (by omega) (by omega), need_inb (by omega) (by omega), br_not, br_eq]
      by_cases c : a.getD k 0 = b.getD k 0
      · rw [if_pos c, if_pos c, need_i64 (by omega) (by omega)]; simp
      · rw [if_neg c, if_neg c]) (fun _ => by simp only [g26_0]; rw [br_d, if_neg (by omega)])
    simp only [Int.natCast_zero] at key
    rw [bind_of key]
    cases hf : (List.range a.length).findSome? (fun k => if a.getD k 0 = b.getD k 0 then none else some k) with
    | none =>
      have hs := List.findSome?_eq_none_iff.1 hf
      have : a = b := by
        apply List.ext_getElem h
        intro i h1 h2
        have := hs i (by simpa using h1)
        by_cases c : a.getD i 0 = b.getD i 0
        · rwa [getD_el 0 h1, getD_el 0 h2] at c
        · rw [if_neg c] at this; cases this
      simp [this]
    | some k =>
      obtain ⟨j, hj, e⟩ := List.exists_of_findSome?_eq_some hf
      have : ¬ a = b := by
        intro e2; subst e2; rw [if_pos rfl] at e; cases e
      simp [this]
  · rw [if_neg (by omega)]
    have : ¬ a = b := fun e => h (by rw [e])
    simp [this]
end Go.Proofs.Try
end
section
open Go.AM Go.Gm Go.Srt
namespace Go.Proofs.Try
set_option linter.unusedVariables false
set_option linter.unusedSimpArgs false
theorem F8_loop {l : List (List Int)} (h : Val l) {g : Nat} {p : List Int} {v2 n c0 c1 : Int} {L : List (List Int)} (hL : ∀ q ∈ L, PlanIn g l q) (hp : p ∈ L) (hn : L.length ≤ 1000) (hs : sugP l p = Tops.tops (mrgAll l) g) :
    iter (fun x => g8_0 x.1 x.2.1 x.2.2.1 x.2.2.2.1 x.2.2.2.2.1 x.2.2.2.2.2.1 x.2.2.2.2.2.2.1 x.2.2.2.2.2.2.2.1 x.2.2.2.2.2.2.2.2.1 x.2.2.2.2.2.2.2.2.2.1 x.2.2.2.2.2.2.2.2.2.2.1 x.2.2.2.2.2.2.2.2.2.2.2.1) (v2, l, (g : Int), p, n, (0 : Int), false, L, ((L.length : Nat) : Int), (0 : Int), c0, c1, ()) =
      some (v2, l, (g : Int), p, n, Tops.tops (mrgAll l) g, true, c0, c1, ()) := by
  have hl := h.len
  have hT := tops_bound h g
  have hpl : p.length ≤ 1000000 := by have := (hL p hp).len; omega
  obtain ⟨b, e, hb⟩ := iter_ex (step := fun x => g8_0 x.1 x.2.1 x.2.2.1 x.2.2.2.1 x.2.2.2.2.1 x.2.2.2.2.2.1 x.2.2.2.2.2.2.1 x.2.2.2.2.2.2.2.1 x.2.2.2.2.2.2.2.2.1 x.2.2.2.2.2.2.2.2.2.1 x.2.2.2.2.2.2.2.2.2.2.1 x.2.2.2.2.2.2.2.2.2.2.2.1) L.length
    (fun k x => ∃ m f, x = (v2, l, (g : Int), p, n, m, f, L, ((L.length : Nat) : Int), (k : Int), c0, c1, ()) ∧ 0 ≤ m ∧ m ≤ Tops.tops (mrgAll l) g ∧ (f = true → m = Tops.tops (mrgAll l) g) ∧ (p ∈ L.take k → f = true))
    (fun b => b = (v2, l, (g : Int), p, n, Tops.tops (mrgAll l) g, true, c0, c1, ())) (x := (v2, l, (g : Int), p, n, (0 : Int), false, L, ((L.length : Nat) : Int), (0 : Int), c0, c1, ()))
    (fun k x hk hx => by
      obtain ⟨m, f, rfl, q1, q2, q3, q4⟩ := hx
      have hq := hL _ (getD_mem (d := []) hk)
      have hsq := sug_most h hq
      simp only [g8_0, Int.toNat_natCast]
      rw [br_d, if_pos (by omega), need_inb (by omega) (by omega), F41_eq h hq.len hq.rng, bindO_s, take_succ_getD [] hk]
      cases f with
      | true =>
        refine ⟨_, by rw [br_t rfl, need_i64 (by omega) (by omega)], imax m (sugP l (L.getD k [])), true, by simp, ?_, ?_, fun _ => ?_, fun _ => rfl⟩
        · unfold imax; omega
        · unfold imax; omega
        · have := q3 rfl; unfold imax; omega
      | false =>
        refine ⟨_, by rw [br_f rfl, F26_eq hpl, bindO_s, need_i64 (by omega) (by omega)], imax m (sugP l (L.getD k [])), decide (p = L.getD k []), by simp, ?_, ?_, fun hf => ?_, fun hm => ?_⟩
        · unfold imax; omega
        · unfold imax; omega
        · have e : p = L.getD k [] := by simpa using hf
          rw [← e, hs]; unfold imax; omega
        · rcases List.mem_append.1 hm with hm | hm
          · have := q4 hm; cases this
          · have : p = L.getD k [] := by simpa using hm
            rw [← this]; simp)
    (fun x hx => by
      obtain ⟨m, f, rfl, q1, q2, q3, q4⟩ := hx
      have hf := q4 (by rw [List.take_length]; exact hp)
      refine ⟨_, by simp only [g8_0]; rw [br_d, if_neg (by omega)], ?_⟩
      rw [hf, q3 hf])
    ⟨0, false, rfl, by omega, by omega, (fun hh => (by cases hh)), (fun hm => (by simp at hm))⟩
  rw [e, hb]
theorem law8 (v : List (List Int)) (gangs wage : Int) (hW : WfAll [.list (.list (.int .u8)), .int .u8, .int .u8] (v, gangs, wage, ())) : F8 v gangs wage = some (true, ()) := by
  have hB := bytes_of hW.1
  have e1 : IntKind.u8.min = 0 := by decide
  have e2 : IntKind.u8.max = 255 := by decide
  have hg : 0 ≤ gangs ∧ gangs ≤ 255 := by have := hW.2.1; simp only [Wf] at this; rwa [e1, e2] at this
  have hw : 0 ≤ wage ∧ wage ≤ 255 := by have := hW.2.2.1; simp only [Wf] at this; rwa [e1, e2] at this
  obtain ⟨hv, hl4, hf4⟩ := valley_val hB
  obtain ⟨G, rfl⟩ : ∃ n : Nat, gangs = n := ⟨gangs.toNat, by omega⟩
  have eg : Int.tmod (G : Int) 18 = ((G % 18 : Nat) : Int) := rfl
  unfold F8
  rw [F39_eq hB, bindO_s]
  dsimp only
  rw [need_i64 (by omega) (by omega), need_t (by decide), eg]
  generalize hgg : G % 18 = g
  have hg18 : g < 18 := by omega
  generalize valley v = l at *
  have hb := wLo_wHi (M := 1000000) (by omega) (mrgAll_desc hv.desc) hv.mrgAll_small g
  have hT := tops_bound hv g
  have pf := plan_first hv (fun _ => 0) g
  have hbi := fun w h1 h2 => bnd_iff (g := g) (w := w) (mrgAll_desc hv.desc) hv.mrgAll_small h1 h2
  have hbt := fun w h1 => (bnd_tops (g := g) (w := w) (mrgAll_desc hv.desc) (fun x hx => (hv.mrgAll_small x hx).1) h1).1
  have hn5 : (plansL g l).length ≤ 625 := by
    have h1 := plans_length (g := g) (l := l) fun f hh => (hf4 f hh).1
    have : 5 ^ l.length ≤ 5 ^ 4 := Nat.pow_le_pow_right (by omega) hl4
    omega
  have lp := fun c0 c1 => F8_loop hv (v2 := wage) (n := Tops.tops (mrgAll l) g) (c0 := c0) (c1 := c1) (L := plansL g l) (fun q hq => mem_plans.1 hq) (mem_plans.2 pf.1) (by omega) pf.2
  rw [F22_good hv (by omega), bindO_s, F29_good hv (by omega), bindO_s, steps_first _ hv.desc]
  generalize hp : planOf l.length ((stepsF (fun _ => 0) l).take g) = p at *
  generalize hlo : wLo (mrgAll l) g = lo at *
  generalize hhi : wHi (mrgAll l) g 1000000 = hi at *
  generalize hTT : Tops.tops (mrgAll l) g = T at *
  dsimp only
  rw [br_not, br_t (by decide), br_not, br_t (by decide), br_not, br_eq, if_pos (by have := pf.1.len; omega), br_d, if_neg (by omega), br_d, if_neg (by omega), br_d, if_neg (by omega), F40_eq hl4 (fun f hf => (hf4 f hf).1) (by omega), bindO_s]
  dsimp only
  rw [bind_of (lp lo hi)]
  dsimp only
  have hm0 : 0 ≤ Int.tmod (7 * wage) (hi - lo + 1) := Int.tmod_nonneg _ (by omega)
  have hm1 : Int.tmod (7 * wage) (hi - lo + 1) < hi - lo + 1 := Int.tmod_lt_of_pos _ (by omega)
  generalize hx : lo + Int.tmod (7 * wage) (hi - lo + 1) = x at *
  have vx : ∀ w, lo ≤ w → w ≤ hi → verR l g w T = 0 := fun w h1 h2 => ver_ok hv (by omega) (by omega) (by omega) (by omega) (by have := (hbi w (by omega) (by omega)).2 ⟨h1, h2⟩; omega)
  have vn : ∀ w, 0 ≤ w → w ≤ 1000000 → ¬(lo ≤ w ∧ w ≤ hi) → verR l g w T = 11 := fun w h1 h2 h3 => ver_no hv (by omega) (by omega) (by omega) (by omega) (by
    have := hbt w h1
    by_cases c : bnd (mrgAll l) g w = T
    · exact absurd ((hbi w h1 h2).1 c) h3
    · omega)
  have vl : 0 < T → verR l g wage (T - 1) = 11 := fun h => ver_no hv (by omega) (by omega) (by omega) (by omega) (by have := hbt wage hw.1; omega)
  have bb := bndR_good hv (g := g) (by omega) (w := wage) (by omega) (by omega)
  have bw := hbt wage hw.1
  have vb : verR l g wage (bnd (mrgAll l) g wage) = 0 := ver_ok hv (by omega) (by omega) (by omega) (by omega) (Int.le_refl _)
  have tail : (need (rng .i64 wage) (bindO (F27 l (g : Int) wage) fun y14 => brO (y14.2.1 == (0 : Int)) (brO (decide (T ≤ y14.1)) (need (rng .i64 wage) (bindO (F31 l (g : Int) wage y14.1) fun y15 => brO (y15.1 == (0 : Int)) (bindO (F16) fun y16 => some (y16.1, ())) (some (false, ())))) (some (false, ()))) (some (false, ())))) = some (true, ()) := by
    rw [need_i64 (by omega) (by omega), F27_eq, bindO_s, bb]
    dsimp only
    rw [br_t (by decide), br_d, if_pos bw, need_i64 (by omega) (by omega), F31_eq, bindO_s, vb]
    dsimp only
    rw [br_t (by decide), F16_eq, bindO_s]
  have tail2 : (brO (decide (hi < 1000000)) (need (rng .i64 (hi + 1)) (bindO (F31 l (g : Int) (hi + 1) T) fun y13 => brO (!(y13.1 == (11 : Int))) (some (false, ())) (need (rng .i64 wage) (bindO (F27 l (g : Int) wage) fun y14 => brO (y14.2.1 == (0 : Int)) (brO (decide (T ≤ y14.1)) (need (rng .i64 wage) (bindO (F31 l (g : Int) wage y14.1) fun y15 => brO (y15.1 == (0 : Int)) (bindO (F16) fun y16 => some (y16.1, ())) (some (false, ())))) (some (false, ()))) (some (false, ())))))) (need (rng .i64 wage) (bindO (F27 l (g : Int) wage) fun y14 => brO (y14.2.1 == (0 : Int)) (brO (decide (T ≤ y14.1)) (need (rng .i64 wage) (bindO (F31 l (g : Int) wage y14.1) fun y15 => brO (y15.1 == (0 : Int)) (bindO (F16) fun y16 => some (y16.1, ())) (some (false, ())))) (some (false, ()))) (some (false, ()))))) = some (true, ()) := by
    rw [br_d]
    by_cases c : hi < 1000000
    · rw [if_pos c, need_i64 (by omega) (by omega), F31_eq, bindO_s, vn (hi + 1) (by omega) (by omega) (by omega)]
      dsimp only
      rw [br_not, br_t (by decide)]
      exact tail
    · rw [if_neg c]; exact tail
  rw [br_not, br_t rfl, br_not, br_t (by simp), F41_eq hv pf.1.len pf.1.rng, bindO_s, pf.2]
  dsimp only
  rw [br_not, br_t (by simp), need_i64 (by omega) (by omega), need_i64 (by omega) (by omega), need_i64 (by omega) (by omega), need_i64 (by omega) (by omega), need_t (by simp; omega), need_i64 (by omega) (by omega), F31_eq, bindO_s, vx x (by omega) (by omega)]
  dsimp only
  rw [br_not, br_t (by decide), F31_eq, bindO_s, vx lo (by omega) (by omega)]
  dsimp only
  rw [br_not, br_t (by decide), F31_eq, bindO_s, vx hi (by omega) (by omega)]
  dsimp only
  have tail3 : ∀ R : Option (Bool × Unit), R = some (true, ()) → (brO (decide (0 < lo)) (need (rng .i64 (lo - 1)) (bindO (F31 l (g : Int) (lo - 1) T) fun y12 => brO (!(y12.1 == (11 : Int))) (some (false, ())) R)) R) = some (true, ()) := fun R hR => by
    rw [br_d]
    by_cases c : 0 < lo
    · rw [if_pos c, need_i64 (by omega) (by omega), F31_eq, bindO_s, vn (lo - 1) (by omega) (by omega) (by omega)]
      dsimp only
      rw [br_not, br_t (by decide), hR]
    · rw [if_neg c, hR]
  rw [br_not, br_t (by decide), br_d]
  by_cases c : 0 < T
  · rw [if_pos c, need_i64 (by omega) (by omega), need_i64 (by omega) (by omega), F31_eq, bindO_s, vl c]
    dsimp only
    rw [br_not, br_t (by decide)]
    exact tail3 _ tail2
  · rw [if_neg c]
    exact tail3 _ tail2
end Go.Proofs.Try
end
