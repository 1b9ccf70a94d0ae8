/- What the plain functions of gang and its reference come to. Check of fields: the program and its reference find the same first error. Sums and the sugar of plans: the program and its reference count the same. The steps of fields in order, and best plans. The reference's best plans: field by field, for each number of gangs. What the laws share: given, large, works; the plan of a best one. The sugar of best plans for each number of gangs. Bounds of wages, wages, and what they prove. Valleys by numbers are valid fields; all plans, and their sugar. All plans of small fields, and the sugar of each. GangSteps, as a plain law. -/
import Derived.Test.YtigglifniejbpaaX10
set_option linter.unusedSectionVars false
set_option linter.unusedVariables false
set_option linter.unusedSimpArgs false
section
open Go.AM
namespace Go.Proofs.Try
set_option linter.unusedVariables false
set_option linter.unusedSimpArgs false
theorem F48_eq (a b c : Int) : F48 a b c = some (decide (a ≤ b) && decide (b ≤ c), ()) := by
 unfold F48; rw [br_d]; by_cases h : a ≤ b <;> simp [h]
theorem F53_eq (a : Int) : F53 a = some (decide (0 ≤ a) && decide (a ≤ 1000000), ()) := by
 unfold F53; rw [F48_eq, bindO_s]
/-- The sum of the first numbers. -/
def sumN (l : List Int) (k : Nat) : Int := (l.take k).sum
theorem sumN_succ {l : List Int} {k : Nat} (h : k < l.length) : sumN l (k + 1) = sumN l k + l.getD k 0 := by
 unfold sumN
 rw [List.take_succ_eq_append_getElem h, List.sum_append]
 simp [List.getD, h]
theorem sumN_bound {l : List Int} {c : Int} (hc : 0 ≤ c) (hb : ∀ x ∈ l, 0 ≤ x ∧ x ≤ c) (k : Nat) : 0 ≤ sumN l k ∧ sumN l k ≤ k * c := by
 induction k with
 | zero => simp [sumN]
 | succ k ih =>
  by_cases h : k < l.length
  ·rw [sumN_succ h]
   have : l.getD k 0 ∈ l := by simp [List.getD, h]
   have := hb _ this
   rw [Int.natCast_add, Int.add_mul]
   omega
  ·have : sumN l (k + 1) = sumN l k := by unfold sumN; rw [List.take_of_length_le (by omega), List.take_of_length_le (by omega)]
   rw [this, Int.natCast_add, Int.add_mul]
   omega
end Go.Proofs.Try
end
section
open Go.AM
namespace Go.Proofs.Try
set_option linter.unusedVariables false
set_option linter.unusedSimpArgs false
/-- The error of the k-th gain of a table. -/
def stopT (t : List Int) (k : Nat) : Option Int :=
 if ¬(0 ≤ t.getD k 0 ∧ t.getD k 0 ≤ 1000000) then some 2 else if 0 < k ∧ t.getD (k - 1) 0 < t.getD k 0 then some 7 else none
def errT (t : List Int) : Option Int := (List.range t.length).findSome? (stopT t)
def stopL (l : List (List Int)) (i : Nat) : Option Int := if 10 < (l.getD i []).length then some 1 else errT (l.getD i [])
def errL (l : List (List Int)) : Option Int := (List.range l.length).findSome? (stopL l)
def chk (l : List (List Int)) : Int := if 12 < l.length then 1 else (errL l).getD 0
theorem F52_in {l : List (List Int)} {t : List Int} {i : Nat} (ht : t.length ≤ 10) : iter (fun x => g52_1 x.1 x.2.1 x.2.2.1 x.2.2.2.1 x.2.2.2.2.1 x.2.2.2.2.2.1 x.2.2.2.2.2.2.1) (t, l, ((l.length : Nat) : Int), (i : Int), t, ((t.length : Nat) : Int), (0 : Int), ()) =
  some ((errT t).elim (.inr (l, ((l.length : Nat) : Int), (i : Int), ())) (fun e => .inl (e, ()))) := by
 have key := iter_find (step := fun x => g52_1 x.1 x.2.1 x.2.2.1 x.2.2.2.1 x.2.2.2.2.1 x.2.2.2.2.2.1 x.2.2.2.2.2.2.1) t.length (fun k => (t, l, ((l.length : Nat) : Int), (i : Int), t, ((t.length : Nat) : Int), (k : Int), ())) (stopT t) (fun e => .inl (e, ())) (b := .inr (l, ((l.length : Nat) : Int), (i : Int), ())) (fun k hk _ => by
  simp only [g52_1, Int.toNat_natCast]
  rw [br_d, if_pos (by omega), need_inb (by omega) (by omega), F53_eq, bindO_s, br_not]
  unfold stopT
  by_cases h1 : 0 ≤ t.getD k 0 ∧ t.getD k 0 ≤ 1000000
  ·rw [if_neg (by simpa using h1), br_t (by simp only [Bool.and_eq_true, decide_eq_true_eq]; exact h1), br_d]
   by_cases h2 : 0 < k
   ·have e : ((k : Int) - 1).toNat = k - 1 := by omega
    rw [if_pos (by omega), need_i64 (by omega) (by omega), need_inb (by omega) (by omega)]
    unfold F54
    rw [bindO_s, br_not, e]
    by_cases h3 : t.getD (k - 1) 0 < t.getD k 0
    ·rw [if_pos ⟨h2, h3⟩, br_f (by simp only [decide_eq_false_iff_not]; omega)]
    ·rw [if_neg (fun h => h3 h.2), br_t (by simp only [decide_eq_true_eq]; omega), need_i64 (by omega) (by omega)]
     simp
   ·rw [if_neg (by omega), if_neg (fun h => h2 h.1), need_i64 (by omega) (by omega)]
    simp
  ·rw [if_pos h1, br_f (by simpa using h1)]) (fun _ => by simp only [g52_1]; rw [br_d, if_neg (by omega)])
 simpa only [Int.natCast_zero, errT] using key
theorem F52_eq {l : List (List Int)} : F52 l = some (chk l, ()) := by
 unfold F52 chk
 rw [br_d]
 by_cases h0 : 12 < l.length
 ·rw [if_pos (by omega), if_pos h0]
 ·rw [if_neg (by omega), if_neg h0]
  have key := iter_find (step := fun x => g52_0 x.1 x.2.1 x.2.2.1) l.length (fun k => (l, ((l.length : Nat) : Int), (k : Int), ())) (stopL l) (fun e => .inl (e, ())) (b := .inr ()) (fun k hk _ => by
   simp only [g52_0, Int.toNat_natCast]
   rw [br_d, if_pos (by omega), need_inb (by omega) (by omega), br_d]
   unfold stopL
   by_cases h1 : 10 < (l.getD k []).length
   ·rw [if_pos (by omega), if_pos h1]
   ·rw [if_neg (by omega), if_neg h1, F52_in (by omega), bindO_s]
    cases errT (l.getD k []) with
    | some e => rfl
    | none =>
     simp only [Option.elim]
     rw [need_i64 (by omega) (by omega)]
     simp) (fun _ => by simp only [g52_0]; rw [br_d, if_neg (by omega)])
  simp only [Int.natCast_zero] at key
  rw [bind_of key]
  unfold errL
  cases (List.range l.length).findSome? (stopL l) <;> rfl
theorem F20_eq {l : List (List Int)} : F20 l = some (chk l, ()) := by
 unfold F20; rw [F52_eq, bindO_s]
end Go.Proofs.Try
end
section
open Go.AM Go.Gm
namespace Go.Proofs.Try
set_option linter.unusedVariables false
set_option linter.unusedSimpArgs false
/-- Small numbers. -/
def Small (l : List Int) (c : Int) : Prop := ∀ x ∈ l, 0 ≤ x ∧ x ≤ c
/-- What is so of valid fields. -/
structure Val (l : List (List Int)) : Prop where
 len : l.length ≤ 12
 tab : ∀ f ∈ l, f.length ≤ 10
 sm : ∀ f ∈ l, Small f 1000000
 desc : ∀ f ∈ l, Tops.Desc f
theorem findSome_none {n : Nat} {f : Nat → Option Int} : (List.range n).findSome? f = none ↔ ∀ k, k < n → f k = none := by
 rw [List.findSome?_eq_none_iff]; simp
theorem errT_none {t : List Int} : errT t = none ↔ Small t 1000000 ∧ Tops.Desc t := by
 unfold errT
 rw [findSome_none]
 constructor
 ·intro h
  have h1 : ∀ k, k < t.length → 0 ≤ t.getD k 0 ∧ t.getD k 0 ≤ 1000000 := fun k hk => by
   have := h k hk
   unfold stopT at this
   by_cases hh : 0 ≤ t.getD k 0 ∧ t.getD k 0 ≤ 1000000
   ·exact hh
   ·rw [if_pos hh] at this; cases this
  have h2 : ∀ k, k + 1 < t.length → t.getD (k + 1) 0 ≤ t.getD k 0 := fun k hk => by
   have := h (k + 1) hk
   unfold stopT at this
   rw [if_neg (by have := h1 (k + 1) hk; omega)] at this
   by_cases hh : 0 < k + 1 ∧ t.getD (k + 1 - 1) 0 < t.getD (k + 1) 0
   ·rw [if_pos hh] at this; cases this
   ·simp only [Nat.add_sub_cancel] at hh; omega
  have h3 : ∀ d k, k + d < t.length → t.getD (k + d) 0 ≤ t.getD k 0 := by
   intro d
   induction d with
   | zero => intro k hk; exact Int.le_refl _
   | succ d ih => intro k hk; have := ih k (by omega); have := h2 (k + d) (by omega); rw [← Nat.add_assoc]; omega
  constructor
  ·intro x hx
   obtain ⟨k, hk, rfl⟩ := List.mem_iff_getElem.1 hx
   have := h1 k hk
   rwa [getD_el 0 hk] at this
  ·unfold Tops.Desc
   rw [List.pairwise_iff_getElem]
   intro i j hi hj hij
   have := h3 (j - i) i (by omega)
   rw [show i + (j - i) = j by omega, getD_el 0 hi, getD_el 0 hj] at this
   exact this
 ·intro ⟨h1, h2⟩ k hk
  unfold stopT
  have a := h1 _ (getD_mem (d := 0) hk)
  rw [if_neg (by omega)]
  by_cases h0 : 0 < k
  ·have := (List.pairwise_iff_getElem.1 h2) (k - 1) k (by omega) hk (by omega)
   rw [getD_el 0 hk, getD_el 0 (show k - 1 < t.length by omega), if_neg (by omega)]
  ·rw [if_neg (by omega)]
theorem errT_ne {t : List Int} {e : Int} (h : errT t = some e) : e ≠ 0 := by
 unfold errT at h
 obtain ⟨k, _, hk⟩ := List.exists_of_findSome?_eq_some h
 unfold stopT at hk
 split at hk
 ·cases hk; decide
 ·split at hk
  ·cases hk; decide
  ·cases hk
theorem chk_val {l : List (List Int)} : chk l = 0 ↔ Val l := by
 unfold chk errL
 constructor
 ·intro h
  by_cases h0 : 12 < l.length
  ·rw [if_pos h0] at h; cases h
  rw [if_neg h0] at h
  cases he : (List.range l.length).findSome? (stopL l) with
  | some e =>
   rw [he] at h
   simp only [Option.getD] at h
   subst h
   obtain ⟨k, _, hk⟩ := List.exists_of_findSome?_eq_some he
   unfold stopL at hk
   split at hk
   ·cases hk
   ·exact absurd rfl (errT_ne hk)
  | none =>
   have hs := findSome_none.1 he
   have key : ∀ f ∈ l, f.length ≤ 10 ∧ Small f 1000000 ∧ Tops.Desc f := fun f hf => by
    obtain ⟨k, hk, rfl⟩ := List.mem_iff_getElem.1 hf
    have := hs k hk
    unfold stopL at this
    rw [getD_el [] hk] at this
    split at this
    ·cases this
    ·exact ⟨by omega, errT_none.1 this⟩
   exact ⟨by omega, fun f hf => (key f hf).1, fun f hf => (key f hf).2.1, fun f hf => (key f hf).2.2⟩
 ·intro h
  rw [if_neg (by have := h.len; omega)]
  have : (List.range l.length).findSome? (stopL l) = none := findSome_none.2 fun k hk => by
   unfold stopL
   have hm := getD_mem (d := []) hk
   rw [if_neg (by have := h.tab _ hm; omega), errT_none.2 ⟨h.sm _ hm, h.desc _ hm⟩]
  rw [this]; rfl
theorem Val.getD {l : List (List Int)} (h : Val l) (k : Nat) : (l.getD k []).length ≤ 10 ∧ Small (l.getD k []) 1000000 := by
 by_cases hk : k < l.length
 ·exact ⟨h.tab _ (getD_mem hk), h.sm _ (getD_mem hk)⟩
 ·rw [getD_out [] (by omega)]; exact ⟨by simp, fun x hx => by cases hx⟩
theorem sumN_le {l : List Int} {c : Int} (hc : 0 ≤ c) (hb : Small l c) (k : Nat) : 0 ≤ sumN l k ∧ sumN l k ≤ l.length * c := by
 by_cases h : k ≤ l.length
 ·have := sumN_bound hc hb k
  have h2 : (k : Int) * c ≤ l.length * c := Int.mul_le_mul_of_nonneg_right (by omega) hc
  omega
 ·have e : sumN l k = sumN l l.length := by unfold sumN; rw [List.take_of_length_le (by omega), List.take_of_length_le (Nat.le_refl _)]
  rw [e]; exact sumN_bound hc hb l.length
theorem Val.sumN {l : List (List Int)} (h : Val l) (k j : Nat) : 0 ≤ sumN (l.getD k []) j ∧ sumN (l.getD k []) j ≤ 10000000 := by
 have := sumN_le (by omega) (h.getD k).2 j
 have := (h.getD k).1
 omega
/-- The sugar of a plan, and how many gangs it has. -/
def stopP (l : List (List Int)) (p : List Int) (k : Nat) : Option Int := if 0 ≤ p.getD k 0 ∧ p.getD k 0 ≤ ((l.getD k []).length : Nat) then none else some 10
def sug (l : List (List Int)) (p : List Int) : Int × Int × Int :=
 if chk l ≠ 0 then (0, 0, chk l) else if p.length ≠ l.length then (0, 0, 3) else
  match (List.range p.length).findSome? (stopP l p) with
  | some e => (0, 0, e)
  | none => (p.sum, sumR p.length (fun i => sumN (l.getD i []) (p.getD i 0).toNat), 0)
theorem stopP_none {l : List (List Int)} {p : List Int} {k : Nat} : stopP l p k = none ↔ 0 ≤ p.getD k 0 ∧ p.getD k 0 ≤ ((l.getD k []).length : Nat) := by
 unfold stopP; split <;> simp_all
end Go.Proofs.Try
end
section
open Go.AM Go.Gm Go.Srt
namespace Go.Proofs.Try
set_option linter.unusedVariables false
set_option linter.unusedSimpArgs false
theorem F76_3 (a b c : Int) : F76 [a, b, c] = some (if a ≠ 0 then a else if b ≠ 0 then b else c, ()) := by
 unfold F76
 have key := iter_find (step := fun x => g76_0 x.1 x.2.1 x.2.2.1 x.2.2.2.1) 3 (fun k => ((0 : Int), ([a, b, c], ((3 : Int), ((k : Int), ()))))) (fun k => if [a, b, c].getD k 0 ≠ 0 then some ([a, b, c].getD k 0) else none) (fun e => .inl (e, ())) (b := .inr (0, ())) (fun k hk _ => by
  simp only [g76_0, Int.toNat_natCast]
  rw [br_d, if_pos (by omega), need_inb (by omega) (by simp; omega), br_not, br_eq]
  by_cases h : [a, b, c].getD k 0 = 0
  ·rw [if_pos h, if_neg (by simpa using h), need_i64 (by omega) (by omega)]; simp
  ·rw [if_neg h, if_pos h]) (fun _ => by simp only [g76_0]; rw [br_d, if_neg (by omega)])
 have q : iter (fun x => g76_0 x.1 x.2.1 x.2.2.1 x.2.2.2.1) ((0 : Int), ([a, b, c], (((([a, b, c]).length : Nat) : Int), ((0 : Int), ())))) = _ := key
 rw [bind_of q]
 have e : List.range 3 = [0, 1, 2] := by decide
 rw [e]
 by_cases ha : a = 0
 ·by_cases hb : b = 0
  ·by_cases hc : c = 0 <;> simp [ha, hb, hc]
  ·simp [ha, hb]
 ·simp [ha]
/-- Steps that are small enough. -/
def GoodS (s : Int × Int) : Prop := (0 ≤ s.1 ∧ s.1 ≤ 1000000) ∧ (0 ≤ s.2 ∧ s.2 ≤ 1000)
theorem ltF_z {fv : Int → Int} {a b : Int × Int} (f1 : -1000 ≤ fv a.2 ∧ fv a.2 ≤ 1000) (f2 : -1000 ≤ fv b.2 ∧ fv b.2 ≤ 1000) :
  ltF fv a b = decide ((if b.1 - a.1 ≠ 0 then b.1 - a.1 else if fv b.2 - fv a.2 ≠ 0 then fv b.2 - fv a.2 else a.2 - b.2) < 0) := by
 unfold ltF
 rw [Bool.eq_iff_iff]
 simp only [Bool.or_eq_true, Bool.and_eq_true, decide_eq_true_eq, beq_iff_eq]
 by_cases h1 : b.1 - a.1 = 0
 ·by_cases h2 : fv b.2 - fv a.2 = 0
  ·rw [if_neg (by omega), if_neg (by omega)]; omega
  ·rw [if_neg (by omega), if_pos (by omega)]; omega
 ·rw [if_pos (by omega)]; omega
theorem F75_ok : CmpOk F75 (ltF fun _ => 0) GoodS := ⟨ltF_ord _, fun a b ha hb => by
 obtain ⟨⟨a1, a2⟩, a3, a4⟩ := ha
 obtain ⟨⟨b1, b2⟩, b3, b4⟩ := hb
 unfold F75 F59
 by_cases h : a = b
 ·subst h
  refine ⟨0, ?_, ?_⟩
  ·rw [br_t (by simp)]
  ·simp [ltF]
 ·have hne : ((a.1 == b.1) && ((a.2 == b.2) && true)) = false := by
   cases hc : ((a.1 == b.1) && ((a.2 == b.2) && true)) with
   | false => rfl
   | true => exact absurd (Prod.ext_iff.2 (by simpa using hc)) h
  refine ⟨_, ?_, ltF_z (by omega) (by omega)⟩
  rw [br_f hne, need_i64 (by omega) (by omega), bindO_s, bindO_s, need_i64 (by omega) (by omega), need_i64 (by omega) (by omega)]
  have := F76_3 (b.1 - a.1) ((0 : Int) - 0) (a.2 - b.2)
  simp only [List.drop_zero]
  rw [show List.take 3 [b.1 - a.1, (0 : Int) - 0, a.2 - b.2] = [b.1 - a.1, (0 : Int) - 0, a.2 - b.2] by rfl, this, bindO_s]⟩
theorem FH74_eq (n : Nat) (l : List (Int × Int)) : FH74_v1 n l = S74 F75 (0, 0) n l := rfl
theorem allFrom_good {l : List (List Int)} (h : Val l) {s : Int × Int} (hs : s ∈ allFrom 0 l) : GoodS s := by
 obtain ⟨j, h1, h2, h3⟩ := allFrom_mem hs
 have hl := h.len
 have := (h.getD j).2 _ h3
 exact ⟨this, by rw [h2]; omega⟩
theorem flat_len {l : List (List Int)} (h : Val l) (k : Nat) : (l.take k).flatten.length ≤ k * 10 := by
 induction k with
 | zero => simp
 | succ k ih =>
  by_cases hk : k < l.length
  ·rw [take_succ_getD [] hk, List.flatten_append, List.length_append]
   have := (h.getD k).1
   simp only [List.flatten_cons, List.flatten_nil, List.append_nil]; omega
  ·rw [List.take_of_length_le (by omega)] at ih ⊢; omega
theorem Val.flat {l : List (List Int)} (h : Val l) : l.flatten.length ≤ 120 := by
 have := flat_len h l.length
 rw [List.take_length] at this
 have := h.len; omega
theorem F58_in {l : List (List Int)} {f : List Int} {base : List (Int × Int)} {i : Nat} (hi : i < 1000) (hf : f.length ≤ 10) (hb : base.length ≤ 1000) :
  iter (fun x => g58_1 x.1 x.2.1 x.2.2.1 x.2.2.2.1 x.2.2.2.2.1 x.2.2.2.2.2.1 x.2.2.2.2.2.2.1 x.2.2.2.2.2.2.2.1 x.2.2.2.2.2.2.2.2.1) (base.length, ((i : Int), (l, (((l.length : Nat) : Int), ((i : Int), (f, (((f.length : Nat) : Int), ((0 : Int), (base, ()))))))))) =
  some ((base ++ f.map (fun g => (g, (i : Int)))).length, (l, (((l.length : Nat) : Int), ((i : Int), (base ++ f.map (fun g => (g, (i : Int))), ()))))) := by
 have key := iter_count (step := fun x => g58_1 x.1 x.2.1 x.2.2.1 x.2.2.2.1 x.2.2.2.2.1 x.2.2.2.2.2.1 x.2.2.2.2.2.2.1 x.2.2.2.2.2.2.2.1 x.2.2.2.2.2.2.2.2.1) f.length
  (fun k => ((base ++ (f.take k).map (fun g => (g, (i : Int)))).length, ((i : Int), (l, (((l.length : Nat) : Int), ((i : Int), (f, (((f.length : Nat) : Int), ((k : Int), (base ++ (f.take k).map (fun g => (g, (i : Int))), ()))))))))) )
  (b := ((base ++ f.map (fun g => (g, (i : Int)))).length, (l, (((l.length : Nat) : Int), ((i : Int), (base ++ f.map (fun g => (g, (i : Int))), ())))))) (fun k hk => by
   simp only [g58_1, Int.toNat_natCast]
   rw [br_d, if_pos (by omega), need_inb (by omega) (by omega), need_big (by simp; omega), need_i64 (by omega) (by omega), take_succ_getD 0 hk]
   simp
   exact ⟨by omega, by rw [List.take_of_length_le (by simp)]; simp⟩) (by
   simp only [g58_1]; rw [br_d, if_neg (by omega), List.take_length])
 simp only [List.take_zero, List.map_nil, List.append_nil, Int.natCast_zero] at key
 exact key
theorem F58_eq {l : List (List Int)} (h : Val l) : F58 l = some (stepsF (fun _ => 0) l, ()) := by
 have hl := h.len
 have hfl := h.flat
 have key := iter_count (step := fun x => g58_0 x.1 x.2.1 x.2.2.1 x.2.2.2.1 x.2.2.2.2.1) l.length
  (fun k => ((allFrom 0 (l.take k)).length, (l, (((l.length : Nat) : Int), ((k : Int), (allFrom 0 (l.take k), ()))))))
  (b := ((allFrom 0 l).length, (allFrom 0 l, ()))) (fun k hk => by
   have e := allFrom_append 0 (l.take k) [l.getD k []]
   rw [← take_succ_getD [] hk] at e
   have hlen : (allFrom 0 (l.take k)).length ≤ 120 := by rw [allFrom_length]; have := flat_len h k; omega
   have e2 : (l.take k).length = k := by simp; omega
   rw [e2, Nat.zero_add] at e
   simp only [allFrom, List.append_nil] at e
   simp only [g58_0, Int.toNat_natCast]
   rw [br_d, if_pos (by omega), need_inb (by omega) (by omega), bind_of (F58_in (l := l) (f := l.getD k []) (by omega) (h.getD k).1 (by omega))]
   dsimp only
   rw [need_i64 (by omega) (by omega), e]
   simp) (by simp only [g58_0]; rw [br_d, if_neg (by omega), List.take_length])
 simp only [List.take_zero, allFrom, List.length_nil, Int.natCast_zero] at key
 unfold F58
 rw [bind_of key]
 dsimp only
 rw [FH74_eq, S74_ok F75_ok (fun z hz => allFrom_good h hz) rfl (by rw [allFrom_length]; omega), bindO_s]
 unfold F77
 rw [bindO_s]
 have : List.take (allFrom 0 l).length (srt (ltF fun _ => 0) (allFrom 0 l)) = srt (ltF fun _ => 0) (allFrom 0 l) := List.take_of_length_le (by rw [srt_length]; omega)
 simp only [List.drop_zero]
 rw [this]
 rfl
/-- How many of some steps each field has. -/
def planOf (n : Nat) (t : List (Int × Int)) : List Int := (List.range n).map fun j => ((cnt j t : Nat) : Int)
theorem planOf_length (n : Nat) (t : List (Int × Int)) : (planOf n t).length = n := by simp [planOf]
theorem planOf_getD {n j : Nat} (t : List (Int × Int)) (h : j < n) : (planOf n t).getD j 0 = ((cnt j t : Nat) : Int) := by
 simp [planOf, List.getD_eq_getElem?_getD, h]
theorem planOf_nil (n : Nat) : planOf n [] = List.replicate n 0 := by
 apply List.ext_getElem
 ·simp [planOf]
 ·intro i h1 h2; simp [planOf, cnt]
theorem planOf_snoc {n j : Nat} (t : List (Int × Int)) {s : Int × Int} (h : j < n) (e : s.2 = (j : Nat)) : planOf n (t ++ [s]) = (planOf n t).set j ((planOf n t).getD j 0 + 1) := by
 rw [planOf_getD t h]
 apply List.ext_getElem
 ·simp [planOf]
 ·intro i h1 h2
  rw [List.getElem_set]
  simp only [planOf, List.getElem_map, List.getElem_range, cnt_snoc, e]
  by_cases hh : j = i
  ·subst hh; simp
  ·rw [if_neg hh, if_neg (by omega)]; simp
theorem steps_good {l : List (List Int)} (h : Val l) (fv : Int → Int) {s : Int × Int} (hs : s ∈ stepsF fv l) : GoodS s := allFrom_good h ((stepsF_perm fv l).mem_iff.1 hs)
theorem steps_len {l : List (List Int)} (h : Val l) (fv : Int → Int) : (stepsF fv l).length ≤ 120 := by rw [stepsF_length]; exact h.flat
theorem gsum_bound {t : List (Int × Int)} (h : ∀ s ∈ t, GoodS s) : 0 ≤ gsum t ∧ gsum t ≤ t.length * 1000000 := by
 have := sumN_bound (l := t.map (·.1)) (c := 1000000) (by omega) (fun x hx => by obtain ⟨s, hs, rfl⟩ := List.mem_map.1 hx; exact (h s hs).1) t.length
 unfold sumN at this
 rwa [List.take_of_length_le (by simp)] at this
theorem cnt_le (j : Nat) (t : List (Int × Int)) : cnt j t ≤ t.length := List.length_filter_le ..
theorem F56_in {n g : Nat} {t : List (Int × Int)} (hg : ∀ s ∈ t, GoodS s) (hj : ∀ s ∈ t, ∃ j, j < n ∧ s.2 = (j : Nat)) (ht : t.length ≤ 1000) (hgg : g ≤ 1000) :
  bindO (g56_0 t (g : Int) n 0 (List.replicate n 0)) (fun z4 => match z4 with
   | .inl z5 => some ((((z5.2.2.1).drop (0 : Nat)).take z5.1), (z5.2.1, ()))
   | .inr z6 => some ((((z6.2.2.1).drop (0 : Nat)).take z6.1), (z6.2.1, ()))) = some (planOf n (t.take g), (gsum (t.take g), ())) := by
 have key := iter_count (step := fun x => g56_0i_0 x.1 x.2.1 x.2.2.1 x.2.2.2.1 x.2.2.2.2.1 x.2.2.2.2.2.1 x.2.2.2.2.2.2.1 x.2.2.2.2.2.2.2.1) (min g t.length)
  (fun k => (t, (((t.length : Nat) : Int), ((k : Int), (t, (((g : Int) - k), (n, (gsum (t.take k), (planOf n (t.take k), ())))))))))
  (b := if g < t.length then .inl (0, (n, (gsum (t.take g), (t, (planOf n (t.take g), ()))))) else .inr ((g : Int) - t.length, (n, (gsum (t.take g), (t, (planOf n (t.take g), ())))))) (fun k hk => by
   have hkt : k < t.length := by omega
   have hm := getD_mem (d := ((0 : Int), (0 : Int))) hkt
   obtain ⟨j, hj1, hj2⟩ := hj _ hm
   have hgs := hg _ hm
   have hb := gsum_bound (t := t.take k) (fun s hs => hg s (List.mem_of_mem_take hs))
   have hc := cnt_le j (t.take k)
   simp only [List.length_take] at hb hc
   simp only [g56_0i_0, Int.toNat_natCast]
   rw [br_d, if_pos (by omega), need_inb (by omega) (by omega), br_eq, if_neg (by omega), need_i64 (by omega) (by omega)]
   simp only [hj2, Int.toNat_natCast, Nat.zero_add]
   rw [need_inb (by omega) (by omega), need_d (by rw [planOf_length]; omega), need_i64 (by rw [planOf_getD _ hj1]; omega) (by rw [planOf_getD _ hj1]; omega), need_inb (by omega) (by omega), need_d (by rw [planOf_length]; omega), need_i64 (by have := hgs.1; omega) (by have := hgs.1; omega), need_i64 (by omega) (by omega)]
   rw [take_succ_getD (0, 0) hkt, gsum_snoc, planOf_snoc _ hj1 hj2]
   rw [show (g : Int) - ((k + 1 : Nat) : Int) = (g : Int) - k - 1 by omega, show ((k + 1 : Nat) : Int) = (k : Int) + 1 by omega]) (by
   simp only [g56_0i_0, Int.toNat_natCast]
   by_cases c : g < t.length
   ·rw [show min g t.length = g by omega, br_d, if_pos (by omega), need_inb (by omega) (by omega), br_eq, if_pos (by omega), if_pos c]
    simp
   ·rw [show min g t.length = t.length by omega, br_d, if_neg (by omega), if_neg c, List.take_length, List.take_of_length_le (by omega)])
 simp only [List.take_zero, Int.natCast_zero, Int.sub_zero, planOf_nil] at key
 have e0 : gsum [] = 0 := rfl
 rw [e0] at key
 unfold g56_0
 rw [bind_of key]
 have hp : List.take n (planOf n (t.take g)) = planOf n (t.take g) := List.take_of_length_le (by rw [planOf_length]; omega)
 by_cases c : g < t.length
 ·rw [if_pos c]; simp only [bindO_s, List.drop_zero, hp]
 ·rw [if_neg c]; simp only [bindO_s, List.drop_zero, hp]
theorem F56_eq {l : List (List Int)} (h : Val l) {g : Nat} (hg : g ≤ 1000) : F56 l g = some (planOf l.length ((stepsF (fun _ => 0) l).take g), (gsum ((stepsF (fun _ => 0) l).take g), ())) := by
 have hl := h.len
 have := steps_len h (fun _ => 0)
 unfold F56
 rw [need_inbL (by omega) (by omega), F58_eq h, bindO_s]
 simp only [Int.toNat_natCast]
 exact F56_in (fun s hs => steps_good h _ hs) (fun s hs => steps_fields _ hs) (by omega) hg
/-- The error of fields and a number of gangs. -/
def chkG (l : List (List Int)) (g : Int) : Int := if chk l = 0 then if 0 ≤ g ∧ g ≤ 200 then 0 else 2 else chk l
theorem F55_eq {l : List (List Int)} {g : Int} : F55 l g = some (chkG l g, ()) := by
 unfold F55 chkG
 rw [F20_eq, bindO_s]
 dsimp only
 rw [br_eq]
 by_cases h0 : chk l = 0
 ·rw [if_pos h0, if_pos h0, F48_eq, bindO_s, br_not]
  by_cases h1 : 0 ≤ g ∧ g ≤ 200
  ·rw [br_t (by simpa using h1), if_pos h1, h0]
  ·rw [br_f (by simpa using h1), if_neg h1]
 ·rw [if_neg h0, if_neg h0]
theorem val_chkG {l : List (List Int)} {g : Int} (h : Val l) (h1 : 0 ≤ g) (h2 : g ≤ 200) : chkG l g = 0 := by
 unfold chkG; rw [if_pos (chk_val.2 h), if_pos ⟨h1, h2⟩]
theorem F22_good {l : List (List Int)} (h : Val l) {g : Nat} (hg : g ≤ 200) : F22 l g = some (planOf l.length ((stepsF (fun _ => 0) l).take g), gsum ((stepsF (fun _ => 0) l).take g), 0, ()) := by
 unfold F22
 rw [F55_eq, bindO_s]
 dsimp only
 rw [br_not, br_eq, if_pos (val_chkG h (by omega) (by omega)), F56_eq h (by omega), bindO_s]
end Go.Proofs.Try
end
section
open Go.AM Go.Gm Go.Srt
namespace Go.Proofs.Try
set_option linter.unusedVariables false
set_option linter.unusedSimpArgs false
/-- The most sugar of the first fields. -/
def dpv (l : List (List Int)) (i j : Nat) : Int := Tops.tops (mrgAll (l.take i)) j
theorem Val.take {l : List (List Int)} (h : Val l) (i : Nat) : Val (l.take i) :=
 ⟨by have := h.len; simp; omega, fun f hf => h.tab f (List.mem_of_mem_take hf), fun f hf => h.sm f (List.mem_of_mem_take hf), fun f hf => h.desc f (List.mem_of_mem_take hf)⟩
theorem Val.mrgAll_small {l : List (List Int)} (h : Val l) : Small (mrgAll l) 1000000 := fun x hx => by
 obtain ⟨f, hf, hx⟩ := List.mem_flatten.1 ((mrgAll_perm _).mem_iff.1 hx)
 exact h.sm f hf x hx
theorem tops_bound {l : List (List Int)} (h : Val l) (j : Nat) : 0 ≤ Tops.tops (mrgAll l) j ∧ Tops.tops (mrgAll l) j ≤ 120000000 := by
 have := sumN_le (by omega) h.mrgAll_small j
 rw [mrgAll_length] at this
 have := h.flat
 unfold sumN at *
 unfold Tops.tops
 omega
def row (l : List (List Int)) (i n : Nat) : List Int := (List.range n).map fun j => dpv l i j
end Go.Proofs.Try
end
section
open Go.AM Go.Gm Go.Srt
namespace Go.Proofs.Try
set_option linter.unusedVariables false
set_option linter.unusedSimpArgs false
theorem F16_eq : F16 = some (true, ()) := Go.AM.Le.done CF16_le (by kernel_rfl)
theorem take_fields {l : List (List Int)} (fv : Int → Int) (g : Nat) : ∀ s ∈ (stepsF fv l).take g, ∃ j, j < l.length ∧ s.2 = (j : Nat) := fun s hs => steps_fields fv (List.mem_of_mem_take hs)
/-- The plan of the first steps is one, and has their sugar. -/
theorem sug_plan {l : List (List Int)} (h : Val l) (fv : Int → Int) (g : Nat) : sug l (planOf l.length ((stepsF fv l).take g)) = (((((stepsF fv l).take g).length : Nat) : Int), Tops.tops (mrgAll l) g, 0) := by
 unfold sug
 rw [if_neg (by simpa using chk_val.2 h), if_neg (by simp [planOf_length])]
 have hs : (List.range (planOf l.length ((stepsF fv l).take g)).length).findSome? (stopP l (planOf l.length ((stepsF fv l).take g))) = none := findSome_none.2 fun k hk => by
  rw [planOf_length] at hk
  rw [stopP_none, planOf_getD _ hk]
  have := field_cnt fv h.desc k g
  omega
 rw [hs]
 simp only
 rw [planOf_length, ← steps_first fv h.desc, ← gsum_parts _ (take_fields fv g), ← cnt_parts _ (take_fields fv g)]
 congr 1
 ·unfold planOf; rw [sum_map_range]
 ·congr 1
  refine sumR_congr fun i hi => ?_
  rw [planOf_getD _ hi, field_sum fv h.desc]
  rfl
end Go.Proofs.Try
end
section
open Go.AM Go.Gm Go.Srt
namespace Go.Proofs.Try
set_option linter.unusedVariables false
set_option linter.unusedSimpArgs false
/-- The most sugar for 0, 1, .. gangs. -/
def tab (l : List (List Int)) (n : Nat) : List Int := (List.range n).map fun j => Tops.tops (mrgAll l) j
theorem tab_length (l : List (List Int)) (n : Nat) : (tab l n).length = n := by simp [tab]
theorem tab_take (l : List (List Int)) (n : Nat) : (tab l n).take n = tab l n := List.take_of_length_le (by rw [tab_length]; omega)
theorem tab_getD {l : List (List Int)} {n j : Nat} (h : j < n) : (tab l n).getD j 0 = Tops.tops (mrgAll l) j := by simp [tab, List.getD_eq_getElem?_getD, h]
theorem tab_succ (l : List (List Int)) (n : Nat) : tab l (n + 1) = tab l n ++ [Tops.tops (mrgAll l) n] := by simp [tab, List.range_succ]
theorem F24_good {l : List (List Int)} (h : Val l) : F24 l = some (tab l (l.flatten.length + 1), 0, ()) := by
 have hn := steps_len h (fun _ => 0)
 have hsl := stepsF_length (fun _ => 0) l
 unfold F24
 rw [F20_eq, bindO_s, chk_val.2 h]
 dsimp only
 rw [br_not, br_eq, if_pos rfl, F58_eq h, bindO_s]
 unfold g24_0
 generalize ht : stepsF (fun _ => 0) l = t at *
 have key := iter_count (step := fun x => g24_0i_0 x.1 x.2.1 x.2.2.1 x.2.2.2.1 x.2.2.2.2.1 x.2.2.2.2.2.1 x.2.2.2.2.2.2.1) t.length (fun k => (t, (((t.length : Nat) : Int), ((k : Int), ((0 : Int), (t, (k + 1, (tab l (k + 1), ())))))))) (b := (t.length + 1, ((0 : Int), (t, (tab l (t.length + 1), ()))))) (fun k hk => by
  have b1 := tops_bound h k
  have b2 := tops_bound h (k + 1)
  have st := steps_first (fun _ => 0) h.desc (k + 1)
  rw [ht, take_succ_getD (0, 0) hk, gsum_snoc, ← ht, steps_first _ h.desc, ht] at st
  have e : (tab l (k + 1)).getD k 0 = Tops.tops (mrgAll l) k := tab_getD (by omega)
  have ek : (((k + 1 : Nat) : Int) - 1).toNat = k := by omega
  simp only [g24_0i_0, Int.toNat_natCast, Nat.zero_add]
  rw [br_d, if_pos (by omega), need_inb (by omega) (by omega), need_i64 (by omega) (by omega), need_inb (by omega) (by omega)]
  simp only [ek, e]
  rw [need_d (by rw [tab_length]; omega), need_i64 (by omega) (by omega), need_big (by simp; omega), need_i64 (by omega) (by omega), st, tab_succ l (k + 1)]
  simp [tab_take]) (by simp only [g24_0i_0]; rw [br_d, if_neg (by omega)])
 have e0 : tab l 1 = [0] := by simp [tab, Tops.tops]
 simp only [Int.natCast_zero, Nat.zero_add, e0] at key
 rw [bind_of key, bindO_s, ← hsl]
 dsimp only
 rw [List.drop_zero, List.take_of_length_le (by rw [tab_length]; omega)]
end Go.Proofs.Try
end
section
open Go.AM Go.Gm Go.Srt
namespace Go.Proofs.Try
set_option linter.unusedVariables false
set_option linter.unusedSimpArgs false
theorem F29_in {t : List (Int × Int)} (ht : t.length ≤ 1000) {g : Nat} (hg : g ≤ 200) {hi0 : Int} :
  g29_0 0 t g 0 0 0 hi0 0 = some ((0, (0, ((if g < t.length then (t.getD g (0, 0)).1 else 0), ((if 0 < g ∧ g ≤ t.length then (t.getD (g - 1) (0, 0)).1 else hi0), ()))))) := by
 unfold g29_0
 have key := iter_count (step := fun x => g29_0i_0 x.1 x.2.1 x.2.2.1 x.2.2.2.1 x.2.2.2.2.1 x.2.2.2.2.2.1 x.2.2.2.2.2.2.1 x.2.2.2.2.2.2.2.1 x.2.2.2.2.2.2.2.2.1 x.2.2.2.2.2.2.2.2.2.1 x.2.2.2.2.2.2.2.2.2.2.1) t.length
  (fun k => (t, (((t.length : Nat) : Int), ((k : Int), ((0 : Int), (t, ((g : Int), ((0 : Int), ((0 : Int), ((if g < k then (t.getD g (0, 0)).1 else 0), ((if 0 < g ∧ g ≤ k then (t.getD (g - 1) (0, 0)).1 else hi0), ((k : Int), ()))))))))))))
  (b := ((g : Int), (0, (0, ((if g < t.length then (t.getD g (0, 0)).1 else 0), ((if 0 < g ∧ g ≤ t.length then (t.getD (g - 1) (0, 0)).1 else hi0), (((t.length : Nat) : Int), (0, (t, ()))))))))) (fun k hk => by
   simp only [g29_0i_0, Int.toNat_natCast]
   have hlo : ¬ k = g → (if g < k + 1 then (t.getD g (0, 0)).1 else 0) = (if g < k then (t.getD g (0, 0)).1 else 0) := fun hne => by
    by_cases c : g < k
    ·rw [if_pos c, if_pos (by omega)]
    ·rw [if_neg c, if_neg (by omega)]
   have hhi : ¬ k + 1 = g → (if 0 < g ∧ g ≤ k + 1 then (t.getD (g - 1) (0, 0)).1 else hi0) = (if 0 < g ∧ g ≤ k then (t.getD (g - 1) (0, 0)).1 else hi0) := fun hne => by
    by_cases c : 0 < g ∧ g ≤ k
    ·rw [if_pos c, if_pos (by omega)]
    ·rw [if_neg c, if_neg (by omega)]
   rw [br_d, if_pos (by omega), need_inb (by omega) (by omega), need_i64 (by omega) (by omega), br_eq]
   by_cases c1 : (k : Int) + 1 = g
   ·rw [if_pos c1, need_i64 (by omega) (by omega), hlo (by omega), if_pos (show 0 < g ∧ g ≤ k + 1 by omega), show g - 1 = k by omega, Int.natCast_add]
    rfl
   ·rw [if_neg c1, need_i64 (by omega) (by omega), br_eq]
    by_cases c2 : (k : Int) + 1 = g + 1
    ·have e : k = g := by omega
     rw [if_pos c2, need_i64 (by omega) (by omega), hhi (by omega), if_pos (show g < k + 1 by omega), e, Int.natCast_add]
     rfl
    ·rw [if_neg c2, need_i64 (by omega) (by omega), hlo (by omega), hhi (by omega), Int.natCast_add]
     rfl) (by simp only [g29_0i_0]; rw [br_d, if_neg (by omega)])
 have k0 : (if 0 < g ∧ g ≤ 0 then (t.getD (g - 1) (0, 0)).1 else hi0) = hi0 := if_neg (by omega)
 have k1 : (if g < 0 then (t.getD g (0, 0)).1 else 0) = 0 := if_neg (by omega)
 simp only [Int.natCast_zero, k0, k1] at key
 rw [bind_of key]
theorem getD_fst {t : List (Int × Int)} {k : Nat} (h : k < t.length) : (t.map (·.1)).getD k 0 = (t.getD k (0, 0)).1 := by
 simp [List.getD_eq_getElem?_getD, List.getElem?_eq_getElem h]
theorem F29_good {l : List (List Int)} (h : Val l) {g : Nat} (hg : g ≤ 200) : F29 l g = some ((wLo (mrgAll l) g, wHi (mrgAll l) g 1000000), 0, ()) := by
 have hn := steps_len h (fun _ => 0)
 have hG := steps_gains (fun _ => 0) h.desc
 have e1 : (if g < (stepsF (fun _ => 0) l).length then ((stepsF (fun _ => 0) l).getD g (0, 0)).1 else 0) = wLo (mrgAll l) g := by
  unfold wLo
  rw [← hG]
  by_cases c : g < (stepsF (fun _ => 0) l).length
  ·rw [if_pos c, getD_fst c]
  ·rw [if_neg c, getD_out 0 (by simp; omega)]
 have e2 : ∀ hi0, (g = 0 → hi0 = 1000000) → (0 < g → hi0 = 0) → (if 0 < g ∧ g ≤ (stepsF (fun _ => 0) l).length then ((stepsF (fun _ => 0) l).getD (g - 1) (0, 0)).1 else hi0) = wHi (mrgAll l) g 1000000 := fun hi0 p1 p2 => by
  unfold wHi
  rw [← hG]
  by_cases c0 : g = 0
  ·rw [if_neg (by omega), if_pos c0, p1 c0]
  ·rw [if_neg c0]
   by_cases c : g ≤ (stepsF (fun _ => 0) l).length
   ·rw [if_pos (by omega), getD_fst (by omega)]
   ·rw [if_neg (by omega), p2 (by omega), getD_out 0 (by simp; omega)]
 unfold F29
 rw [F55_eq, bindO_s, val_chkG h (by omega) (by omega)]
 dsimp only
 rw [br_not, br_eq, if_pos rfl, br_d, F58_eq h, bindO_s, bindO_s]
 dsimp only
 by_cases c : 0 < g
 ·rw [if_pos (by omega), F29_in (by omega) hg, bindO_s, e1, e2 _ (by omega) (fun _ => rfl)]
 ·rw [if_neg (by omega), F29_in (by omega) hg, bindO_s, e1, e2 _ (fun _ => rfl) (by omega)]
end Go.Proofs.Try
end
section
open Go.AM Go.Gm Go.Srt
namespace Go.Proofs.Try
set_option linter.unusedVariables false
set_option linter.unusedSimpArgs false
/-- What is left of a number, less some others, but no less than 0. -/
def lst (row : List Int) (k : Nat) : Int := (row.take k).foldl (fun a x => imax 0 (a - x)) 300
def mrow (row : List Int) (k : Nat) : List Int := (List.range k).map fun j => lst row (j + 1)
def made (v : List (List Int)) (n : Nat) : List (List Int) := (List.range n).map fun i => mrow (v.getD i []) (min (v.getD i []).length 4)
def valley (v : List (List Int)) : List (List Int) := made v (min v.length 4)
theorem lst_succ {row : List Int} {k : Nat} (h : k < row.length) : lst row (k + 1) = imax 0 (lst row k - row.getD k 0) := by
 unfold lst; rw [take_succ_getD 0 h, List.foldl_append]; rfl
theorem lst_bound {row : List Int} (h : ∀ x ∈ row, 0 ≤ x ∧ x ≤ 255) (k : Nat) : 0 ≤ lst row k ∧ lst row k ≤ 300 := by
 induction k with
 | zero => simp [lst]
 | succ k ih =>
  by_cases c : k < row.length
  ·rw [lst_succ c]
   have := h _ (getD_mem (d := 0) c)
   unfold imax; omega
  ·have : lst row (k + 1) = lst row k := by unfold lst; rw [List.take_of_length_le (by omega), List.take_of_length_le (by omega)]
   rw [this]; exact ih
theorem lst_anti {row : List Int} (h : ∀ x ∈ row, 0 ≤ x ∧ x ≤ 255) (k : Nat) : lst row (k + 1) ≤ lst row k := by
 by_cases c : k < row.length
 ·rw [lst_succ c]
  have := h _ (getD_mem (d := 0) c)
  have := lst_bound h k
  unfold imax; omega
 ·have : lst row (k + 1) = lst row k := by unfold lst; rw [List.take_of_length_le (by omega), List.take_of_length_le (by omega)]
  rw [this]; exact Int.le_refl _
theorem lst_anti' {row : List Int} (h : ∀ x ∈ row, 0 ≤ x ∧ x ≤ 255) (k d : Nat) : lst row (k + d) ≤ lst row k := by
 induction d with
 | zero => exact Int.le_refl _
 | succ d ih => have := lst_anti h (k + d); rw [← Nat.add_assoc]; omega
theorem mrow_succ (row : List Int) (k : Nat) : mrow row (k + 1) = mrow row k ++ [lst row (k + 1)] := by simp [mrow, List.range_succ]
theorem mrow_length (row : List Int) (k : Nat) : (mrow row k).length = k := by simp [mrow]
theorem made_succ (v : List (List Int)) (k : Nat) : made v (k + 1) = made v k ++ [mrow (v.getD k []) (min (v.getD k []).length 4)] := by simp [made, List.range_succ]
theorem made_length (v : List (List Int)) (k : Nat) : (made v k).length = k := by simp [made]
/-- Lists of bytes. -/
def Bytes (v : List (List Int)) : Prop := v.length ≤ maxLen ∧ ∀ row ∈ v, row.length ≤ maxLen ∧ ∀ x ∈ row, 0 ≤ x ∧ x ≤ 255
theorem bytes_of {v : List (List Int)} (h : Wf (.list (.list (.int .u8))) v) : Bytes v := by
 refine ⟨h.1, fun row hr => ⟨(h.2 row hr).1, fun x hx => ?_⟩⟩
 have := (h.2 row hr).2 x hx
 simp only [Wf] at this
 have e1 : IntKind.u8.min = 0 := by decide
 have e2 : IntKind.u8.max = 255 := by decide
 rw [e1, e2] at this
 exact this
theorem Bytes.row {v : List (List Int)} (h : Bytes v) (i : Nat) : ∀ x ∈ v.getD i [], 0 ≤ x ∧ x ≤ 255 := by
 by_cases c : i < v.length
 ·exact (h.2 _ (getD_mem c)).2
 ·rw [getD_out [] (by omega)]; intro x hx; cases hx
theorem made_val {v : List (List Int)} (h : Bytes v) {n : Nat} (hn : n ≤ 4) : Val (made v n) ∧ ∀ f ∈ made v n, f.length ≤ 4 ∧ Small f 300 := by
 have key : ∀ f ∈ made v n, f.length ≤ 4 ∧ Small f 300 ∧ Tops.Desc f := fun f hf => by
  obtain ⟨i, hi, rfl⟩ := List.mem_map.1 hf
  refine ⟨by rw [mrow_length]; omega, fun x hx => ?_, ?_⟩
  ·obtain ⟨j, hj, rfl⟩ := List.mem_map.1 hx
   exact lst_bound (h.row i) _
  ·unfold Tops.Desc mrow
   rw [List.pairwise_map]
   refine List.pairwise_lt_range.imp fun {a b} hab => ?_
   have := lst_anti' (h.row i) (a + 1) (b - a)
   rwa [show a + 1 + (b - a) = b + 1 by omega] at this
 refine ⟨⟨by rw [made_length]; omega, fun f hf => by have := key f hf; omega, fun f hf x hx => by have := (key f hf).2.1 x hx; omega, fun f hf => (key f hf).2.2⟩, fun f hf => ⟨(key f hf).1, (key f hf).2.1⟩⟩
theorem F39_in {v : List (List Int)} (h : Bytes v) {i : Nat} (hi : i < v.length) (hi4 : i < 4) {n : Nat} {t : Bool} {b0 : List (List Int)} :
  iter (fun x => g39_1 x.1 x.2.1 x.2.2.1 x.2.2.2.1 x.2.2.2.2.1 x.2.2.2.2.2.1 x.2.2.2.2.2.2.1 x.2.2.2.2.2.2.2.1 x.2.2.2.2.2.2.2.2.1 x.2.2.2.2.2.2.2.2.2.1) (v, n, (i : Int), (300 : Int), 0, (0 : Int), (i : Int), t, b0, [], ()) =
   some (v, n, (i : Int), min (v.getD i []).length 4, (i : Int), t, b0, mrow (v.getD i []) (min (v.getD i []).length 4), ()) := by
 have hv := h.1
 have hr := (h.2 _ (getD_mem (d := []) hi)).1
 have key := iter_count (step := fun x => g39_1 x.1 x.2.1 x.2.2.1 x.2.2.2.1 x.2.2.2.2.1 x.2.2.2.2.2.1 x.2.2.2.2.2.2.1 x.2.2.2.2.2.2.2.1 x.2.2.2.2.2.2.2.2.1 x.2.2.2.2.2.2.2.2.2.1) (min (v.getD i []).length 4)
  (fun k => (v, n, (i : Int), lst (v.getD i []) k, k, (k : Int), (i : Int), t, b0, mrow (v.getD i []) k, ()))
  (b := (v, n, (i : Int), min (v.getD i []).length 4, (i : Int), t, b0, mrow (v.getD i []) (min (v.getD i []).length 4), ())) (fun k hk => by
   have hb := lst_bound (h.row i) k
   have hx := h.row i _ (getD_mem (d := 0) (show k < (v.getD i []).length by omega))
   simp only [g39_1, Int.toNat_natCast]
   rw [need_inb (by omega) (by omega), br_d, if_pos (by omega), br_d, if_pos (by omega), need_inb (by omega) (by omega), need_inb (by omega) (by omega), need_i64 (by omega) (by omega), need_i64 (by omega) (by omega), need_big (by simp; omega), need_i64 (by omega) (by omega), mrow_succ, lst_succ (by omega)]
   simp only [List.drop_zero]
   rw [List.take_of_length_le (l := mrow (v.getD i []) k) (by rw [mrow_length]; omega)]
   simp) (by
   simp only [g39_1, Int.toNat_natCast]
   rw [need_inb (by omega) (by omega), br_d, br_d]
   by_cases c : ((min (v.getD i []).length 4 : Nat) : Int) < (((v.getD i []).length : Nat) : Int)
   ·rw [if_pos c, if_neg (by omega)]
   ·rw [if_neg c])
 have e0 : lst (v.getD i []) 0 = 300 := by simp [lst]
 have e1 : mrow (v.getD i []) 0 = [] := rfl
 simp only [e0, e1, Int.natCast_zero] at key
 exact key
theorem F39_eq {v : List (List Int)} (h : Bytes v) : F39 v = some (valley v, ()) := by
 have hv := h.1
 unfold F39
 have key := iter_count (step := fun x => g39_0 x.1 x.2.1 x.2.2.1 x.2.2.2.1) (min v.length 4) (fun k => (v, k, (k : Int), made v k, ())) (b := (min v.length 4, made v (min v.length 4), ())) (fun k hk => by
  simp only [g39_0]
  rw [br_d, if_pos (by omega), br_d, if_pos (by omega), bind_of (F39_in h (by omega) (by omega))]
  dsimp only
  rw [need_big (by simp; omega), need_i64 (by omega) (by omega), made_succ]
  simp only [List.drop_zero]
  rw [List.take_of_length_le (l := made v k) (by rw [made_length]; omega), List.take_of_length_le (l := mrow (v.getD k []) (min (v.getD k []).length 4)) (by rw [mrow_length]; omega)]
  simp) (by
  simp only [g39_0]
  rw [br_d, br_d]
  by_cases c : ((min v.length 4 : Nat) : Int) < ((v.length : Nat) : Int)
  ·rw [if_pos c, if_neg (by omega)]
  ·rw [if_neg c])
 have e0 : made v 0 = [] := rfl
 simp only [e0, Int.natCast_zero] at key
 rw [bind_of key]
 dsimp only
 rw [List.drop_zero, List.take_of_length_le (by rw [made_length]; omega)]
 rfl
theorem valley_val {v : List (List Int)} (h : Bytes v) : Val (valley v) ∧ (valley v).length ≤ 4 ∧ ∀ f ∈ valley v, f.length ≤ 4 ∧ Small f 300 := by
 have := made_val h (n := min v.length 4) (by omega)
 exact ⟨this.1, by unfold valley; rw [made_length]; omega, this.2⟩
end Go.Proofs.Try
end
section
open Go.AM Go.Gm Go.Srt
namespace Go.Proofs.Try
set_option linter.unusedVariables false
set_option linter.unusedSimpArgs false
/-- What is so of a plan. -/
structure PlanIn (g : Nat) (l : List (List Int)) (q : List Int) : Prop where
 len : q.length = l.length
 rng : ∀ i, i < l.length → 0 ≤ q.getD i 0 ∧ q.getD i 0 ≤ ((l.getD i []).length : Nat)
 sum : q.sum ≤ g
theorem getD_snoc_lt {α : Type} {l : List α} {x d : α} {i : Nat} (h : i < l.length) : (l ++ [x]).getD i d = l.getD i d := by
 simp [List.getD_eq_getElem?_getD, List.getElem?_append_left h]
theorem getD_snoc_eq {α : Type} {l : List α} {x d : α} {i : Nat} (h : i = l.length) : (l ++ [x]).getD i d = x := by
 subst h; simp [List.getD_eq_getElem?_getD]
/-- The sugar of a plan. -/
def sugP (l : List (List Int)) (q : List Int) : Int := sumR q.length (fun i => sumN (l.getD i []) (q.getD i 0).toNat)
theorem plan_sum {l : List (List Int)} {q : List Int} (hq : ∀ i, i < q.length → 0 ≤ q.getD i 0) : sumR q.length (fun i => ((q.getD i 0).toNat : Int)) = q.sum := by
 induction q using snoc_ind with
 | h0 => rfl
 | h1 q x ih =>
  rw [List.length_append, List.sum_append]
  simp only [List.length_cons, List.length_nil, Nat.zero_add, sumR]
  have hx := hq q.length (by simp)
  rw [getD_snoc_eq rfl] at hx
  rw [← ih fun i hi => by have := hq i (by simp; omega); rwa [getD_snoc_lt hi] at this, getD_snoc_eq rfl]
  rw [sumR_congr (g := fun i => ((q.getD i 0).toNat : Int)) fun i hi => by rw [getD_snoc_lt hi]]
  simp; omega
/-- No plan has more than the first steps. -/
theorem sug_most {l : List (List Int)} (h : Val l) {g : Nat} {q : List Int} (hq : PlanIn g l q) : sugP l q ≤ Tops.tops (mrgAll l) g := by
 have h1 := plan_le h.desc (fun f hf x hx => (h.sm f hf x hx).1) (fun i => (q.getD i 0).toNat) (g := g) (n := l.length) (Nat.le_refl _) (by
  have e := plan_sum (l := l) (q := q) fun i hi => (hq.rng i (by rw [← hq.len]; exact hi)).1
  rw [hq.len] at e
  rw [e]; exact hq.sum)
 rw [List.take_length] at h1
 unfold sugP
 rw [hq.len]
 exact h1
theorem sug_ok' {l : List (List Int)} (h : Val l) (fv : Int → Int) (g : Nat) : ∀ i, i < l.length → 0 ≤ (planOf l.length ((stepsF fv l).take g)).getD i 0 ∧ (planOf l.length ((stepsF fv l).take g)).getD i 0 ≤ ((l.getD i []).length : Nat) := fun i hi => by
 rw [planOf_getD _ hi]
 have := field_cnt fv h.desc i g
 omega
theorem plan_first {l : List (List Int)} (h : Val l) (fv : Int → Int) (g : Nat) : PlanIn g l (planOf l.length ((stepsF fv l).take g)) ∧ sugP l (planOf l.length ((stepsF fv l).take g)) = Tops.tops (mrgAll l) g := by
 have hs := sug_plan h fv g
 have hok := sug_ok' h fv g
 refine ⟨⟨planOf_length _ _, hok, ?_⟩, ?_⟩
 ·have : (planOf l.length ((stepsF fv l).take g)).sum = (((stepsF fv l).take g).length : Nat) := by
   unfold planOf; rw [sum_map_range, cnt_parts _ (take_fields fv g)]
  rw [this]; simp; omega
 ·unfold sugP
  rw [planOf_length, ← steps_first fv h.desc, ← gsum_parts _ (take_fields fv g)]
  refine sumR_congr fun i hi => ?_
  rw [planOf_getD _ hi, field_sum fv h.desc]
  rfl
end Go.Proofs.Try
end
section
open Go.AM Go.Gm Go.Srt
namespace Go.Proofs.Try
set_option linter.unusedVariables false
set_option linter.unusedSimpArgs false
theorem tops_succ (m : List Int) (j : Nat) : Tops.tops m (j + 1) = Tops.tops m j + m.getD j 0 := by
  unfold Tops.tops
  by_cases c : j < m.length
  · rw [take_succ_getD 0 c, List.sum_append]; simp
  · rw [List.take_of_length_le (by omega), List.take_of_length_le (by omega)]
    simp [List.getD_eq_getElem?_getD, List.getElem?_eq_none (by omega : m.length ≤ j)]
theorem tops_over {m : List Int} {j n : Nat} (h : m.length = n) (hj : n ≤ j) : Tops.tops m j = Tops.tops m n := by
  unfold Tops.tops
  rw [List.take_of_length_le (by omega), List.take_of_length_le (by omega)]
theorem F10_count {l : List (List Int)} (h : Val l) {a0 e0 : Int} {a b : List Int} :
    iter (fun x => g10_0 x.1 x.2.1 x.2.2.1 x.2.2.2.1 x.2.2.2.2.1 x.2.2.2.2.2.1 x.2.2.2.2.2.2.1 x.2.2.2.2.2.2.2.1 x.2.2.2.2.2.2.2.2.1) (a0, l, a, e0, (0 : Int), l, ((l.length : Nat) : Int), (0 : Int), b, ()) =
      some (a0, l, a, e0, ((l.flatten.length : Nat) : Int), b, ()) := by
  have hl := h.len
  have key := iter_count (step := fun x => g10_0 x.1 x.2.1 x.2.2.1 x.2.2.2.1 x.2.2.2.2.1 x.2.2.2.2.2.1 x.2.2.2.2.2.2.1 x.2.2.2.2.2.2.2.1 x.2.2.2.2.2.2.2.2.1) l.length
    (fun k => (a0, l, a, e0, (((l.take k).flatten.length : Nat) : Int), l, ((l.length : Nat) : Int), (k : Int), b, ())) (b := (a0, l, a, e0, ((l.flatten.length : Nat) : Int), b, ()))
    (fun k hk => by
      have h1 := flat_len h k
      have h2 := h.tab _ (getD_mem (d := []) hk)
      simp only [g10_0, Int.toNat_natCast]
      rw [br_d, if_pos (by omega), need_inb (by omega) (by omega), need_i64 (by omega) (by omega), need_i64 (by omega) (by omega), take_succ_getD [] hk]
      simp)
    (by
      simp only [g10_0]
      rw [br_d, if_neg (by omega), List.take_length])
  simpa using key
/-- What the wages were a gang before. -/
def loB (m : List Int) : Nat → Int
  | 0 => 1000000
  | k + 1 => wLo m k
def hiB (m : List Int) : Nat → Int
  | 0 => 1000000
  | k + 1 => wHi m k 1000000
theorem F10_wages {l : List (List Int)} (h : Val l) {c : Int} {b : List Int} :
    iter (fun x => g10_1 x.1 x.2.1 x.2.2.1 x.2.2.2.1 x.2.2.2.2.1 x.2.2.2.2.2.1 x.2.2.2.2.2.2.1 x.2.2.2.2.2.2.2.1) (c, l, tab l (l.flatten.length + 1), ((l.flatten.length : Nat) : Int), (0 : Int), b, (1000000 : Int), (1000000 : Int), ()) =
      some (.inr (c, l, tab l (l.flatten.length + 1), b, ())) := by
  have hn := h.flat
  have hml : (mrgAll l).length = l.flatten.length := mrgAll_length l
  have hd := mrgAll_desc h.desc
  have hs := h.mrgAll_small
  have h0 : ∀ x ∈ mrgAll l, 0 ≤ x := fun x hx => (hs x hx).1
  have ht := tab_length l (l.flatten.length + 1)
  generalize hnn : l.flatten.length = n at *
  have key := iter_count (step := fun x => g10_1 x.1 x.2.1 x.2.2.1 x.2.2.2.1 x.2.2.2.2.1 x.2.2.2.2.2.1 x.2.2.2.2.2.2.1 x.2.2.2.2.2.2.2.1) (n + 3)
    (fun k => (c, l, tab l (n + 1), ((n : Nat) : Int), (k : Int), b, loB (mrgAll l) k, hiB (mrgAll l) k, ())) (b := .inr (c, l, tab l (n + 1), b, ()))
    (fun k hk => by
      have hw := wLo_wHi (M := 1000000) (by omega) hd hs k
      have hb := tops_bound h k
      have hlo : wLo (mrgAll l) k ≤ loB (mrgAll l) k := by
        cases k with
        | zero => simp only [loB]; omega
        | succ k => simp only [loB, wLo]; exact desc_getD hd h0 (by omega)
      have hhi : wHi (mrgAll l) k 1000000 ≤ hiB (mrgAll l) k := by
        cases k with
        | zero => simp only [hiB]; omega
        | succ k =>
          simp only [hiB, wHi]
          rw [if_neg (by omega)]
          have := getD_bound (c := 1000000) (by omega) hs (k + 1 - 1)
          split
          · omega
          · exact desc_getD hd h0 (by omega)
      have hmin : imin (k : Int) (n : Int) = ((min k n : Nat) : Int) := by unfold imin; omega
      have hat : (tab l (n + 1)).getD (min k n) 0 = Tops.tops (mrgAll l) k := by
        rw [tab_getD (by omega)]
        by_cases ck : k ≤ n
        · rw [Nat.min_eq_left ck]
        · rw [Nat.min_eq_right (by omega), tops_over hml (show n ≤ k by omega)]
      have e1 : ∀ j, j ≤ n → (tab l (n + 1)).getD j 0 = Tops.tops (mrgAll l) j := fun j hj => tab_getD (by omega)
      have hend : (some (.inl (c, l, tab l (n + 1), ((n : Nat) : Int), (k : Int) + 1, b, wLo (mrgAll l) k, wHi (mrgAll l) k 1000000, ())) : Option ((Int × List (List Int) × List Int × Int × Int × List Int × Int × Int × Unit) ⊕ ((Unit) ⊕ ((Int × List (List Int) × List Int × List Int × Unit))))) =
          some (.inl (c, l, tab l (n + 1), ((n : Nat) : Int), ((k + 1 : Nat) : Int), b, loB (mrgAll l) (k + 1), hiB (mrgAll l) (k + 1), ())) := by simp [loB, hiB]
      simp only [g10_1]
      rw [need_i64 (by omega) (by omega), br_d, if_pos (by omega), F22_good h (by omega), bindO_s, F29_good h (by omega), bindO_s, steps_first _ h.desc]
      dsimp only
      rw [br_not, br_t (by decide), br_not, br_t (by decide), hmin, need_inb (by omega) (by rw [ht]; omega), Int.toNat_natCast, hat, br_not, br_eq, if_pos rfl, br_d, if_neg (by omega), br_d, if_neg (by omega)]
      have tl : need (rng .i64 ((k : Int) + 1)) (some (.inl (c, l, tab l (n + 1), ((n : Nat) : Int), (k : Int) + 1, b, wLo (mrgAll l) k, wHi (mrgAll l) k 1000000, ())) : Option ((Int × List (List Int) × List Int × Int × Int × List Int × Int × Int × Unit) ⊕ ((Unit) ⊕ ((Int × List (List Int) × List Int × List Int × Unit))))) =
          some (.inl (c, l, tab l (n + 1), ((n : Nat) : Int), ((k + 1 : Nat) : Int), b, loB (mrgAll l) (k + 1), hiB (mrgAll l) (k + 1), ())) := by
        rw [need_i64 (by omega) (by omega)]; exact hend
      by_cases k0 : k = 0
      · subst k0
        rw [br_d, if_neg (by omega), br_d, if_neg (by omega)]
        exact tl
      · obtain ⟨j, rfl⟩ : ∃ j, k = j + 1 := ⟨k - 1, by omega⟩
        rw [br_d, if_pos (by omega)]
        by_cases ck : j + 1 ≤ n
        · have s1 := tops_succ (mrgAll l) j
          have g1 := getD_bound (c := 1000000) (by omega) hs j
          have b1 := tops_bound h j
          have q1 : ((j + 1 : Nat) : Int) - 1 = (j : Nat) := by omega
          rw [br_d, if_pos (by omega), need_inb (by omega) (by rw [ht]; omega), need_i64 (by omega) (by omega), need_inb (by omega) (by rw [ht]; omega), q1, Int.toNat_natCast, Int.toNat_natCast, e1 _ ck, e1 j (by omega), br_d, if_neg (by omega)]
          by_cases c1 : j = 0
          · subst c1
            rw [br_d, if_neg (by omega)]
            exact tl
          · obtain ⟨i, rfl⟩ : ∃ i, j = i + 1 := ⟨j - 1, by omega⟩
            have s2 := tops_succ (mrgAll l) i
            have g2 := getD_bound (c := 1000000) (by omega) hs i
            have g3 := desc_getD hd h0 (show i ≤ i + 1 by omega)
            have b2 := tops_bound h i
            have q2 : ((i + 1 + 1 : Nat) : Int) - 2 = (i : Nat) := by omega
            rw [br_d, if_pos (by omega), br_d, if_pos (by omega), need_inb (by omega) (by rw [ht]; omega), need_i64 (by omega) (by omega), need_inb (by omega) (by rw [ht]; omega), need_i64 (by omega) (by omega), need_i64 (by omega) (by omega), need_inb (by omega) (by rw [ht]; omega),
              q2, need_i64 (by omega) (by omega), need_inb (by omega) (by rw [ht]; omega), Int.toNat_natCast, e1 i (by omega), need_i64 (by omega) (by omega), br_d, if_neg (by omega)]
            exact tl
        · rw [br_d, if_neg (by omega)]
          by_cases c1 : j = 0
          · subst c1
            rw [br_d, if_neg (by omega)]
            exact tl
          · rw [br_d, if_pos (by omega), br_d, if_neg (by omega)]
            exact tl)
    (by
      simp only [g10_1]
      rw [need_i64 (by omega) (by omega), br_d, if_neg (by omega)])
  exact key
theorem set_take_sum : ∀ (r : List Int) (k q : Nat) (x : Int), r.getD k 0 ≤ x → (r.take q).sum ≤ ((r.set k x).take q).sum
  | [], k, q, x, h => by simp
  | a :: r, k, 0, x, h => by simp
  | a :: r, 0, q + 1, x, h => by
    simp only [List.set_cons_zero, List.take_succ_cons, List.sum_cons]
    simp only [List.getD_cons_zero] at h
    omega
  | a :: r, k + 1, q + 1, x, h => by
    have := set_take_sum r k q x (by simpa using h)
    simp only [List.set_cons_succ, List.take_succ_cons, List.sum_cons]
    omega
theorem getD_set {α : Type} {l : List α} {i j : Nat} {a d : α} : (l.set i a).getD j d = if i = j ∧ j < l.length then a else l.getD j d := by
  simp only [List.getD_eq_getElem?_getD, List.getElem?_set]
  by_cases e : i = j
  · subst e
    by_cases c : i < l.length
    · simp [c]
    · simp [c]
  · simp [e]
/-- A gain that is greater: no less sugar. -/
theorem better {l : List (List Int)} (h : Val l) {i k : Nat} (hi : i < l.length) (hk : k < (l.getD i []).length) {x : Int} (hx : (l.getD i []).getD k 0 ≤ x) (hx2 : x ≤ 1000000) (hx3 : 0 < k → x ≤ (l.getD i []).getD (k - 1) 0) :
    Val (l.set i ((l.getD i []).set k x)) ∧ (l.set i ((l.getD i []).set k x)).flatten.length = l.flatten.length ∧ ∀ g, Tops.tops (mrgAll l) g ≤ Tops.tops (mrgAll (l.set i ((l.getD i []).set k x))) g := by
  have hr : l.getD i [] ∈ l := getD_mem hi
  have hsm := h.sm _ hr
  have htb := h.tab _ hr
  have hds := h.desc _ hr
  generalize hrr : l.getD i [] = r at *
  have hx0 : 0 ≤ x := by have := (hsm _ (getD_mem (d := 0) hk)).1; omega
  have hV : Val (l.set i (r.set k x)) := by
    refine ⟨by simpa using h.len, fun f hf => ?_, fun f hf => ?_, fun f hf => ?_⟩
    all_goals rcases List.mem_or_eq_of_mem_set hf with hf | rfl
    · exact h.tab f hf
    · simpa using htb
    · exact h.sm f hf
    · intro y hy
      rcases List.mem_or_eq_of_mem_set hy with hy | rfl
      · exact hsm y hy
      · exact ⟨hx0, hx2⟩
    · exact h.desc f hf
    · refine List.pairwise_iff_getElem.2 fun a b ha hb hab => ?_
      have hp := List.pairwise_iff_getElem.1 hds
      simp only [List.length_set] at ha hb
      have gk : r.getD k 0 = r[k] := getD_el 0 hk
      rw [gk] at hx
      simp only [List.getElem_set]
      by_cases ea : k = a
      · subst ea
        rw [if_pos rfl, if_neg (by omega)]
        have := hp k b ha hb hab
        omega
      · rw [if_neg ea]
        by_cases eb : k = b
        · subst eb
          rw [if_pos rfl]
          have h3 := hx3 (by omega)
          rw [getD_el 0 (show k - 1 < r.length by omega)] at h3
          by_cases e : a = k - 1
          · subst e; exact h3
          · have := hp a (k - 1) ha (by omega) (by omega)
            omega
        · rw [if_neg eb]
          exact hp a b ha hb hab
  refine ⟨hV, ?_, fun g => ?_⟩
  · rw [List.length_flatten, List.length_flatten, List.map_set]
    congr 1
    rw [List.length_set, ← hrr, getD_el [] hi]
    have : l[i].length = (l.map List.length)[i]'(by simpa using hi) := by simp
    rw [this, List.set_getElem_self]
  · obtain ⟨p1, p2⟩ := plan_first h (fun _ => 0) g
    generalize planOf l.length ((stepsF (fun _ => 0) l).take g) = p at *
    have hlen : ∀ j, ((l.set i (r.set k x)).getD j []).length = (l.getD j []).length := fun j => by
      rw [getD_set]
      split
      · rename_i c; obtain ⟨rfl, c⟩ := c; rw [hrr]; simp
      · rfl
    have hP : PlanIn g (l.set i (r.set k x)) p := ⟨by simpa using p1.len, fun j hj => by rw [hlen]; exact p1.rng j (by simpa using hj), p1.sum⟩
    have := sug_most hV hP
    have hle : sugP l p ≤ sugP (l.set i (r.set k x)) p := by
      refine sumR_le fun j hj => ?_
      rw [getD_set]
      split
      · rename_i c; obtain ⟨rfl, c⟩ := c
        rw [hrr]
        exact set_take_sum r k _ x hx
      · exact Int.le_refl _
    omega
theorem F10_more {a b : List Int} (h : b.length = a.length) (ha : a.length ≤ 1000) (hle : ∀ g, g < a.length → a.getD g 0 ≤ b.getD g 0) :
    iter (fun x => g10_2 x.1 x.2.1 x.2.2.1 x.2.2.2.1) (a, b, ((a.length : Nat) : Int), (0 : Int), ()) = some (.inr ()) := by
  have key := iter_count (step := fun x => g10_2 x.1 x.2.1 x.2.2.1 x.2.2.2.1) a.length (fun k => (a, b, ((a.length : Nat) : Int), (k : Int), ())) (b := .inr ())
    (fun k hk => by
      have := hle k hk
      simp only [g10_2]
      rw [br_d, if_pos (by omega), need_inb (by omega) (by omega), need_inb (by omega) (by omega), Int.toNat_natCast, br_d, if_neg (by omega), need_i64 (by omega) (by omega)]
      simp)
    (by
      simp only [g10_2]
      rw [br_d, if_neg (by omega)])
  exact key
theorem law10 (v : List (List Int)) (at' : Int × Int) (more : Int) (hW : WfAll [.list (.list (.int .u8)), .prod (.int .u8) (.int .u8), .int .u8] (v, at', more, ())) : F10 v at' more = some (true, ()) := by
  have hB := bytes_of hW.1
  have e1 : IntKind.u8.min = 0 := by decide
  have e2 : IntKind.u8.max = 255 := by decide
  have h1 : 0 ≤ at'.1 ∧ at'.1 ≤ 255 := by have := hW.2.1.1; simp only [Wf] at this; rwa [e1, e2] at this
  have h2 : 0 ≤ at'.2 ∧ at'.2 ≤ 255 := by have := hW.2.1.2; simp only [Wf] at this; rwa [e1, e2] at this
  have hm : 0 ≤ more ∧ more ≤ 255 := by have := hW.2.2.1; simp only [Wf] at this; rwa [e1, e2] at this
  obtain ⟨hv, hl4, hf4⟩ := valley_val hB
  obtain ⟨X, hX⟩ : ∃ n : Nat, at'.1 = n := ⟨at'.1.toNat, by omega⟩
  obtain ⟨Z, hZ⟩ : ∃ n : Nat, at'.2 = n := ⟨at'.2.toNat, by omega⟩
  unfold F10
  rw [F39_eq hB, bindO_s]
  dsimp only
  generalize valley v = l at *
  have hn := hv.flat
  have ht := tab_length l (l.flatten.length + 1)
  have ha0 : (tab l (l.flatten.length + 1)).getD 0 0 = 0 := by rw [tab_getD (by omega), Tops.tops_zero]
  rw [F24_good hv, bindO_s]
  dsimp only
  rw [bind_of (F10_count hv)]
  dsimp only
  rw [br_not, br_t (by decide), need_i64 (by omega) (by omega), ht, br_not, br_eq, if_pos (by omega), need_inb (by omega) (by omega), show Int.toNat 0 = 0 from rfl, ha0, br_not, br_t (by decide), bind_of (F10_wages hv)]
  dsimp only
  rw [br_eq]
  by_cases hl0 : l.length = 0
  · rw [if_pos (by omega), F16_eq, bindO_s]
  rw [if_neg (by omega)]
  have hlz : (!(((l.length : Nat) : Int) == (0 : Int))) = true := by rw [Bool.not_eq_true', beq_eq_false_iff_ne]; omega
  have ei : Int.tmod at'.1 ((l.length : Nat) : Int) = ((X % l.length : Nat) : Int) := by rw [hX]; rfl
  have hi : X % l.length < l.length := Nat.mod_lt _ (by omega)
  have hx1 : ([at'.1, at'.2] : List Int).getD 0 0 = at'.1 := rfl
  have hx2 : ([at'.1, at'.2] : List Int).getD 1 0 = at'.2 := rfl
  simp only [hx1, hx2, ei, Int.toNat_natCast, Nat.zero_add, List.drop_zero, List.take_zero, List.nil_append, List.drop_nil, List.take_nil]
  generalize X % l.length = i at *
  rw [need_t (by simp), need_i64 (by omega) (by omega), need_t hlz, need_inb (by omega) (by omega), br_eq]
  have hfi := hf4 _ (getD_mem (d := []) hi)
  by_cases hr0 : (l.getD i []).length = 0
  · rw [if_pos (by omega), F16_eq, bindO_s]
  rw [if_neg (by omega)]
  have hrz : (!((((l.getD i []).length : Nat) : Int) == (0 : Int))) = true := by rw [Bool.not_eq_true', beq_eq_false_iff_ne]; omega
  have ek : Int.tmod at'.2 (((l.getD i []).length : Nat) : Int) = ((Z % (l.getD i []).length : Nat) : Int) := by rw [hZ]; rfl
  have hk : Z % (l.getD i []).length < (l.getD i []).length := Nat.mod_lt _ (by omega)
  have hkb : bigL = 1073741824 := by decide
  simp only [ek, Int.toNat_natCast]
  generalize Z % (l.getD i []).length = k at *
  have hs := hfi.2 _ (getD_mem (d := 0) hk)
  have fin : ∀ x, (l.getD i []).getD k 0 ≤ x → x ≤ 1000000 → (0 < k → x ≤ (l.getD i []).getD (k - 1) 0) →
      (bindO (F24 (((l.set i []).set i (((l.getD i []).set k x).take (l.getD i []).length)).take l.length)) fun y10 =>
                brO (!(y10.2.1 == (0 : Int))) (
                  some (false, ())) (
                  brO (!((((y10.1).length : Nat) : Int) == ((((tab l (l.flatten.length + 1))).length : Nat) : Int))) (
                    some (false, ())) (
                    bindO (iter (fun x => g10_2 x.1 x.2.1 x.2.2.1 x.2.2.2.1) (tab l (l.flatten.length + 1), (y10.1, ((((tab l (l.flatten.length + 1)).length : Nat) : Int), ((0 : Int), ()))))) fun z11 =>
                    match z11 with
                    | .inl z12 =>
                      some (false, ())
                    | .inr z13 =>
                      bindO (F16) fun y14 =>
                      some (y14.1, ())))) = some (true, ()) := fun x q1 q2 q3 => by
    obtain ⟨b1, b2, b3⟩ := better hv hi hk q1 q2 q3
    have e : ((l.set i []).set i (((l.getD i []).set k x).take (l.getD i []).length)).take l.length = l.set i ((l.getD i []).set k x) := by
      rw [List.set_set, List.take_of_length_le (by simp), List.take_of_length_le (by simp)]
    rw [e, F24_good b1, bindO_s, b2]
    dsimp only
    rw [br_not, br_t (by decide), br_not, br_eq, if_pos (by rw [tab_length, tab_length]), bind_of (F10_more (by rw [tab_length, tab_length]) (by omega) fun g hg => ?_)]
    · dsimp only
      rw [F16_eq, bindO_s]
    · rw [tab_length] at hg
      rw [tab_getD hg, tab_getD (by omega)]
      exact b3 g
  rw [need_t (by simp), need_i64 (by omega) (by omega), need_inb (by omega) (by omega), need_t hrz, need_d (by omega), need_inb (by omega) (by omega), need_d (by omega), need_inb (by omega) (by omega), need_d (by omega), br_d]
  by_cases k0 : 0 < k
  · have q : (k : Int) - 1 = ((k - 1 : Nat) : Int) := by omega
    have hs1 := hfi.2 _ (getD_mem (d := 0) (show k - 1 < (l.getD i []).length by omega))
    have hdd : (l.getD i []).getD k 0 ≤ (l.getD i []).getD (k - 1) 0 := desc_getD (hv.desc _ (getD_mem hi)) (fun x hx => (hfi.2 x hx).1) (by omega)
    rw [if_pos (by omega), need_inb (by omega) (by omega), need_i64 (by omega) (by omega), need_inb (by omega) (by omega), need_inb (by omega) (by omega), need_t (by simp), need_inb (by omega) (by omega), need_inb (by omega) (by omega), need_i64 (by omega) (by omega), need_i64 (by omega) (by omega), need_inb (by omega) (by omega), need_d (by omega), q, Int.toNat_natCast]
    exact fin _ (by unfold imin; omega) (by unfold imin; omega) (fun _ => by unfold imin; omega)
  · rw [if_neg (by omega), need_inb (by omega) (by omega), need_t (by simp), need_inb (by omega) (by omega), need_inb (by omega) (by omega), need_i64 (by omega) (by omega), need_i64 (by omega) (by omega), need_inb (by omega) (by omega), need_d (by omega)]
    exact fin _ (by unfold imin; omega) (by unfold imin; omega) (fun hh => by omega)
end Go.Proofs.Try
end
