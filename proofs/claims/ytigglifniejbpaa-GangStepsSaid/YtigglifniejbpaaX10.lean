/- Tools for laws: rounds that count, find or keep something; needs. Stable merging and sorting of lists, by a test 'lt' that is a strict weak order. Plain Lean. The sorts of Go's library, for whatever elements and order: twins of the walked functions. The sorts of Go's library sort, by any order. The sorts of Go's library: ranges swapped, rotated, merged. The sorts of Go's library: symMerge, and the stable sort. The sorts of Go's library: symMerge merges two runs. The sorts of Go's library: symMerge as a whole, and the stable sort. The sorts of Go's library: the stable sort sorts, equal ones in their order. The greatest numbers of two lists in order, together. Plain Lean. Gangs: the steps of fields in order, and what the first of them bring. Plain Lean. Wages: what a wage bounds, and which ones prove the most. Plain Lean. -/
import Derived.Test.YtigglifniejbpaaW102
set_option linter.unusedSectionVars false
set_option linter.unusedVariables false
set_option linter.unusedSimpArgs false
section
namespace Go.AM
theorem need_u64 {X : Type} {z : Int} {x : Option X} (h1 : 0 ≤ z) (h2 : z ≤ 18446744073709551615) : need (rng .u64 z) x = x := need_t (rng_u64 h1 h2)
theorem bigL_eq : bigL = 1073741824 := by decide
theorem need_big {X : Type} {n : Nat} {x : Option X} (h : n < 1000000000) : need (decide (n < bigL)) x = x := need_d (by rw [bigL_eq]; omega)
theorem need_inbL {X : Type} {i : Int} {x : Option X} (h : 0 ≤ i) (h2 : i < 1000000000) : need (inb i ((bigL : Nat) : Int)) x = x := need_inb h (by rw [bigL_eq]; omega)
/-- Rounds that count, or end early with what was found. -/
theorem iter_find {α β γ : Type} {step : α → Option (α ⊕ β)} (n : Nat) (g : Nat → α) (stop : Nat → Option γ) (inj : γ → β) {b : β}
  (hr : ∀ k, k < n → (∀ j, j < k → stop j = none) → step (g k) = match stop k with | none => some (.inl (g (k + 1))) | some c => some (.inr (inj c))) (he : (∀ j, j < n → stop j = none) → step (g n) = some (.inr b)) :
  iter step (g 0) = some (((List.range n).findSome? stop).elim b inj) := by
 have key : ∀ m k, k + m = n → (∀ j, j < k → stop j = none) → iter step (g k) = some (((List.range' k m).findSome? stop).elim b inj) := by
  intro m
  induction m with
  | zero =>
   intro k hk hs
   have : k = n := by omega
   subst this
   simpa using iter_inr (he hs)
  | succ m ih =>
   intro k hk hs0
   have h := hr k (by omega) hs0
   rw [List.range'_succ, List.findSome?_cons]
   cases hs : stop k with
   | none =>
    rw [hs] at h
    refine iter_inl h (ih (k + 1) (by omega) fun j hj => ?_)
    by_cases e : j = k
    ·rw [e, hs]
    ·exact hs0 j (by omega)
   | some c => rw [hs] at h; exact iter_inr h
 rw [List.range_eq_range']
 exact key n 0 (by omega) (fun j hj => by omega)
theorem getD_mem {α : Type} {l : List α} {k : Nat} {d : α} (h : k < l.length) : l.getD k d ∈ l := by
 simp [List.getD_eq_getElem?_getD, List.getElem?_eq_getElem h]
theorem take_succ_getD {α : Type} {l : List α} {k : Nat} (d : α) (h : k < l.length) : l.take (k + 1) = l.take k ++ [l.getD k d] := by
 rw [List.take_succ_eq_append_getElem h]; simp [List.getD_eq_getElem?_getD, List.getElem?_eq_getElem h]
theorem getD_el {α : Type} {l : List α} {k : Nat} (d : α) (h : k < l.length) : l.getD k d = l[k] := by
 simp [List.getD_eq_getElem?_getD, List.getElem?_eq_getElem h]
theorem getD_out {α : Type} {l : List α} {k : Nat} (d : α) (h : l.length ≤ k) : l.getD k d = d := by
 simp [List.getD_eq_getElem?_getD, List.getElem?_eq_none h]
end Go.AM
end
section
namespace Go.Srt
variable {α : Type}
/-- A strict weak order, as a test. -/
structure Ord (lt : α → α → Bool) : Prop where
 asym : ∀ a b, lt a b = true → lt b a = false
 ntr : ∀ a b c, lt b a = false → lt c b = false → lt c a = false
/-- Not after. -/
def le (lt : α → α → Bool) (a b : α) : Bool := !lt b a
/-- Two lists in order, merged; of equal ones the left one's first. -/
def mrg (lt : α → α → Bool) : List α → List α → List α
 | [], r => r
 | a :: l, [] => a :: l
 | a :: l, b :: r => if lt b a then b :: mrg lt (a :: l) r else a :: mrg lt l (b :: r)
termination_by l r => l.length + r.length
def Sorted (lt : α → α → Bool) (l : List α) : Prop := l.Pairwise fun a b => lt b a = false
theorem mrg_nil_right (lt : α → α → Bool) (l : List α) : mrg lt l [] = l := by cases l <;> simp [mrg]
theorem mrg_nil_left (lt : α → α → Bool) (l : List α) : mrg lt [] l = l := by simp [mrg]
theorem mrg_perm (lt : α → α → Bool) : ∀ l r : List α, (mrg lt l r).Perm (l ++ r)
 | [], r => by simp [mrg]
 | a :: l, [] => by simp [mrg]
 | a :: l, b :: r => by
  rw [mrg]
  split
  ·have := mrg_perm lt (a :: l) r
   exact (this.cons b).trans (List.perm_middle.symm)
  ·exact (mrg_perm lt l (b :: r)).cons a
termination_by l r => l.length + r.length
theorem mrg_mem {lt : α → α → Bool} {l r : List α} {x : α} : x ∈ mrg lt l r ↔ x ∈ l ∨ x ∈ r := by
 rw [(mrg_perm lt l r).mem_iff, List.mem_append]
theorem mrg_sorted {lt : α → α → Bool} (h : Ord lt) : ∀ {l r : List α}, Sorted lt l → Sorted lt r → Sorted lt (mrg lt l r)
 | [], r, _, hr => by simpa [mrg] using hr
 | a :: l, [], hl, _ => by simpa [mrg] using hl
 | a :: l, b :: r, hl, hr => by
  have hl' := List.pairwise_cons.1 hl
  have hr' := List.pairwise_cons.1 hr
  rw [mrg]
  split
  ·rename_i hlt
   refine List.pairwise_cons.2 ⟨fun x hx => ?_, mrg_sorted h hl hr'.2⟩
   rcases mrg_mem.1 hx with hx | hx
   ·rcases List.mem_cons.1 hx with rfl | hx
    ·exact h.asym _ _ hlt
    ·exact h.ntr b a x (h.asym _ _ hlt) (hl'.1 x hx)
   ·exact hr'.1 x hx
  ·rename_i hlt
   have hlt : lt b a = false := by simpa using hlt
   refine List.pairwise_cons.2 ⟨fun x hx => ?_, mrg_sorted h hl'.2 hr⟩
   rcases mrg_mem.1 hx with hx | hx
   ·exact hl'.1 x hx
   ·rcases List.mem_cons.1 hx with rfl | hx
    ·exact hlt
    ·exact h.ntr a b x hlt (hr'.1 x hx)
termination_by l r => l.length + r.length
/-- Parts that are apart merge apart. -/
theorem mrg_append {lt : α → α → Bool} (h : Ord lt) : ∀ {l1 l2 r1 r2 : List α}, (∀ x ∈ l1, ∀ y ∈ r2, lt y x = false) → (∀ x ∈ r1, ∀ y ∈ l2, lt x y = true) →
  mrg lt (l1 ++ l2) (r1 ++ r2) = mrg lt l1 r1 ++ mrg lt l2 r2
 | [], l2, [], r2, _, _ => by simp [mrg_nil_left]
 | [], l2, b :: r1, r2, h1, h2 => by
  have ih := mrg_append h (l1 := []) (l2 := l2) (r1 := r1) (r2 := r2) (fun x hx => by simp at hx) (fun x hx => h2 x (List.mem_cons_of_mem _ hx))
  simp only [List.nil_append, List.cons_append, mrg_nil_left] at ih ⊢
  cases l2 with
  | nil => simp [mrg_nil_left]
  | cons c l2 =>
   rw [mrg, if_pos (h2 b (List.mem_cons_self ..) c (List.mem_cons_self ..)), ih]
 | a :: l1, l2, [], r2, h1, h2 => by
  have ih := mrg_append h (l1 := l1) (l2 := l2) (r1 := []) (r2 := r2) (fun x hx => h1 x (List.mem_cons_of_mem _ hx)) (fun x hx => by simp at hx)
  simp only [List.nil_append, List.cons_append, mrg_nil_right] at ih ⊢
  cases r2 with
  | nil => simp [mrg_nil_right]
  | cons c r2 =>
   have : lt c a = false := h1 a (List.mem_cons_self ..) c (List.mem_cons_self ..)
   rw [mrg, if_neg (by simp [this]), ih]
 | a :: l1, l2, b :: r1, r2, h1, h2 => by
  simp only [List.cons_append]
  rw [mrg, mrg]
  split
  ·have ih := mrg_append h (l1 := a :: l1) (l2 := l2) (r1 := r1) (r2 := r2) h1 (fun x hx => h2 x (List.mem_cons_of_mem _ hx))
   simp only [List.cons_append] at ih ⊢
   rw [ih]
  ·have ih := mrg_append h (l1 := l1) (l2 := l2) (r1 := b :: r1) (r2 := r2) (fun x hx => h1 x (List.mem_cons_of_mem _ hx)) h2
   simp only [List.cons_append] at ih ⊢
   rw [ih]
termination_by l1 _ r1 _ => l1.length + r1.length
/-- One more, behind those that it is not before. -/
theorem mrg_one {lt : α → α → Bool} (h : Ord lt) {p q : List α} {x : α} (hp : ∀ y ∈ p, lt x y = false) (hq : ∀ y ∈ q, lt x y = true) : mrg lt (p ++ q) [x] = p ++ x :: q := by
 have e1 := mrg_append h (l1 := p) (l2 := q) (r1 := [x]) (r2 := []) (fun x hx y hy => by simp at hy) (fun z hz y hy => by simp at hz; subst hz; exact hq y hy)
 simp only [List.append_nil, mrg_nil_right] at e1
 rw [e1]
 have : mrg lt p [x] = p ++ [x] := by
  have := mrg_append h (l1 := p) (l2 := []) (r1 := []) (r2 := [x]) (fun z hz y hy => by simp at hy; subst hy; exact hp z hz) (fun z hz => by simp at hz)
  simpa [mrg_nil_right, mrg_nil_left] using this
 rw [this]; simp
/-- One more, ahead of those that are not before it. -/
theorem one_mrg {lt : α → α → Bool} (h : Ord lt) {p q : List α} {x : α} (hp : ∀ y ∈ p, lt y x = true) (hq : ∀ y ∈ q, lt y x = false) : mrg lt [x] (p ++ q) = p ++ x :: q := by
 have e1 := mrg_append h (l1 := []) (l2 := [x]) (r1 := p) (r2 := q) (fun z hz => by simp at hz) (fun z hz y hy => by simp at hy; subst hy; exact hp z hz)
 simp only [List.nil_append, mrg_nil_left] at e1
 rw [e1]
 have : mrg lt [x] q = x :: q := by
  cases q with
  | nil => simp [mrg_nil_right]
  | cons c q => rw [mrg, if_neg (by simp [hq c (List.mem_cons_self ..)]), mrg_nil_left]
 rw [this]
end Go.Srt
end
section
open Go.AM
namespace Go.Srt
set_option linter.unusedVariables false
variable {α : Type}
noncomputable def s81_1 (cmp : α → α → Option (Int × Unit)) (d : α) (nv0 : Nat) (v1 : Int) (v2 : Int) (v8 : Int) (v9 : Int) (b0 : List α) : Option ((Nat × Int × Int × Int × Int × (List α) × Unit) ⊕ ((Nat × Int × Int × Int × (List α) × Unit))) :=
 brO (decide (v1 < v9)) (
  need (inb v9 ((nv0 : Nat) : Int)) (
  need (decide (((0 : Nat) + (Int.toNat v9)) < (b0).length)) (
  need (rng .i64 (v9 - (1 : Int))) (
  need (inb (v9 - (1 : Int)) ((nv0 : Nat) : Int)) (
  need (decide (((0 : Nat) + (Int.toNat (v9 - (1 : Int)))) < (b0).length)) (
  bindO (cmp ((b0).getD ((0 : Nat) + (Int.toNat v9)) d) ((b0).getD ((0 : Nat) + (Int.toNat (v9 - (1 : Int)))) d)) fun y0 =>
  brO (decide (y0.1 < (0 : Int))) (
   need (rng .i64 (v9 - (1 : Int))) (
   need (rng .i64 (v9 - (1 : Int))) (
   need (inb (v9 - (1 : Int)) ((nv0 : Nat) : Int)) (
   need (decide (((0 : Nat) + (Int.toNat (v9 - (1 : Int)))) < (b0).length)) (
   need (inb v9 ((nv0 : Nat) : Int)) (
   need (decide (((0 : Nat) + (Int.toNat v9)) < (b0).length)) (
   need (inb v9 ((nv0 : Nat) : Int)) (
   need (decide (((0 : Nat) + (Int.toNat v9)) < (b0).length)) (
   need (inb (v9 - (1 : Int)) ((nv0 : Nat) : Int)) (
   need (decide (((0 : Nat) + (Int.toNat (v9 - (1 : Int)))) < (((b0).set ((0 : Nat) + (Int.toNat v9)) ((b0).getD ((0 : Nat) + (Int.toNat (v9 - (1 : Int)))) d))).length)) (
   need (rng .i64 (v9 - (1 : Int))) (
   some (.inl (nv0, (v1, (v2, (v8, ((v9 - (1 : Int)), (((((b0).set ((0 : Nat) + (Int.toNat v9)) ((b0).getD ((0 : Nat) + (Int.toNat (v9 - (1 : Int)))) d))).set ((0 : Nat) + (Int.toNat (v9 - (1 : Int)))) ((b0).getD ((0 : Nat) + (Int.toNat v9)) d)), ()))))))))))))))))))) (
   some (.inr (nv0, (v1, (v2, (v8, (b0, ()))))))))))))) (
  some (.inr (nv0, (v1, (v2, (v8, (b0, ())))))))
noncomputable def s81_0 (cmp : α → α → Option (Int × Unit)) (d : α) (nv0 : Nat) (v1 : Int) (v2 : Int) (v8 : Int) (b0 : List α) : Option ((Nat × Int × Int × Int × (List α) × Unit) ⊕ (((List α) × Unit))) :=
 brO (decide (v8 < v2)) (
  bindO (iter (fun x => s81_1 cmp d x.1 x.2.1 x.2.2.1 x.2.2.2.1 x.2.2.2.2.1 x.2.2.2.2.2.1) (nv0, (v1, (v2, (v8, (v8, (b0, ()))))))) fun z1 =>
  need (rng .i64 (z1.2.2.2.1 + (1 : Int))) (
  some (.inl (z1.1, (z1.2.1, (z1.2.2.1, ((z1.2.2.2.1 + (1 : Int)), (z1.2.2.2.2.1, ())))))))) (
  some (.inr (b0, ())))
noncomputable def S81 (cmp : α → α → Option (Int × Unit)) (d : α) (nv0 : Nat) (v1 : Int) (v2 : Int) (b0 : List α) : Option ((List α) × Unit) :=
 need (rng .i64 (v1 + (1 : Int))) (
 bindO (iter (fun x => s81_0 cmp d x.1 x.2.1 x.2.2.1 x.2.2.2.1 x.2.2.2.2.1) (nv0, (v1, (v2, ((v1 + (1 : Int)), (b0, ())))))) fun z2 =>
 some (z2.1, ()))
noncomputable def s84_0 (cmp : α → α → Option (Int × Unit)) (d : α) (nv0 : Nat) (v1 : Int) (v2 : Int) (v3 : Int) (v10 : Int) (b0 : List α) : Option ((Nat × Int × Int × Int × Int × (List α) × Unit) ⊕ (((List α) × Unit))) :=
 brO (decide (v10 < v3)) (
  need (rng .i64 (v1 + v10)) (
  need (rng .i64 (v2 + v10)) (
  need (rng .i64 (v2 + v10)) (
  need (inb (v2 + v10) ((nv0 : Nat) : Int)) (
  need (decide (((0 : Nat) + (Int.toNat (v2 + v10))) < (b0).length)) (
  need (rng .i64 (v1 + v10)) (
  need (inb (v1 + v10) ((nv0 : Nat) : Int)) (
  need (decide (((0 : Nat) + (Int.toNat (v1 + v10))) < (b0).length)) (
  need (inb (v1 + v10) ((nv0 : Nat) : Int)) (
  need (decide (((0 : Nat) + (Int.toNat (v1 + v10))) < (b0).length)) (
  need (inb (v2 + v10) ((nv0 : Nat) : Int)) (
  need (decide (((0 : Nat) + (Int.toNat (v2 + v10))) < (((b0).set ((0 : Nat) + (Int.toNat (v1 + v10))) ((b0).getD ((0 : Nat) + (Int.toNat (v2 + v10))) d))).length)) (
  need (rng .i64 (v10 + (1 : Int))) (
  some (.inl (nv0, (v1, (v2, (v3, ((v10 + (1 : Int)), (((((b0).set ((0 : Nat) + (Int.toNat (v1 + v10))) ((b0).getD ((0 : Nat) + (Int.toNat (v2 + v10))) d))).set ((0 : Nat) + (Int.toNat (v2 + v10))) ((b0).getD ((0 : Nat) + (Int.toNat (v1 + v10))) d)), ()))))))))))))))))))))) (
  some (.inr (b0, ())))
noncomputable def S84 (cmp : α → α → Option (Int × Unit)) (d : α) (nv0 : Nat) (v1 : Int) (v2 : Int) (v3 : Int) (b0 : List α) : Option ((List α) × Unit) :=
 bindO (iter (fun x => s84_0 cmp d x.1 x.2.1 x.2.2.1 x.2.2.2.1 x.2.2.2.2.1 x.2.2.2.2.2.1) (nv0, (v1, (v2, (v3, ((0 : Int), (b0, ()))))))) fun z0 =>
 some (z0.1, ())
noncomputable def s83_0 (cmp : α → α → Option (Int × Unit)) (d : α) (nv0 : Nat) (v2 : Int) (v10 : Int) (v11 : Int) (b0 : List α) : Option ((Nat × Int × Int × Int × (List α) × Unit) ⊕ ((Nat × Int × Int × (List α) × Unit))) :=
 brO (!(v10 == v11)) (
  brO (decide (v11 < v10)) (
   need (rng .i64 (v2 - v10)) (
   bindO (S84 cmp d nv0 (v2 - v10) v2 v11 b0) fun y0 =>
   need (rng .i64 (v10 - v11)) (
   some (.inl (nv0, (v2, ((v10 - v11), (v11, (y0.1, ()))))))))) (
   need (rng .i64 (v2 - v10)) (
   need (rng .i64 (v2 + v11)) (
   need (rng .i64 ((v2 + v11) - v10)) (
   bindO (S84 cmp d nv0 (v2 - v10) ((v2 + v11) - v10) v10 b0) fun y1 =>
   need (rng .i64 (v11 - v10)) (
   some (.inl (nv0, (v2, (v10, ((v11 - v10), (y1.1, ())))))))))))) (
  some (.inr (nv0, (v2, (v10, (b0, ()))))))
noncomputable def S83 (cmp : α → α → Option (Int × Unit)) (d : α) (nv0 : Nat) (v1 : Int) (v2 : Int) (v3 : Int) (b0 : List α) : Option ((List α) × Unit) :=
 need (rng .i64 (v2 - v1)) (
 need (rng .i64 (v3 - v2)) (
 bindO (iter (fun x => s83_0 cmp d x.1 x.2.1 x.2.2.1 x.2.2.2.1 x.2.2.2.2.1) (nv0, (v2, ((v2 - v1), ((v3 - v2), (b0, ())))))) fun z2 =>
 need (rng .i64 (z2.2.1 - z2.2.2.1)) (
 bindO (S84 cmp d z2.1 (z2.2.1 - z2.2.2.1) z2.2.1 z2.2.2.1 z2.2.2.2.1) fun y3 =>
 some (y3.1, ()))))
noncomputable def s82_0 (cmp : α → α → Option (Int × Unit)) (d : α) (rec : (Nat × Int × Int × Int × (List α) × Unit) → Option ((List α) × Unit)) (nv0 : Nat) (v1 : Int) (v10 : Int) (v11 : Int) (b0 : List α) : Option ((Nat × Int × Int × Int × (List α) × Unit) ⊕ ((Nat × Int × Int × (List α) × Unit))) :=
 brO (decide (v10 < v11)) (
  need (rng .i64 (v10 + v11)) (
  need (rng .u64 (v10 + v11)) (
  need (inb (1 : Int) (64 : Int)) (
  need (rng .i64 (ar0.shr (v10 + v11) (1 : Int))) (
  need (inb (ar0.shr (v10 + v11) (1 : Int)) ((nv0 : Nat) : Int)) (
  need (decide (((0 : Nat) + (Int.toNat (ar0.shr (v10 + v11) (1 : Int)))) < (b0).length)) (
  need (inb v1 ((nv0 : Nat) : Int)) (
  need (decide (((0 : Nat) + (Int.toNat v1)) < (b0).length)) (
  bindO (cmp ((b0).getD ((0 : Nat) + (Int.toNat (ar0.shr (v10 + v11) (1 : Int)))) d) ((b0).getD ((0 : Nat) + (Int.toNat v1)) d)) fun y0 =>
  brO (decide (y0.1 < (0 : Int))) (
   need (rng .i64 ((ar0.shr (v10 + v11) (1 : Int)) + (1 : Int))) (
   some (.inl (nv0, (v1, (((ar0.shr (v10 + v11) (1 : Int)) + (1 : Int)), (v11, (b0, ())))))))) (
   some (.inl (nv0, (v1, (v10, ((ar0.shr (v10 + v11) (1 : Int)), (b0, ())))))))))))))))) (
  some (.inr (nv0, (v1, (v10, (b0, ()))))))
noncomputable def s82_1 (cmp : α → α → Option (Int × Unit)) (d : α) (rec : (Nat × Int × Int × Int × (List α) × Unit) → Option ((List α) × Unit)) (nv0 : Nat) (v10 : Int) (v13 : Int) (b0 : List α) : Option ((Nat × Int × Int × (List α) × Unit) ⊕ (((List α) × Unit))) :=
 need (rng .i64 (v10 - (1 : Int))) (
 brO (decide (v13 < (v10 - (1 : Int)))) (
  need (rng .i64 (v13 + (1 : Int))) (
  need (rng .i64 (v13 + (1 : Int))) (
  need (inb (v13 + (1 : Int)) ((nv0 : Nat) : Int)) (
  need (decide (((0 : Nat) + (Int.toNat (v13 + (1 : Int)))) < (b0).length)) (
  need (inb v13 ((nv0 : Nat) : Int)) (
  need (decide (((0 : Nat) + (Int.toNat v13)) < (b0).length)) (
  need (inb v13 ((nv0 : Nat) : Int)) (
  need (decide (((0 : Nat) + (Int.toNat v13)) < (b0).length)) (
  need (inb (v13 + (1 : Int)) ((nv0 : Nat) : Int)) (
  need (decide (((0 : Nat) + (Int.toNat (v13 + (1 : Int)))) < (((b0).set ((0 : Nat) + (Int.toNat v13)) ((b0).getD ((0 : Nat) + (Int.toNat (v13 + (1 : Int)))) d))).length)) (
  need (rng .i64 (v13 + (1 : Int))) (
  some (.inl (nv0, (v10, ((v13 + (1 : Int)), (((((b0).set ((0 : Nat) + (Int.toNat v13)) ((b0).getD ((0 : Nat) + (Int.toNat (v13 + (1 : Int)))) d))).set ((0 : Nat) + (Int.toNat (v13 + (1 : Int)))) ((b0).getD ((0 : Nat) + (Int.toNat v13)) d)), ()))))))))))))))))) (
  some (.inr (b0, ()))))
noncomputable def s82_2 (cmp : α → α → Option (Int × Unit)) (d : α) (rec : (Nat × Int × Int × Int × (List α) × Unit) → Option ((List α) × Unit)) (nv0 : Nat) (v2 : Int) (v14 : Int) (v15 : Int) (b0 : List α) : Option ((Nat × Int × Int × Int × (List α) × Unit) ⊕ ((Nat × Int × Int × (List α) × Unit))) :=
 brO (decide (v14 < v15)) (
  need (rng .i64 (v14 + v15)) (
  need (rng .u64 (v14 + v15)) (
  need (inb (1 : Int) (64 : Int)) (
  need (rng .i64 (ar0.shr (v14 + v15) (1 : Int))) (
  need (inb v2 ((nv0 : Nat) : Int)) (
  need (decide (((0 : Nat) + (Int.toNat v2)) < (b0).length)) (
  need (inb (ar0.shr (v14 + v15) (1 : Int)) ((nv0 : Nat) : Int)) (
  need (decide (((0 : Nat) + (Int.toNat (ar0.shr (v14 + v15) (1 : Int)))) < (b0).length)) (
  bindO (cmp ((b0).getD ((0 : Nat) + (Int.toNat v2)) d) ((b0).getD ((0 : Nat) + (Int.toNat (ar0.shr (v14 + v15) (1 : Int)))) d)) fun y3 =>
  brO (!(decide (y3.1 < (0 : Int)))) (
   need (rng .i64 ((ar0.shr (v14 + v15) (1 : Int)) + (1 : Int))) (
   some (.inl (nv0, (v2, (((ar0.shr (v14 + v15) (1 : Int)) + (1 : Int)), (v15, (b0, ())))))))) (
   some (.inl (nv0, (v2, (v14, ((ar0.shr (v14 + v15) (1 : Int)), (b0, ())))))))))))))))) (
  some (.inr (nv0, (v2, (v14, (b0, ()))))))
noncomputable def s82_3 (cmp : α → α → Option (Int × Unit)) (d : α) (rec : (Nat × Int × Int × Int × (List α) × Unit) → Option ((List α) × Unit)) (nv0 : Nat) (v14 : Int) (v17 : Int) (b0 : List α) : Option ((Nat × Int × Int × (List α) × Unit) ⊕ (((List α) × Unit))) :=
 brO (decide (v14 < v17)) (
  need (rng .i64 (v17 - (1 : Int))) (
  need (rng .i64 (v17 - (1 : Int))) (
  need (inb (v17 - (1 : Int)) ((nv0 : Nat) : Int)) (
  need (decide (((0 : Nat) + (Int.toNat (v17 - (1 : Int)))) < (b0).length)) (
  need (inb v17 ((nv0 : Nat) : Int)) (
  need (decide (((0 : Nat) + (Int.toNat v17)) < (b0).length)) (
  need (inb v17 ((nv0 : Nat) : Int)) (
  need (decide (((0 : Nat) + (Int.toNat v17)) < (b0).length)) (
  need (inb (v17 - (1 : Int)) ((nv0 : Nat) : Int)) (
  need (decide (((0 : Nat) + (Int.toNat (v17 - (1 : Int)))) < (((b0).set ((0 : Nat) + (Int.toNat v17)) ((b0).getD ((0 : Nat) + (Int.toNat (v17 - (1 : Int)))) d))).length)) (
  need (rng .i64 (v17 - (1 : Int))) (
  some (.inl (nv0, (v14, ((v17 - (1 : Int)), (((((b0).set ((0 : Nat) + (Int.toNat v17)) ((b0).getD ((0 : Nat) + (Int.toNat (v17 - (1 : Int)))) d))).set ((0 : Nat) + (Int.toNat (v17 - (1 : Int)))) ((b0).getD ((0 : Nat) + (Int.toNat v17)) d)), ()))))))))))))))))) (
  some (.inr (b0, ())))
noncomputable def s82_4 (cmp : α → α → Option (Int × Unit)) (d : α) (rec : (Nat × Int × Int × Int × (List α) × Unit) → Option ((List α) × Unit)) (nv0 : Nat) (v1 : Int) (v2 : Int) (v3 : Int) (v18 : Int) (v19 : Int) (v20 : Int) (v21 : Int) (v22 : Int) (b0 : List α) : Option ((Nat × Int × Int × Int × Int × Int × Int × Int × Int × (List α) × Unit) ⊕ ((Nat × Int × Int × Int × Int × Int × Int × (List α) × Unit))) :=
 brO (decide (v20 < v21)) (
  need (rng .i64 (v20 + v21)) (
  need (rng .u64 (v20 + v21)) (
  need (inb (1 : Int) (64 : Int)) (
  need (rng .i64 (ar0.shr (v20 + v21) (1 : Int))) (
  need (rng .i64 (v22 - (ar0.shr (v20 + v21) (1 : Int)))) (
  need (inb (v22 - (ar0.shr (v20 + v21) (1 : Int))) ((nv0 : Nat) : Int)) (
  need (decide (((0 : Nat) + (Int.toNat (v22 - (ar0.shr (v20 + v21) (1 : Int))))) < (b0).length)) (
  need (inb (ar0.shr (v20 + v21) (1 : Int)) ((nv0 : Nat) : Int)) (
  need (decide (((0 : Nat) + (Int.toNat (ar0.shr (v20 + v21) (1 : Int)))) < (b0).length)) (
  bindO (cmp ((b0).getD ((0 : Nat) + (Int.toNat (v22 - (ar0.shr (v20 + v21) (1 : Int))))) d) ((b0).getD ((0 : Nat) + (Int.toNat (ar0.shr (v20 + v21) (1 : Int)))) d)) fun y6 =>
  brO (!(decide (y6.1 < (0 : Int)))) (
   need (rng .i64 ((ar0.shr (v20 + v21) (1 : Int)) + (1 : Int))) (
   some (.inl (nv0, (v1, (v2, (v3, (v18, (v19, (((ar0.shr (v20 + v21) (1 : Int)) + (1 : Int)), (v21, (v22, (b0, ()))))))))))))) (
   some (.inl (nv0, (v1, (v2, (v3, (v18, (v19, (v20, ((ar0.shr (v20 + v21) (1 : Int)), (v22, (b0, ())))))))))))))))))))))) (
  some (.inr (nv0, (v1, (v2, (v3, (v18, (v19, (v20, (b0, ()))))))))))
noncomputable def S82 (cmp : α → α → Option (Int × Unit)) (d : α) (rec : (Nat × Int × Int × Int × (List α) × Unit) → Option ((List α) × Unit)) (nv0 : Nat) (v1 : Int) (v2 : Int) (v3 : Int) (b0 : List α) : Option ((List α) × Unit) :=
 need (rng .i64 (v2 - v1)) (
 brO ((v2 - v1) == (1 : Int)) (
  bindO (iter (fun x => s82_0 cmp d rec x.1 x.2.1 x.2.2.1 x.2.2.2.1 x.2.2.2.2.1) (nv0, (v1, (v2, (v3, (b0, ())))))) fun z1 =>
  bindO (iter (fun x => s82_1 cmp d rec x.1 x.2.1 x.2.2.1 x.2.2.2.1) (z1.1, (z1.2.2.1, (z1.2.1, (z1.2.2.2.1, ()))))) fun z2 =>
  some (z2.1, ())) (
  need (rng .i64 (v3 - v2)) (
  brO ((v3 - v2) == (1 : Int)) (
   bindO (iter (fun x => s82_2 cmp d rec x.1 x.2.1 x.2.2.1 x.2.2.2.1 x.2.2.2.2.1) (nv0, (v2, (v1, (v2, (b0, ())))))) fun z4 =>
   bindO (iter (fun x => s82_3 cmp d rec x.1 x.2.1 x.2.2.1 x.2.2.2.1) (z4.1, (z4.2.2.1, (z4.2.1, (z4.2.2.2.1, ()))))) fun z5 =>
   some (z5.1, ())) (
   need (rng .i64 (v1 + v3)) (
   need (rng .u64 (v1 + v3)) (
   need (inb (1 : Int) (64 : Int)) (
   need (rng .i64 (ar0.shr (v1 + v3) (1 : Int))) (
   need (rng .i64 ((ar0.shr (v1 + v3) (1 : Int)) + v2)) (
   brO (decide ((ar0.shr (v1 + v3) (1 : Int)) < v2)) (
    need (rng .i64 (((ar0.shr (v1 + v3) (1 : Int)) + v2) - v3)) (
    need (rng .i64 (((ar0.shr (v1 + v3) (1 : Int)) + v2) - (1 : Int))) (
    bindO (iter (fun x => s82_4 cmp d rec x.1 x.2.1 x.2.2.1 x.2.2.2.1 x.2.2.2.2.1 x.2.2.2.2.2.1 x.2.2.2.2.2.2.1 x.2.2.2.2.2.2.2.1 x.2.2.2.2.2.2.2.2.1 x.2.2.2.2.2.2.2.2.2.1) (nv0, (v1, (v2, (v3, ((ar0.shr (v1 + v3) (1 : Int)), (((ar0.shr (v1 + v3) (1 : Int)) + v2), ((((ar0.shr (v1 + v3) (1 : Int)) + v2) - v3), ((ar0.shr (v1 + v3) (1 : Int)), ((((ar0.shr (v1 + v3) (1 : Int)) + v2) - (1 : Int)), (b0, ()))))))))))) fun z7 =>
    need (rng .i64 (z7.2.2.2.2.2.1 - z7.2.2.2.2.2.2.1)) (
    brO (decide (z7.2.2.2.2.2.2.1 < z7.2.2.1)) (
     brO (decide (z7.2.2.1 < (z7.2.2.2.2.2.1 - z7.2.2.2.2.2.2.1))) (
      bindO (S83 cmp d z7.1 z7.2.2.2.2.2.2.1 z7.2.2.1 (z7.2.2.2.2.2.1 - z7.2.2.2.2.2.2.1) z7.2.2.2.2.2.2.2.1) fun y8 =>
      brO (decide (z7.2.1 < z7.2.2.2.2.2.2.1)) (
       brO (decide (z7.2.2.2.2.2.2.1 < z7.2.2.2.2.1)) (
        bindO (rec (z7.1, (z7.2.1, (z7.2.2.2.2.2.2.1, (z7.2.2.2.2.1, (y8.1, ())))))) fun y9 =>
        brO (decide (z7.2.2.2.2.1 < (z7.2.2.2.2.2.1 - z7.2.2.2.2.2.2.1))) (
         brO (decide ((z7.2.2.2.2.2.1 - z7.2.2.2.2.2.2.1) < z7.2.2.2.1)) (
          bindO (rec (z7.1, (z7.2.2.2.2.1, ((z7.2.2.2.2.2.1 - z7.2.2.2.2.2.2.1), (z7.2.2.2.1, (y9.1, ())))))) fun y10 =>
          some (y10.1, ())) (
          some (y9.1, ()))) (
         some (y9.1, ()))) (
        brO (decide (z7.2.2.2.2.1 < (z7.2.2.2.2.2.1 - z7.2.2.2.2.2.2.1))) (
         brO (decide ((z7.2.2.2.2.2.1 - z7.2.2.2.2.2.2.1) < z7.2.2.2.1)) (
          bindO (rec (z7.1, (z7.2.2.2.2.1, ((z7.2.2.2.2.2.1 - z7.2.2.2.2.2.2.1), (z7.2.2.2.1, (y8.1, ())))))) fun y11 =>
          some (y11.1, ())) (
          some (y8.1, ()))) (
         some (y8.1, ())))) (
       brO (decide (z7.2.2.2.2.1 < (z7.2.2.2.2.2.1 - z7.2.2.2.2.2.2.1))) (
        brO (decide ((z7.2.2.2.2.2.1 - z7.2.2.2.2.2.2.1) < z7.2.2.2.1)) (
         bindO (rec (z7.1, (z7.2.2.2.2.1, ((z7.2.2.2.2.2.1 - z7.2.2.2.2.2.2.1), (z7.2.2.2.1, (y8.1, ())))))) fun y12 =>
         some (y12.1, ())) (
         some (y8.1, ()))) (
        some (y8.1, ())))) (
      brO (decide (z7.2.1 < z7.2.2.2.2.2.2.1)) (
       brO (decide (z7.2.2.2.2.2.2.1 < z7.2.2.2.2.1)) (
        bindO (rec (z7.1, (z7.2.1, (z7.2.2.2.2.2.2.1, (z7.2.2.2.2.1, (z7.2.2.2.2.2.2.2.1, ())))))) fun y13 =>
        brO (decide (z7.2.2.2.2.1 < (z7.2.2.2.2.2.1 - z7.2.2.2.2.2.2.1))) (
         brO (decide ((z7.2.2.2.2.2.1 - z7.2.2.2.2.2.2.1) < z7.2.2.2.1)) (
          bindO (rec (z7.1, (z7.2.2.2.2.1, ((z7.2.2.2.2.2.1 - z7.2.2.2.2.2.2.1), (z7.2.2.2.1, (y13.1, ())))))) fun y14 =>
          some (y14.1, ())) (
          some (y13.1, ()))) (
         some (y13.1, ()))) (
        brO (decide (z7.2.2.2.2.1 < (z7.2.2.2.2.2.1 - z7.2.2.2.2.2.2.1))) (
         brO (decide ((z7.2.2.2.2.2.1 - z7.2.2.2.2.2.2.1) < z7.2.2.2.1)) (
          bindO (rec (z7.1, (z7.2.2.2.2.1, ((z7.2.2.2.2.2.1 - z7.2.2.2.2.2.2.1), (z7.2.2.2.1, (z7.2.2.2.2.2.2.2.1, ())))))) fun y15 =>
          some (y15.1, ())) (
          some (z7.2.2.2.2.2.2.2.1, ()))) (
         some (z7.2.2.2.2.2.2.2.1, ())))) (
       brO (decide (z7.2.2.2.2.1 < (z7.2.2.2.2.2.1 - z7.2.2.2.2.2.2.1))) (
        brO (decide ((z7.2.2.2.2.2.1 - z7.2.2.2.2.2.2.1) < z7.2.2.2.1)) (
         bindO (rec (z7.1, (z7.2.2.2.2.1, ((z7.2.2.2.2.2.1 - z7.2.2.2.2.2.2.1), (z7.2.2.2.1, (z7.2.2.2.2.2.2.2.1, ())))))) fun y16 =>
         some (y16.1, ())) (
         some (z7.2.2.2.2.2.2.2.1, ()))) (
        some (z7.2.2.2.2.2.2.2.1, ()))))) (
     brO (decide (z7.2.1 < z7.2.2.2.2.2.2.1)) (
      brO (decide (z7.2.2.2.2.2.2.1 < z7.2.2.2.2.1)) (
       bindO (rec (z7.1, (z7.2.1, (z7.2.2.2.2.2.2.1, (z7.2.2.2.2.1, (z7.2.2.2.2.2.2.2.1, ())))))) fun y17 =>
       brO (decide (z7.2.2.2.2.1 < (z7.2.2.2.2.2.1 - z7.2.2.2.2.2.2.1))) (
        brO (decide ((z7.2.2.2.2.2.1 - z7.2.2.2.2.2.2.1) < z7.2.2.2.1)) (
         bindO (rec (z7.1, (z7.2.2.2.2.1, ((z7.2.2.2.2.2.1 - z7.2.2.2.2.2.2.1), (z7.2.2.2.1, (y17.1, ())))))) fun y18 =>
         some (y18.1, ())) (
         some (y17.1, ()))) (
        some (y17.1, ()))) (
       brO (decide (z7.2.2.2.2.1 < (z7.2.2.2.2.2.1 - z7.2.2.2.2.2.2.1))) (
        brO (decide ((z7.2.2.2.2.2.1 - z7.2.2.2.2.2.2.1) < z7.2.2.2.1)) (
         bindO (rec (z7.1, (z7.2.2.2.2.1, ((z7.2.2.2.2.2.1 - z7.2.2.2.2.2.2.1), (z7.2.2.2.1, (z7.2.2.2.2.2.2.2.1, ())))))) fun y19 =>
         some (y19.1, ())) (
         some (z7.2.2.2.2.2.2.2.1, ()))) (
        some (z7.2.2.2.2.2.2.2.1, ())))) (
      brO (decide (z7.2.2.2.2.1 < (z7.2.2.2.2.2.1 - z7.2.2.2.2.2.2.1))) (
       brO (decide ((z7.2.2.2.2.2.1 - z7.2.2.2.2.2.2.1) < z7.2.2.2.1)) (
        bindO (rec (z7.1, (z7.2.2.2.2.1, ((z7.2.2.2.2.2.1 - z7.2.2.2.2.2.2.1), (z7.2.2.2.1, (z7.2.2.2.2.2.2.2.1, ())))))) fun y20 =>
        some (y20.1, ())) (
        some (z7.2.2.2.2.2.2.2.1, ()))) (
       some (z7.2.2.2.2.2.2.2.1, ())))))))) (
    need (rng .i64 (((ar0.shr (v1 + v3) (1 : Int)) + v2) - (1 : Int))) (
    bindO (iter (fun x => s82_4 cmp d rec x.1 x.2.1 x.2.2.1 x.2.2.2.1 x.2.2.2.2.1 x.2.2.2.2.2.1 x.2.2.2.2.2.2.1 x.2.2.2.2.2.2.2.1 x.2.2.2.2.2.2.2.2.1 x.2.2.2.2.2.2.2.2.2.1) (nv0, (v1, (v2, (v3, ((ar0.shr (v1 + v3) (1 : Int)), (((ar0.shr (v1 + v3) (1 : Int)) + v2), (v1, (v2, ((((ar0.shr (v1 + v3) (1 : Int)) + v2) - (1 : Int)), (b0, ()))))))))))) fun z21 =>
    need (rng .i64 (z21.2.2.2.2.2.1 - z21.2.2.2.2.2.2.1)) (
    brO (decide (z21.2.2.2.2.2.2.1 < z21.2.2.1)) (
     brO (decide (z21.2.2.1 < (z21.2.2.2.2.2.1 - z21.2.2.2.2.2.2.1))) (
      bindO (S83 cmp d z21.1 z21.2.2.2.2.2.2.1 z21.2.2.1 (z21.2.2.2.2.2.1 - z21.2.2.2.2.2.2.1) z21.2.2.2.2.2.2.2.1) fun y22 =>
      brO (decide (z21.2.1 < z21.2.2.2.2.2.2.1)) (
       brO (decide (z21.2.2.2.2.2.2.1 < z21.2.2.2.2.1)) (
        bindO (rec (z21.1, (z21.2.1, (z21.2.2.2.2.2.2.1, (z21.2.2.2.2.1, (y22.1, ())))))) fun y23 =>
        brO (decide (z21.2.2.2.2.1 < (z21.2.2.2.2.2.1 - z21.2.2.2.2.2.2.1))) (
         brO (decide ((z21.2.2.2.2.2.1 - z21.2.2.2.2.2.2.1) < z21.2.2.2.1)) (
          bindO (rec (z21.1, (z21.2.2.2.2.1, ((z21.2.2.2.2.2.1 - z21.2.2.2.2.2.2.1), (z21.2.2.2.1, (y23.1, ())))))) fun y24 =>
          some (y24.1, ())) (
          some (y23.1, ()))) (
         some (y23.1, ()))) (
        brO (decide (z21.2.2.2.2.1 < (z21.2.2.2.2.2.1 - z21.2.2.2.2.2.2.1))) (
         brO (decide ((z21.2.2.2.2.2.1 - z21.2.2.2.2.2.2.1) < z21.2.2.2.1)) (
          bindO (rec (z21.1, (z21.2.2.2.2.1, ((z21.2.2.2.2.2.1 - z21.2.2.2.2.2.2.1), (z21.2.2.2.1, (y22.1, ())))))) fun y25 =>
          some (y25.1, ())) (
          some (y22.1, ()))) (
         some (y22.1, ())))) (
       brO (decide (z21.2.2.2.2.1 < (z21.2.2.2.2.2.1 - z21.2.2.2.2.2.2.1))) (
        brO (decide ((z21.2.2.2.2.2.1 - z21.2.2.2.2.2.2.1) < z21.2.2.2.1)) (
         bindO (rec (z21.1, (z21.2.2.2.2.1, ((z21.2.2.2.2.2.1 - z21.2.2.2.2.2.2.1), (z21.2.2.2.1, (y22.1, ())))))) fun y26 =>
         some (y26.1, ())) (
         some (y22.1, ()))) (
        some (y22.1, ())))) (
      brO (decide (z21.2.1 < z21.2.2.2.2.2.2.1)) (
       brO (decide (z21.2.2.2.2.2.2.1 < z21.2.2.2.2.1)) (
        bindO (rec (z21.1, (z21.2.1, (z21.2.2.2.2.2.2.1, (z21.2.2.2.2.1, (z21.2.2.2.2.2.2.2.1, ())))))) fun y27 =>
        brO (decide (z21.2.2.2.2.1 < (z21.2.2.2.2.2.1 - z21.2.2.2.2.2.2.1))) (
         brO (decide ((z21.2.2.2.2.2.1 - z21.2.2.2.2.2.2.1) < z21.2.2.2.1)) (
          bindO (rec (z21.1, (z21.2.2.2.2.1, ((z21.2.2.2.2.2.1 - z21.2.2.2.2.2.2.1), (z21.2.2.2.1, (y27.1, ())))))) fun y28 =>
          some (y28.1, ())) (
          some (y27.1, ()))) (
         some (y27.1, ()))) (
        brO (decide (z21.2.2.2.2.1 < (z21.2.2.2.2.2.1 - z21.2.2.2.2.2.2.1))) (
         brO (decide ((z21.2.2.2.2.2.1 - z21.2.2.2.2.2.2.1) < z21.2.2.2.1)) (
          bindO (rec (z21.1, (z21.2.2.2.2.1, ((z21.2.2.2.2.2.1 - z21.2.2.2.2.2.2.1), (z21.2.2.2.1, (z21.2.2.2.2.2.2.2.1, ())))))) fun y29 =>
          some (y29.1, ())) (
          some (z21.2.2.2.2.2.2.2.1, ()))) (
         some (z21.2.2.2.2.2.2.2.1, ())))) (
       brO (decide (z21.2.2.2.2.1 < (z21.2.2.2.2.2.1 - z21.2.2.2.2.2.2.1))) (
        brO (decide ((z21.2.2.2.2.2.1 - z21.2.2.2.2.2.2.1) < z21.2.2.2.1)) (
         bindO (rec (z21.1, (z21.2.2.2.2.1, ((z21.2.2.2.2.2.1 - z21.2.2.2.2.2.2.1), (z21.2.2.2.1, (z21.2.2.2.2.2.2.2.1, ())))))) fun y30 =>
         some (y30.1, ())) (
         some (z21.2.2.2.2.2.2.2.1, ()))) (
        some (z21.2.2.2.2.2.2.2.1, ()))))) (
     brO (decide (z21.2.1 < z21.2.2.2.2.2.2.1)) (
      brO (decide (z21.2.2.2.2.2.2.1 < z21.2.2.2.2.1)) (
       bindO (rec (z21.1, (z21.2.1, (z21.2.2.2.2.2.2.1, (z21.2.2.2.2.1, (z21.2.2.2.2.2.2.2.1, ())))))) fun y31 =>
       brO (decide (z21.2.2.2.2.1 < (z21.2.2.2.2.2.1 - z21.2.2.2.2.2.2.1))) (
        brO (decide ((z21.2.2.2.2.2.1 - z21.2.2.2.2.2.2.1) < z21.2.2.2.1)) (
         bindO (rec (z21.1, (z21.2.2.2.2.1, ((z21.2.2.2.2.2.1 - z21.2.2.2.2.2.2.1), (z21.2.2.2.1, (y31.1, ())))))) fun y32 =>
         some (y32.1, ())) (
         some (y31.1, ()))) (
        some (y31.1, ()))) (
       brO (decide (z21.2.2.2.2.1 < (z21.2.2.2.2.2.1 - z21.2.2.2.2.2.2.1))) (
        brO (decide ((z21.2.2.2.2.2.1 - z21.2.2.2.2.2.2.1) < z21.2.2.2.1)) (
         bindO (rec (z21.1, (z21.2.2.2.2.1, ((z21.2.2.2.2.2.1 - z21.2.2.2.2.2.2.1), (z21.2.2.2.1, (z21.2.2.2.2.2.2.2.1, ())))))) fun y33 =>
         some (y33.1, ())) (
         some (z21.2.2.2.2.2.2.2.1, ()))) (
        some (z21.2.2.2.2.2.2.2.1, ())))) (
      brO (decide (z21.2.2.2.2.1 < (z21.2.2.2.2.2.1 - z21.2.2.2.2.2.2.1))) (
       brO (decide ((z21.2.2.2.2.2.1 - z21.2.2.2.2.2.2.1) < z21.2.2.2.1)) (
        bindO (rec (z21.1, (z21.2.2.2.2.1, ((z21.2.2.2.2.2.1 - z21.2.2.2.2.2.2.1), (z21.2.2.2.1, (z21.2.2.2.2.2.2.2.1, ())))))) fun y34 =>
        some (y34.1, ())) (
        some (z21.2.2.2.2.2.2.2.1, ()))) (
       some (z21.2.2.2.2.2.2.2.1, ()))))))))))))))))
noncomputable def S82fix (cmp : α → α → Option (Int × Unit)) (d : α) (nv0 : Nat) (v1 : Int) (v2 : Int) (v3 : Int) (b0 : List α) : Option ((List α) × Unit) := fixO (fun rec x => S82 cmp d rec x.1 x.2.1 x.2.2.1 x.2.2.2.1 x.2.2.2.2.1) (nv0, v1, v2, v3, b0, ())
noncomputable def s79_0 (cmp : α → α → Option (Int × Unit)) (d : α) (nv0 : Nat) (v1 : Int) (v6 : Int) (v7 : Int) (v8 : Int) (b0 : List α) : Option ((Nat × Int × Int × Int × Int × (List α) × Unit) ⊕ ((Nat × Int × Int × Int × (List α) × Unit))) :=
 brO (decide (v8 ≤ v1)) (
  bindO (S81 cmp d nv0 v7 v8 b0) fun y0 =>
  need (rng .i64 (v8 + v6)) (
  some (.inl (nv0, (v1, (v6, (v8, ((v8 + v6), (y0.1, ()))))))))) (
  some (.inr (nv0, (v1, (v6, (v7, (b0, ())))))))
noncomputable def s79_2 (cmp : α → α → Option (Int × Unit)) (d : α) (nv0 : Nat) (v1 : Int) (v6 : Int) (v7 : Int) (v8 : Int) (b0 : List α) : Option ((Nat × Int × Int × Int × Int × (List α) × Unit) ⊕ ((Nat × Int × Int × Int × (List α) × Unit))) :=
 brO (decide (v8 ≤ v1)) (
  need (rng .i64 (v7 + v6)) (
  bindO (S82fix cmp d nv0 v7 (v7 + v6) v8 b0) fun y3 =>
  need (rng .i64 ((2 : Int) * v6)) (
  need (rng .i64 (v8 + ((2 : Int) * v6))) (
  some (.inl (nv0, (v1, (v6, (v8, ((v8 + ((2 : Int) * v6)), (y3.1, ()))))))))))) (
  some (.inr (nv0, (v1, (v6, (v7, (b0, ())))))))
noncomputable def s79_1 (cmp : α → α → Option (Int × Unit)) (d : α) (nv0 : Nat) (v1 : Int) (v6 : Int) (b0 : List α) : Option ((Nat × Int × Int × (List α) × Unit) ⊕ (((List α) × Unit))) :=
 brO (decide (v6 < v1)) (
  need (rng .i64 ((2 : Int) * v6)) (
  bindO (iter (fun x => s79_2 cmp d x.1 x.2.1 x.2.2.1 x.2.2.2.1 x.2.2.2.2.1 x.2.2.2.2.2.1) (nv0, (v1, (v6, ((0 : Int), (((2 : Int) * v6), (b0, ()))))))) fun z4 =>
  need (rng .i64 (z4.2.2.2.1 + z4.2.2.1)) (
  brO (decide ((z4.2.2.2.1 + z4.2.2.1) < z4.2.1)) (
   bindO (S82fix cmp d z4.1 z4.2.2.2.1 (z4.2.2.2.1 + z4.2.2.1) z4.2.1 z4.2.2.2.2.1) fun y5 =>
   need (rng .i64 (z4.2.2.1 * (2 : Int))) (
   some (.inl (z4.1, (z4.2.1, ((z4.2.2.1 * (2 : Int)), (y5.1, ()))))))) (
   need (rng .i64 (z4.2.2.1 * (2 : Int))) (
   some (.inl (z4.1, (z4.2.1, ((z4.2.2.1 * (2 : Int)), (z4.2.2.2.2.1, ())))))))))) (
  some (.inr (b0, ())))
noncomputable def S79 (cmp : α → α → Option (Int × Unit)) (d : α) (nv0 : Nat) (v1 : Int) (b0 : List α) : Option ((List α) × Unit) :=
 bindO (iter (fun x => s79_0 cmp d x.1 x.2.1 x.2.2.1 x.2.2.2.1 x.2.2.2.2.1 x.2.2.2.2.2.1) (nv0, (v1, ((20 : Int), ((0 : Int), ((20 : Int), (b0, ()))))))) fun z1 =>
 bindO (S81 cmp d z1.1 z1.2.2.2.1 z1.2.1 z1.2.2.2.2.1) fun y2 =>
 bindO (iter (fun x => s79_1 cmp d x.1 x.2.1 x.2.2.1 x.2.2.2.1) (z1.1, (z1.2.1, (z1.2.2.1, (y2.1, ()))))) fun z6 =>
 some (z6.1, ())
noncomputable def S74 (cmp : α → α → Option (Int × Unit)) (d : α) (nv0 : Nat) (b0 : List α) : Option ((List α) × Unit) :=
 bindO (S79 cmp d nv0 ((nv0 : Nat) : Int) b0) fun y0 =>
 some (y0.1, ())
end Go.Srt
end
section
open Go.AM
namespace Go.Srt
set_option linter.unusedVariables false
set_option linter.unusedSimpArgs false
variable {α : Type}
/-- The comparison that is handed in decides an order, on what is good. -/
structure CmpOk (cmp : α → α → Option (Int × Unit)) (lt : α → α → Bool) (Good : α → Prop) : Prop where
  ord : Ord lt
  cmp : ∀ a b, Good a → Good b → ∃ z, cmp a b = some (z, ()) ∧ lt a b = decide (z < 0)
theorem snoc_cases : ∀ L : List α, L = [] ∨ ∃ L' y, L = L' ++ [y] := fun L => by
  rcases List.eq_nil_or_concat L with h | ⟨L', y, h⟩
  · exact .inl h
  · exact .inr ⟨L', y, by simpa using h⟩
theorem getD_at {A B : List α} {x d : α} {n : Nat} (h : n = A.length) : (A ++ x :: B).getD n d = x := by
  subst h; simp [List.getD_eq_getElem?_getD]
theorem set_at {A B : List α} {x y : α} {n : Nat} (h : n = A.length) : (A ++ x :: B).set n y = A ++ y :: B := by
  subst h; simp [List.set_append]
variable {cmp : α → α → Option (Int × Unit)} {d : α} {lt : α → α → Bool} {Good : α → Prop}
theorem ins1 (h : CmpOk cmp lt Good) {P : List α} {x : α} {nv : Nat} {v2 v8 : Int} (hx : Good x) : ∀ {n : Nat} {L Q : List α}, L.length = n → (∀ y ∈ L, Good y) → Sorted lt L → nv = (P ++ (L ++ x :: Q)).length → nv < 1000000000 →
    iter (fun x => s81_1 cmp d x.1 x.2.1 x.2.2.1 x.2.2.2.1 x.2.2.2.2.1 x.2.2.2.2.2.1) (nv, ((P.length : Nat) : Int), v2, v8, ((P.length + L.length : Nat) : Int), P ++ (L ++ x :: Q), ()) =
    some (nv, ((P.length : Nat) : Int), v2, v8, P ++ (mrg lt L [x] ++ Q), ()) := by
  intro n
  induction n with
  | zero =>
    intro L Q hn hg hs hl hb
    have : L = [] := List.length_eq_zero_iff.1 hn
    subst this
    apply iter_inr
    simp only [s81_1]
    rw [br_d, if_neg (by simp)]
    simp [mrg_nil_left]
  | succ n ih =>
    intro L Q hn hg hs hl hb
    rcases snoc_cases L with rfl | ⟨L, y, rfl⟩
    · simp at hn
    simp only [List.length_append, List.length_cons, List.length_nil] at hn hl hb
    obtain ⟨z, hz, hlt⟩ := h.cmp x y hx (hg y (by simp))
    have e1 : P ++ (L ++ [y] ++ x :: Q) = (P ++ (L ++ [y])) ++ x :: Q := by simp
    have e2 : P ++ (L ++ [y] ++ x :: Q) = (P ++ L) ++ y :: (x :: Q) := by simp
    have g1 : (P ++ (L ++ [y] ++ x :: Q)).getD (0 + ((P.length + (L ++ [y]).length : Nat) : Int).toNat) d = x := by rw [e1]; exact getD_at (by simp; omega)
    have g2 : (P ++ (L ++ [y] ++ x :: Q)).getD (0 + (((P.length + (L ++ [y]).length : Nat) : Int) - 1).toNat) d = y := by rw [e2]; exact getD_at (by simp; omega)
    have s1 : ((P ++ (L ++ [y] ++ x :: Q)).set (0 + ((P.length + (L ++ [y]).length : Nat) : Int).toNat) y).set (0 + (((P.length + (L ++ [y]).length : Nat) : Int) - 1).toNat) x = P ++ (L ++ x :: (y :: Q)) := by
      rw [e1, set_at (by simp; omega), show P ++ (L ++ [y]) ++ y :: Q = (P ++ L) ++ y :: (y :: Q) by simp, set_at (by simp; omega)]; simp
    have hlen : (P ++ (L ++ [y] ++ x :: Q)).length = P.length + L.length + 2 + Q.length := by simp; omega
    have hlen2 : ((P.length + (L ++ [y]).length : Nat) : Int) = (P.length : Int) + L.length + 1 := by simp; omega
    by_cases hc : lt x y = true
    · have hz0 : z < 0 := by rw [hlt] at hc; simpa using hc
      have := ih (L := L) (Q := y :: Q) (by omega) (fun w hw => hg w (by simp [hw])) (List.pairwise_append.1 hs).1 (by simp; omega) (by omega)
      refine iter_inl (y := (nv, ((P.length : Nat) : Int), v2, v8, ((P.length + L.length : Nat) : Int), P ++ (L ++ x :: (y :: Q)), ())) ?_ ?_
      · simp only [s81_1]
        rw [g1, g2, hz, bindO_s, br_d, if_pos (by omega), br_d, if_pos hz0, s1]
        simp (disch := omega) only [need_i64, need_inb, need_d, List.length_set, hlen, hlen2, Int.add_sub_cancel, Int.natCast_add]
      · rw [this]
        have hm : mrg lt (L ++ [y]) [x] = mrg lt L [x] ++ [y] := by
          have := mrg_append h.ord (l1 := L) (l2 := [y]) (r1 := [x]) (r2 := []) (fun _ _ _ hy => by simp at hy) (fun a ha b hb' => by simp at ha hb'; subst ha; subst hb'; exact hc)
          simpa [mrg_nil_right, mrg_nil_left] using this
        rw [hm]; simp
    · have hz0 : ¬ z < 0 := by rw [hlt] at hc; simpa using hc
      apply iter_inr
      simp only [s81_1]
      rw [g1, g2, hz, bindO_s, br_d, if_pos (by omega), br_d, if_neg hz0]
      simp (disch := omega) only [need_i64, need_inb, need_d, List.length_set, hlen, hlen2]
      have hm : mrg lt (L ++ [y]) [x] = L ++ [y] ++ [x] := by
        have := mrg_one h.ord (p := L ++ [y]) (q := []) (x := x) (fun w hw => by
          have hxy : lt x y = false := by simpa using hc
          rcases List.mem_append.1 hw with hw | hw
          · exact h.ord.ntr w y x ((List.pairwise_append.1 hs).2.2 w hw y (by simp)) hxy
          · simp at hw; subst hw; exact hxy) (fun w hw => by simp at hw)
        simpa using this
      rw [hm]; simp
/-- Sorted, equal ones in their order. -/
def srt (lt : α → α → Bool) (l : List α) : List α := l.foldl (fun acc x => mrg lt acc [x]) []
theorem srt_snoc (l : List α) (x : α) : srt lt (l ++ [x]) = mrg lt (srt lt l) [x] := by simp [srt]
theorem srt_nil : srt lt ([] : List α) = [] := rfl
theorem srt_one (x : α) : srt lt [x] = [x] := by simp [srt, mrg_nil_left]
theorem mrg_assoc (h : Ord lt) : ∀ (a b c : List α), mrg lt (mrg lt a b) c = mrg lt a (mrg lt b c)
  | [], b, c => by simp [mrg_nil_left]
  | x :: a, [], c => by simp [mrg_nil_left, mrg_nil_right]
  | x :: a, y :: b, [] => by simp [mrg_nil_right]
  | x :: a, y :: b, z :: c => by
    have i1 := mrg_assoc h (x :: a) (y :: b) c
    have i2 := mrg_assoc h (x :: a) b (z :: c)
    have i3 := mrg_assoc h a (y :: b) (z :: c)
    by_cases h1 : lt y x = true
    · by_cases h2 : lt z y = true
      · have h3 : lt z x = true := by
          cases hh : lt z x with
          | true => rfl
          | false => have := h.ntr y x z (h.asym _ _ h1) hh; rw [this] at h2; cases h2
        rw [mrg, if_pos h1] at i1 ⊢
        rw [mrg, if_pos h2, i1]
        rw [mrg.eq_3 lt y b z c, if_pos h2, mrg.eq_3, if_pos h3]
      · rw [mrg, if_pos h1, mrg, if_neg h2, i2, mrg.eq_3 lt y b z c, if_neg h2, mrg.eq_3, if_pos h1]
    · have h1' : lt y x = false := by simpa using h1
      by_cases h2 : lt z x = true
      · have h3 : lt z y = true := by
          cases hh : lt z y with
          | true => rfl
          | false => have := h.ntr x y z h1' hh; rw [this] at h2; cases h2
        rw [mrg, if_neg h1] at i1 ⊢
        rw [mrg, if_pos h2, i1, mrg.eq_3 lt y b z c, if_pos h3, mrg.eq_3, if_pos h2]
      · rw [mrg, if_neg h1, mrg, if_neg h2, i3]
        by_cases h3 : lt z y = true
        · rw [mrg.eq_3 lt y b z c, if_pos h3, mrg.eq_3, if_neg h2]
        · rw [mrg.eq_3 lt y b z c, if_neg h3, mrg.eq_3, if_neg h1]
termination_by a b c => a.length + b.length + c.length
theorem srt_append (h : Ord lt) (l r : List α) : srt lt (l ++ r) = mrg lt (srt lt l) (srt lt r) := by
  generalize hn : r.length = n
  induction n generalizing r with
  | zero => have : r = [] := List.length_eq_zero_iff.1 hn
            subst this; simp [srt_nil, mrg_nil_right]
  | succ n ih =>
    rcases snoc_cases r with rfl | ⟨r, x, rfl⟩
    · simp at hn
    rw [← List.append_assoc, srt_snoc, srt_snoc, ih r (by simp at hn; omega), mrg_assoc h]
theorem srt_perm (l : List α) : (srt lt l).Perm l := by
  generalize hn : l.length = n
  induction n generalizing l with
  | zero => have : l = [] := List.length_eq_zero_iff.1 hn
            subst this; simp [srt_nil]
  | succ n ih =>
    rcases snoc_cases l with rfl | ⟨l, x, rfl⟩
    · simp at hn
    rw [srt_snoc]
    exact (mrg_perm lt _ _).trans ((ih l (by simp at hn; omega)).append_right _)
theorem srt_length (l : List α) : (srt lt l).length = l.length := (srt_perm l).length_eq
theorem srt_mem {l : List α} {x : α} : x ∈ srt lt l ↔ x ∈ l := (srt_perm l).mem_iff
theorem srt_sorted (h : Ord lt) (l : List α) : Sorted lt (srt lt l) := by
  generalize hn : l.length = n
  induction n generalizing l with
  | zero => have : l = [] := List.length_eq_zero_iff.1 hn
            subst this; simp [srt_nil, Sorted]
  | succ n ih =>
    rcases snoc_cases l with rfl | ⟨l, x, rfl⟩
    · simp at hn
    rw [srt_snoc]
    exact mrg_sorted h (ih l (by simp at hn; omega)) (by simp [Sorted])
theorem ins0 (h : CmpOk cmp lt Good) {P S : List α} {nv : Nat} : ∀ {M2 M1 : List α}, (∀ y ∈ M1, Good y) → (∀ y ∈ M2, Good y) → nv = (P ++ (M1 ++ (M2 ++ S))).length → nv < 1000000000 →
    iter (fun x => s81_0 cmp d x.1 x.2.1 x.2.2.1 x.2.2.2.1 x.2.2.2.2.1) (nv, ((P.length : Nat) : Int), ((P.length + M1.length + M2.length : Nat) : Int), ((P.length + M1.length : Nat) : Int), P ++ (srt lt M1 ++ (M2 ++ S)), ()) =
    some (P ++ (srt lt (M1 ++ M2) ++ S), ()) := by
  intro M2
  induction M2 with
  | nil =>
    intro M1 h1 h2 hl hb
    apply iter_inr
    simp only [s81_0]
    rw [br_d, if_neg (by simp)]
    simp
  | cons x M2 ih =>
    intro M1 h1 h2 hl hb
    have key := ins1 (d := d) h (P := P) (x := x) (nv := nv) (v2 := ((P.length + M1.length + (x :: M2).length : Nat) : Int)) (v8 := ((P.length + M1.length : Nat) : Int)) (h2 x (by simp)) (L := srt lt M1) (Q := M2 ++ S) rfl
      (fun y hy => h1 y (srt_mem.1 hy)) (srt_sorted h.ord M1) (by rw [hl]; simp [srt_length]) hb
    rw [srt_length] at key
    have i := ih (M1 := M1 ++ [x]) (fun y hy => by rcases List.mem_append.1 hy with hy | hy; exact h1 y hy; simp at hy; subst hy; exact h2 _ (by simp)) (fun y hy => h2 y (by simp [hy])) (by rw [hl]; simp) hb
    simp only [List.length_append, List.length_cons] at hl
    refine iter_inl (y := (nv, ((P.length : Nat) : Int), ((P.length + M1.length + (x :: M2).length : Nat) : Int), ((P.length + (M1 ++ [x]).length : Nat) : Int), P ++ (srt lt (M1 ++ [x]) ++ (M2 ++ S)), ())) ?_ ?_
    · simp only [s81_0]
      rw [br_d, if_pos (by simp; omega)]
      rw [show P ++ (srt lt M1 ++ (x :: M2 ++ S)) = P ++ (srt lt M1 ++ x :: (M2 ++ S)) by simp]
      rw [bind_of key]
      simp (disch := omega) only [need_i64]
      rw [srt_snoc]
      simp; omega
    · rw [show P.length + M1.length + (x :: M2).length = P.length + (M1 ++ [x]).length + M2.length by simp; omega, i]
      simp
theorem S81_ok (h : CmpOk cmp lt Good) {P M S : List α} {nv : Nat} {a b : Int} (hg : ∀ y ∈ M, Good y) (hl : nv = (P ++ (M ++ S)).length) (hb : nv < 1000000000) (ha : a = P.length) (hb' : b = (P.length + M.length : Nat)) :
    S81 cmp d nv a b (P ++ (M ++ S)) = some (P ++ (srt lt M ++ S), ()) := by
  subst ha hb'
  have hl' := hl
  simp only [List.length_append] at hl'
  unfold S81
  rw [need_i64 (by omega) (by omega)]
  cases M with
  | nil =>
    rw [bind_of (iter_inr (b := (P ++ ([] ++ S), ())) ?_)]
    · simp [srt_nil]
    · simp only [s81_0]
      rw [br_d, if_neg (by simp; omega)]
  | cons x M =>
    have := ins0 (d := d) h (P := P) (S := S) (nv := nv) (M1 := [x]) (M2 := M) (fun y hy => hg y (by simp at hy; simp [hy])) (fun y hy => hg y (by simp [hy])) (by rw [hl]; simp) hb
    rw [srt_one] at this
    rw [show (P.length : Int) + 1 = ((P.length + [x].length : Nat) : Int) by simp, show P.length + (x :: M).length = P.length + [x].length + M.length by simp; omega, show P ++ (x :: M ++ S) = P ++ ([x] ++ (M ++ S)) by simp]
    rw [bind_of this]
    simp
end Go.Srt
end
section
open Go.AM
namespace Go.Srt
set_option linter.unusedVariables false
set_option linter.unusedSimpArgs false
variable {α : Type} {cmp : α → α → Option (Int × Unit)} {d : α} {lt : α → α → Bool} {Good : α → Prop}
theorem iter_step {A B : Type} {step : A → Option (A ⊕ B)} {x y : A} (h : step x = some (.inl y)) : iter step x = iter step y := by
 cases hy : iter step y with
 | some b => exact iter_inl h hy
 | none =>
  cases hx : iter step x with
  | none => rfl
  | some b =>
   obtain ⟨n, hn⟩ := iter_some hx
   cases n with
   | zero => simp [iterF] at hn
   | succ n => 
    simp only [iterF, h] at hn
    rw [iter_of hn] at hy; cases hy
theorem swp0 {P M S : List α} {nv n : Nat} {a b : Nat} : ∀ {X2 Y2 X1 Y1 : List α}, X2.length = Y2.length → X1.length = Y1.length → a = P.length → b = P.length + n + M.length → n = X1.length + X2.length →
  nv = (P ++ (Y1 ++ (X2 ++ (M ++ (X1 ++ (Y2 ++ S)))))).length → nv < 1000000000 →
  iter (fun x => s84_0 cmp d x.1 x.2.1 x.2.2.1 x.2.2.2.1 x.2.2.2.2.1 x.2.2.2.2.2.1) (nv, (a : Int), (b : Int), (n : Int), ((X1.length : Nat) : Int), P ++ (Y1 ++ (X2 ++ (M ++ (X1 ++ (Y2 ++ S))))), ()) =
  some (P ++ ((Y1 ++ Y2) ++ (M ++ ((X1 ++ X2) ++ S))), ()) := by
 intro X2
 induction X2 with
 | nil =>
  intro Y2 X1 Y1 h2 h1 ha hb hn hl hbg
  have : Y2 = [] := List.length_eq_zero_iff.1 h2.symm
  subst this
  apply iter_inr
  simp only [s84_0]
  rw [br_d, if_neg (by simp at hn; omega)]
  simp
 | cons x X2 ih =>
  intro Y2 X1 Y1 h2 h1 ha hb hn hl hbg
  cases Y2 with
  | nil => simp at h2
  | cons y Y2 =>
   simp only [List.length_cons, List.length_append] at h2 hn hl
   have i := ih (X1 := X1 ++ [x]) (Y1 := Y1 ++ [y]) (Y2 := Y2) (by omega) (by simp [h1]) ha hb (by simp; omega) (by rw [hl]; simp; omega) hbg
   refine iter_inl ?_ (i.trans (by simp))
   simp only [s84_0]
   have e1 : P ++ (Y1 ++ (x :: X2 ++ (M ++ (X1 ++ (y :: Y2 ++ S))))) = (P ++ Y1) ++ x :: (X2 ++ (M ++ (X1 ++ (y :: Y2 ++ S)))) := by simp
   have e2 : P ++ (Y1 ++ (x :: X2 ++ (M ++ (X1 ++ (y :: Y2 ++ S))))) = (P ++ Y1 ++ x :: X2 ++ M ++ X1) ++ y :: (Y2 ++ S) := by simp
   have g1 : (P ++ (Y1 ++ (x :: X2 ++ (M ++ (X1 ++ (y :: Y2 ++ S)))))).getD (0 + ((a : Int) + ((X1.length : Nat) : Int)).toNat) d = x := by rw [e1]; exact getD_at (by simp; omega)
   have g2 : (P ++ (Y1 ++ (x :: X2 ++ (M ++ (X1 ++ (y :: Y2 ++ S)))))).getD (0 + ((b : Int) + ((X1.length : Nat) : Int)).toNat) d = y := by rw [e2]; exact getD_at (by simp; omega)
   have s1 : ((P ++ (Y1 ++ (x :: X2 ++ (M ++ (X1 ++ (y :: Y2 ++ S)))))).set (0 + ((a : Int) + ((X1.length : Nat) : Int)).toNat) y).set (0 + ((b : Int) + ((X1.length : Nat) : Int)).toNat) x =
     P ++ ((Y1 ++ [y]) ++ (X2 ++ (M ++ ((X1 ++ [x]) ++ (Y2 ++ S))))) := by
    rw [e1, set_at (by simp; omega), show P ++ Y1 ++ y :: (X2 ++ (M ++ (X1 ++ (y :: Y2 ++ S)))) = (P ++ Y1 ++ y :: X2 ++ M ++ X1) ++ y :: (Y2 ++ S) by simp, set_at (by simp; omega)]; simp
   have hlen : (P ++ (Y1 ++ (x :: X2 ++ (M ++ (X1 ++ (y :: Y2 ++ S)))))).length = nv := by rw [hl]; simp; omega
   rw [br_d, if_pos (by omega), g1, g2, s1]
   simp (disch := omega) only [need_i64, need_inb, need_d, List.length_set, hlen]
   simp
theorem S84_ok {P X M Y S : List α} {nv : Nat} {a b n : Int} (h : X.length = Y.length) (hl : nv = (P ++ (X ++ (M ++ (Y ++ S)))).length) (hb : nv < 1000000000) (ha : a = P.length) (hb' : b = (P.length + X.length + M.length : Nat)) (hn : n = X.length) :
  S84 cmp d nv a b n (P ++ (X ++ (M ++ (Y ++ S)))) = some (P ++ (Y ++ (M ++ (X ++ S))), ()) := by
 subst ha hb' hn
 unfold S84
 have := swp0 (cmp := cmp) (d := d) (P := P) (M := M) (S := S) (nv := nv) (n := X.length) (a := P.length) (b := P.length + X.length + M.length) (X2 := X) (Y2 := Y) (X1 := []) (Y1 := []) h rfl rfl rfl (by simp) hl hb
 simp only [List.nil_append, List.length_nil, Int.natCast_zero] at this
 rw [bind_of this]
theorem rot0 {nv : Nat} {m : Int} : ∀ {k : Nat} {P X Y S : List α}, X.length + Y.length = k → 0 < X.length → 0 < Y.length → m = ((P.length + X.length : Nat) : Int) → nv = (P ++ (X ++ (Y ++ S))).length → nv < 1000000000 →
  bindO (iter (fun x => s83_0 cmp d x.1 x.2.1 x.2.2.1 x.2.2.2.1 x.2.2.2.2.1) (nv, m, ((X.length : Nat) : Int), ((Y.length : Nat) : Int), P ++ (X ++ (Y ++ S)), ())) (fun z2 =>
   need (rng .i64 (z2.2.1 - z2.2.2.1)) (
    bindO (S84 cmp d z2.1 (z2.2.1 - z2.2.2.1) z2.2.1 z2.2.2.1 z2.2.2.2.1) fun y3 =>
    some (y3.1, ()))) = some (P ++ (Y ++ (X ++ S)), ()) := by
 intro k
 induction k using Nat.strongRecOn with
 | _ k ih =>
  intro P X Y S hk hx hy hm hl hb
  have hl' := hl
  simp only [List.length_append] at hl'
  by_cases h : X.length = Y.length
  ·rw [iter_inr (b := (nv, m, ((X.length : Nat) : Int), P ++ (X ++ (Y ++ S)), ()))]
   ·rw [bindO_s]
    simp only []
    rw [need_i64 (by omega) (by omega)]
    have := S84_ok (cmp := cmp) (d := d) (P := P) (X := X) (M := []) (Y := Y) (S := S) (nv := nv) (a := m - X.length) (b := m) (n := X.length) h (by simpa using hl) hb (by omega) (by simp; omega) rfl
    simp only [List.nil_append] at this
    rw [bind_of this]
   ·simp only [s83_0]
    rw [br_not, br_eq, if_pos (by omega)]
  ·by_cases h2 : Y.length < X.length
   ·-- the left part is longer
    obtain ⟨X1, X2, rfl, h1⟩ : ∃ X1 X2, X = X1 ++ X2 ∧ X1.length = Y.length := ⟨X.take Y.length, X.drop Y.length, by simp, by simp; omega⟩
    simp only [List.length_append] at *
    have i := ih (X2.length + X1.length) (by omega) (P := P ++ Y) (X := X2) (Y := X1) (S := S) rfl (by omega) (by omega) (by simp; omega) (by rw [hl]; simp; omega) hb
    have sw := S84_ok (cmp := cmp) (d := d) (P := P) (X := X1) (M := X2) (Y := Y) (S := S) (nv := nv) (a := m - ((X1.length + X2.length : Nat) : Int)) (b := m) (n := ((Y.length : Nat) : Int)) h1 (by rw [hl]; simp; omega) hb (by omega) (by omega) (by omega)
    rw [iter_step (y := (nv, m, ((X2.length : Nat) : Int), ((X1.length : Nat) : Int), (P ++ Y) ++ (X2 ++ (X1 ++ S)), ()))]
    ·rw [i]; simp
    ·simp only [s83_0]
     rw [br_not, br_eq, if_neg (by omega), br_d, if_pos (by omega), need_i64 (by omega) (by omega)]
     rw [show P ++ (X1 ++ X2 ++ (Y ++ S)) = P ++ (X1 ++ (X2 ++ (Y ++ S))) by simp, bind_of sw, need_i64 (by omega) (by omega)]
     rw [show (((X1.length + X2.length : Nat) : Int) - ((Y.length : Nat) : Int)) = ((X2.length : Nat) : Int) by omega, h1]
     simp
   ·obtain ⟨Y1, Y2, rfl, h1⟩ : ∃ Y1 Y2, Y = Y1 ++ Y2 ∧ Y2.length = X.length := ⟨Y.take (Y.length - X.length), Y.drop (Y.length - X.length), by simp, by simp; omega⟩
    simp only [List.length_append] at *
    have i := ih (Y2.length + Y1.length) (by omega) (P := P) (X := Y2) (Y := Y1) (S := X ++ S) rfl (by omega) (by omega) (by omega) (by rw [hl]; simp; omega) hb
    have sw := S84_ok (cmp := cmp) (d := d) (P := P) (X := X) (M := Y1) (Y := Y2) (S := S) (nv := nv) (a := m - ((X.length : Nat) : Int)) (b := m + ((Y1.length + Y2.length : Nat) : Int) - ((X.length : Nat) : Int)) (n := ((X.length : Nat) : Int)) h1.symm (by rw [hl]; simp; omega) hb (by omega) (by omega) rfl
    rw [iter_step (y := (nv, m, ((Y2.length : Nat) : Int), ((Y1.length : Nat) : Int), P ++ (Y2 ++ (Y1 ++ (X ++ S))), ()))]
    ·rw [i]; simp
    ·simp only [s83_0]
     rw [br_not, br_eq, if_neg (by omega), br_d, if_neg (by omega), need_i64 (by omega) (by omega), need_i64 (by omega) (by omega), need_i64 (by omega) (by omega)]
     rw [show P ++ (X ++ (Y1 ++ Y2 ++ S)) = P ++ (X ++ (Y1 ++ (Y2 ++ S))) by simp, bind_of sw, need_i64 (by omega) (by omega)]
     rw [show (((Y1.length + Y2.length : Nat) : Int) - ((X.length : Nat) : Int)) = ((Y1.length : Nat) : Int) by omega, h1]
end Go.Srt
end
section
open Go.AM
namespace Go.Srt
set_option linter.unusedVariables false
set_option linter.unusedSimpArgs false
variable {α : Type} {cmp : α → α → Option (Int × Unit)} {d : α} {lt : α → α → Bool} {Good : α → Prop}
/-- Recursion, by a relation and a measure. -/
theorem fixO_rel {A B : Type} {F : (A → Option B) → A → Option B} (R : A → B → Prop) (m : A → Nat)
  (h : ∀ rec x y, R x y → (∀ x' y', R x' y' → m x' < m x → rec x' = some y') → F rec x = some y) : ∀ x y, R x y → fixO F x = some y := by
 have key : ∀ n x y, R x y → m x < n → apx F n x = some y := by
  intro n
  induction n with
  | zero => intro x y _ hm; omega
  | succ n ih => intro x y hx hm; exact h _ x y hx fun x' y' hx' hm' => ih x' y' hx' (by omega)
 intro x y hx
 exact fixO_of (N := m x + 1) fun n hn => key n x y hx (by omega)
theorem S83_ok {P X Y S : List α} {nv : Nat} {a m b : Int} (hx : 0 < X.length) (hy : 0 < Y.length) (hl : nv = (P ++ (X ++ (Y ++ S))).length) (hb : nv < 1000000000) (ha : a = P.length) (hm : m = (P.length + X.length : Nat)) (hb' : b = (P.length + X.length + Y.length : Nat)) :
  S83 cmp d nv a m b (P ++ (X ++ (Y ++ S))) = some (P ++ (Y ++ (X ++ S)), ()) := by
 subst ha hm hb'
 have hl' := hl
 simp only [List.length_append] at hl'
 unfold S83
 rw [need_i64 (by omega) (by omega), need_i64 (by omega) (by omega)]
 have := rot0 (cmp := cmp) (d := d) (nv := nv) (m := ((P.length + X.length : Nat) : Int)) (k := X.length + Y.length) (P := P) (X := X) (Y := Y) (S := S) rfl hx hy rfl hl hb
 rw [show ((P.length + X.length : Nat) : Int) - (P.length : Int) = ((X.length : Nat) : Int) by omega, show ((P.length + X.length + Y.length : Nat) : Int) - ((P.length + X.length : Nat) : Int) = ((Y.length : Nat) : Int) by omega]
 exact this
/-- Halving. -/
theorem halve {A B : Type} {step : A → Option (A ⊕ B)} (st : Nat → Nat → A) (out : Nat → B) (q : Nat → Bool) {lo hi : Nat}
  (h1 : ∀ i j, lo ≤ i → i < j → j ≤ hi → step (st i j) = some (.inl (if q ((i + j) / 2) then st ((i + j) / 2 + 1) j else st i ((i + j) / 2))))
  (h2 : ∀ i, lo ≤ i → i ≤ hi → step (st i i) = some (.inr (out i)))
  (h3 : ∀ i k, lo ≤ i → i ≤ k → k < hi → q k = true → q i = true) (h : lo ≤ hi) :
  ∃ i, lo ≤ i ∧ i ≤ hi ∧ (∀ k, lo ≤ k → k < i → q k = true) ∧ (∀ k, i ≤ k → k < hi → q k = false) ∧ iter step (st lo hi) = some (out i) := by
 have key : ∀ n i j, j - i = n → lo ≤ i → i ≤ j → j ≤ hi → (∀ k, lo ≤ k → k < i → q k = true) → (∀ k, j ≤ k → k < hi → q k = false) →
   ∃ i', lo ≤ i' ∧ i' ≤ hi ∧ (∀ k, lo ≤ k → k < i' → q k = true) ∧ (∀ k, i' ≤ k → k < hi → q k = false) ∧ iter step (st i j) = some (out i') := by
  intro n
  induction n using Nat.strongRecOn with
  | _ n ih =>
   intro i j hn hi1 hij hj hq1 hq2
   by_cases he : i = j
   ·subst he
    exact ⟨i, hi1, hj, hq1, hq2, iter_inr (h2 i hi1 hj)⟩
   ·have hlt : i < j := by omega
    have hs := h1 i j hi1 hlt hj
    rw [iter_step hs]
    by_cases hq : q ((i + j) / 2) = true
    ·rw [if_pos hq]
     exact ih (j - ((i + j) / 2 + 1)) (by omega) ((i + j) / 2 + 1) j rfl (by omega) (by omega) hj (fun k hk1 hk2 => h3 k ((i + j) / 2) hk1 (by omega) (by omega) hq) hq2
    ·rw [if_neg hq]
     refine ih ((i + j) / 2 - i) (by omega) i ((i + j) / 2) rfl hi1 (by omega) (by omega) hq1 (fun k hk1 hk2 => ?_)
     cases hk : q k with
     | false => rfl
     | true => exact absurd (h3 ((i + j) / 2) k (by omega) hk1 hk2 hk) hq
 exact key (hi - lo) lo hi rfl (Nat.le_refl _) h (Nat.le_refl _) (fun k h1 h2 => by omega) (fun k h1 h2 => by omega)
theorem shr1 (n : Nat) : ar0.shr (n : Int) (1 : Int) = ((n / 2 : Nat) : Int) := by
 show ((n : Int)).fdiv (2 ^ (1 : Int).toNat) = _
 rw [show ((2 : Int) ^ (1 : Int).toNat) = ((2 : Nat) : Int) by decide]
 rw [Int.fdiv_eq_ediv_of_nonneg _ (by omega)]
 omega
theorem irr (h : Ord lt) (a : α) : lt a a = false := by
 cases hh : lt a a with
 | false => rfl
 | true => exact absurd (h.asym _ _ hh) (by simp [hh])
theorem getD_mid {A B C : List α} {n : Nat} (h1 : A.length ≤ n) (h2 : n < A.length + B.length) : (A ++ (B ++ C)).getD n d = B.getD (n - A.length) d := by
 simp only [List.getD_eq_getElem?_getD]
 rw [List.getElem?_append_right h1, List.getElem?_append_left (by omega)]
theorem sorted_get (h : Ord lt) {B : List α} (hs : Sorted lt B) {i k : Nat} (hik : i ≤ k) (hk : k < B.length) : lt (B.getD k d) (B.getD i d) = false := by
 by_cases he : i = k
 ·subst he; exact irr h _
 ·have := (List.pairwise_iff_getElem.1 hs) i k (by omega) hk (by omega)
  simpa [List.getD_eq_getElem?_getD, List.getElem?_eq_getElem hk, List.getElem?_eq_getElem (show i < B.length by omega)] using this
/-- One ahead of a run: it is carried to its place. -/
theorem carry1 {rec : (Nat × Int × Int × Int × (List α) × Unit) → Option ((List α) × Unit)} {x : α} {nv : Nat} {i : Int} : ∀ {Y P S : List α}, i = (P.length + Y.length + 1 : Nat) → nv = (P ++ x :: (Y ++ S)).length → nv < 1000000000 →
  iter (fun x => s82_1 cmp d rec x.1 x.2.1 x.2.2.1 x.2.2.2.1) (nv, i, ((P.length : Nat) : Int), P ++ x :: (Y ++ S), ()) = some (P ++ (Y ++ x :: S), ()) := by
 intro Y
 induction Y with
 | nil =>
  intro P S hi hl hb
  apply iter_inr
  simp only [s82_1]
  simp only [List.length_append, List.length_cons, List.length_nil] at hl hi
  rw [need_i64 (by omega) (by omega), br_d, if_neg (by omega)]
  simp
 | cons y Y ih =>
  intro P S hi hl hb
  have hl' := hl
  simp only [List.length_append, List.length_cons] at hl' hi
  have i1 := ih (P := P ++ [y]) (S := S) (by simp; omega) (by rw [hl]; simp) hb
  refine iter_inl ?_ (i1.trans (by simp))
  simp only [s82_1]
  have g1 : (P ++ x :: (y :: Y ++ S)).getD (0 + ((P.length : Nat) : Int).toNat) d = x := getD_at (by simp)
  have g2 : (P ++ x :: (y :: Y ++ S)).getD (0 + (((P.length : Nat) : Int) + 1).toNat) d = y := by
   rw [show P ++ x :: (y :: Y ++ S) = (P ++ [x]) ++ y :: (Y ++ S) by simp]; exact getD_at (by simp)
  have s1 : ((P ++ x :: (y :: Y ++ S)).set (0 + ((P.length : Nat) : Int).toNat) y).set (0 + (((P.length : Nat) : Int) + 1).toNat) x = (P ++ [y]) ++ x :: (Y ++ S) := by
   rw [set_at (by simp), show P ++ y :: (y :: Y ++ S) = (P ++ [y]) ++ y :: (Y ++ S) by simp, set_at (by simp)]
  have hlen : (P ++ x :: (y :: Y ++ S)).length = nv := by rw [hl]
  rw [g1, g2, s1, need_i64 (by omega) (by omega), br_d, if_pos (by omega)]
  simp (disch := omega) only [need_i64, need_inb, need_d, List.length_set, hlen]
  simp
/-- One behind a run. -/
theorem carry2 {rec : (Nat × Int × Int × Int × (List α) × Unit) → Option ((List α) × Unit)} {x : α} {nv : Nat} {i k : Int} : ∀ {n : Nat} {X P S : List α}, X.length = n → i = (P.length : Nat) → k = (P.length + X.length : Nat) → nv = (P ++ (X ++ x :: S)).length → nv < 1000000000 →
  iter (fun x => s82_3 cmp d rec x.1 x.2.1 x.2.2.1 x.2.2.2.1) (nv, i, k, P ++ (X ++ x :: S), ()) = some (P ++ x :: (X ++ S), ()) := by
 intro n
 induction n generalizing k with
 | zero =>
  intro X P S hn hi hk hl hb
  have : X = [] := List.length_eq_zero_iff.1 hn
  subst this
  apply iter_inr
  simp only [s82_3]
  simp only [List.length_append, List.length_cons, List.length_nil] at hk
  rw [br_d, if_neg (by omega)]
  simp
 | succ n ih =>
  intro X P S hn hi hk hl hb
  rcases snoc_cases X with rfl | ⟨X, y, rfl⟩
  ·simp at hn
  have hl' := hl
  simp only [List.length_append, List.length_cons, List.length_nil] at hl' hn hk
  have i1 := ih (k := k - 1) (X := X) (P := P) (S := y :: S) (by omega) hi (by omega) (by rw [hl]; simp) hb
  refine iter_inl ?_ (i1.trans (by simp))
  simp only [s82_3]
  have g1 : (P ++ (X ++ [y] ++ x :: S)).getD (0 + k.toNat) d = x := by
   rw [show P ++ (X ++ [y] ++ x :: S) = (P ++ X ++ [y]) ++ x :: S by simp]; exact getD_at (by simp; omega)
  have g2 : (P ++ (X ++ [y] ++ x :: S)).getD (0 + (k - 1).toNat) d = y := by
   rw [show P ++ (X ++ [y] ++ x :: S) = (P ++ X) ++ y :: x :: S by simp]; exact getD_at (by simp; omega)
  have s1 : ((P ++ (X ++ [y] ++ x :: S)).set (0 + k.toNat) y).set (0 + (k - 1).toNat) x = P ++ (X ++ x :: y :: S) := by
   rw [show P ++ (X ++ [y] ++ x :: S) = (P ++ X ++ [y]) ++ x :: S by simp, set_at (by simp; omega), show P ++ X ++ [y] ++ y :: S = (P ++ X) ++ y :: y :: S by simp, set_at (by simp; omega)]; simp
  have hlen : (P ++ (X ++ [y] ++ x :: S)).length = nv := by rw [hl]
  rw [g1, g2, s1, br_d, if_pos (by omega)]
  simp (disch := omega) only [need_i64, need_inb, need_d, List.length_set, hlen]
theorem cmp_neg (h : CmpOk cmp lt Good) {a b : α} (ha : Good a) (hb : Good b) {X : Type} {f : Int × Unit → Option X} {p q : Option X} (hf : ∀ z, f (z, ()) = brO (decide (z < 0)) p q) : bindO (cmp a b) f = if lt a b then p else q := by
 obtain ⟨z, hz, hlt⟩ := h.cmp a b ha hb
 rw [hz, bindO_s, hf, hlt, br_d]
 by_cases h : z < 0 <;> simp [h]
theorem cmp_nneg (h : CmpOk cmp lt Good) {a b : α} (ha : Good a) (hb : Good b) {X : Type} {f : Int × Unit → Option X} {p q : Option X} (hf : ∀ z, f (z, ()) = brO (!decide (z < 0)) p q) : bindO (cmp a b) f = if (!lt a b) then p else q := by
 obtain ⟨z, hz, hlt⟩ := h.cmp a b ha hb
 rw [hz, bindO_s, hf, br_not, hlt, br_d]
 by_cases h : z < 0 <;> simp [h]
end Go.Srt
end
section
open Go.AM
namespace Go.Srt
set_option linter.unusedVariables false
set_option linter.unusedSimpArgs false
variable {α : Type} {cmp : α → α → Option (Int × Unit)} {d : α} {lt : α → α → Bool} {Good : α → Prop}
abbrev SA (α : Type) := Nat × Int × Int × Int × (List α) × Unit
/-- What symMerge is handed, and what it makes of it. -/
def SymR (lt : α → α → Bool) (Good : α → Prop) (x : SA α) (y : List α × Unit) : Prop :=
  ∃ P X Y S, x = (x.1, ((P.length : Nat) : Int), ((P.length + X.length : Nat) : Int), ((P.length + X.length + Y.length : Nat) : Int), P ++ (X ++ (Y ++ S)), ()) ∧
    0 < X.length ∧ 0 < Y.length ∧ Sorted lt X ∧ Sorted lt Y ∧ (∀ z ∈ X, Good z) ∧ (∀ z ∈ Y, Good z) ∧ x.1 = (P ++ (X ++ (Y ++ S))).length ∧ x.1 < 1000000000 ∧ y = (P ++ (mrg lt X Y ++ S), ())
theorem sym1 (h : CmpOk cmp lt Good) {rec : SA α → Option ((List α) × Unit)} {P Y S : List α} {x : α} {nv : Nat} (hx : Good x) (hY : ∀ z ∈ Y, Good z) (hs : Sorted lt Y) (hl : nv = (P ++ ([x] ++ (Y ++ S))).length) (hb : nv < 1000000000) :
    bindO (iter (fun x => s82_0 cmp d rec x.1 x.2.1 x.2.2.1 x.2.2.2.1 x.2.2.2.2.1) (nv, (((P.length : Nat) : Int), (((P.length + 1 : Nat) : Int), (((P.length + 1 + Y.length : Nat) : Int), (P ++ ([x] ++ (Y ++ S)), ())))))) (fun z1 =>
    bindO (iter (fun x => s82_1 cmp d rec x.1 x.2.1 x.2.2.1 x.2.2.2.1) (z1.1, (z1.2.2.1, (z1.2.1, (z1.2.2.2.1, ()))))) fun z2 =>
    some (z2.1, ())) = some (P ++ (mrg lt [x] Y ++ S), ()) := by
  have hl' := hl
  simp only [List.length_append, List.length_cons, List.length_nil] at hl'
  have gx : (P ++ ([x] ++ (Y ++ S))).getD P.length d = x := getD_at rfl
  have gy : ∀ k, P.length + 1 ≤ k → k < P.length + 1 + Y.length → (P ++ ([x] ++ (Y ++ S))).getD k d = Y.getD (k - (P.length + 1)) d := fun k h1 h2 => by
    rw [show P ++ ([x] ++ (Y ++ S)) = (P ++ [x]) ++ (Y ++ S) by simp, getD_mid (by simpa using h1) (by simpa using h2)]
    simp
  have hlen : (P ++ ([x] ++ (Y ++ S))).length = nv := hl.symm
  obtain ⟨i, hi1, hi2, hq1, hq2, hit⟩ := halve (step := fun x => s82_0 cmp d rec x.1 x.2.1 x.2.2.1 x.2.2.2.1 x.2.2.2.2.1) (lo := P.length + 1) (hi := P.length + 1 + Y.length)
    (fun i j => (nv, (((P.length : Nat) : Int), (((i : Nat) : Int), (((j : Nat) : Int), (P ++ ([x] ++ (Y ++ S)), ()))))))
    (fun i => (nv, (((P.length : Nat) : Int), ((i : Nat) : Int), (P ++ ([x] ++ (Y ++ S))), ())))
    (fun k => lt (Y.getD (k - (P.length + 1)) d) x)
    (fun i j h1 h2 h3 => by
      simp only [s82_0]
      rw [← Int.natCast_add, shr1]
      have e := gy ((i + j) / 2) (by omega) (by omega)
      rw [br_d, if_pos (by omega), need_i64 (by omega) (by omega), need_u64 (by omega) (by omega), need_inb (by omega) (by omega), need_i64 (by omega) (by omega), need_inb (by omega) (by omega), need_d (by omega), need_inb (by omega) (by omega), need_d (by omega)]
      simp only [Nat.zero_add, Int.toNat_natCast]
      rw [e, gx, cmp_neg h (hY _ (getD_mem (by omega))) hx (fun z => rfl), need_i64 (by omega) (by omega)]
      by_cases hq : lt (Y.getD ((i + j) / 2 - (P.length + 1)) d) x = true
      · rw [if_pos hq, if_pos hq]; simp
      · rw [if_neg hq, if_neg hq])
    (fun i h1 h2 => by
      simp only [s82_0]
      rw [br_d, if_neg (by omega)])
    (fun i k h1 h2 h3 hq => by
      have hh := sorted_get (d := d) h.ord hs (i := i - (P.length + 1)) (k := k - (P.length + 1)) (by omega) (by omega)
      cases hi : lt (Y.getD (i - (P.length + 1)) d) x with
      | true => rfl
      | false =>
        have := h.ord.ntr _ _ _ hi hh
        rw [this] at hq; cases hq) (by omega)
  rw [bind_of hit]
  dsimp only
  obtain ⟨Y1, Y2, rfl, h1⟩ : ∃ Y1 Y2, Y = Y1 ++ Y2 ∧ Y1.length = i - (P.length + 1) := ⟨Y.take (i - (P.length + 1)), Y.drop (i - (P.length + 1)), by simp, by simp; omega⟩
  simp only [List.length_append] at hi2 hq1 hq2
  have c := carry1 (cmp := cmp) (d := d) (rec := rec) (x := x) (nv := nv) (i := (i : Int)) (Y := Y1) (P := P) (S := Y2 ++ S) (by omega) (by rw [hl]; simp) hb
  rw [show P ++ x :: (Y1 ++ (Y2 ++ S)) = P ++ ([x] ++ (Y1 ++ Y2 ++ S)) by simp] at c
  rw [bind_of c, one_mrg h.ord]
  · simp
  · intro y hy
    obtain ⟨k, hk, rfl⟩ := List.mem_iff_getElem.1 hy
    have := hq1 (P.length + 1 + k) (by omega) (by omega)
    rw [show P.length + 1 + k - (P.length + 1) = k by omega] at this
    simpa [List.getD_eq_getElem?_getD, List.getElem?_append_left hk, List.getElem?_eq_getElem hk] using this
  · intro y hy
    obtain ⟨k, hk, rfl⟩ := List.mem_iff_getElem.1 hy
    have := hq2 (i + k) (by omega) (by omega)
    rw [show i + k - (P.length + 1) = Y1.length + k by omega] at this
    simpa [List.getD_eq_getElem?_getD, List.getElem?_eq_getElem hk, List.getElem?_append_right] using this
theorem sym2 (h : CmpOk cmp lt Good) {rec : SA α → Option ((List α) × Unit)} {P X S : List α} {x : α} {nv : Nat} (hx : Good x) (hX : ∀ z ∈ X, Good z) (hs : Sorted lt X) (hl : nv = (P ++ (X ++ ([x] ++ S))).length) (hb : nv < 1000000000) :
    bindO (iter (fun x => s82_2 cmp d rec x.1 x.2.1 x.2.2.1 x.2.2.2.1 x.2.2.2.2.1) (nv, (((P.length + X.length : Nat) : Int), (((P.length : Nat) : Int), (((P.length + X.length : Nat) : Int), (P ++ (X ++ ([x] ++ S)), ())))))) (fun z1 =>
    bindO (iter (fun x => s82_3 cmp d rec x.1 x.2.1 x.2.2.1 x.2.2.2.1) (z1.1, (z1.2.2.1, (z1.2.1, (z1.2.2.2.1, ()))))) fun z2 =>
    some (z2.1, ())) = some (P ++ (mrg lt X [x] ++ S), ()) := by
  have hl' := hl
  simp only [List.length_append, List.length_cons, List.length_nil] at hl'
  have gx : (P ++ (X ++ ([x] ++ S))).getD (P.length + X.length) d = x := by
    rw [show P ++ (X ++ ([x] ++ S)) = (P ++ X) ++ x :: S by simp]; exact getD_at (by simp)
  have gy : ∀ k, P.length ≤ k → k < P.length + X.length → (P ++ (X ++ ([x] ++ S))).getD k d = X.getD (k - P.length) d := fun k h1 h2 => by
    rw [getD_mid (by simpa using h1) (by simpa using h2)]
  have hlen : (P ++ (X ++ ([x] ++ S))).length = nv := hl.symm
  obtain ⟨i, hi1, hi2, hq1, hq2, hit⟩ := halve (step := fun x => s82_2 cmp d rec x.1 x.2.1 x.2.2.1 x.2.2.2.1 x.2.2.2.2.1) (lo := P.length) (hi := P.length + X.length)
    (fun i j => (nv, (((P.length + X.length : Nat) : Int), (((i : Nat) : Int), (((j : Nat) : Int), (P ++ (X ++ ([x] ++ S)), ()))))))
    (fun i => (nv, (((P.length + X.length : Nat) : Int), ((i : Nat) : Int), (P ++ (X ++ ([x] ++ S))), ())))
    (fun k => !lt x (X.getD (k - P.length) d))
    (fun i j h1 h2 h3 => by
      simp only [s82_2]
      rw [← Int.natCast_add, shr1]
      have e := gy ((i + j) / 2) (by omega) (by omega)
      rw [br_d, if_pos (by omega), need_i64 (by omega) (by omega), need_u64 (by omega) (by omega), need_inb (by omega) (by omega), need_i64 (by omega) (by omega), need_inb (by omega) (by omega), need_d (by omega), need_inb (by omega) (by omega), need_d (by omega)]
      simp only [Nat.zero_add, Int.toNat_natCast]
      rw [e, gx, cmp_nneg h hx (hX _ (getD_mem (by omega))) (fun z => rfl), need_i64 (by omega) (by omega)]
      by_cases hq : (!lt x (X.getD ((i + j) / 2 - P.length) d)) = true
      · rw [if_pos hq, if_pos hq]; simp
      · rw [if_neg hq, if_neg hq])
    (fun i h1 h2 => by
      simp only [s82_2]
      rw [br_d, if_neg (by omega)])
    (fun i k h1 h2 h3 hq => by
      have hh := sorted_get (d := d) h.ord hs (i := i - P.length) (k := k - P.length) (by omega) (by omega)
      simp only [Bool.not_eq_true'] at hq ⊢
      exact h.ord.ntr _ _ _ hh hq) (by omega)
  rw [bind_of hit]
  dsimp only
  obtain ⟨X1, X2, rfl, h1⟩ : ∃ X1 X2, X = X1 ++ X2 ∧ X1.length = i - P.length := ⟨X.take (i - P.length), X.drop (i - P.length), by simp, by simp; omega⟩
  simp only [List.length_append] at hi2 hq1 hq2
  have c := carry2 (cmp := cmp) (d := d) (rec := rec) (x := x) (nv := nv) (i := (i : Int)) (k := ((P.length + (X1 ++ X2).length : Nat) : Int)) (X := X2) (P := P ++ X1) (S := S) rfl (by simp; omega) (by simp; omega) (by rw [hl]; simp) hb
  rw [show P ++ X1 ++ (X2 ++ x :: S) = P ++ (X1 ++ X2 ++ ([x] ++ S)) by simp] at c
  rw [bind_of c, mrg_one h.ord]
  · simp
  · intro y hy
    obtain ⟨k, hk, rfl⟩ := List.mem_iff_getElem.1 hy
    have := hq1 (P.length + k) (by omega) (by omega)
    rw [show P.length + k - P.length = k by omega] at this
    simpa [List.getD_eq_getElem?_getD, List.getElem?_append_left hk, List.getElem?_eq_getElem hk] using this
  · intro y hy
    obtain ⟨k, hk, rfl⟩ := List.mem_iff_getElem.1 hy
    have := hq2 (i + k) (by omega) (by omega)
    rw [show i + k - P.length = X1.length + k by omega] at this
    simpa [List.getD_eq_getElem?_getD, List.getElem?_eq_getElem hk, List.getElem?_append_right] using this
/-- The last parts of symMerge. -/
theorem symEnd {rec : SA α → Option ((List α) × Unit)} {Q X Y S : List α} {nv : Nat} {mid e b : Int} {l : List α} (hrec : 0 < X.length → 0 < Y.length → rec (nv, ((Q.length : Nat) : Int), ((Q.length + X.length : Nat) : Int), ((Q.length + X.length + Y.length : Nat) : Int), Q ++ (X ++ (Y ++ S)), ()) = some (Q ++ (mrg lt X Y ++ S), ()))
    (h1 : mid = (Q.length : Nat)) (h2 : e = (Q.length + X.length : Nat)) (h3 : b = (Q.length + X.length + Y.length : Nat)) (hl : l = Q ++ (X ++ (Y ++ S))) :
    (brO (decide (mid < e)) (brO (decide (e < b)) (bindO (rec (nv, (mid, (e, (b, (l, ())))))) fun y => some (y.1, ())) (some (l, ()))) (some (l, ()))) = some (Q ++ (mrg lt X Y ++ S), ()) := by
  subst h1 h2 h3 hl
  rw [br_d]
  by_cases hx : 0 < X.length
  · rw [if_pos (by omega), br_d]
    by_cases hy : 0 < Y.length
    · rw [if_pos (by omega), hrec hx hy, bindO_s]
    · have : Y = [] := List.length_eq_zero_iff.1 (by omega)
      subst this
      rw [if_neg (by simp), mrg_nil_right]; rfl
  · have : X = [] := List.length_eq_zero_iff.1 (by omega)
    subst this
    rw [if_neg (by simp), mrg_nil_left]; rfl
theorem symMid {rec : SA α → Option ((List α) × Unit)} {P X1 Y1 X2 Y2 S : List α} {nv : Nat} {a s mid e b : Int} {l : List α}
    (hr1 : 0 < X1.length → 0 < Y1.length → rec (nv, ((P.length : Nat) : Int), ((P.length + X1.length : Nat) : Int), ((P.length + X1.length + Y1.length : Nat) : Int), P ++ (X1 ++ (Y1 ++ (X2 ++ (Y2 ++ S)))), ()) = some (P ++ (mrg lt X1 Y1 ++ (X2 ++ (Y2 ++ S))), ()))
    (hr2 : 0 < X2.length → 0 < Y2.length → rec (nv, (((P ++ mrg lt X1 Y1).length : Nat) : Int), (((P ++ mrg lt X1 Y1).length + X2.length : Nat) : Int), (((P ++ mrg lt X1 Y1).length + X2.length + Y2.length : Nat) : Int), (P ++ mrg lt X1 Y1) ++ (X2 ++ (Y2 ++ S)), ()) = some ((P ++ mrg lt X1 Y1) ++ (mrg lt X2 Y2 ++ S), ()))
    (h1 : a = (P.length : Nat)) (h2 : s = (P.length + X1.length : Nat)) (h3 : mid = (P.length + X1.length + Y1.length : Nat)) (h4 : e = (P.length + X1.length + Y1.length + X2.length : Nat)) (h5 : b = (P.length + X1.length + Y1.length + X2.length + Y2.length : Nat)) (hl : l = P ++ (X1 ++ (Y1 ++ (X2 ++ (Y2 ++ S))))) :
    (brO (decide (a < s)) (brO (decide (s < mid)) (bindO (rec (nv, (a, (s, (mid, (l, ())))))) fun y =>
        brO (decide (mid < e)) (brO (decide (e < b)) (bindO (rec (nv, (mid, (e, (b, (y.1, ())))))) fun y => some (y.1, ())) (some (y.1, ()))) (some (y.1, ())))
       (brO (decide (mid < e)) (brO (decide (e < b)) (bindO (rec (nv, (mid, (e, (b, (l, ())))))) fun y => some (y.1, ())) (some (l, ()))) (some (l, ()))))
      (brO (decide (mid < e)) (brO (decide (e < b)) (bindO (rec (nv, (mid, (e, (b, (l, ())))))) fun y => some (y.1, ())) (some (l, ()))) (some (l, ())))) = some (P ++ (mrg lt X1 Y1 ++ (mrg lt X2 Y2 ++ S)), ()) := by
  have hm : (mrg lt X1 Y1).length = X1.length + Y1.length := by simpa using (mrg_perm lt X1 Y1).length_eq
  have fin : ∀ l', l' = (P ++ mrg lt X1 Y1) ++ (X2 ++ (Y2 ++ S)) → (brO (decide (mid < e)) (brO (decide (e < b)) (bindO (rec (nv, (mid, (e, (b, (l', ())))))) fun y => some (y.1, ())) (some (l', ()))) (some (l', ()))) = some (P ++ (mrg lt X1 Y1 ++ (mrg lt X2 Y2 ++ S)), ()) := fun l' hl' => by
    have := symEnd (rec := rec) (Q := P ++ mrg lt X1 Y1) (X := X2) (Y := Y2) (S := S) (nv := nv) (mid := mid) (e := e) (b := b) (l := l') hr2 (by simp; omega) (by simp; omega) (by simp; omega) hl'
    rw [this]; simp
  subst h1 h2 h3 hl
  rw [br_d]
  by_cases hx : 0 < X1.length
  · rw [if_pos (by omega), br_d]
    by_cases hy : 0 < Y1.length
    · rw [if_pos (by omega), hr1 hx hy, bindO_s]
      exact fin _ (by simp)
    · have : Y1 = [] := List.length_eq_zero_iff.1 (by omega)
      subst this
      rw [if_neg (by simp)]
      exact fin _ (by simp [mrg_nil_right])
  · have : X1 = [] := List.length_eq_zero_iff.1 (by omega)
    subst this
    rw [if_neg (by simp)]
    exact fin _ (by simp [mrg_nil_left])
end Go.Srt
end
section
open Go.AM
namespace Go.Srt
set_option linter.unusedVariables false
set_option linter.unusedSimpArgs false
variable {α : Type} {cmp : α → α → Option (Int × Unit)} {d : α} {lt : α → α → Bool} {Good : α → Prop}
/-- The place at which symMerge parts two long runs. -/
theorem sym4 (h : CmpOk cmp lt Good) {rec : SA α → Option ((List α) × Unit)} {P X Y S : List α} {nv lo hi n mid : Nat} {a m b : Int} (hX : ∀ z ∈ X, Good z) (hY : ∀ z ∈ Y, Good z) (sX : Sorted lt X) (sY : Sorted lt Y)
    (hl : nv = (P ++ (X ++ (Y ++ S))).length) (hb : nv < 1000000000) (h1 : lo ≤ hi) (h2 : P.length ≤ lo) (h3 : hi ≤ P.length + X.length) (h4 : n - lo ≤ P.length + X.length + Y.length) (h5 : P.length + X.length + hi ≤ n) :
    ∃ s, lo ≤ s ∧ s ≤ hi ∧ (∀ k, lo ≤ k → k < s → lt (Y.getD (n - 1 - k - (P.length + X.length)) d) (X.getD (k - P.length) d) = false) ∧ (∀ k, s ≤ k → k < hi → lt (Y.getD (n - 1 - k - (P.length + X.length)) d) (X.getD (k - P.length) d) = true) ∧
      iter (fun x => s82_4 cmp d rec x.1 x.2.1 x.2.2.1 x.2.2.2.1 x.2.2.2.2.1 x.2.2.2.2.2.1 x.2.2.2.2.2.2.1 x.2.2.2.2.2.2.2.1 x.2.2.2.2.2.2.2.2.1 x.2.2.2.2.2.2.2.2.2.1) (nv, (a, (m, (b, ((mid : Int), ((n : Int), ((lo : Int), ((hi : Int), ((((n : Int)) - (1 : Int)), (P ++ (X ++ (Y ++ S)), ())))))))))) =
        some (nv, (a, (m, (b, ((mid : Int), ((n : Int), ((s : Int), (P ++ (X ++ (Y ++ S)), ())))))))) := by
  have hl' := hl
  simp only [List.length_append] at hl'
  have gx : ∀ k, P.length ≤ k → k < P.length + X.length → (P ++ (X ++ (Y ++ S))).getD k d = X.getD (k - P.length) d := fun k h1 h2 => by
    rw [getD_mid (by simpa using h1) (by simpa using h2)]
  have gy : ∀ k, P.length + X.length ≤ k → k < P.length + X.length + Y.length → (P ++ (X ++ (Y ++ S))).getD k d = Y.getD (k - (P.length + X.length)) d := fun k h1 h2 => by
    rw [show P ++ (X ++ (Y ++ S)) = (P ++ X) ++ (Y ++ S) by simp, getD_mid (by simpa using h1) (by simpa using h2)]
    simp
  have hlen : (P ++ (X ++ (Y ++ S))).length = nv := hl.symm
  obtain ⟨s, hs1, hs2, hq1, hq2, hit⟩ := halve (step := fun x => s82_4 cmp d rec x.1 x.2.1 x.2.2.1 x.2.2.2.1 x.2.2.2.2.1 x.2.2.2.2.2.1 x.2.2.2.2.2.2.1 x.2.2.2.2.2.2.2.1 x.2.2.2.2.2.2.2.2.1 x.2.2.2.2.2.2.2.2.2.1) (lo := lo) (hi := hi)
    (fun i j => (nv, (a, (m, (b, ((mid : Int), ((n : Int), (((i : Nat) : Int), (((j : Nat) : Int), ((((n : Int)) - (1 : Int)), (P ++ (X ++ (Y ++ S)), ())))))))))))
    (fun i => (nv, (a, (m, (b, ((mid : Int), ((n : Int), (((i : Nat) : Int), (P ++ (X ++ (Y ++ S)), ())))))))))
    (fun k => !lt (Y.getD (n - 1 - k - (P.length + X.length)) d) (X.getD (k - P.length) d))
    (fun i j h1 h2 h3 => by
      simp only [s82_4]
      rw [← Int.natCast_add, shr1]
      have e1 := gx ((i + j) / 2) (by omega) (by omega)
      have e2 := gy (n - 1 - (i + j) / 2) (by omega) (by omega)
      rw [show (n : Int) - 1 - (((i + j) / 2 : Nat) : Int) = ((n - 1 - (i + j) / 2 : Nat) : Int) by omega]
      rw [br_d, if_pos (by omega), need_i64 (by omega) (by omega), need_u64 (by omega) (by omega), need_inb (by omega) (by omega), need_i64 (by omega) (by omega), need_i64 (by omega) (by omega), need_inb (by omega) (by omega), need_d (by omega), need_inb (by omega) (by omega), need_d (by omega)]
      simp only [Nat.zero_add, Int.toNat_natCast]
      rw [e1, e2, cmp_nneg h (hY _ (getD_mem (by omega))) (hX _ (getD_mem (by omega))) (fun z => rfl), need_i64 (by omega) (by omega)]
      by_cases hq : (!lt (Y.getD (n - 1 - (i + j) / 2 - (P.length + X.length)) d) (X.getD ((i + j) / 2 - P.length) d)) = true
      · rw [if_pos hq, if_pos hq]; simp
      · rw [if_neg hq, if_neg hq])
    (fun i h1 h2 => by
      simp only [s82_4]
      rw [br_d, if_neg (by omega)])
    (fun i k h1 h2 h3 hq => by
      have hx := sorted_get (d := d) h.ord sX (i := i - P.length) (k := k - P.length) (by omega) (by omega)
      have hy := sorted_get (d := d) h.ord sY (i := n - 1 - k - (P.length + X.length)) (k := n - 1 - i - (P.length + X.length)) (by omega) (by omega)
      simp only [Bool.not_eq_true'] at hq ⊢
      exact h.ord.ntr _ _ _ (h.ord.ntr _ _ _ hx hq) hy) h1
  refine ⟨s, hs1, hs2, fun k h1 h2 => by simpa using hq1 k h1 h2, fun k h1 h2 => by simpa using hq2 k h1 h2, hit⟩
/-- What follows when the place is found. -/
theorem sym5 (h : CmpOk cmp lt Good) {rec : SA α → Option ((List α) × Unit)} {P X Y S : List α} {nv s mid : Nat} {a m b n : Int} (hX : ∀ z ∈ X, Good z) (hY : ∀ z ∈ Y, Good z) (sX : Sorted lt X) (sY : Sorted lt Y)
    (hl : nv = (P ++ (X ++ (Y ++ S))).length) (hb : nv < 1000000000) (ha : a = (P.length : Nat)) (hm : m = (P.length + X.length : Nat)) (hbb : b = (P.length + X.length + Y.length : Nat)) (hn : n = (mid : Int) + m)
    (h1 : P.length ≤ s) (h2 : s ≤ P.length + X.length) (h3 : s ≤ mid) (h4 : mid ≤ Y.length + s) (hmid1 : P.length < mid) (hmid2 : mid < P.length + X.length + Y.length)
    (o1 : 0 < s - P.length → mid - s < Y.length → lt (Y.getD (mid - s) d) (X.getD (s - P.length - 1) d) = false)
    (o2 : 0 < mid - s → s < P.length + X.length → lt (Y.getD (mid - s - 1) d) (X.getD (s - P.length) d) = true)
    (hrec : ∀ x' y', SymR lt Good x' y' → (x'.2.2.2.1 - x'.2.1).toNat < X.length + Y.length → rec x' = some y') :
    (need (rng .i64 (n - (s : Int))) (
        brO (decide ((s : Int) < m)) (
          brO (decide (m < (n - (s : Int)))) (
            bindO (S83 cmp d nv (s : Int) m (n - (s : Int)) (P ++ (X ++ (Y ++ S)))) fun y8 =>
            (brO (decide (a < (s : Int))) (brO (decide ((s : Int) < (mid : Int))) (bindO (rec (nv, (a, ((s : Int), ((mid : Int), (y8.1, ())))))) fun y =>
        brO (decide ((mid : Int) < (n - (s : Int)))) (brO (decide ((n - (s : Int)) < b)) (bindO (rec (nv, ((mid : Int), ((n - (s : Int)), (b, (y.1, ())))))) fun y => some (y.1, ())) (some (y.1, ()))) (some (y.1, ())))
       (brO (decide ((mid : Int) < (n - (s : Int)))) (brO (decide ((n - (s : Int)) < b)) (bindO (rec (nv, ((mid : Int), ((n - (s : Int)), (b, (y8.1, ())))))) fun y => some (y.1, ())) (some (y8.1, ()))) (some (y8.1, ()))))
      (brO (decide ((mid : Int) < (n - (s : Int)))) (brO (decide ((n - (s : Int)) < b)) (bindO (rec (nv, ((mid : Int), ((n - (s : Int)), (b, (y8.1, ())))))) fun y => some (y.1, ())) (some (y8.1, ()))) (some (y8.1, ())))))
            (brO (decide (a < (s : Int))) (brO (decide ((s : Int) < (mid : Int))) (bindO (rec (nv, (a, ((s : Int), ((mid : Int), (P ++ (X ++ (Y ++ S)), ())))))) fun y =>
        brO (decide ((mid : Int) < (n - (s : Int)))) (brO (decide ((n - (s : Int)) < b)) (bindO (rec (nv, ((mid : Int), ((n - (s : Int)), (b, (y.1, ())))))) fun y => some (y.1, ())) (some (y.1, ()))) (some (y.1, ())))
       (brO (decide ((mid : Int) < (n - (s : Int)))) (brO (decide ((n - (s : Int)) < b)) (bindO (rec (nv, ((mid : Int), ((n - (s : Int)), (b, (P ++ (X ++ (Y ++ S)), ())))))) fun y => some (y.1, ())) (some (P ++ (X ++ (Y ++ S)), ()))) (some (P ++ (X ++ (Y ++ S)), ()))))
      (brO (decide ((mid : Int) < (n - (s : Int)))) (brO (decide ((n - (s : Int)) < b)) (bindO (rec (nv, ((mid : Int), ((n - (s : Int)), (b, (P ++ (X ++ (Y ++ S)), ())))))) fun y => some (y.1, ())) (some (P ++ (X ++ (Y ++ S)), ()))) (some (P ++ (X ++ (Y ++ S)), ())))))
            (brO (decide (a < (s : Int))) (brO (decide ((s : Int) < (mid : Int))) (bindO (rec (nv, (a, ((s : Int), ((mid : Int), (P ++ (X ++ (Y ++ S)), ())))))) fun y =>
        brO (decide ((mid : Int) < (n - (s : Int)))) (brO (decide ((n - (s : Int)) < b)) (bindO (rec (nv, ((mid : Int), ((n - (s : Int)), (b, (y.1, ())))))) fun y => some (y.1, ())) (some (y.1, ()))) (some (y.1, ())))
       (brO (decide ((mid : Int) < (n - (s : Int)))) (brO (decide ((n - (s : Int)) < b)) (bindO (rec (nv, ((mid : Int), ((n - (s : Int)), (b, (P ++ (X ++ (Y ++ S)), ())))))) fun y => some (y.1, ())) (some (P ++ (X ++ (Y ++ S)), ()))) (some (P ++ (X ++ (Y ++ S)), ()))))
      (brO (decide ((mid : Int) < (n - (s : Int)))) (brO (decide ((n - (s : Int)) < b)) (bindO (rec (nv, ((mid : Int), ((n - (s : Int)), (b, (P ++ (X ++ (Y ++ S)), ())))))) fun y => some (y.1, ())) (some (P ++ (X ++ (Y ++ S)), ()))) (some (P ++ (X ++ (Y ++ S)), ())))))) = some (P ++ (mrg lt X Y ++ S), ()) := by
  have hl' := hl
  simp only [List.length_append] at hl'
  obtain ⟨X1, X2, rfl, k1⟩ : ∃ X1 X2, X = X1 ++ X2 ∧ X1.length = s - P.length := ⟨X.take (s - P.length), X.drop (s - P.length), by simp, by simp; omega⟩
  obtain ⟨Y1, Y2, rfl, k2⟩ : ∃ Y1 Y2, Y = Y1 ++ Y2 ∧ Y1.length = mid - s := ⟨Y.take (mid - s), Y.drop (mid - s), by simp, by simp; omega⟩
  simp only [List.length_append] at hl' hm hbb h2 h4 hmid2 o1 o2 hrec
  have sX' := List.pairwise_append.1 sX
  have sY' := List.pairwise_append.1 sY
  have em : mrg lt (X1 ++ X2) (Y1 ++ Y2) = mrg lt X1 Y1 ++ mrg lt X2 Y2 := by
    refine mrg_append h.ord (fun x hx y hy => ?_) (fun y hy x hx => ?_)
    · have p1 : 0 < X1.length := List.length_pos_of_mem hx
      have p2 : 0 < Y2.length := List.length_pos_of_mem hy
      have o := o1 (by omega) (by omega)
      have ex : (X1 ++ X2).getD (s - P.length - 1) d = X1.getD (X1.length - 1) d := by
        rw [k1]; simp [List.getD_eq_getElem?_getD, List.getElem?_append_left (show s - P.length - 1 < X1.length by omega)]
      have ey : (Y1 ++ Y2).getD (mid - s) d = Y2.getD 0 d := by
        rw [← k2]; simp [List.getD_eq_getElem?_getD, List.getElem?_append_right]
      rw [ex, ey] at o
      obtain ⟨i, hi, rfl⟩ := List.mem_iff_getElem.1 hx
      obtain ⟨j, hj, rfl⟩ := List.mem_iff_getElem.1 hy
      have a1 := sorted_get (d := d) h.ord sX'.1 (i := i) (k := X1.length - 1) (by omega) (by omega)
      have a2 := sorted_get (d := d) h.ord sY'.2.1 (i := 0) (k := j) (by omega) (by omega)
      have b1 : X1.getD i d = X1[i] := by simp [List.getD_eq_getElem?_getD, List.getElem?_eq_getElem hi]
      have b2 : Y2.getD j d = Y2[j] := by simp [List.getD_eq_getElem?_getD, List.getElem?_eq_getElem hj]
      rw [b1] at a1; rw [b2] at a2
      exact h.ord.ntr _ _ _ a1 (h.ord.ntr _ _ _ o a2)
    · have p1 : 0 < X2.length := List.length_pos_of_mem hx
      have p2 : 0 < Y1.length := List.length_pos_of_mem hy
      have o := o2 (by omega) (by omega)
      have ex : (X1 ++ X2).getD (s - P.length) d = X2.getD 0 d := by
        rw [← k1]; simp [List.getD_eq_getElem?_getD, List.getElem?_append_right]
      have ey : (Y1 ++ Y2).getD (mid - s - 1) d = Y1.getD (Y1.length - 1) d := by
        rw [k2]; simp [List.getD_eq_getElem?_getD, List.getElem?_append_left (show mid - s - 1 < Y1.length by omega)]
      rw [ex, ey] at o
      obtain ⟨i, hi, rfl⟩ := List.mem_iff_getElem.1 hx
      obtain ⟨j, hj, rfl⟩ := List.mem_iff_getElem.1 hy
      have a1 := sorted_get (d := d) h.ord sX'.2.1 (i := 0) (k := i) (by omega) (by omega)
      have a2 := sorted_get (d := d) h.ord sY'.1 (i := j) (k := Y1.length - 1) (by omega) (by omega)
      have b1 : X2.getD i d = X2[i] := by simp [List.getD_eq_getElem?_getD, List.getElem?_eq_getElem hi]
      have b2 : Y1.getD j d = Y1[j] := by simp [List.getD_eq_getElem?_getD, List.getElem?_eq_getElem hj]
      rw [b1] at a1; rw [b2] at a2
      cases hc : lt Y1[j] X2[i] with
      | true => rfl
      | false =>
        have := h.ord.ntr _ _ _ (h.ord.ntr _ _ _ a1 hc) a2
        rw [this] at o; cases o
  have hmm : (mrg lt X1 Y1).length = X1.length + Y1.length := by simpa using (mrg_perm lt X1 Y1).length_eq
  have fin : ∀ l, l = P ++ (X1 ++ (Y1 ++ (X2 ++ (Y2 ++ S)))) → (brO (decide (a < (s : Int))) (brO (decide ((s : Int) < (mid : Int))) (bindO (rec (nv, (a, ((s : Int), ((mid : Int), (l, ())))))) fun y =>
        brO (decide ((mid : Int) < (n - (s : Int)))) (brO (decide ((n - (s : Int)) < b)) (bindO (rec (nv, ((mid : Int), ((n - (s : Int)), (b, (y.1, ())))))) fun y => some (y.1, ())) (some (y.1, ()))) (some (y.1, ())))
       (brO (decide ((mid : Int) < (n - (s : Int)))) (brO (decide ((n - (s : Int)) < b)) (bindO (rec (nv, ((mid : Int), ((n - (s : Int)), (b, (l, ())))))) fun y => some (y.1, ())) (some (l, ()))) (some (l, ()))))
      (brO (decide ((mid : Int) < (n - (s : Int)))) (brO (decide ((n - (s : Int)) < b)) (bindO (rec (nv, ((mid : Int), ((n - (s : Int)), (b, (l, ())))))) fun y => some (y.1, ())) (some (l, ()))) (some (l, ())))) = some (P ++ (mrg lt (X1 ++ X2) (Y1 ++ Y2) ++ S), ()) := by
    intro l el
    rw [em]
    have := symMid (lt := lt) (rec := rec) (P := P) (X1 := X1) (Y1 := Y1) (X2 := X2) (Y2 := Y2) (S := S) (nv := nv) (a := a) (s := s) (mid := mid) (e := n - s) (b := b) (l := l)
      (fun p1 p2 => hrec _ _ ⟨P, X1, Y1, X2 ++ (Y2 ++ S), rfl, p1, p2, sX'.1, sY'.1, fun z hz => hX z (by simp [hz]), fun z hz => hY z (by simp [hz]), by rw [hl]; simp; omega, hb, rfl⟩ (by dsimp only; omega))
      (fun p1 p2 => hrec _ _ ⟨P ++ mrg lt X1 Y1, X2, Y2, S, rfl, p1, p2, sX'.2.1, sY'.2.1, fun z hz => hX z (by simp [hz]), fun z hz => hY z (by simp [hz]), by rw [hl]; simp; omega, hb, rfl⟩ (by dsimp only; simp only [List.length_append]; omega))
      ha (by omega) (by omega) (by omega) (by omega) el
    rw [this]; simp
  rw [need_i64 (by omega) (by omega), br_d]
  by_cases c1 : 0 < X2.length
  · rw [if_pos (by omega), br_d]
    by_cases c2 : 0 < Y1.length
    · rw [if_pos (by omega)]
      have := S83_ok (cmp := cmp) (d := d) (P := P ++ X1) (X := X2) (Y := Y1) (S := Y2 ++ S) (nv := nv) (a := (s : Int)) (m := m) (b := n - s) c1 c2 (by rw [hl]; simp) hb (by simp; omega) (by simp; omega) (by simp; omega)
      rw [show P ++ X1 ++ (X2 ++ (Y1 ++ (Y2 ++ S))) = P ++ (X1 ++ X2 ++ (Y1 ++ Y2 ++ S)) by simp] at this
      rw [bind_of this]
      exact fin _ (by simp)
    · have : Y1 = [] := List.length_eq_zero_iff.1 (by omega)
      subst this
      rw [if_neg (by simp at *; omega)]
      exact fin _ (by simp)
  · have : X2 = [] := List.length_eq_zero_iff.1 (by omega)
    subst this
    rw [if_neg (by simp at *; omega)]
    exact fin _ (by simp)
end Go.Srt
end
section
open Go.AM
namespace Go.Srt
set_option linter.unusedVariables false
set_option linter.unusedSimpArgs false
variable {α : Type} {cmp : α → α → Option (Int × Unit)} {d : α} {lt : α → α → Bool} {Good : α → Prop}
theorem S82_rec (h : CmpOk cmp lt Good) (rec : SA α → Option (List α × Unit)) (x : SA α) (y : List α × Unit) (hx : SymR lt Good x y)
  (hrec : ∀ x' y', SymR lt Good x' y' → (x'.2.2.2.1 - x'.2.1).toNat < (x.2.2.2.1 - x.2.1).toNat → rec x' = some y') : S82 cmp d rec x.1 x.2.1 x.2.2.1 x.2.2.2.1 x.2.2.2.2.1 = some y := by
 obtain ⟨nv, a, m, b, l, u⟩ := x
 obtain ⟨P, X, Y, S, e, hX0, hY0, sX, sY, gX, gY, hl, hb, rfl⟩ := hx
 dsimp only at e hl hb hrec ⊢
 simp only [Prod.mk.injEq, true_and, and_true] at e
 obtain ⟨rfl, rfl, rfl, rfl⟩ := e
 have hl' := hl
 simp only [List.length_append] at hl'
 unfold S82
 rw [need_i64 (by omega) (by omega), br_eq]
 by_cases c1 : X.length = 1
 ·obtain ⟨x, rfl⟩ := List.length_eq_one_iff.1 c1
  rw [if_pos (by simp only [List.length_cons, List.length_nil]; omega)]
  exact sym1 h (gX x (by simp)) gY sY hl hb
 rw [if_neg (by omega), need_i64 (by omega) (by omega), br_eq]
 by_cases c2 : Y.length = 1
 ·obtain ⟨x, rfl⟩ := List.length_eq_one_iff.1 c2
  rw [if_pos (by simp only [List.length_cons, List.length_nil]; omega)]
  exact sym2 h (gY x (by simp)) gX sX hl hb
 rw [if_neg (by omega)]
 have hrec' : ∀ x' y', SymR lt Good x' y' → (x'.2.2.2.1 - x'.2.1).toNat < X.length + Y.length → rec x' = some y' := fun x' y' h1 h2 => hrec x' y' h1 (by omega)
 rw [← Int.natCast_add, shr1]
 generalize hmid : (P.length + (P.length + X.length + Y.length)) / 2 = mid
 rw [need_i64 (by omega) (by omega), need_u64 (by omega) (by omega), need_inb (by omega) (by omega), need_i64 (by omega) (by omega), need_i64 (by omega) (by omega), br_d]
 by_cases c3 : mid < P.length + X.length
 ·rw [if_pos (by omega), need_i64 (by omega) (by omega), need_i64 (by omega) (by omega)]
  obtain ⟨s, q1, q2, q3, q4, hit⟩ := sym4 (d := d) h (rec := rec) (P := P) (X := X) (Y := Y) (S := S) (nv := nv) (lo := mid + (P.length + X.length) - (P.length + X.length + Y.length)) (hi := mid) (n := mid + (P.length + X.length)) (mid := mid) (a := ((P.length : Nat) : Int)) (m := ((P.length + X.length : Nat) : Int)) (b := ((P.length + X.length + Y.length : Nat) : Int))
   gX gY sX sY hl hb (by omega) (by omega) (by omega) (by omega) (by omega)
  rw [← Int.natCast_add, show ((mid + (P.length + X.length) : Nat) : Int) - ((P.length + X.length + Y.length : Nat) : Int) = ((mid + (P.length + X.length) - (P.length + X.length + Y.length) : Nat) : Int) by omega]
  rw [bind_of hit]
  dsimp only
  exact sym5 (d := d) h gX gY sX sY hl hb rfl rfl rfl (by omega) (by omega) (by omega) (by omega) (by omega) (by omega) (by omega)
   (fun p1 p2 => by
    have := q3 (s - 1) (by omega) (by omega)
    rwa [show mid + (P.length + X.length) - 1 - (s - 1) - (P.length + X.length) = mid - s by omega, show s - 1 - P.length = s - P.length - 1 by omega] at this)
   (fun p1 p2 => by
    have := q4 s (by omega) (by omega)
    rwa [show mid + (P.length + X.length) - 1 - s - (P.length + X.length) = mid - s - 1 by omega] at this) hrec'
 ·rw [if_neg (by omega), need_i64 (by omega) (by omega)]
  obtain ⟨s, q1, q2, q3, q4, hit⟩ := sym4 (d := d) h (rec := rec) (P := P) (X := X) (Y := Y) (S := S) (nv := nv) (lo := P.length) (hi := P.length + X.length) (n := mid + (P.length + X.length)) (mid := mid) (a := ((P.length : Nat) : Int)) (m := ((P.length + X.length : Nat) : Int)) (b := ((P.length + X.length + Y.length : Nat) : Int))
   gX gY sX sY hl hb (by omega) (by omega) (by omega) (by omega) (by omega)
  rw [← Int.natCast_add]
  rw [bind_of hit]
  dsimp only
  exact sym5 (d := d) h gX gY sX sY hl hb rfl rfl rfl (by omega) (by omega) (by omega) (by omega) (by omega) (by omega) (by omega)
   (fun p1 p2 => by
    have := q3 (s - 1) (by omega) (by omega)
    rwa [show mid + (P.length + X.length) - 1 - (s - 1) - (P.length + X.length) = mid - s by omega, show s - 1 - P.length = s - P.length - 1 by omega] at this)
   (fun p1 p2 => by
    have := q4 s (by omega) (by omega)
    rwa [show mid + (P.length + X.length) - 1 - s - (P.length + X.length) = mid - s - 1 by omega] at this) hrec'
theorem S82_ok (h : CmpOk cmp lt Good) {P X Y S : List α} {nv : Nat} {a m b : Int} (hX0 : 0 < X.length) (hY0 : 0 < Y.length) (sX : Sorted lt X) (sY : Sorted lt Y) (gX : ∀ z ∈ X, Good z) (gY : ∀ z ∈ Y, Good z)
  (hl : nv = (P ++ (X ++ (Y ++ S))).length) (hb : nv < 1000000000) (ha : a = (P.length : Nat)) (hm : m = (P.length + X.length : Nat)) (hbb : b = (P.length + X.length + Y.length : Nat)) :
  S82fix cmp d nv a m b (P ++ (X ++ (Y ++ S))) = some (P ++ (mrg lt X Y ++ S), ()) := by
 subst ha hm hbb
 exact fixO_rel (SymR lt Good) (fun x => (x.2.2.2.1 - x.2.1).toNat) (fun rec x y hx hr => S82_rec h rec x y hx hr) _ _ ⟨P, X, Y, S, rfl, hX0, hY0, sX, sY, gX, gY, hl, hb, rfl⟩
/-- Sorted by parts of k. -/
def blk (lt : α → α → Bool) (k : Nat) (l : List α) : List α :=
 if h : l = [] ∨ k = 0 then [] else srt lt (l.take k) ++ blk lt k (l.drop k)
termination_by l.length
decreasing_by
 have : 0 < l.length := List.length_pos_iff.2 (fun e => h (.inl e))
 simp; omega
theorem blk_nil (k : Nat) : blk lt k ([] : List α) = [] := by unfold blk; simp
theorem blk_app {k : Nat} (hk : 0 < k) {A B : List α} (hA : A.length = k) : blk lt k (A ++ B) = srt lt A ++ blk lt k B := by
 rw [blk, dif_neg (by simp; constructor; (intro e; simp [e] at hA; omega); omega)]
 rw [List.take_append_of_le_length (by omega), List.drop_append_of_le_length (by omega)]
 rw [List.take_of_length_le (by omega), List.drop_of_length_le (by omega)]; simp
theorem blk_le {k : Nat} (hk : 0 < k) {A : List α} (hA : A.length ≤ k) : blk lt k A = srt lt A := by
 by_cases h : A = []
 ·subst h; simp [blk_nil, srt_nil]
 ·rw [blk, dif_neg (by simp; exact ⟨h, by omega⟩), List.take_of_length_le hA, List.drop_of_length_le hA, blk_nil]; simp
theorem blk_length {k : Nat} (hk : 0 < k) (l : List α) : (blk lt k l).length = l.length := by
 generalize hn : l.length = n
 induction n using Nat.strongRecOn generalizing l with
 | _ n ih =>
  by_cases h : l.length ≤ k
  ·rw [blk_le hk h, srt_length, hn]
  ·have := blk_app (lt := lt) hk (A := l.take k) (B := l.drop k) (by simp; omega)
   rw [List.take_append_drop] at this
   rw [this, List.length_append, srt_length, ih (l.drop k).length (by simp; omega) _ rfl]
   simp; omega
theorem stb0 (h : CmpOk cmp lt Good) {nv : Nat} (hb : nv < 1000000000) : ∀ {n : Nat} {P R : List α}, R.length = n → (∀ z ∈ R, Good z) → nv = (P ++ R).length →
  ∃ P' R', R'.length < 20 ∧ (∀ z ∈ R', Good z) ∧ nv = (P' ++ R').length ∧ P ++ blk lt 20 R = P' ++ srt lt R' ∧
  iter (fun x => s79_0 cmp d x.1 x.2.1 x.2.2.1 x.2.2.2.1 x.2.2.2.2.1 x.2.2.2.2.2.1) (nv, ((nv : Int), ((20 : Int), (((P.length : Nat) : Int), (((P.length + 20 : Nat) : Int), (P ++ R, ())))))) =
   some (nv, ((nv : Int), ((20 : Int), (((P'.length : Nat) : Int), (P' ++ R', ()))))) := by
 intro n
 induction n using Nat.strongRecOn with
 | _ n ih =>
  intro P R hn hg hl
  have hl' := hl
  simp only [List.length_append] at hl'
  by_cases c : 20 ≤ R.length
  ·obtain ⟨R1, R2, rfl, k1⟩ : ∃ R1 R2, R = R1 ++ R2 ∧ R1.length = 20 := ⟨R.take 20, R.drop 20, by simp, by simp; omega⟩
   simp only [List.length_append] at hn hl'
   obtain ⟨P', R', p1, p2, p3, p4, p5⟩ := ih R2.length (by omega) (P := P ++ srt lt R1) (R := R2) rfl (fun z hz => hg z (by simp [hz])) (by rw [hl]; simp [srt_length])
   refine ⟨P', R', p1, p2, p3, by rw [← p4, blk_app (by omega) k1]; simp, ?_⟩
   refine iter_inl ?_ p5
   simp only [s79_0]
   rw [br_d, if_pos (by omega), bind_of (S81_ok h (P := P) (M := R1) (S := R2) (fun z hz => hg z (by simp [hz])) (by rw [hl]) hb rfl (by omega)), need_i64 (by omega) (by omega)]
   simp [srt_length, k1]
  ·refine ⟨P, R, by omega, hg, hl, by rw [blk_le (by omega) (by omega)], iter_inr ?_⟩
   simp only [s79_0]
   rw [br_d, if_neg (by omega)]
theorem stb2 (h : CmpOk cmp lt Good) {nv k : Nat} (hk : 0 < k) (hkk : k < 1000000000) (hb : nv < 1000000000) : ∀ {n : Nat} {P R : List α}, R.length = n → (∀ z ∈ R, Good z) → nv = (P ++ R).length →
  ∃ P' R', R'.length < 2 * k ∧ (∀ z ∈ R', Good z) ∧ nv = (P' ++ R').length ∧ P ++ blk lt (2 * k) R = P' ++ srt lt R' ∧
  iter (fun x => s79_2 cmp d x.1 x.2.1 x.2.2.1 x.2.2.2.1 x.2.2.2.2.1 x.2.2.2.2.2.1) (nv, ((nv : Int), ((k : Int), (((P.length : Nat) : Int), (((P.length + 2 * k : Nat) : Int), (P ++ blk lt k R, ())))))) =
   some (nv, ((nv : Int), ((k : Int), (((P'.length : Nat) : Int), (P' ++ blk lt k R', ()))))) := by
 intro n
 induction n using Nat.strongRecOn with
 | _ n ih =>
  intro P R hn hg hl
  have hl' := hl
  simp only [List.length_append] at hl'
  by_cases c : 2 * k ≤ R.length
  ·obtain ⟨R1, R2, rfl, k1⟩ : ∃ R1 R2, R = R1 ++ R2 ∧ R1.length = k := ⟨R.take k, R.drop k, by simp, by simp; omega⟩
   simp only [List.length_append] at hn hl' c
   obtain ⟨R2, R3, rfl, k2⟩ : ∃ R1 R3, R2 = R1 ++ R3 ∧ R1.length = k := ⟨R2.take k, R2.drop k, by simp, by simp; omega⟩
   simp only [List.length_append] at hn hl' c
   obtain ⟨P', R', p1, p2, p3, p4, p5⟩ := ih R3.length (by omega) (P := P ++ srt lt (R1 ++ R2)) (R := R3) rfl (fun z hz => hg z (by simp [hz])) (by rw [hl]; simp [srt_length]; omega)
   refine ⟨P', R', p1, p2, p3, by rw [← p4, ← List.append_assoc, blk_app (by omega) (by simp; omega)]; simp, ?_⟩
   refine iter_inl ?_ p5
   simp only [s79_2]
   have sy := S82_ok (d := d) h (P := P) (X := srt lt R1) (Y := srt lt R2) (S := blk lt k R3) (nv := nv) (a := ((P.length : Nat) : Int)) (m := ((P.length : Nat) : Int) + (k : Int)) (b := ((P.length + 2 * k : Nat) : Int)) (by rw [srt_length]; omega) (by rw [srt_length]; omega) (srt_sorted h.ord _) (srt_sorted h.ord _)
    (fun z hz => hg z (by simp [srt_mem.1 hz])) (fun z hz => hg z (by simp [srt_mem.1 hz])) (by rw [hl]; simp [srt_length, blk_length hk]) hb rfl (by rw [srt_length]; omega) (by rw [srt_length, srt_length]; omega)
   rw [blk_app hk k1, blk_app hk k2, br_d, if_pos (by omega), need_i64 (by omega) (by omega), bind_of sy, need_i64 (by omega) (by omega), need_i64 (by omega) (by omega), ← srt_append h.ord]
   simp [srt_length, k1, k2]; omega
  ·refine ⟨P, R, by omega, hg, hl, by rw [blk_le (by omega) (by omega)], iter_inr ?_⟩
   simp only [s79_2]
   rw [br_d, if_neg (by omega)]
theorem stb1 (h : CmpOk cmp lt Good) {nv : Nat} (hb : nv < 100000000) {l : List α} (hg : ∀ z ∈ l, Good z) (hl : nv = l.length) : ∀ {n k : Nat}, nv - k = n → 0 < k → k < 200000000 →
  iter (fun x => s79_1 cmp d x.1 x.2.1 x.2.2.1 x.2.2.2.1) (nv, ((nv : Int), ((k : Int), (blk lt k l, ())))) = some (srt lt l, ()) := by
 intro n
 induction n using Nat.strongRecOn with
 | _ n ih =>
  intro k hn hk hkk
  by_cases c : k < nv
  ·have i := ih (nv - 2 * k) (by omega) (k := 2 * k) rfl (by omega) (by omega)
   refine iter_inl (y := (nv, ((nv : Int), (((2 * k : Nat) : Int), (blk lt (2 * k) l, ()))))) ?_ i
   simp only [s79_1]
   obtain ⟨P', R', p1, p2, p3, p4, p5⟩ := stb2 (d := d) h (nv := nv) (k := k) hk (by omega) (by omega) (n := l.length) (P := []) (R := l) rfl hg (by simpa using hl)
   simp only [List.nil_append, List.length_nil, Nat.zero_add] at p4 p5
   have p3' := p3
   simp only [List.length_append] at p3'
   rw [br_d, if_pos (by omega), need_i64 (by omega) (by omega)]
   rw [show (2 : Int) * (k : Int) = ((2 * k : Nat) : Int) by omega, show (0 : Int) = ((0 : Nat) : Int) by rfl, bind_of p5]
   dsimp only
   rw [need_i64 (by omega) (by omega), br_d]
   by_cases c2 : k < R'.length
   ·rw [if_pos (by omega)]
    obtain ⟨R1, R2, rfl, k1⟩ : ∃ R1 R2, R' = R1 ++ R2 ∧ R1.length = k := ⟨R'.take k, R'.drop k, by simp, by simp; omega⟩
    simp only [List.length_append] at c2 p1 p3'
    have sy := S82_ok (d := d) h (P := P') (X := srt lt R1) (Y := srt lt R2) (S := []) (nv := nv) (a := ((P'.length : Nat) : Int)) (m := ((P'.length : Nat) : Int) + (k : Int)) (b := (nv : Int)) (by rw [srt_length]; omega) (by rw [srt_length]; omega) (srt_sorted h.ord _) (srt_sorted h.ord _)
     (fun z hz => p2 z (by simp [srt_mem.1 hz])) (fun z hz => p2 z (by simp [srt_mem.1 hz])) (by rw [p3]; simp [srt_length]) (by omega) rfl (by rw [srt_length]; omega) (by rw [srt_length, srt_length]; omega)
    simp only [List.append_nil] at sy
    rw [blk_app hk k1, blk_le hk (by omega : R2.length ≤ k), bind_of sy, need_i64 (by omega) (by omega), ← srt_append h.ord, p4]
    simp; omega
   ·rw [if_neg (by omega), need_i64 (by omega) (by omega), blk_le hk (by omega : R'.length ≤ k), p4]
    simp; omega
  ·refine iter_inr ?_
   simp only [s79_1]
   rw [br_d, if_neg (by omega), blk_le hk (by omega)]
/-- Go's stable sort. -/
theorem S74_ok (h : CmpOk cmp lt Good) {l : List α} {nv : Nat} (hg : ∀ z ∈ l, Good z) (hl : nv = l.length) (hb : nv < 100000000) : S74 cmp d nv l = some (srt lt l, ()) := by
 obtain ⟨P', R', p1, p2, p3, p4, p5⟩ := stb0 (d := d) h (nv := nv) (by omega) (n := l.length) (P := []) (R := l) rfl hg (by simpa using hl)
 simp only [List.nil_append, List.length_nil, Nat.zero_add] at p4 p5
 have i := stb1 (d := d) h hb hg hl (n := nv - 20) (k := 20) rfl (by omega) (by omega)
 have p3' := p3
 simp only [List.length_append] at p3'
 have ins := S81_ok (d := d) h (P := P') (M := R') (S := []) (nv := nv) (a := ((P'.length : Nat) : Int)) (b := (nv : Int)) p2 (by simpa using p3) (by omega) rfl (by omega)
 simp only [List.append_nil] at ins
 rw [← p4] at ins
 unfold S74 S79
 simp only [Int.natCast_zero] at p5
 rw [bind_of (a := (srt lt l, ()))]
 have q5 : iter (fun x => s79_0 cmp d x.1 x.2.1 x.2.2.1 x.2.2.2.1 x.2.2.2.2.1 x.2.2.2.2.2.1) (nv, (((nv : Nat) : Int), ((20 : Int), ((0 : Int), ((20 : Int), (l, ())))))) = _ := p5
 rw [bind_of q5]
 dsimp only
 rw [bind_of ins]
 dsimp only
 have i' : iter (fun x => s79_1 cmp d x.1 x.2.1 x.2.2.1 x.2.2.2.1) (nv, ((nv : Int), ((20 : Int), (blk lt 20 l, ())))) = some (srt lt l, ()) := i
 rw [bind_of i']
end Go.Srt
end
section
namespace Go.Tops
def Desc (l : List Int) : Prop := l.Pairwise fun a b => b ≤ a
def tops (l : List Int) (g : Nat) : Int := (l.take g).sum
def mrg : List Int → List Int → List Int
 | [], r => r
 | a :: l, [] => a :: l
 | a :: l, b :: r => if b ≤ a then a :: mrg l (b :: r) else b :: mrg (a :: l) r
termination_by l r => l.length + r.length
theorem mrg_l (r : List Int) : mrg [] r = r := by simp [mrg]
theorem mrg_r (l : List Int) : mrg l [] = l := by cases l <;> simp [mrg]
theorem tops_zero (l : List Int) : tops l 0 = 0 := by simp [tops]
theorem tops_cons (a : Int) (l : List Int) (g : Nat) : tops (a :: l) (g + 1) = a + tops l g := by simp [tops]
theorem tops_nil (g : Nat) : tops [] g = 0 := by simp [tops]
/-- One more is no more than the first. -/
theorem tops_step {a : Int} {l : List Int} (h : Desc (a :: l)) (h0 : ∀ x ∈ a :: l, 0 ≤ x) (j : Nat) : tops (a :: l) (j + 1) ≤ tops (a :: l) j + a := by
 induction j generalizing a l with
 | zero => simp [tops]
 | succ j ih =>
  rw [tops_cons, tops_cons]
  cases l with
  | nil => have := h0 a (List.mem_cons_self ..); rw [tops_nil, tops_nil]; omega
  | cons b l =>
   have hp := List.pairwise_cons.1 h
   have := ih hp.2 (fun x hx => h0 x (List.mem_cons_of_mem _ hx))
   have hb := hp.1 b (List.mem_cons_self ..)
   omega
theorem tops_mono {l : List Int} (h0 : ∀ x ∈ l, 0 ≤ x) {i j : Nat} (h : i ≤ j) : tops l i ≤ tops l j := by
 induction l generalizing i j with
 | nil => simp [tops]
 | cons a l ih =>
  cases j with
  | zero => rw [show i = 0 by omega]; exact Int.le_refl _
  | succ j =>
   cases i with
   | zero =>
    rw [tops_zero, tops_cons]
    have h1 := ih (fun x hx => h0 x (List.mem_cons_of_mem _ hx)) (Nat.zero_le j)
    rw [tops_zero] at h1
    have := h0 a (List.mem_cons_self ..)
    omega
   | succ i =>
    rw [tops_cons, tops_cons]
    have := ih (fun x hx => h0 x (List.mem_cons_of_mem _ hx)) (show i ≤ j by omega)
    omega
/-- No other choice of first ones has more. -/
theorem mrg_best : ∀ {f s : List Int}, Desc f → Desc s → (∀ x ∈ f, 0 ≤ x) → (∀ x ∈ s, 0 ≤ x) → ∀ {g k j : Nat}, k + j ≤ g → tops f k + tops s j ≤ tops (mrg f s) g
 | [], s, _, _, _, hs, g, k, j, h => by rw [mrg_l, tops_nil]; have := tops_mono hs (show j ≤ g by omega); omega
 | a :: f, [], _, _, hf, _, g, k, j, h => by rw [mrg_r, tops_nil]; have := tops_mono hf (show k ≤ g by omega); omega
 | a :: f, b :: s, df, ds, hf, hs, 0, k, j, h => by rw [show k = 0 by omega, show j = 0 by omega]; simp [tops]
 | a :: f, b :: s, df, ds, hf, hs, g + 1, k, j, h => by
  have df' := (List.pairwise_cons.1 df).2
  have ds' := (List.pairwise_cons.1 ds).2
  have hf' : ∀ x ∈ f, 0 ≤ x := fun x hx => hf x (List.mem_cons_of_mem _ hx)
  have hs' : ∀ x ∈ s, 0 ≤ x := fun x hx => hs x (List.mem_cons_of_mem _ hx)
  rw [mrg]
  split
  ·rename_i hab
   rw [tops_cons]
   cases k with
   | succ k =>
    rw [tops_cons]
    have := mrg_best df' ds hf' hs (g := g) (k := k) (j := j) (by omega)
    omega
   | zero =>
    rw [tops_zero]
    cases j with
    | zero =>
     have := mrg_best df' ds hf' hs (g := g) (k := 0) (j := 0) (by omega)
     rw [tops_zero, tops_zero] at *
     have := hf a (List.mem_cons_self ..)
     omega
    | succ j =>
     have h1 := mrg_best df' ds hf' hs (g := g) (k := 0) (j := j) (by omega)
     have h2 := tops_step ds hs j
     rw [tops_zero] at h1
     omega
  ·rename_i hab
   rw [tops_cons]
   cases j with
   | succ j =>
    rw [tops_cons]
    have := mrg_best df ds' hf hs' (g := g) (k := k) (j := j) (by omega)
    omega
   | zero =>
    rw [tops_zero]
    cases k with
    | zero =>
     have := mrg_best df ds' hf hs' (g := g) (k := 0) (j := 0) (by omega)
     rw [tops_zero, tops_zero] at *
     have := hs b (List.mem_cons_self ..)
     omega
    | succ k =>
     have h1 := mrg_best df ds' hf hs' (g := g) (k := k) (j := 0) (by omega)
     have h2 := tops_step df hf k
     rw [tops_zero] at h1
     omega
termination_by f s => f.length + s.length
end Go.Tops
end
section
namespace Go.Gm
open Go.Srt Go.Tops
/-- Sums over the first numbers. -/
def sumR : Nat → (Nat → Int) → Int
  | 0, _ => 0
  | n + 1, f => sumR n f + f n
theorem sumR_congr {n : Nat} {f g : Nat → Int} (h : ∀ i, i < n → f i = g i) : sumR n f = sumR n g := by
  induction n with
  | zero => rfl
  | succ n ih => rw [sumR, sumR, ih (fun i hi => h i (by omega)), h n (by omega)]
theorem sumR_add (n : Nat) (f g : Nat → Int) : sumR n (fun i => f i + g i) = sumR n f + sumR n g := by
  induction n with
  | zero => rfl
  | succ n ih => rw [sumR, sumR, sumR, ih]; omega
theorem sumR_zero (n : Nat) : sumR n (fun _ => 0) = 0 := by
  induction n with
  | zero => rfl
  | succ n ih => rw [sumR, ih]; rfl
theorem sumR_le {n : Nat} {f g : Nat → Int} (h : ∀ i, i < n → f i ≤ g i) : sumR n f ≤ sumR n g := by
  induction n with
  | zero => exact Int.le_refl _
  | succ n ih => have := ih (fun i hi => h i (by omega)); have := h n (by omega); simp only [sumR]; omega
theorem sumR_one {n j : Nat} (h : j < n) (x : Int) : sumR n (fun i => if (i : Int) = j then x else 0) = x := by
  induction n with
  | zero => omega
  | succ n ih =>
    rw [sumR]
    by_cases hj : j < n
    · rw [ih hj, if_neg (by omega)]; omega
    · have : j = n := by omega
      subst this
      rw [sumR_congr (g := fun _ => 0) (fun i hi => by rw [if_neg (by omega)]), sumR_zero, if_pos rfl]; omega
theorem sumR_nonneg {n : Nat} {f : Nat → Int} (h : ∀ i, i < n → 0 ≤ f i) : 0 ≤ sumR n f := by
  induction n with
  | zero => exact Int.le_refl _
  | succ n ih => have := ih (fun i hi => h i (by omega)); have := h n (by omega); simp only [sumR]; omega
theorem sum_map_range (n : Nat) (f : Nat → Int) : ((List.range n).map f).sum = sumR n f := by
  induction n with
  | zero => rfl
  | succ n ih => rw [List.range_succ, List.map_append, List.sum_append, ih]; simp [sumR]
/-- The steps of fields, field by field, from a number on. -/
def allFrom : Nat → List (List Int) → List (Int × Int)
  | _, [] => []
  | i, f :: l => f.map (fun g => (g, (i : Int))) ++ allFrom (i + 1) l
theorem allFrom_fst (i : Nat) (l : List (List Int)) : (allFrom i l).map (·.1) = l.flatten := by
  induction l generalizing i with
  | nil => rfl
  | cons f l ih => simp [allFrom, ih, Function.comp_def]
theorem allFrom_mem {i : Nat} {l : List (List Int)} {s : Int × Int} (h : s ∈ allFrom i l) : ∃ j, j < l.length ∧ s.2 = ((i + j : Nat) : Int) ∧ s.1 ∈ l.getD j [] := by
  induction l generalizing i with
  | nil => cases h
  | cons f l ih =>
    rw [allFrom] at h
    rcases List.mem_append.1 h with h | h
    · obtain ⟨g, hg, rfl⟩ := List.mem_map.1 h
      exact ⟨0, by simp, by simp, by simpa using hg⟩
    · obtain ⟨j, h1, h2, h3⟩ := ih h
      exact ⟨j + 1, by simpa using h1, by rw [h2]; congr 1; omega, by simpa using h3⟩
theorem allFrom_append (i : Nat) (l r : List (List Int)) : allFrom i (l ++ r) = allFrom i l ++ allFrom (i + l.length) r := by
  induction l generalizing i with
  | nil => simp [allFrom]
  | cons f l ih => simp [allFrom, ih]; congr 1; omega
theorem allFrom_length (i : Nat) (l : List (List Int)) : (allFrom i l).length = l.flatten.length := by
  rw [← allFrom_fst i l]; simp
/-- Those of one field. -/
def inF (j : Nat) (s : Int × Int) : Bool := s.2 == (j : Int)
theorem allFrom_filter (i j : Nat) (l : List (List Int)) (h : i ≤ j) : (allFrom i l).filter (inF j) = (l.getD (j - i) []).map (fun g => (g, (j : Int))) := by
  induction l generalizing i with
  | nil => simp [allFrom]
  | cons f l ih =>
    rw [allFrom, List.filter_append]
    by_cases he : i = j
    · subst he
      have e1 : (f.map (fun g => (g, (i : Int)))).filter (inF i) = f.map (fun g => (g, (i : Int))) := by
        rw [List.filter_eq_self]; intro s hs; obtain ⟨g, _, rfl⟩ := List.mem_map.1 hs; simp [inF]
      have e2 : (allFrom (i + 1) l).filter (inF i) = [] := by
        rw [List.filter_eq_nil_iff]; intro s hs; obtain ⟨k, _, h2, _⟩ := allFrom_mem hs; simp [inF, h2]; omega
      rw [e1, e2]; simp
    · have e1 : (f.map (fun g => (g, (i : Int)))).filter (inF j) = [] := by
        rw [List.filter_eq_nil_iff]; intro s hs; obtain ⟨g, _, rfl⟩ := List.mem_map.1 hs; simp [inF]; omega
      rw [e1, ih (i + 1) (by omega), List.nil_append, show j - i = (j - (i + 1)) + 1 by omega]; simp
/-- The order of steps: the greatest first; of equal ones that of the field that is favoured, then that of the least number. -/
def ltF (fv : Int → Int) (a b : Int × Int) : Bool :=
  decide (b.1 < a.1) || (a.1 == b.1 && (decide (fv b.2 < fv a.2) || (fv a.2 == fv b.2 && decide (a.2 < b.2))))
theorem ltF_ord (fv : Int → Int) : Ord (ltF fv) := by
  constructor
  · intro a b h
    simp only [ltF, Bool.or_eq_true, Bool.and_eq_true, decide_eq_true_eq, beq_iff_eq, Bool.or_eq_false_iff, Bool.and_eq_false_iff, decide_eq_false_iff_not, beq_eq_false_iff_ne, ne_eq] at h ⊢
    omega
  · intro a b c h1 h2
    simp only [ltF, Bool.or_eq_true, Bool.and_eq_true, decide_eq_true_eq, beq_iff_eq, Bool.or_eq_false_iff, Bool.and_eq_false_iff, decide_eq_false_iff_not, beq_eq_false_iff_ne, ne_eq] at h1 h2 ⊢
    omega
/-- The steps in order. -/
def stepsF (fv : Int → Int) (l : List (List Int)) : List (Int × Int) := srt (ltF fv) (allFrom 0 l)
theorem stepsF_perm (fv : Int → Int) (l : List (List Int)) : (stepsF fv l).Perm (allFrom 0 l) := srt_perm _
theorem stepsF_sorted (fv : Int → Int) (l : List (List Int)) : Sorted (ltF fv) (stepsF fv l) := srt_sorted (ltF_ord fv) _
theorem stepsF_length (fv : Int → Int) (l : List (List Int)) : (stepsF fv l).length = l.flatten.length := by rw [(stepsF_perm fv l).length_eq, allFrom_length]
theorem sorted_desc {fv : Int → Int} {l : List (Int × Int)} (h : Sorted (ltF fv) l) : Desc (l.map (·.1)) := by
  unfold Desc
  rw [List.pairwise_map]
  refine h.imp fun {a b} h => ?_
  simp only [ltF, Bool.or_eq_false_iff, decide_eq_false_iff_not] at h
  omega
theorem desc_perm {l r : List Int} (hl : Desc l) (hr : Desc r) (h : l.Perm r) : l = r :=
  h.eq_of_pairwise (fun a b _ _ h1 h2 => by omega) hl hr
theorem tmrg_perm : ∀ (l r : List Int), (Tops.mrg l r).Perm (l ++ r)
  | [], r => by simp [Tops.mrg]
  | a :: l, [] => by simp [Tops.mrg]
  | a :: l, b :: r => by
    rw [Tops.mrg]
    split
    · exact (tmrg_perm l (b :: r)).cons a
    · exact ((tmrg_perm (a :: l) r).cons b).trans (List.perm_middle.symm)
termination_by l r => l.length + r.length
theorem tmrg_desc : ∀ {l r : List Int}, Desc l → Desc r → Desc (Tops.mrg l r)
  | [], r, _, h => by simpa [Tops.mrg] using h
  | a :: l, [], h, _ => by simpa [Tops.mrg] using h
  | a :: l, b :: r, hl, hr => by
    have hl' := List.pairwise_cons.1 hl
    have hr' := List.pairwise_cons.1 hr
    rw [Tops.mrg]
    split
    · rename_i c
      refine List.pairwise_cons.2 ⟨fun x hx => ?_, tmrg_desc hl'.2 hr⟩
      rcases List.mem_append.1 ((tmrg_perm _ _).mem_iff.1 hx) with hx | hx
      · exact hl'.1 x hx
      · rcases List.mem_cons.1 hx with rfl | hx
        · omega
        · have := hr'.1 x hx; omega
    · rename_i c
      refine List.pairwise_cons.2 ⟨fun x hx => ?_, tmrg_desc hl hr'.2⟩
      rcases List.mem_append.1 ((tmrg_perm _ _).mem_iff.1 hx) with hx | hx
      · rcases List.mem_cons.1 hx with rfl | hx
        · omega
        · have := hl'.1 x hx; omega
      · exact hr'.1 x hx
termination_by l r => l.length + r.length
/-- All gains in order. -/
def mrgAll (l : List (List Int)) : List Int := l.foldl Tops.mrg []
theorem mrgAll_snoc (l : List (List Int)) (f : List Int) : mrgAll (l ++ [f]) = Tops.mrg (mrgAll l) f := by simp [mrgAll]
theorem mrgAll_perm (l : List (List Int)) : (mrgAll l).Perm l.flatten := by
  generalize hn : l.length = n
  induction n generalizing l with
  | zero => have : l = [] := List.length_eq_zero_iff.1 hn
            subst this; simp [mrgAll]
  | succ n ih =>
    rcases snoc_cases l with rfl | ⟨l, f, rfl⟩
    · simp at hn
    rw [mrgAll_snoc]
    refine (tmrg_perm _ _).trans ?_
    rw [List.flatten_append]
    simpa using (ih l (by simp at hn; omega)).append_right f
theorem mrgAll_desc {l : List (List Int)} (h : ∀ f ∈ l, Desc f) : Desc (mrgAll l) := by
  generalize hn : l.length = n
  induction n generalizing l with
  | zero => have : l = [] := List.length_eq_zero_iff.1 hn
            subst this; simp [mrgAll, Desc]
  | succ n ih =>
    rcases snoc_cases l with rfl | ⟨l, f, rfl⟩
    · simp at hn
    rw [mrgAll_snoc]
    exact tmrg_desc (ih (fun f hf => h f (by simp [hf])) (by simp at hn; omega)) (h f (by simp))
theorem mrgAll_length (l : List (List Int)) : (mrgAll l).length = l.flatten.length := (mrgAll_perm l).length_eq
theorem steps_gains (fv : Int → Int) {l : List (List Int)} (h : ∀ f ∈ l, Desc f) : (stepsF fv l).map (·.1) = mrgAll l := by
  refine desc_perm (sorted_desc (stepsF_sorted fv l)) (mrgAll_desc h) ?_
  refine ((stepsF_perm fv l).map _).trans ?_
  rw [allFrom_fst]
  exact (mrgAll_perm l).symm
theorem steps_field (fv : Int → Int) {l : List (List Int)} (h : ∀ f ∈ l, Desc f) (j : Nat) : ((stepsF fv l).filter (inF j)).map (·.1) = l.getD j [] := by
  have hd : Desc (l.getD j []) := by
    by_cases hj : j < l.length
    · exact h _ (by simp [List.getD_eq_getElem?_getD, List.getElem?_eq_getElem hj])
    · simp [List.getD_eq_getElem?_getD, List.getElem?_eq_none (by omega : l.length ≤ j), Desc]
  refine desc_perm (sorted_desc (fv := fv) ((stepsF_sorted fv l).filter _)) hd ?_
  refine (((stepsF_perm fv l).filter (inF j)).map _).trans ?_
  rw [allFrom_filter 0 j l (by omega)]
  simp [Function.comp_def]
/-- How many of some steps a field has. -/
def cnt (j : Nat) (t : List (Int × Int)) : Nat := (t.filter (inF j)).length
def gsum (t : List (Int × Int)) : Int := (t.map (·.1)).sum
theorem cnt_snoc (j : Nat) (t : List (Int × Int)) (s : Int × Int) : cnt j (t ++ [s]) = cnt j t + (if s.2 = (j : Int) then 1 else 0) := by
  simp only [cnt, List.filter_append, List.length_append, List.filter_cons, inF]
  by_cases h : s.2 = (j : Int) <;> simp [h]
theorem gsum_snoc (t : List (Int × Int)) (s : Int × Int) : gsum (t ++ [s]) = gsum t + s.1 := by simp [gsum, List.sum_append]
theorem gsum_append (t u : List (Int × Int)) : gsum (t ++ u) = gsum t + gsum u := by simp [gsum, List.sum_append]
theorem snoc_ind {α : Type} {P : List α → Prop} (h0 : P []) (h1 : ∀ l x, P l → P (l ++ [x])) (l : List α) : P l := by
  generalize hn : l.length = n
  induction n generalizing l with
  | zero => rw [List.length_eq_zero_iff.1 hn]; exact h0
  | succ n ih =>
    rcases snoc_cases l with rfl | ⟨l, x, rfl⟩
    · exact h0
    · exact h1 l x (ih l (by simp at hn; omega))
/-- Field by field. -/
theorem gsum_parts {n : Nat} (t : List (Int × Int)) (h : ∀ s ∈ t, ∃ j, j < n ∧ s.2 = (j : Nat)) : sumR n (fun j => gsum (t.filter (inF j))) = gsum t := by
  induction t using snoc_ind with
  | h0 => simp only [List.filter_nil]; exact sumR_zero n
  | h1 t s ih =>
    obtain ⟨j, hj, e⟩ := h s (by simp)
    rw [gsum_snoc, ← ih (fun s hs => h s (by simp [hs])), ← sumR_one hj s.1, ← sumR_add]
    refine sumR_congr fun i hi => ?_
    rw [List.filter_append, gsum_append, List.filter_cons]
    by_cases hh : (i : Int) = j
    · rw [if_pos hh, if_pos (by simp [inF, e, hh])]; simp [gsum]
    · rw [if_neg hh, if_neg (by simp [inF, e]; omega)]; simp [gsum]
theorem cnt_parts {n : Nat} (t : List (Int × Int)) (h : ∀ s ∈ t, ∃ j, j < n ∧ s.2 = (j : Nat)) : sumR n (fun j => (cnt j t : Int)) = t.length := by
  induction t using snoc_ind with
  | h0 => simp only [cnt, List.filter_nil]; exact sumR_zero n
  | h1 t s ih =>
    obtain ⟨j, hj, e⟩ := h s (by simp)
    have := sumR_one hj 1
    rw [List.length_append, Int.natCast_add, ← ih (fun s hs => h s (by simp [hs]))]
    simp only [List.length_cons, List.length_nil, Nat.zero_add, Int.natCast_one]
    conv => rhs; rw [← this, ← sumR_add]
    refine sumR_congr fun i hi => ?_
    rw [cnt_snoc, e]
    by_cases hh : (i : Int) = j
    · rw [if_pos hh, if_pos hh.symm]; omega
    · rw [if_neg hh, if_neg (fun e => hh e.symm)]; omega
theorem take_filter_prefix {α : Type} (p : α → Bool) (l : List α) (k : Nat) : (l.take k).filter p = (l.filter p).take ((l.take k).filter p).length := by
  have e : l.filter p = (l.take k).filter p ++ (l.drop k).filter p := by rw [← List.filter_append, List.take_append_drop]
  rw [e, List.take_left]
/-- The first steps of a field are its first gains. -/
theorem field_sum (fv : Int → Int) {l : List (List Int)} (h : ∀ f ∈ l, Desc f) (j k : Nat) :
    gsum (((stepsF fv l).take k).filter (inF j)) = ((l.getD j []).take (cnt j ((stepsF fv l).take k))).sum := by
  rw [gsum, take_filter_prefix, List.map_take, steps_field fv h]
  rfl
theorem field_cnt (fv : Int → Int) {l : List (List Int)} (h : ∀ f ∈ l, Desc f) (j k : Nat) : cnt j ((stepsF fv l).take k) ≤ (l.getD j []).length := by
  rw [← steps_field fv h j, List.length_map]
  unfold cnt
  rw [take_filter_prefix]
  simp; omega
theorem steps_fields (fv : Int → Int) {l : List (List Int)} {s : Int × Int} (h : s ∈ stepsF fv l) : ∃ j, j < l.length ∧ s.2 = (j : Nat) := by
  obtain ⟨j, h1, h2, _⟩ := allFrom_mem ((stepsF_perm fv l).mem_iff.1 h)
  exact ⟨j, h1, by simpa using h2⟩
theorem steps_first (fv : Int → Int) {l : List (List Int)} (h : ∀ f ∈ l, Desc f) (k : Nat) : gsum ((stepsF fv l).take k) = tops (mrgAll l) k := by
  rw [gsum, List.map_take, steps_gains fv h]; rfl
/-- No plan has more than the first steps. -/
theorem plan_le {l : List (List Int)} (hd : ∀ f ∈ l, Desc f) (h0 : ∀ f ∈ l, ∀ x ∈ f, 0 ≤ x) (q : Nat → Nat) : ∀ {g n : Nat}, n ≤ l.length → sumR n (fun i => (q i : Int)) ≤ g →
    sumR n (fun i => ((l.getD i []).take (q i)).sum) ≤ tops (mrgAll (l.take n)) g := by
  intro g n
  induction n generalizing g with
  | zero => intro _ _; simp [sumR, mrgAll, tops]
  | succ n ih =>
    intro hn hg
    simp only [sumR] at hg ⊢
    have hq : 0 ≤ sumR n (fun i => (q i : Int)) := sumR_nonneg fun i hi => by omega
    have i1 := ih (g := g - q n) (by omega) (by omega)
    rw [List.take_succ_eq_append_getElem (by omega), mrgAll_snoc]
    have hm : l[n] ∈ l := List.getElem_mem _
    have e : l.getD n [] = l[n] := by simp [List.getD_eq_getElem?_getD, List.getElem?_eq_getElem (show n < l.length by omega)]
    rw [e]
    have b := mrg_best (f := mrgAll (l.take n)) (s := l[n]) (mrgAll_desc fun f hf => hd f (List.mem_of_mem_take hf)) (hd _ hm)
      (fun x hx => by
        obtain ⟨f, hf, hx⟩ := List.mem_flatten.1 ((mrgAll_perm _).mem_iff.1 hx)
        exact h0 f (List.mem_of_mem_take hf) x hx) (h0 _ hm) (g := g) (k := g - q n) (j := q n) (by omega)
    unfold tops at b i1 ⊢
    omega
end Go.Gm
end
section
namespace Go.Gm
open Go.Srt Go.Tops
/-- By how much gains are above a wage. -/
def ex (w x : Int) : Int := max 0 (x - w)
/-- The wages that prove the most. -/
def wLo (l : List Int) (g : Nat) : Int := l.getD g 0
def wHi (l : List Int) (g : Nat) (M : Int) : Int := if g = 0 then M else l.getD (g - 1) 0
theorem getD_bound {l : List Int} {c : Int} (hc : 0 ≤ c) (h : ∀ x ∈ l, 0 ≤ x ∧ x ≤ c) (k : Nat) : 0 ≤ l.getD k 0 ∧ l.getD k 0 ≤ c := by
 by_cases hk : k < l.length
 ·exact h _ (by simp [List.getD_eq_getElem?_getD, List.getElem?_eq_getElem hk])
 ·simp [List.getD_eq_getElem?_getD, List.getElem?_eq_none (by omega : l.length ≤ k), hc]
theorem desc_getD {l : List Int} (hd : Desc l) (h0 : ∀ x ∈ l, 0 ≤ x) {i j : Nat} (h : i ≤ j) : l.getD j 0 ≤ l.getD i 0 := by
 by_cases hj : j < l.length
 ·by_cases e : i = j
  ·rw [e]; exact Int.le_refl _
  ·have := (List.pairwise_iff_getElem.1 hd) i j (by omega) hj (by omega)
   simpa [List.getD_eq_getElem?_getD, List.getElem?_eq_getElem hj, List.getElem?_eq_getElem (show i < l.length by omega)] using this
 ·have : l.getD j 0 = 0 := by simp [List.getD_eq_getElem?_getD, List.getElem?_eq_none (by omega : l.length ≤ j)]
  rw [this]
  by_cases hi : i < l.length
  ·exact h0 _ (by simp [List.getD_eq_getElem?_getD, List.getElem?_eq_getElem hi])
  ·simp [List.getD_eq_getElem?_getD, List.getElem?_eq_none (by omega : l.length ≤ i)]
theorem wLo_wHi {l : List Int} {M : Int} (hM : 0 ≤ M) (hd : Desc l) (hs : ∀ x ∈ l, 0 ≤ x ∧ x ≤ M) (g : Nat) : 0 ≤ wLo l g ∧ wLo l g ≤ wHi l g M ∧ wHi l g M ≤ M := by
 unfold wLo wHi
 have h1 := getD_bound hM hs g
 refine ⟨h1.1, ?_⟩
 by_cases c : g = 0
 ·rw [if_pos c]; omega
 ·rw [if_neg c]; exact ⟨desc_getD hd (fun x hx => (hs x hx).1) (by omega), (getD_bound hM hs _).2⟩
end Go.Gm
end
