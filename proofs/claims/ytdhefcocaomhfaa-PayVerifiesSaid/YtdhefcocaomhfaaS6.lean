/- The known week, reckoned through. Rounds over a list, with a function that says what comes out. Plain Lean. Tools for laws: rounds that count, find or keep something; needs. Sorting by insertion, as rounds. Plain Lean. The order of strings. Plain Lean. The level at which a pot is shared out: there is just one. Plain Lean. The level as the program finds it: farmers in the order in which they reach their Caps. Plain Lean. The level as the reference finds it: from Cap to Cap. Plain Lean. A week is valid: program and reference say the same. A week is valid: program and reference say the same. The reference's check of a week. What a valid week is. Sugar: program and reference. Sugar: program and reference say the same. Sugar: program and reference say the same; the law. Claims in the order in which they reach their Caps. The program's level: walk. The program's level. The program's level: the rounds. Bills: claims and what is paid. The reference's level; both levels are the same. The levels are the same. Bounds: the program's. Payments that are accepted. Payments that are accepted: program and reference. Payments that are accepted: the law. -/
import Derived.Test.YtdhefcocaomhfaaW60
set_option linter.unusedSectionVars false
set_option linter.unusedVariables false
set_option linter.unusedSimpArgs false
section
namespace Go.Proofs.Try
open Go.AM
set_option maxRecDepth 100000
theorem works_ok : run0 F16 = some (true, ()) := cmp_done 200 (by kernel_rfl)
end Go.Proofs.Try
end
section
namespace Go.AM
theorem getD_mid {α : Type} {A B : List α} {x d : α} {n : Nat} (h : n = A.length) : (A ++ x :: B).getD n d = x := by
 subst h; simp [List.getD_eq_getElem?_getD]
/-- Rounds over the items of a list: 'G' says what comes out of a state and the items that are left. -/
theorem iter_list {A B S X : Type} {f : A → Option (A ⊕ B)} (xs : List X) (mk : Nat → S → A) (G : S → List X → B) (Inv : List X → S → Prop)
  (hs : ∀ pre x post s, xs = pre ++ x :: post → Inv pre s →
   (∃ s', f (mk pre.length s) = some (.inl (mk (pre.length + 1) s')) ∧ Inv (pre ++ [x]) s' ∧ G s (x :: post) = G s' post) ∨ f (mk pre.length s) = some (.inr (G s (x :: post))))
  (he : ∀ s, Inv xs s → f (mk xs.length s) = some (.inr (G s []))) {s : S} (h0 : Inv [] s) : iter f (mk 0 s) = some (G s xs) := by
 have key : ∀ (post pre : List X) (s : S), xs = pre ++ post → Inv pre s → iter f (mk pre.length s) = some (G s post) := by
  intro post
  induction post with
  | nil =>
   intro pre s hx hi
   have : pre = xs := by rw [hx]; simp
   subst this
   exact iter_inr (he s hi)
  | cons x post ih =>
   intro pre s hx hi
   rcases hs pre x post s hx hi with ⟨s', h1, h2, h3⟩ | h1
   ·refine iter_inl h1 ?_
    rw [h3]
    have := ih (pre ++ [x]) s' (by rw [hx]; simp) h2
    simpa using this
   ·exact iter_inr h1
 exact key xs [] s (by simp) h0
theorem bind_eq {A X : Type} {o : Option A} {a : A} {f : A → Option X} {y : Option X} (h : o = some a) (e : f a = y) : bindO o f = y := by rw [h, bindO_s, e]
theorem bigL_val : ((bigL : Nat) : Int) = 1073741824 := by decide
theorem need_inbig {X : Type} {i : Int} {x : Option X} (h : 0 ≤ i) (h2 : i < 1073741824) : need (inb i ((bigL : Nat) : Int)) x = x := need_inb h (by rw [bigL_val]; exact h2)
theorem need_lenbig {X : Type} {n : Nat} {x : Option X} (h : n < 1000000000) : need (decide (n < bigL)) x = x := need_d (by have := bigL_val; omega)
theorem br_true {X : Type} {x y : Option X} : brO true x y = x := by simp
theorem br_false {X : Type} {x y : Option X} : brO false x y = y := by simp
theorem br_if {X : Type} {c : Bool} {x y : Option X} : brO c x y = if c = true then x else y := by cases c <;> simp
end Go.AM
end
section
namespace Go.AM
end Go.AM
end
section
namespace Go.AM
variable {α : Type}
/-- Put where it belongs; the list is told from its end. -/
def insR (lt : α → α → Bool) (x : α) : List α → List α
 | [] => [x]
 | y :: R => if lt x y = true then y :: insR lt x R else x :: y :: R
def sortR (lt : α → α → Bool) (R : List α) (l : List α) : List α := l.foldl (fun R x => insR lt x R) R
def isort (lt : α → α → Bool) (l : List α) : List α := (sortR lt [] l).reverse
variable {lt : α → α → Bool}
/-- An order on what is good. -/
structure OrdOn (lt : α → α → Bool) (Good : α → Prop) : Prop where
 asym : ∀ a b, Good a → Good b → lt a b = true → lt b a = false
 ntr : ∀ a b c, Good a → Good b → Good c → lt a b = false → lt b c = false → lt a c = false
variable {Good : α → Prop}
end Go.AM
end
section
namespace Go.AM
theorem bl_cons (a b : UInt8) (x y : List UInt8) : Op.bytesLess (a :: x) (b :: y) = true ↔ a.toNat < b.toNat ∨ (a.toNat = b.toNat ∧ Op.bytesLess x y = true) := by
 simp only [Op.bytesLess, Bool.or_eq_true, decide_eq_true_eq, Bool.and_eq_true, beq_iff_eq, UInt8.lt_iff_toNat_lt, ← UInt8.toNat_inj]
theorem bl_asym : ∀ {x y : List UInt8}, Op.bytesLess x y = true → Op.bytesLess y x = true → False
 | _, [], h, _ => by simp [Op.bytesLess] at h
 | [], _ :: _, _, h => by simp [Op.bytesLess] at h
 | a :: x, b :: y, h, h' => by
  rw [bl_cons] at h h'
  rcases h with h | ⟨h, q⟩
  ·rcases h' with h' | ⟨h', _⟩ <;> omega
  ·rcases h' with h' | ⟨_, q'⟩
   ·omega
   ·exact bl_asym q q'
theorem bl_total : ∀ {x y : List UInt8}, Op.bytesLess x y ≠ true → Op.bytesLess y x ≠ true → x = y
 | [], [], _, _ => rfl
 | _ :: _, [], _, h => by simp [Op.bytesLess] at h
 | [], _ :: _, h, _ => by simp [Op.bytesLess] at h
 | a :: x, b :: y, h, h' => by
  rw [ne_eq, bl_cons] at h h'
  have e : a.toNat = b.toNat := by omega
  rw [bl_total (x := x) (y := y) (fun q => h (.inr ⟨e, q⟩)) (fun q => h' (.inr ⟨e.symm, q⟩)), UInt8.toNat_inj.1 e]
theorem bl_trans : ∀ {x y z : List UInt8}, Op.bytesLess x y = true → Op.bytesLess y z = true → Op.bytesLess x z = true
 | _, _, [], _, h => by simp [Op.bytesLess] at h
 | _, [], _ :: _, h, _ => by simp [Op.bytesLess] at h
 | [], _ :: _, _ :: _, _, _ => by simp [Op.bytesLess]
 | a :: x, b :: y, c :: z, h, h' => by
  rw [bl_cons] at h h' ⊢
  rcases h with h | ⟨h, q⟩
  ·rcases h' with h' | ⟨h', _⟩ <;> (left; omega)
  ·rcases h' with h' | ⟨h', q'⟩
   ·left; omega
   ·right; exact ⟨by omega, bl_trans q q'⟩
theorem slt_asym {a b : ByteArray} (h : slt a b = true) (h' : slt b a = true) : False := bl_asym h h'
theorem slt_irr (a : ByteArray) : slt a a = false := by
 cases h : slt a a
 ·rfl
 ·exact (slt_asym h h).elim
theorem slt_trans {a b c : ByteArray} (h : slt a b = true) (h' : slt b c = true) : slt a c = true := bl_trans h h'
theorem slt_total {a b : ByteArray} (h : slt a b = false) (h' : slt b a = false) : a = b := by
 have e := bl_total (x := a.toList) (y := b.toList) (by unfold slt at h; rw [h]; simp) (by unfold slt at h'; rw [h']; simp)
 rw [Go.ByteArray.toList_eq, Go.ByteArray.toList_eq] at e
 obtain ⟨x⟩ := a; obtain ⟨y⟩ := b
 simp at e; rw [e]
end Go.AM
end
section
namespace Go.Pay
/-- What one gets, times d, at a level of n by d: c is the Cap and the sugar. -/
def D1 (n d : Int) (c : Int × Int) : Int := min (n * c.2) (c.1 * d)
def DD (n d : Int) (cs : List (Int × Int)) : Int := (cs.map (D1 n d)).sum
/-- Caps and sugar are from 0 on. -/
def Nn (cs : List (Int × Int)) : Prop := ∀ c ∈ cs, 0 ≤ c.1 ∧ 0 ≤ c.2
/-- The level is n by d. -/
structure Lv (cs : List (Int × Int)) (all n d : Int) : Prop where
 dpos : 0 < d
 nneg : 0 ≤ n
 red : Int.gcd n d = 1
 sum : DD n d cs = all * d
 low : n = 0 ∨ ∃ c ∈ cs, 0 < c.2 ∧ n * c.2 ≤ c.1 * d
theorem min_mul {a b k : Int} (h : 0 ≤ k) : min a b * k = min (a * k) (b * k) := by
 by_cases hab : a ≤ b
 ·rw [Int.min_eq_left hab, Int.min_eq_left (Int.mul_le_mul_of_nonneg_right hab h)]
 ·have hab : b ≤ a := by omega
  rw [Int.min_eq_right hab, Int.min_eq_right (Int.mul_le_mul_of_nonneg_right hab h)]
/-- A higher level gives no less. -/
theorem D1_mono {n d n' d' : Int} (hd : 0 < d) (hd' : 0 < d') (h : n * d' ≤ n' * d) {c : Int × Int} (hc : 0 ≤ c.2) : D1 n d c * d' ≤ D1 n' d' c * d := by
 unfold D1
 rw [min_mul (by omega), min_mul (by omega)]
 have h1 : n * c.2 * d' ≤ n' * c.2 * d := by
  have := Int.mul_le_mul_of_nonneg_right h hc
  rw [Int.mul_right_comm n c.2 d', Int.mul_right_comm n' c.2 d]; exact this
 have h2 : c.1 * d * d' = c.1 * d' * d := Int.mul_right_comm ..
 omega
theorem DD_cons {n d : Int} {c : Int × Int} {cs : List (Int × Int)} : DD n d (c :: cs) = D1 n d c + DD n d cs := by simp [DD]
theorem Nn.cons {c : Int × Int} {cs : List (Int × Int)} (h : Nn (c :: cs)) : (0 ≤ c.1 ∧ 0 ≤ c.2) ∧ Nn cs := ⟨h c (List.mem_cons_self ..), fun x hx => h x (List.mem_cons_of_mem _ hx)⟩
theorem DD_mono {n d n' d' : Int} (hd : 0 < d) (hd' : 0 < d') (h : n * d' ≤ n' * d) : ∀ {cs : List (Int × Int)}, Nn cs → DD n d cs * d' ≤ DD n' d' cs * d
 | [], _ => by simp [DD]
 | c :: cs, hc => by
  have h1 := D1_mono hd hd' h hc.cons.1.2
  have h2 := DD_mono hd hd' h hc.cons.2
  rw [DD_cons, DD_cons, Int.add_mul, Int.add_mul]; omega
theorem D1_lt {n d n' d' : Int} (hd : 0 < d) (hd' : 0 < d') (h : n * d' < n' * d) {c : Int × Int} (hc : 0 < c.2) (hl : n' * c.2 ≤ c.1 * d') : D1 n d c * d' < D1 n' d' c * d := by
 have h0 : D1 n' d' c = n' * c.2 := by unfold D1; exact Int.min_eq_left hl
 have h1 : D1 n d c ≤ n * c.2 := by unfold D1; exact Int.min_le_left ..
 have h2 : D1 n d c * d' ≤ n * c.2 * d' := Int.mul_le_mul_of_nonneg_right h1 (by omega)
 have h3 : n * c.2 * d' < n' * c.2 * d := by
  have := Int.mul_lt_mul_of_pos_right h hc
  rw [Int.mul_right_comm n c.2 d', Int.mul_right_comm n' c.2 d]; exact this
 rw [h0]; omega
theorem DD_lt {n d n' d' : Int} (hd : 0 < d) (hd' : 0 < d') (h : n * d' < n' * d) : ∀ {cs : List (Int × Int)}, Nn cs → (∃ c ∈ cs, 0 < c.2 ∧ n' * c.2 ≤ c.1 * d') → DD n d cs * d' < DD n' d' cs * d
 | [], _, hx => by obtain ⟨c, hc, _⟩ := hx; cases hc
 | c :: cs, hc, hx => by
  rw [DD_cons, DD_cons, Int.add_mul, Int.add_mul]
  have hle : n * d' ≤ n' * d := by omega
  obtain ⟨e, he, h1, h2⟩ := hx
  rcases List.mem_cons.1 he with rfl | he
  ·have q1 := D1_lt hd hd' h h1 h2
   have q2 := DD_mono hd hd' hle hc.cons.2
   omega
  ·have q1 := D1_mono hd hd' hle hc.cons.1.2
   have q2 := DD_lt hd hd' h hc.cons.2 ⟨e, he, h1, h2⟩
   omega
/-- A level is no higher than what shares out as much or more. -/
theorem Lv.le {cs : List (Int × Int)} {all n d n' d' : Int} (h : Lv cs all n d) (hn : Nn cs) (hd' : 0 < d') (hn' : 0 ≤ n') (hs : all * d' ≤ DD n' d' cs) : n * d' ≤ n' * d := by
 rcases Int.lt_or_le (n' * d) (n * d') with hlt | hle
 ·exfalso
  rcases h.low with h0 | hx
  ·subst h0
   have : 0 ≤ n' * d := Int.mul_nonneg hn' (Int.le_of_lt h.dpos)
   omega
  ·have q := DD_lt hd' h.dpos hlt hn hx
   rw [h.sum] at q
   have : all * d' * d ≤ DD n' d' cs * d := Int.mul_le_mul_of_nonneg_right hs (Int.le_of_lt h.dpos)
   rw [Int.mul_right_comm] at this
   omega
 ·exact hle
/-- Those without sugar get nothing. -/
theorem D1_zero {n d : Int} (hd : 0 < d) {c : Int × Int} (hc : 0 ≤ c.1) (h0 : c.2 = 0) : D1 n d c = 0 := by
 unfold D1
 rw [h0, Int.mul_zero]
 exact Int.min_eq_left (Int.mul_nonneg hc (Int.le_of_lt hd))
end Go.Pay
end
section
namespace Go.Pay
/-- A level that may have common divisors. -/
structure Lv0 (cs : List (Int × Int)) (all n d : Int) : Prop where
 dpos : 0 < d
 nneg : 0 ≤ n
 sum : DD n d cs = all * d
 low : n = 0 ∨ ∃ c ∈ cs, 0 < c.2 ∧ n * c.2 ≤ c.1 * d
theorem D1_scale {g n d : Int} (hg : 0 ≤ g) (c : Int × Int) : D1 (n * g) (d * g) c = D1 n d c * g := by
 unfold D1
 rw [min_mul hg, Int.mul_right_comm n g, ← Int.mul_assoc]
theorem DD_scale {g n d : Int} (hg : 0 ≤ g) : ∀ cs : List (Int × Int), DD (n * g) (d * g) cs = DD n d cs * g
 | [] => by simp [DD]
 | c :: cs => by rw [DD_cons, DD_cons, D1_scale hg, DD_scale hg cs, Int.add_mul]
def red (n d : Int) : Int × Int := (n / Int.gcd n d, d / Int.gcd n d)
theorem red_spec {n d : Int} (hd : 0 < d) (hn : 0 ≤ n) : 0 < (Int.gcd n d : Int) ∧ (red n d).1 * Int.gcd n d = n ∧ (red n d).2 * Int.gcd n d = d ∧ Int.gcd (red n d).1 (red n d).2 = 1 ∧ 0 < (red n d).2 ∧ 0 ≤ (red n d).1 := by
 have hg : 0 < Int.gcd n d := Int.gcd_pos_of_ne_zero_right n (by omega)
 have hg' : (0 : Int) < Int.gcd n d := by exact_mod_cast hg
 have h1 : (red n d).1 * Int.gcd n d = n := Int.ediv_mul_cancel (Int.gcd_dvd_left ..)
 have h2 : (red n d).2 * Int.gcd n d = d := Int.ediv_mul_cancel (Int.gcd_dvd_right ..)
 refine ⟨hg', h1, h2, Int.gcd_ediv_gcd_ediv_gcd hg, ?_, Int.ediv_nonneg hn (Int.le_of_lt hg')⟩
 rcases Int.lt_or_le 0 (red n d).2 with h | h
 ·exact h
 ·have : (red n d).2 * Int.gcd n d ≤ 0 := Int.mul_nonpos_of_nonpos_of_nonneg h (Int.le_of_lt hg')
  omega
theorem Lv0.red {cs : List (Int × Int)} {all n d : Int} (h : Lv0 cs all n d) : Lv cs all (red n d).1 (red n d).2 := by
 obtain ⟨hg, h1, h2, h3, h4, h5⟩ := red_spec h.dpos h.nneg
 generalize hr : Go.Pay.red n d = r at *
 generalize hq : (Int.gcd n d : Int) = g at *
 obtain ⟨a, b⟩ := r
 simp only at h1 h2 h3 h4 h5 ⊢
 subst h1 h2
 have hs := h.sum
 rw [DD_scale (Int.le_of_lt hg), ← Int.mul_assoc] at hs
 refine ⟨h4, h5, h3, Int.eq_of_mul_eq_mul_right (Int.ne_of_gt hg) hs, ?_⟩
 rcases h.low with h0 | ⟨c, hc, q1, q2⟩
 ·left
  rcases Int.mul_eq_zero.1 h0 with h | h
  ·exact h
  ·omega
 ·right
  refine ⟨c, hc, q1, ?_⟩
  rw [Int.mul_right_comm, ← Int.mul_assoc] at q2
  exact Int.le_of_mul_le_mul_right q2 hg
def sug (l : List (Int × Int)) : Int := (l.map (·.2)).sum
def payLv : List (Int × Int) → Int → Int → Int × Int → Int × Int
 | [], _, _, last => last
 | c :: r, left, sugar, last => if left * c.2 ≤ c.1 * sugar then red left sugar else payLv r (left - c.1) (sugar - c.2) (red c.1 c.2)
end Go.Pay
end
section
namespace Go.Pay
def full (n d : Int) : List (Int × Int) → Int
 | [] => 0
 | c :: r => (if c.2 = 0 then 0 else if c.1 * d ≤ n * c.2 then c.1 else 0) + full n d r
def rest (n d : Int) : List (Int × Int) → Int
 | [] => 0
 | c :: r => (if c.2 = 0 then 0 else if c.1 * d ≤ n * c.2 then 0 else c.2) + rest n d r
def unc (n d : Int) : List (Int × Int) → Nat
 | [] => 0
 | c :: r => (if c.2 = 0 then 0 else if c.1 * d ≤ n * c.2 then 0 else 1) + unc n d r
def nextL (n d : Int) : List (Int × Int) → Int × Int → Int × Int
 | [], x => x
 | c :: r, x => nextL n d r (if c.2 = 0 ∨ c.1 * d ≤ n * c.2 ∨ ¬ c.1 * x.2 ≤ x.1 * c.2 then x else red c.1 c.2)
/-- The Caps of those who have sugar. -/
def capS : List (Int × Int) → Int
 | [] => 0
 | c :: r => (if 0 < c.2 then c.1 else 0) + capS r
theorem full_cons {n d : Int} {c : Int × Int} {r : List (Int × Int)} : full n d (c :: r) = (if c.2 = 0 then 0 else if c.1 * d ≤ n * c.2 then c.1 else 0) + full n d r := rfl
theorem rest_cons {n d : Int} {c : Int × Int} {r : List (Int × Int)} : rest n d (c :: r) = (if c.2 = 0 then 0 else if c.1 * d ≤ n * c.2 then 0 else c.2) + rest n d r := rfl
theorem unc_cons {n d : Int} {c : Int × Int} {r : List (Int × Int)} : unc n d (c :: r) = (if c.2 = 0 then 0 else if c.1 * d ≤ n * c.2 then 0 else 1) + unc n d r := rfl
theorem capS_cons {c : Int × Int} {r : List (Int × Int)} : capS (c :: r) = (if 0 < c.2 then c.1 else 0) + capS r := rfl
theorem rest_nn {n d : Int} : ∀ {cs : List (Int × Int)}, Nn cs → 0 ≤ rest n d cs
 | [], _ => Int.le_refl _
 | c :: r, h => by
  have := rest_nn (n := n) (d := d) h.cons.2; have := h.cons.1
  rw [rest_cons]; split
  ·omega
  ·split <;> omega
/-- What all get, by who is capped. -/
theorem DD_parts {n d : Int} (hd : 0 < d) : ∀ {cs : List (Int × Int)}, Nn cs → DD n d cs = full n d cs * d + n * rest n d cs
 | [], _ => by simp [DD, full, rest]
 | c :: r, h => by
  have ih := DD_parts (n := n) hd h.cons.2
  rw [DD_cons, ih]
  rw [full_cons, rest_cons]
  by_cases h0 : c.2 = 0
  ·rw [if_pos h0, if_pos h0, D1_zero hd h.cons.1.1 h0]; simp
  ·rw [if_neg h0, if_neg h0]
   by_cases hc : c.1 * d ≤ n * c.2
   ·rw [if_pos hc, if_pos hc, Int.add_mul, D1, Int.min_eq_right hc]; simp; omega
   ·rw [if_neg hc, if_neg hc, Int.mul_add, D1, Int.min_eq_left (by omega)]; simp; omega
/-- The same, at a later level that is no higher than the limits of those who are not capped yet. -/
theorem DD_next {n d n' d' : Int} (hd : 0 < d) (hd' : 0 < d') (hle : n * d' ≤ n' * d) : ∀ {cs : List (Int × Int)}, Nn cs → (∀ c ∈ cs, 0 < c.2 → ¬ c.1 * d ≤ n * c.2 → n' * c.2 ≤ c.1 * d') → DD n' d' cs = full n d cs * d' + n' * rest n d cs
 | [], _, _ => by simp [DD, full, rest]
 | c :: r, h, hc => by
  have ih := DD_next (n' := n') hd hd' hle h.cons.2 (fun x hx => hc x (List.mem_cons_of_mem _ hx))
  have hcn := h.cons.1
  rw [DD_cons, ih]
  rw [full_cons, rest_cons]
  by_cases h0 : c.2 = 0
  ·rw [if_pos h0, if_pos h0, D1_zero hd' hcn.1 h0]; simp
  ·rw [if_neg h0, if_neg h0]
   by_cases hcc : c.1 * d ≤ n * c.2
   ·have : c.1 * d' ≤ n' * c.2 := by
     have h1 : c.1 * d * d' ≤ n * c.2 * d' := Int.mul_le_mul_of_nonneg_right hcc (Int.le_of_lt hd')
     have h2 : n * d' * c.2 ≤ n' * d * c.2 := Int.mul_le_mul_of_nonneg_right hle hcn.2
     rw [Int.mul_right_comm c.1, Int.mul_right_comm n c.2] at h1
     rw [Int.mul_right_comm n' d] at h2
     exact Int.le_of_mul_le_mul_right (Int.le_trans h1 h2) hd
    rw [if_pos hcc, if_pos hcc, Int.add_mul, D1, Int.min_eq_right this]; simp; omega
   ·rw [if_neg hcc, if_neg hcc, Int.mul_add, D1, Int.min_eq_left (hc c (List.mem_cons_self ..) (by omega) hcc)]; simp; omega
theorem rest_zero {n d : Int} : ∀ {cs : List (Int × Int)}, Nn cs → rest n d cs = 0 → full n d cs = capS cs
 | [], _, _ => rfl
 | c :: r, h, h0 => by
  have hn := rest_nn (n := n) (d := d) h.cons.2
  have hc := h.cons.1
  rw [rest_cons] at h0
  rw [full_cons, capS_cons]
  by_cases z : c.2 = 0
  ·rw [if_pos z] at h0
   rw [if_pos z, if_neg (by omega), rest_zero h.cons.2 (by omega)]
  ·rw [if_neg z] at h0 ⊢
   by_cases hcc : c.1 * d ≤ n * c.2
   ·rw [if_pos hcc] at h0
    rw [if_pos hcc, if_pos (by omega), rest_zero h.cons.2 (by omega)]
   ·rw [if_neg hcc] at h0; omega
theorem rest_pos {n d : Int} : ∀ {cs : List (Int × Int)}, Nn cs → rest n d cs ≠ 0 → ∃ c ∈ cs, 0 < c.2 ∧ ¬ c.1 * d ≤ n * c.2
 | [], _, h => absurd rfl h
 | c :: r, h, h0 => by
  have hc := h.cons.1
  by_cases z : 0 < c.2 ∧ ¬ c.1 * d ≤ n * c.2
  ·exact ⟨c, List.mem_cons_self .., z⟩
  ·have : rest n d r ≠ 0 := by
    intro e; apply h0; rw [rest_cons, e]
    split
    ·rfl
    ·rw [if_pos (by omega)]; rfl
   obtain ⟨e, he, q⟩ := rest_pos h.cons.2 this
   exact ⟨e, List.mem_cons_of_mem _ he, q⟩
theorem capped_up {n d n' d' : Int} (hd : 0 < d) (hd' : 0 < d') (hle : n * d' ≤ n' * d) {c : Int × Int} (h2 : 0 ≤ c.2) (hcc : c.1 * d ≤ n * c.2) : c.1 * d' ≤ n' * c.2 := by
 have h1 : c.1 * d * d' ≤ n * c.2 * d' := Int.mul_le_mul_of_nonneg_right hcc (Int.le_of_lt hd')
 have h2 : n * d' * c.2 ≤ n' * d * c.2 := Int.mul_le_mul_of_nonneg_right hle h2
 rw [Int.mul_right_comm c.1, Int.mul_right_comm n c.2] at h1
 rw [Int.mul_right_comm n' d] at h2
 exact Int.le_of_mul_le_mul_right (Int.le_trans h1 h2) hd
theorem unc_mono {n d n' d' : Int} (hd : 0 < d) (hd' : 0 < d') (hle : n * d' ≤ n' * d) : ∀ {cs : List (Int × Int)}, Nn cs → unc n' d' cs ≤ unc n d cs
 | [], _ => Nat.le_refl _
 | c :: r, h => by
  have ih := unc_mono hd hd' hle h.cons.2
  rw [unc_cons, unc_cons]
  by_cases h0 : c.2 = 0
  ·rw [if_pos h0, if_pos h0]; omega
  ·rw [if_neg h0, if_neg h0]
   by_cases hcc : c.1 * d ≤ n * c.2
   ·rw [if_pos hcc, if_pos (capped_up hd hd' hle h.cons.1.2 hcc)]; omega
   ·rw [if_neg hcc]; split <;> omega
theorem unc_lt {n d n' d' : Int} (hd : 0 < d) (hd' : 0 < d') (hle : n * d' ≤ n' * d) : ∀ {cs : List (Int × Int)}, Nn cs → (∃ c ∈ cs, 0 < c.2 ∧ ¬ c.1 * d ≤ n * c.2 ∧ c.1 * d' ≤ n' * c.2) → unc n' d' cs < unc n d cs
 | [], _, h => by obtain ⟨c, hc, _⟩ := h; cases hc
 | c :: r, h, hx => by
  obtain ⟨e, he, q0, q1, q2⟩ := hx
  rcases List.mem_cons.1 he with rfl | he
  ·have := unc_mono hd hd' hle h.cons.2
   rw [unc_cons, unc_cons]
   rw [if_neg (show ¬ e.2 = 0 by omega), if_neg (show ¬ e.2 = 0 by omega), if_pos q2, if_neg q1]; omega
  ·have ih := unc_lt hd hd' hle h.cons.2 ⟨e, he, q0, q1, q2⟩
   rw [unc_cons, unc_cons]
   by_cases h0 : c.2 = 0
   ·rw [if_pos h0, if_pos h0]; omega
   ·rw [if_neg h0, if_neg h0]
    by_cases hcc : c.1 * d ≤ n * c.2
    ·rw [if_pos hcc, if_pos (capped_up hd hd' hle h.cons.1.2 hcc)]; omega
    ·rw [if_neg hcc]; split <;> omega
/-- A ratio without common divisors, of numbers that are not great. -/
structure Rat (x : Int × Int) : Prop where
 d : 0 < x.2
 n : 0 ≤ x.1
 g : Int.gcd x.1 x.2 = 1
theorem red_rat {n d : Int} (hd : 0 < d) (hn : 0 ≤ n) : Rat (red n d) := by
 obtain ⟨_, _, _, h3, h4, h5⟩ := red_spec hd hn
 exact ⟨h4, h5, h3⟩
/-- The same value. -/
theorem red_eq {n d : Int} (hd : 0 < d) (hn : 0 ≤ n) : (red n d).1 * d = n * (red n d).2 := by
 obtain ⟨hg, h1, h2, h3, h4, h5⟩ := red_spec hd hn
 generalize red n d = r at *
 generalize (Int.gcd n d : Int) = g at *
 rw [← h1, ← h2, Int.mul_comm r.2 g, ← Int.mul_assoc]
theorem rat_trans {a b c : Int × Int} (ha : 0 < a.2) (hb : 0 < b.2) (hc : 0 < c.2) (h1 : a.1 * b.2 ≤ b.1 * a.2) (h2 : b.1 * c.2 ≤ c.1 * b.2) : a.1 * c.2 ≤ c.1 * a.2 := by
 have h3 : a.1 * b.2 * c.2 ≤ b.1 * a.2 * c.2 := Int.mul_le_mul_of_nonneg_right h1 (Int.le_of_lt hc)
 have h4 : b.1 * c.2 * a.2 ≤ c.1 * b.2 * a.2 := Int.mul_le_mul_of_nonneg_right h2 (Int.le_of_lt ha)
 rw [Int.mul_right_comm a.1] at h3
 rw [Int.mul_right_comm b.1 c.2] at h4
 rw [Int.mul_right_comm c.1] at h4
 exact Int.le_of_mul_le_mul_right (Int.le_trans h3 h4) hb
structure NextOk (n d : Int) (cs : List (Int × Int)) (x y : Int × Int) : Prop where
 rat : Rat y
 le : y.1 * x.2 ≤ x.1 * y.2
 lim : ∀ c ∈ cs, 0 < c.2 → ¬ c.1 * d ≤ n * c.2 → y.1 * c.2 ≤ c.1 * y.2
 from' : y = x ∨ ∃ c ∈ cs, 0 < c.2 ∧ ¬ c.1 * d ≤ n * c.2 ∧ y = red c.1 c.2
theorem nextL_ok {n d : Int} : ∀ {cs : List (Int × Int)} {x : Int × Int}, Nn cs → Rat x → NextOk n d cs x (nextL n d cs x)
 | [], x, _, hx => ⟨hx, Int.le_refl _, fun c hc => (by cases hc), .inl rfl⟩
 | c :: r, x, h, hx => by
  unfold nextL
  have hc := h.cons.1
  by_cases hh : c.2 = 0 ∨ c.1 * d ≤ n * c.2 ∨ ¬ c.1 * x.2 ≤ x.1 * c.2
  ·rw [if_pos hh]
   have ih := nextL_ok (n := n) (d := d) h.cons.2 hx
   refine ⟨ih.rat, ih.le, fun e he h1 h2 => ?_, ih.from'.imp id fun ⟨e, he, q⟩ => ⟨e, List.mem_cons_of_mem _ he, q⟩⟩
   rcases List.mem_cons.1 he with rfl | he
   ·rcases hh with q | q | q
    ·omega
    ·exact absurd q h2
    ·exact rat_trans (a := nextL n d r x) (b := x) (c := e) ih.rat.d hx.d h1 ih.le (by omega)
   ·exact ih.lim e he h1 h2
  ·rw [if_neg hh]
   have hc2 : 0 < c.2 := by omega
   have hr := red_rat hc2 hc.1
   have hq := red_eq hc2 hc.1
   have ih := nextL_ok (n := n) (d := d) h.cons.2 hr
   have hle : (red c.1 c.2).1 * x.2 ≤ x.1 * (red c.1 c.2).2 := rat_trans (a := red c.1 c.2) (b := c) (c := x) hr.d hc2 hx.d (by omega) (by omega)
   refine ⟨ih.rat, rat_trans (a := nextL n d r (red c.1 c.2)) (b := red c.1 c.2) (c := x) ih.rat.d hr.d hx.d ih.le hle, fun e he h1 h2 => ?_, .inr ?_⟩
   ·rcases List.mem_cons.1 he with rfl | he
    ·exact rat_trans (a := nextL n d r (red e.1 e.2)) (b := red e.1 e.2) (c := e) ih.rat.d hr.d h1 ih.le (by omega)
    ·exact ih.lim e he h1 h2
   ·rcases ih.from' with q | ⟨e, he, q⟩
    ·exact ⟨c, List.mem_cons_self .., hc2, by omega, q⟩
    ·exact ⟨e, List.mem_cons_of_mem _ he, q⟩
/-- How far the reference is. -/
structure RefInv (cs : List (Int × Int)) (all : Int) (x : Int × Int) : Prop where
 rat : Rat x
 le : DD x.1 x.2 cs ≤ all * x.2
 low : x.1 = 0 ∨ ∃ c ∈ cs, 0 < c.2 ∧ x.1 * c.2 ≤ c.1 * x.2
variable {cs : List (Int × Int)} {all : Int} {x : Int × Int}
theorem RefInv.left (h : RefInv cs all x) (hn : Nn cs) : 0 ≤ all - full x.1 x.2 cs ∧ x.1 * rest x.1 x.2 cs ≤ (all - full x.1 x.2 cs) * x.2 := by
 have h1 := h.le
 rw [DD_parts h.rat.d hn] at h1
 have h2 : 0 ≤ x.1 * rest x.1 x.2 cs := Int.mul_nonneg h.rat.n (rest_nn hn)
 have h3 : x.1 * rest x.1 x.2 cs ≤ (all - full x.1 x.2 cs) * x.2 := by rw [Int.sub_mul]; omega
 refine ⟨?_, h3⟩
 rcases Int.lt_or_le (all - full x.1 x.2 cs) 0 with hlt | hle
 ·have := Int.mul_neg_of_neg_of_pos hlt h.rat.d; omega
 ·exact hle
theorem RefInv.done (h : RefInv cs all x) (hn : Nn cs) (ha : all ≤ capS cs) (h0 : rest x.1 x.2 cs = 0) : Lv cs all x.1 x.2 := by
 refine ⟨h.rat.d, h.rat.n, h.rat.g, Int.le_antisymm h.le ?_, h.low⟩
 rw [DD_parts h.rat.d hn, h0, rest_zero hn h0, Int.mul_zero, Int.add_zero]
 exact Int.mul_le_mul_of_nonneg_right ha (Int.le_of_lt h.rat.d)
theorem RefInv.step (h : RefInv cs all x) (hn : Nn cs) (h0 : rest x.1 x.2 cs ≠ 0) {y : Int × Int} (hy : y = nextL x.1 x.2 cs (red (all - full x.1 x.2 cs) (rest x.1 x.2 cs))) :
  (y = red (all - full x.1 x.2 cs) (rest x.1 x.2 cs) → Lv cs all y.1 y.2) ∧ (y ≠ red (all - full x.1 x.2 cs) (rest x.1 x.2 cs) → RefInv cs all y ∧ unc y.1 y.2 cs < unc x.1 x.2 cs ∧ ∃ c ∈ cs, 0 < c.2 ∧ y = red c.1 c.2) := by
 obtain ⟨l0, l1⟩ := h.left hn
 have hr : 0 < rest x.1 x.2 cs := by have := rest_nn (n := x.1) (d := x.2) hn; omega
 have hx0 := red_rat hr l0
 have hq := red_eq hr l0
 have ok := nextL_ok (n := x.1) (d := x.2) hn hx0
 rw [← hy] at ok
 generalize hz : red (all - full x.1 x.2 cs) (rest x.1 x.2 cs) = z at *
 have hxz : x.1 * z.2 ≤ z.1 * x.2 := rat_trans (a := x) (b := (all - full x.1 x.2 cs, rest x.1 x.2 cs)) (c := z) h.rat.d hr hx0.d l1 (by simp only; omega)
 have hyz : y.1 * rest x.1 x.2 cs ≤ (all - full x.1 x.2 cs) * y.2 := rat_trans (a := y) (b := z) (c := (all - full x.1 x.2 cs, rest x.1 x.2 cs)) ok.rat.d hx0.d hr ok.le (by simp only; omega)
 obtain ⟨c0, hc0, p1, p2⟩ := rest_pos hn h0
 refine ⟨fun e => ?_, fun ne => ?_⟩
 ·rw [e] at ok ⊢
  refine ⟨ok.rat.d, ok.rat.n, ok.rat.g, ?_, .inr ⟨c0, hc0, p1, ok.lim c0 hc0 p1 p2⟩⟩
  rw [DD_next h.rat.d ok.rat.d hxz hn ok.lim, hq, ← Int.add_mul]
  congr 1; omega
 ·rcases ok.from' with e | ⟨c, hc, q1, q2, q3⟩
  ·exact absurd e ne
  have hcr := red_eq q1 (hn c hc).1
  rw [← q3] at hcr
  have hxy : x.1 * y.2 ≤ y.1 * x.2 := rat_trans (a := x) (b := c) (c := y) h.rat.d q1 ok.rat.d (by omega) (by omega)
  refine ⟨⟨ok.rat, ?_, .inr ⟨c, hc, q1, by omega⟩⟩, unc_lt h.rat.d ok.rat.d hxy hn ⟨c, hc, q1, q2, by omega⟩, c, hc, q1, q3⟩
  rw [DD_next h.rat.d ok.rat.d hxy hn ok.lim]
  rw [Int.sub_mul] at hyz; omega
end Go.Pay
end
section
namespace Go.Proofs.Try
open Go.AM
set_option maxRecDepth 100000
abbrev Wk := Int × Int × Int × List (ByteArray × Int) × List (Int × Int × Int × Int)
theorem seq_eq (a b : ByteArray) : seq a b = decide (a = b) := by
 unfold seq
 rw [Go.ByteArray.toList_eq, Go.ByteArray.toList_eq]
 by_cases h : a = b
 ·subst h; simp
 ·rw [decide_eq_false h, beq_eq_false_iff_ne]
  intro e; apply h
  obtain ⟨x⟩ := a; obtain ⟨y⟩ := b
  simp at e; rw [e]
theorem deq_str (a b : ByteArray) : deq .str a b = decide (a = b) := by
 rw [← seq_eq]; simp only [deq, seq, Go.ByteArray.toList_eq]
theorem k65 (a b c : Int) : run0 (F65 a b c) = some (decide (a ≤ b ∧ b ≤ c), ()) := by
 simp only [F65, run_br, run_ret, br_d]
 split <;> simp [*]
theorem k68 (a b c : Int) : run0 (F68 a b c) = some (decide (b ≤ a ∧ a ≤ c), ()) := by
 simp only [F68, run_br, run_ret, br_d]
 split <;> simp [*]
theorem k49 (a b c : Int) : run0 (F49 a b c) = some (decide (b ≤ a ∧ a ≤ c), ()) := by
 simp only [F49, run_bd, run_ret, k68, bindO_s]
/-- A letter, or after the first place a digit. -/
def byteOk (i : Nat) (b : Int) : Bool := decide (97 ≤ b ∧ b ≤ 122) || decide (i ≠ 0 ∧ 48 ≤ b ∧ b ≤ 57)
def okL : Nat → List Int → Bool
 | _, [] => true
 | i, b :: r => byteOk i b && okL (i + 1) r
def nameOk (s : ByteArray) : Bool := okL 0 (bysL s) && decide (0 < s.size ∧ s.size ≤ 10)
theorem k67 (s : ByteArray) (hs : s.size < 1000000000) : run0 (F67 s) = some (nameOk s, ()) := by
 have hl : (bysL s).length = s.size := bysL_length s
 unfold F67
 simp only [run_bd, run_it]
 refine bind_eq (iter_list (bysL s) (fun k (_ : Nat) => (s, bysL s, ((bysL s).length : Int), (k : Int), ())) (fun i r => if okL i r = true then .inr (s, ()) else .inl ()) (fun pre i => i = pre.length) ?_ ?_ (s := 0) rfl) ?_
 ·intro pre x post i hx hi
  subst hi
  have hlen : (bysL s).length = pre.length + (post.length + 1) := by rw [hx]; simp
  have hd : (bysL s).getD pre.length 0 = x := by rw [hx]; exact getD_mid rfl
  have key : run (fun _ => none) (g67_0 (s, bysL s, ((bysL s).length : Int), (pre.length : Int), ())) = if byteOk pre.length x = true then some (.inl (s, bysL s, ((bysL s).length : Int), ((pre.length + 1 : Nat) : Int), ())) else some (.inr (.inl ())) := by
   simp only [g67_0, run_br, run_nb, run_ni, run_nd, run_ret, Int.toNat_natCast, hd, br_d, br_eq]
   rw [if_pos (by omega), need_inb (by omega) (by omega)]
   unfold byteOk; simp only [Bool.or_eq_true, decide_eq_true_eq]
   by_cases h1 : x < 97
   ·rw [if_pos h1]
    by_cases h2 : (pre.length : Int) = 0
    ·rw [if_pos h2, if_neg (by omega)]
    ·rw [if_neg h2]
     by_cases h3 : x < 48
     ·rw [if_pos h3, if_neg (by omega)]
     ·rw [if_neg h3]
      by_cases h4 : 57 < x
      ·rw [if_pos h4, if_neg (by omega)]
      ·rw [if_neg h4, if_pos, need_i64 (by omega) (by omega)]; · rfl
       omega
   ·rw [if_neg h1]
    by_cases h5 : 122 < x
    ·rw [if_pos h5]
     by_cases h2 : (pre.length : Int) = 0
     ·rw [if_pos h2, if_neg (by omega)]
     ·rw [if_neg h2]
      by_cases h3 : x < 48
      ·omega
      ·rw [if_neg h3, if_pos (by omega), if_neg (by omega)]
    ·rw [if_neg h5, if_pos, need_i64 (by omega) (by omega)]; · rfl
     omega
  rw [key]
  by_cases hb : byteOk pre.length x = true
  ·left
   exact ⟨pre.length + 1, by rw [if_pos hb], by simp, by simp [okL, hb]⟩
  ·right
   rw [if_neg hb]
   have : okL pre.length (x :: post) = false := by simp [okL, hb]
   simp [this]
 ·intro i _
  simp only [g67_0, run_br, br_d]
  rw [if_neg (by omega)]
  simp [okL, run_ret]
 ·unfold nameOk
  by_cases h : okL 0 (bysL s) = true
  ·rw [if_pos h, h]
   simp only [run_sr, run_br, run_ret, br_d]
   by_cases h0 : (0 : Int) < ((s.size : Nat) : Int)
   ·rw [if_pos h0, Bool.true_and]
    congr 2
    exact decide_eq_decide.2 (by omega)
   ·rw [if_neg h0]
    simp; omega
  ·rw [if_neg h]
   simp [h, run_sl, run_ret]
theorem k50 (s : ByteArray) : run0 (F50 s) = some (nameOk s, ()) := by
 have hl : (bysL s).length = s.size := bysL_length s
 unfold F50
 simp only [run_br, br_eq, br_d, run_ret]
 by_cases h0 : (s.size : Int) = 0
 ·rw [if_pos h0]; simp [nameOk]; omega
 rw [if_neg h0]
 by_cases h1 : (10 : Int) < (s.size : Int)
 ·rw [if_pos h1]; simp [nameOk]; omega
 rw [if_neg h1]
 simp only [run_bd, run_it]
 refine bind_eq (iter_list (bysL s) (fun k (_ : Nat) => (s, (k : Int), ())) (fun i r => if okL i r = true then .inr () else .inl ()) (fun pre i => i = pre.length) ?_ ?_ (s := 0) rfl) ?_
 ·intro pre x post i hx hi
  subst hi
  have hlen : (bysL s).length = pre.length + (post.length + 1) := by rw [hx]; simp
  have hd : satL s pre.length = x := by unfold satL; rw [hx]; exact getD_mid rfl
  have key : run (fun _ => none) (g50_0 (s, (pre.length : Int), ())) = if byteOk pre.length x = true then some (.inl (s, ((pre.length + 1 : Nat) : Int), ())) else some (.inr (.inl ())) := by
   have hin : inb (pre.length : Int) (s.size : Int) = true := inb_t (by omega) (by omega)
   have hni : rng .i64 ((pre.length : Int) + 1) = true := rng_i64 (by omega) (by omega)
   simp only [g50_0, run_br, run_nb, run_ni, run_nd, run_ret, Int.toNat_natCast, hd, br_d, br_eq, hin, hni, need_true, br_not]
   rw [if_pos (by omega)]
   unfold byteOk; simp only [Bool.or_eq_true, decide_eq_true_eq]
   by_cases h1 : 97 ≤ x
   ·rw [if_pos h1, if_pos (by omega)]
    by_cases h2 : x ≤ 122
    ·rw [if_pos h2, if_pos]; · rfl
     omega
    ·rw [if_neg h2, if_neg (by omega), if_neg (by omega)]
   ·rw [if_neg h1]
    by_cases h3 : 48 ≤ x
    ·rw [if_pos h3]
     by_cases h4 : x ≤ 57
     ·rw [if_pos h4]
      by_cases h5 : (pre.length : Int) = 0
      ·rw [if_pos h5, if_neg (by omega)]
      ·rw [if_neg h5, if_pos]; · rfl
       omega
     ·rw [if_neg h4, if_neg (by omega)]
    ·rw [if_neg h3, if_neg (by omega)]
  rw [key]
  by_cases hb : byteOk pre.length x = true
  ·left
   exact ⟨pre.length + 1, by rw [if_pos hb], by simp, by simp [okL, hb]⟩
  ·right
   rw [if_neg hb]
   have : okL pre.length (x :: post) = false := by simp [okL, hb]
   simp [this]
 ·intro i _
  simp only [g50_0, run_br, br_d]
  rw [if_neg (by omega)]
  simp [okL, run_ret]
 ·unfold nameOk
  by_cases h : okL 0 (bysL s) = true
  ·rw [if_pos h, h]
   simp only [run_sr, run_ret]
   simp; omega
  ·rw [if_neg h]
   simp [h, run_sl, run_ret]
end Go.Proofs.Try
end
section
namespace Go.Proofs.Try
open Go.AM
set_option maxRecDepth 100000
theorem mget_mset {d v : Bool} (k k' : ByteArray) : ∀ m : List (ByteArray × Bool), mgetL .str d (msetL .str m k v) k' = if k' = k then v else mgetL .str d m k'
 | [] => by
  simp only [msetL, mgetL, deq_str, decide_eq_true_eq]
 | e :: r => by
  have ih := mget_mset (d := d) (v := v) k k' r
  simp only [msetL, deq_str, decide_eq_true_eq]
  by_cases h : k = e.1
  ·rw [if_pos h]
   simp only [mgetL, deq_str, decide_eq_true_eq]
   by_cases h2 : k' = k
   ·rw [if_pos h2, if_pos h2]
   ·rw [if_neg h2, if_neg h2, if_neg (by rw [← h]; exact h2)]
  ·rw [if_neg h]
   simp only [mgetL, deq_str, decide_eq_true_eq]
   rw [ih]
   by_cases h2 : k' = e.1
   ·rw [if_pos h2, if_pos h2, if_neg (by rw [h2]; exact fun e => h e.symm)]
   ·rw [if_neg h2, if_neg h2]
def memS (k : ByteArray) (s : List ByteArray) : Bool := s.any fun x => decide (x = k)
theorem memS_iff {k : ByteArray} {s : List ByteArray} : memS k s = true ↔ k ∈ s := by simp [memS]
/-- Farmers. -/
def chkF : List ByteArray → List (ByteArray × Int) → Int
 | _, [] => 0
 | seen, f :: r => if nameOk f.1 = false then 8 else if memS f.1 seen = true then 6 else if ¬ (0 ≤ f.2 ∧ f.2 ≤ 1000000000) then 2 else chkF (seen ++ [f.1]) r
/-- Wagons. -/
def chkW (n : Int) : List (Int × Int × Int × Int) → Int
 | [] => 0
 | x :: r => if ¬ (0 ≤ x.1 ∧ x.1 ≤ n - 1) then 5 else if ¬ (0 ≤ x.2.1 ∧ x.2.1 ≤ 100000) then 2 else if ¬ (0 ≤ x.2.2.1 ∧ x.2.2.1 ≤ x.2.1) then 2 else if ¬ (0 ≤ x.2.2.2 ∧ x.2.2.2 ≤ 1000) then 2 else chkW n r
def chk0 (w : Wk) : Int := if ¬ (0 ≤ w.1 ∧ w.1 ≤ 1000000000) then 2 else if ¬ (0 ≤ w.2.1 ∧ w.2.1 ≤ 1000) then 2 else if ¬ (0 ≤ w.2.2.1 ∧ w.2.2.1 ≤ 1000) then 2 else 0
def chk1 (w : Wk) : Int := if w.2.2.2.1.length = 0 then 4 else if 12 < w.2.2.2.1.length then 1 else chkF [] w.2.2.2.1
def chk2 (w : Wk) : Int := if 50 < w.2.2.2.2.length then 1 else chkW w.2.2.2.1.length w.2.2.2.2
def chk (w : Wk) : Int := if chk0 w ≠ 0 then chk0 w else if chk1 w ≠ 0 then chk1 w else chk2 w
def Names (w : Wk) : Prop := ∀ f ∈ w.2.2.2.1, f.1.size < 1000000000
theorem k46 (w : Wk) : run0 (F46 w) = some (chk0 w, ()) := by
 simp only [F46, run_bd, run_br, run_ret, k65, bindO_s, br_not, br_d, chk0]
 by_cases h1 : 0 ≤ w.1 ∧ w.1 ≤ 1000000000
 ·rw [if_pos h1, if_neg (not_not_intro h1)]
  by_cases h2 : 0 ≤ w.2.1 ∧ w.2.1 ≤ 1000
  ·rw [if_pos h2, if_neg (not_not_intro h2)]
   by_cases h3 : 0 ≤ w.2.2.1 ∧ w.2.2.1 ≤ 1000
   ·rw [if_pos h3, if_neg (not_not_intro h3)]
   ·rw [if_neg h3, if_pos h3]
  ·rw [if_neg h2, if_pos h2]
 ·rw [if_neg h1, if_pos h1]
theorem k47 (w : Wk) (hn : Names w) : run0 (F47 w) = some (chk1 w, ()) := by
 simp only [F47, run_br, run_ret, br_eq, br_d, chk1]
 by_cases h0 : w.2.2.2.1.length = 0
 ·rw [if_pos (by omega), if_pos h0]
 rw [if_neg (by omega), if_neg h0]
 by_cases h1 : 12 < w.2.2.2.1.length
 ·rw [if_pos (by omega), if_pos h1]
 rw [if_neg (by omega), if_neg h1]
 simp only [run_bd, run_it]
 refine bind_eq (iter_list w.2.2.2.1 (fun k (s : List ByteArray × List (ByteArray × Bool)) => (w.2.2.2.1, ((w.2.2.2.1.length : Nat) : Int), (k : Int), s.2, ())) (fun s r => if chkF s.1 r = 0 then .inr () else .inl (chkF s.1 r, ()))
  (fun pre s => s.1 = pre.map (·.1) ∧ ∀ k, mgetL .str false s.2 k = memS k s.1) ?_ ?_ (s := ([], [])) ⟨rfl, fun k => by simp [mgetL, memS]⟩) ?_
 ·rintro pre x post ⟨s, m⟩ hx ⟨hi, hm⟩
  simp only at hi hm
  have hlen : w.2.2.2.1.length = pre.length + (post.length + 1) := by rw [hx]; simp
  have hd : w.2.2.2.1.getD pre.length (bs [], (0 : Int)) = x := by rw [hx]; exact getD_mid rfl
  have hxn : x.1.size < 1000000000 := hn x (by rw [hx]; simp)
  have key : run (fun _ => none) (g47_0 (w.2.2.2.1, ((w.2.2.2.1.length : Nat) : Int), (pre.length : Int), m, ())) =
    if nameOk x.1 = false then some (.inr (.inl (8, ()))) else if memS x.1 s = true then some (.inr (.inl (6, ()))) else if ¬ (0 ≤ x.2 ∧ x.2 ≤ 1000000000) then some (.inr (.inl (2, ()))) else
     some (.inl (w.2.2.2.1, ((w.2.2.2.1.length : Nat) : Int), ((pre.length + 1 : Nat) : Int), msetL .str m x.1 true, ())) := by
   have hin : inb (pre.length : Int) ((w.2.2.2.1.length : Nat) : Int) = true := inb_t (by omega) (by omega)
   have hni : rng .i64 ((pre.length : Int) + 1) = true := rng_i64 (by omega) (by omega)
   simp only [g47_0, run_bd, run_br, run_nb, run_ni, run_nd, run_ret, Int.toNat_natCast, hd, br_d, br_eq, hin, hni, need_true, br_not, k67 _ hxn, k65, bindO_s, hm]
   rw [if_pos (by omega)]
   cases hb : nameOk x.1
   ·simp
   ·simp only [br_true, Bool.true_eq_false, if_false]
    by_cases h2 : memS x.1 s = true
    ·rw [br_if, if_pos h2, if_pos h2]
    ·rw [br_if, if_neg h2, if_neg h2]
     by_cases h3 : 0 ≤ x.2 ∧ x.2 ≤ 1000000000
     ·rw [if_pos h3, if_neg (not_not_intro h3)]; rfl
     ·rw [if_neg h3, if_pos h3]
  rw [key]
  simp only [chkF]
  by_cases c1 : nameOk x.1 = false
  ·right; simp only [if_pos c1]; simp
  simp only [if_neg c1]
  by_cases c2 : memS x.1 s = true
  ·right; simp only [if_pos c2]; simp
  simp only [if_neg c2]
  by_cases c3 : ¬ (0 ≤ x.2 ∧ x.2 ≤ 1000000000)
  ·right; simp only [if_pos c3]; simp
  simp only [if_neg c3]
  left
  refine ⟨(s ++ [x.1], msetL .str m x.1 true), rfl, ⟨by simp [hi], fun k => ?_⟩, rfl⟩
  rw [mget_mset, hm]
  by_cases hk : k = x.1
  ·simp [hk, memS]
  ·rw [if_neg hk]
   have : ¬ x.1 = k := fun e => hk e.symm
   simp [memS, this]
 ·rintro ⟨s, m⟩ _
  simp only [g47_0, run_br, br_d]
  rw [if_neg (by omega)]
  simp [chkF, run_ret]
 ·by_cases h : chkF [] w.2.2.2.1 = 0
  ·simp only [h, if_true, run_sr, run_ret]
  ·simp only [h, if_false, run_sl, run_ret]
theorem k48 (w : Wk) (h12 : w.2.2.2.1.length ≤ 1000000000) : run0 (F48 w) = some (chk2 w, ()) := by
 simp only [F48, run_br, run_ret, br_eq, br_d, chk2]
 by_cases h1 : 50 < w.2.2.2.2.length
 ·rw [if_pos (by omega), if_pos h1]
 rw [if_neg (by omega), if_neg h1]
 simp only [run_bd, run_it]
 refine bind_eq (iter_list w.2.2.2.2 (fun k (_ : Unit) => (w.2.2.2.2, ((w.2.2.2.2.length : Nat) : Int), (k : Int), w.1, w.2.1, w.2.2.1, w.2.2.2.1, w.2.2.2.2, ())) (fun _ r => if chkW w.2.2.2.1.length r = 0 then .inr () else .inl (chkW w.2.2.2.1.length r, ()))
  (fun pre s => True) ?_ ?_ (s := ()) trivial) ?_
 ·rintro pre x post _ hx -
  have hlen : w.2.2.2.2.length = pre.length + (post.length + 1) := by rw [hx]; simp
  have hd : w.2.2.2.2.getD pre.length ((0 : Int), ((0 : Int), ((0 : Int), (0 : Int)))) = x := by rw [hx]; exact getD_mid rfl
  have key : run (fun _ => none) (g48_0 (w.2.2.2.2, ((w.2.2.2.2.length : Nat) : Int), (pre.length : Int), w.1, w.2.1, w.2.2.1, w.2.2.2.1, w.2.2.2.2, ())) =
    if ¬ (0 ≤ x.1 ∧ x.1 ≤ (w.2.2.2.1.length : Int) - 1) then some (.inr (.inl (5, ()))) else if ¬ (0 ≤ x.2.1 ∧ x.2.1 ≤ 100000) then some (.inr (.inl (2, ()))) else if ¬ (0 ≤ x.2.2.1 ∧ x.2.2.1 ≤ x.2.1) then some (.inr (.inl (2, ()))) else
     if ¬ (0 ≤ x.2.2.2 ∧ x.2.2.2 ≤ 1000) then some (.inr (.inl (2, ()))) else some (.inl (w.2.2.2.2, ((w.2.2.2.2.length : Nat) : Int), ((pre.length + 1 : Nat) : Int), w.1, w.2.1, w.2.2.1, w.2.2.2.1, w.2.2.2.2, ())) := by
   have hin : inb (pre.length : Int) ((w.2.2.2.2.length : Nat) : Int) = true := inb_t (by omega) (by omega)
   have hni : rng .i64 ((pre.length : Int) + 1) = true := rng_i64 (by omega) (by omega)
   have hn1 : rng .i64 ((w.2.2.2.1.length : Int) - 1) = true := rng_i64 (by omega) (by omega)
   simp only [g48_0, run_bd, run_br, run_nb, run_ni, run_nd, run_ret, Int.toNat_natCast, hd, br_d, br_eq, hin, hni, hn1, need_true, br_not, k65, bindO_s, ite_not]
   rw [if_pos (by omega)]
   rfl
  rw [key]
  simp only [chkW]
  by_cases c1 : ¬ (0 ≤ x.1 ∧ x.1 ≤ (w.2.2.2.1.length : Int) - 1)
  ·right; simp only [if_pos c1]; simp
  simp only [if_neg c1]
  by_cases c2 : ¬ (0 ≤ x.2.1 ∧ x.2.1 ≤ 100000)
  ·right; simp only [if_pos c2]; simp
  simp only [if_neg c2]
  by_cases c3 : ¬ (0 ≤ x.2.2.1 ∧ x.2.2.1 ≤ x.2.1)
  ·right; simp only [if_pos c3]; simp
  simp only [if_neg c3]
  by_cases c4 : ¬ (0 ≤ x.2.2.2 ∧ x.2.2.2 ≤ 1000)
  ·right; simp only [if_pos c4]; simp
  simp only [if_neg c4]
  left
  refine ⟨(), ?_⟩; simp
 ·rintro _ _
  simp only [g48_0, run_br, br_d]
  rw [if_neg (by omega)]
  simp [chkW, run_ret]
 ·by_cases h : chkW w.2.2.2.1.length w.2.2.2.2 = 0
  ·simp only [h, if_true, run_sr, run_ret]
  ·simp only [h, if_false, run_sl, run_ret]
theorem k22 (w : Wk) (hn : Names w) : run0 (F22 w) = some (chk w, ()) := by
 have hni1 : rng .i64 ((0 : Int) + 1) = true := rng_i64 (by omega) (by omega)
 have hni2 : rng .i64 ((1 : Int) + 1) = true := rng_i64 (by omega) (by omega)
 have hni3 : rng .i64 ((2 : Int) + 1) = true := rng_i64 (by omega) (by omega)
 simp only [F22, run_br, run_bd, run_ret, br_d, k46, k47 w hn, bindO_s, br_not, br_eq, run_ni, hni1, hni2, hni3, need_true]
 rw [if_pos (by omega)]
 unfold chk
 by_cases h0 : chk0 w = 0
 ·simp only [h0, if_true, ne_eq, not_true, if_false]
  rw [if_pos (by omega)]
  by_cases h1 : chk1 w = 0
  ·simp only [h1, if_true, not_true, if_false]
   rw [if_pos (by omega)]
   have h12 : w.2.2.2.1.length ≤ 1000000000 := by
    unfold chk1 at h1
    split at h1; · omega
    split at h1 <;> omega
   simp only [k48 w h12, bindO_s]
   by_cases h2 : chk2 w = 0
   ·simp only [h2, if_true]; rw [if_neg (by omega)]
   ·simp only [h2, if_false]
  ·simp only [h1, if_false, not_false_eq_true, if_true]
 ·simp only [h0, if_false, ne_eq, not_false_eq_true, if_true]
end Go.Proofs.Try
end
section
namespace Go.Proofs.Try
open Go.AM
set_option maxRecDepth 100000
theorem k23 (w : Wk) : run0 (F23 w) = some (chk w, ()) := by
 simp only [F23, run_bd, run_br, run_ret, k49, bindO_s, br_not, br_d, br_eq, run_it]
 unfold chk chk0
 by_cases h1 : 0 ≤ w.1 ∧ w.1 ≤ 1000000000
 case neg => rw [if_neg h1, if_pos h1]; simp
 rw [if_pos h1]
 simp only [if_neg (not_not_intro h1)]
 by_cases h2 : 0 ≤ w.2.1 ∧ w.2.1 ≤ 1000
 case neg => simp only [if_neg h2, if_pos h2]; simp
 simp only [if_pos h2, if_neg (not_not_intro h2)]
 by_cases h3 : 0 ≤ w.2.2.1 ∧ w.2.2.1 ≤ 1000
 case neg => simp only [if_neg h3, if_pos h3]; simp
 simp only [if_pos h3, if_neg (not_not_intro h3), ne_eq, not_true, if_false]
 unfold chk1
 by_cases h4 : w.2.2.2.1.length = 0
 ·rw [if_pos (by omega), if_pos h4]; simp
 rw [if_neg (by omega), if_neg h4]
 by_cases h5 : 12 < w.2.2.2.1.length
 ·rw [if_pos (by omega), if_pos h5]; simp
 rw [if_neg (by omega), if_neg h5]
 refine bind_eq (iter_list w.2.2.2.1 (fun k (_ : List ByteArray) => ((k : Int), w.1, w.2.1, w.2.2.1, w.2.2.2.1, w.2.2.2.2, ())) (fun s r => if chkF s r = 0 then .inr (w.1, w.2.1, w.2.2.1, w.2.2.2.1, w.2.2.2.2, ()) else .inl (chkF s r, ()))
  (fun pre s => s = pre.map (·.1)) ?_ ?_ (s := []) rfl) ?_
 ·rintro pre x post s hx hi
  have hlen : w.2.2.2.1.length = pre.length + (post.length + 1) := by rw [hx]; simp
  have hd : w.2.2.2.1.getD pre.length (bs [], (0 : Int)) = x := by rw [hx]; exact getD_mid rfl
  have inner : run (fun _ => none) (.it g23_1 ((pre.length : Int), (0 : Int), w.1, w.2.1, w.2.2.1, w.2.2.2.1, w.2.2.2.2, x.1, x.2, ())) = some (if memS x.1 s = true then .inl (6, ()) else .inr ((pre.length : Int), w.1, w.2.1, w.2.2.1, w.2.2.2.1, w.2.2.2.2, x.1, x.2, ())) := by
   rw [hi]
   refine iter_list (f := fun a => run (fun _ => none) (g23_1 a)) pre (fun k (_ : Unit) => ((pre.length : Int), (k : Int), w.1, w.2.1, w.2.2.1, w.2.2.2.1, w.2.2.2.2, x.1, x.2, ())) (fun _ r => if memS x.1 (r.map (·.1)) = true then .inl (6, ()) else .inr ((pre.length : Int), w.1, w.2.1, w.2.2.1, w.2.2.2.1, w.2.2.2.2, x.1, x.2, ()))
    (fun _ _ => True) ?_ ?_ (s := ()) trivial
   ·rintro p y q _ hp -
    have hpl : pre.length = p.length + (q.length + 1) := by rw [hp]; simp
    have hdy : w.2.2.2.1.getD p.length (bs [], (0 : Int)) = y := by rw [hx, hp, List.append_assoc]; exact getD_mid rfl
    have hin : inb (p.length : Int) ((w.2.2.2.1.length : Nat) : Int) = true := inb_t (by omega) (by omega)
    have hni : rng .i64 ((p.length : Int) + 1) = true := rng_i64 (by omega) (by omega)
    simp only [g23_1, run_br, run_nb, run_ni, run_nd, run_ret, Int.toNat_natCast, hdy, br_d, hin, hni, need_true, seq_eq]
    rw [if_pos (by omega)]
    by_cases hy : y.1 = x.1
    ·right; rw [if_pos hy]; simp [memS, hy]
    ·left
     refine ⟨(), ?_⟩
     have e : memS x.1 ((y :: q).map (·.1)) = memS x.1 (q.map (·.1)) := by simp [memS, hy]
     rw [if_neg hy, e]; simp
   ·rintro _ _
    simp only [g23_1, run_br, br_d]
    rw [if_neg (by omega)]
    simp [memS, run_ret]
  have key : run (fun _ => none) (g23_0 ((pre.length : Int), w.1, w.2.1, w.2.2.1, w.2.2.2.1, w.2.2.2.2, ())) =
    if nameOk x.1 = false then some (.inr (.inl (8, ()))) else if memS x.1 s = true then some (.inr (.inl (6, ()))) else if ¬ (0 ≤ x.2 ∧ x.2 ≤ 1000000000) then some (.inr (.inl (2, ()))) else
     some (.inl (((pre.length + 1 : Nat) : Int), w.1, w.2.1, w.2.2.1, w.2.2.2.1, w.2.2.2.2, ())) := by
   have hin : inb (pre.length : Int) ((w.2.2.2.1.length : Nat) : Int) = true := inb_t (by omega) (by omega)
   have hni : rng .i64 ((pre.length : Int) + 1) = true := rng_i64 (by omega) (by omega)
   simp only [g23_0, run_bd, run_br, run_nb, run_nd, run_ret, Int.toNat_natCast, hd, br_d, br_eq, hin, need_true, br_not, k50, k49, bindO_s, inner]
   rw [if_pos (by omega)]
   cases hb : nameOk x.1
   ·simp
   ·simp only [br_true, Bool.true_eq_false, if_false]
    by_cases h2 : memS x.1 s = true
    ·simp only [h2, if_true, run_sl, run_ret]
    ·simp only [if_neg h2, run_sr, run_bd, k49, bindO_s, run_br, br_not, br_d, run_ni, hni, need_true, run_ret]
     by_cases h3 : 0 ≤ x.2 ∧ x.2 ≤ 1000000000
     ·rw [if_pos h3, if_neg (not_not_intro h3)]; rfl
     ·rw [if_neg h3, if_pos h3]
  rw [key]
  simp only [chkF]
  by_cases c1 : nameOk x.1 = false
  ·right; simp only [if_pos c1]; simp
  simp only [if_neg c1]
  by_cases c2 : memS x.1 s = true
  ·right; simp only [if_pos c2]; simp
  simp only [if_neg c2]
  by_cases c3 : ¬ (0 ≤ x.2 ∧ x.2 ≤ 1000000000)
  ·right; simp only [if_pos c3]; simp
  simp only [if_neg c3]
  left
  refine ⟨s ++ [x.1], ?_⟩; simp [hi]
 ·rintro s _
  simp only [g23_0, run_br, br_d]
  rw [if_neg (by omega)]
  simp [chkF, run_ret]
 by_cases h : chkF [] w.2.2.2.1 = 0
 case neg => simp only [h, if_false, run_sl, run_ret, not_false_eq_true, if_true]
 simp only [h, if_true, run_sr, run_bd, run_br, run_it, run_ret, br_d, not_true, if_false]
 unfold chk2
 by_cases h6 : 50 < w.2.2.2.2.length
 ·rw [if_pos (by omega), if_pos h6]
 rw [if_neg (by omega), if_neg h6]
 refine bind_eq (iter_list w.2.2.2.2 (fun k (_ : Unit) => ((k : Int), w.1, w.2.1, w.2.2.1, w.2.2.2.1, w.2.2.2.2, ())) (fun _ r => if chkW w.2.2.2.1.length r = 0 then .inr () else .inl (chkW w.2.2.2.1.length r, ()))
  (fun pre s => True) ?_ ?_ (s := ()) trivial) ?_
 ·rintro pre x post _ hx -
  have hlen : w.2.2.2.2.length = pre.length + (post.length + 1) := by rw [hx]; simp
  have hd : w.2.2.2.2.getD pre.length ((0 : Int), ((0 : Int), ((0 : Int), (0 : Int)))) = x := by rw [hx]; exact getD_mid rfl
  have key : run (fun _ => none) (g23_2 ((pre.length : Int), w.1, w.2.1, w.2.2.1, w.2.2.2.1, w.2.2.2.2, ())) =
    if ¬ (0 ≤ x.1 ∧ x.1 ≤ (w.2.2.2.1.length : Int) - 1) then some (.inr (.inl (5, ()))) else if ¬ (0 ≤ x.2.1 ∧ x.2.1 ≤ 100000) then some (.inr (.inl (2, ()))) else if ¬ (0 ≤ x.2.2.1 ∧ x.2.2.1 ≤ x.2.1) then some (.inr (.inl (2, ()))) else
     if ¬ (0 ≤ x.2.2.2 ∧ x.2.2.2 ≤ 1000) then some (.inr (.inl (2, ()))) else some (.inl (((pre.length + 1 : Nat) : Int), w.1, w.2.1, w.2.2.1, w.2.2.2.1, w.2.2.2.2, ())) := by
   have hin : inb (pre.length : Int) ((w.2.2.2.2.length : Nat) : Int) = true := inb_t (by omega) (by omega)
   have hni : rng .i64 ((pre.length : Int) + 1) = true := rng_i64 (by omega) (by omega)
   have hn1 : rng .i64 ((w.2.2.2.1.length : Int) - 1) = true := rng_i64 (by omega) (by omega)
   simp only [g23_2, run_bd, run_br, run_nb, run_ni, run_nd, run_ret, Int.toNat_natCast, hd, br_d, br_eq, hin, hni, hn1, need_true, br_not, k49, bindO_s, ite_not]
   rw [if_pos (by omega)]
   rfl
  rw [key]
  simp only [chkW]
  by_cases c1 : ¬ (0 ≤ x.1 ∧ x.1 ≤ (w.2.2.2.1.length : Int) - 1)
  ·right; simp only [if_pos c1]; simp
  simp only [if_neg c1]
  by_cases c2 : ¬ (0 ≤ x.2.1 ∧ x.2.1 ≤ 100000)
  ·right; simp only [if_pos c2]; simp
  simp only [if_neg c2]
  by_cases c3 : ¬ (0 ≤ x.2.2.1 ∧ x.2.2.1 ≤ x.2.1)
  ·right; simp only [if_pos c3]; simp
  simp only [if_neg c3]
  by_cases c4 : ¬ (0 ≤ x.2.2.2 ∧ x.2.2.2 ≤ 1000)
  ·right; simp only [if_pos c4]; simp
  simp only [if_neg c4]
  left
  refine ⟨(), ?_⟩; simp
 ·rintro _ _
  simp only [g23_2, run_br, br_d]
  rw [if_neg (by omega)]
  simp [chkW, run_ret]
 ·by_cases h : chkW w.2.2.2.1.length w.2.2.2.2 = 0
  ·simp only [h, if_true, run_sr, run_ret]
  ·simp only [h, if_false, run_sl, run_ret]
end Go.Proofs.Try
end
section
namespace Go.Proofs.Try
open Go.AM
structure OkW (w : Wk) : Prop where
 pot : 0 ≤ w.1 ∧ w.1 ≤ 1000000000
 scale : 0 ≤ w.2.1 ∧ w.2.1 ≤ 1000
 lab : 0 ≤ w.2.2.1 ∧ w.2.2.1 ≤ 1000
 some : 0 < w.2.2.2.1.length
 many : w.2.2.2.1.length ≤ 12
 cap : ∀ f ∈ w.2.2.2.1, 0 ≤ f.2 ∧ f.2 ≤ 1000000000
 name : ∀ f ∈ w.2.2.2.1, nameOk f.1 = true
 twice : (w.2.2.2.1.map (·.1)).Nodup
 wagons : w.2.2.2.2.length ≤ 50
 wagon : ∀ x ∈ w.2.2.2.2, 0 ≤ x.1 ∧ x.1 < w.2.2.2.1.length ∧ 0 ≤ x.2.2.1 ∧ x.2.2.1 ≤ x.2.1 ∧ x.2.1 ≤ 100000 ∧ 0 ≤ x.2.2.2 ∧ x.2.2.2 ≤ 1000
theorem chkF_ok : ∀ {fs : List (ByteArray × Int)} {seen : List ByteArray}, chkF seen fs = 0 → (∀ f ∈ fs, nameOk f.1 = true ∧ f.1 ∉ seen ∧ 0 ≤ f.2 ∧ f.2 ≤ 1000000000) ∧ (fs.map (·.1)).Nodup
 | [], _, _ => by simp
 | f :: r, seen, h => by
  simp only [chkF] at h
  split at h; · omega
  split at h; · omega
  split at h; · omega
  rename_i h1 h2 h3
  rw [memS_iff] at h2
  obtain ⟨q1, q2⟩ := chkF_ok h
  refine ⟨fun g hg => ?_, ?_⟩
  ·rcases List.mem_cons.1 hg with rfl | hg
   ·exact ⟨by simpa using h1, h2, by omega, by omega⟩
   ·obtain ⟨a, b, c⟩ := q1 g hg
    exact ⟨a, fun e => b (by simp [e]), c⟩
  ·rw [List.map_cons, List.nodup_cons]
   refine ⟨fun hm => ?_, q2⟩
   obtain ⟨g, hg, e⟩ := List.mem_map.1 hm
   exact (q1 g hg).2.1 (by simp [e])
theorem chkW_ok {n : Int} : ∀ {ws : List (Int × Int × Int × Int)}, chkW n ws = 0 → ∀ x ∈ ws, 0 ≤ x.1 ∧ x.1 < n ∧ 0 ≤ x.2.2.1 ∧ x.2.2.1 ≤ x.2.1 ∧ x.2.1 ≤ 100000 ∧ 0 ≤ x.2.2.2 ∧ x.2.2.2 ≤ 1000
 | [], _ => by simp
 | x :: r, h => by
  simp only [chkW] at h
  split at h; · omega
  split at h; · omega
  split at h; · omega
  split at h; · omega
  intro y hy
  rcases List.mem_cons.1 hy with rfl | hy
  ·omega
  ·exact chkW_ok h y hy
theorem chk_ok {w : Wk} (h : chk w = 0) : OkW w := by
 unfold chk at h
 split at h; · contradiction
 split at h; · contradiction
 rename_i h0 h1
 have h0 : chk0 w = 0 := by simpa using h0
 have h1 : chk1 w = 0 := by simpa using h1
 unfold chk0 at h0
 split at h0; · omega
 split at h0; · omega
 split at h0; · omega
 unfold chk1 at h1
 split at h1; · omega
 split at h1; · omega
 unfold chk2 at h
 split at h; · omega
 obtain ⟨q1, q2⟩ := chkF_ok h1
 exact ⟨by omega, by omega, by omega, by omega, by omega, fun f hf => (q1 f hf).2.2, fun f hf => (q1 f hf).1, q2, by omega, chkW_ok h⟩
/-- Sums of wagons, for each farmer. -/
def upd (h : Int × Int × Int × Int → Int) (l : List Int) (x : Int × Int × Int × Int) : List Int := l.set x.1.toNat (l.getD x.1.toNat 0 + h x)
def sugarL (h : Int × Int × Int × Int → Int) (n : Nat) (ws : List (Int × Int × Int × Int)) : List Int := ws.foldl (upd h) (List.replicate n 0)
theorem upd_len (h : Int × Int × Int × Int → Int) (l : List Int) (x : Int × Int × Int × Int) : (upd h l x).length = l.length := by simp [upd]
theorem foldl_upd_len (h : Int × Int × Int × Int → Int) : ∀ (ws : List (Int × Int × Int × Int)) (l : List Int), (ws.foldl (upd h) l).length = l.length
 | [], _ => rfl
 | x :: ws, l => by rw [List.foldl_cons, foldl_upd_len h ws, upd_len]
theorem sugarL_len (h : Int × Int × Int × Int → Int) (n : Nat) (ws : List (Int × Int × Int × Int)) : (sugarL h n ws).length = n := by
 rw [sugarL, foldl_upd_len, List.length_replicate]
/-- All are from 0 to b. -/
def Bd (b : Int) (l : List Int) : Prop := ∀ y ∈ l, 0 ≤ y ∧ y ≤ b
theorem Bd.getD {b : Int} {l : List Int} (h : Bd b l) (hb : 0 ≤ b) (k : Nat) : 0 ≤ l.getD k 0 ∧ l.getD k 0 ≤ b := by
 rw [List.getD_eq_getElem?_getD]
 by_cases hk : k < l.length
 ·rw [List.getElem?_eq_getElem hk]; exact h _ (List.getElem_mem hk)
 ·rw [List.getElem?_eq_none (by omega)]; simpa using hb
theorem Bd.mono {b c : Int} {l : List Int} (h : Bd b l) (hb : b ≤ c) : Bd c l := fun y hy => ⟨(h y hy).1, by have := (h y hy).2; omega⟩
theorem Bd.upd {b K : Int} {h : Int × Int × Int × Int → Int} {l : List Int} {x : Int × Int × Int × Int} (hl : Bd b l) (hb : 0 ≤ b) (hx : 0 ≤ h x ∧ h x ≤ K) : Bd (b + K) (upd h l x) := by
 intro y hy
 rcases List.mem_or_eq_of_mem_set hy with hy | hy
 ·have := hl y hy; omega
 ·have := hl.getD hb x.1.toNat; omega
theorem Bd.foldl {K : Int} {h : Int × Int × Int × Int → Int} : ∀ {ws : List (Int × Int × Int × Int)} {l : List Int} {b : Int}, Bd b l → 0 ≤ b → (∀ x ∈ ws, 0 ≤ h x ∧ h x ≤ K) → Bd (b + K * ws.length) (ws.foldl (Try.upd h) l)
 | [], l, b, hl, _, _ => by simpa using hl
 | x :: ws, l, b, hl, hb, hh => by
  have h1 := hh x (List.mem_cons_self ..)
  have := Bd.foldl (ws := ws) (Bd.upd hl hb h1) (by omega) (fun y hy => hh y (List.mem_cons_of_mem _ hy))
  rw [List.foldl_cons, List.length_cons]
  have e : b + K + K * (ws.length : Int) = b + K * ((ws.length + 1 : Nat) : Int) := by rw [Int.natCast_add, Int.mul_add]; omega
  rw [e] at this; exact this
theorem sugarL_bd {K : Int} {h : Int × Int × Int × Int → Int} {n : Nat} {ws : List (Int × Int × Int × Int)} (hh : ∀ x ∈ ws, 0 ≤ h x ∧ h x ≤ K) : Bd (K * ws.length) (sugarL h n ws) := by
 have := Bd.foldl (l := List.replicate n 0) (b := 0) (fun y hy => by simp at hy; omega) (by omega) hh
 simpa [sugarL] using this
/-- What a wagon brings: read; the least, the most. -/
def hRead (x : Int × Int × Int × Int) : Int := (x.2.1 - x.2.2.1) * x.2.2.2
def hLeast (w : Wk) (x : Int × Int × Int × Int) : Int := max 0 (x.2.1 - x.2.2.1 - 2 * w.2.1) * max 0 (x.2.2.2 - w.2.2.1)
def hMost (w : Wk) (x : Int × Int × Int × Int) : Int := (x.2.1 - x.2.2.1 + 2 * w.2.1) * min 1000 (x.2.2.2 + w.2.2.1)
def sRead (w : Wk) : List Int := sugarL hRead w.2.2.2.1.length w.2.2.2.2
def sLeast (w : Wk) : List Int := sugarL (hLeast w) w.2.2.2.1.length w.2.2.2.2
def sMost (w : Wk) : List Int := sugarL (hMost w) w.2.2.2.1.length w.2.2.2.2
theorem mul_bd {a b A B : Int} (h1 : 0 ≤ a) (h2 : a ≤ A) (h3 : 0 ≤ b) (h4 : b ≤ B) : 0 ≤ a * b ∧ a * b ≤ A * B :=
 ⟨Int.mul_nonneg h1 h3, Int.le_trans (Int.mul_le_mul_of_nonneg_right h2 h3) (Int.mul_le_mul_of_nonneg_left h4 (by omega))⟩
variable {w : Wk}
theorem OkW.hRead (h : OkW w) : ∀ x ∈ w.2.2.2.2, 0 ≤ hRead x ∧ hRead x ≤ 100000000 := fun x hx => by
 have := h.wagon x hx
 exact mul_bd (A := 100000) (B := 1000) (by omega) (by omega) (by omega) (by omega)
theorem OkW.hLeast (h : OkW w) : ∀ x ∈ w.2.2.2.2, 0 ≤ hLeast w x ∧ hLeast w x ≤ 100000000 := fun x hx => by
 have := h.wagon x hx
 have := h.scale; have := h.lab
 exact mul_bd (A := 100000) (B := 1000) (by omega) (by omega) (by omega) (by omega)
theorem OkW.hMost (h : OkW w) : ∀ x ∈ w.2.2.2.2, 0 ≤ hMost w x ∧ hMost w x ≤ 102000000 := fun x hx => by
 have := h.wagon x hx
 have := h.scale; have := h.lab
 exact mul_bd (A := 102000) (B := 1000) (by omega) (by omega) (by omega) (by omega)
end Go.Proofs.Try
end
section
namespace Go.Proofs.Try
open Go.AM
set_option maxRecDepth 100000
theorem imax_eq (a b : Int) : imax a b = max a b := by simp only [imax]; split <;> omega
theorem imin_eq (a b : Int) : imin a b = min a b := by simp only [imin]; split <;> omega
theorem k44 {a b : Int} (h : -9223372036854775808 ≤ a * b ∧ a * b ≤ 9223372036854775807) : run0 (F44 a b) = some (a * b, ()) := by
 simp only [F44, run_ni, run_ret]
 rw [need_i64 h.1 h.2]
theorem iter_sugar {A B : Type} {f : A → Option (A ⊕ B)} {h : Int × Int × Int × Int → Int} {K : Int} {n : Nat} {ws : List (Int × Int × Int × Int)} (mk : Nat → List Int → A) (out : List Int → B) (hb : ∀ x ∈ ws, 0 ≤ h x ∧ h x ≤ K)
  (hs : ∀ pre x post l, ws = pre ++ x :: post → l.length = n → Bd (K * pre.length) l → f (mk pre.length l) = some (.inl (mk (pre.length + 1) (upd h l x))))
  (he : ∀ l, f (mk ws.length l) = some (.inr (out l))) : iter f (mk 0 (List.replicate n 0)) = some (out (sugarL h n ws)) := by
 refine iter_list ws mk (fun l r => out (r.foldl (upd h) l)) (fun pre l => l.length = n ∧ Bd (K * pre.length) l) ?_ ?_ (s := List.replicate n 0) ⟨by simp, fun y hy => by simp at hy; simp; omega⟩
 ·rintro pre x post l hx ⟨h1, h2⟩
  left
  refine ⟨upd h l x, hs pre x post l hx h1 h2, ⟨by rw [upd_len, h1], ?_⟩, rfl⟩
  have hxx := hb x (by rw [hx]; simp)
  have := Bd.upd (h := h) (x := x) h2 (by
   have : 0 ≤ K := by omega
   exact Int.mul_nonneg this (by omega)) hxx
  have e : K * (pre.length : Int) + K = K * ((pre ++ [x]).length : Int) := by rw [List.length_append, List.length_cons, List.length_nil, Int.natCast_add, Int.mul_add]; omega
  rw [← e]; exact this
 ·rintro l _; exact he l
theorem small_mul {K : Int} {n : Nat} (h0 : 0 ≤ K) (hK : K ≤ 1000000000) (hn : n ≤ 100) : 0 ≤ K * (n : Int) ∧ K * (n : Int) ≤ 100000000000 := by
 have := mul_bd (a := K) (b := (n : Int)) (A := 1000000000) (B := 100) h0 hK (by omega) (by omega)
 omega
section
variable {w : Wk} (hw : OkW w)
include hw
theorem k41 : run0 (F41 w) = some (sRead w, ()) := by
 have hm := hw.many; have hwg := hw.wagons
 simp only [F41, run_nb, run_nd, run_bd, run_it, run_ret, Int.toNat_natCast]
 rw [need_inbig (by omega) (by omega)]
 refine bind_eq (iter_sugar (h := hRead) (K := 100000000) (n := w.2.2.2.1.length) (ws := w.2.2.2.2) (fun k l => (w.2.2.2.1.length, w.2.2.2.2, ((w.2.2.2.2.length : Nat) : Int), (k : Int), l, ())) (fun l => (w.2.2.2.1.length, l, ())) hw.hRead ?_ ?_) ?_
 ·intro pre x post l hx hl hb
  have hlen : w.2.2.2.2.length = pre.length + (post.length + 1) := by rw [hx]; simp
  have hd : w.2.2.2.2.getD pre.length ((0 : Int), ((0 : Int), ((0 : Int), (0 : Int)))) = x := by rw [hx]; exact getD_mid rfl
  have hxm : x ∈ w.2.2.2.2 := by rw [hx]; simp
  have hx1 := hw.wagon x hxm; have hx2 := hw.hRead x hxm
  have hsm := small_mul (K := 100000000) (n := pre.length) (by omega) (by omega) (by omega)
  have hg := hb.getD hsm.1 x.1.toNat
  have hin : inb (pre.length : Int) ((w.2.2.2.2.length : Nat) : Int) = true := inb_t (by omega) (by omega)
  have hin2 : inb x.1 ((w.2.2.2.1.length : Nat) : Int) = true := inb_t (by omega) (by omega)
  have hlt : decide (0 + x.1.toNat < l.length) = true := decide_eq_true (by omega)
  simp only [g41_0, run_br, run_nb, run_ni, run_nd, run_bd, run_ret, Int.toNat_natCast, hd, br_d, hin, hin2, hlt, need_true]
  rw [if_pos (by omega), need_i64 (by omega) (by omega)]
  simp only [k44 (a := x.2.1 - x.2.2.1) (b := x.2.2.2) (by unfold hRead at hx2; omega), bindO_s, Nat.zero_add]
  unfold hRead at hx2
  rw [need_i64 (by omega) (by omega), need_i64 (by omega) (by omega)]
  rfl
 ·intro l
  simp only [g41_0, run_br, br_d]
  rw [if_neg (by omega)]
  rfl
 ·simp only [List.drop_zero]
  rw [List.take_of_length_le (by rw [sugarL_len]; exact Nat.le_refl _)]
  rfl
end
end Go.Proofs.Try
end
section
namespace Go.Proofs.Try
open Go.AM
set_option maxRecDepth 100000
theorem zip_set {A B : Type} : ∀ (a : List A) (b : List B) (i : Nat) (x : A) (y : B), (a.zip b).set i (x, y) = (a.set i x).zip (b.set i y)
 | [], _, _, _, _ => by simp
 | _ :: _, [], _, _, _ => by cases ‹Nat› <;> simp
 | p :: a, q :: b, 0, x, y => by simp
 | p :: a, q :: b, i + 1, x, y => by simp [zip_set a b i x y]
theorem zip_getD {A B : Type} {a : List A} {b : List B} {i : Nat} {x : A} {y : B} (h1 : i < a.length) (h2 : i < b.length) : (a.zip b).getD i (x, y) = (a.getD i x, b.getD i y) := by
 simp only [List.getD_eq_getElem?_getD]
 rw [List.getElem?_eq_getElem h1, List.getElem?_eq_getElem h2, List.getElem?_eq_getElem (by rw [List.length_zip]; omega), List.getElem_zip]
 rfl
theorem getD_set_self {A : Type} {l : List A} {i : Nat} {x d : A} (h : i < l.length) : (l.set i x).getD i d = x := by
 simp [List.getD_eq_getElem?_getD, h]
/-- Small enough to be reckoned. -/
structure Sm (w : Wk) : Prop where
 fl : w.2.2.2.1.length ≤ 30
 wl : w.2.2.2.2.length ≤ 100
 nl : ∀ f ∈ w.2.2.2.1, f.1.size ≤ 100
theorem Sm.names {w : Wk} (h : Sm w) : Names w := fun f hf => by have := h.nl f hf; omega
theorem k15 (w : Wk) : ∃ b, run0 (F15 w) = some (b, ()) ∧ (b = false → Sm w) := by
 simp only [F15, run_br, run_bd, run_it, run_ret, br_d]
 by_cases h1 : 30 < w.2.2.2.1.length
 ·rw [if_pos (by omega)]; exact ⟨true, rfl, by simp⟩
 rw [if_neg (by omega)]
 by_cases h2 : 100 < w.2.2.2.2.length
 ·rw [if_pos (by omega)]; exact ⟨true, rfl, by simp⟩
 rw [if_neg (by omega)]
 have key := iter_list (f := fun a => run (fun _ => none) (g15_0 a)) w.2.2.2.1 (fun k (_ : Unit) => ((k : Int), w.1, w.2.1, w.2.2.1, w.2.2.2.1, w.2.2.2.2, ())) (fun _ r => if r.all (fun f => decide (f.1.size ≤ 100)) = true then .inr () else .inl ()) (fun _ _ => True) (by
  rintro pre x post _ hx -
  have hlen : w.2.2.2.1.length = pre.length + (post.length + 1) := by rw [hx]; simp
  have hd : w.2.2.2.1.getD pre.length (bs [], (0 : Int)) = x := by rw [hx]; exact getD_mid rfl
  have hin : inb (pre.length : Int) ((w.2.2.2.1.length : Nat) : Int) = true := inb_t (by omega) (by omega)
  have hni : rng .i64 ((pre.length : Int) + 1) = true := rng_i64 (by omega) (by omega)
  simp only [g15_0, run_br, run_nb, run_ni, run_nd, run_ret, Int.toNat_natCast, hd, br_d, hin, hni, need_true]
  rw [if_pos (by omega)]
  by_cases hs : 100 < x.1.size
  ·right
   rw [if_pos (by omega)]
   have : decide (x.1.size ≤ 100) = false := decide_eq_false (by omega)
   simp [this]
  ·left
   refine ⟨(), ?_⟩
   have : decide (x.1.size ≤ 100) = true := decide_eq_true (by omega)
   rw [if_neg (by omega)]
   simp only [List.all_cons, this, Bool.true_and]
   simp) (by
  rintro _ _
  simp only [g15_0, run_br, br_d]
  rw [if_neg (by omega)]
  simp [run_ret]) (s := ()) trivial
 by_cases hall : w.2.2.2.1.all (fun f => decide (f.1.size ≤ 100)) = true
 ·refine ⟨false, bind_eq key (by rw [if_pos hall]; rfl), fun _ => ⟨by omega, by omega, fun f hf => ?_⟩⟩
  simpa using List.all_eq_true.1 hall f hf
 ·exact ⟨true, bind_eq key (by rw [if_neg hall]; rfl), by simp⟩
theorem k19 (w : Wk) (h : Sm w) : run0 (F19 w) = some (w, ()) := by
 have h1 := h.fl; have h2 := h.wl
 simp only [F19, run_bd, run_it, run_ret]
 refine bind_eq (iter_list w.2.2.2.1 (fun k (l : List (ByteArray × Int)) => ((k : Int), w.1, w.2.1, w.2.2.1, w.2.2.2.1, w.2.2.2.2, (0 : Int), (0 : Int), (0 : Int), w.1, w.2.1, w.2.2.1, l.length, l, ())) (fun l r => (w.1, w.2.1, w.2.2.1, w.2.2.2.1, w.2.2.2.2, (0 : Int), (0 : Int), (0 : Int), w.1, w.2.1, w.2.2.1, (l ++ r).length, l ++ r, ())) (fun pre l => l = pre) ?_ ?_ (s := []) rfl) ?_
 ·rintro pre x post l hx rfl
  left
  have hlen : w.2.2.2.1.length = l.length + (post.length + 1) := by rw [hx]; simp
  have hd : w.2.2.2.1.getD l.length (bs [], (0 : Int)) = x := by rw [hx]; exact getD_mid rfl
  have hin : inb (l.length : Int) ((w.2.2.2.1.length : Nat) : Int) = true := inb_t (by omega) (by omega)
  have hni : rng .i64 ((l.length : Int) + 1) = true := rng_i64 (by omega) (by omega)
  refine ⟨l ++ [x], ?_, rfl, by simp⟩
  simp only [g19_0, run_br, run_nb, run_ni, run_nd, run_ret, Int.toNat_natCast, hd, br_d, hin, hni, need_true, List.drop_zero, List.take_length, List.take_succ_cons, List.take_zero, List.length_cons, List.length_nil, Nat.zero_add]
  rw [if_pos (by omega), need_lenbig (by omega)]
  simp
 ·rintro l rfl
  simp only [g19_0, run_br, br_d]
  rw [if_neg (by omega)]
  simp [run_ret]
 simp only [List.nil_append]
 refine bind_eq (iter_list w.2.2.2.2 (fun k (l : List (Int × Int × Int × Int)) => ((k : Int), w.1, w.2.1, w.2.2.1, w.2.2.2.1, w.2.2.2.2, (0 : Int), (0 : Int), (0 : Int), w.1, w.2.1, w.2.2.1, w.2.2.2.1.length, l.length, w.2.2.2.1, l, ())) (fun l r => ((0 : Int), (0 : Int), (0 : Int), w.1, w.2.1, w.2.2.1, w.2.2.2.1.length, (l ++ r).length, w.2.2.2.1, l ++ r, ())) (fun pre l => l = pre) ?_ ?_ (s := []) rfl) ?_
 ·rintro pre x post l hx rfl
  left
  have hlen : w.2.2.2.2.length = l.length + (post.length + 1) := by rw [hx]; simp
  have hd : w.2.2.2.2.getD l.length ((0 : Int), ((0 : Int), ((0 : Int), (0 : Int)))) = x := by rw [hx]; exact getD_mid rfl
  have hin : inb (l.length : Int) ((w.2.2.2.2.length : Nat) : Int) = true := inb_t (by omega) (by omega)
  have hni : rng .i64 ((l.length : Int) + 1) = true := rng_i64 (by omega) (by omega)
  refine ⟨l ++ [x], ?_, rfl, by simp⟩
  simp only [g19_1, run_br, run_nb, run_ni, run_nd, run_ret, Int.toNat_natCast, hd, br_d, hin, hni, need_true, List.drop_zero, List.take_length, List.take_succ_cons, List.take_zero, List.length_cons, List.length_nil, Nat.zero_add]
  rw [if_pos (by omega), need_lenbig (by omega)]
  simp
 ·rintro l rfl
  simp only [g19_1, run_br, br_d]
  rw [if_neg (by omega)]
  simp [run_ret]
 ·simp
end Go.Proofs.Try
end
section
namespace Go.Proofs.Try
open Go.AM
set_option maxRecDepth 100000
theorem zip_at {A B : Type} {d : A} {e : B} {x : A × B} {post : List (A × B)} : ∀ {pre : List (A × B)} {a : List A} {b : List B}, a.zip b = pre ++ x :: post → a.getD pre.length d = x.1 ∧ b.getD pre.length e = x.2
 | [], [], _, h => by simp at h
 | [], _ :: _, [], h => by simp at h
 | [], p :: a, q :: b, h => by simp at h; simp [← h.1]
 | _ :: _, [], _, h => by simp at h
 | _ :: _, _ :: _, [], h => by simp at h
 | y :: pre, p :: a, q :: b, h => by
  simp only [List.zip_cons_cons, List.cons_append, List.cons.injEq] at h
  have := zip_at (d := d) (e := e) h.2
  simpa using this
/-- What is said of sugar. -/
noncomputable def sugar (w : Wk) : List Int × List (Int × Int) × Int × Unit := if chk w = 0 then (sRead w, (sLeast w).zip (sMost w), 0, ()) else ([], [], chk w, ())
theorem k45 {w : Wk} (hw : OkW w) : run0 (F45 w) = some (sRead w, (sLeast w).zip (sMost w), ()) := by
 have hm := hw.many; have hwg := hw.wagons
 simp only [F45, run_nb, run_nd, run_bd, run_it, run_ret, Int.toNat_natCast]
 rw [need_inbig (by omega) (by omega), need_inbig (by omega) (by omega)]
 have hrep : List.replicate w.2.2.2.1.length ((0 : Int), (0 : Int)) = (List.replicate w.2.2.2.1.length (0 : Int)).zip (List.replicate w.2.2.2.1.length (0 : Int)) := by
  rw [List.zip_replicate']
 rw [hrep]
 refine bind_eq (iter_list w.2.2.2.2 (fun k (s : List Int × List Int × List Int) => (w.2.2.2.1.length, w.2.2.2.1.length, (k : Int), w.1, w.2.1, w.2.2.1, w.2.2.2.1, w.2.2.2.2, s.1, s.2.1.zip s.2.2, ()))
  (fun s r => (w.2.2.2.1.length, w.2.2.2.1.length, r.foldl (upd hRead) s.1, (r.foldl (upd (hLeast w)) s.2.1).zip (r.foldl (upd (hMost w)) s.2.2), ()))
  (fun pre s => (s.1.length = w.2.2.2.1.length ∧ Bd (102000000 * pre.length) s.1) ∧ (s.2.1.length = w.2.2.2.1.length ∧ Bd (102000000 * pre.length) s.2.1) ∧ (s.2.2.length = w.2.2.2.1.length ∧ Bd (102000000 * pre.length) s.2.2)) ?_ ?_
  (s := (List.replicate w.2.2.2.1.length 0, List.replicate w.2.2.2.1.length 0, List.replicate w.2.2.2.1.length 0)) ?_) ?_
 ·rintro pre x post ⟨a, b, c⟩ hx ⟨⟨a1, a2⟩, ⟨b1, b2⟩, ⟨c1, c2⟩⟩
  simp only at a1 a2 b1 b2 c1 c2
  left
  have hlen : w.2.2.2.2.length = pre.length + (post.length + 1) := by rw [hx]; simp
  have hd : w.2.2.2.2.getD pre.length ((0 : Int), ((0 : Int), ((0 : Int), (0 : Int)))) = x := by rw [hx]; exact getD_mid rfl
  have hxm : x ∈ w.2.2.2.2 := by rw [hx]; simp
  have hx1 := hw.wagon x hxm
  have q1 := hw.hRead x hxm; have q2 := hw.hLeast x hxm; have q3 := hw.hMost x hxm
  have hsc := hw.scale; have hlb := hw.lab
  have hsm := small_mul (K := 102000000) (n := pre.length) (by omega) (by omega) (by omega)
  have g1 := a2.getD hsm.1 x.1.toNat
  have g2 := b2.getD hsm.1 x.1.toNat
  have g3 := c2.getD hsm.1 x.1.toNat
  have hin : inb (pre.length : Int) ((w.2.2.2.2.length : Nat) : Int) = true := inb_t (by omega) (by omega)
  have hin2 : inb x.1 ((w.2.2.2.1.length : Nat) : Int) = true := inb_t (by omega) (by omega)
  have hk : x.1.toNat < w.2.2.2.1.length := by omega
  have hzl : (b.zip c).length = w.2.2.2.1.length := by rw [List.length_zip, b1, c1]; omega
  have e1 : decide (x.1.toNat < a.length) = true := decide_eq_true (by omega)
  have e2 : decide (x.1.toNat < (b.zip c).length) = true := decide_eq_true (by omega)
  have hz : (b.zip c).getD x.1.toNat ((0 : Int), (0 : Int)) = (b.getD x.1.toNat 0, c.getD x.1.toNat 0) := zip_getD (by omega) (by omega)
  have hs (v : Int × Int) : ((b.zip c).set x.1.toNat v).getD x.1.toNat ((0 : Int), (0 : Int)) = v := getD_set_self (by omega)
  refine ⟨(upd hRead a x, upd (hLeast w) b x, upd (hMost w) c x), ?_, ?_, rfl⟩
  ·simp only [g45_0, run_br, run_nb, run_ni, run_nd, run_ret, Int.toNat_natCast, hd, br_d, hin, hin2, need_true, Nat.zero_add, e1, e2, hz, hs, List.length_set, List.set_set, imax_eq, imin_eq]
   unfold hRead at q1; unfold hLeast at q2; unfold hMost at q3
   rw [if_pos (by omega)]
   simp (disch := omega) only [need_i64]
   simp only [zip_set]
   rfl
  ·refine ⟨⟨by rw [upd_len]; exact a1, ?_⟩, ⟨by rw [upd_len]; exact b1, ?_⟩, ⟨by rw [upd_len]; exact c1, ?_⟩⟩
   all_goals
    have e : (102000000 : Int) * ((pre ++ [x]).length : Int) = 102000000 * (pre.length : Int) + 102000000 := by rw [List.length_append, List.length_cons, List.length_nil]; omega
    rw [e]
   ·exact Bd.upd a2 hsm.1 ⟨q1.1, by omega⟩
   ·exact Bd.upd b2 hsm.1 ⟨q2.1, by omega⟩
   ·exact Bd.upd c2 hsm.1 q3
 ·rintro s _
  simp only [g45_0, run_br, br_d]
  rw [if_neg (by omega)]
  rfl
 ·refine ⟨⟨by simp, ?_⟩, ⟨by simp, ?_⟩, ⟨by simp, ?_⟩⟩ <;> (intro y hy; simp at hy; simp; omega)
 ·simp only [List.drop_zero]
  have hl2 : ((w.2.2.2.2.foldl (upd (hLeast w)) (List.replicate w.2.2.2.1.length 0)).zip (w.2.2.2.2.foldl (upd (hMost w)) (List.replicate w.2.2.2.1.length 0))).length ≤ w.2.2.2.1.length := by
   rw [List.length_zip, foldl_upd_len, foldl_upd_len, List.length_replicate]; omega
  rw [List.take_of_length_le (by rw [foldl_upd_len, List.length_replicate]; exact Nat.le_refl _), List.take_of_length_le hl2]
  rfl
end Go.Proofs.Try
end
section
namespace Go.Proofs.Try
open Go.AM
set_option maxRecDepth 100000
abbrev Cl := (ByteArray × Int) × Int × Int
def pr (c : Cl) : Int × Int := (c.1.2, c.2.2)
structure GoodC (c : Cl) : Prop where
 c0 : 0 ≤ c.1.2
 c1 : c.1.2 ≤ 1000000000
 s0 : 0 ≤ c.2.2
 s1 : c.2.2 ≤ 6000000000
theorem pr_eta {A B : Type} (p : A × B) : (p.1, p.2) = p := rfl
theorem GoodC.mul {a b : Cl} (ha : GoodC a) (hb : GoodC b) : 0 ≤ a.1.2 * b.2.2 ∧ a.1.2 * b.2.2 ≤ 9000000000000000000 := by
 have := mul_bd ha.c0 ha.c1 hb.s0 hb.s1
 omega
def ltL (x y : Cl) : Bool := decide (x.1.2 * y.2.2 < y.1.2 * x.2.2)
end Go.Proofs.Try
end
section
namespace Go.Proofs.Try
open Go.AM Go.Pay
set_option maxRecDepth 100000
def kept (l : List Cl) : List Cl := l.filter fun c => decide (c.2.2 ≠ 0)
end Go.Proofs.Try
end
section
namespace Go.Proofs.Try
open Go.AM Go.Pay
set_option maxRecDepth 100000
abbrev sugC (l : List Cl) : Int := sug (l.map pr)
end Go.Proofs.Try
end
section
namespace Go.Proofs.Try
open Go.AM Go.Pay
set_option maxRecDepth 100000
/-- Claims that can be reckoned with. -/
structure OkC (l : List Cl) : Prop where
 good : ∀ c ∈ l, GoodC c
 all : sugC l ≤ 6000000000
 many : l.length ≤ 12
/-- Those who have sugar, in order. -/
def byLim (l : List Cl) : List Cl := isort ltL (kept l)
abbrev cd0 : Cl := (((bs []), (0 : Int)), ((0 : Int), (0 : Int)))
variable {l : List Cl}
/-- The level of claims. -/
def level (l : List Cl) (paid : Int) : Int × Int := payLv ((byLim l).map pr) paid (sugC l) (0, 1)
end Go.Proofs.Try
end
section
namespace Go.Proofs.Try
open Go.AM Go.Pay
set_option maxRecDepth 100000
/-- Caps and sugar. -/
def prs (w : Wk) (s : List Int) : List (Int × Int) := (w.2.2.2.1.zip s).map fun x => (x.1.2, x.2)
def clmL : Nat → List ((ByteArray × Int) × Int) → List Cl
 | _, [] => []
 | k, x :: r => (x.1, (k : Int), x.2) :: clmL (k + 1) r
def clm (w : Wk) (s : List Int) : List Cl := clmL 0 (w.2.2.2.1.zip s)
theorem clmL_len : ∀ (k : Nat) (l : List ((ByteArray × Int) × Int)), (clmL k l).length = l.length
 | _, [] => rfl
 | k, x :: r => by simp [clmL, clmL_len (k + 1) r]
def paidOf (w : Wk) (s : List Int) : Int := min (capS (prs w s)) w.1
/-- Sugar that can be reckoned with. -/
structure OkS (w : Wk) (s : List Int) : Prop where
 len : s.length = w.2.2.2.1.length
 nn : ∀ x ∈ s, 0 ≤ x
 all : s.sum ≤ 6000000000
theorem OkS.each {w : Wk} {s : List Int} (h : OkS w s) : ∀ x ∈ s, x ≤ 6000000000 := by
 have key : ∀ s : List Int, (∀ x ∈ s, 0 ≤ x) → 0 ≤ s.sum ∧ ∀ x ∈ s, x ≤ s.sum := by
  intro s
  induction s with
  | nil => simp
  | cons y s ih =>
   intro h
   obtain ⟨h1, h2⟩ := ih fun x hx => h x (List.mem_cons_of_mem _ hx)
   have := h y (List.mem_cons_self ..)
   rw [List.sum_cons]
   refine ⟨by omega, fun x hx => ?_⟩
   rcases List.mem_cons.1 hx with rfl | hx
   ·omega
   ·have := h2 x hx; omega
 intro x hx
 have := (key s h.nn).2 x hx
 have := h.all; omega
section
variable {w : Wk} {s : List Int} (hw : OkW w) (hs : OkS w s)
include hw hs
theorem zs_good {x : (ByteArray × Int) × Int} (hx : x ∈ w.2.2.2.1.zip s) : 0 ≤ x.1.2 ∧ x.1.2 ≤ 1000000000 ∧ 0 ≤ x.2 ∧ x.2 ≤ 6000000000 := by
 have h1 := List.of_mem_zip hx
 exact ⟨(hw.cap _ h1.1).1, (hw.cap _ h1.1).2, hs.nn _ h1.2, hs.each _ h1.2⟩
theorem zs_len : (w.2.2.2.1.zip s).length = w.2.2.2.1.length := by rw [List.length_zip, hs.len]; omega
theorem capS_bd : ∀ {l : List ((ByteArray × Int) × Int)}, (∀ x ∈ l, x ∈ w.2.2.2.1.zip s) → 0 ≤ capS (l.map fun x => (x.1.2, x.2)) ∧ capS (l.map fun x => (x.1.2, x.2)) ≤ 1000000000 * l.length
 | [], _ => by simp [capS]
 | x :: l, h => by
  have h1 := zs_good hw hs (h x (List.mem_cons_self ..))
  have h2 := capS_bd (l := l) fun y hy => h y (List.mem_cons_of_mem _ hy)
  rw [List.map_cons, capS_cons, List.length_cons]
  split <;> omega
theorem paid_bd : 0 ≤ paidOf w s ∧ paidOf w s ≤ 1000000000 := by
 have h1 := capS_bd hw hs (l := w.2.2.2.1.zip s) (fun _ h => h)
 have h2 := hw.pot
 have e : capS (prs w s) = capS ((w.2.2.2.1.zip s).map fun x => (x.1.2, x.2)) := rfl
 unfold paidOf; omega
theorem clmL_snoc : ∀ (k : Nat) (l : List ((ByteArray × Int) × Int)) (x : (ByteArray × Int) × Int), clmL k (l ++ [x]) = clmL k l ++ [(x.1, ((k + l.length : Nat) : Int), x.2)] := by
 intro k l
 induction l generalizing k with
 | nil => intro x; simp [clmL]
 | cons y l ih => intro x; simp only [List.cons_append, clmL, ih (k + 1) x, List.length_cons, Nat.add_assoc, Nat.add_comm 1]
omit hw hs in
theorem capS_append (a b : List (Int × Int)) : capS (a ++ b) = capS a + capS b := by
 induction a with
 | nil => simp [capS]
 | cons c a ih => rw [List.cons_append, capS_cons, capS_cons, ih]; omega
theorem k51 : run0 (F51 w s) = some ((clm w s, paidOf w s), ()) := by
 have hm := hw.many
 have hz := zs_len hw hs
 have hsl := hs.len
 simp only [F51, run_bd, run_it, run_ret]
 refine bind_eq (iter_list (w.2.2.2.1.zip s) (fun k (t : List Cl × Int) => (s, w.2.2.2.1, ((w.2.2.2.1.length : Nat) : Int), (k : Int), w.1, w.2.1, w.2.2.1, w.2.2.2.1, w.2.2.2.2, (0 : Int), t.1.length, t.2, t.1, ()))
  (fun t r => (w.1, w.2.1, w.2.2.1, w.2.2.2.1, w.2.2.2.2, (0 : Int), (t.1 ++ clmL t.1.length r).length, t.2 + capS (r.map fun x => (x.1.2, x.2)), t.1 ++ clmL t.1.length r, ()))
  (fun pre t => t.1 = clmL 0 pre ∧ t.2 = capS (pre.map fun x => (x.1.2, x.2))) ?_ ?_ (s := ([], 0)) ⟨rfl, rfl⟩) ?_
 ·rintro pre x post ⟨l, p⟩ hx ⟨hl, hp⟩
  simp only at hl hp
  subst hl hp
  left
  have hlen : w.2.2.2.1.length = pre.length + (post.length + 1) := by rw [← hz, hx]; simp
  obtain ⟨d1, d2⟩ := zip_at (d := (bs [], (0 : Int))) (e := (0 : Int)) hx
  have i1 : inb (pre.length : Int) ((w.2.2.2.1.length : Nat) : Int) = true := inb_t (by omega) (by omega)
  have i2 : inb (pre.length : Int) ((s.length : Nat) : Int) = true := inb_t (by omega) (by omega)
  have r1 : rng .i64 ((pre.length : Int) + 1) = true := rng_i64 (by omega) (by omega)
  have hg := zs_good hw hs (x := x) (by rw [hx]; simp)
  have hcap := capS_bd hw hs (l := pre) (fun y hy => by rw [hx]; simp [hy])
  have hcl : (clmL 0 pre).length = pre.length := clmL_len ..
  refine ⟨(clmL 0 (pre ++ [x]), capS ((pre ++ [x]).map fun x => (x.1.2, x.2))), ?_, ⟨rfl, rfl⟩, ?_⟩
  ·simp only [g51_0, run_br, run_nb, run_nd, run_ni, run_ret, Int.toNat_natCast, d1, d2, i1, i2, r1, need_true, br_d, pr_eta, List.drop_zero, List.take_length, List.take_succ_cons, List.take_zero, List.length_cons, List.length_nil, Nat.zero_add, hcl]
   have e1 : clmL 0 (pre ++ [x]) = clmL 0 pre ++ [(x.1, (pre.length : Int), x.2)] := by rw [clmL_snoc hw hs]; simp
   have e3 : (clmL 0 pre).take pre.length = clmL 0 pre := List.take_of_length_le (by rw [hcl]; exact Nat.le_refl _)
   rw [if_pos (by omega), need_lenbig (by omega), e1, e3, List.map_append, capS_append]
   simp only [List.map_cons, List.map_nil, capS_cons, show capS [] = 0 from rfl]
   by_cases hc : 0 < x.2
   ·rw [if_pos hc, if_pos hc, need_i64 (by omega) (by omega)]
    simp [hcl]
   ·rw [if_neg hc, if_neg hc]
    simp [hcl]
  ·have e1 : clmL 0 (pre ++ [x]) = clmL 0 pre ++ [(x.1, (pre.length : Int), x.2)] := by rw [clmL_snoc hw hs]; simp
   have e2 : (clmL 0 (pre ++ [x])).length = pre.length + 1 := by rw [clmL_len]; simp
   simp only [e2, hcl]
   rw [e1, List.map_append, capS_append]
   simp only [List.map_cons, List.map_nil, capS_cons, show capS [] = 0 from rfl, clmL, List.append_assoc, List.cons_append, List.nil_append, Int.add_zero, Int.add_assoc]
 ·rintro ⟨l, p⟩ _
  simp only [g51_0, run_br, br_d, run_ret]
  rw [if_neg (by rw [hz]; omega)]
  simp [clmL, capS]
 ·simp only [List.nil_append, List.drop_zero, List.take_length, imin_eq, Int.zero_add]
  rfl
theorem k61 : run0 (F61 w s) = some (paidOf w s, ()) := by
 have hm := hw.many
 have hz := zs_len hw hs
 have hsl := hs.len
 simp only [F61, run_bd, run_it, run_ret]
 refine bind_eq (iter_list (w.2.2.2.1.zip s) (fun k (p : Int) => (s, p, (k : Int), w.1, w.2.1, w.2.2.1, w.2.2.2.1, w.2.2.2.2, ()))
  (fun p r => (p + capS (r.map fun x => (x.1.2, x.2)), w.1, w.2.1, w.2.2.1, w.2.2.2.1, w.2.2.2.2, ()))
  (fun pre p => p = capS (pre.map fun x => (x.1.2, x.2))) ?_ ?_ (s := 0) rfl) ?_
 ·rintro pre x post p hx rfl
  left
  have hlen : w.2.2.2.1.length = pre.length + (post.length + 1) := by rw [← hz, hx]; simp
  obtain ⟨d1, d2⟩ := zip_at (d := (bs [], (0 : Int))) (e := (0 : Int)) hx
  have i1 : inb (pre.length : Int) ((w.2.2.2.1.length : Nat) : Int) = true := inb_t (by omega) (by omega)
  have i2 : inb (pre.length : Int) ((s.length : Nat) : Int) = true := inb_t (by omega) (by omega)
  have r1 : rng .i64 ((pre.length : Int) + 1) = true := rng_i64 (by omega) (by omega)
  have hg := zs_good hw hs (x := x) (by rw [hx]; simp)
  have hcap := capS_bd hw hs (l := pre) (fun y hy => by rw [hx]; simp [hy])
  refine ⟨capS ((pre ++ [x]).map fun x => (x.1.2, x.2)), ?_, rfl, ?_⟩
  ·simp only [g61_0, run_br, run_nb, run_nd, run_ni, run_ret, Int.toNat_natCast, d1, d2, i1, i2, r1, need_true, br_d]
   rw [if_pos (by omega), List.map_append, capS_append]
   simp only [List.map_cons, List.map_nil, capS_cons, show capS [] = 0 from rfl]
   by_cases hc : 0 < x.2
   ·rw [if_pos hc, if_pos hc, need_i64 (by omega) (by omega)]
    simp
   ·rw [if_neg hc, if_neg hc]
    simp
  ·rw [List.map_append, capS_append]
   simp only [List.map_cons, List.map_nil, capS_cons, show capS [] = 0 from rfl, Int.add_zero, Int.add_assoc]
 ·rintro p _
  simp only [g61_0, run_br, br_d, run_ret]
  rw [if_neg (by rw [hz, hsl] at *; omega)]
  simp [capS]
 ·simp only [imin_eq, Int.zero_add]
  unfold paidOf
  rw [Int.min_comm]; rfl
end
end Go.Proofs.Try
end
section
namespace Go.Proofs.Try
open Go.AM Go.Pay
set_option maxRecDepth 100000
theorem k66 {f : ByteArray × Int} {s : Int} {x : Int × Int} (h1 : 0 ≤ x.1 * s ∧ x.1 * s ≤ 9000000000000000000) (h2 : 0 ≤ f.2 * x.2 ∧ f.2 * x.2 ≤ 9000000000000000000) : run0 (F66 f s x) = some (decide (f.2 * x.2 ≤ x.1 * s), ()) := by
 simp only [F66, run_ni, run_ret]
 rw [need_i64 (by omega) (by omega), need_i64 (by omega) (by omega)]
/-- A level that can be reckoned with. -/
structure OkL (x : Int × Int) : Prop where
 n0 : 0 ≤ x.1
 n1 : x.1 ≤ 1000000000
 d0 : 0 < x.2
 d1 : x.2 ≤ 6000000000
section
variable {w : Wk} {s : List Int} (hw : OkW w) (hs : OkS w s)
include hw hs
theorem zs_mul {x : (ByteArray × Int) × Int} (hx : x ∈ w.2.2.2.1.zip s) {y : Int × Int} (hy : OkL y) : (0 ≤ y.1 * x.2 ∧ y.1 * x.2 ≤ 9000000000000000000) ∧ (0 ≤ x.1.2 * y.2 ∧ x.1.2 * y.2 ≤ 9000000000000000000) := by
 have h := zs_good hw hs hx
 have m1 := mul_bd hy.n0 hy.n1 h.2.2.1 h.2.2.2
 have m2 := mul_bd h.1 h.2.1 (Int.le_of_lt hy.d0) hy.d1
 omega
omit hw hs in
omit hw hs in
end
end Go.Proofs.Try
end
section
namespace Go.Proofs.Try
open Go.AM Go.Pay
set_option maxRecDepth 100000
theorem upd_sum (h : Int × Int × Int × Int → Int) (x : Int × Int × Int × Int) : ∀ (l : List Int) (k : Nat), k < l.length → (l.set k (l.getD k 0 + h x)).sum = l.sum + h x
 | [], _, hk => by simp at hk
 | y :: l, 0, _ => by simp; omega
 | y :: l, k + 1, hk => by
  have := upd_sum h x l k (by simpa using hk)
  simp only [List.getD_cons_succ, List.set_cons_succ, List.sum_cons, this]; omega
theorem foldl_upd_sum {h : Int × Int × Int × Int → Int} {K : Int} : ∀ (ws : List (Int × Int × Int × Int)) (l : List Int), (∀ x ∈ ws, x.1.toNat < l.length) → (∀ x ∈ ws, 0 ≤ h x ∧ h x ≤ K) → (ws.foldl (upd h) l).sum ≤ l.sum + K * ws.length
 | [], l, _, _ => by simp
 | x :: ws, l, h1, h2 => by
  have := foldl_upd_sum (K := K) ws (upd h l x) (fun y hy => by rw [upd_len]; exact h1 y (List.mem_cons_of_mem _ hy)) (fun y hy => h2 y (List.mem_cons_of_mem _ hy))
  have e := upd_sum h x l x.1.toNat (h1 x (List.mem_cons_self ..))
  have hx := h2 x (List.mem_cons_self ..)
  rw [List.foldl_cons, List.length_cons]
  have e2 : K * ((ws.length + 1 : Nat) : Int) = K * (ws.length : Int) + K := by rw [Int.natCast_add, Int.mul_add]; omega
  unfold upd at this e ⊢
  omega
theorem okS_sugar {w : Wk} (hw : OkW w) {h : Int × Int × Int × Int → Int} (hh : ∀ x ∈ w.2.2.2.2, 0 ≤ h x ∧ h x ≤ 102000000) : OkS w (sugarL h w.2.2.2.1.length w.2.2.2.2) where
 len := sugarL_len ..
 nn x hx := (sugarL_bd hh x hx).1
 all := by
  have := foldl_upd_sum (K := 102000000) w.2.2.2.2 (List.replicate w.2.2.2.1.length 0) (fun x hx => by have := hw.wagon x hx; rw [List.length_replicate]; omega) hh
  have e : (List.replicate w.2.2.2.1.length (0 : Int)).sum = 0 := by
   generalize w.2.2.2.1.length = n
   induction n with
   | zero => rfl
   | succ n ih => rw [List.replicate_succ, List.sum_cons, ih]; rfl
  have hn := hw.wagons
  show (w.2.2.2.2.foldl (upd h) (List.replicate w.2.2.2.1.length 0)).sum ≤ 6000000000
  omega
theorem okS_read {w : Wk} (hw : OkW w) : OkS w (sRead w) := okS_sugar hw fun x hx => by have := hw.hRead x hx; omega
section
variable {w : Wk} {s : List Int} (hw : OkW w) (hs : OkS w s)
include hw hs
end
end Go.Proofs.Try
end
section
namespace Go.Proofs.Try
open Go.AM Go.Pay
set_option maxRecDepth 100000
/-- What is due at a level, and what is cut off. -/
def dueOf (c : Int × Int) (x : Int × Int) : Int × Int := if c.1 * x.2 ≤ x.1 * c.2 then (c.1, 0) else (x.1 * c.2 / x.2, x.1 * c.2 % x.2)
theorem k54 {c : Cl} (hc : GoodC c) {x : Int × Int} (hx : OkL x) : run0 (F54 (c.1.1, c.1.2, c.2) x) = some ((dueOf (pr c) x).1, (dueOf (pr c) x).2, ()) := by
 have m1 := mul_bd hx.n0 hx.n1 hc.s0 hc.s1
 have m2 := mul_bd hc.c0 hc.c1 (Int.le_of_lt hx.d0) hx.d1
 simp only [F54, run_ni, run_nd, run_br, run_ret, br_d]
 rw [need_i64 (by omega) (by omega), need_i64 (by omega) (by omega)]
 unfold dueOf pr
 by_cases h : c.1.2 * x.2 ≤ x.1 * c.2.2
 ·simp only [if_pos h]
 ·simp only [if_neg h]
  have hne : (!(x.2 == 0)) = true := by have := hx.d0; simp; omega
  have e1 : Int.tdiv (x.1 * c.2.2) x.2 = x.1 * c.2.2 / x.2 := Int.tdiv_eq_ediv_of_nonneg m1.1
  have e2 : Int.tmod (x.1 * c.2.2) x.2 = x.1 * c.2.2 % x.2 := Int.tmod_eq_emod_of_nonneg m1.1
  have q1 : 0 ≤ x.1 * c.2.2 / x.2 := Int.ediv_nonneg m1.1 (Int.le_of_lt hx.d0)
  have q2 : x.1 * c.2.2 / x.2 ≤ x.1 * c.2.2 := Int.ediv_le_self _ m1.1
  rw [need_t hne, e1, e2, need_i64 (by omega) (by omega), need_t hne]
theorem k62 {f : ByteArray × Int} {s : Int} (h1 : 0 ≤ f.2) (h2 : f.2 ≤ 1000000000) (h3 : 0 ≤ s) (h4 : s ≤ 6000000000) {x : Int × Int} (hx : OkL x) : run0 (F62 f s x) = some ((dueOf (f.2, s) x).1, (dueOf (f.2, s) x).2, ()) := by
 have m1 := mul_bd hx.n0 hx.n1 h3 h4
 have m2 := mul_bd h1 h2 (Int.le_of_lt hx.d0) hx.d1
 simp only [F62, run_bd, run_ni, run_nd, run_br, run_ret]
 rw [bind_of (k66 (f := (f.1, f.2)) (x := (x.1, x.2)) (by simp only; omega) (by simp only; omega))]
 unfold dueOf
 simp only [br_d]
 by_cases h : f.2 * x.2 ≤ x.1 * s
 ·simp only [if_pos h]
 ·simp only [if_neg h]
  have hne : (!(x.2 == 0)) = true := by have := hx.d0; simp; omega
  have e1 : Int.tdiv (x.1 * s) x.2 = x.1 * s / x.2 := Int.tdiv_eq_ediv_of_nonneg m1.1
  have e2 : Int.tmod (x.1 * s) x.2 = x.1 * s % x.2 := Int.tmod_eq_emod_of_nonneg m1.1
  have q1 : 0 ≤ x.1 * s / x.2 := Int.ediv_nonneg m1.1 (Int.le_of_lt hx.d0)
  have q2 : x.1 * s / x.2 ≤ x.1 * s := Int.ediv_le_self _ m1.1
  rw [need_i64 (by omega) (by omega), need_t hne, e1, e2, need_i64 (by omega) (by omega), need_i64 (by omega) (by omega), need_t hne]
/-- No more anywhere. -/
inductive LeL : List Int → List Int → Prop
 | nil : LeL [] []
 | cons {a b : Int} {l m : List Int} (h : a ≤ b) (t : LeL l m) : LeL (a :: l) (b :: m)
theorem LeL.length {l m : List Int} (h : LeL l m) : l.length = m.length := by
 induction h with
 | nil => rfl
 | cons _ _ ih => simp [ih]
theorem LeL.refl : ∀ l : List Int, LeL l l
 | [] => .nil
 | _ :: l => .cons (Int.le_refl _) (LeL.refl l)
theorem LeL.getD {l m : List Int} (h : LeL l m) : ∀ k, l.getD k 0 ≤ m.getD k 0 := by
 induction h with
 | nil => intro k; simp
 | cons h _ ih =>
  intro k
  cases k with
  | zero => simpa using h
  | succ k => simpa using ih k
theorem LeL.set {l m : List Int} (h : LeL l m) {a b : Int} (hab : a ≤ b) : ∀ k, LeL (l.set k a) (m.set k b) := by
 induction h with
 | nil => intro k; exact .nil
 | cons h t ih =>
  intro k
  cases k with
  | zero => exact .cons hab t
  | succ k => exact .cons h (ih k)
theorem LeL.sum {l m : List Int} (h : LeL l m) : l.sum ≤ m.sum := by
 induction h with
 | nil => exact Int.le_refl _
 | cons h _ ih => rw [List.sum_cons, List.sum_cons]; omega
theorem LeL.foldl {h h' : Int × Int × Int × Int → Int} : ∀ {ws : List (Int × Int × Int × Int)}, (∀ x ∈ ws, h x ≤ h' x) → ∀ {l m : List Int}, LeL l m → LeL (ws.foldl (upd h) l) (ws.foldl (upd h') m)
 | [], _, _, _, hl => hl
 | x :: ws, hh, l, m, hl => by
  refine LeL.foldl (ws := ws) (fun y hy => hh y (List.mem_cons_of_mem _ hy)) ?_
  exact hl.set (by have := hl.getD x.1.toNat; have := hh x (List.mem_cons_self ..); omega) _
section
variable {w : Wk} (hw : OkW w)
include hw
end
theorem clmL_getD : ∀ (l : List ((ByteArray × Int) × Int)) (k i : Nat), i < l.length → (clmL k l).getD i cd0 = ((l.getD i ((bs [], 0), 0)).1, ((k + i : Nat) : Int), (l.getD i ((bs [], 0), 0)).2)
 | [], _, _, h => by simp at h
 | x :: l, k, 0, _ => by simp [clmL]
 | x :: l, k, i + 1, h => by
  have := clmL_getD l (k + 1) i (by simpa using h)
  simp only [clmL, List.getD_cons_succ, this, Nat.add_assoc, Nat.add_comm 1]
theorem clm_getD {w : Wk} {s : List Int} (hs : OkS w s) {i : Nat} (hi : i < w.2.2.2.1.length) : (clm w s).getD i cd0 = (w.2.2.2.1.getD i (bs [], 0), (i : Int), s.getD i 0) := by
 unfold clm
 rw [clmL_getD _ _ _ (by rw [List.length_zip, hs.len]; omega), zip_getD hi (by rw [hs.len]; exact hi)]
 simp
theorem dueOf_bd {c x : Int × Int} (hc : 0 ≤ c.1 ∧ c.1 ≤ 1000000000) (hs : 0 ≤ c.2 ∧ c.2 ≤ 6000000000) (hx : OkL x) : 0 ≤ (dueOf c x).1 ∧ (dueOf c x).1 ≤ c.1 ∧ 0 ≤ (dueOf c x).2 ∧ (dueOf c x).2 < 6000000000 + 1 := by
 unfold dueOf
 split
 ·simp only; omega
 ·rename_i h
  have m1 := mul_bd hx.n0 hx.n1 hs.1 hs.2
  have h0 := hx.d0
  have h1 := hx.d1
  have q1 : 0 ≤ x.1 * c.2 / x.2 := Int.ediv_nonneg m1.1 (Int.le_of_lt h0)
  have q2 : x.1 * c.2 / x.2 ≤ c.1 := by
   have : x.1 * c.2 / x.2 < c.1 := Int.ediv_lt_of_lt_mul h0 (by omega)
   omega
  have q3 := Int.emod_nonneg (x.1 * c.2) (show x.2 ≠ 0 by omega)
  have q4 := Int.emod_lt_of_pos (x.1 * c.2) h0
  simp only; omega
theorem dueOf_bd' {w : Wk} {s : List Int} (hw : OkW w) (hs : OkS w s) {t : (ByteArray × Int) × Int} (ht : t ∈ w.2.2.2.1.zip s) {x : Int × Int} (hx : OkL x) : 0 ≤ (dueOf (t.1.2, t.2) x).1 ∧ (dueOf (t.1.2, t.2) x).1 ≤ 1000000000 ∧ 0 ≤ (dueOf (t.1.2, t.2) x).2 := by
 have h := zs_good hw hs ht
 have := dueOf_bd (c := (t.1.2, t.2)) ⟨h.1, h.2.1⟩ ⟨h.2.2.1, h.2.2.2⟩ hx
 simp only at this; omega
end Go.Proofs.Try
end
section
namespace Go.Proofs.Try
open Go.AM Go.Pay
set_option maxRecDepth 100000
abbrev Tr3 := ((ByteArray × Int) × Int) × Int
def capd (x : Int × Int) (t : Tr3) : Prop := t.1.1.2 * x.2 ≤ x.1 * t.1.2
instance (x : Int × Int) (t : Tr3) : Decidable (capd x t) := inferInstanceAs (Decidable (_ ≤ _))
def fullV (x : Int × Int) : List Tr3 → Int
 | [] => 0
 | t :: r => (if capd x t then t.1.1.2 else 0) + fullV x r
def restV (x : Int × Int) : List Tr3 → Int
 | [] => 0
 | t :: r => (if capd x t then 0 else t.1.2) + restV x r
def near1 (x : Int × Int) (t : Tr3) : Bool := decide (t.2 = (dueOf (t.1.1.2, t.1.2) x).1 ∨ t.2 = (dueOf (t.1.1.2, t.1.2) x).1 + min (dueOf (t.1.1.2, t.1.2) x).2 1)
def near (x : Int × Int) (l : List Tr3) : Bool := l.all (near1 x)
def within (l : List Tr3) : Bool := l.all fun t => decide (0 ≤ t.2 ∧ t.2 ≤ t.1.1.2)
def paysum (l : List Tr3) : Int := (l.map (·.2)).sum
theorem fullV_app (x : Int × Int) (a b : List Tr3) : fullV x (a ++ b) = fullV x a + fullV x b := by
 induction a with
 | nil => simp [fullV]
 | cons c a ih => simp only [List.cons_append, fullV, ih]; omega
theorem restV_app (x : Int × Int) (a b : List Tr3) : restV x (a ++ b) = restV x a + restV x b := by
 induction a with
 | nil => simp [restV]
 | cons c a ih => simp only [List.cons_append, restV, ih]; omega
def trip (w : Wk) (s pays : List Int) : List Tr3 := (w.2.2.2.1.zip s).zip pays
/-- What is said of payments. -/
noncomputable def verify (w : Wk) (pays : List Int) (x : Int × Int) : Int :=
 if chk w ≠ 0 then chk w else if pays.length ≠ w.2.2.2.1.length then 3 else if ¬ (0 ≤ x.1 ∧ x.1 ≤ 1000000000) then 2 else if ¬ (1 ≤ x.2 ∧ x.2 ≤ 5000000000) then 2 else
  let T := trip w (sRead w) pays
  if within T = false then 10 else if paysum T ≠ paidOf w (sRead w) then 19 else
   if near x T = false then 11 else if paysum T < fullV x T then 11 else if x.1 * restV x T ≠ (paysum T - fullV x T) * x.2 then 11 else 0
section
variable {w : Wk} {s pays : List Int} (hw : OkW w) (hs : OkS w s) (hp : pays.length = w.2.2.2.1.length)
include hw hs hp
theorem trip_len : (trip w s pays).length = w.2.2.2.1.length := by
 unfold trip; rw [List.length_zip, zs_len hw hs, hp]; omega
theorem trip_at {pre post : List Tr3} {t : Tr3} (h : trip w s pays = pre ++ t :: post) : w.2.2.2.1.getD pre.length (bs [], 0) = t.1.1 ∧ s.getD pre.length 0 = t.1.2 ∧ pays.getD pre.length 0 = t.2 ∧ t.1 ∈ w.2.2.2.1.zip s ∧ w.2.2.2.1.length = pre.length + (post.length + 1) := by
 have hl := trip_len hw hs hp
 have h1 := zip_at (d := ((bs [], (0 : Int)), (0 : Int))) (e := (0 : Int)) h
 have hlen : w.2.2.2.1.length = pre.length + (post.length + 1) := by rw [← hl, h]; simp
 have h2 := h1.1
 rw [zip_getD (by omega) (by rw [hs.len]; omega)] at h2
 have hm : t ∈ trip w s pays := by rw [h]; simp
 exact ⟨by rw [← h2], by rw [← h2], h1.2, (List.of_mem_zip hm).1, hlen⟩
theorem fullV_bd {x : Int × Int} : ∀ {l : List Tr3}, (∀ t ∈ l, t.1 ∈ w.2.2.2.1.zip s) → 0 ≤ fullV x l ∧ fullV x l ≤ 1000000000 * l.length
 | [], _ => by simp [fullV]
 | t :: l, h => by
  have h1 := zs_good hw hs (h t (List.mem_cons_self ..))
  have h2 := fullV_bd (x := x) (l := l) fun y hy => h y (List.mem_cons_of_mem _ hy)
  simp only [fullV, List.length_cons]
  split <;> omega
omit hw hp in
theorem restV_zip {x : Int × Int} : ∀ (zs : List ((ByteArray × Int) × Int)) (ps : List Int), (∀ z ∈ zs, 0 ≤ z.2) → 0 ≤ restV x (zs.zip ps) ∧ restV x (zs.zip ps) ≤ (zs.map (·.2)).sum
 | [], ps, _ => by simp [restV]
 | z :: zs, [], h => by
  have := restV_zip (x := x) zs [] fun y hy => h y (List.mem_cons_of_mem _ hy)
  have hz := h z (List.mem_cons_self ..)
  simp only [List.zip_nil_right, restV, List.map_cons, List.sum_cons] at this ⊢
  omega
 | z :: zs, p :: ps, h => by
  have := restV_zip (x := x) zs ps fun y hy => h y (List.mem_cons_of_mem _ hy)
  have hz := h z (List.mem_cons_self ..)
  simp only [List.zip_cons_cons, restV, List.map_cons, List.sum_cons]
  split <;> omega
theorem restV_pre {x : Int × Int} {pre post : List Tr3} (h : trip w s pays = pre ++ post) : 0 ≤ restV x pre ∧ restV x pre ≤ 6000000000 ∧ 0 ≤ restV x post := by
 have nn : ∀ l : List Tr3, (∀ t ∈ l, t.1 ∈ w.2.2.2.1.zip s) → 0 ≤ restV x l := by
  intro l
  induction l with
  | nil => intro _; exact Int.le_refl _
  | cons t l ih =>
   intro hl
   have h1 := zs_good hw hs (hl t (List.mem_cons_self ..))
   have h2 := ih fun y hy => hl y (List.mem_cons_of_mem _ hy)
   simp only [restV]; split <;> omega
 have hm : ∀ t ∈ trip w s pays, t.1 ∈ w.2.2.2.1.zip s := fun t ht => (List.of_mem_zip ht).1
 have h1 := nn pre fun t ht => hm t (by rw [h]; simp [ht])
 have h2 := nn post fun t ht => hm t (by rw [h]; simp [ht])
 have h3 := restV_zip (hs := hs) (x := x) (w.2.2.2.1.zip s) pays fun z hz => (zs_good hw hs hz).2.2.1
 have h4 : ((w.2.2.2.1.zip s).map (·.2)).sum = s.sum := by
  rw [List.map_snd_zip (by rw [hs.len]; exact Nat.le_refl _)]
 have h5 := hs.all
 have h6 : restV x (trip w s pays) = restV x pre + restV x post := by rw [h, restV_app]
 unfold trip at h6
 omega
end
section
variable {w : Wk} {pays : List Int} (hw : OkW w) (hp : pays.length = w.2.2.2.1.length) {x : Int × Int}
include hw hp
/-- The sum of payments, unless one is out of bounds. -/
theorem k32_0 : run (fun _ => none) (.it g32_0 (pays, x.1, x.2, 0, pays, ((pays.length : Nat) : Int), 0, w.1, w.2.1, w.2.2.1, w.2.2.2.1, w.2.2.2.2, ())) =
  some (if within (trip w (sRead w) pays) = true then .inr (pays, x.1, x.2, paysum (trip w (sRead w) pays), w.1, w.2.1, w.2.2.1, w.2.2.2.1, w.2.2.2.2, ()) else .inl (10, ())) := by
 have hs := okS_read hw
 have h12 := hw.many
 have hl := trip_len hw hs hp
 have key := iter_list (f := fun a => run (fun _ => none) (g32_0 a)) (trip w (sRead w) pays) (fun k (q : Int) => (pays, x.1, x.2, q, pays, ((pays.length : Nat) : Int), (k : Int), w.1, w.2.1, w.2.2.1, w.2.2.2.1, w.2.2.2.2, ()))
  (fun q r => if within r = true then .inr (pays, x.1, x.2, q + paysum r, w.1, w.2.1, w.2.2.1, w.2.2.2.1, w.2.2.2.2, ()) else .inl (10, ())) (fun pre q => 0 ≤ q ∧ q ≤ 1000000000 * pre.length) (by
   rintro pre t post q ht hq
   obtain ⟨d1, d2, d3, hm, hlen⟩ := trip_at hw hs hp ht
   have hg := zs_good hw hs hm
   have i1 : inb (pre.length : Int) ((pays.length : Nat) : Int) = true := inb_t (by omega) (by omega)
   have i2 : inb (pre.length : Int) ((w.2.2.2.1.length : Nat) : Int) = true := inb_t (by omega) (by omega)
   have r1 : rng .i64 ((pre.length : Int) + 1) = true := rng_i64 (by omega) (by omega)
   simp only [g32_0, run_br, run_bd, run_nb, run_nd, run_ni, run_ret, Int.toNat_natCast, d1, d3, i1, i2, r1, need_true, br_d, br_not, k65, bindO_s]
   rw [if_pos (by omega)]
   by_cases hc : 0 ≤ t.2 ∧ t.2 ≤ t.1.1.2
   ·left
    rw [if_pos hc, need_i64 (by omega) (by omega)]
    refine ⟨q + t.2, rfl, ⟨by omega, by simp only [List.length_append, List.length_cons, List.length_nil]; omega⟩, ?_⟩
    have : within (t :: post) = within post := by simp [within, hc]
    rw [this, show paysum (t :: post) = t.2 + paysum post by simp [paysum], Int.add_assoc]
   ·right
    rw [if_neg hc]
    have : within (t :: post) = false := by
     unfold within; rw [List.all_cons, decide_eq_false hc, Bool.false_and]
    rw [this]; rfl) (by
   rintro q _
   simp only [g32_0, run_br, br_d, run_ret]
   rw [if_neg (by omega)]
   simp [within, paysum]) (s := 0) (by simp)
 simp only [Int.zero_add] at key
 exact key
theorem k33_0 : run (fun _ => none) (.it g33_0 (pays, x.1, x.2, 0, 0, w.1, w.2.1, w.2.2.1, w.2.2.2.1, w.2.2.2.2, ())) =
  some (if within (trip w (sRead w) pays) = true then .inr (pays, x.1, x.2, paysum (trip w (sRead w) pays), w.1, w.2.1, w.2.2.1, w.2.2.2.1, w.2.2.2.2, ()) else .inl (10, ())) := by
 have hs := okS_read hw
 have h12 := hw.many
 have hl := trip_len hw hs hp
 have key := iter_list (f := fun a => run (fun _ => none) (g33_0 a)) (trip w (sRead w) pays) (fun k (q : Int) => (pays, x.1, x.2, q, (k : Int), w.1, w.2.1, w.2.2.1, w.2.2.2.1, w.2.2.2.2, ()))
  (fun q r => if within r = true then .inr (pays, x.1, x.2, q + paysum r, w.1, w.2.1, w.2.2.1, w.2.2.2.1, w.2.2.2.2, ()) else .inl (10, ())) (fun pre q => 0 ≤ q ∧ q ≤ 1000000000 * pre.length) (by
   rintro pre t post q ht hq
   obtain ⟨d1, d2, d3, hm, hlen⟩ := trip_at hw hs hp ht
   have hg := zs_good hw hs hm
   have i1 : inb (pre.length : Int) ((pays.length : Nat) : Int) = true := inb_t (by omega) (by omega)
   have i2 : inb (pre.length : Int) ((w.2.2.2.1.length : Nat) : Int) = true := inb_t (by omega) (by omega)
   have r1 : rng .i64 ((pre.length : Int) + 1) = true := rng_i64 (by omega) (by omega)
   simp only [g33_0, run_br, run_bd, run_nb, run_nd, run_ni, run_ret, Int.toNat_natCast, d1, d3, i1, i2, r1, need_true, br_d, br_not, k49, bindO_s]
   rw [if_pos (by omega)]
   by_cases hc : 0 ≤ t.2 ∧ t.2 ≤ t.1.1.2
   ·left
    rw [if_pos hc, need_i64 (by omega) (by omega)]
    refine ⟨q + t.2, rfl, ⟨by omega, by simp only [List.length_append, List.length_cons, List.length_nil]; omega⟩, ?_⟩
    have : within (t :: post) = within post := by simp [within, hc]
    rw [this, show paysum (t :: post) = t.2 + paysum post by simp [paysum], Int.add_assoc]
   ·right
    rw [if_neg hc]
    have : within (t :: post) = false := by
     unfold within; rw [List.all_cons, decide_eq_false hc, Bool.false_and]
    rw [this]; rfl) (by
   rintro q _
   simp only [g33_0, run_br, br_d, run_ret]
   rw [if_neg (by omega)]
   simp [within, paysum]) (s := 0) (by simp)
 simp only [Int.zero_add] at key
 exact key
end
end Go.Proofs.Try
end
section
namespace Go.Proofs.Try
open Go.AM Go.Pay
set_option maxRecDepth 100000
section
variable {w : Wk} {pays : List Int} (hw : OkW w) (hp : pays.length = w.2.2.2.1.length) {x : Int × Int} (hx : OkL x)
include hw hp hx
theorem k32_1 {sm : Int} (h0 : 0 ≤ sm ∧ sm ≤ 1000000000) : run (fun _ => none) (.it g32_1 (pays, x.1, x.2, sm, 0, clm w (sRead w), (((clm w (sRead w)).length : Nat) : Int), 0, x.1, x.2, ())) =
  some (if near x (trip w (sRead w) pays) = true then .inr (x.1, x.2, sm - fullV x (trip w (sRead w) pays), restV x (trip w (sRead w) pays), ()) else .inl (11, ())) := by
 have hs := okS_read hw
 have h12 := hw.many
 have hl := trip_len hw hs hp
 have hcl : (clm w (sRead w)).length = w.2.2.2.1.length := by rw [clm, clmL_len, zs_len hw hs]
 have key := iter_list (f := fun a => run (fun _ => none) (g32_1 a)) (trip w (sRead w) pays) (fun k (q : Int × Int) => (pays, x.1, x.2, q.1, q.2, clm w (sRead w), (((clm w (sRead w)).length : Nat) : Int), (k : Int), x.1, x.2, ()))
  (fun q r => if near x r = true then .inr (x.1, x.2, q.1 - fullV x r, q.2 + restV x r, ()) else .inl (11, ())) (fun pre q => q.1 = sm - fullV x pre ∧ q.2 = restV x pre) (by
   rintro pre t post ⟨a, b⟩ ht ⟨ha, hb⟩
   simp only at ha hb
   subst ha hb
   obtain ⟨d1, d2, d3, hm, hlen⟩ := trip_at hw hs hp ht
   have hg := zs_good hw hs hm
   have hmul := zs_mul hw hs hm hx
   have hpre : ∀ z ∈ pre, z.1 ∈ w.2.2.2.1.zip (sRead w) := fun z hz => (List.of_mem_zip (show z ∈ trip w (sRead w) pays by rw [ht]; simp [hz])).1
   have f1 := fullV_bd hw hs hp (x := x) hpre
   have g1 := restV_pre hw hs hp (x := x) (pre := pre) (post := t :: post) ht
   have hdc := clm_getD hs (i := pre.length) (by omega)
   rw [d1, d2] at hdc
   have hc : GoodC (t.1.1, (pre.length : Int), t.1.2) := ⟨hg.1, hg.2.1, hg.2.2.1, hg.2.2.2⟩
   have k := k54 hc hx
   have hdue := dueOf_bd' hw hs hm hx
   have i1 : inb (pre.length : Int) (((clm w (sRead w)).length : Nat) : Int) = true := inb_t (by omega) (by omega)
   have i2 : inb (pre.length : Int) ((pays.length : Nat) : Int) = true := inb_t (by omega) (by omega)
   have r1 : rng .i64 ((pre.length : Int) + 1) = true := rng_i64 (by omega) (by omega)
   have r2 : rng .i64 (x.1 * t.1.2) = true := rng_i64 (by omega) (by omega)
   have r3 : rng .i64 (t.1.1.2 * x.2) = true := rng_i64 (by omega) (by omega)
   have r4 : rng .i64 ((dueOf (t.1.1.2, t.1.2) x).1 + min (dueOf (t.1.1.2, t.1.2) x).2 1) = true := rng_i64 (by omega) (by omega)
   simp only [pr] at k
   simp only [g32_1, run_br, run_bd, run_nb, run_nd, run_ni, run_ret, Int.toNat_natCast, hdc, d3, i1, i2, r1, r2, r3, need_true, br_d, br_not, br_eq, imin_eq]
   rw [if_pos (by omega), bind_of k]
   simp only [r4, need_true]
   generalize hD : dueOf (t.1.1.2, t.1.2) x = D at *
   have hn1 : near1 x t = decide (t.2 = D.1 ∨ t.2 = D.1 + min D.2 1) := by unfold near1; rw [hD]
   have hnc : near x (t :: post) = (near1 x t && near x post) := rfl
   have hr : need (rng .i64 (sm - fullV x pre - t.1.1.2)) (some (Sum.inl (pays, x.1, x.2, sm - fullV x pre - t.1.1.2, restV x pre, clm w (sRead w), (((clm w (sRead w)).length : Nat) : Int), ((pre.length : Int) + 1), x.1, x.2, ())) : Option ((List Int × Int × Int × Int × Int × List Cl × Int × Int × Int × Int × Unit) ⊕ ((Int × Unit) ⊕ (Int × Int × Int × Int × Unit)))) = some (Sum.inl (pays, x.1, x.2, sm - fullV x pre - t.1.1.2, restV x pre, clm w (sRead w), (((clm w (sRead w)).length : Nat) : Int), ((pre.length : Int) + 1), x.1, x.2, ())) := need_i64 (by omega) (by omega)
   have hr2 : need (rng .i64 (restV x pre + t.1.2)) (some (Sum.inl (pays, x.1, x.2, sm - fullV x pre, restV x pre + t.1.2, clm w (sRead w), (((clm w (sRead w)).length : Nat) : Int), ((pre.length : Int) + 1), x.1, x.2, ())) : Option ((List Int × Int × Int × Int × Int × List Cl × Int × Int × Int × Int × Unit) ⊕ ((Int × Unit) ⊕ (Int × Int × Int × Int × Unit)))) = some (Sum.inl (pays, x.1, x.2, sm - fullV x pre, restV x pre + t.1.2, clm w (sRead w), (((clm w (sRead w)).length : Nat) : Int), ((pre.length : Int) + 1), x.1, x.2, ())) := need_i64 (by omega) (by omega)
   rw [hr, hr2]
   by_cases hn : t.2 = D.1 ∨ t.2 = D.1 + min D.2 1
   ·left
    rw [decide_eq_true hn] at hn1
    refine ⟨(sm - fullV x pre - (if capd x t then t.1.1.2 else 0), restV x pre + (if capd x t then 0 else t.1.2)), ?_, ⟨?_, ?_⟩, ?_⟩
    ·have hcap : (t.1.1.2 * x.2 ≤ x.1 * t.1.2) ↔ capd x t := Iff.rfl
     by_cases hcc : t.1.1.2 * x.2 ≤ x.1 * t.1.2
     ·rw [if_pos (hcap.1 hcc), if_pos (hcap.1 hcc)]
      simp only [if_pos hcc, Int.add_zero]
      by_cases h1 : t.2 = D.1
      ·rw [if_pos h1]; rfl
      ·rw [if_neg h1, if_pos (hn.resolve_left h1)]; rfl
     ·rw [if_neg (fun h => hcc (hcap.2 h)), if_neg (fun h => hcc (hcap.2 h))]
      simp only [if_neg hcc, Int.sub_zero]
      by_cases h1 : t.2 = D.1
      ·rw [if_pos h1]; rfl
      ·rw [if_neg h1, if_pos (hn.resolve_left h1)]; rfl
    ·show sm - fullV x pre - _ = sm - fullV x (pre ++ [t])
     rw [fullV_app]; simp only [fullV]; omega
    ·show restV x pre + _ = restV x (pre ++ [t])
     rw [restV_app]; simp only [restV]; omega
    ·rw [hnc, hn1, Bool.true_and]
     simp only [fullV, restV]
     rw [show sm - fullV x pre - ((if capd x t then t.1.1.2 else 0) + fullV x post) = sm - fullV x pre - (if capd x t then t.1.1.2 else 0) - fullV x post by omega,
      show restV x pre + ((if capd x t then 0 else t.1.2) + restV x post) = restV x pre + (if capd x t then 0 else t.1.2) + restV x post by omega]
   ·right
    rw [decide_eq_false hn] at hn1
    rw [hnc, hn1, Bool.false_and, if_neg (fun h => hn (.inl h)), if_neg (fun h => hn (.inr h))]
    rfl) (by
   rintro q _
   simp only [g32_1, run_br, br_d, run_ret]
   rw [if_neg (by omega)]
   simp [near, fullV, restV]) (s := (sm, 0)) ⟨by simp [fullV], rfl⟩
 simp only [Int.zero_add] at key
 exact key
theorem k33_1 {sm : Int} : run (fun _ => none) (.it g33_1 (pays, x.1, x.2, sm, sRead w, 0, 0, true, 0, w.1, w.2.1, w.2.2.1, w.2.2.2.1, w.2.2.2.2, x.1, x.2, ())) =
  some (x.1, x.2, sm, fullV x (trip w (sRead w) pays), restV x (trip w (sRead w) pays), near x (trip w (sRead w) pays), ()) := by
 have hs := okS_read hw
 have h12 := hw.many
 have hl := trip_len hw hs hp
 have hsl := hs.len
 have key := iter_list (f := fun a => run (fun _ => none) (g33_1 a)) (trip w (sRead w) pays) (fun k (q : Int × Int × Bool) => (pays, x.1, x.2, sm, sRead w, q.1, q.2.1, q.2.2, (k : Int), w.1, w.2.1, w.2.2.1, w.2.2.2.1, w.2.2.2.2, x.1, x.2, ()))
  (fun q r => (x.1, x.2, sm, q.1 + fullV x r, q.2.1 + restV x r, q.2.2 && near x r, ())) (fun pre q => q.1 = fullV x pre ∧ q.2.1 = restV x pre) (by
   rintro pre t post ⟨a, b, c⟩ ht ⟨ha, hb⟩
   simp only at ha hb
   subst ha hb
   left
   obtain ⟨d1, d2, d3, hm, hlen⟩ := trip_at hw hs hp ht
   have hg := zs_good hw hs hm
   have hmul := zs_mul hw hs hm hx
   have hpre : ∀ z ∈ pre, z.1 ∈ w.2.2.2.1.zip (sRead w) := fun z hz => (List.of_mem_zip (show z ∈ trip w (sRead w) pays by rw [ht]; simp [hz])).1
   have f1 := fullV_bd hw hs hp (x := x) hpre
   have g1 := restV_pre hw hs hp (x := x) (pre := pre) (post := t :: post) ht
   have k := k62 (f := t.1.1) hg.1 hg.2.1 hg.2.2.1 hg.2.2.2 hx
   have hdue := dueOf_bd' hw hs hm hx
   have i1 : inb (pre.length : Int) ((w.2.2.2.1.length : Nat) : Int) = true := inb_t (by omega) (by omega)
   have i2 : inb (pre.length : Int) ((pays.length : Nat) : Int) = true := inb_t (by omega) (by omega)
   have i3 : inb (pre.length : Int) (((sRead w).length : Nat) : Int) = true := inb_t (by omega) (by omega)
   have r1 : rng .i64 ((pre.length : Int) + 1) = true := rng_i64 (by omega) (by omega)
   have r4 : rng .i64 ((dueOf (t.1.1.2, t.1.2) x).1 + 1) = true := rng_i64 (by omega) (by omega)
   have r5 : rng .i64 (fullV x pre + t.1.1.2) = true := rng_i64 (by omega) (by omega)
   have r6 : rng .i64 (restV x pre + t.1.2) = true := rng_i64 (by omega) (by omega)
   simp only [g33_1, run_br, run_bd, run_jx, run_nb, run_nd, run_ni, run_ret, Int.toNat_natCast, d1, d2, i1, i2, i3, r1, r5, r6, need_true, br_d, br_eq, k66 (f := t.1.1) (s := t.1.2) (x := (x.1, x.2)) hmul.1 hmul.2, bindO_s, pr_eta]
   rw [if_pos (by omega), bind_of k]
   generalize hD : dueOf (t.1.1.2, t.1.2) x = D at *
   have hn1 : near1 x t = decide (t.2 = D.1 ∨ t.2 = D.1 + min D.2 1) := by unfold near1; rw [hD]
   have hnc : near x (t :: post) = (near1 x t && near x post) := rfl
   have hcap : (t.1.1.2 * x.2 ≤ x.1 * t.1.2) ↔ capd x t := Iff.rfl
   refine ⟨(fullV x pre + (if capd x t then t.1.1.2 else 0), restV x pre + (if capd x t then 0 else t.1.2), c && near1 x t), ?_, ⟨?_, ?_⟩, ?_⟩
   ·by_cases hcc : t.1.1.2 * x.2 ≤ x.1 * t.1.2
    ·simp only [if_pos (hcap.1 hcc), if_pos hcc, bindO_s, onS, run_br, run_nb, run_ni, run_nd, run_ret, br_eq, br_if, Int.toNat_natCast, d3, i2, r1, r4, need_true, hn1]
     cases c with
     | false => simp
     | true =>
      simp only [if_true, Bool.true_and]
      by_cases h1 : t.2 = D.1
      ·rw [if_pos h1, decide_eq_true (.inl h1)]; simp
      ·rw [if_neg h1]
       by_cases h2 : t.2 = D.1 + 1
       ·rw [if_pos h2]
        have : decide (t.2 = D.1 ∨ t.2 = D.1 + min D.2 1) = decide (0 < D.2) := decide_eq_decide.2 (by omega)
        rw [this]; simp
       ·rw [if_neg h2, decide_eq_false (by omega)]; simp
    ·simp only [if_neg (fun h => hcc (hcap.2 h)), if_neg hcc, bindO_s, onS, run_br, run_nb, run_ni, run_nd, run_ret, br_eq, br_if, Int.toNat_natCast, d3, i2, r1, r4, need_true, hn1]
     cases c with
     | false => simp
     | true =>
      simp only [if_true, Bool.true_and]
      by_cases h1 : t.2 = D.1
      ·rw [if_pos h1, decide_eq_true (.inl h1)]; simp
      ·rw [if_neg h1]
       by_cases h2 : t.2 = D.1 + 1
       ·rw [if_pos h2]
        have : decide (t.2 = D.1 ∨ t.2 = D.1 + min D.2 1) = decide (0 < D.2) := decide_eq_decide.2 (by omega)
        rw [this]; simp
       ·rw [if_neg h2, decide_eq_false (by omega)]; simp
   ·show fullV x pre + _ = fullV x (pre ++ [t])
    rw [fullV_app]; simp only [fullV]; omega
   ·show restV x pre + _ = restV x (pre ++ [t])
    rw [restV_app]; simp only [restV]; omega
   ·rw [hnc]
    simp only [fullV, restV, Int.add_assoc, Bool.and_assoc]) (by
   rintro q _
   simp only [g33_1, run_br, br_d, run_ret]
   rw [if_neg (by omega)]
   simp [near, fullV, restV]) (s := (0, 0, true)) ⟨rfl, rfl⟩
 simp only [Int.zero_add, Bool.true_and] at key
 exact key
end
end Go.Proofs.Try
end
section
namespace Go.Proofs.Try
open Go.AM Go.Pay
set_option maxRecDepth 100000
theorem fin_bd {w : Wk} {pays : List Int} (hw : OkW w) (hp : pays.length = w.2.2.2.1.length) {x : Int × Int} (hx : OkL x) {sm : Int} (h1 : sm ≤ 1000000000) (h : ¬ sm < fullV x (trip w (sRead w) pays)) :
  (0 ≤ x.1 * restV x (trip w (sRead w) pays) ∧ x.1 * restV x (trip w (sRead w) pays) ≤ 9000000000000000000) ∧ (0 ≤ (sm - fullV x (trip w (sRead w) pays)) * x.2 ∧ (sm - fullV x (trip w (sRead w) pays)) * x.2 ≤ 9000000000000000000) := by
 have hs := okS_read hw
 have g1 := restV_pre hw hs hp (x := x) (pre := trip w (sRead w) pays) (post := []) (by simp)
 have f1 := fullV_bd hw hs hp (x := x) (l := trip w (sRead w) pays) fun z hz => (List.of_mem_zip hz).1
 have m1 := mul_bd hx.n0 hx.n1 g1.1 g1.2.1
 have m2 := mul_bd (a := sm - fullV x (trip w (sRead w) pays)) (A := 1000000000) (by omega) (by omega) (Int.le_of_lt hx.d0) hx.d1
 omega
theorem k32 (w : Wk) (hn : Names w) (pays : List Int) (x : Int × Int) : run0 (F32 w pays x.1 x.2) = some (verify w pays x, ()) := by
 simp only [F32, run_bd, run_br, run_ret, k22 w hn, bindO_s, br_not, br_eq, br_d, k65]
 unfold verify
 by_cases h : chk w = 0
 case neg => rw [if_neg h, if_pos h]
 rw [if_pos h, if_neg (not_not_intro h)]
 have hw := chk_ok h
 have hs := okS_read hw
 by_cases hp : pays.length = w.2.2.2.1.length
 case neg => rw [if_neg (by omega), if_pos hp]
 rw [if_pos (by omega), if_neg (not_not_intro hp)]
 by_cases h1 : 0 ≤ x.1 ∧ x.1 ≤ 1000000000
 case neg => rw [if_neg h1, if_pos h1]
 rw [if_pos h1, if_neg (not_not_intro h1)]
 by_cases h2 : 1 ≤ x.2 ∧ x.2 ≤ 5000000000
 case neg => rw [if_neg h2, if_pos h2]
 rw [if_pos h2, if_neg (not_not_intro h2)]
 have hx : OkL x := ⟨h1.1, h1.2, by omega, by omega⟩
 rw [bind_of (k32_0 hw hp (x := x))]
 simp only []
 cases hwi : within (trip w (sRead w) pays)
 ·simp [run_sl, run_ret]
 have hb := paid_bd hw hs
 simp only [if_true, Bool.true_eq_false, if_false, run_sr, run_bd, k41 hw, bindO_s, k51 hw hs, run_br, br_not, br_eq, run_ret]
 by_cases h3 : paysum (trip w (sRead w) pays) = paidOf w (sRead w)
 case neg => rw [if_neg h3, if_pos h3]
 rw [if_pos h3, if_neg (not_not_intro h3), bind_of (k32_1 hw hp hx (by omega))]
 cases hne : near x (trip w (sRead w) pays)
 ·simp [run_sl, run_ret]
 simp only [if_true, Bool.true_eq_false, if_false, run_sr, run_br, run_ni, run_nd, run_ret, br_d, br_not, br_eq]
 by_cases h4 : paysum (trip w (sRead w) pays) < fullV x (trip w (sRead w) pays)
 ·rw [if_pos (by omega), if_pos h4]
 rw [if_neg (by omega), if_neg h4]
 have fb := fin_bd hw hp hx (sm := paysum (trip w (sRead w) pays)) (by omega) h4
 rw [need_i64 (by omega) (by omega), need_i64 (by omega) (by omega)]
 by_cases h5 : x.1 * restV x (trip w (sRead w) pays) = (paysum (trip w (sRead w) pays) - fullV x (trip w (sRead w) pays)) * x.2
 ·rw [if_pos h5, if_neg (not_not_intro h5)]
 ·rw [if_neg h5, if_pos h5]
theorem k33 (w : Wk) (pays : List Int) (x : Int × Int) : run0 (F33 w pays x.1 x.2) = some (verify w pays x, ()) := by
 simp only [F33, run_bd, run_br, run_ret, k23 w, bindO_s, br_not, br_eq, br_d, k49]
 unfold verify
 by_cases h : chk w = 0
 case neg => rw [if_neg h, if_pos h]
 rw [if_pos h, if_neg (not_not_intro h)]
 have hw := chk_ok h
 have hs := okS_read hw
 by_cases hp : pays.length = w.2.2.2.1.length
 case neg => rw [if_neg (by omega), if_pos hp]
 rw [if_pos (by omega), if_neg (not_not_intro hp)]
 by_cases h1 : 0 ≤ x.1 ∧ x.1 ≤ 1000000000
 case neg => rw [if_neg h1, if_pos h1]
 rw [if_pos h1, if_neg (not_not_intro h1)]
 by_cases h2 : 1 ≤ x.2 ∧ x.2 ≤ 5000000000
 case neg => rw [if_neg h2, if_pos h2]
 rw [if_pos h2, if_neg (not_not_intro h2)]
 have hx : OkL x := ⟨h1.1, h1.2, by omega, by omega⟩
 rw [bind_of (k33_0 hw hp (x := x))]
 simp only []
 cases hwi : within (trip w (sRead w) pays)
 ·simp [run_sl, run_ret]
 have hb := paid_bd hw hs
 have f1 := fullV_bd hw hs hp (x := x) (l := trip w (sRead w) pays) fun z hz => (List.of_mem_zip hz).1
 have hl := trip_len hw hs hp
 have h12 := hw.many
 simp only [if_true, Bool.true_eq_false, if_false, run_sr, run_bd, k45 hw, bindO_s, k61 hw hs, run_br, br_not, br_eq, run_ret]
 by_cases h3 : paysum (trip w (sRead w) pays) = paidOf w (sRead w)
 case neg => rw [if_neg h3, if_pos h3]
 rw [if_pos h3, if_neg (not_not_intro h3), bind_of (k33_1 hw hp hx)]
 cases hne : near x (trip w (sRead w) pays)
 ·simp
 simp only [br_true, Bool.true_eq_false, if_false, run_br, run_ni, run_nd, run_ret, br_d, br_not, br_eq]
 by_cases h4 : paysum (trip w (sRead w) pays) < fullV x (trip w (sRead w) pays)
 ·rw [if_pos h4, if_pos h4]
 rw [if_neg h4, if_neg h4]
 have fb := fin_bd hw hp hx (sm := paysum (trip w (sRead w) pays)) (by omega) h4
 rw [need_i64 (by omega) (by omega), need_i64 (by omega) (by omega), need_i64 (by omega) (by omega)]
 by_cases h5 : x.1 * restV x (trip w (sRead w) pays) = (paysum (trip w (sRead w) pays) - fullV x (trip w (sRead w) pays)) * x.2
 ·rw [if_pos h5, if_neg (not_not_intro h5)]
 ·rw [if_neg h5, if_pos h5]
theorem law6 (w : Wk) (pays : List Int) (num den : Int) : run0 (F6 w pays num den) = some (true, ()) := by
 obtain ⟨b, hb, hs⟩ := k15 w
 simp only [F6, run_bd, run_br, run_ret, hb, bindO_s, works_ok, br_d]
 cases b with
 | true => simp
 | false =>
  have h := hs rfl
  rw [br_false]
  split
  ·rfl
  ·have e1 := k32 w h.names pays (num, den)
   have e2 := k33 w pays (num, den)
   simp only at e1 e2
   simp only [e1, k19 w h, e2, bindO_s, br_eq, if_true]
end Go.Proofs.Try
end
