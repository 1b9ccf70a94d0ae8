/- Tools for laws: rounds that count, find or keep something; needs. Rounds over a list, with a function that says what comes out. Plain Lean. Sorting by insertion, as rounds. Plain Lean. The order of strings. Plain Lean. The known week, reckoned through. The level at which a pot is shared out: there is just one. Plain Lean. The level as the program finds it: farmers in the order in which they reach their Caps. Plain Lean. The level as the reference finds it: from Cap to Cap. Plain Lean. A week is valid: program and reference say the same. A week is valid: program and reference say the same. The reference's check of a week. What a valid week is. Sugar: program and reference. Sugar: program and reference say the same. Sugar: program and reference say the same; the law. Claims in the order in which they reach their Caps. The program's level: walk. The program's level. The program's level: the rounds. Bills: claims and what is paid. The reference's level; both levels are the same. The levels are the same. Bounds: the program's. Cents: who gets one more. Plain Lean. Farmers by what was cut off, and by name. The program's payments. The reference's payments; the law. What payments are. Dues: of all ways to say who gets the Cap, one that agrees with itself. Plain Lean. What payments are: each is a due, rounded down, or one more where something was cut off. A harvest's week is valid. A cent for each sugar: all get their sugar, at a level of 1; with less money nobody more, and who has no less sugar no less, but for a cent. Steps in order, and the best plan's sugar field by field. Plain Lean. Fields: their check, their steps in order, the best plan. The best plan as the program finds it. Fields and wagons by numbers. All wagons; the week is valid, and its sugar is that of the best plan. The week of the law, and its rounds. A cent for each sugar of the best plan: the law. -/
import Derived.Test.YtpicfjimncdabaaW30
set_option linter.unusedSectionVars false
set_option linter.unusedVariables false
set_option linter.unusedSimpArgs false
section
namespace Go.AM
/-- Rounds that count, or end early with what was found. -/
theorem iter_find {α β γ : Type} {step : α → Option (α ⊕ β)} (n : Nat) (g : Nat → α) (stop : Nat → Option γ) (inj : γ → β) {b : β}
  (hr : ∀ k, k < n → (∀ j, j < k → stop j = none) → step (g k) = match stop k with | none => some (.inl (g (k + 1))) | some c => some (.inr (inj c))) (he : (∀ j, j < n → stop j = none) → step (g n) = some (.inr b)) :
  iter step (g 0) = some (((List.range n).findSome? stop).elim b inj) := by
 have key : ∀ m k, k + m = n → (∀ j, j < k → stop j = none) → iter step (g k) = some (((List.range' k m).findSome? stop).elim b inj) := by
  intro m
  induction m with
  | zero =>
   intro k hk hs
   have : k = n := by omega
   subst this
   simpa using iter_inr (he hs)
  | succ m ih =>
   intro k hk hs0
   have h := hr k (by omega) hs0
   rw [List.range'_succ, List.findSome?_cons]
   cases hs : stop k with
   | none =>
    rw [hs] at h
    refine iter_inl h (ih (k + 1) (by omega) fun j hj => ?_)
    by_cases e : j = k
    ·rw [e, hs]
    ·exact hs0 j (by omega)
   | some c => rw [hs] at h; exact iter_inr h
 rw [List.range_eq_range']
 exact key n 0 (by omega) (fun j hj => by omega)
/-- Rounds that count and keep something. -/
theorem iter_ex {α β : Type} {step : α → Option (α ⊕ β)} (n : Nat) (I : Nat → α → Prop) (Q : β → Prop) (hr : ∀ k x, k < n → I k x → ∃ y, step x = some (.inl y) ∧ I (k + 1) y) (he : ∀ x, I n x → ∃ b, step x = some (.inr b) ∧ Q b)
  {x : α} (h0 : I 0 x) : ∃ b, iter step x = some b ∧ Q b := by
 have key : ∀ m k x, k + m = n → I k x → ∃ b, iter step x = some b ∧ Q b := by
  intro m
  induction m with
  | zero =>
   intro k x hk hx
   have : k = n := by omega
   subst this
   obtain ⟨b, h1, h2⟩ := he x hx
   exact ⟨b, iter_inr h1, h2⟩
  | succ m ih =>
   intro k x hk hx
   obtain ⟨y, h1, h2⟩ := hr k x (by omega) hx
   obtain ⟨b, h3, h4⟩ := ih (k + 1) y (by omega) h2
   exact ⟨b, iter_inl h1 h3, h4⟩
 exact key n 0 x (by omega) h0
theorem getD_take {α : Type} {l : List α} {k n : Nat} {d : α} (h : k < n) : (l.take n).getD k d = l.getD k d := by
 simp [List.getD_eq_getElem?_getD, List.getElem?_take, h]
end Go.AM
end
section
namespace Go.AM
theorem getD_mid {α : Type} {A B : List α} {x d : α} {n : Nat} (h : n = A.length) : (A ++ x :: B).getD n d = x := by
 subst h; simp [List.getD_eq_getElem?_getD]
theorem set_mid {α : Type} {A B : List α} {x y : α} {n : Nat} (h : n = A.length) : (A ++ x :: B).set n y = A ++ y :: B := by
 subst h; simp [List.set_append]
/-- Rounds over the items of a list: 'G' says what comes out of a state and the items that are left. -/
theorem iter_list {A B S X : Type} {f : A → Option (A ⊕ B)} (xs : List X) (mk : Nat → S → A) (G : S → List X → B) (Inv : List X → S → Prop)
  (hs : ∀ pre x post s, xs = pre ++ x :: post → Inv pre s →
   (∃ s', f (mk pre.length s) = some (.inl (mk (pre.length + 1) s')) ∧ Inv (pre ++ [x]) s' ∧ G s (x :: post) = G s' post) ∨ f (mk pre.length s) = some (.inr (G s (x :: post))))
  (he : ∀ s, Inv xs s → f (mk xs.length s) = some (.inr (G s []))) {s : S} (h0 : Inv [] s) : iter f (mk 0 s) = some (G s xs) := by
 have key : ∀ (post pre : List X) (s : S), xs = pre ++ post → Inv pre s → iter f (mk pre.length s) = some (G s post) := by
  intro post
  induction post with
  | nil =>
   intro pre s hx hi
   have : pre = xs := by rw [hx]; simp
   subst this
   exact iter_inr (he s hi)
  | cons x post ih =>
   intro pre s hx hi
   rcases hs pre x post s hx hi with ⟨s', h1, h2, h3⟩ | h1
   ·refine iter_inl h1 ?_
    rw [h3]
    have := ih (pre ++ [x]) s' (by rw [hx]; simp) h2
    simpa using this
   ·exact iter_inr h1
 exact key xs [] s (by simp) h0
theorem bind_eq {A X : Type} {o : Option A} {a : A} {f : A → Option X} {y : Option X} (h : o = some a) (e : f a = y) : bindO o f = y := by rw [h, bindO_s, e]
theorem bigL_val : ((bigL : Nat) : Int) = 1073741824 := by decide
theorem need_inbig {X : Type} {i : Int} {x : Option X} (h : 0 ≤ i) (h2 : i < 1073741824) : need (inb i ((bigL : Nat) : Int)) x = x := need_inb h (by rw [bigL_val]; exact h2)
theorem need_lenbig {X : Type} {n : Nat} {x : Option X} (h : n < 1000000000) : need (decide (n < bigL)) x = x := need_d (by have := bigL_val; omega)
theorem br_true {X : Type} {x y : Option X} : brO true x y = x := by simp
theorem br_false {X : Type} {x y : Option X} : brO false x y = y := by simp
theorem br_if {X : Type} {c : Bool} {x y : Option X} : brO c x y = if c = true then x else y := by cases c <;> simp
end Go.AM
end
section
namespace Go.AM
variable {α : Type}
/-- Put where it belongs; the list is told from its end. -/
def insR (lt : α → α → Bool) (x : α) : List α → List α
 | [] => [x]
 | y :: R => if lt x y = true then y :: insR lt x R else x :: y :: R
def sortR (lt : α → α → Bool) (R : List α) (l : List α) : List α := l.foldl (fun R x => insR lt x R) R
def isort (lt : α → α → Bool) (l : List α) : List α := (sortR lt [] l).reverse
variable {lt : α → α → Bool}
theorem insR_perm (x : α) : ∀ R : List α, (insR lt x R).Perm (x :: R)
 | [] => .refl _
 | y :: R => by
  unfold insR; split
  ·exact ((insR_perm x R).cons y).trans (.swap ..)
  ·exact .refl _
theorem sortR_perm : ∀ (l R : List α), (sortR lt R l).Perm (l ++ R)
 | [], _ => .refl _
 | x :: l, R => by
  have h1 := sortR_perm l (insR lt x R)
  have h2 : (l ++ insR lt x R).Perm (x :: (l ++ R)) := ((List.Perm.append_left l (insR_perm x R))).trans List.perm_middle
  exact h1.trans h2
theorem isort_perm (l : List α) : (isort lt l).Perm l := by
 have := sortR_perm (lt := lt) l []
 rw [List.append_nil] at this
 exact (List.reverse_perm _).trans this
theorem isort_length (l : List α) : (isort lt l).length = l.length := (isort_perm l).length_eq
/-- An order on what is good. -/
structure OrdOn (lt : α → α → Bool) (Good : α → Prop) : Prop where
 asym : ∀ a b, Good a → Good b → lt a b = true → lt b a = false
 ntr : ∀ a b c, Good a → Good b → Good c → lt a b = false → lt b c = false → lt a c = false
variable {Good : α → Prop}
theorem insR_sorted (h : OrdOn lt Good) {x : α} (hx : Good x) : ∀ {R : List α}, (∀ y ∈ R, Good y) → R.Pairwise (fun a b => lt a b = false) → (insR lt x R).Pairwise (fun a b => lt a b = false)
 | [], _, _ => by simp [insR]
 | y :: R, hg, hp => by
  have hy := hg y (List.mem_cons_self ..)
  have hg' : ∀ z ∈ R, Good z := fun z hz => hg z (List.mem_cons_of_mem _ hz)
  rw [List.pairwise_cons] at hp
  unfold insR; split
  ·rename_i hl
   rw [List.pairwise_cons]
   refine ⟨fun z hz => ?_, insR_sorted h hx hg' hp.2⟩
   rcases List.mem_cons.1 ((insR_perm x R).mem_iff.1 hz) with rfl | hz
   ·exact h.asym _ _ hx hy hl
   ·exact hp.1 z hz
  ·rename_i hl
   have hl : lt x y = false := by simpa using hl
   rw [List.pairwise_cons, List.pairwise_cons]
   refine ⟨fun z hz => ?_, hp⟩
   rcases List.mem_cons.1 hz with rfl | hz
   ·exact hl
   ·exact h.ntr _ _ _ hx hy (hg' z hz) hl (hp.1 z hz)
theorem sortR_sorted (h : OrdOn lt Good) : ∀ {l R : List α}, (∀ y ∈ l, Good y) → (∀ y ∈ R, Good y) → R.Pairwise (fun a b => lt a b = false) → (sortR lt R l).Pairwise (fun a b => lt a b = false)
 | [], _, _, _, hp => hp
 | x :: l, R, hl, hR, hp => by
  have hx := hl x (List.mem_cons_self ..)
  refine sortR_sorted (l := l) (R := insR lt x R) h (fun y hy => hl y (List.mem_cons_of_mem _ hy)) (fun y hy => ?_) (insR_sorted h hx hR hp)
  rcases List.mem_cons.1 ((insR_perm x R).mem_iff.1 hy) with rfl | hy
  ·exact hx
  ·exact hR y hy
theorem isort_sorted (h : OrdOn lt Good) {l : List α} (hl : ∀ y ∈ l, Good y) : (isort lt l).Pairwise (fun a b => lt b a = false) := by
 unfold isort
 rw [List.pairwise_reverse]
 exact sortR_sorted h hl (fun y hy => by cases hy) List.Pairwise.nil
/-- The inner rounds: one is moved to its place. -/
theorem ins_inner {A B : Type} {f : A → Option (A ⊕ B)} {n : Nat} (mk : Nat → List α → A) (out : List α → B)
  (hs : ∀ L y x Q, (∀ z ∈ L ++ y :: x :: Q, Good z) → L.length + 2 + Q.length = n → f (mk (L.length + 1) (L ++ y :: x :: Q)) = if lt x y = true then some (.inl (mk L.length (L ++ x :: y :: Q))) else some (.inr (out (L ++ y :: x :: Q))))
  (hz : ∀ l, f (mk 0 l) = some (.inr (out l))) : ∀ (R : List α) (x : α) (Q : List α), (∀ z ∈ R ++ x :: Q, Good z) → R.length + 1 + Q.length = n → iter f (mk R.length (R.reverse ++ x :: Q)) = some (out ((insR lt x R).reverse ++ Q))
 | [], x, Q, _, _ => by simpa [insR] using iter_inr (hz (x :: Q))
 | y :: R, x, Q, hg, hn => by
  have e : (y :: R).reverse ++ x :: Q = R.reverse ++ y :: x :: Q := by simp
  have h1 := hs R.reverse y x Q (fun z hz => hg z (by
   simp at hz ⊢
   rcases hz with h | h | h | h
   ·exact .inr (.inl h)
   ·exact .inl h
   ·exact .inr (.inr (.inl h))
   ·exact .inr (.inr (.inr h)))) (by simp at hn ⊢; omega)
  rw [List.length_reverse] at h1
  rw [e, List.length_cons]
  unfold insR
  by_cases hl : lt x y = true
  ·rw [if_pos hl] at h1
   rw [if_pos hl]
   refine iter_inl h1 ?_
   have := ins_inner mk out hs hz R x (y :: Q) (fun z hz => hg z (by
    simp at hz ⊢
    rcases hz with h | h | h | h
    ·exact .inr (.inl h)
    ·exact .inr (.inr (.inl h))
    ·exact .inl h
    ·exact .inr (.inr (.inr h)))) (by simp at hn ⊢; omega)
   simpa using this
  ·rw [if_neg hl] at h1
   rw [if_neg hl]
   refine iter_inr ?_
   rw [h1]; simp
/-- All rounds. -/
theorem ins_outer {A B : Type} {f : A → Option (A ⊕ B)} {n : Nat} (mk : Nat → List α → A) (out : List α → B)
  (hs : ∀ (R : List α) x Q, 0 < R.length → (∀ z ∈ R ++ x :: Q, Good z) → R.length + 1 + Q.length = n → f (mk R.length (R.reverse ++ x :: Q)) = some (.inl (mk (R.length + 1) ((insR lt x R).reverse ++ Q))))
  (he : ∀ k l, n ≤ k → f (mk k l) = some (.inr (out l))) {l : List α} (hg : ∀ z ∈ l, Good z) (hn : l.length = n) : iter f (mk 1 l) = some (out (isort lt l)) := by
 have key : ∀ (Q R : List α), 0 < R.length → (∀ z ∈ R ++ Q, Good z) → R.length + Q.length = n → iter f (mk R.length (R.reverse ++ Q)) = some (out (sortR lt R Q).reverse) := by
  intro Q
  induction Q with
  | nil =>
   intro R hR hg hn
   rw [List.append_nil]
   exact iter_inr (he _ _ (by simp at hn; omega))
  | cons x Q ih =>
   intro R hR hg hn
   refine iter_inl (hs R x Q hR hg (by simp at hn; omega)) ?_
   have hlen : (insR lt x R).length = R.length + 1 := (insR_perm x R).length_eq
   have := ih (insR lt x R) (by omega) (fun z hz => hg z (by
    rcases List.mem_append.1 hz with hz | hz
    ·rcases List.mem_cons.1 ((insR_perm x R).mem_iff.1 hz) with rfl | hz
     ·simp
     ·simp [hz]
    ·simp [hz])) (by simp at hn; omega)
   rw [hlen] at this
   exact this
 cases l with
 | nil => exact iter_inr (he 1 [] (by simp at hn; omega))
 | cons x Q => exact key Q [x] (by simp) hg (by simp at hn ⊢; omega)
end Go.AM
end
section
namespace Go.AM
theorem bl_cons (a b : UInt8) (x y : List UInt8) : Op.bytesLess (a :: x) (b :: y) = true ↔ a.toNat < b.toNat ∨ (a.toNat = b.toNat ∧ Op.bytesLess x y = true) := by
 simp only [Op.bytesLess, Bool.or_eq_true, decide_eq_true_eq, Bool.and_eq_true, beq_iff_eq, UInt8.lt_iff_toNat_lt, ← UInt8.toNat_inj]
theorem bl_asym : ∀ {x y : List UInt8}, Op.bytesLess x y = true → Op.bytesLess y x = true → False
 | _, [], h, _ => by simp [Op.bytesLess] at h
 | [], _ :: _, _, h => by simp [Op.bytesLess] at h
 | a :: x, b :: y, h, h' => by
  rw [bl_cons] at h h'
  rcases h with h | ⟨h, q⟩
  ·rcases h' with h' | ⟨h', _⟩ <;> omega
  ·rcases h' with h' | ⟨_, q'⟩
   ·omega
   ·exact bl_asym q q'
theorem bl_total : ∀ {x y : List UInt8}, Op.bytesLess x y ≠ true → Op.bytesLess y x ≠ true → x = y
 | [], [], _, _ => rfl
 | _ :: _, [], _, h => by simp [Op.bytesLess] at h
 | [], _ :: _, h, _ => by simp [Op.bytesLess] at h
 | a :: x, b :: y, h, h' => by
  rw [ne_eq, bl_cons] at h h'
  have e : a.toNat = b.toNat := by omega
  rw [bl_total (x := x) (y := y) (fun q => h (.inr ⟨e, q⟩)) (fun q => h' (.inr ⟨e.symm, q⟩)), UInt8.toNat_inj.1 e]
theorem bl_trans : ∀ {x y z : List UInt8}, Op.bytesLess x y = true → Op.bytesLess y z = true → Op.bytesLess x z = true
 | _, _, [], _, h => by simp [Op.bytesLess] at h
 | _, [], _ :: _, h, _ => by simp [Op.bytesLess] at h
 | [], _ :: _, _ :: _, _, _ => by simp [Op.bytesLess]
 | a :: x, b :: y, c :: z, h, h' => by
  rw [bl_cons] at h h' ⊢
  rcases h with h | ⟨h, q⟩
  ·rcases h' with h' | ⟨h', _⟩ <;> (left; omega)
  ·rcases h' with h' | ⟨h', q'⟩
   ·left; omega
   ·right; exact ⟨by omega, bl_trans q q'⟩
theorem slt_asym {a b : ByteArray} (h : slt a b = true) (h' : slt b a = true) : False := bl_asym h h'
theorem slt_trans {a b c : ByteArray} (h : slt a b = true) (h' : slt b c = true) : slt a c = true := bl_trans h h'
theorem slt_total {a b : ByteArray} (h : slt a b = false) (h' : slt b a = false) : a = b := by
 have e := bl_total (x := a.toList) (y := b.toList) (by unfold slt at h; rw [h]; simp) (by unfold slt at h'; rw [h']; simp)
 rw [Go.ByteArray.toList_eq, Go.ByteArray.toList_eq] at e
 obtain ⟨x⟩ := a; obtain ⟨y⟩ := b
 simp at e; rw [e]
end Go.AM
end
section
namespace Go.Proofs.Try
open Go.AM
set_option maxRecDepth 100000
end Go.Proofs.Try
end
section
namespace Go.Pay
/-- What one gets, times d, at a level of n by d: c is the Cap and the sugar. -/
def D1 (n d : Int) (c : Int × Int) : Int := min (n * c.2) (c.1 * d)
def DD (n d : Int) (cs : List (Int × Int)) : Int := (cs.map (D1 n d)).sum
/-- Caps and sugar are from 0 on. -/
def Nn (cs : List (Int × Int)) : Prop := ∀ c ∈ cs, 0 ≤ c.1 ∧ 0 ≤ c.2
/-- The level is n by d. -/
structure Lv (cs : List (Int × Int)) (all n d : Int) : Prop where
 dpos : 0 < d
 nneg : 0 ≤ n
 red : Int.gcd n d = 1
 sum : DD n d cs = all * d
 low : n = 0 ∨ ∃ c ∈ cs, 0 < c.2 ∧ n * c.2 ≤ c.1 * d
theorem min_mul {a b k : Int} (h : 0 ≤ k) : min a b * k = min (a * k) (b * k) := by
 by_cases hab : a ≤ b
 ·rw [Int.min_eq_left hab, Int.min_eq_left (Int.mul_le_mul_of_nonneg_right hab h)]
 ·have hab : b ≤ a := by omega
  rw [Int.min_eq_right hab, Int.min_eq_right (Int.mul_le_mul_of_nonneg_right hab h)]
/-- A higher level gives no less. -/
theorem D1_mono {n d n' d' : Int} (hd : 0 < d) (hd' : 0 < d') (h : n * d' ≤ n' * d) {c : Int × Int} (hc : 0 ≤ c.2) : D1 n d c * d' ≤ D1 n' d' c * d := by
 unfold D1
 rw [min_mul (by omega), min_mul (by omega)]
 have h1 : n * c.2 * d' ≤ n' * c.2 * d := by
  have := Int.mul_le_mul_of_nonneg_right h hc
  rw [Int.mul_right_comm n c.2 d', Int.mul_right_comm n' c.2 d]; exact this
 have h2 : c.1 * d * d' = c.1 * d' * d := Int.mul_right_comm ..
 omega
theorem DD_cons {n d : Int} {c : Int × Int} {cs : List (Int × Int)} : DD n d (c :: cs) = D1 n d c + DD n d cs := by simp [DD]
theorem DD_append {n d : Int} {a b : List (Int × Int)} : DD n d (a ++ b) = DD n d a + DD n d b := by simp [DD]
theorem DD_perm {n d : Int} {a b : List (Int × Int)} (h : a.Perm b) : DD n d a = DD n d b := by
 induction h with
 | nil => rfl
 | cons x _ ih => rw [DD_cons, DD_cons, ih]
 | swap x y l => simp only [DD_cons]; omega
 | trans _ _ h1 h2 => exact h1.trans h2
theorem Nn.cons {c : Int × Int} {cs : List (Int × Int)} (h : Nn (c :: cs)) : (0 ≤ c.1 ∧ 0 ≤ c.2) ∧ Nn cs := ⟨h c (List.mem_cons_self ..), fun x hx => h x (List.mem_cons_of_mem _ hx)⟩
theorem DD_mono {n d n' d' : Int} (hd : 0 < d) (hd' : 0 < d') (h : n * d' ≤ n' * d) : ∀ {cs : List (Int × Int)}, Nn cs → DD n d cs * d' ≤ DD n' d' cs * d
 | [], _ => by simp [DD]
 | c :: cs, hc => by
  have h1 := D1_mono hd hd' h hc.cons.1.2
  have h2 := DD_mono hd hd' h hc.cons.2
  rw [DD_cons, DD_cons, Int.add_mul, Int.add_mul]; omega
theorem D1_lt {n d n' d' : Int} (hd : 0 < d) (hd' : 0 < d') (h : n * d' < n' * d) {c : Int × Int} (hc : 0 < c.2) (hl : n' * c.2 ≤ c.1 * d') : D1 n d c * d' < D1 n' d' c * d := by
 have h0 : D1 n' d' c = n' * c.2 := by unfold D1; exact Int.min_eq_left hl
 have h1 : D1 n d c ≤ n * c.2 := by unfold D1; exact Int.min_le_left ..
 have h2 : D1 n d c * d' ≤ n * c.2 * d' := Int.mul_le_mul_of_nonneg_right h1 (by omega)
 have h3 : n * c.2 * d' < n' * c.2 * d := by
  have := Int.mul_lt_mul_of_pos_right h hc
  rw [Int.mul_right_comm n c.2 d', Int.mul_right_comm n' c.2 d]; exact this
 rw [h0]; omega
theorem DD_lt {n d n' d' : Int} (hd : 0 < d) (hd' : 0 < d') (h : n * d' < n' * d) : ∀ {cs : List (Int × Int)}, Nn cs → (∃ c ∈ cs, 0 < c.2 ∧ n' * c.2 ≤ c.1 * d') → DD n d cs * d' < DD n' d' cs * d
 | [], _, hx => by obtain ⟨c, hc, _⟩ := hx; cases hc
 | c :: cs, hc, hx => by
  rw [DD_cons, DD_cons, Int.add_mul, Int.add_mul]
  have hle : n * d' ≤ n' * d := by omega
  obtain ⟨e, he, h1, h2⟩ := hx
  rcases List.mem_cons.1 he with rfl | he
  ·have q1 := D1_lt hd hd' h h1 h2
   have q2 := DD_mono hd hd' hle hc.cons.2
   omega
  ·have q1 := D1_mono hd hd' hle hc.cons.1.2
   have q2 := DD_lt hd hd' h hc.cons.2 ⟨e, he, h1, h2⟩
   omega
/-- A level is no higher than what shares out as much or more. -/
theorem Lv.le {cs : List (Int × Int)} {all n d n' d' : Int} (h : Lv cs all n d) (hn : Nn cs) (hd' : 0 < d') (hn' : 0 ≤ n') (hs : all * d' ≤ DD n' d' cs) : n * d' ≤ n' * d := by
 rcases Int.lt_or_le (n' * d) (n * d') with hlt | hle
 ·exfalso
  rcases h.low with h0 | hx
  ·subst h0
   have : 0 ≤ n' * d := Int.mul_nonneg hn' (Int.le_of_lt h.dpos)
   omega
  ·have q := DD_lt hd' h.dpos hlt hn hx
   rw [h.sum] at q
   have : all * d' * d ≤ DD n' d' cs * d := Int.mul_le_mul_of_nonneg_right hs (Int.le_of_lt h.dpos)
   rw [Int.mul_right_comm] at this
   omega
 ·exact hle
theorem cross {n d n' d' : Int} (hd : 0 < d) (hd' : 0 < d') (hn : 0 ≤ n) (hn' : 0 ≤ n') (h1 : Int.gcd n d = 1) (h2 : Int.gcd n' d' = 1) (h : n * d' = n' * d) : n = n' ∧ d = d' := by
 obtain ⟨a, rfl⟩ := Int.eq_ofNat_of_zero_le hn
 obtain ⟨b, rfl⟩ := Int.eq_ofNat_of_zero_le hn'
 obtain ⟨c, rfl⟩ := Int.eq_ofNat_of_zero_le (Int.le_of_lt hd)
 obtain ⟨e, rfl⟩ := Int.eq_ofNat_of_zero_le (Int.le_of_lt hd')
 simp only [Int.gcd_natCast_natCast] at h1 h2
 have h' : a * e = b * c := by exact_mod_cast h
 have c1 : c ∣ e := (Nat.Coprime.dvd_of_dvd_mul_left (show Nat.Coprime c a by rw [Nat.coprime_comm]; exact h1) (show c ∣ a * e from ⟨b, by rw [h', Nat.mul_comm]⟩))
 have c2 : e ∣ c := (Nat.Coprime.dvd_of_dvd_mul_left (show Nat.Coprime e b by rw [Nat.coprime_comm]; exact h2) (show e ∣ b * c from ⟨a, by rw [← h', Nat.mul_comm]⟩))
 have hce : c = e := Nat.dvd_antisymm c1 c2
 subst hce
 have : a = b := Nat.eq_of_mul_eq_mul_right (by omega) h'
 subst this
 exact ⟨rfl, rfl⟩
theorem Lv.uniq {cs : List (Int × Int)} {all n d n' d' : Int} (h : Lv cs all n d) (h' : Lv cs all n' d') (hn : Nn cs) : n = n' ∧ d = d' := by
 have h1 := h.le hn h'.dpos h'.nneg (by rw [h'.sum]; exact Int.le_refl _)
 have h2 := h'.le hn h.dpos h.nneg (by rw [h.sum]; exact Int.le_refl _)
 exact cross h.dpos h'.dpos h.nneg h'.nneg h.red h'.red (by omega)
theorem Lv.perm {cs cs' : List (Int × Int)} {all n d : Int} (h : Lv cs all n d) (hp : cs.Perm cs') : Lv cs' all n d :=
 ⟨h.dpos, h.nneg, h.red, by rw [← DD_perm hp]; exact h.sum, h.low.imp id fun ⟨c, hc, q⟩ => ⟨c, hp.mem_iff.1 hc, q⟩⟩
/-- Those without sugar get nothing. -/
theorem D1_zero {n d : Int} (hd : 0 < d) {c : Int × Int} (hc : 0 ≤ c.1) (h0 : c.2 = 0) : D1 n d c = 0 := by
 unfold D1
 rw [h0, Int.mul_zero]
 exact Int.min_eq_left (Int.mul_nonneg hc (Int.le_of_lt hd))
theorem DD_filter {n d : Int} (hd : 0 < d) : ∀ {cs : List (Int × Int)}, Nn cs → DD n d (cs.filter fun c => decide (c.2 ≠ 0)) = DD n d cs
 | [], _ => rfl
 | c :: cs, hc => by
  have ih := DD_filter (n := n) hd hc.cons.2
  rw [List.filter_cons]
  by_cases h0 : c.2 = 0
  ·rw [if_neg (by simp [h0]), ih, DD_cons, D1_zero hd hc.cons.1.1 h0, Int.zero_add]
  ·rw [if_pos (by simp [h0]), DD_cons, DD_cons, ih]
theorem Lv.of_filter {cs : List (Int × Int)} {all n d : Int} (hn : Nn cs) (h : Lv (cs.filter fun c => decide (c.2 ≠ 0)) all n d) : Lv cs all n d :=
 ⟨h.dpos, h.nneg, h.red, by rw [← DD_filter h.dpos hn]; exact h.sum, h.low.imp id fun ⟨c, hc, q⟩ => ⟨c, (List.mem_filter.1 hc).1, q⟩⟩
end Go.Pay
end
section
namespace Go.Pay
/-- A level that may have common divisors. -/
structure Lv0 (cs : List (Int × Int)) (all n d : Int) : Prop where
 dpos : 0 < d
 nneg : 0 ≤ n
 sum : DD n d cs = all * d
 low : n = 0 ∨ ∃ c ∈ cs, 0 < c.2 ∧ n * c.2 ≤ c.1 * d
theorem D1_scale {g n d : Int} (hg : 0 ≤ g) (c : Int × Int) : D1 (n * g) (d * g) c = D1 n d c * g := by
 unfold D1
 rw [min_mul hg, Int.mul_right_comm n g, ← Int.mul_assoc]
theorem DD_scale {g n d : Int} (hg : 0 ≤ g) : ∀ cs : List (Int × Int), DD (n * g) (d * g) cs = DD n d cs * g
 | [] => by simp [DD]
 | c :: cs => by rw [DD_cons, DD_cons, D1_scale hg, DD_scale hg cs, Int.add_mul]
def red (n d : Int) : Int × Int := (n / Int.gcd n d, d / Int.gcd n d)
theorem red_spec {n d : Int} (hd : 0 < d) (hn : 0 ≤ n) : 0 < (Int.gcd n d : Int) ∧ (red n d).1 * Int.gcd n d = n ∧ (red n d).2 * Int.gcd n d = d ∧ Int.gcd (red n d).1 (red n d).2 = 1 ∧ 0 < (red n d).2 ∧ 0 ≤ (red n d).1 := by
 have hg : 0 < Int.gcd n d := Int.gcd_pos_of_ne_zero_right n (by omega)
 have hg' : (0 : Int) < Int.gcd n d := by exact_mod_cast hg
 have h1 : (red n d).1 * Int.gcd n d = n := Int.ediv_mul_cancel (Int.gcd_dvd_left ..)
 have h2 : (red n d).2 * Int.gcd n d = d := Int.ediv_mul_cancel (Int.gcd_dvd_right ..)
 refine ⟨hg', h1, h2, Int.gcd_ediv_gcd_ediv_gcd hg, ?_, Int.ediv_nonneg hn (Int.le_of_lt hg')⟩
 rcases Int.lt_or_le 0 (red n d).2 with h | h
 ·exact h
 ·have : (red n d).2 * Int.gcd n d ≤ 0 := Int.mul_nonpos_of_nonpos_of_nonneg h (Int.le_of_lt hg')
  omega
theorem Lv0.red {cs : List (Int × Int)} {all n d : Int} (h : Lv0 cs all n d) : Lv cs all (red n d).1 (red n d).2 := by
 obtain ⟨hg, h1, h2, h3, h4, h5⟩ := red_spec h.dpos h.nneg
 generalize hr : Go.Pay.red n d = r at *
 generalize hq : (Int.gcd n d : Int) = g at *
 obtain ⟨a, b⟩ := r
 simp only at h1 h2 h3 h4 h5 ⊢
 subst h1 h2
 have hs := h.sum
 rw [DD_scale (Int.le_of_lt hg), ← Int.mul_assoc] at hs
 refine ⟨h4, h5, h3, Int.eq_of_mul_eq_mul_right (Int.ne_of_gt hg) hs, ?_⟩
 rcases h.low with h0 | ⟨c, hc, q1, q2⟩
 ·left
  rcases Int.mul_eq_zero.1 h0 with h | h
  ·exact h
  ·omega
 ·right
  refine ⟨c, hc, q1, ?_⟩
  rw [Int.mul_right_comm, ← Int.mul_assoc] at q2
  exact Int.le_of_mul_le_mul_right q2 hg
/-- In the order in which they reach their Caps. -/
def ByLim (l : List (Int × Int)) : Prop := l.Pairwise fun a b => a.1 * b.2 ≤ b.1 * a.2
def caps (l : List (Int × Int)) : Int := (l.map (·.1)).sum
def sug (l : List (Int × Int)) : Int := (l.map (·.2)).sum
theorem caps_cons {c : Int × Int} {l : List (Int × Int)} : caps (c :: l) = c.1 + caps l := by simp [caps]
theorem sug_cons {c : Int × Int} {l : List (Int × Int)} : sug (c :: l) = c.2 + sug l := by simp [sug]
theorem caps_append {a b : List (Int × Int)} : caps (a ++ b) = caps a + caps b := by simp [caps]
theorem caps_nil : caps [] = 0 := rfl
theorem sug_nn : ∀ {l : List (Int × Int)}, Nn l → 0 ≤ sug l
 | [], _ => by simp [sug]
 | c :: l, h => by rw [sug_cons]; have := sug_nn h.cons.2; have := h.cons.1.2; omega
def payLv : List (Int × Int) → Int → Int → Int × Int → Int × Int
 | [], _, _, last => last
 | c :: r, left, sugar, last => if left * c.2 ≤ c.1 * sugar then red left sugar else payLv r (left - c.1) (sugar - c.2) (red c.1 c.2)
theorem DD_capped {n d : Int} : ∀ {p : List (Int × Int)}, (∀ c ∈ p, c.1 * d ≤ n * c.2) → DD n d p = caps p * d
 | [], _ => by simp [DD, caps]
 | c :: p, h => by
  rw [DD_cons, caps_cons, Int.add_mul, DD_capped (fun x hx => h x (List.mem_cons_of_mem _ hx))]
  unfold D1
  rw [Int.min_eq_right (h c (List.mem_cons_self ..))]
theorem DD_below {n d : Int} : ∀ {p : List (Int × Int)}, (∀ c ∈ p, n * c.2 ≤ c.1 * d) → DD n d p = n * sug p
 | [], _ => by simp [DD, sug]
 | c :: p, h => by
  rw [DD_cons, sug_cons, Int.mul_add, DD_below (fun x hx => h x (List.mem_cons_of_mem _ hx))]
  unfold D1
  rw [Int.min_eq_left (h c (List.mem_cons_self ..))]
/-- Limits carry over. -/
theorem lim_trans {a b : Int × Int} {n d : Int} (hb : 0 < b.2) (hd : 0 ≤ d) (ha : 0 ≤ a.2) (h : a.1 * b.2 ≤ b.1 * a.2) (h2 : b.1 * d ≤ n * b.2) : a.1 * d ≤ n * a.2 := by
 have h3 : a.1 * b.2 * d ≤ b.1 * a.2 * d := Int.mul_le_mul_of_nonneg_right h hd
 have h4 : b.1 * d * a.2 ≤ n * b.2 * a.2 := Int.mul_le_mul_of_nonneg_right h2 ha
 rw [Int.mul_right_comm a.1] at h3
 rw [Int.mul_right_comm b.1 d] at h4
 rw [Int.mul_right_comm n] at h4
 exact Int.le_of_mul_le_mul_right (Int.le_trans h3 h4) hb
theorem lim_trans' {a b : Int × Int} {n d : Int} (ha : 0 < a.2) (hd : 0 ≤ d) (hb : 0 ≤ b.2) (h : a.1 * b.2 ≤ b.1 * a.2) (h2 : n * a.2 ≤ a.1 * d) : n * b.2 ≤ b.1 * d := by
 have h3 : a.1 * b.2 * d ≤ b.1 * a.2 * d := Int.mul_le_mul_of_nonneg_right h hd
 have h4 : n * a.2 * b.2 ≤ a.1 * d * b.2 := Int.mul_le_mul_of_nonneg_right h2 hb
 rw [Int.mul_right_comm a.1 d] at h4
 rw [Int.mul_right_comm b.1 a.2] at h3
 rw [Int.mul_right_comm n a.2] at h4
 exact Int.le_of_mul_le_mul_right (Int.le_trans h4 h3) ha
theorem payLv_ok {all : Int} : ∀ {r p : List (Int × Int)} {last : Int × Int}, r ≠ [] → Nn (p ++ r) → (∀ c ∈ p ++ r, 0 < c.2) → ByLim (p ++ r) → all ≤ caps (p ++ r) → 0 ≤ all - caps p →
  (∀ c ∈ p, c.1 * sug r ≤ (all - caps p) * c.2) → Lv (p ++ r) all (payLv r (all - caps p) (sug r) last).1 (payLv r (all - caps p) (sug r) last).2
 | [], p, last, h, _, _, _, _, _, _ => absurd rfl h
 | c :: r, p, last, _, hn, hs, hl, ha, h0, hp => by
  have hc2 : 0 < c.2 := hs c (by simp)
  have hnr : Nn r := fun x hx => hn x (by simp [hx])
  have hsug : 0 < sug (c :: r) := by rw [sug_cons]; have := sug_nn hnr; omega
  unfold payLv
  split
  ·rename_i hle
   refine Lv0.red ⟨hsug, h0, ?_, .inr ⟨c, by simp, hc2, hle⟩⟩
   have hr : ∀ x ∈ c :: r, (all - caps p) * x.2 ≤ x.1 * sug (c :: r) := fun x hx => by
    rcases List.mem_cons.1 hx with rfl | hx
    ·exact hle
    ·have hcx : c.1 * x.2 ≤ x.1 * c.2 := (List.pairwise_cons.1 (List.pairwise_append.1 hl).2.1).1 x hx
     exact lim_trans' hc2 (Int.le_of_lt hsug) (hn x (by simp [hx])).2 hcx hle
   rw [DD_append, DD_capped hp, DD_below hr, ← Int.add_mul]
   congr 1; omega
  ·rename_i hgt
   have hgt : c.1 * sug (c :: r) < (all - caps p) * c.2 := by omega
   cases r with
   | nil =>
    exfalso
    rw [caps_append, caps_cons, caps_nil] at ha
    have h1 : (all - caps p) * c.2 ≤ c.1 * c.2 := Int.mul_le_mul_of_nonneg_right (by omega) (Int.le_of_lt hc2)
    have h2 : sug [c] = c.2 := by simp [sug]
    rw [h2] at hgt; omega
   | cons e r =>
    have hc1 : 0 ≤ c.1 := (hn c (by simp)).1
    have hsr : 0 < sug (e :: r) := by
     have hnr' : Nn r := fun x hx => hn x (by simp [hx])
     rw [sug_cons]; have := sug_nn hnr'; have := hs e (by simp); omega
    have e1 : p ++ c :: e :: r = (p ++ [c]) ++ e :: r := by simp
    have e2 : all - caps (p ++ [c]) = all - caps p - c.1 := by rw [caps_append, caps_cons, caps_nil]; omega
    have e3 : sug (c :: e :: r) - c.2 = sug (e :: r) := by rw [sug_cons]; omega
    have hc : c.1 * sug (e :: r) ≤ (all - caps p - c.1) * c.2 := by
     have : sug (c :: e :: r) = c.2 + sug (e :: r) := sug_cons
     rw [this, Int.mul_add] at hgt
     rw [Int.sub_mul]; omega
    have h0' : 0 ≤ all - caps p - c.1 := by
     rcases Int.lt_or_le (all - caps p - c.1) 0 with h | h
     ·have h1 : (all - caps p - c.1) * c.2 < 0 := Int.mul_neg_of_neg_of_pos h hc2
      have h2 : 0 ≤ c.1 * sug (e :: r) := Int.mul_nonneg hc1 (Int.le_of_lt hsr)
      omega
     ·exact h
    have ih := payLv_ok (all := all) (r := e :: r) (p := p ++ [c]) (last := red c.1 c.2) (by simp) (by rw [← e1]; exact hn) (by rw [← e1]; exact hs) (by rw [← e1]; exact hl) (by rw [← e1]; exact ha) (by rw [e2]; exact h0')
     (fun x hx => by
      rw [e2]
      rcases List.mem_append.1 hx with hx | hx
      ·have hxc : x.1 * c.2 ≤ c.1 * x.2 := (List.pairwise_append.1 hl).2.2 x hx c (List.mem_cons_self ..)
       exact lim_trans hc2 (Int.le_of_lt hsr) (hn x (by simp [hx])).2 hxc hc
      ·simp at hx; subst hx; exact hc)
    rw [e1, e3, ← e2]
    exact ih
/-- The program's level. -/
theorem payLv_spec {l : List (Int × Int)} {all : Int} (hn : Nn l) (hs : ∀ c ∈ l, 0 < c.2) (hl : ByLim l) (ha : all ≤ caps l) (h0 : 0 ≤ all) : Lv l all (payLv l all (sug l) (0, 1)).1 (payLv l all (sug l) (0, 1)).2 := by
 cases l with
 | nil =>
  have : all = 0 := by rw [caps_nil] at ha; omega
  subst this
  exact ⟨by decide, by decide, by decide, by simp [DD], .inl rfl⟩
 | cons c r =>
  have := payLv_ok (all := all) (r := c :: r) (p := []) (last := (0, 1)) (by simp) hn hs hl ha (by rw [caps_nil]; omega) (fun x hx => by cases hx)
  simpa [caps_nil] using this
end Go.Pay
end
section
namespace Go.Pay
def full (n d : Int) : List (Int × Int) → Int
 | [] => 0
 | c :: r => (if c.2 = 0 then 0 else if c.1 * d ≤ n * c.2 then c.1 else 0) + full n d r
def rest (n d : Int) : List (Int × Int) → Int
 | [] => 0
 | c :: r => (if c.2 = 0 then 0 else if c.1 * d ≤ n * c.2 then 0 else c.2) + rest n d r
def unc (n d : Int) : List (Int × Int) → Nat
 | [] => 0
 | c :: r => (if c.2 = 0 then 0 else if c.1 * d ≤ n * c.2 then 0 else 1) + unc n d r
def nextL (n d : Int) : List (Int × Int) → Int × Int → Int × Int
 | [], x => x
 | c :: r, x => nextL n d r (if c.2 = 0 ∨ c.1 * d ≤ n * c.2 ∨ ¬ c.1 * x.2 ≤ x.1 * c.2 then x else red c.1 c.2)
/-- The Caps of those who have sugar. -/
def capS : List (Int × Int) → Int
 | [] => 0
 | c :: r => (if 0 < c.2 then c.1 else 0) + capS r
theorem full_cons {n d : Int} {c : Int × Int} {r : List (Int × Int)} : full n d (c :: r) = (if c.2 = 0 then 0 else if c.1 * d ≤ n * c.2 then c.1 else 0) + full n d r := rfl
theorem rest_cons {n d : Int} {c : Int × Int} {r : List (Int × Int)} : rest n d (c :: r) = (if c.2 = 0 then 0 else if c.1 * d ≤ n * c.2 then 0 else c.2) + rest n d r := rfl
theorem unc_cons {n d : Int} {c : Int × Int} {r : List (Int × Int)} : unc n d (c :: r) = (if c.2 = 0 then 0 else if c.1 * d ≤ n * c.2 then 0 else 1) + unc n d r := rfl
theorem capS_cons {c : Int × Int} {r : List (Int × Int)} : capS (c :: r) = (if 0 < c.2 then c.1 else 0) + capS r := rfl
theorem rest_nn {n d : Int} : ∀ {cs : List (Int × Int)}, Nn cs → 0 ≤ rest n d cs
 | [], _ => Int.le_refl _
 | c :: r, h => by
  have := rest_nn (n := n) (d := d) h.cons.2; have := h.cons.1
  rw [rest_cons]; split
  ·omega
  ·split <;> omega
/-- What all get, by who is capped. -/
theorem DD_parts {n d : Int} (hd : 0 < d) : ∀ {cs : List (Int × Int)}, Nn cs → DD n d cs = full n d cs * d + n * rest n d cs
 | [], _ => by simp [DD, full, rest]
 | c :: r, h => by
  have ih := DD_parts (n := n) hd h.cons.2
  rw [DD_cons, ih]
  rw [full_cons, rest_cons]
  by_cases h0 : c.2 = 0
  ·rw [if_pos h0, if_pos h0, D1_zero hd h.cons.1.1 h0]; simp
  ·rw [if_neg h0, if_neg h0]
   by_cases hc : c.1 * d ≤ n * c.2
   ·rw [if_pos hc, if_pos hc, Int.add_mul, D1, Int.min_eq_right hc]; simp; omega
   ·rw [if_neg hc, if_neg hc, Int.mul_add, D1, Int.min_eq_left (by omega)]; simp; omega
/-- The same, at a later level that is no higher than the limits of those who are not capped yet. -/
theorem DD_next {n d n' d' : Int} (hd : 0 < d) (hd' : 0 < d') (hle : n * d' ≤ n' * d) : ∀ {cs : List (Int × Int)}, Nn cs → (∀ c ∈ cs, 0 < c.2 → ¬ c.1 * d ≤ n * c.2 → n' * c.2 ≤ c.1 * d') → DD n' d' cs = full n d cs * d' + n' * rest n d cs
 | [], _, _ => by simp [DD, full, rest]
 | c :: r, h, hc => by
  have ih := DD_next (n' := n') hd hd' hle h.cons.2 (fun x hx => hc x (List.mem_cons_of_mem _ hx))
  have hcn := h.cons.1
  rw [DD_cons, ih]
  rw [full_cons, rest_cons]
  by_cases h0 : c.2 = 0
  ·rw [if_pos h0, if_pos h0, D1_zero hd' hcn.1 h0]; simp
  ·rw [if_neg h0, if_neg h0]
   by_cases hcc : c.1 * d ≤ n * c.2
   ·have : c.1 * d' ≤ n' * c.2 := by
     have h1 : c.1 * d * d' ≤ n * c.2 * d' := Int.mul_le_mul_of_nonneg_right hcc (Int.le_of_lt hd')
     have h2 : n * d' * c.2 ≤ n' * d * c.2 := Int.mul_le_mul_of_nonneg_right hle hcn.2
     rw [Int.mul_right_comm c.1, Int.mul_right_comm n c.2] at h1
     rw [Int.mul_right_comm n' d] at h2
     exact Int.le_of_mul_le_mul_right (Int.le_trans h1 h2) hd
    rw [if_pos hcc, if_pos hcc, Int.add_mul, D1, Int.min_eq_right this]; simp; omega
   ·rw [if_neg hcc, if_neg hcc, Int.mul_add, D1, Int.min_eq_left (hc c (List.mem_cons_self ..) (by omega) hcc)]; simp; omega
theorem rest_zero {n d : Int} : ∀ {cs : List (Int × Int)}, Nn cs → rest n d cs = 0 → full n d cs = capS cs
 | [], _, _ => rfl
 | c :: r, h, h0 => by
  have hn := rest_nn (n := n) (d := d) h.cons.2
  have hc := h.cons.1
  rw [rest_cons] at h0
  rw [full_cons, capS_cons]
  by_cases z : c.2 = 0
  ·rw [if_pos z] at h0
   rw [if_pos z, if_neg (by omega), rest_zero h.cons.2 (by omega)]
  ·rw [if_neg z] at h0 ⊢
   by_cases hcc : c.1 * d ≤ n * c.2
   ·rw [if_pos hcc] at h0
    rw [if_pos hcc, if_pos (by omega), rest_zero h.cons.2 (by omega)]
   ·rw [if_neg hcc] at h0; omega
theorem rest_pos {n d : Int} : ∀ {cs : List (Int × Int)}, Nn cs → rest n d cs ≠ 0 → ∃ c ∈ cs, 0 < c.2 ∧ ¬ c.1 * d ≤ n * c.2
 | [], _, h => absurd rfl h
 | c :: r, h, h0 => by
  have hc := h.cons.1
  by_cases z : 0 < c.2 ∧ ¬ c.1 * d ≤ n * c.2
  ·exact ⟨c, List.mem_cons_self .., z⟩
  ·have : rest n d r ≠ 0 := by
    intro e; apply h0; rw [rest_cons, e]
    split
    ·rfl
    ·rw [if_pos (by omega)]; rfl
   obtain ⟨e, he, q⟩ := rest_pos h.cons.2 this
   exact ⟨e, List.mem_cons_of_mem _ he, q⟩
theorem capped_up {n d n' d' : Int} (hd : 0 < d) (hd' : 0 < d') (hle : n * d' ≤ n' * d) {c : Int × Int} (h2 : 0 ≤ c.2) (hcc : c.1 * d ≤ n * c.2) : c.1 * d' ≤ n' * c.2 := by
 have h1 : c.1 * d * d' ≤ n * c.2 * d' := Int.mul_le_mul_of_nonneg_right hcc (Int.le_of_lt hd')
 have h2 : n * d' * c.2 ≤ n' * d * c.2 := Int.mul_le_mul_of_nonneg_right hle h2
 rw [Int.mul_right_comm c.1, Int.mul_right_comm n c.2] at h1
 rw [Int.mul_right_comm n' d] at h2
 exact Int.le_of_mul_le_mul_right (Int.le_trans h1 h2) hd
theorem unc_mono {n d n' d' : Int} (hd : 0 < d) (hd' : 0 < d') (hle : n * d' ≤ n' * d) : ∀ {cs : List (Int × Int)}, Nn cs → unc n' d' cs ≤ unc n d cs
 | [], _ => Nat.le_refl _
 | c :: r, h => by
  have ih := unc_mono hd hd' hle h.cons.2
  rw [unc_cons, unc_cons]
  by_cases h0 : c.2 = 0
  ·rw [if_pos h0, if_pos h0]; omega
  ·rw [if_neg h0, if_neg h0]
   by_cases hcc : c.1 * d ≤ n * c.2
   ·rw [if_pos hcc, if_pos (capped_up hd hd' hle h.cons.1.2 hcc)]; omega
   ·rw [if_neg hcc]; split <;> omega
theorem unc_lt {n d n' d' : Int} (hd : 0 < d) (hd' : 0 < d') (hle : n * d' ≤ n' * d) : ∀ {cs : List (Int × Int)}, Nn cs → (∃ c ∈ cs, 0 < c.2 ∧ ¬ c.1 * d ≤ n * c.2 ∧ c.1 * d' ≤ n' * c.2) → unc n' d' cs < unc n d cs
 | [], _, h => by obtain ⟨c, hc, _⟩ := h; cases hc
 | c :: r, h, hx => by
  obtain ⟨e, he, q0, q1, q2⟩ := hx
  rcases List.mem_cons.1 he with rfl | he
  ·have := unc_mono hd hd' hle h.cons.2
   rw [unc_cons, unc_cons]
   rw [if_neg (show ¬ e.2 = 0 by omega), if_neg (show ¬ e.2 = 0 by omega), if_pos q2, if_neg q1]; omega
  ·have ih := unc_lt hd hd' hle h.cons.2 ⟨e, he, q0, q1, q2⟩
   rw [unc_cons, unc_cons]
   by_cases h0 : c.2 = 0
   ·rw [if_pos h0, if_pos h0]; omega
   ·rw [if_neg h0, if_neg h0]
    by_cases hcc : c.1 * d ≤ n * c.2
    ·rw [if_pos hcc, if_pos (capped_up hd hd' hle h.cons.1.2 hcc)]; omega
    ·rw [if_neg hcc]; split <;> omega
/-- A ratio without common divisors, of numbers that are not great. -/
structure Rat (x : Int × Int) : Prop where
 d : 0 < x.2
 n : 0 ≤ x.1
 g : Int.gcd x.1 x.2 = 1
theorem red_rat {n d : Int} (hd : 0 < d) (hn : 0 ≤ n) : Rat (red n d) := by
 obtain ⟨_, _, _, h3, h4, h5⟩ := red_spec hd hn
 exact ⟨h4, h5, h3⟩
/-- The same value. -/
theorem red_eq {n d : Int} (hd : 0 < d) (hn : 0 ≤ n) : (red n d).1 * d = n * (red n d).2 := by
 obtain ⟨hg, h1, h2, h3, h4, h5⟩ := red_spec hd hn
 generalize red n d = r at *
 generalize (Int.gcd n d : Int) = g at *
 rw [← h1, ← h2, Int.mul_comm r.2 g, ← Int.mul_assoc]
theorem rat_trans {a b c : Int × Int} (ha : 0 < a.2) (hb : 0 < b.2) (hc : 0 < c.2) (h1 : a.1 * b.2 ≤ b.1 * a.2) (h2 : b.1 * c.2 ≤ c.1 * b.2) : a.1 * c.2 ≤ c.1 * a.2 := by
 have h3 : a.1 * b.2 * c.2 ≤ b.1 * a.2 * c.2 := Int.mul_le_mul_of_nonneg_right h1 (Int.le_of_lt hc)
 have h4 : b.1 * c.2 * a.2 ≤ c.1 * b.2 * a.2 := Int.mul_le_mul_of_nonneg_right h2 (Int.le_of_lt ha)
 rw [Int.mul_right_comm a.1] at h3
 rw [Int.mul_right_comm b.1 c.2] at h4
 rw [Int.mul_right_comm c.1] at h4
 exact Int.le_of_mul_le_mul_right (Int.le_trans h3 h4) hb
structure NextOk (n d : Int) (cs : List (Int × Int)) (x y : Int × Int) : Prop where
 rat : Rat y
 le : y.1 * x.2 ≤ x.1 * y.2
 lim : ∀ c ∈ cs, 0 < c.2 → ¬ c.1 * d ≤ n * c.2 → y.1 * c.2 ≤ c.1 * y.2
 from' : y = x ∨ ∃ c ∈ cs, 0 < c.2 ∧ ¬ c.1 * d ≤ n * c.2 ∧ y = red c.1 c.2
theorem nextL_ok {n d : Int} : ∀ {cs : List (Int × Int)} {x : Int × Int}, Nn cs → Rat x → NextOk n d cs x (nextL n d cs x)
 | [], x, _, hx => ⟨hx, Int.le_refl _, fun c hc => (by cases hc), .inl rfl⟩
 | c :: r, x, h, hx => by
  unfold nextL
  have hc := h.cons.1
  by_cases hh : c.2 = 0 ∨ c.1 * d ≤ n * c.2 ∨ ¬ c.1 * x.2 ≤ x.1 * c.2
  ·rw [if_pos hh]
   have ih := nextL_ok (n := n) (d := d) h.cons.2 hx
   refine ⟨ih.rat, ih.le, fun e he h1 h2 => ?_, ih.from'.imp id fun ⟨e, he, q⟩ => ⟨e, List.mem_cons_of_mem _ he, q⟩⟩
   rcases List.mem_cons.1 he with rfl | he
   ·rcases hh with q | q | q
    ·omega
    ·exact absurd q h2
    ·exact rat_trans (a := nextL n d r x) (b := x) (c := e) ih.rat.d hx.d h1 ih.le (by omega)
   ·exact ih.lim e he h1 h2
  ·rw [if_neg hh]
   have hc2 : 0 < c.2 := by omega
   have hr := red_rat hc2 hc.1
   have hq := red_eq hc2 hc.1
   have ih := nextL_ok (n := n) (d := d) h.cons.2 hr
   have hle : (red c.1 c.2).1 * x.2 ≤ x.1 * (red c.1 c.2).2 := rat_trans (a := red c.1 c.2) (b := c) (c := x) hr.d hc2 hx.d (by omega) (by omega)
   refine ⟨ih.rat, rat_trans (a := nextL n d r (red c.1 c.2)) (b := red c.1 c.2) (c := x) ih.rat.d hr.d hx.d ih.le hle, fun e he h1 h2 => ?_, .inr ?_⟩
   ·rcases List.mem_cons.1 he with rfl | he
    ·exact rat_trans (a := nextL n d r (red e.1 e.2)) (b := red e.1 e.2) (c := e) ih.rat.d hr.d h1 ih.le (by omega)
    ·exact ih.lim e he h1 h2
   ·rcases ih.from' with q | ⟨e, he, q⟩
    ·exact ⟨c, List.mem_cons_self .., hc2, by omega, q⟩
    ·exact ⟨e, List.mem_cons_of_mem _ he, q⟩
/-- How far the reference is. -/
structure RefInv (cs : List (Int × Int)) (all : Int) (x : Int × Int) : Prop where
 rat : Rat x
 le : DD x.1 x.2 cs ≤ all * x.2
 low : x.1 = 0 ∨ ∃ c ∈ cs, 0 < c.2 ∧ x.1 * c.2 ≤ c.1 * x.2
variable {cs : List (Int × Int)} {all : Int} {x : Int × Int}
theorem RefInv.left (h : RefInv cs all x) (hn : Nn cs) : 0 ≤ all - full x.1 x.2 cs ∧ x.1 * rest x.1 x.2 cs ≤ (all - full x.1 x.2 cs) * x.2 := by
 have h1 := h.le
 rw [DD_parts h.rat.d hn] at h1
 have h2 : 0 ≤ x.1 * rest x.1 x.2 cs := Int.mul_nonneg h.rat.n (rest_nn hn)
 have h3 : x.1 * rest x.1 x.2 cs ≤ (all - full x.1 x.2 cs) * x.2 := by rw [Int.sub_mul]; omega
 refine ⟨?_, h3⟩
 rcases Int.lt_or_le (all - full x.1 x.2 cs) 0 with hlt | hle
 ·have := Int.mul_neg_of_neg_of_pos hlt h.rat.d; omega
 ·exact hle
theorem RefInv.done (h : RefInv cs all x) (hn : Nn cs) (ha : all ≤ capS cs) (h0 : rest x.1 x.2 cs = 0) : Lv cs all x.1 x.2 := by
 refine ⟨h.rat.d, h.rat.n, h.rat.g, Int.le_antisymm h.le ?_, h.low⟩
 rw [DD_parts h.rat.d hn, h0, rest_zero hn h0, Int.mul_zero, Int.add_zero]
 exact Int.mul_le_mul_of_nonneg_right ha (Int.le_of_lt h.rat.d)
theorem RefInv.step (h : RefInv cs all x) (hn : Nn cs) (h0 : rest x.1 x.2 cs ≠ 0) {y : Int × Int} (hy : y = nextL x.1 x.2 cs (red (all - full x.1 x.2 cs) (rest x.1 x.2 cs))) :
  (y = red (all - full x.1 x.2 cs) (rest x.1 x.2 cs) → Lv cs all y.1 y.2) ∧ (y ≠ red (all - full x.1 x.2 cs) (rest x.1 x.2 cs) → RefInv cs all y ∧ unc y.1 y.2 cs < unc x.1 x.2 cs ∧ ∃ c ∈ cs, 0 < c.2 ∧ y = red c.1 c.2) := by
 obtain ⟨l0, l1⟩ := h.left hn
 have hr : 0 < rest x.1 x.2 cs := by have := rest_nn (n := x.1) (d := x.2) hn; omega
 have hx0 := red_rat hr l0
 have hq := red_eq hr l0
 have ok := nextL_ok (n := x.1) (d := x.2) hn hx0
 rw [← hy] at ok
 generalize hz : red (all - full x.1 x.2 cs) (rest x.1 x.2 cs) = z at *
 have hxz : x.1 * z.2 ≤ z.1 * x.2 := rat_trans (a := x) (b := (all - full x.1 x.2 cs, rest x.1 x.2 cs)) (c := z) h.rat.d hr hx0.d l1 (by simp only; omega)
 have hyz : y.1 * rest x.1 x.2 cs ≤ (all - full x.1 x.2 cs) * y.2 := rat_trans (a := y) (b := z) (c := (all - full x.1 x.2 cs, rest x.1 x.2 cs)) ok.rat.d hx0.d hr ok.le (by simp only; omega)
 obtain ⟨c0, hc0, p1, p2⟩ := rest_pos hn h0
 refine ⟨fun e => ?_, fun ne => ?_⟩
 ·rw [e] at ok ⊢
  refine ⟨ok.rat.d, ok.rat.n, ok.rat.g, ?_, .inr ⟨c0, hc0, p1, ok.lim c0 hc0 p1 p2⟩⟩
  rw [DD_next h.rat.d ok.rat.d hxz hn ok.lim, hq, ← Int.add_mul]
  congr 1; omega
 ·rcases ok.from' with e | ⟨c, hc, q1, q2, q3⟩
  ·exact absurd e ne
  have hcr := red_eq q1 (hn c hc).1
  rw [← q3] at hcr
  have hxy : x.1 * y.2 ≤ y.1 * x.2 := rat_trans (a := x) (b := c) (c := y) h.rat.d q1 ok.rat.d (by omega) (by omega)
  refine ⟨⟨ok.rat, ?_, .inr ⟨c, hc, q1, by omega⟩⟩, unc_lt h.rat.d ok.rat.d hxy hn ⟨c, hc, q1, q2, by omega⟩, c, hc, q1, q3⟩
  rw [DD_next h.rat.d ok.rat.d hxy hn ok.lim]
  rw [Int.sub_mul] at hyz; omega
end Go.Pay
end
section
namespace Go.Proofs.Try
open Go.AM
set_option maxRecDepth 100000
abbrev Wk := Int × Int × Int × List (ByteArray × Int) × List (Int × Int × Int × Int)
theorem seq_eq (a b : ByteArray) : seq a b = decide (a = b) := by
 unfold seq
 rw [Go.ByteArray.toList_eq, Go.ByteArray.toList_eq]
 by_cases h : a = b
 ·subst h; simp
 ·rw [decide_eq_false h, beq_eq_false_iff_ne]
  intro e; apply h
  obtain ⟨x⟩ := a; obtain ⟨y⟩ := b
  simp at e; rw [e]
theorem deq_str (a b : ByteArray) : deq .str a b = decide (a = b) := by
 rw [← seq_eq]; simp only [deq, seq, Go.ByteArray.toList_eq]
theorem k65 (a b c : Int) : run0 (F48 a b c) = some (decide (a ≤ b ∧ b ≤ c), ()) := by
 simp only [F48, run_br, run_ret, br_d]
 split <;> simp [*]
/-- A letter, or after the first place a digit. -/
def byteOk (i : Nat) (b : Int) : Bool := decide (97 ≤ b ∧ b ≤ 122) || decide (i ≠ 0 ∧ 48 ≤ b ∧ b ≤ 57)
def okL : Nat → List Int → Bool
 | _, [] => true
 | i, b :: r => byteOk i b && okL (i + 1) r
def nameOk (s : ByteArray) : Bool := okL 0 (bysL s) && decide (0 < s.size ∧ s.size ≤ 10)
theorem k67 (s : ByteArray) (hs : s.size < 1000000000) : run0 (F6 s) = some (nameOk s, ()) := by
 have hl : (bysL s).length = s.size := bysL_length s
 unfold F6
 simp only [run_bd, run_it]
 refine bind_eq (iter_list (bysL s) (fun k (_ : Nat) => (s, bysL s, ((bysL s).length : Int), (k : Int), ())) (fun i r => if okL i r = true then .inr (s, ()) else .inl ()) (fun pre i => i = pre.length) ?_ ?_ (s := 0) rfl) ?_
 ·intro pre x post i hx hi
  subst hi
  have hlen : (bysL s).length = pre.length + (post.length + 1) := by rw [hx]; simp
  have hd : (bysL s).getD pre.length 0 = x := by rw [hx]; exact getD_mid rfl
  have key : run (fun _ => none) (g6_0 (s, bysL s, ((bysL s).length : Int), (pre.length : Int), ())) = if byteOk pre.length x = true then some (.inl (s, bysL s, ((bysL s).length : Int), ((pre.length + 1 : Nat) : Int), ())) else some (.inr (.inl ())) := by
   simp only [g6_0, run_br, run_nb, run_ni, run_nd, run_ret, Int.toNat_natCast, hd, br_d, br_eq]
   rw [if_pos (by omega), need_inb (by omega) (by omega)]
   unfold byteOk; simp only [Bool.or_eq_true, decide_eq_true_eq]
   by_cases h1 : x < 97
   ·rw [if_pos h1]
    by_cases h2 : (pre.length : Int) = 0
    ·rw [if_pos h2, if_neg (by omega)]
    ·rw [if_neg h2]
     by_cases h3 : x < 48
     ·rw [if_pos h3, if_neg (by omega)]
     ·rw [if_neg h3]
      by_cases h4 : 57 < x
      ·rw [if_pos h4, if_neg (by omega)]
      ·rw [if_neg h4, if_pos, need_i64 (by omega) (by omega)]; · rfl
       omega
   ·rw [if_neg h1]
    by_cases h5 : 122 < x
    ·rw [if_pos h5]
     by_cases h2 : (pre.length : Int) = 0
     ·rw [if_pos h2, if_neg (by omega)]
     ·rw [if_neg h2]
      by_cases h3 : x < 48
      ·omega
      ·rw [if_neg h3, if_pos (by omega), if_neg (by omega)]
    ·rw [if_neg h5, if_pos, need_i64 (by omega) (by omega)]; · rfl
     omega
  rw [key]
  by_cases hb : byteOk pre.length x = true
  ·left
   exact ⟨pre.length + 1, by rw [if_pos hb], by simp, by simp [okL, hb]⟩
  ·right
   rw [if_neg hb]
   have : okL pre.length (x :: post) = false := by simp [okL, hb]
   simp [this]
 ·intro i _
  simp only [g6_0, run_br, br_d]
  rw [if_neg (by omega)]
  simp [okL, run_ret]
 ·unfold nameOk
  by_cases h : okL 0 (bysL s) = true
  ·rw [if_pos h, h]
   simp only [run_sr, run_br, run_ret, br_d]
   by_cases h0 : (0 : Int) < ((s.size : Nat) : Int)
   ·rw [if_pos h0, Bool.true_and]
    congr 2
    exact decide_eq_decide.2 (by omega)
   ·rw [if_neg h0]
    simp; omega
  ·rw [if_neg h]
   simp [h, run_sl, run_ret]
end Go.Proofs.Try
end
section
namespace Go.Proofs.Try
open Go.AM
set_option maxRecDepth 100000
theorem mget_mset {d v : Bool} (k k' : ByteArray) : ∀ m : List (ByteArray × Bool), mgetL .str d (msetL .str m k v) k' = if k' = k then v else mgetL .str d m k'
 | [] => by
  simp only [msetL, mgetL, deq_str, decide_eq_true_eq]
 | e :: r => by
  have ih := mget_mset (d := d) (v := v) k k' r
  simp only [msetL, deq_str, decide_eq_true_eq]
  by_cases h : k = e.1
  ·rw [if_pos h]
   simp only [mgetL, deq_str, decide_eq_true_eq]
   by_cases h2 : k' = k
   ·rw [if_pos h2, if_pos h2]
   ·rw [if_neg h2, if_neg h2, if_neg (by rw [← h]; exact h2)]
  ·rw [if_neg h]
   simp only [mgetL, deq_str, decide_eq_true_eq]
   rw [ih]
   by_cases h2 : k' = e.1
   ·rw [if_pos h2, if_pos h2, if_neg (by rw [h2]; exact fun e => h e.symm)]
   ·rw [if_neg h2, if_neg h2]
def memS (k : ByteArray) (s : List ByteArray) : Bool := s.any fun x => decide (x = k)
theorem memS_iff {k : ByteArray} {s : List ByteArray} : memS k s = true ↔ k ∈ s := by simp [memS]
/-- Farmers. -/
def chkF : List ByteArray → List (ByteArray × Int) → Int
 | _, [] => 0
 | seen, f :: r => if nameOk f.1 = false then 8 else if memS f.1 seen = true then 6 else if ¬ (0 ≤ f.2 ∧ f.2 ≤ 1000000000) then 2 else chkF (seen ++ [f.1]) r
/-- Wagons. -/
def chkW (n : Int) : List (Int × Int × Int × Int) → Int
 | [] => 0
 | x :: r => if ¬ (0 ≤ x.1 ∧ x.1 ≤ n - 1) then 5 else if ¬ (0 ≤ x.2.1 ∧ x.2.1 ≤ 100000) then 2 else if ¬ (0 ≤ x.2.2.1 ∧ x.2.2.1 ≤ x.2.1) then 2 else if ¬ (0 ≤ x.2.2.2 ∧ x.2.2.2 ≤ 1000) then 2 else chkW n r
def chk0 (w : Wk) : Int := if ¬ (0 ≤ w.1 ∧ w.1 ≤ 1000000000) then 2 else if ¬ (0 ≤ w.2.1 ∧ w.2.1 ≤ 1000) then 2 else if ¬ (0 ≤ w.2.2.1 ∧ w.2.2.1 ≤ 1000) then 2 else 0
def chk1 (w : Wk) : Int := if w.2.2.2.1.length = 0 then 4 else if 12 < w.2.2.2.1.length then 1 else chkF [] w.2.2.2.1
def chk2 (w : Wk) : Int := if 50 < w.2.2.2.2.length then 1 else chkW w.2.2.2.1.length w.2.2.2.2
def chk (w : Wk) : Int := if chk0 w ≠ 0 then chk0 w else if chk1 w ≠ 0 then chk1 w else chk2 w
def Names (w : Wk) : Prop := ∀ f ∈ w.2.2.2.1, f.1.size < 1000000000
theorem k46 (w : Wk) : run0 (F31 w) = some (chk0 w, ()) := by
 simp only [F31, run_bd, run_br, run_ret, k65, bindO_s, br_not, br_d, chk0]
 by_cases h1 : 0 ≤ w.1 ∧ w.1 ≤ 1000000000
 ·rw [if_pos h1, if_neg (not_not_intro h1)]
  by_cases h2 : 0 ≤ w.2.1 ∧ w.2.1 ≤ 1000
  ·rw [if_pos h2, if_neg (not_not_intro h2)]
   by_cases h3 : 0 ≤ w.2.2.1 ∧ w.2.2.1 ≤ 1000
   ·rw [if_pos h3, if_neg (not_not_intro h3)]
   ·rw [if_neg h3, if_pos h3]
  ·rw [if_neg h2, if_pos h2]
 ·rw [if_neg h1, if_pos h1]
theorem k47 (w : Wk) (hn : Names w) : run0 (F32 w) = some (chk1 w, ()) := by
 simp only [F32, run_br, run_ret, br_eq, br_d, chk1]
 by_cases h0 : w.2.2.2.1.length = 0
 ·rw [if_pos (by omega), if_pos h0]
 rw [if_neg (by omega), if_neg h0]
 by_cases h1 : 12 < w.2.2.2.1.length
 ·rw [if_pos (by omega), if_pos h1]
 rw [if_neg (by omega), if_neg h1]
 simp only [run_bd, run_it]
 refine bind_eq (iter_list w.2.2.2.1 (fun k (s : List ByteArray × List (ByteArray × Bool)) => (w.2.2.2.1, ((w.2.2.2.1.length : Nat) : Int), (k : Int), s.2, ())) (fun s r => if chkF s.1 r = 0 then .inr () else .inl (chkF s.1 r, ()))
  (fun pre s => s.1 = pre.map (·.1) ∧ ∀ k, mgetL .str false s.2 k = memS k s.1) ?_ ?_ (s := ([], [])) ⟨rfl, fun k => by simp [mgetL, memS]⟩) ?_
 ·rintro pre x post ⟨s, m⟩ hx ⟨hi, hm⟩
  simp only at hi hm
  have hlen : w.2.2.2.1.length = pre.length + (post.length + 1) := by rw [hx]; simp
  have hd : w.2.2.2.1.getD pre.length (bs [], (0 : Int)) = x := by rw [hx]; exact getD_mid rfl
  have hxn : x.1.size < 1000000000 := hn x (by rw [hx]; simp)
  have key : run (fun _ => none) (g32_0 (w.2.2.2.1, ((w.2.2.2.1.length : Nat) : Int), (pre.length : Int), m, ())) =
    if nameOk x.1 = false then some (.inr (.inl (8, ()))) else if memS x.1 s = true then some (.inr (.inl (6, ()))) else if ¬ (0 ≤ x.2 ∧ x.2 ≤ 1000000000) then some (.inr (.inl (2, ()))) else
     some (.inl (w.2.2.2.1, ((w.2.2.2.1.length : Nat) : Int), ((pre.length + 1 : Nat) : Int), msetL .str m x.1 true, ())) := by
   have hin : inb (pre.length : Int) ((w.2.2.2.1.length : Nat) : Int) = true := inb_t (by omega) (by omega)
   have hni : rng .i64 ((pre.length : Int) + 1) = true := rng_i64 (by omega) (by omega)
   simp only [g32_0, run_bd, run_br, run_nb, run_ni, run_nd, run_ret, Int.toNat_natCast, hd, br_d, br_eq, hin, hni, need_true, br_not, k67 _ hxn, k65, bindO_s, hm]
   rw [if_pos (by omega)]
   cases hb : nameOk x.1
   ·simp
   ·simp only [br_true, Bool.true_eq_false, if_false]
    by_cases h2 : memS x.1 s = true
    ·rw [br_if, if_pos h2, if_pos h2]
    ·rw [br_if, if_neg h2, if_neg h2]
     by_cases h3 : 0 ≤ x.2 ∧ x.2 ≤ 1000000000
     ·rw [if_pos h3, if_neg (not_not_intro h3)]; rfl
     ·rw [if_neg h3, if_pos h3]
  rw [key]
  simp only [chkF]
  by_cases c1 : nameOk x.1 = false
  ·right; simp only [if_pos c1]; simp
  simp only [if_neg c1]
  by_cases c2 : memS x.1 s = true
  ·right; simp only [if_pos c2]; simp
  simp only [if_neg c2]
  by_cases c3 : ¬ (0 ≤ x.2 ∧ x.2 ≤ 1000000000)
  ·right; simp only [if_pos c3]; simp
  simp only [if_neg c3]
  left
  refine ⟨(s ++ [x.1], msetL .str m x.1 true), rfl, ⟨by simp [hi], fun k => ?_⟩, rfl⟩
  rw [mget_mset, hm]
  by_cases hk : k = x.1
  ·simp [hk, memS]
  ·rw [if_neg hk]
   have : ¬ x.1 = k := fun e => hk e.symm
   simp [memS, this]
 ·rintro ⟨s, m⟩ _
  simp only [g32_0, run_br, br_d]
  rw [if_neg (by omega)]
  simp [chkF, run_ret]
 ·by_cases h : chkF [] w.2.2.2.1 = 0
  ·simp only [h, if_true, run_sr, run_ret]
  ·simp only [h, if_false, run_sl, run_ret]
theorem k48 (w : Wk) (h12 : w.2.2.2.1.length ≤ 1000000000) : run0 (F33 w) = some (chk2 w, ()) := by
 simp only [F33, run_br, run_ret, br_eq, br_d, chk2]
 by_cases h1 : 50 < w.2.2.2.2.length
 ·rw [if_pos (by omega), if_pos h1]
 rw [if_neg (by omega), if_neg h1]
 simp only [run_bd, run_it]
 refine bind_eq (iter_list w.2.2.2.2 (fun k (_ : Unit) => (w.2.2.2.2, ((w.2.2.2.2.length : Nat) : Int), (k : Int), w.1, w.2.1, w.2.2.1, w.2.2.2.1, w.2.2.2.2, ())) (fun _ r => if chkW w.2.2.2.1.length r = 0 then .inr () else .inl (chkW w.2.2.2.1.length r, ()))
  (fun pre s => True) ?_ ?_ (s := ()) trivial) ?_
 ·rintro pre x post _ hx -
  have hlen : w.2.2.2.2.length = pre.length + (post.length + 1) := by rw [hx]; simp
  have hd : w.2.2.2.2.getD pre.length ((0 : Int), ((0 : Int), ((0 : Int), (0 : Int)))) = x := by rw [hx]; exact getD_mid rfl
  have key : run (fun _ => none) (g33_0 (w.2.2.2.2, ((w.2.2.2.2.length : Nat) : Int), (pre.length : Int), w.1, w.2.1, w.2.2.1, w.2.2.2.1, w.2.2.2.2, ())) =
    if ¬ (0 ≤ x.1 ∧ x.1 ≤ (w.2.2.2.1.length : Int) - 1) then some (.inr (.inl (5, ()))) else if ¬ (0 ≤ x.2.1 ∧ x.2.1 ≤ 100000) then some (.inr (.inl (2, ()))) else if ¬ (0 ≤ x.2.2.1 ∧ x.2.2.1 ≤ x.2.1) then some (.inr (.inl (2, ()))) else
     if ¬ (0 ≤ x.2.2.2 ∧ x.2.2.2 ≤ 1000) then some (.inr (.inl (2, ()))) else some (.inl (w.2.2.2.2, ((w.2.2.2.2.length : Nat) : Int), ((pre.length + 1 : Nat) : Int), w.1, w.2.1, w.2.2.1, w.2.2.2.1, w.2.2.2.2, ())) := by
   have hin : inb (pre.length : Int) ((w.2.2.2.2.length : Nat) : Int) = true := inb_t (by omega) (by omega)
   have hni : rng .i64 ((pre.length : Int) + 1) = true := rng_i64 (by omega) (by omega)
   have hn1 : rng .i64 ((w.2.2.2.1.length : Int) - 1) = true := rng_i64 (by omega) (by omega)
   simp only [g33_0, run_bd, run_br, run_nb, run_ni, run_nd, run_ret, Int.toNat_natCast, hd, br_d, br_eq, hin, hni, hn1, need_true, br_not, k65, bindO_s, ite_not]
   rw [if_pos (by omega)]
   rfl
  rw [key]
  simp only [chkW]
  by_cases c1 : ¬ (0 ≤ x.1 ∧ x.1 ≤ (w.2.2.2.1.length : Int) - 1)
  ·right; simp only [if_pos c1]; simp
  simp only [if_neg c1]
  by_cases c2 : ¬ (0 ≤ x.2.1 ∧ x.2.1 ≤ 100000)
  ·right; simp only [if_pos c2]; simp
  simp only [if_neg c2]
  by_cases c3 : ¬ (0 ≤ x.2.2.1 ∧ x.2.2.1 ≤ x.2.1)
  ·right; simp only [if_pos c3]; simp
  simp only [if_neg c3]
  by_cases c4 : ¬ (0 ≤ x.2.2.2 ∧ x.2.2.2 ≤ 1000)
  ·right; simp only [if_pos c4]; simp
  simp only [if_neg c4]
  left
  refine ⟨(), ?_⟩; simp
 ·rintro _ _
  simp only [g33_0, run_br, br_d]
  rw [if_neg (by omega)]
  simp [chkW, run_ret]
 ·by_cases h : chkW w.2.2.2.1.length w.2.2.2.2 = 0
  ·simp only [h, if_true, run_sr, run_ret]
  ·simp only [h, if_false, run_sl, run_ret]
theorem k22 (w : Wk) (hn : Names w) : run0 (F13 w) = some (chk w, ()) := by
 have hni1 : rng .i64 ((0 : Int) + 1) = true := rng_i64 (by omega) (by omega)
 have hni2 : rng .i64 ((1 : Int) + 1) = true := rng_i64 (by omega) (by omega)
 have hni3 : rng .i64 ((2 : Int) + 1) = true := rng_i64 (by omega) (by omega)
 simp only [F13, run_br, run_bd, run_ret, br_d, k46, k47 w hn, bindO_s, br_not, br_eq, run_ni, hni1, hni2, hni3, need_true]
 rw [if_pos (by omega)]
 unfold chk
 by_cases h0 : chk0 w = 0
 ·simp only [h0, if_true, ne_eq, not_true, if_false]
  rw [if_pos (by omega)]
  by_cases h1 : chk1 w = 0
  ·simp only [h1, if_true, not_true, if_false]
   rw [if_pos (by omega)]
   have h12 : w.2.2.2.1.length ≤ 1000000000 := by
    unfold chk1 at h1
    split at h1; · omega
    split at h1 <;> omega
   simp only [k48 w h12, bindO_s]
   by_cases h2 : chk2 w = 0
   ·simp only [h2, if_true]; rw [if_neg (by omega)]
   ·simp only [h2, if_false]
  ·simp only [h1, if_false, not_false_eq_true, if_true]
 ·simp only [h0, if_false, ne_eq, not_false_eq_true, if_true]
end Go.Proofs.Try
end
section
namespace Go.Proofs.Try
open Go.AM
set_option maxRecDepth 100000
end Go.Proofs.Try
end
section
namespace Go.Proofs.Try
open Go.AM
structure OkW (w : Wk) : Prop where
 pot : 0 ≤ w.1 ∧ w.1 ≤ 1000000000
 scale : 0 ≤ w.2.1 ∧ w.2.1 ≤ 1000
 lab : 0 ≤ w.2.2.1 ∧ w.2.2.1 ≤ 1000
 some : 0 < w.2.2.2.1.length
 many : w.2.2.2.1.length ≤ 12
 cap : ∀ f ∈ w.2.2.2.1, 0 ≤ f.2 ∧ f.2 ≤ 1000000000
 name : ∀ f ∈ w.2.2.2.1, nameOk f.1 = true
 twice : (w.2.2.2.1.map (·.1)).Nodup
 wagons : w.2.2.2.2.length ≤ 50
 wagon : ∀ x ∈ w.2.2.2.2, 0 ≤ x.1 ∧ x.1 < w.2.2.2.1.length ∧ 0 ≤ x.2.2.1 ∧ x.2.2.1 ≤ x.2.1 ∧ x.2.1 ≤ 100000 ∧ 0 ≤ x.2.2.2 ∧ x.2.2.2 ≤ 1000
theorem chkF_ok : ∀ {fs : List (ByteArray × Int)} {seen : List ByteArray}, chkF seen fs = 0 → (∀ f ∈ fs, nameOk f.1 = true ∧ f.1 ∉ seen ∧ 0 ≤ f.2 ∧ f.2 ≤ 1000000000) ∧ (fs.map (·.1)).Nodup
 | [], _, _ => by simp
 | f :: r, seen, h => by
  simp only [chkF] at h
  split at h; · omega
  split at h; · omega
  split at h; · omega
  rename_i h1 h2 h3
  rw [memS_iff] at h2
  obtain ⟨q1, q2⟩ := chkF_ok h
  refine ⟨fun g hg => ?_, ?_⟩
  ·rcases List.mem_cons.1 hg with rfl | hg
   ·exact ⟨by simpa using h1, h2, by omega, by omega⟩
   ·obtain ⟨a, b, c⟩ := q1 g hg
    exact ⟨a, fun e => b (by simp [e]), c⟩
  ·rw [List.map_cons, List.nodup_cons]
   refine ⟨fun hm => ?_, q2⟩
   obtain ⟨g, hg, e⟩ := List.mem_map.1 hm
   exact (q1 g hg).2.1 (by simp [e])
theorem chkW_ok {n : Int} : ∀ {ws : List (Int × Int × Int × Int)}, chkW n ws = 0 → ∀ x ∈ ws, 0 ≤ x.1 ∧ x.1 < n ∧ 0 ≤ x.2.2.1 ∧ x.2.2.1 ≤ x.2.1 ∧ x.2.1 ≤ 100000 ∧ 0 ≤ x.2.2.2 ∧ x.2.2.2 ≤ 1000
 | [], _ => by simp
 | x :: r, h => by
  simp only [chkW] at h
  split at h; · omega
  split at h; · omega
  split at h; · omega
  split at h; · omega
  intro y hy
  rcases List.mem_cons.1 hy with rfl | hy
  ·omega
  ·exact chkW_ok h y hy
theorem chk_ok {w : Wk} (h : chk w = 0) : OkW w := by
 unfold chk at h
 split at h; · contradiction
 split at h; · contradiction
 rename_i h0 h1
 have h0 : chk0 w = 0 := by simpa using h0
 have h1 : chk1 w = 0 := by simpa using h1
 unfold chk0 at h0
 split at h0; · omega
 split at h0; · omega
 split at h0; · omega
 unfold chk1 at h1
 split at h1; · omega
 split at h1; · omega
 unfold chk2 at h
 split at h; · omega
 obtain ⟨q1, q2⟩ := chkF_ok h1
 exact ⟨by omega, by omega, by omega, by omega, by omega, fun f hf => (q1 f hf).2.2, fun f hf => (q1 f hf).1, q2, by omega, chkW_ok h⟩
/-- Sums of wagons, for each farmer. -/
def upd (h : Int × Int × Int × Int → Int) (l : List Int) (x : Int × Int × Int × Int) : List Int := l.set x.1.toNat (l.getD x.1.toNat 0 + h x)
def sugarL (h : Int × Int × Int × Int → Int) (n : Nat) (ws : List (Int × Int × Int × Int)) : List Int := ws.foldl (upd h) (List.replicate n 0)
theorem upd_len (h : Int × Int × Int × Int → Int) (l : List Int) (x : Int × Int × Int × Int) : (upd h l x).length = l.length := by simp [upd]
theorem foldl_upd_len (h : Int × Int × Int × Int → Int) : ∀ (ws : List (Int × Int × Int × Int)) (l : List Int), (ws.foldl (upd h) l).length = l.length
 | [], _ => rfl
 | x :: ws, l => by rw [List.foldl_cons, foldl_upd_len h ws, upd_len]
theorem sugarL_len (h : Int × Int × Int × Int → Int) (n : Nat) (ws : List (Int × Int × Int × Int)) : (sugarL h n ws).length = n := by
 rw [sugarL, foldl_upd_len, List.length_replicate]
/-- All are from 0 to b. -/
def Bd (b : Int) (l : List Int) : Prop := ∀ y ∈ l, 0 ≤ y ∧ y ≤ b
theorem Bd.getD {b : Int} {l : List Int} (h : Bd b l) (hb : 0 ≤ b) (k : Nat) : 0 ≤ l.getD k 0 ∧ l.getD k 0 ≤ b := by
 rw [List.getD_eq_getElem?_getD]
 by_cases hk : k < l.length
 ·rw [List.getElem?_eq_getElem hk]; exact h _ (List.getElem_mem hk)
 ·rw [List.getElem?_eq_none (by omega)]; simpa using hb
theorem Bd.mono {b c : Int} {l : List Int} (h : Bd b l) (hb : b ≤ c) : Bd c l := fun y hy => ⟨(h y hy).1, by have := (h y hy).2; omega⟩
theorem Bd.upd {b K : Int} {h : Int × Int × Int × Int → Int} {l : List Int} {x : Int × Int × Int × Int} (hl : Bd b l) (hb : 0 ≤ b) (hx : 0 ≤ h x ∧ h x ≤ K) : Bd (b + K) (upd h l x) := by
 intro y hy
 rcases List.mem_or_eq_of_mem_set hy with hy | hy
 ·have := hl y hy; omega
 ·have := hl.getD hb x.1.toNat; omega
theorem Bd.foldl {K : Int} {h : Int × Int × Int × Int → Int} : ∀ {ws : List (Int × Int × Int × Int)} {l : List Int} {b : Int}, Bd b l → 0 ≤ b → (∀ x ∈ ws, 0 ≤ h x ∧ h x ≤ K) → Bd (b + K * ws.length) (ws.foldl (Try.upd h) l)
 | [], l, b, hl, _, _ => by simpa using hl
 | x :: ws, l, b, hl, hb, hh => by
  have h1 := hh x (List.mem_cons_self ..)
  have := Bd.foldl (ws := ws) (Bd.upd hl hb h1) (by omega) (fun y hy => hh y (List.mem_cons_of_mem _ hy))
  rw [List.foldl_cons, List.length_cons]
  have e : b + K + K * (ws.length : Int) = b + K * ((ws.length + 1 : Nat) : Int) := by rw [Int.natCast_add, Int.mul_add]; omega
  rw [e] at this; exact this
theorem sugarL_bd {K : Int} {h : Int × Int × Int × Int → Int} {n : Nat} {ws : List (Int × Int × Int × Int)} (hh : ∀ x ∈ ws, 0 ≤ h x ∧ h x ≤ K) : Bd (K * ws.length) (sugarL h n ws) := by
 have := Bd.foldl (l := List.replicate n 0) (b := 0) (fun y hy => by simp at hy; omega) (by omega) hh
 simpa [sugarL] using this
/-- What a wagon brings: read; the least, the most. -/
def hRead (x : Int × Int × Int × Int) : Int := (x.2.1 - x.2.2.1) * x.2.2.2
def hLeast (w : Wk) (x : Int × Int × Int × Int) : Int := max 0 (x.2.1 - x.2.2.1 - 2 * w.2.1) * max 0 (x.2.2.2 - w.2.2.1)
def hMost (w : Wk) (x : Int × Int × Int × Int) : Int := (x.2.1 - x.2.2.1 + 2 * w.2.1) * min 1000 (x.2.2.2 + w.2.2.1)
def sRead (w : Wk) : List Int := sugarL hRead w.2.2.2.1.length w.2.2.2.2
def sLeast (w : Wk) : List Int := sugarL (hLeast w) w.2.2.2.1.length w.2.2.2.2
def sMost (w : Wk) : List Int := sugarL (hMost w) w.2.2.2.1.length w.2.2.2.2
theorem mul_bd {a b A B : Int} (h1 : 0 ≤ a) (h2 : a ≤ A) (h3 : 0 ≤ b) (h4 : b ≤ B) : 0 ≤ a * b ∧ a * b ≤ A * B :=
 ⟨Int.mul_nonneg h1 h3, Int.le_trans (Int.mul_le_mul_of_nonneg_right h2 h3) (Int.mul_le_mul_of_nonneg_left h4 (by omega))⟩
variable {w : Wk}
theorem OkW.hRead (h : OkW w) : ∀ x ∈ w.2.2.2.2, 0 ≤ hRead x ∧ hRead x ≤ 100000000 := fun x hx => by
 have := h.wagon x hx
 exact mul_bd (A := 100000) (B := 1000) (by omega) (by omega) (by omega) (by omega)
theorem OkW.hLeast (h : OkW w) : ∀ x ∈ w.2.2.2.2, 0 ≤ hLeast w x ∧ hLeast w x ≤ 100000000 := fun x hx => by
 have := h.wagon x hx
 have := h.scale; have := h.lab
 exact mul_bd (A := 100000) (B := 1000) (by omega) (by omega) (by omega) (by omega)
theorem OkW.hMost (h : OkW w) : ∀ x ∈ w.2.2.2.2, 0 ≤ hMost w x ∧ hMost w x ≤ 102000000 := fun x hx => by
 have := h.wagon x hx
 have := h.scale; have := h.lab
 exact mul_bd (A := 102000) (B := 1000) (by omega) (by omega) (by omega) (by omega)
end Go.Proofs.Try
end
section
namespace Go.Proofs.Try
open Go.AM
set_option maxRecDepth 100000
theorem imax_eq (a b : Int) : imax a b = max a b := by simp only [imax]; split <;> omega
theorem imin_eq (a b : Int) : imin a b = min a b := by simp only [imin]; split <;> omega
theorem k44 {a b : Int} (h : -9223372036854775808 ≤ a * b ∧ a * b ≤ 9223372036854775807) : run0 (F17 a b) = some (a * b, ()) := by
 simp only [F17, run_ni, run_ret]
 rw [need_i64 h.1 h.2]
theorem k42 {w : Wk} (hw : OkW w) {x : Int × Int × Int × Int} (hx : x ∈ w.2.2.2.2) : run0 (F15 w (x.2.1 - x.2.2.1) x.2.2.2) = some (hLeast w x, ()) := by
 have := hw.wagon x hx; have := hw.scale; have := hw.lab
 have h2 := hw.hLeast x hx
 simp only [F15, run_ni, run_ret, imax_eq]
 rw [need_i64 (by omega) (by omega), need_i64 (by omega) (by omega), need_i64 (by omega) (by omega), need_i64 (by unfold hLeast at h2; omega) (by unfold hLeast at h2; omega)]
 rfl
theorem k43 {w : Wk} (hw : OkW w) {x : Int × Int × Int × Int} (hx : x ∈ w.2.2.2.2) : run0 (F16 w (x.2.1 - x.2.2.1) x.2.2.2) = some (hMost w x, ()) := by
 have := hw.wagon x hx; have := hw.scale; have := hw.lab
 have h2 := hw.hMost x hx
 simp only [F16, run_ni, run_ret, imin_eq]
 rw [need_i64 (by omega) (by omega), need_i64 (by omega) (by omega), need_i64 (by omega) (by omega), need_i64 (by unfold hMost at h2; omega) (by unfold hMost at h2; omega)]
 rfl
theorem iter_sugar {A B : Type} {f : A → Option (A ⊕ B)} {h : Int × Int × Int × Int → Int} {K : Int} {n : Nat} {ws : List (Int × Int × Int × Int)} (mk : Nat → List Int → A) (out : List Int → B) (hb : ∀ x ∈ ws, 0 ≤ h x ∧ h x ≤ K)
  (hs : ∀ pre x post l, ws = pre ++ x :: post → l.length = n → Bd (K * pre.length) l → f (mk pre.length l) = some (.inl (mk (pre.length + 1) (upd h l x))))
  (he : ∀ l, f (mk ws.length l) = some (.inr (out l))) : iter f (mk 0 (List.replicate n 0)) = some (out (sugarL h n ws)) := by
 refine iter_list ws mk (fun l r => out (r.foldl (upd h) l)) (fun pre l => l.length = n ∧ Bd (K * pre.length) l) ?_ ?_ (s := List.replicate n 0) ⟨by simp, fun y hy => by simp at hy; simp; omega⟩
 ·rintro pre x post l hx ⟨h1, h2⟩
  left
  refine ⟨upd h l x, hs pre x post l hx h1 h2, ⟨by rw [upd_len, h1], ?_⟩, rfl⟩
  have hxx := hb x (by rw [hx]; simp)
  have := Bd.upd (h := h) (x := x) h2 (by
   have : 0 ≤ K := by omega
   exact Int.mul_nonneg this (by omega)) hxx
  have e : K * (pre.length : Int) + K = K * ((pre ++ [x]).length : Int) := by rw [List.length_append, List.length_cons, List.length_nil, Int.natCast_add, Int.mul_add]; omega
  rw [← e]; exact this
 ·rintro l _; exact he l
theorem small_mul {K : Int} {n : Nat} (h0 : 0 ≤ K) (hK : K ≤ 1000000000) (hn : n ≤ 100) : 0 ≤ K * (n : Int) ∧ K * (n : Int) ≤ 100000000000 := by
 have := mul_bd (a := K) (b := (n : Int)) (A := 1000000000) (B := 100) h0 hK (by omega) (by omega)
 omega
section
variable {w : Wk} (hw : OkW w)
include hw
theorem k41 : run0 (F14_v2 w) = some (sRead w, ()) := by
 have hm := hw.many; have hwg := hw.wagons
 simp only [F14_v2, run_nb, run_nd, run_bd, run_it, run_ret, Int.toNat_natCast]
 rw [need_inbig (by omega) (by omega)]
 refine bind_eq (iter_sugar (h := hRead) (K := 100000000) (n := w.2.2.2.1.length) (ws := w.2.2.2.2) (fun k l => (w.2.2.2.1.length, w.2.2.2.2, ((w.2.2.2.2.length : Nat) : Int), (k : Int), l, ())) (fun l => (w.2.2.2.1.length, l, ())) hw.hRead ?_ ?_) ?_
 ·intro pre x post l hx hl hb
  have hlen : w.2.2.2.2.length = pre.length + (post.length + 1) := by rw [hx]; simp
  have hd : w.2.2.2.2.getD pre.length ((0 : Int), ((0 : Int), ((0 : Int), (0 : Int)))) = x := by rw [hx]; exact getD_mid rfl
  have hxm : x ∈ w.2.2.2.2 := by rw [hx]; simp
  have hx1 := hw.wagon x hxm; have hx2 := hw.hRead x hxm
  have hsm := small_mul (K := 100000000) (n := pre.length) (by omega) (by omega) (by omega)
  have hg := hb.getD hsm.1 x.1.toNat
  have hin : inb (pre.length : Int) ((w.2.2.2.2.length : Nat) : Int) = true := inb_t (by omega) (by omega)
  have hin2 : inb x.1 ((w.2.2.2.1.length : Nat) : Int) = true := inb_t (by omega) (by omega)
  have hlt : decide (0 + x.1.toNat < l.length) = true := decide_eq_true (by omega)
  simp only [g14_v2_0, run_br, run_nb, run_ni, run_nd, run_bd, run_ret, Int.toNat_natCast, hd, br_d, hin, hin2, hlt, need_true]
  rw [if_pos (by omega), need_i64 (by omega) (by omega)]
  simp only [k44 (a := x.2.1 - x.2.2.1) (b := x.2.2.2) (by unfold hRead at hx2; omega), bindO_s, Nat.zero_add]
  unfold hRead at hx2
  rw [need_i64 (by omega) (by omega), need_i64 (by omega) (by omega)]
  rfl
 ·intro l
  simp only [g14_v2_0, run_br, br_d]
  rw [if_neg (by omega)]
  rfl
 ·simp only [List.drop_zero]
  rw [List.take_of_length_le (by rw [sugarL_len]; exact Nat.le_refl _)]
  rfl
theorem k41_v1 : run0 (F14 w w) = some (sLeast w, ()) := by
 have hm := hw.many; have hwg := hw.wagons
 simp only [F14, run_nb, run_nd, run_bd, run_it, run_ret, Int.toNat_natCast]
 rw [need_inbig (by omega) (by omega)]
 refine bind_eq (iter_sugar (h := hLeast w) (K := 100000000) (n := w.2.2.2.1.length) (ws := w.2.2.2.2) (fun k l => (w, w.2.2.2.1.length, w.2.2.2.2, ((w.2.2.2.2.length : Nat) : Int), (k : Int), l, ())) (fun l => (w.2.2.2.1.length, l, ())) hw.hLeast ?_ ?_) ?_
 ·intro pre x post l hx hl hb
  have hlen : w.2.2.2.2.length = pre.length + (post.length + 1) := by rw [hx]; simp
  have hd : w.2.2.2.2.getD pre.length ((0 : Int), ((0 : Int), ((0 : Int), (0 : Int)))) = x := by rw [hx]; exact getD_mid rfl
  have hxm : x ∈ w.2.2.2.2 := by rw [hx]; simp
  have hx1 := hw.wagon x hxm; have hx2 := hw.hLeast x hxm
  have hsm := small_mul (K := 100000000) (n := pre.length) (by omega) (by omega) (by omega)
  have hg := hb.getD hsm.1 x.1.toNat
  have hin : inb (pre.length : Int) ((w.2.2.2.2.length : Nat) : Int) = true := inb_t (by omega) (by omega)
  have hin2 : inb x.1 ((w.2.2.2.1.length : Nat) : Int) = true := inb_t (by omega) (by omega)
  have hlt : decide (0 + x.1.toNat < l.length) = true := decide_eq_true (by omega)
  simp only [g14_0, run_br, run_nb, run_ni, run_nd, run_bd, run_ret, Int.toNat_natCast, hd, br_d, hin, hin2, hlt, need_true]
  rw [if_pos (by omega), need_i64 (by omega) (by omega)]
  simp only [k42 hw hxm, bindO_s, Nat.zero_add]
  rw [need_i64 (by omega) (by omega), need_i64 (by omega) (by omega)]
  rfl
 ·intro l
  simp only [g14_0, run_br, br_d]
  rw [if_neg (by omega)]
  rfl
 ·simp only [List.drop_zero]
  rw [List.take_of_length_le (by rw [sugarL_len]; exact Nat.le_refl _)]
  rfl
theorem k41_v2 : run0 (F14_v1 w w) = some (sMost w, ()) := by
 have hm := hw.many; have hwg := hw.wagons
 simp only [F14_v1, run_nb, run_nd, run_bd, run_it, run_ret, Int.toNat_natCast]
 rw [need_inbig (by omega) (by omega)]
 refine bind_eq (iter_sugar (h := hMost w) (K := 102000000) (n := w.2.2.2.1.length) (ws := w.2.2.2.2) (fun k l => (w, w.2.2.2.1.length, w.2.2.2.2, ((w.2.2.2.2.length : Nat) : Int), (k : Int), l, ())) (fun l => (w.2.2.2.1.length, l, ())) hw.hMost ?_ ?_) ?_
 ·intro pre x post l hx hl hb
  have hlen : w.2.2.2.2.length = pre.length + (post.length + 1) := by rw [hx]; simp
  have hd : w.2.2.2.2.getD pre.length ((0 : Int), ((0 : Int), ((0 : Int), (0 : Int)))) = x := by rw [hx]; exact getD_mid rfl
  have hxm : x ∈ w.2.2.2.2 := by rw [hx]; simp
  have hx1 := hw.wagon x hxm; have hx2 := hw.hMost x hxm
  have hsm := small_mul (K := 102000000) (n := pre.length) (by omega) (by omega) (by omega)
  have hg := hb.getD hsm.1 x.1.toNat
  have hin : inb (pre.length : Int) ((w.2.2.2.2.length : Nat) : Int) = true := inb_t (by omega) (by omega)
  have hin2 : inb x.1 ((w.2.2.2.1.length : Nat) : Int) = true := inb_t (by omega) (by omega)
  have hlt : decide (0 + x.1.toNat < l.length) = true := decide_eq_true (by omega)
  simp only [g14_v1_0, run_br, run_nb, run_ni, run_nd, run_bd, run_ret, Int.toNat_natCast, hd, br_d, hin, hin2, hlt, need_true]
  rw [if_pos (by omega), need_i64 (by omega) (by omega)]
  simp only [k43 hw hxm, bindO_s, Nat.zero_add]
  rw [need_i64 (by omega) (by omega), need_i64 (by omega) (by omega)]
  rfl
 ·intro l
  simp only [g14_v1_0, run_br, br_d]
  rw [if_neg (by omega)]
  rfl
 ·simp only [List.drop_zero]
  rw [List.take_of_length_le (by rw [sugarL_len]; exact Nat.le_refl _)]
  rfl
end
end Go.Proofs.Try
end
section
namespace Go.Proofs.Try
open Go.AM
set_option maxRecDepth 100000
theorem zip_getD {A B : Type} {a : List A} {b : List B} {i : Nat} {x : A} {y : B} (h1 : i < a.length) (h2 : i < b.length) : (a.zip b).getD i (x, y) = (a.getD i x, b.getD i y) := by
 simp only [List.getD_eq_getElem?_getD]
 rw [List.getElem?_eq_getElem h1, List.getElem?_eq_getElem h2, List.getElem?_eq_getElem (by rw [List.length_zip]; omega), List.getElem_zip]
 rfl
theorem getD_set_self {A : Type} {l : List A} {i : Nat} {x d : A} (h : i < l.length) : (l.set i x).getD i d = x := by
 simp [List.getD_eq_getElem?_getD, h]
/-- Small enough to be reckoned. -/
structure Sm (w : Wk) : Prop where
 fl : w.2.2.2.1.length ≤ 30
 wl : w.2.2.2.2.length ≤ 100
 nl : ∀ f ∈ w.2.2.2.1, f.1.size ≤ 100
theorem Sm.names {w : Wk} (h : Sm w) : Names w := fun f hf => by have := h.nl f hf; omega
end Go.Proofs.Try
end
section
namespace Go.Proofs.Try
open Go.AM
set_option maxRecDepth 100000
theorem zip_at {A B : Type} {d : A} {e : B} {x : A × B} {post : List (A × B)} : ∀ {pre : List (A × B)} {a : List A} {b : List B}, a.zip b = pre ++ x :: post → a.getD pre.length d = x.1 ∧ b.getD pre.length e = x.2
 | [], [], _, h => by simp at h
 | [], _ :: _, [], h => by simp at h
 | [], p :: a, q :: b, h => by simp at h; simp [← h.1]
 | _ :: _, [], _, h => by simp at h
 | _ :: _, _ :: _, [], h => by simp at h
 | y :: pre, p :: a, q :: b, h => by
  simp only [List.zip_cons_cons, List.cons_append, List.cons.injEq] at h
  have := zip_at (d := d) (e := e) h.2
  simpa using this
theorem sLeast_len (w : Wk) : (sLeast w).length = w.2.2.2.1.length := sugarL_len ..
theorem sMost_len (w : Wk) : (sMost w).length = w.2.2.2.1.length := sugarL_len ..
/-- What is said of sugar. -/
noncomputable def sugar (w : Wk) : List Int × List (Int × Int) × Int × Unit := if chk w = 0 then (sRead w, (sLeast w).zip (sMost w), 0, ()) else ([], [], chk w, ())
theorem k17 (w : Wk) (hn : Names w) : run0 (F7 w) = some (sugar w) := by
 simp only [F7, run_bd, run_br, run_ret, k22 w hn, bindO_s, br_not, br_eq, run_it]
 unfold sugar
 by_cases h : chk w = 0
 case neg => rw [if_neg h, if_neg h]
 rw [if_pos h, if_pos h]
 have hw := chk_ok h
 have hm := hw.many
 simp only [k41_v1 hw, k41_v2 hw, bindO_s]
 have hzl : ((sLeast w).zip (sMost w)).length = w.2.2.2.1.length := by rw [List.length_zip, sLeast_len, sMost_len]; omega
 refine bind_eq (iter_list ((sLeast w).zip (sMost w)) (fun k (l : List (Int × Int)) => (l.length, sLeast w, sMost w, (((sLeast w).length : Nat) : Int), (k : Int), w.1, w.2.1, w.2.2.1, w.2.2.2.1, w.2.2.2.2, l, ())) (fun l r => ((l ++ r).length, w.1, w.2.1, w.2.2.1, w.2.2.2.1, w.2.2.2.2, l ++ r, ())) (fun pre l => l = pre) ?_ ?_ (s := []) rfl) ?_
 ·rintro pre x post l hx rfl
  left
  have hlen : w.2.2.2.1.length = l.length + (post.length + 1) := by rw [← hzl, hx]; simp
  obtain ⟨d1, d2⟩ := zip_at (d := (0 : Int)) (e := (0 : Int)) hx
  have hin : inb (l.length : Int) (((sLeast w).length : Nat) : Int) = true := inb_t (by omega) (by rw [sLeast_len]; omega)
  have hin2 : inb (l.length : Int) (((sMost w).length : Nat) : Int) = true := inb_t (by omega) (by rw [sMost_len]; omega)
  have hni : rng .i64 ((l.length : Int) + 1) = true := rng_i64 (by omega) (by omega)
  refine ⟨l ++ [x], ?_, rfl, by simp⟩
  simp only [g7_0, run_br, run_nb, run_ni, run_nd, run_ret, Int.toNat_natCast, d1, d2, br_d, hin, hin2, hni, need_true, List.drop_zero, List.take_length, List.take_succ_cons, List.take_zero, List.length_cons, List.length_nil, Nat.zero_add]
  rw [if_pos (by rw [sLeast_len]; omega), need_lenbig (by omega)]
  simp
 ·rintro l rfl
  simp only [g7_0, run_br, br_d]
  rw [if_neg (by rw [hzl, sLeast_len]; omega)]
  simp [run_ret]
 ·simp only [List.nil_append, k41 hw, bindO_s, List.drop_zero, List.take_length]
end Go.Proofs.Try
end
section
namespace Go.Proofs.Try
open Go.AM
set_option maxRecDepth 100000
abbrev Cl := (ByteArray × Int) × Int × Int
def pr (c : Cl) : Int × Int := (c.1.2, c.2.2)
structure GoodC (c : Cl) : Prop where
 c0 : 0 ≤ c.1.2
 c1 : c.1.2 ≤ 1000000000
 s0 : 0 ≤ c.2.2
 s1 : c.2.2 ≤ 6000000000
def GoodP (c : Cl) : Prop := GoodC c ∧ 0 < c.2.2
def cmpI (a b : Int) : Int := if a < b then -1 else if b < a then 1 else 0
theorem cmpI_neg {a b : Int} : cmpI a b < 0 ↔ a < b := by
 unfold cmpI; split
 ·simp [*]
 ·split <;> simp [*]
theorem cmpI_le {a b : Int} : cmpI a b ≤ 0 ↔ a ≤ b := by
 unfold cmpI; split
 ·simp; omega
 ·split <;> simp <;> omega
theorem pr_eta {A B : Type} (p : A × B) : (p.1, p.2) = p := rfl
theorem k76 (a : Int) : run0 (F40 a) = some (false, ()) := by simp [F40, run_ret]
theorem k59 (a b : Int) : run0 (F25 a b) = some (cmpI a b, ()) := by
 simp only [F25, run_bd, run_br, run_ret, k76, bindO_s, br_false, br_d, cmpI]
 split
 ·rfl
 ·split <;> rfl
theorem k70 {a b : Int × Int} (h1 : 0 ≤ a.1 * b.2 ∧ a.1 * b.2 ≤ 9000000000000000000) (h2 : 0 ≤ b.1 * a.2 ∧ b.1 * a.2 ≤ 9000000000000000000) : run0 (F35 a b) = some (cmpI (a.1 * b.2) (b.1 * a.2), ()) := by
 simp only [F35, run_ni, run_bd, run_ret, k59, bindO_s]
 rw [need_i64 (by omega) (by omega), need_i64 (by omega) (by omega)]
theorem k71 (n : ByteArray) (c : Int) (p : Int × Int) : run0 (F36 (n, c, p)) = some ((c, p.2), ()) := by simp [F36, run_ret]
theorem GoodC.mul {a b : Cl} (ha : GoodC a) (hb : GoodC b) : 0 ≤ a.1.2 * b.2.2 ∧ a.1.2 * b.2.2 ≤ 9000000000000000000 := by
 have := mul_bd ha.c0 ha.c1 hb.s0 hb.s1
 omega
theorem k82 {a b : Cl} (ha : GoodC a) (hb : GoodC b) : run0 (F53 (a.1.1, a.1.2, a.2) (b.1.1, b.1.2, b.2)) = some (cmpI (a.1.2 * b.2.2) (b.1.2 * a.2.2), ()) := by
 simp only [F53, run_bd, run_ret, k71, bindO_s]
 rw [bind_of (k70 (a := (a.1.2, a.2.2)) (b := (b.1.2, b.2.2)) (ha.mul hb) (hb.mul ha))]
def ltL (x y : Cl) : Bool := decide (x.1.2 * y.2.2 < y.1.2 * x.2.2)
theorem ordL : OrdOn ltL GoodP where
 asym a b _ _ h := by
  simp only [ltL, decide_eq_true_eq, decide_eq_false_iff_not] at h ⊢; omega
 ntr a b c ha hb hc h1 h2 := by
  simp only [ltL, decide_eq_false_iff_not] at h1 h2 ⊢
  have := Go.Pay.lim_trans (a := pr c) (b := pr b) (n := a.1.2) (d := a.2.2) hb.2 ha.1.s0 hc.1.s0 (show c.1.2 * b.2.2 ≤ b.1.2 * c.2.2 by omega) (show b.1.2 * a.2.2 ≤ a.1.2 * b.2.2 by omega)
  simp only [pr] at this
  omega
theorem kH83 {l T : List Cl} (hg : ∀ c ∈ l, GoodP c) (hl : l.length ≤ 1000) : run0 (FH54 0 l.length 0 l.length (l ++ T)) = some (isort ltL l ++ T, ()) := by
 simp only [FH54, run_ni, run_bd, run_it, run_ret]
 rw [need_i64 (by omega) (by omega)]
 refine bind_eq (ins_outer (lt := ltL) (Good := GoodP) (n := l.length) (fun k m => ((0 : Nat), l.length, (0 : Int), ((l.length : Nat) : Int), (k : Int), m ++ T, ())) (fun m => (m ++ T, ())) ?_ ?_ hg rfl) rfl
 ·intro R x Q hR hg' hn
  simp only [gH54_0, run_br, run_bd, run_it, run_ret, run_ni, br_d]
  rw [if_pos (by omega)]
  refine bind_eq (ins_inner (lt := ltL) (Good := GoodP) (n := l.length) (fun k m => ((0 : Nat), l.length, (0 : Int), ((l.length : Nat) : Int), (R.length : Int), (k : Int), m ++ T, ())) (fun m => ((0 : Nat), l.length, (0 : Int), ((l.length : Nat) : Int), (R.length : Int), m ++ T, ())) ?_ ?_ R x Q hg' hn) ?_
  ·intro L y x Q hg2 hn2
   have e0 : L ++ y :: x :: Q ++ T = L ++ y :: x :: (Q ++ T) := by simp
   rw [e0]
   generalize hW : Q ++ T = W
   have t1 : Int.toNat (((L.length + 1 : Nat) : Int) - 1) = L.length := by omega
   have g1 : (L ++ y :: x :: W).getD (L.length + 1) (((bs []), (0 : Int)), ((0 : Int), (0 : Int))) = x := by
    rw [show L ++ y :: x :: W = (L ++ [y]) ++ x :: W by simp]; exact getD_mid (by simp)
   have g2 : (L ++ y :: x :: W).getD L.length (((bs []), (0 : Int)), ((0 : Int), (0 : Int))) = y := getD_mid rfl
   have s1 : (L ++ y :: x :: W).set (L.length + 1) y = L ++ y :: y :: W := by
    rw [show L ++ y :: x :: W = (L ++ [y]) ++ x :: W by simp, set_mid (by simp)]; simp
   have s2 : (L ++ y :: y :: W).set L.length x = L ++ x :: y :: W := set_mid rfl
   have i1 : inb ((L.length + 1 : Nat) : Int) ((l.length : Nat) : Int) = true := inb_t (by omega) (by omega)
   have i2 : inb (((L.length + 1 : Nat) : Int) - 1) ((l.length : Nat) : Int) = true := inb_t (by omega) (by omega)
   have r1 : rng .i64 (((L.length + 1 : Nat) : Int) - 1) = true := rng_i64 (by omega) (by omega)
   have d1 : decide (L.length + 1 < (L ++ y :: x :: W).length) = true := decide_eq_true (by simp)
   have d2 : decide (L.length < (L ++ y :: x :: W).length) = true := decide_eq_true (by simp)
   have d3 : decide (L.length < (L ++ y :: y :: W).length) = true := decide_eq_true (by simp)
   have hx := hg2 x (by simp); have hy := hg2 y (by simp)
   simp only [gH54_1, run_br, run_bd, run_nb, run_nd, run_ni, run_ret, Int.toNat_natCast, t1, Nat.zero_add, g1, g2, pr_eta, k82 hx.1 hy.1, bindO_s, i1, i2, r1, d1, d2, need_true, br_d, s1, s2, d3, cmpI_neg]
   rw [if_pos (by omega)]
   by_cases hc : x.1.2 * y.2.2 < y.1.2 * x.2.2
   ·rw [if_pos hc, if_pos (by simpa [ltL] using hc)]
    have : (((L.length + 1 : Nat) : Int) - 1) = (L.length : Int) := by omega
    rw [this, ← hW]; simp
   ·rw [if_neg hc, if_neg (by simpa [ltL] using hc)]
  ·intro m
   simp only [gH54_1, run_br, br_d, run_ret]
   rw [if_neg (by omega)]
  ·simp only []
   rw [need_i64 (by omega) (by omega)]
   simp
 ·intro k m hk
  simp only [gH54_0, run_br, br_d, run_ret]
  rw [if_neg (by omega)]
theorem kH81 {l T : List Cl} (hg : ∀ c ∈ l, GoodP c) (hl : l.length ≤ 12) : run0 (FH52 0 l.length (l ++ T)) = some (isort ltL l ++ T, ()) := by
 simp only [FH52, FH67, run_bd, run_it, run_ret]
 rw [iter_inr (b := (0, l.length, ((l.length : Nat) : Int), (20 : Int), (0 : Int), l ++ T, ())) (by
  simp only [gH67_0, run_br, br_d, run_ret]; rw [if_neg (by omega)])]
 simp only [bindO_s]
 rw [bind_of (kH83 hg (by omega))]
 rw [iter_inr (b := (isort ltL l ++ T, ())) (by
  simp only [gH67_1, run_br, br_d, run_ret]; rw [if_neg (by omega)])]
 simp only [bindO_s]
end Go.Proofs.Try
end
section
namespace Go.Proofs.Try
open Go.AM Go.Pay
set_option maxRecDepth 100000
theorem kH55 {l : List Cl} (hl : l.length ≤ 1000) : run0 (FH21 l) = some (l.length, l, ()) := by
 simp only [FH21, run_br, run_am, run_nd, run_ret, br_eq]
 rw [need_lenbig (by omega)]
 split
 ·have : l = [] := List.length_eq_zero_iff.1 (by omega)
  subst this
  simp only [List.length_nil, List.drop_nil, List.take_nil, List.append_nil, Nat.add_zero]
  exact ambO_same
 ·simp
def kept (l : List Cl) : List Cl := l.filter fun c => decide (c.2.2 ≠ 0)
theorem kept_all {l : List Cl} (h : ∀ c ∈ l, c.2.2 ≠ 0) : kept l = l := List.filter_eq_self.2 fun c hc => decide_eq_true (h c hc)
theorem k80 (n : ByteArray) (c : Int) (p : Int × Int) : run0 (F51 (n, c, p)) = some (p.2 == 0, ()) := by simp [F51, run_ret]
def firstZ : Nat → List Cl → (Int × Unit) ⊕ Unit
 | _, [] => .inr ()
 | k, x :: r => if x.2.2 = 0 then .inl ((k : Int), ()) else firstZ (k + 1) r
theorem firstZ_spec : ∀ (l : List Cl) (k : Nat), (∃ p x q, l = p ++ x :: q ∧ (∀ c ∈ p, c.2.2 ≠ 0) ∧ x.2.2 = 0 ∧ firstZ k l = .inl (((k + p.length : Nat) : Int), ())) ∨ ((∀ c ∈ l, c.2.2 ≠ 0) ∧ firstZ k l = .inr ())
 | [], k => .inr ⟨by simp, rfl⟩
 | y :: l, k => by
  by_cases h : y.2.2 = 0
  ·left
   exact ⟨[], y, l, rfl, by simp, h, by simp [firstZ, h]⟩
  ·rcases firstZ_spec l (k + 1) with ⟨p, x, q, h1, h2, h3, h4⟩ | ⟨h1, h2⟩
   ·left
    refine ⟨y :: p, x, q, by rw [h1]; rfl, fun c hc => ?_, h3, ?_⟩
    ·rcases List.mem_cons.1 hc with rfl | hc
     ·exact h
     ·exact h2 c hc
    ·unfold firstZ; rw [if_neg h, h4, List.length_cons, show k + 1 + p.length = k + (p.length + 1) by omega]
   ·right
    refine ⟨fun c hc => ?_, by unfold firstZ; rw [if_neg h, h2]⟩
    rcases List.mem_cons.1 hc with rfl | hc
    ·exact h
    ·exact h1 c hc
theorem k93 {l : List Cl} (hl : l.length ≤ 1000) : (∃ p x q, l = p ++ x :: q ∧ (∀ c ∈ p, c.2.2 ≠ 0) ∧ x.2.2 = 0 ∧ run0 (F66 l) = some ((p.length : Int), ())) ∨ ((∀ c ∈ l, c.2.2 ≠ 0) ∧ run0 (F66 l) = some (-1, ())) := by
 have hi := iter_list (f := fun a => run (fun _ => none) (g66_0 a)) l (fun k (_ : Nat) => (l, ((l.length : Nat) : Int), (k : Int), ())) (fun k r => firstZ k r) (fun pre k => k = pre.length) (by
  rintro pre x post k hx rfl
  have hlen : l.length = pre.length + (post.length + 1) := by rw [hx]; simp
  have hd : l.getD pre.length (((bs []), (0 : Int)), ((0 : Int), (0 : Int))) = x := by rw [hx]; exact getD_mid rfl
  have i1 : inb (pre.length : Int) ((l.length : Nat) : Int) = true := inb_t (by omega) (by omega)
  have r1 : rng .i64 ((pre.length : Int) + 1) = true := rng_i64 (by omega) (by omega)
  simp only [g66_0, run_br, run_bd, run_nb, run_nd, run_ni, run_ret, Int.toNat_natCast, hd, k80, bindO_s, i1, r1, need_true, br_d, br_eq]
  rw [if_pos (by omega)]
  by_cases h : x.2.2 = 0
  ·right; rw [if_pos h]; simp [firstZ, h]
  ·left
   refine ⟨pre.length + 1, ?_⟩
   rw [if_neg h]; simp [firstZ, h]) (by
  rintro k _
  simp only [g66_0, run_br, br_d, run_ret]
  rw [if_neg (by omega)]; rfl) (s := 0) rfl
 simp only [F66, run_bd, run_it]
 rcases firstZ_spec l 0 with ⟨p, x, q, h1, h2, h3, h4⟩ | ⟨h1, h2⟩
 ·left
  refine ⟨p, x, q, h1, h2, h3, bind_eq hi ?_⟩
  rw [h4]; simp [run_sl, run_ret]
 ·right
  refine ⟨h1, bind_eq hi ?_⟩
  rw [h2]; simp [run_sr, run_ret]
theorem kept_len (l : List Cl) : (kept l).length ≤ l.length := List.length_filter_le ..
theorem kH79 {l : List Cl} (hl : l.length ≤ 1000) : run0 (FH50 l.length l) = some (0, (kept l).length, kept l ++ List.replicate (l.length - (kept l).length) (((bs []), (0 : Int)), ((0 : Int), (0 : Int))), ()) := by
 simp only [FH50, run_bd, run_it, run_br, run_ret, run_ni, run_nd, List.drop_zero, List.take_length, br_eq]
 rcases k93 hl with ⟨p, x, q, h1, h2, h3, h4⟩ | ⟨h1, h2⟩
 case inr =>
  rw [bind_of h2]
  simp only [if_true]
  rw [kept_all h1]; simp
 rw [bind_of h4]
 simp only
 have hlen : l.length = p.length + (q.length + 1) := by rw [h1]; simp
 rw [if_neg (by omega), need_i64 (by omega) (by omega)]
 have hk : kept l = p ++ kept q := by
  have e1 : kept p = p := kept_all h2
  have e2 : kept (x :: q) = kept q := by simp [kept, h3]
  rw [h1, show kept (p ++ x :: q) = kept p ++ kept (x :: q) by simp [kept], e1, e2]
 obtain ⟨res, hres, m, b, rfl, hb, hm, ht⟩ := iter_ex (step := fun a => run (fun _ => none) (gH50_0 a)) q.length
  (fun k x => ∃ (i : Nat) (b : List Cl), x = (l.length, (i : Int), ((p.length + 1 + k : Nat) : Int), b, ()) ∧ b.length = l.length ∧ i ≤ p.length + k ∧ b.take i = p ++ kept (q.take k) ∧ b.drop (p.length + 1 + k) = q.drop k)
  (fun r => ∃ (m : Nat) (b : List Cl), r = (l.length, (m : Int), b, ()) ∧ b.length = l.length ∧ m ≤ l.length ∧ b.take m = p ++ kept q) (by
   rintro k _ hk ⟨i, b, rfl, hb, hi, ht, hd⟩
   have hx : b.getD (p.length + 1 + k) (((bs []), (0 : Int)), ((0 : Int), (0 : Int))) = q.getD k (((bs []), (0 : Int)), ((0 : Int), (0 : Int))) := by
    have := congrArg (fun l => l.getD 0 (((bs []), (0 : Int)), ((0 : Int), (0 : Int)))) hd
    simpa [List.getD_eq_getElem?_getD] using this
   have hqk : q.take (k + 1) = q.take k ++ [q.getD k (((bs []), (0 : Int)), ((0 : Int), (0 : Int)))] := by
    rw [List.take_succ_eq_append_getElem hk]; simp [List.getD_eq_getElem?_getD, List.getElem?_eq_getElem hk]
   generalize q.getD k (((bs []), (0 : Int)), ((0 : Int), (0 : Int))) = y at hx hqk
   have i1 : inb ((p.length + 1 + k : Nat) : Int) ((l.length : Nat) : Int) = true := inb_t (by omega) (by omega)
   have i2 : inb (i : Int) ((l.length : Nat) : Int) = true := inb_t (by omega) (by omega)
   have d1 : decide (p.length + 1 + k < b.length) = true := decide_eq_true (by omega)
   have d2 : decide (i < b.length) = true := decide_eq_true (by omega)
   have r1 : rng .i64 ((i : Int) + 1) = true := rng_i64 (by omega) (by omega)
   have r2 : rng .i64 (((p.length + 1 + k : Nat) : Int) + 1) = true := rng_i64 (by omega) (by omega)
   simp only [gH50_0, run_br, run_bd, run_nb, run_nd, run_ni, run_ret, Int.toNat_natCast, Nat.zero_add, hx, k80, bindO_s, i1, i2, d1, d2, r1, r2, need_true, br_d, br_not, br_eq, pr_eta]
   rw [if_pos (by omega)]
   by_cases hy : y.2.2 = 0
   ·refine ⟨_, by rw [if_pos hy], i, b, by rw [show ((p.length + 1 + (k + 1) : Nat) : Int) = ((p.length + 1 + k : Nat) : Int) + 1 by omega], hb, by omega, ?_, ?_⟩
    ·rw [ht, hqk]; simp [kept, hy]
    ·have := congrArg (List.drop 1) hd
     simpa [List.drop_drop, Nat.add_assoc] using this
   ·refine ⟨_, by rw [if_neg hy], i + 1, b.set i y, by rw [show ((p.length + 1 + (k + 1) : Nat) : Int) = ((p.length + 1 + k : Nat) : Int) + 1 by omega, show ((i + 1 : Nat) : Int) = (i : Int) + 1 by omega], by simp [hb], by omega, ?_, ?_⟩
    ·have e : (b.set i y).take (i + 1) = b.take i ++ [y] := by
      rw [List.take_succ_eq_append_getElem (by simp; omega)]
      simp [List.take_set_of_le]
     rw [e, ht, hqk]; simp [kept, hy]
    ·have := congrArg (List.drop 1) hd
     rw [List.drop_set_of_lt (by omega)]
     simpa [List.drop_drop, Nat.add_assoc] using this) (by
   rintro _ ⟨i, b, rfl, hb, hi, ht, hd⟩
   simp only [gH50_0, run_br, run_ret, br_d]
   rw [if_neg (by omega)]
   exact ⟨_, rfl, i, b, rfl, hb, by omega, by rw [ht, List.take_length]⟩) (x := (l.length, (p.length : Int), (p.length : Int) + 1, l, ())) ⟨p.length, l, by simp, rfl, by omega, by rw [h1]; simp [kept], by rw [h1]; simp⟩
 rw [bind_of hres]
 have hml : m = (kept l).length := by rw [hk, ← ht, List.length_take]; omega
 simp only [Int.toNat_natCast, Nat.zero_add, clrL, Int.toNat_zero, Nat.sub_zero]
 rw [need_d (by omega), need_d (by omega), need_d (by omega), need_d (by omega), need_d (by omega), need_d (by omega)]
 rw [ht, ← hk, ← hml, List.drop_eq_nil_of_le (by omega), List.append_nil]
end Go.Proofs.Try
end
section
namespace Go.Proofs.Try
open Go.AM Go.Pay
set_option maxRecDepth 100000
theorem euclid {f : Int × Int × Int × Int × Int × Int × Unit → Option ((Int × Int × Int × Int × Int × Int × Unit) ⊕ (Int × Int × Int × Int × Int × Unit))}
  (hs : ∀ a b c d e g, 0 < b → f (a, b, c, d, e, g, ()) = some (.inl (b, Int.tmod a b, c, d, e, g, ()))) (hz : ∀ a c d e g, f (a, 0, c, d, e, g, ()) = some (.inr (a, c, d, e, g, ()))) (c d e g : Int) :
  ∀ n m : Nat, iter f ((m : Int), (n : Int), c, d, e, g, ()) = some (((Nat.gcd m n : Nat) : Int), c, d, e, g, ()) := by
 intro n
 induction n using Nat.strongRecOn with
 | ind n ih =>
  intro m
  cases n with
  | zero => rw [Nat.gcd_zero_right]; exact iter_inr (hz ..)
  | succ n =>
   refine iter_inl (hs _ _ _ _ _ _ (by omega)) ?_
   have h1 : Int.tmod (m : Int) ((n + 1 : Nat) : Int) = ((m % (n + 1) : Nat) : Int) := rfl
   rw [h1, ih (m % (n + 1)) (Nat.mod_lt _ (by omega)) (n + 1), Nat.gcd_comm m (n + 1), Nat.gcd_rec (n + 1) m, Nat.gcd_comm]
theorem k72 {a b : Int} (ha : 0 ≤ a) (ha1 : a ≤ 9000000000000000000) (hb : 0 < b) (hb1 : b ≤ 9000000000000000000) : run0 (F37 (a, b)) = some (red a b, ()) := by
 obtain ⟨m, rfl⟩ := Int.eq_ofNat_of_zero_le ha
 obtain ⟨n, rfl⟩ := Int.eq_ofNat_of_zero_le (Int.le_of_lt hb)
 obtain ⟨hg, h1, h2, h3, h4, h5⟩ := red_spec hb ha
 have hit := euclid (f := fun a => run (fun _ => none) (g37_0 a)) (fun a b c d e g hb => by
  simp only [g37_0, run_br, run_nd, run_ret, br_d]
  rw [if_pos hb]
  have : (!(b == 0)) = true := by simp; omega
  rw [need_t this]) (fun a c d e g => by
  simp only [g37_0, run_br, run_nd, run_ret, br_d]
  rw [if_neg (by omega)]) (m : Int) (n : Int) 0 0 n m
 simp only [F37, run_bd, run_it, run_nd, run_ni, run_ret]
 rw [bind_of hit]
 have hgcd : ((Nat.gcd m n : Nat) : Int) = ((Int.gcd m n : Nat) : Int) := by simp
 rw [← hgcd] at hg h1 h2
 simp only []
 have hne : (!(((Nat.gcd m n : Nat) : Int) == 0)) = true := by simp; omega
 have e1 : Int.tdiv (m : Int) ((Nat.gcd m n : Nat) : Int) = (red m n).1 := by
  rw [Int.tdiv_eq_ediv_of_nonneg (by omega)]; unfold red; rw [hgcd]
 have e2 : Int.tdiv (n : Int) ((Nat.gcd m n : Nat) : Int) = (red m n).2 := by
  rw [Int.tdiv_eq_ediv_of_nonneg (by omega)]; unfold red; rw [hgcd]
 have b1 : (red (m : Int) n).1 ≤ m := by
  have := Int.mul_le_mul_of_nonneg_left (show (1 : Int) ≤ ((Nat.gcd m n : Nat) : Int) by omega) h5
  omega
 have b2 : (red (m : Int) n).2 ≤ n := by
  have := Int.mul_le_mul_of_nonneg_left (show (1 : Int) ≤ ((Nat.gcd m n : Nat) : Int) by omega) (Int.le_of_lt h4)
  omega
 rw [e1, e2, need_t hne, need_i64 (by omega) (by omega), need_t hne, need_i64 (by omega) (by omega)]
/-- The rounds: whether one ended them, the level, what is left. -/
def lvR : List Cl → Int → Int → Int × Int → Bool × (Int × Int) × Int × Int × (Int × Int)
 | [], l, s, last => (false, last, l, s, last)
 | c :: r, l, s, last => if l * c.2.2 ≤ c.1.2 * s then (true, red l s, l, s, last) else lvR r (l - c.1.2) (s - c.2.2) (red c.1.2 c.2.2)
theorem lvR_lv : ∀ (S : List Cl) (l s : Int) (last : Int × Int), (lvR S l s last).2.1 = payLv (S.map pr) l s last
 | [], _, _, _ => rfl
 | c :: r, l, s, last => by
  unfold lvR
  rw [List.map_cons]
  unfold payLv
  by_cases h : l * c.2.2 ≤ c.1.2 * s
  ·have h' : l * (pr c).2 ≤ (pr c).1 * s := h
   rw [if_pos h, if_pos h']
  ·have h' : ¬ l * (pr c).2 ≤ (pr c).1 * s := h
   rw [if_neg h, if_neg h', lvR_lv r]; rfl
theorem lvR_last : ∀ (S : List Cl) (l s : Int) (last : Int × Int), (lvR S l s last).1 = false → (lvR S l s last).2.2.2.2 = (lvR S l s last).2.1
 | [], _, _, _, _ => rfl
 | c :: r, l, s, last, h => by
  unfold lvR at h ⊢
  split at h
  ·cases h
  ·rename_i hc
   rw [if_neg hc]
   exact lvR_last r _ _ _ h
abbrev sugC (l : List Cl) : Int := sug (l.map pr)
theorem sugC_cons (c : Cl) (l : List Cl) : sugC (c :: l) = c.2.2 + sugC l := by simp [sugC, sug, pr]
theorem sugC_nil : sugC [] = 0 := rfl
theorem sugC_bd : ∀ {l : List Cl}, (∀ c ∈ l, GoodC c) → 0 ≤ sugC l ∧ sugC l ≤ 6000000000 * l.length
 | [], _ => by simp [sugC, sug]
 | c :: l, h => by
  have h1 := h c (List.mem_cons_self ..)
  have h2 := sugC_bd (l := l) fun x hx => h x (List.mem_cons_of_mem _ hx)
  have := h1.s0; have := h1.s1
  rw [sugC_cons, List.length_cons]; omega
end Go.Proofs.Try
end
section
namespace Go.Proofs.Try
open Go.AM Go.Pay
set_option maxRecDepth 100000
/-- Claims that can be reckoned with. -/
structure OkC (l : List Cl) : Prop where
 good : ∀ c ∈ l, GoodC c
 all : sugC l ≤ 6000000000
 many : l.length ≤ 12
theorem sugC_perm {a b : List Cl} (h : a.Perm b) : sugC a = sugC b := by
 induction h with
 | nil => rfl
 | cons x _ ih => rw [sugC_cons, sugC_cons, ih]
 | swap x y l => simp only [sugC_cons]; omega
 | trans _ _ h1 h2 => exact h1.trans h2
theorem sugC_kept : ∀ l : List Cl, sugC (kept l) = sugC l
 | [] => rfl
 | c :: l => by
  have ih := sugC_kept l
  unfold kept at ih ⊢
  rw [List.filter_cons, sugC_cons]
  by_cases h : c.2.2 = 0
  ·rw [if_neg (by simp [h]), ih]; omega
  ·rw [if_pos (by simp [h]), sugC_cons, ih]
theorem sugC_append (a b : List Cl) : sugC (a ++ b) = sugC a + sugC b := by simp [sugC, sug]
/-- Those who have sugar, in order. -/
def byLim (l : List Cl) : List Cl := isort ltL (kept l)
theorem kept_good {l : List Cl} (h : OkC l) : ∀ c ∈ kept l, GoodP c := fun c hc => by
 rw [kept, List.mem_filter] at hc
 have h1 := h.good c hc.1
 have h2 : c.2.2 ≠ 0 := by simpa using hc.2
 exact ⟨h1, by have := h1.s0; omega⟩
theorem byLim_good {l : List Cl} (h : OkC l) : ∀ c ∈ byLim l, GoodP c := fun c hc => kept_good h c ((isort_perm _).mem_iff.1 hc)
theorem byLim_len {l : List Cl} : (byLim l).length = (kept l).length := isort_length _
theorem byLim_sug {l : List Cl} : sugC (byLim l) = sugC l := by rw [byLim, sugC_perm (isort_perm _), sugC_kept]
abbrev cd0 : Cl := (((bs []), (0 : Int)), ((0 : Int), (0 : Int)))
variable {l : List Cl}
theorem kBy (h : OkC l) : ∃ Z : List Cl, run0 (FH21 l) = some (l.length, l, ()) ∧ run0 (FH50 l.length l) = some (0, (byLim l).length, kept l ++ Z, ()) ∧ run0 (FH52 0 (byLim l).length (kept l ++ Z)) = some (byLim l ++ Z, ()) := by
 have h12 := h.many
 have hk := kept_len l
 refine ⟨List.replicate (l.length - (kept l).length) cd0, kH55 (by omega), by rw [kH79 (by omega), byLim_len], ?_⟩
 rw [byLim_len]
 exact kH81 (kept_good h) (by omega)
theorem k52_0 (h : OkC l) (p0 a1 a2 a3 a4 : Int) : run0 (g19_0 ((l, p0), l, a1, a2, a3, a4, 0, ())) = some (l, a1, a2, a3, a4, sugC l, ()) := by
 obtain ⟨Z, e1, e2, e3⟩ := kBy h
 have h12 := h.many
 have hk := kept_len l
 have hS := byLim_len (l := l)
 simp only [g19_0, run_bd, run_it, run_ret]
 rw [bind_of e1]; simp only []
 rw [bind_of e2]; simp only []
 rw [bind_of e3]; simp only []
 refine bind_eq (iter_list (byLim l) (fun k (s : Int) => ((0 : Nat), (byLim l).length, (((byLim l).length : Nat) : Int), (k : Int), (l, p0), byLim l ++ Z, l, a1, a2, a3, a4, s, ())) (fun s r => (l, a1, a2, a3, a4, s + sugC r, (l, p0), ())) (fun pre s => s = sugC pre) ?_ ?_ (s := 0) rfl) ?_
 ·rintro pre x post s hx rfl
  left
  have hlen : (byLim l).length = pre.length + (post.length + 1) := by rw [hx]; simp
  have hd : (byLim l ++ Z).getD pre.length cd0 = x := by rw [hx, List.append_assoc, List.cons_append]; exact getD_mid rfl
  have i1 : inb (pre.length : Int) (((byLim l).length : Nat) : Int) = true := inb_t (by omega) (by omega)
  have r1 : rng .i64 ((pre.length : Int) + 1) = true := rng_i64 (by omega) (by omega)
  have d1 : decide (pre.length < (byLim l ++ Z).length) = true := decide_eq_true (by simp; omega)
  have hsum : sugC pre + x.2.2 + sugC post = sugC l := by have := byLim_sug (l := l); rw [hx, sugC_append, sugC_cons] at this; omega
  have hg := byLim_good h
  have hpre := sugC_bd (l := pre) fun c hc => (hg c (by rw [hx]; simp [hc])).1
  have hpost := sugC_bd (l := post) fun c hc => (hg c (by rw [hx]; simp [hc])).1
  have hxg := (hg x (by rw [hx]; simp)).1.s0
  have hall := h.all
  refine ⟨sugC pre + x.2.2, ?_, by rw [sugC_append, sugC_cons, sugC_nil]; omega, by rw [sugC_cons, show sugC pre + (x.2.2 + sugC post) = sugC pre + x.2.2 + sugC post by omega]⟩
  simp only [g19_0i_0, run_br, run_bd, run_nb, run_nd, run_ni, run_ret, Int.toNat_natCast, Nat.zero_add, hd, i1, r1, d1, need_true, br_d]
  rw [if_pos (by omega), need_i64 (by omega) (by omega)]
  rfl
 ·rintro s _
  simp only [g19_0i_0, run_br, br_d, run_ret]
  rw [if_neg (by omega)]
  simp [sugC_nil]
 ·simp only [byLim_sug, Int.zero_add]
theorem cap_left {c : Cl} {a s t : Int} (hc : GoodP c) (ht : 0 ≤ t) (hs : s = c.2.2 + t) (h : ¬ a * c.2.2 ≤ c.1.2 * s) : 0 ≤ a - c.1.2 := by
 rcases Int.lt_or_le a c.1.2 with hlt | hle
 ·exfalso; apply h
  have h1 : a * c.2.2 ≤ c.1.2 * c.2.2 := Int.mul_le_mul_of_nonneg_right (by omega) (Int.le_of_lt hc.2)
  have h2 : c.1.2 * c.2.2 ≤ c.1.2 * s := Int.mul_le_mul_of_nonneg_left (by omega) hc.1.c0
  omega
 ·omega
theorem k52_1 (h : OkC l) {p0 a1 a2 a3 : Int} (h0 : 0 ≤ a3) (h1 : a3 ≤ 1000000000) :
  run0 (g19_1 ((l, p0), a1, a2, a3, sugC l, 0, 1, ())) = some (if (lvR (byLim l) a3 (sugC l) (0, 1)).1 = true then .inl ((lvR (byLim l) a3 (sugC l) (0, 1)).2.1.1, (lvR (byLim l) a3 (sugC l) (0, 1)).2.1.2, ())
   else .inr (a1, a2, (lvR (byLim l) a3 (sugC l) (0, 1)).2.1.1, (lvR (byLim l) a3 (sugC l) (0, 1)).2.1.2, ())) := by
 obtain ⟨Z, e1, e2, e3⟩ := kBy h
 have h12 := h.many
 have hk := kept_len l
 have hS := byLim_len (l := l)
 simp only [g19_1, run_bd, run_it, run_ret]
 rw [bind_of e1]; simp only []
 rw [bind_of e2]; simp only []
 rw [bind_of e3]; simp only []
 refine bind_eq (iter_list (byLim l) (fun k (s : Int × Int × Int × Int) => ((0 : Nat), (byLim l).length, (((byLim l).length : Nat) : Int), (k : Int), (l, p0), byLim l ++ Z, a1, a2, s.1, s.2.1, s.2.2.1, s.2.2.2, ()))
  (fun s r => let q := lvR r s.1 s.2.1 (s.2.2.1, s.2.2.2); if q.1 = true then .inl (q.2.1.1, q.2.1.2, q.2.2.1, q.2.2.2.1, q.2.2.2.2.1, q.2.2.2.2.2, (l, p0), ()) else .inr (a1, a2, q.2.2.1, q.2.2.2.1, q.2.2.2.2.1, q.2.2.2.2.2, (l, p0), ()))
  (fun pre s => (0 ≤ s.1 ∧ s.1 ≤ 1000000000) ∧ sugC pre + s.2.1 = sugC l) ?_ ?_ (s := (a3, sugC l, 0, 1)) ⟨⟨h0, h1⟩, by show sugC [] + sugC l = sugC l; rw [sugC_nil]; omega⟩) ?_
 ·rintro pre x post ⟨a, s, u, v⟩ hx ⟨ha, hs⟩
  simp only at ha hs
  have hlen : (byLim l).length = pre.length + (post.length + 1) := by rw [hx]; simp
  have hd : (byLim l ++ Z).getD pre.length cd0 = x := by rw [hx, List.append_assoc, List.cons_append]; exact getD_mid rfl
  have i1 : inb (pre.length : Int) (((byLim l).length : Nat) : Int) = true := inb_t (by omega) (by omega)
  have r1 : rng .i64 ((pre.length : Int) + 1) = true := rng_i64 (by omega) (by omega)
  have d1 : decide (pre.length < (byLim l ++ Z).length) = true := decide_eq_true (by simp; omega)
  have hsum : sugC pre + (x.2.2 + sugC post) = sugC l := by have := byLim_sug (l := l); rw [hx, sugC_append, sugC_cons] at this; omega
  have hg := byLim_good h
  have hpre := sugC_bd (l := pre) fun c hc => (hg c (by rw [hx]; simp [hc])).1
  have hpost := sugC_bd (l := post) fun c hc => (hg c (by rw [hx]; simp [hc])).1
  have hxg := hg x (by rw [hx]; simp)
  have hall := h.all
  have hse : s = x.2.2 + sugC post := by omega
  have hx2 := hxg.2
  have hx3 := hxg.1
  have m1 := mul_bd (a := a) (A := 1000000000) (b := x.2.2) (B := 6000000000) ha.1 ha.2 hx3.s0 hx3.s1
  have m2 := mul_bd (a := x.1.2) (A := 1000000000) (b := s) (B := 6000000000) hx3.c0 hx3.c1 (by omega) (by omega)
  have k1 := k70 (a := (a, s)) (b := (x.1.2, x.2.2)) (by simp only; omega) (by simp only; omega)
  have k2 := k72 (a := a) (b := s) ha.1 (by omega) (by omega) (by omega)
  have k3 := k72 (a := x.1.2) (b := x.2.2) hx3.c0 (by have := hx3.c1; omega) hx2 (by have := hx3.s1; omega)
  have hc1 := hx3.c1; have hc0 := hx3.c0
  have hcl : ¬ a * x.2.2 ≤ x.1.2 * s → 0 ≤ a - x.1.2 := cap_left hxg hpost.1 hse
  simp only [g19_1i_0, run_br, run_bd, run_nb, run_nd, run_ni, run_ret, Int.toNat_natCast, Nat.zero_add, hd, i1, r1, d1, need_true, br_d, pr_eta, k71, bindO_s]
  rw [if_pos (by omega), bind_of k1]
  simp only [cmpI_le, lvR]
  by_cases hc : a * x.2.2 ≤ x.1.2 * s
  ·right
   rw [if_pos hc, bind_of k2]
   simp only [if_pos hc]
   rfl
  ·left
   refine ⟨(a - x.1.2, s - x.2.2, (red x.1.2 x.2.2).1, (red x.1.2 x.2.2).2), ?_, ⟨⟨hcl hc, by show a - x.1.2 ≤ 1000000000; omega⟩, by show sugC (pre ++ [x]) + (s - x.2.2) = sugC l; rw [sugC_append, sugC_cons, sugC_nil]; omega⟩, ?_⟩
   ·rw [if_neg hc, bind_of k3]
    have := hcl hc
    simp only []
    rw [need_i64 (by omega) (by omega), need_i64 (by omega) (by omega)]
    rfl
   ·simp only [if_neg hc]
 ·rintro s _
  simp only [g19_1i_0, run_br, br_d, run_ret]
  rw [if_neg (by omega)]
  simp [lvR]
 ·simp only []
  generalize hq : lvR (byLim l) a3 (sugC l) (0, 1) = q
  have hl := lvR_last (byLim l) a3 (sugC l) (0, 1)
  rw [hq] at hl
  by_cases hc : q.1 = true
  ·rw [if_pos hc, if_pos hc]; rfl
  ·have := hl (by simpa using hc)
   rw [if_neg hc, if_neg hc]
   simp only [run_sr, run_ret, this]
/-- The level of claims. -/
def level (l : List Cl) (paid : Int) : Int × Int := payLv ((byLim l).map pr) paid (sugC l) (0, 1)
theorem k52 (h : OkC l) {paid : Int} (h0 : 0 ≤ paid) (h1 : paid ≤ 1000000000) : run0 (F19 (l, paid)) = some (level l paid, ()) := by
 have k0 (p : Int) : run0 (F34 (l, p)) = some ((l, p), ()) := by simp [F34, run_ret]
 simp only [F19, run_bd, run_ret, k0, bindO_s]
 rw [bind_of (k52_0 h _ _ _ _ _)]
 simp only [k0, bindO_s]
 rw [bind_of (k52_1 h h0 h1)]
 unfold level
 rw [← lvR_lv]
 split <;> simp [run_sl, run_sr, run_ret]
end Go.Proofs.Try
end
section
namespace Go.Proofs.Try
open Go.AM Go.Pay
set_option maxRecDepth 100000
/-- Caps and sugar. -/
def prs (w : Wk) (s : List Int) : List (Int × Int) := (w.2.2.2.1.zip s).map fun x => (x.1.2, x.2)
def clmL : Nat → List ((ByteArray × Int) × Int) → List Cl
 | _, [] => []
 | k, x :: r => (x.1, (k : Int), x.2) :: clmL (k + 1) r
def clm (w : Wk) (s : List Int) : List Cl := clmL 0 (w.2.2.2.1.zip s)
theorem clmL_pr : ∀ (k : Nat) (l : List ((ByteArray × Int) × Int)), (clmL k l).map pr = l.map fun x => (x.1.2, x.2)
 | _, [] => rfl
 | k, x :: r => by simp only [clmL, List.map_cons, clmL_pr (k + 1) r]; rfl
theorem clm_pr (w : Wk) (s : List Int) : (clm w s).map pr = prs w s := clmL_pr ..
theorem clmL_len : ∀ (k : Nat) (l : List ((ByteArray × Int) × Int)), (clmL k l).length = l.length
 | _, [] => rfl
 | k, x :: r => by simp [clmL, clmL_len (k + 1) r]
theorem clmL_mem : ∀ {k : Nat} {l : List ((ByteArray × Int) × Int)} {c : Cl}, c ∈ clmL k l → (c.1, c.2.2) ∈ l
 | _, [], _, h => by cases h
 | k, x :: r, c, h => by
  rcases List.mem_cons.1 h with rfl | h
  ·exact List.mem_cons_self ..
  ·exact List.mem_cons_of_mem _ (clmL_mem h)
def paidOf (w : Wk) (s : List Int) : Int := min (capS (prs w s)) w.1
/-- Sugar that can be reckoned with. -/
structure OkS (w : Wk) (s : List Int) : Prop where
 len : s.length = w.2.2.2.1.length
 nn : ∀ x ∈ s, 0 ≤ x
 all : s.sum ≤ 6000000000
theorem OkS.each {w : Wk} {s : List Int} (h : OkS w s) : ∀ x ∈ s, x ≤ 6000000000 := by
 have key : ∀ s : List Int, (∀ x ∈ s, 0 ≤ x) → 0 ≤ s.sum ∧ ∀ x ∈ s, x ≤ s.sum := by
  intro s
  induction s with
  | nil => simp
  | cons y s ih =>
   intro h
   obtain ⟨h1, h2⟩ := ih fun x hx => h x (List.mem_cons_of_mem _ hx)
   have := h y (List.mem_cons_self ..)
   rw [List.sum_cons]
   refine ⟨by omega, fun x hx => ?_⟩
   rcases List.mem_cons.1 hx with rfl | hx
   ·omega
   ·have := h2 x hx; omega
 intro x hx
 have := (key s h.nn).2 x hx
 have := h.all; omega
theorem sug_zip : ∀ (fs : List (ByteArray × Int)) (s : List Int), s.length = fs.length → sug ((fs.zip s).map fun x => (x.1.2, x.2)) = s.sum
 | [], [], _ => rfl
 | f :: fs, x :: s, h => by
  have := sug_zip fs s (by simpa using h)
  simp only [List.zip_cons_cons, List.map_cons, sug_cons, List.sum_cons, this]
theorem sug_prs {w : Wk} {s : List Int} (hs : OkS w s) : sug (prs w s) = s.sum := sug_zip _ _ hs.len
section
variable {w : Wk} {s : List Int} (hw : OkW w) (hs : OkS w s)
include hw hs
theorem zs_good {x : (ByteArray × Int) × Int} (hx : x ∈ w.2.2.2.1.zip s) : 0 ≤ x.1.2 ∧ x.1.2 ≤ 1000000000 ∧ 0 ≤ x.2 ∧ x.2 ≤ 6000000000 := by
 have h1 := List.of_mem_zip hx
 exact ⟨(hw.cap _ h1.1).1, (hw.cap _ h1.1).2, hs.nn _ h1.2, hs.each _ h1.2⟩
theorem prs_nn : Nn (prs w s) := fun c hc => by
 obtain ⟨x, hx, rfl⟩ := List.mem_map.1 hc
 have := zs_good hw hs hx
 exact ⟨this.1, this.2.2.1⟩
theorem zs_len : (w.2.2.2.1.zip s).length = w.2.2.2.1.length := by rw [List.length_zip, hs.len]; omega
theorem clm_ok : OkC (clm w s) where
 good c hc := by
  have := zs_good hw hs (clmL_mem hc)
  exact ⟨this.1, this.2.1, this.2.2.1, this.2.2.2⟩
 all := by
  show sug ((clm w s).map pr) ≤ 6000000000
  rw [clm_pr, sug_prs hs]; exact hs.all
 many := by rw [clm, clmL_len, zs_len hw hs]; exact hw.many
theorem capS_bd : ∀ {l : List ((ByteArray × Int) × Int)}, (∀ x ∈ l, x ∈ w.2.2.2.1.zip s) → 0 ≤ capS (l.map fun x => (x.1.2, x.2)) ∧ capS (l.map fun x => (x.1.2, x.2)) ≤ 1000000000 * l.length
 | [], _ => by simp [capS]
 | x :: l, h => by
  have h1 := zs_good hw hs (h x (List.mem_cons_self ..))
  have h2 := capS_bd (l := l) fun y hy => h y (List.mem_cons_of_mem _ hy)
  rw [List.map_cons, capS_cons, List.length_cons]
  split <;> omega
theorem paid_bd : 0 ≤ paidOf w s ∧ paidOf w s ≤ 1000000000 := by
 have h1 := capS_bd hw hs (l := w.2.2.2.1.zip s) (fun _ h => h)
 have h2 := hw.pot
 have e : capS (prs w s) = capS ((w.2.2.2.1.zip s).map fun x => (x.1.2, x.2)) := rfl
 unfold paidOf; omega
theorem clmL_snoc : ∀ (k : Nat) (l : List ((ByteArray × Int) × Int)) (x : (ByteArray × Int) × Int), clmL k (l ++ [x]) = clmL k l ++ [(x.1, ((k + l.length : Nat) : Int), x.2)] := by
 intro k l
 induction l generalizing k with
 | nil => intro x; simp [clmL]
 | cons y l ih => intro x; simp only [List.cons_append, clmL, ih (k + 1) x, List.length_cons, Nat.add_assoc, Nat.add_comm 1]
omit hw hs in
theorem capS_append (a b : List (Int × Int)) : capS (a ++ b) = capS a + capS b := by
 induction a with
 | nil => simp [capS]
 | cons c a ih => rw [List.cons_append, capS_cons, capS_cons, ih]; omega
theorem k51 : run0 (F18 w s) = some ((clm w s, paidOf w s), ()) := by
 have hm := hw.many
 have hz := zs_len hw hs
 have hsl := hs.len
 simp only [F18, run_bd, run_it, run_ret]
 refine bind_eq (iter_list (w.2.2.2.1.zip s) (fun k (t : List Cl × Int) => (s, w.2.2.2.1, ((w.2.2.2.1.length : Nat) : Int), (k : Int), w.1, w.2.1, w.2.2.1, w.2.2.2.1, w.2.2.2.2, (0 : Int), t.1.length, t.2, t.1, ()))
  (fun t r => (w.1, w.2.1, w.2.2.1, w.2.2.2.1, w.2.2.2.2, (0 : Int), (t.1 ++ clmL t.1.length r).length, t.2 + capS (r.map fun x => (x.1.2, x.2)), t.1 ++ clmL t.1.length r, ()))
  (fun pre t => t.1 = clmL 0 pre ∧ t.2 = capS (pre.map fun x => (x.1.2, x.2))) ?_ ?_ (s := ([], 0)) ⟨rfl, rfl⟩) ?_
 ·rintro pre x post ⟨l, p⟩ hx ⟨hl, hp⟩
  simp only at hl hp
  subst hl hp
  left
  have hlen : w.2.2.2.1.length = pre.length + (post.length + 1) := by rw [← hz, hx]; simp
  obtain ⟨d1, d2⟩ := zip_at (d := (bs [], (0 : Int))) (e := (0 : Int)) hx
  have i1 : inb (pre.length : Int) ((w.2.2.2.1.length : Nat) : Int) = true := inb_t (by omega) (by omega)
  have i2 : inb (pre.length : Int) ((s.length : Nat) : Int) = true := inb_t (by omega) (by omega)
  have r1 : rng .i64 ((pre.length : Int) + 1) = true := rng_i64 (by omega) (by omega)
  have hg := zs_good hw hs (x := x) (by rw [hx]; simp)
  have hcap := capS_bd hw hs (l := pre) (fun y hy => by rw [hx]; simp [hy])
  have hcl : (clmL 0 pre).length = pre.length := clmL_len ..
  refine ⟨(clmL 0 (pre ++ [x]), capS ((pre ++ [x]).map fun x => (x.1.2, x.2))), ?_, ⟨rfl, rfl⟩, ?_⟩
  ·simp only [g18_0, run_br, run_nb, run_nd, run_ni, run_ret, Int.toNat_natCast, d1, d2, i1, i2, r1, need_true, br_d, pr_eta, List.drop_zero, List.take_length, List.take_succ_cons, List.take_zero, List.length_cons, List.length_nil, Nat.zero_add, hcl]
   have e1 : clmL 0 (pre ++ [x]) = clmL 0 pre ++ [(x.1, (pre.length : Int), x.2)] := by rw [clmL_snoc hw hs]; simp
   have e3 : (clmL 0 pre).take pre.length = clmL 0 pre := List.take_of_length_le (by rw [hcl]; exact Nat.le_refl _)
   rw [if_pos (by omega), need_lenbig (by omega), e1, e3, List.map_append, capS_append]
   simp only [List.map_cons, List.map_nil, capS_cons, show capS [] = 0 from rfl]
   by_cases hc : 0 < x.2
   ·rw [if_pos hc, if_pos hc, need_i64 (by omega) (by omega)]
    simp [hcl]
   ·rw [if_neg hc, if_neg hc]
    simp [hcl]
  ·have e1 : clmL 0 (pre ++ [x]) = clmL 0 pre ++ [(x.1, (pre.length : Int), x.2)] := by rw [clmL_snoc hw hs]; simp
   have e2 : (clmL 0 (pre ++ [x])).length = pre.length + 1 := by rw [clmL_len]; simp
   simp only [e2, hcl]
   rw [e1, List.map_append, capS_append]
   simp only [List.map_cons, List.map_nil, capS_cons, show capS [] = 0 from rfl, clmL, List.append_assoc, List.cons_append, List.nil_append, Int.add_zero, Int.add_assoc]
 ·rintro ⟨l, p⟩ _
  simp only [g18_0, run_br, br_d, run_ret]
  rw [if_neg (by rw [hz]; omega)]
  simp [clmL, capS]
 ·simp only [List.nil_append, List.drop_zero, List.take_length, imin_eq, Int.zero_add]
  rfl
end
end Go.Proofs.Try
end
section
namespace Go.Proofs.Try
open Go.AM Go.Pay
set_option maxRecDepth 100000
/-- A level that can be reckoned with. -/
structure OkL (x : Int × Int) : Prop where
 n0 : 0 ≤ x.1
 n1 : x.1 ≤ 1000000000
 d0 : 0 < x.2
 d1 : x.2 ≤ 6000000000
section
variable {w : Wk} {s : List Int} (hw : OkW w) (hs : OkS w s)
include hw hs
omit hw hs in
omit hw hs in
end
end Go.Proofs.Try
end
section
namespace Go.Proofs.Try
open Go.AM Go.Pay
set_option maxRecDepth 100000
theorem upd_sum (h : Int × Int × Int × Int → Int) (x : Int × Int × Int × Int) : ∀ (l : List Int) (k : Nat), k < l.length → (l.set k (l.getD k 0 + h x)).sum = l.sum + h x
 | [], _, hk => by simp at hk
 | y :: l, 0, _ => by simp; omega
 | y :: l, k + 1, hk => by
  have := upd_sum h x l k (by simpa using hk)
  simp only [List.getD_cons_succ, List.set_cons_succ, List.sum_cons, this]; omega
theorem foldl_upd_sum {h : Int × Int × Int × Int → Int} {K : Int} : ∀ (ws : List (Int × Int × Int × Int)) (l : List Int), (∀ x ∈ ws, x.1.toNat < l.length) → (∀ x ∈ ws, 0 ≤ h x ∧ h x ≤ K) → (ws.foldl (upd h) l).sum ≤ l.sum + K * ws.length
 | [], l, _, _ => by simp
 | x :: ws, l, h1, h2 => by
  have := foldl_upd_sum (K := K) ws (upd h l x) (fun y hy => by rw [upd_len]; exact h1 y (List.mem_cons_of_mem _ hy)) (fun y hy => h2 y (List.mem_cons_of_mem _ hy))
  have e := upd_sum h x l x.1.toNat (h1 x (List.mem_cons_self ..))
  have hx := h2 x (List.mem_cons_self ..)
  rw [List.foldl_cons, List.length_cons]
  have e2 : K * ((ws.length + 1 : Nat) : Int) = K * (ws.length : Int) + K := by rw [Int.natCast_add, Int.mul_add]; omega
  unfold upd at this e ⊢
  omega
theorem okS_sugar {w : Wk} (hw : OkW w) {h : Int × Int × Int × Int → Int} (hh : ∀ x ∈ w.2.2.2.2, 0 ≤ h x ∧ h x ≤ 102000000) : OkS w (sugarL h w.2.2.2.1.length w.2.2.2.2) where
 len := sugarL_len ..
 nn x hx := (sugarL_bd hh x hx).1
 all := by
  have := foldl_upd_sum (K := 102000000) w.2.2.2.2 (List.replicate w.2.2.2.1.length 0) (fun x hx => by have := hw.wagon x hx; rw [List.length_replicate]; omega) hh
  have e : (List.replicate w.2.2.2.1.length (0 : Int)).sum = 0 := by
   generalize w.2.2.2.1.length = n
   induction n with
   | zero => rfl
   | succ n ih => rw [List.replicate_succ, List.sum_cons, ih]; rfl
  have hn := hw.wagons
  show (w.2.2.2.2.foldl (upd h) (List.replicate w.2.2.2.1.length 0)).sum ≤ 6000000000
  omega
theorem okS_read {w : Wk} (hw : OkW w) : OkS w (sRead w) := okS_sugar hw fun x hx => by have := hw.hRead x hx; omega
theorem caps_perm {a b : List (Int × Int)} (h : a.Perm b) : caps a = caps b := by
 induction h with
 | nil => rfl
 | cons x _ ih => rw [caps_cons, caps_cons, ih]
 | swap x y l => simp only [caps_cons]; omega
 | trans _ _ h1 h2 => exact h1.trans h2
theorem kept_pr (l : List Cl) : (kept l).map pr = (l.map pr).filter fun c => decide (c.2 ≠ 0) := by
 unfold kept
 rw [List.filter_map]; rfl
theorem caps_kept : ∀ {cs : List (Int × Int)}, Nn cs → caps (cs.filter fun c => decide (c.2 ≠ 0)) = capS cs
 | [], _ => rfl
 | c :: cs, h => by
  have ih := caps_kept h.cons.2
  have hc := h.cons.1
  rw [List.filter_cons, capS_cons]
  by_cases h0 : c.2 = 0
  ·rw [if_neg (by simp [h0]), if_neg (by omega), ih]; omega
  ·rw [if_pos (by simp [h0]), if_pos (by omega), caps_cons, ih]
theorem red_levOk {n d : Int} (hd : 0 < d) (hn : 0 ≤ n) (h1 : n ≤ 1000000000) (h2 : d ≤ 6000000000) : OkL (red n d) := by
 obtain ⟨g, e1, e2, -, e4, e5⟩ := red_spec hd hn
 have a1 : (red n d).1 * 1 ≤ (red n d).1 * (Int.gcd n d : Int) := Int.mul_le_mul_of_nonneg_left (by omega) e5
 have a2 : (red n d).2 * 1 ≤ (red n d).2 * (Int.gcd n d : Int) := Int.mul_le_mul_of_nonneg_left (by omega) (by omega)
 exact ⟨e5, by omega, e4, by omega⟩
theorem payLv_bd : ∀ {l : List (Int × Int)} {left : Int} {last : Int × Int}, (∀ c ∈ l, 0 ≤ c.1 ∧ c.1 ≤ 1000000000 ∧ 0 < c.2) → 0 ≤ left → left ≤ 1000000000 → sug l ≤ 6000000000 → OkL last → OkL (payLv l left (sug l) last)
 | [], _, _, _, _, _, _, h => h
 | c :: r, left, last, hg, h0, h1, hs, hl => by
  have hc := hg c (List.mem_cons_self ..)
  have hr : ∀ c ∈ r, 0 ≤ c.1 ∧ c.1 ≤ 1000000000 ∧ 0 < c.2 := fun x hx => hg x (List.mem_cons_of_mem _ hx)
  have hn : ∀ {l : List (Int × Int)}, (∀ c ∈ l, 0 ≤ c.1 ∧ c.1 ≤ 1000000000 ∧ 0 < c.2) → 0 ≤ sug l := fun {l} h => by
   induction l with
   | nil => simp [sug]
   | cons x l ih =>
    rw [sug_cons]
    have := ih fun y hy => h y (List.mem_cons_of_mem _ hy)
    have := h x (List.mem_cons_self ..)
    omega
  have hn := hn hr
  rw [sug_cons] at hs ⊢
  unfold payLv
  split
  ·exact red_levOk (by omega) h0 h1 hs
  ·rename_i hlt
   have e : c.2 + sug r - c.2 = sug r := by omega
   rw [e]
   have h3 : c.1 * c.2 ≤ c.1 * (c.2 + sug r) := Int.mul_le_mul_of_nonneg_left (by omega) hc.1
   have h4 : c.1 ≤ left := by
    rcases Int.lt_or_le left c.1 with h | h
    ·have := Int.mul_le_mul_of_nonneg_right (show left ≤ c.1 by omega) (show (0 : Int) ≤ c.2 by omega)
     omega
    ·exact h
   exact payLv_bd hr (by omega) (by omega) (by omega) (red_levOk (by omega) hc.1 hc.2.1 (by omega))
section
variable {w : Wk} {s : List Int} (hw : OkW w) (hs : OkS w s)
include hw hs
theorem lv_prog : Lv (prs w s) (paidOf w s) (level (clm w s) (paidOf w s)).1 (level (clm w s) (paidOf w s)).2 := by
 have hn := prs_nn hw hs
 have hok := clm_ok hw hs
 have hb := paid_bd hw hs
 have hp : ((byLim (clm w s)).map pr).Perm ((prs w s).filter fun c => decide (c.2 ≠ 0)) := by
  rw [← clm_pr, ← kept_pr]
  exact (isort_perm _).map _
 have hg := byLim_good hok
 have h := payLv_spec (l := (byLim (clm w s)).map pr) (all := paidOf w s) (fun c hc => by
   obtain ⟨x, hx, rfl⟩ := List.mem_map.1 hc
   exact ⟨(hg x hx).1.c0, (hg x hx).1.s0⟩) (fun c hc => by
   obtain ⟨x, hx, rfl⟩ := List.mem_map.1 hc
   exact (hg x hx).2) (by
   unfold ByLim
   rw [List.pairwise_map]
   refine (isort_sorted ordL (kept_good hok)).imp fun {a b} hab => ?_
   simp only [ltL, decide_eq_false_iff_not] at hab
   show a.1.2 * b.2.2 ≤ b.1.2 * a.2.2
   omega) (by
   rw [caps_perm hp, caps_kept hn]
   unfold paidOf; omega) hb.1
 have e : sug ((byLim (clm w s)).map pr) = sugC (clm w s) := byLim_sug
 rw [e] at h
 exact Lv.of_filter hn (h.perm hp)
theorem level_ok : OkL (level (clm w s) (paidOf w s)) := by
 have hok := clm_ok hw hs
 have hg := byLim_good hok
 have hb := paid_bd hw hs
 have e : sug ((byLim (clm w s)).map pr) = sugC (clm w s) := byLim_sug
 unfold level
 rw [← e]
 exact payLv_bd (fun c hc => by
  obtain ⟨x, hx, rfl⟩ := List.mem_map.1 hc
  have := hg x hx
  exact ⟨this.1.c0, this.1.c1, this.2⟩) hb.1 hb.2 (by rw [e]; exact hok.all) ⟨by decide, by decide, by decide, by decide⟩
theorem k52' : run0 (F19 (clm w s, paidOf w s)) = some (level (clm w s) (paidOf w s), ()) := k52 (clm_ok hw hs) (paid_bd hw hs).1 (paid_bd hw hs).2
end
/-- What is said of the level. -/
noncomputable def lvl (w : Wk) : Int × Int × Int × Unit := if chk w = 0 then ((level (clm w (sRead w)) (paidOf w (sRead w))).1, (level (clm w (sRead w)) (paidOf w (sRead w))).2, 0, ()) else (0, 0, chk w, ())
theorem k24 (w : Wk) (hn : Names w) : run0 (F9 w) = some (lvl w) := by
 simp only [F9, run_bd, run_br, run_ret, k22 w hn, bindO_s, br_not, br_eq]
 unfold lvl
 by_cases h : chk w = 0
 case neg => rw [if_neg h, if_neg h]
 rw [if_pos h, if_pos h]
 have hw := chk_ok h
 simp only [k41 hw, bindO_s, k51 hw (okS_read hw), k52' hw (okS_read hw)]
end Go.Proofs.Try
end
section
namespace Go.Proofs.Try
open Go.AM Go.Pay
set_option maxRecDepth 100000
/-- What is due at a level, and what is cut off. -/
def dueOf (c : Int × Int) (x : Int × Int) : Int × Int := if c.1 * x.2 ≤ x.1 * c.2 then (c.1, 0) else (x.1 * c.2 / x.2, x.1 * c.2 % x.2)
theorem k54 {c : Cl} (hc : GoodC c) {x : Int × Int} (hx : OkL x) : run0 (F20 (c.1.1, c.1.2, c.2) x) = some ((dueOf (pr c) x).1, (dueOf (pr c) x).2, ()) := by
 have m1 := mul_bd hx.n0 hx.n1 hc.s0 hc.s1
 have m2 := mul_bd hc.c0 hc.c1 (Int.le_of_lt hx.d0) hx.d1
 simp only [F20, run_ni, run_nd, run_br, run_ret, br_d]
 rw [need_i64 (by omega) (by omega), need_i64 (by omega) (by omega)]
 unfold dueOf pr
 by_cases h : c.1.2 * x.2 ≤ x.1 * c.2.2
 ·simp only [if_pos h]
 ·simp only [if_neg h]
  have hne : (!(x.2 == 0)) = true := by have := hx.d0; simp; omega
  have e1 : Int.tdiv (x.1 * c.2.2) x.2 = x.1 * c.2.2 / x.2 := Int.tdiv_eq_ediv_of_nonneg m1.1
  have e2 : Int.tmod (x.1 * c.2.2) x.2 = x.1 * c.2.2 % x.2 := Int.tmod_eq_emod_of_nonneg m1.1
  have q1 : 0 ≤ x.1 * c.2.2 / x.2 := Int.ediv_nonneg m1.1 (Int.le_of_lt hx.d0)
  have q2 : x.1 * c.2.2 / x.2 ≤ x.1 * c.2.2 := Int.ediv_le_self _ m1.1
  rw [need_t hne, e1, e2, need_i64 (by omega) (by omega), need_t hne]
/-- No more anywhere. -/
inductive LeL : List Int → List Int → Prop
 | nil : LeL [] []
 | cons {a b : Int} {l m : List Int} (h : a ≤ b) (t : LeL l m) : LeL (a :: l) (b :: m)
theorem LeL.length {l m : List Int} (h : LeL l m) : l.length = m.length := by
 induction h with
 | nil => rfl
 | cons _ _ ih => simp [ih]
theorem LeL.refl : ∀ l : List Int, LeL l l
 | [] => .nil
 | _ :: l => .cons (Int.le_refl _) (LeL.refl l)
theorem LeL.getD {l m : List Int} (h : LeL l m) : ∀ k, l.getD k 0 ≤ m.getD k 0 := by
 induction h with
 | nil => intro k; simp
 | cons h _ ih =>
  intro k
  cases k with
  | zero => simpa using h
  | succ k => simpa using ih k
theorem LeL.set {l m : List Int} (h : LeL l m) {a b : Int} (hab : a ≤ b) : ∀ k, LeL (l.set k a) (m.set k b) := by
 induction h with
 | nil => intro k; exact .nil
 | cons h t ih =>
  intro k
  cases k with
  | zero => exact .cons hab t
  | succ k => exact .cons h (ih k)
theorem LeL.sum {l m : List Int} (h : LeL l m) : l.sum ≤ m.sum := by
 induction h with
 | nil => exact Int.le_refl _
 | cons h _ ih => rw [List.sum_cons, List.sum_cons]; omega
theorem LeL.foldl {h h' : Int × Int × Int × Int → Int} : ∀ {ws : List (Int × Int × Int × Int)}, (∀ x ∈ ws, h x ≤ h' x) → ∀ {l m : List Int}, LeL l m → LeL (ws.foldl (upd h) l) (ws.foldl (upd h') m)
 | [], _, _, _, hl => hl
 | x :: ws, hh, l, m, hl => by
  refine LeL.foldl (ws := ws) (fun y hy => hh y (List.mem_cons_of_mem _ hy)) ?_
  exact hl.set (by have := hl.getD x.1.toNat; have := hh x (List.mem_cons_self ..); omega) _
section
variable {w : Wk} (hw : OkW w)
include hw
end
theorem clmL_getD : ∀ (l : List ((ByteArray × Int) × Int)) (k i : Nat), i < l.length → (clmL k l).getD i cd0 = ((l.getD i ((bs [], 0), 0)).1, ((k + i : Nat) : Int), (l.getD i ((bs [], 0), 0)).2)
 | [], _, _, h => by simp at h
 | x :: l, k, 0, _ => by simp [clmL]
 | x :: l, k, i + 1, h => by
  have := clmL_getD l (k + 1) i (by simpa using h)
  simp only [clmL, List.getD_cons_succ, this, Nat.add_assoc, Nat.add_comm 1]
theorem clm_getD {w : Wk} {s : List Int} (hs : OkS w s) {i : Nat} (hi : i < w.2.2.2.1.length) : (clm w s).getD i cd0 = (w.2.2.2.1.getD i (bs [], 0), (i : Int), s.getD i 0) := by
 unfold clm
 rw [clmL_getD _ _ _ (by rw [List.length_zip, hs.len]; omega), zip_getD hi (by rw [hs.len]; exact hi)]
 simp
theorem dueOf_bd {c x : Int × Int} (hc : 0 ≤ c.1 ∧ c.1 ≤ 1000000000) (hs : 0 ≤ c.2 ∧ c.2 ≤ 6000000000) (hx : OkL x) : 0 ≤ (dueOf c x).1 ∧ (dueOf c x).1 ≤ c.1 ∧ 0 ≤ (dueOf c x).2 ∧ (dueOf c x).2 < 6000000000 + 1 := by
 unfold dueOf
 split
 ·simp only; omega
 ·rename_i h
  have m1 := mul_bd hx.n0 hx.n1 hs.1 hs.2
  have h0 := hx.d0
  have h1 := hx.d1
  have q1 : 0 ≤ x.1 * c.2 / x.2 := Int.ediv_nonneg m1.1 (Int.le_of_lt h0)
  have q2 : x.1 * c.2 / x.2 ≤ c.1 := by
   have : x.1 * c.2 / x.2 < c.1 := Int.ediv_lt_of_lt_mul h0 (by omega)
   omega
  have q3 := Int.emod_nonneg (x.1 * c.2) (show x.2 ≠ 0 by omega)
  have q4 := Int.emod_lt_of_pos (x.1 * c.2) h0
  simp only; omega
theorem dueOf_bd' {w : Wk} {s : List Int} (hw : OkW w) (hs : OkS w s) {t : (ByteArray × Int) × Int} (ht : t ∈ w.2.2.2.1.zip s) {x : Int × Int} (hx : OkL x) : 0 ≤ (dueOf (t.1.2, t.2) x).1 ∧ (dueOf (t.1.2, t.2) x).1 ≤ 1000000000 ∧ 0 ≤ (dueOf (t.1.2, t.2) x).2 := by
 have h := zs_good hw hs ht
 have := dueOf_bd (c := (t.1.2, t.2)) ⟨h.1, h.2.1⟩ ⟨h.2.2.1, h.2.2.2⟩ hx
 simp only at this; omega
end Go.Proofs.Try
end
section
namespace Go.Proofs.Try
open Go.AM Go.Pay
/-- Dues and what is cut off. -/
def outsL (cs : List (Int × Int)) (x : Int × Int) : List Int := cs.map fun c => (dueOf c x).1
def cutsL (cs : List (Int × Int)) (x : Int × Int) : List Int := cs.map fun c => (dueOf c x).2
theorem dueOf_D1 {c x : Int × Int} (hd : 0 < x.2) : (dueOf c x).1 * x.2 + (dueOf c x).2 = D1 x.1 x.2 c := by
 unfold dueOf D1
 split
 ·rename_i h; rw [Int.min_eq_right h]; simp
 ·rename_i h; rw [Int.min_eq_left (by omega)]
  simp only
  rw [Int.mul_comm]
  exact Int.mul_ediv_add_emod ..
theorem due_sum {x : Int × Int} (hd : 0 < x.2) : ∀ cs : List (Int × Int), (outsL cs x).sum * x.2 + (cutsL cs x).sum = DD x.1 x.2 cs
 | [] => by simp [outsL, cutsL, DD]
 | c :: cs => by
  have ih := due_sum hd cs
  have h1 := dueOf_D1 (c := c) hd
  unfold outsL cutsL at ih ⊢
  rw [List.map_cons, List.map_cons, List.sum_cons, List.sum_cons, DD_cons, ← ih, ← h1, Int.add_mul]; omega
theorem cutsL_bd {x : Int × Int} (hd : 0 < x.2) (cs : List (Int × Int)) : ∀ y ∈ cutsL cs x, 0 ≤ y ∧ y < x.2 := fun y hy => by
 obtain ⟨c, _, rfl⟩ := List.mem_map.1 hy
 unfold dueOf; split
 ·simp only; omega
 ·have := Int.emod_nonneg (x.1 * c.2) (show x.2 ≠ 0 by omega)
  have := Int.emod_lt_of_pos (x.1 * c.2) hd
  simp only; omega
def posN (l : List Int) : Nat := (l.filter fun y => decide (0 < y)).length
theorem sum_le_pos {d : Int} : ∀ {l : List Int}, (∀ y ∈ l, 0 ≤ y ∧ y < d) → 0 ≤ l.sum ∧ l.sum ≤ (posN l : Int) * d
 | [], _ => by simp [posN]
 | y :: l, h => by
  have h1 := h y (List.mem_cons_self ..)
  have h2 := sum_le_pos (l := l) fun z hz => h z (List.mem_cons_of_mem _ hz)
  rw [List.sum_cons]
  unfold posN at h2 ⊢
  rw [List.filter_cons]
  by_cases hy : 0 < y
  ·rw [if_pos (by simpa using hy), List.length_cons, Int.natCast_add, Int.add_mul]; omega
  ·rw [if_neg (by simpa using hy)]; omega
/-- What is left after all have got whole cents. -/
theorem left_bd {cs : List (Int × Int)} {all : Int} {x : Int × Int} (h : Lv cs all x.1 x.2) : 0 ≤ all - (outsL cs x).sum ∧ all - (outsL cs x).sum ≤ posN (cutsL cs x) := by
 have h1 := due_sum h.dpos cs
 rw [h.sum] at h1
 have h2 := sum_le_pos (cutsL_bd h.dpos cs)
 have h3 : (all - (outsL cs x).sum) * x.2 = (cutsL cs x).sum := by rw [Int.sub_mul]; omega
 have hd := h.dpos
 constructor
 ·rcases Int.lt_or_le (all - (outsL cs x).sum) 0 with hl | hl
  ·have := Int.mul_neg_of_neg_of_pos hl hd; omega
  ·exact hl
 ·exact Int.le_of_mul_le_mul_right (by omega) hd
/-- Who is before whom. -/
def better (cut : List Int) (name : Nat → ByteArray) (i j : Nat) : Bool := decide (cut.getD j 0 < cut.getD i 0) || (decide (cut.getD i 0 = cut.getD j 0) && slt (name i) (name j))
theorem better_iff {cut : List Int} {name : Nat → ByteArray} {i j : Nat} : better cut name i j = true ↔ cut.getD j 0 < cut.getD i 0 ∨ (cut.getD i 0 = cut.getD j 0 ∧ slt (name i) (name j) = true) := by
 simp [better]
theorem better_asym {cut : List Int} {name : Nat → ByteArray} {i j : Nat} (h : better cut name i j = true) : better cut name j i = false := by
 cases h' : better cut name j i
 ·rfl
 ·rw [better_iff] at h h'
  rcases h with h | ⟨h, q⟩
  ·rcases h' with h' | ⟨h', _⟩ <;> omega
  ·rcases h' with h' | ⟨_, q'⟩
   ·omega
   ·exact (slt_asym q q').elim
theorem better_trans {cut : List Int} {name : Nat → ByteArray} {i j k : Nat} (h : better cut name i j = true) (h' : better cut name j k = true) : better cut name i k = true := by
 rw [better_iff] at h h' ⊢
 rcases h with h | ⟨h, q⟩
 ·rcases h' with h' | ⟨h', _⟩ <;> (left; omega)
 ·rcases h' with h' | ⟨h', q'⟩
  ·left; omega
  ·exact .inr ⟨by omega, slt_trans q q'⟩
theorem better_total {cut : List Int} {name : Nat → ByteArray} {i j : Nat} (hn : name i ≠ name j) (h : better cut name i j = false) : better cut name j i = true := by
 rw [better_iff]
 have h1 : ¬ (better cut name i j = true) := by rw [h]; simp
 rw [better_iff] at h1
 by_cases he : cut.getD i 0 = cut.getD j 0
 ·right
  refine ⟨he.symm, ?_⟩
  cases hs : slt (name j) (name i)
  ·exfalso
   have : slt (name i) (name j) = false := by
    cases hs' : slt (name i) (name j)
    ·rfl
    ·exact (h1 (.inr ⟨he, hs'⟩)).elim
   exact hn (slt_total this hs)
  ·rfl
 ·left; omega
theorem better_ord {cut : List Int} {name : Nat → ByteArray} {n : Nat} (hn : ∀ i j, i < n → j < n → i ≠ j → name i ≠ name j) : OrdOn (better cut name) (fun i => i < n) where
 asym _ _ _ _ h := better_asym h
 ntr i j k hi hj hk h1 h2 := by
  cases h : better cut name i k
  ·rfl
  ·exfalso
   by_cases hij : i = j
   ·subst hij; rw [h] at h2; cases h2
   ·have := better_total (hn i j hi hj hij) h1
    have := better_trans this h
    rw [this] at h2; cases h2
/-- One cent more. -/
def inc (out : List Int) (i : Nat) : List Int := out.set i (out.getD i 0 + 1)
/-- The first ones in order have something cut off. -/
theorem first_pos {cut : List Int} {name : Nat → ByteArray} {n : Nat} {O A B : List Nat} {m : Nat} (hp : O.Perm (List.range n)) (hs : O.Pairwise fun a b => better cut name b a = false) (hO : O = A ++ m :: B) (hc : cut.length = n) (hl : A.length < posN cut) : 0 < cut.getD m 0 := by
 have e1 : cut = (List.range n).map fun i => cut.getD i 0 := by
  apply List.ext_getElem
  ·simp [hc]
  ·intro i h1 h2
   simp [List.getD_eq_getElem?_getD, List.getElem?_eq_getElem h1]
 have e2 : posN cut = ((O.map fun i => cut.getD i 0).filter fun y => decide (0 < y)).length := by
  unfold posN
  rw [e1]
  have := ((hp.map fun i => cut.getD i 0).filter fun y => decide (0 < y)).length_eq
  rw [← e1]
  rw [← e1] at this
  exact this.symm
 rcases Int.lt_or_le 0 (cut.getD m 0) with h | h
 ·exact h
 ·exfalso
  rw [hO, List.map_append, List.filter_append, List.length_append] at e2
  have hs2 := hs
  rw [hO] at hs2
  have hb : ((m :: B).map fun i => cut.getD i 0).filter (fun y => decide (0 < y)) = [] := by
   rw [List.filter_eq_nil_iff]
   intro y hy
   obtain ⟨i, hi, rfl⟩ := List.mem_map.1 hy
   rcases List.mem_cons.1 hi with rfl | hi
   ·simp only [decide_eq_true_eq]; omega
   ·have h1 : better cut name i m = false := (List.pairwise_cons.1 (List.pairwise_append.1 hs2).2.1).1 i hi
    have h2 : ¬ (better cut name i m = true) := by rw [h1]; simp
    rw [better_iff] at h2
    simp only [decide_eq_true_eq]; omega
  rw [hb, List.length_nil] at e2
  have := List.length_filter_le (fun y => decide (0 < y)) (A.map fun i => cut.getD i 0)
  rw [List.length_map] at this
  omega
end Go.Proofs.Try
end
section
namespace Go.Proofs.Try
open Go.AM Go.Pay
set_option maxRecDepth 100000
def cmpS (a b : ByteArray) : Int := if slt a b = true then -1 else if a = b then 0 else 1
theorem k77 (a : ByteArray) : run0 (F41 a) = some (false, ()) := by simp [F41, run_ret, seq_eq]
theorem k60 (a b : ByteArray) : run0 (F26 a b) = some (cmpS a b, ()) := by
 simp only [F26, run_bd, run_br, run_ret, k77, bindO_s, br_false, br_if, cmpS]
 cases h : slt a b
 ·by_cases he : a = b
  ·subst he; simp [seq_eq]
  ·simp [seq_eq, he]
 ·simp
def orL : List Int → Int
 | [] => 0
 | a :: r => if a = 0 then orL r else a
theorem k58 (l : List Int) (hl : l.length ≤ 1000) : run0 (F24 l) = some (orL l, ()) := by
 simp only [F24, run_bd, run_it, run_ret]
 refine bind_eq (iter_list l (fun k (_ : Unit) => ((0 : Int), l, ((l.length : Nat) : Int), (k : Int), ())) (fun _ r => if orL r = 0 then .inr (0, ()) else .inl (orL r, ())) (fun _ _ => True) ?_ ?_ (s := ()) trivial) ?_
 ·rintro pre x post _ hx -
  have hlen : l.length = pre.length + (post.length + 1) := by rw [hx]; simp
  have hd : l.getD pre.length 0 = x := by rw [hx]; exact getD_mid rfl
  have i1 : inb (pre.length : Int) ((l.length : Nat) : Int) = true := inb_t (by omega) (by omega)
  have r1 : rng .i64 ((pre.length : Int) + 1) = true := rng_i64 (by omega) (by omega)
  simp only [g24_0, run_br, run_nb, run_ni, run_nd, run_ret, Int.toNat_natCast, hd, i1, r1, need_true, br_d, br_not, br_eq]
  rw [if_pos (by omega)]
  by_cases h : x = 0
  ·left
   refine ⟨(), ?_, trivial, by simp [orL, h]⟩
   rw [if_pos h]; rfl
  ·right
   rw [if_neg h]
   have : orL (x :: post) = x := by simp [orL, h]
   rw [this, if_neg h]
 ·rintro _ _
  simp only [g24_0, run_br, br_d, run_ret]
  rw [if_neg (by omega)]
  simp [orL]
 ·by_cases h : orL l = 0
  ·rw [if_pos h, h]; rfl
  ·rw [if_neg h]; rfl
/-- A claim of a farmer of this week. -/
def GoodN (name : Nat → ByteArray) (n : Nat) (c : Cl) : Prop := ∃ i, i < n ∧ c.2.1 = (i : Int) ∧ c.1.1 = name i
def ltC (cut : List Int) (name : Nat → ByteArray) (a b : Cl) : Bool := better cut name a.2.1.toNat b.2.1.toNat
theorem ordC {cut : List Int} {name : Nat → ByteArray} {n : Nat} (hn : ∀ i j, i < n → j < n → i ≠ j → name i ≠ name j) : OrdOn (ltC cut name) (GoodN name n) where
 asym a b ha hb h := better_asym h
 ntr a b c ha hb hc h1 h2 := by
  obtain ⟨i, hi, ei, _⟩ := ha
  obtain ⟨j, hj, ej, _⟩ := hb
  obtain ⟨k, hk, ek, _⟩ := hc
  exact (better_ord (cut := cut) hn).ntr _ _ _ (show a.2.1.toNat < n by omega) (show b.2.1.toNat < n by omega) (show c.2.1.toNat < n by omega) h1 h2
theorem k57 {cut : List Int} {name : Nat → ByteArray} {n : Nat} (hc : cut.length = n) {a b : Cl} (ha : GoodN name n a) (hb : GoodN name n b) : ∃ z, run0 (F23 (a.1.1, a.1.2, a.2) (b.1.1, b.1.2, b.2) cut) = some (z, ()) ∧ (z < 0 ↔ ltC cut name a b = true) := by
 obtain ⟨i, hi, ei, ni⟩ := ha
 obtain ⟨j, hj, ej, nj⟩ := hb
 have i1 : inb b.2.1 ((cut.length : Nat) : Int) = true := inb_t (by omega) (by omega)
 have i2 : inb a.2.1 ((cut.length : Nat) : Int) = true := inb_t (by omega) (by omega)
 refine ⟨orL [cmpI (cut.getD b.2.1.toNat 0) (cut.getD a.2.1.toNat 0), cmpS a.1.1 b.1.1], ?_, ?_⟩
 ·simp only [F23, run_nb, run_nd, run_bd, run_ret, i1, i2, need_true, k59, bindO_s, k60, List.drop_zero, List.take_succ_cons, List.take_zero]
  rw [bind_of (k58 _ (by simp))]
 ·unfold ltC
  rw [better_iff]
  have e1 : a.2.1.toNat = i := by omega
  have e2 : b.2.1.toNat = j := by omega
  rw [e1, e2, ← ni, ← nj]
  generalize cut.getD i 0 = p
  generalize cut.getD j 0 = q
  simp only [orL]
  unfold cmpI cmpS
  by_cases h1 : q < p
  ·simp [h1]
  ·rw [if_neg h1]
   by_cases h2 : p < q
   ·rw [if_pos h2]; simp; omega
   ·rw [if_neg h2]
    have : p = q := by omega
    subst this
    simp only [if_true, Int.lt_irrefl, false_or, true_and]
    cases slt a.1.1 b.1.1
    ·by_cases he : a.1.1 = b.1.1
     ·simp [he]
     ·simp [he]
    ·simp
theorem kH83_v1 {l : List Cl} {cut : List Int} {name : Nat → ByteArray} {n : Nat} (hc : cut.length = n) (hg : ∀ c ∈ l, GoodN name n c) (hl : l.length ≤ 1000) : run0 (FH54_v1 l.length 0 l.length l n cut) = some (n, isort (ltC cut name) l, cut, ()) := by
 simp only [FH54_v1, run_ni, run_bd, run_it, run_ret]
 rw [need_i64 (by omega) (by omega)]
 refine bind_eq (ins_outer (lt := ltC cut name) (Good := GoodN name n) (n := l.length) (fun k m => (l.length, (0 : Int), ((l.length : Nat) : Int), (k : Int), m, n, cut, ())) (fun m => (n, m, cut, ())) ?_ ?_ hg rfl) rfl
 ·intro R x Q hR hg' hn
  simp only [gH54_v1_0, run_br, run_bd, run_it, run_ret, run_ni, br_d]
  rw [if_pos (by omega)]
  refine bind_eq (ins_inner (lt := ltC cut name) (Good := GoodN name n) (n := l.length) (fun k m => (l.length, (0 : Int), ((l.length : Nat) : Int), (R.length : Int), (k : Int), m, n, cut, ())) (fun m => (l.length, (0 : Int), ((l.length : Nat) : Int), (R.length : Int), m, n, cut, ())) ?_ ?_ R x Q hg' hn) ?_
  ·intro L y x W hg2 hn2
   have t1 : Int.toNat (((L.length + 1 : Nat) : Int) - 1) = L.length := by omega
   have g1 : (L ++ y :: x :: W).getD (L.length + 1) (((bs []), (0 : Int)), ((0 : Int), (0 : Int))) = x := by
    rw [show L ++ y :: x :: W = (L ++ [y]) ++ x :: W by simp]; exact getD_mid (by simp)
   have g2 : (L ++ y :: x :: W).getD L.length (((bs []), (0 : Int)), ((0 : Int), (0 : Int))) = y := getD_mid rfl
   have s1 : (L ++ y :: x :: W).set (L.length + 1) y = L ++ y :: y :: W := by
    rw [show L ++ y :: x :: W = (L ++ [y]) ++ x :: W by simp, set_mid (by simp)]; simp
   have s2 : (L ++ y :: y :: W).set L.length x = L ++ x :: y :: W := set_mid rfl
   have i1 : inb ((L.length + 1 : Nat) : Int) ((l.length : Nat) : Int) = true := inb_t (by omega) (by omega)
   have i2 : inb (((L.length + 1 : Nat) : Int) - 1) ((l.length : Nat) : Int) = true := inb_t (by omega) (by omega)
   have r1 : rng .i64 (((L.length + 1 : Nat) : Int) - 1) = true := rng_i64 (by omega) (by omega)
   have d1 : decide (L.length + 1 < (L ++ y :: x :: W).length) = true := decide_eq_true (by simp)
   have d2 : decide (L.length < (L ++ y :: x :: W).length) = true := decide_eq_true (by simp)
   have d3 : decide (L.length < (L ++ y :: y :: W).length) = true := decide_eq_true (by simp)
   obtain ⟨z, hz, hlt⟩ := k57 hc (hg2 x (by simp)) (hg2 y (by simp))
   have hct : cut.take n = cut := List.take_of_length_le (by omega)
   simp only [gH54_v1_1, run_br, run_bd, run_nb, run_nd, run_ni, run_ret, Int.toNat_natCast, t1, Nat.zero_add, g1, g2, pr_eta, List.drop_zero, hct, hz, bindO_s, i1, i2, r1, d1, d2, need_true, br_d, s1, s2, d3]
   rw [if_pos (by omega)]
   by_cases hcc : z < 0
   ·rw [if_pos hcc, if_pos (hlt.1 hcc)]
    have : (((L.length + 1 : Nat) : Int) - 1) = (L.length : Int) := by omega
    rw [this]
   ·rw [if_neg hcc, if_neg (fun h => hcc (hlt.2 h))]
  ·intro m
   simp only [gH54_v1_1, run_br, br_d, run_ret]
   rw [if_neg (by omega)]
  ·simp only []
   rw [need_i64 (by omega) (by omega)]
   simp
 ·intro k m hk
  simp only [gH54_v1_0, run_br, br_d, run_ret]
  rw [if_neg (by omega)]
theorem k75 : ∀ n : Nat, n ≤ 12 → ∃ y, run0 (F39 (n : Int)) = some (y, ())
 | 0, _ => ⟨0, cmp_done 10 (by kernel_rfl)⟩
 | 1, _ => ⟨1, cmp_done 10 (by kernel_rfl)⟩
 | 2, _ => ⟨2, cmp_done 10 (by kernel_rfl)⟩
 | 3, _ => ⟨2, cmp_done 10 (by kernel_rfl)⟩
 | 4, _ => ⟨3, cmp_done 10 (by kernel_rfl)⟩
 | 5, _ => ⟨3, cmp_done 10 (by kernel_rfl)⟩
 | 6, _ => ⟨3, cmp_done 10 (by kernel_rfl)⟩
 | 7, _ => ⟨3, cmp_done 10 (by kernel_rfl)⟩
 | 8, _ => ⟨4, cmp_done 10 (by kernel_rfl)⟩
 | 9, _ => ⟨4, cmp_done 10 (by kernel_rfl)⟩
 | 10, _ => ⟨4, cmp_done 10 (by kernel_rfl)⟩
 | 11, _ => ⟨4, cmp_done 10 (by kernel_rfl)⟩
 | 12, _ => ⟨4, cmp_done 10 (by kernel_rfl)⟩
 | n + 13, h => by omega
theorem kH56 {l : List Cl} {cut : List Int} {name : Nat → ByteArray} {n : Nat} (hc : cut.length = n) (hg : ∀ c ∈ l, GoodN name n c) (hl : l.length ≤ 12) : run0 (FH22 l.length l n cut) = some (n, isort (ltC cut name) l, cut, ()) := by
 obtain ⟨y, hy⟩ := k75 l.length hl
 simp only [FH22, FH38, run_nd, run_bd, run_it, run_ret]
 rw [need_t (rng_u64 (by omega) (by omega)), bind_of hy, iter_inr (b := (n, isort (ltC cut name) l, cut, ())) (by
  simp only [gH38_0, run_ni, run_nd, run_br, run_bd, run_ret, br_d]
  rw [need_i64 (by omega) (by omega), if_pos (by omega), bind_of (kH83_v1 hc hg (by omega))])]
 simp only [bindO_s]
end Go.Proofs.Try
end
section
namespace Go.Proofs.Try
open Go.AM Go.Pay
set_option maxRecDepth 100000
def nameOf (w : Wk) (i : Nat) : ByteArray := (w.2.2.2.1.getD i (bs [], 0)).1
noncomputable def order (w : Wk) (s : List Int) : List Cl := isort (ltC (cutsL (prs w s) (level (clm w s) (paidOf w s))) (nameOf w)) (clm w s)
noncomputable def leftOf (w : Wk) (s : List Int) : Int := paidOf w s - (outsL (prs w s) (level (clm w s) (paidOf w s))).sum
noncomputable def payL (w : Wk) (s : List Int) : List Int := ((order w s).take (leftOf w s).toNat).foldl (fun o c => inc o c.2.1.toNat) (outsL (prs w s) (level (clm w s) (paidOf w s)))
theorem take_set_succ {l : List Int} {k : Nat} {v : Int} (h : k < l.length) : (l.set k v).take (k + 1) = l.take k ++ [v] := by
 rw [List.take_succ_eq_append_getElem (by simpa using h)]
 simp [List.take_set_of_le]
section
variable {w : Wk} {s : List Int} (hw : OkW w) (hs : OkS w s)
include hw hs
theorem clm_len : (clm w s).length = w.2.2.2.1.length := by rw [clm, clmL_len, zs_len hw hs]
theorem prs_len : (prs w s).length = w.2.2.2.1.length := by unfold prs; rw [List.length_map, zs_len hw hs]
theorem clm_goodN : ∀ c ∈ clm w s, GoodN (nameOf w) w.2.2.2.1.length c := fun c hc => by
 obtain ⟨i, hi, rfl⟩ := List.mem_iff_getElem.1 hc
 have hi' : i < w.2.2.2.1.length := by rw [← clm_len hw hs]; exact hi
 have := clm_getD hs hi'
 rw [List.getD_eq_getElem?_getD, List.getElem?_eq_getElem hi] at this
 simp only [Option.getD_some] at this
 exact ⟨i, hi', by rw [this], by rw [this]; rfl⟩
theorem left_ok : 0 ≤ leftOf w s ∧ leftOf w s ≤ posN (cutsL (prs w s) (level (clm w s) (paidOf w s))) := left_bd (lv_prog hw hs)
theorem left_le : leftOf w s ≤ w.2.2.2.1.length := by
 have h1 := (left_ok hw hs).2
 have h2 : posN (cutsL (prs w s) (level (clm w s) (paidOf w s))) ≤ (cutsL (prs w s) (level (clm w s) (paidOf w s))).length := List.length_filter_le ..
 unfold cutsL at h1 h2
 rw [List.length_map, prs_len hw hs] at h2
 omega
theorem outs_bd : Bd 1000000000 (outsL (prs w s) (level (clm w s) (paidOf w s))) := fun y hy => by
 obtain ⟨c, hc, rfl⟩ := List.mem_map.1 hy
 obtain ⟨t, ht, rfl⟩ := List.mem_map.1 hc
 have := dueOf_bd' hw hs ht (level_ok hw hs)
 exact ⟨this.1, this.2.1⟩
theorem k26_0 : run (fun _ => none) (.it g8_0 (w.2.2.2.1.length, paidOf w s, clm w s, ((w.2.2.2.1.length : Nat) : Int), 0, clm w s, paidOf w s, (level (clm w s) (paidOf w s)).1, (level (clm w s) (paidOf w s)).2, List.replicate w.2.2.2.1.length 0, w.2.2.2.1.length, List.replicate w.2.2.2.1.length 0, ())) =
  some (w.2.2.2.1.length, leftOf w s, clm w s, paidOf w s, outsL (prs w s) (level (clm w s) (paidOf w s)), w.2.2.2.1.length, cutsL (prs w s) (level (clm w s) (paidOf w s)), ()) := by
 have hm := hw.many
 have hx := level_ok hw hs
 have hcl := clm_len hw hs
 have hb := paid_bd hw hs
 have hpr := clm_pr w s
 unfold leftOf
 generalize hp : paidOf w s = p at *
 generalize level (clm w s) p = x at *
 generalize hn : w.2.2.2.1.length = n at *
 have key := iter_list (f := fun a => run (fun _ => none) (g8_0 a)) (clm w s) (fun k (t : Int × List Int × List Int) => (n, t.1, clm w s, ((n : Nat) : Int), (k : Int), clm w s, p, x.1, x.2, t.2.1, n, t.2.2, ()))
  (fun t r => (n, t.1 - (outsL (r.map pr) x).sum, clm w s, p, t.2.1.take (n - r.length) ++ outsL (r.map pr) x, n, t.2.2.take (n - r.length) ++ cutsL (r.map pr) x, ()))
  (fun pre t => t.2.1.length = n ∧ t.2.2.length = n ∧ t.1 ≤ 1000000000 ∧ -1000000000 * (pre.length : Int) ≤ t.1) (by
   rintro pre c post ⟨a, o, u⟩ hc ⟨ho, hu, ha, ha2⟩
   simp only at ho hu ha ha2
   left
   have hlen : n = pre.length + (post.length + 1) := by rw [← hcl, hc]; simp
   have hd : (clm w s).getD pre.length cd0 = c := by rw [hc]; exact getD_mid rfl
   have hcm : c ∈ clm w s := by rw [hc]; simp
   have hg := (clm_ok hw hs).good c hcm
   have hdue := dueOf_bd (c := pr c) ⟨hg.c0, hg.c1⟩ ⟨hg.s0, hg.s1⟩ hx
   have hc1 : (dueOf (pr c) x).1 ≤ 1000000000 := by have := hg.c1; have := hdue.2.1; unfold pr at this ⊢; omega
   have k := k54 hg hx
   have i1 : inb (pre.length : Int) (((clm w s).length : Nat) : Int) = true := inb_t (by omega) (by omega)
   have i2 : inb (pre.length : Int) ((n : Nat) : Int) = true := inb_t (by omega) (by omega)
   have d1 : decide (pre.length < o.length) = true := decide_eq_true (by omega)
   have d2 : decide (pre.length < u.length) = true := decide_eq_true (by omega)
   have r1 : rng .i64 ((pre.length : Int) + 1) = true := rng_i64 (by omega) (by omega)
   have hset : (o.set pre.length (dueOf (pr c) x).1).getD pre.length 0 = (dueOf (pr c) x).1 := getD_set_self (by omega)
   refine ⟨(a - (dueOf (pr c) x).1, o.set pre.length (dueOf (pr c) x).1, u.set pre.length (dueOf (pr c) x).2), ?_, ⟨by simpa using ho, by simpa using hu, by simp only; omega, by simp only [List.length_append, List.length_cons, List.length_nil]; omega⟩, ?_⟩
   ·simp only [g8_0, run_br, run_bd, run_nb, run_nd, run_ni, run_ret, Int.toNat_natCast, Nat.zero_add, hd, i1, i2, d1, d2, r1, need_true, br_d, pr_eta]
    rw [if_pos (by omega), bind_of k]
    simp only [List.length_set, d1, need_true, hset]
    rw [need_i64 (by omega) (by omega)]
    rfl
   ·have e1 : n - (c :: post).length = pre.length := by rw [List.length_cons]; omega
    have e2 : n - post.length = pre.length + 1 := by omega
    simp only [e1, e2]
    rw [take_set_succ (by omega), take_set_succ (by omega)]
    simp only [outsL, cutsL, List.map_cons, List.sum_cons, List.append_assoc, List.cons_append, List.nil_append]
    rw [show a - ((dueOf (pr c) x).1 + (List.map (fun c => (dueOf c x).1) (List.map pr post)).sum) = a - (dueOf (pr c) x).1 - (List.map (fun c => (dueOf c x).1) (List.map pr post)).sum by omega]) (by
   rintro ⟨a, o, u⟩ ⟨ho, hu, _, _⟩
   simp only at ho hu
   simp only [g8_0, run_br, br_d, run_ret]
   rw [if_neg (by omega)]
   simp [outsL, cutsL, ← ho, List.take_of_length_le, show u.length ≤ o.length by omega]) (s := (p, List.replicate n 0, List.replicate n 0)) (by simp; omega)
 simp only [hcl, Nat.sub_self, List.take_zero, List.nil_append, hpr] at key
 exact key
theorem k26_1 {out : List Int} {O : List Cl} {L : Nat} (hO : ∀ c ∈ O, GoodN (nameOf w) w.2.2.2.1.length c) (hOl : O.length = w.2.2.2.1.length) (hL : L ≤ w.2.2.2.1.length) (hol : out.length = w.2.2.2.1.length) (hob : Bd 1000000000 out) :
  run (fun _ => none) (.it g8_1 (w.2.2.2.1.length, 0, L, (L : Int), 0, out, O, ())) = some (w.2.2.2.1.length, (O.take L).foldl (fun o c => inc o c.2.1.toNat) out, ()) ∧ ((O.take L).foldl (fun o c => inc o c.2.1.toNat) out).length = w.2.2.2.1.length := by
 have hm := hw.many
 have hll : ∀ (l : List Cl) (o : List Int), (l.foldl (fun o c => inc o c.2.1.toNat) o).length = o.length := by
  intro l
  induction l with
  | nil => intro o; rfl
  | cons c l ih => intro o; rw [List.foldl_cons, ih]; simp [inc]
 refine ⟨?_, by rw [hll, hol]⟩
 have hTl : (O.take L).length = L := by rw [List.length_take]; omega
 refine iter_list (f := fun a => run (fun _ => none) (g8_1 a)) (O.take L) (fun k (o : List Int) => (w.2.2.2.1.length, (0 : Nat), L, (L : Int), (k : Int), o, O, ())) (fun o r => (w.2.2.2.1.length, r.foldl (fun o c => inc o c.2.1.toNat) o, ())) (fun pre o => o.length = w.2.2.2.1.length ∧ Bd (1000000000 + pre.length) o) ?_ ?_ (s := out) ⟨hol, by simpa using hob⟩
 ·rintro pre c post o hc ⟨ho, hb⟩
  left
  have hlen : L = pre.length + (post.length + 1) := by rw [← hTl, hc]; simp
  have hd : O.getD pre.length cd0 = c := by
   have h1 : (O.take L).getD pre.length cd0 = c := by rw [hc]; exact getD_mid rfl
   rw [getD_take (by omega)] at h1; exact h1
  obtain ⟨i, hi, ei, _⟩ := hO c (List.mem_of_mem_take (show c ∈ O.take L by rw [hc]; simp))
  have hg := hb.getD (by omega) c.2.1.toNat
  have i1 : inb (pre.length : Int) ((L : Nat) : Int) = true := inb_t (by omega) (by omega)
  have i2 : inb c.2.1 ((w.2.2.2.1.length : Nat) : Int) = true := inb_t (by omega) (by omega)
  have d1 : decide (pre.length < O.length) = true := decide_eq_true (by omega)
  have d2 : decide (c.2.1.toNat < o.length) = true := decide_eq_true (by omega)
  have r1 : rng .i64 ((pre.length : Int) + 1) = true := rng_i64 (by omega) (by omega)
  refine ⟨inc o c.2.1.toNat, ?_, ⟨by simp [inc, ho], ?_⟩, rfl⟩
  ·simp only [g8_1, run_br, run_nb, run_nd, run_ni, run_ret, Int.toNat_natCast, Nat.zero_add, hd, i1, i2, d1, d2, r1, need_true, br_d]
   rw [if_pos (by omega), need_i64 (by omega) (by omega)]
   rfl
  ·intro y hy
   rw [List.length_append, List.length_cons, List.length_nil]
   rcases List.mem_or_eq_of_mem_set hy with hy | rfl
   ·have := hb y hy; omega
   ·omega
 ·rintro o _
  simp only [g8_1, run_br, br_d, run_ret]
  rw [if_neg (by omega)]
  rfl
end
/-- What is said of payments. -/
noncomputable def pays (w : Wk) : List Int × Int × Unit := if chk w = 0 then (payL w (sRead w), 0, ()) else ([], chk w, ())
theorem k26 (w : Wk) (hn : Names w) : run0 (F8 w) = some (pays w) := by
 simp only [F8, run_bd, run_br, run_nb, run_nd, run_ret, k22 w hn, bindO_s, br_not, br_eq]
 unfold pays
 by_cases h : chk w = 0
 case neg => rw [if_neg h, if_neg h]
 rw [if_pos h, if_pos h]
 have hw := chk_ok h
 have hs := okS_read hw
 have hm := hw.many
 have hcl := clm_len hw hs
 have hlo := left_ok hw hs
 have hle := left_le hw hs
 have hout : (outsL (prs w (sRead w)) (level (clm w (sRead w)) (paidOf w (sRead w)))).length = w.2.2.2.1.length := by unfold outsL; rw [List.length_map, prs_len hw hs]
 have hcut : (cutsL (prs w (sRead w)) (level (clm w (sRead w)) (paidOf w (sRead w)))).length = w.2.2.2.1.length := by unfold cutsL; rw [List.length_map, prs_len hw hs]
 simp only [k41 hw, bindO_s, k51 hw hs, k52' hw hs, hcl, Int.toNat_natCast]
 rw [need_inbig (by omega) (by omega), need_inbig (by omega) (by omega), bind_of (k26_0 hw hs)]
 simp only []
 have e55 := kH55 (l := clm w (sRead w)) (by omega)
 have e56 := kH56 (l := clm w (sRead w)) hcut (clm_goodN hw hs) (by omega)
 rw [hcl] at e55 e56
 rw [bind_of e55]
 simp only []
 rw [bind_of e56]
 simp only []
 rw [need_d (by omega), need_d (by omega), need_d (by omega)]
 have hO : ∀ c ∈ order w (sRead w), GoodN (nameOf w) w.2.2.2.1.length c := fun c hc => clm_goodN hw hs c ((isort_perm _).mem_iff.1 hc)
 obtain ⟨e1, e2⟩ := k26_1 hw hs (L := (leftOf w (sRead w)).toNat) hO (by rw [order, isort_length, hcl]) (by omega) hout (outs_bd hw hs)
 simp only [Int.toNat_zero, Nat.sub_zero, Nat.zero_add]
 unfold order at e1 e2
 rw [bind_of e1]
 simp only [List.drop_zero]
 rw [List.take_of_length_le (by rw [e2]; exact Nat.le_refl _)]
 rfl
end Go.Proofs.Try
end
section
namespace Go.Proofs.Try
open Go.AM Go.Pay
set_option maxRecDepth 100000
theorem clmL_nums : ∀ (k : Nat) (l : List ((ByteArray × Int) × Int)), (clmL k l).map (fun c => c.2.1.toNat) = List.range' k l.length
 | _, [] => rfl
 | k, x :: r => by simp only [clmL, List.map_cons, clmL_nums (k + 1) r, List.length_cons, List.range'_succ, Int.toNat_natCast]
section
variable {w : Wk} {s : List Int} (hw : OkW w) (hs : OkS w s)
include hw hs
theorem name_ne : ∀ i j, i < w.2.2.2.1.length → j < w.2.2.2.1.length → i ≠ j → nameOf w i ≠ nameOf w j := by
 intro i j hi hj hij e
 have hnd := hw.twice
 have e1 : (w.2.2.2.1.map (·.1))[i]'(by simpa using hi) = nameOf w i := by simp [nameOf, List.getD_eq_getElem?_getD, List.getElem?_eq_getElem hi]
 have e2 : (w.2.2.2.1.map (·.1))[j]'(by simpa using hj) = nameOf w j := by simp [nameOf, List.getD_eq_getElem?_getD, List.getElem?_eq_getElem hj]
 have h := (List.pairwise_iff_getElem.1 hnd)
 rcases Nat.lt_or_ge i j with hlt | hge
 ·exact h i j (by simpa using hi) (by simpa using hj) hlt (by rw [e1, e2, e])
 ·exact h j i (by simpa using hj) (by simpa using hi) (by omega) (by rw [e1, e2, e])
end
end Go.Proofs.Try
end
section
namespace Go.Proofs.Try
open Go.AM Go.Pay
set_option maxRecDepth 100000
theorem inc_len (o : List Int) (i : Nat) : (inc o i).length = o.length := by simp [inc]
theorem inc_getD {o : List Int} {i j : Nat} (hj : j < o.length) : (inc o j).getD i 0 = o.getD i 0 + if i = j then 1 else 0 := by
 unfold inc
 by_cases h : i = j
 ·subst h; rw [getD_set_self hj, if_pos rfl]
 ·rw [if_neg h]; simp [List.getD_eq_getElem?_getD, List.getElem?_set_ne (Ne.symm h)]
theorem inc_sum {o : List Int} {j : Nat} (hj : j < o.length) : (inc o j).sum = o.sum + 1 := by
 have := upd_sum (fun _ => 1) (0, 0, 0, 0) o j hj
 exact this
theorem incs_len : ∀ (N : List Nat) (o : List Int), (N.foldl inc o).length = o.length
 | [], _ => rfl
 | j :: N, o => by rw [List.foldl_cons, incs_len N, inc_len]
theorem incs_getD : ∀ (N : List Nat) (o : List Int), N.Nodup → (∀ j ∈ N, j < o.length) → ∀ i, (N.foldl inc o).getD i 0 = o.getD i 0 + if i ∈ N then 1 else 0
 | [], o, _, _, i => by simp
 | j :: N, o, hn, h, i => by
  rw [List.nodup_cons] at hn
  have hj := h j (List.mem_cons_self ..)
  rw [List.foldl_cons, incs_getD N (inc o j) hn.2 (fun k hk => by rw [inc_len]; exact h k (List.mem_cons_of_mem _ hk)) i, inc_getD hj]
  by_cases hij : i = j
  ·subst hij
   rw [if_pos rfl, if_neg hn.1, if_pos (List.mem_cons_self ..)]; omega
  ·rw [if_neg hij]
   by_cases hi : i ∈ N
   ·rw [if_pos hi, if_pos (List.mem_cons_of_mem _ hi)]; omega
   ·rw [if_neg hi, if_neg (by simp [hij, hi])]; omega
theorem incs_sum : ∀ (N : List Nat) (o : List Int), (∀ j ∈ N, j < o.length) → (N.foldl inc o).sum = o.sum + N.length
 | [], o, _ => by simp
 | j :: N, o, h => by
  have hj := h j (List.mem_cons_self ..)
  rw [List.foldl_cons, incs_sum N (inc o j) (fun k hk => by rw [inc_len]; exact h k (List.mem_cons_of_mem _ hk)), inc_sum hj, List.length_cons]
  omega
end Go.Proofs.Try
end
section
namespace Go.Pay
/-- Termwise no more, in all as much: termwise as much. -/
theorem sum_eq_of_le {α : Type} {f g : α → Int} : ∀ {l : List α}, (∀ x ∈ l, f x ≤ g x) → (l.map f).sum = (l.map g).sum → ∀ x ∈ l, f x = g x
 | [], _, _, _, hx => by cases hx
 | y :: l, h, hs, x, hx => by
  have h1 := h y (List.mem_cons_self ..)
  have h2 : (l.map f).sum ≤ (l.map g).sum := by
   have key : ∀ m : List α, (∀ x ∈ m, f x ≤ g x) → (m.map f).sum ≤ (m.map g).sum := by
    intro m
    induction m with
    | nil => intro _; simp
    | cons a m ih =>
     intro hm
     have := hm a (List.mem_cons_self ..)
     have := ih fun x hx => hm x (List.mem_cons_of_mem _ hx)
     simp only [List.map_cons, List.sum_cons]; omega
   exact key l fun x hx => h x (List.mem_cons_of_mem _ hx)
  simp only [List.map_cons, List.sum_cons] at hs
  rcases List.mem_cons.1 hx with rfl | hx
  ·omega
  ·exact sum_eq_of_le (l := l) (fun x hx => h x (List.mem_cons_of_mem _ hx)) (by omega) x hx
theorem DD_mul {n d k : Int} (cs : List (Int × Int)) : (cs.map fun c => D1 n d c * k).sum = DD n d cs * k := by
 induction cs with
 | nil => simp [DD]
 | cons c cs ih => rw [List.map_cons, List.sum_cons, DD_cons, Int.add_mul, ih]
/-- Two levels that give as much in all give each one as much. -/
theorem D1_same {cs : List (Int × Int)} {all n d n' d' : Int} (hn : Nn cs) (hd : 0 < d) (hd' : 0 < d') (h : DD n d cs = all * d) (h' : DD n' d' cs = all * d') : ∀ c ∈ cs, D1 n d c * d' = D1 n' d' c * d := by
 have hs : (cs.map fun c => D1 n d c * d').sum = (cs.map fun c => D1 n' d' c * d).sum := by
  rw [DD_mul, DD_mul, h, h', Int.mul_right_comm]
 rcases Int.le_total (n * d') (n' * d) with hle | hle
 ·exact sum_eq_of_le (f := fun c => D1 n d c * d') (g := fun c => D1 n' d' c * d) (fun c hc => D1_mono hd hd' hle (hn c hc).2) hs
 ·intro c hc
  exact (sum_eq_of_le (f := fun c => D1 n' d' c * d) (g := fun c => D1 n d c * d') (fun c hc => D1_mono hd' hd hle (hn c hc).2) hs.symm c hc).symm
/-- One who gets the Cap, or not. -/
abbrev Who := (Int × Int) × Bool
def capOf : List Who → Int
 | [] => 0
 | c :: r => (if c.2 = true then c.1.1 else 0) + capOf r
def sugOf : List Who → Int
 | [] => 0
 | c :: r => (if c.2 = true then 0 else c.1.2) + sugOf r
theorem capOf_cons {c : Who} {r : List Who} : capOf (c :: r) = (if c.2 = true then c.1.1 else 0) + capOf r := rfl
theorem sugOf_cons {c : Who} {r : List Who} : sugOf (c :: r) = (if c.2 = true then 0 else c.1.2) + sugOf r := rfl
/-- A set agrees with itself at a level. -/
def Agrees (n d : Int) (l : List Who) : Prop := ∀ c ∈ l, if c.2 = true then c.1.1 * d ≤ n * c.1.2 else n * c.1.2 ≤ c.1.1 * d
theorem agrees_D1 {n d : Int} {c : Who} (h : if c.2 = true then c.1.1 * d ≤ n * c.1.2 else n * c.1.2 ≤ c.1.1 * d) : D1 n d c.1 = if c.2 = true then c.1.1 * d else n * c.1.2 := by
 unfold D1
 cases hc : c.2
 ·rw [hc] at h; simp only [Bool.false_eq_true, if_false] at h ⊢; exact Int.min_eq_left h
 ·rw [hc] at h; simp only [if_true] at h ⊢; exact Int.min_eq_right h
theorem agrees_DD {n d : Int} : ∀ {l : List Who}, Agrees n d l → DD n d (l.map (·.1)) = capOf l * d + n * sugOf l
 | [], _ => by simp [DD, capOf, sugOf]
 | c :: l, h => by
  have ih := agrees_DD (l := l) fun x hx => h x (List.mem_cons_of_mem _ hx)
  rw [List.map_cons, DD_cons, ih, agrees_D1 (h c (List.mem_cons_self ..)), capOf_cons, sugOf_cons]
  cases c.2
  ·simp only [Bool.false_eq_true, if_false, Int.zero_add, Int.mul_add]; omega
  ·simp only [if_true, Int.zero_add, Int.add_mul]; omega
/-- Those who get the Cap have sugar; what is left goes to the others. -/
structure Good (l : List Who) (paid M num den : Int) : Prop where
 left : 0 ≤ paid - capOf l
 some : ¬ (0 < paid - capOf l ∧ sugOf l = 0)
 hnum : num = if sugOf l = 0 then M else paid - capOf l
 hden : den = max 1 (sugOf l)
 agrees : Agrees num den l
theorem sugOf_nn : ∀ {l : List Who}, (∀ c ∈ l, 0 ≤ c.1.2) → 0 ≤ sugOf l
 | [], _ => Int.le_refl _
 | c :: l, h => by
  have h1 := h c (List.mem_cons_self ..)
  have h2 := sugOf_nn (l := l) fun x hx => h x (List.mem_cons_of_mem _ hx)
  rw [sugOf_cons]; split <;> omega
/-- Such a set shares out just what is paid. -/
theorem Good.sum {l : List Who} {paid M num den : Int} (h : Good l paid M num den) (hn : ∀ c ∈ l, 0 ≤ c.1.2) : 0 < den ∧ DD num den (l.map (·.1)) = paid * den := by
 have hs := sugOf_nn hn
 have hd := h.hden
 have hl := h.left
 have hso := h.some
 refine ⟨by omega, ?_⟩
 rw [agrees_DD h.agrees]
 by_cases h0 : sugOf l = 0
 ·have : den = 1 := by omega
  have : capOf l = paid := by omega
  rw [h0]; simp only [Int.mul_zero, Int.add_zero]; rw [this]
 ·have hn := h.hnum
  rw [if_neg h0] at hn
  have hde : den = sugOf l := by omega
  rw [hn, ← hde, ← Int.add_mul]
  congr 1; omega
/-- Those who get the Cap at a level. -/
def whoAt (n d : Int) (cs : List (Int × Int)) : List Who := cs.map fun c => (c, decide (0 < c.2 ∧ c.1 * d ≤ n * c.2))
theorem whoAt_cap {n d : Int} : ∀ {cs : List (Int × Int)}, Nn cs → capOf (whoAt n d cs) = full n d cs ∧ sugOf (whoAt n d cs) = rest n d cs
 | [], _ => ⟨rfl, rfl⟩
 | c :: cs, h => by
  obtain ⟨i1, i2⟩ := whoAt_cap (n := n) (d := d) h.cons.2
  have hc := h.cons.1
  unfold whoAt at i1 i2 ⊢
  rw [List.map_cons, capOf_cons, sugOf_cons, full_cons, rest_cons, i1, i2]
  simp only [decide_eq_true_eq]
  by_cases h0 : c.2 = 0
  ·have hw : ¬ (0 < c.2 ∧ c.1 * d ≤ n * c.2) := fun h => by have := h.1; omega
   rw [if_neg hw, if_neg hw, if_pos h0, if_pos h0]
   exact ⟨rfl, by omega⟩
  ·rw [if_neg h0, if_neg h0]
   by_cases h1 : c.1 * d ≤ n * c.2
   ·have hw : 0 < c.2 ∧ c.1 * d ≤ n * c.2 := ⟨by omega, h1⟩
    rw [if_pos hw, if_pos hw, if_pos h1, if_pos h1]; exact ⟨rfl, rfl⟩
   ·have hw : ¬ (0 < c.2 ∧ c.1 * d ≤ n * c.2) := fun h => h1 h.2
    rw [if_neg hw, if_neg hw, if_neg h1, if_neg h1]; exact ⟨rfl, rfl⟩
theorem good_at {cs : List (Int × Int)} {paid n d M : Int} (hn : Nn cs) (h : Lv cs paid n d) (hM : ∀ c ∈ cs, c.1 ≤ M) (hM0 : 0 ≤ M) :
  Good (whoAt n d cs) paid M (if sugOf (whoAt n d cs) = 0 then M else paid - capOf (whoAt n d cs)) (max 1 (sugOf (whoAt n d cs))) := by
 obtain ⟨e1, e2⟩ := whoAt_cap (n := n) (d := d) hn
 have hp := DD_parts h.dpos hn (n := n)
 rw [h.sum] at hp
 have hr := rest_nn (n := n) (d := d) hn
 have hd := h.dpos
 have hl : (paid - full n d cs) * d = n * rest n d cs := by rw [Int.sub_mul]; omega
 have h0 : 0 ≤ paid - full n d cs := by
  rcases Int.lt_or_le (paid - full n d cs) 0 with hlt | hle
  ·have := Int.mul_neg_of_neg_of_pos hlt hd
   have := Int.mul_nonneg h.nneg hr
   omega
  ·exact hle
 rw [e1, e2]
 refine ⟨by rw [e1]; exact h0, ?_, by rw [e1, e2], by rw [e2], ?_⟩
 ·rw [e1, e2]
  rintro ⟨q1, q2⟩
  rw [q2, Int.mul_zero] at hl
  rcases Int.mul_eq_zero.1 hl with q | q <;> omega
 ·intro w hw
  obtain ⟨c, hc, rfl⟩ := List.mem_map.1 hw
  have hcn := hn c hc
  by_cases hr0 : rest n d cs = 0
  ·rw [if_pos hr0, hr0]
   have hden : max (1 : Int) 0 = 1 := by omega
   rw [hden]
   simp only [decide_eq_true_eq]
   split
   ·rename_i hcc
    have : M * 1 ≤ M * c.2 := Int.mul_le_mul_of_nonneg_left (by omega) hM0
    have := hM c hc
    omega
   ·rename_i hcc
    have hz : c.2 = 0 := by
     rcases Int.lt_or_le 0 c.2 with hp | hp
     ·exfalso
      have hnc : ¬ c.1 * d ≤ n * c.2 := fun h => hcc ⟨hp, h⟩
      have key : ∀ cs : List (Int × Int), Nn cs → c ∈ cs → 0 < rest n d cs := by
       intro cs
       induction cs with
       | nil => intro _ h; cases h
       | cons e cs ih =>
        intro hn he
        have hr := rest_nn (n := n) (d := d) hn.cons.2
        have hen := hn.cons.1
        rw [rest_cons]
        rcases List.mem_cons.1 he with rfl | he
        ·rw [if_neg (by omega), if_neg hnc]; omega
        ·have := ih hn.cons.2 he
         split
         ·omega
         ·split <;> omega
      have := key cs hn hc
      omega
     ·omega
    rw [hz]; simp; omega
  ·rw [if_neg hr0]
   have hden : max (1 : Int) (rest n d cs) = rest n d cs := by omega
   rw [hden]
   have hrp : 0 < rest n d cs := by omega
   simp only [decide_eq_true_eq]
   split
   ·rename_i hcc
    -- Cap * d <= n * sugar
    have q1 : c.1 * d * rest n d cs ≤ n * c.2 * rest n d cs := Int.mul_le_mul_of_nonneg_right hcc.2 hr
    rw [Int.mul_right_comm n c.2, ← hl, Int.mul_right_comm c.1 d, Int.mul_right_comm _ d c.2] at q1
    exact Int.le_of_mul_le_mul_right q1 hd
   ·rename_i hcc
    have hnc : n * c.2 ≤ c.1 * d := by
     rcases Int.lt_or_le 0 c.2 with hp | hp
     ·have : ¬ c.1 * d ≤ n * c.2 := fun h => hcc ⟨hp, h⟩
      omega
     ·have : c.2 = 0 := by omega
      rw [this, Int.mul_zero]; exact Int.mul_nonneg hcn.1 (Int.le_of_lt hd)
    have q1 : n * c.2 * rest n d cs ≤ c.1 * d * rest n d cs := Int.mul_le_mul_of_nonneg_right hnc hr
    rw [Int.mul_right_comm n c.2, ← hl, Int.mul_right_comm c.1 d, Int.mul_right_comm _ d c.2] at q1
    exact Int.le_of_mul_le_mul_right q1 hd
end Go.Pay
end
section
namespace Go.Proofs.Try
open Go.AM Go.Pay
set_option maxRecDepth 100000
noncomputable def levelW (w : Wk) (s : List Int) : Int × Int := level (clm w s) (paidOf w s)
noncomputable def outsW (w : Wk) (s : List Int) : List Int := outsL (prs w s) (levelW w s)
noncomputable def cutsW (w : Wk) (s : List Int) : List Int := cutsL (prs w s) (levelW w s)
noncomputable def numsW (w : Wk) (s : List Int) : List Nat := (order w s).map fun c => c.2.1.toNat
noncomputable def moreW (w : Wk) (s : List Int) : List Nat := (numsW w s).take (leftOf w s).toNat
def capAt (w : Wk) (i : Nat) : Int := (w.2.2.2.1.getD i (bs [], 0)).2
theorem payL_eq (w : Wk) (s : List Int) : payL w s = (moreW w s).foldl inc (outsW w s) := by
 unfold payL moreW numsW; rw [← List.map_take, List.foldl_map]; rfl
section
variable {w : Wk} {s : List Int} (hw : OkW w) (hs : OkS w s)
include hw hs
theorem prs_at {i : Nat} (hi : i < w.2.2.2.1.length) : (prs w s).getD i (0, 0) = (capAt w i, s.getD i 0) := by
 have h1 := hs.len
 have hz := zs_len hw hs
 unfold prs capAt
 rw [List.getD_eq_getElem?_getD, List.getElem?_map, List.getElem?_eq_getElem (show i < (w.2.2.2.1.zip s).length by omega)]
 simp [List.getD_eq_getElem?_getD, List.getElem?_eq_getElem hi, List.getElem?_eq_getElem (show i < s.length by omega)]
theorem prs_mem {i : Nat} (hi : i < w.2.2.2.1.length) : (capAt w i, s.getD i 0) ∈ prs w s := by
 have h := prs_len hw hs
 rw [← prs_at hw hs hi, List.getD_eq_getElem?_getD, List.getElem?_eq_getElem (by omega)]
 exact List.getElem_mem _
theorem outs_len : (outsW w s).length = w.2.2.2.1.length := by unfold outsW outsL; rw [List.length_map, prs_len hw hs]
theorem cuts_len : (cutsW w s).length = w.2.2.2.1.length := by unfold cutsW cutsL; rw [List.length_map, prs_len hw hs]
theorem outs_at {i : Nat} (hi : i < w.2.2.2.1.length) : (outsW w s).getD i 0 = (dueOf (capAt w i, s.getD i 0) (levelW w s)).1 := by
 have h := prs_len hw hs
 rw [← prs_at hw hs hi]
 unfold outsW outsL
 simp [List.getD_eq_getElem?_getD, List.getElem?_eq_getElem (show i < (prs w s).length by omega)]
theorem cuts_at {i : Nat} (hi : i < w.2.2.2.1.length) : (cutsW w s).getD i 0 = (dueOf (capAt w i, s.getD i 0) (levelW w s)).2 := by
 have h := prs_len hw hs
 rw [← prs_at hw hs hi]
 unfold cutsW cutsL
 simp [List.getD_eq_getElem?_getD, List.getElem?_eq_getElem (show i < (prs w s).length by omega)]
theorem nums_perm : (numsW w s).Perm (List.range w.2.2.2.1.length) := by
 refine ((isort_perm _).map _).trans ?_
 unfold clm
 rw [clmL_nums, zs_len hw hs, List.range_eq_range']
theorem nums_sorted : (numsW w s).Pairwise fun a b => better (cutsW w s) (nameOf w) b a = false := by
 unfold numsW
 rw [List.pairwise_map]
 exact isort_sorted (ordC (n := w.2.2.2.1.length) (name_ne hw hs)) (clm_goodN hw hs)
theorem nums_nodup : (numsW w s).Nodup := (nums_perm hw hs).nodup_iff.2 List.nodup_range
theorem nums_len : (numsW w s).length = w.2.2.2.1.length := by rw [(nums_perm hw hs).length_eq, List.length_range]
theorem more_lt : ∀ j ∈ moreW w s, j < w.2.2.2.1.length := fun j hj => by
 have := List.mem_of_mem_take hj
 rw [(nums_perm hw hs).mem_iff] at this
 simpa using this
theorem more_nodup : (moreW w s).Nodup := (nums_nodup hw hs).sublist (List.take_sublist ..)
theorem more_len : ((moreW w s).length : Int) = leftOf w s := by
 have h1 := left_ok hw hs
 have h2 := left_le hw hs
 unfold moreW
 rw [List.length_take, nums_len hw hs]
 omega
theorem payW_len : (payL w s).length = w.2.2.2.1.length := by rw [payL_eq, incs_len, outs_len hw hs]
theorem payL_sum : (payL w s).sum = paidOf w s := by
 rw [payL_eq, incs_sum _ _ (fun j hj => by rw [outs_len hw hs]; exact more_lt hw hs j hj), more_len hw hs]
 unfold leftOf outsW levelW; omega
theorem payL_get {i : Nat} (hi : i < w.2.2.2.1.length) : (payL w s).getD i 0 = (outsW w s).getD i 0 + if i ∈ moreW w s then 1 else 0 := by
 rw [payL_eq, incs_getD _ _ (more_nodup hw hs) (fun j hj => by rw [outs_len hw hs]; exact more_lt hw hs j hj)]
theorem more_pos {i : Nat} (hi : i ∈ moreW w s) : 0 < (cutsW w s).getD i 0 := by
 obtain ⟨A, B, hAB⟩ := List.append_of_mem hi
 have hl := left_ok hw hs
 have hlen := more_len hw hs
 have hN : numsW w s = A ++ i :: (B ++ (numsW w s).drop (leftOf w s).toNat) := by
  have := List.take_append_drop (leftOf w s).toNat (numsW w s)
  unfold moreW at hAB
  rw [hAB] at this
  refine this.symm.trans ?_
  simp
 refine first_pos (nums_perm hw hs) (nums_sorted hw hs) hN (cuts_len hw hs) ?_
 rw [hAB, List.length_append, List.length_cons] at hlen
 have : leftOf w s ≤ posN (cutsW w s) := hl.2
 omega
theorem levelW_lv : Lv (prs w s) (paidOf w s) (levelW w s).1 (levelW w s).2 := lv_prog hw hs
/-- Each payment with what was cut off. -/
theorem payL_at {i : Nat} (hi : i < w.2.2.2.1.length) : ∃ o c : Int, (dueOf (capAt w i, s.getD i 0) (levelW w s)) = (o, c) ∧ o * (levelW w s).2 + c = D1 (levelW w s).1 (levelW w s).2 (capAt w i, s.getD i 0) ∧ 0 ≤ c ∧ c < (levelW w s).2 ∧ 0 ≤ o ∧ o ≤ capAt w i ∧ (0 < c → o < capAt w i) ∧
  ((payL w s).getD i 0 = o ∧ i ∉ moreW w s ∨ ((payL w s).getD i 0 = o + 1 ∧ 0 < c ∧ i ∈ moreW w s)) := by
 have hl := levelW_lv hw hs
 have hx : OkL (levelW w s) := level_ok hw hs
 have hm := prs_mem hw hs hi
 have hn := prs_nn hw hs _ hm
 obtain ⟨z, hz, hz2⟩ := List.mem_map.1 hm
 have hg := zs_good hw hs hz
 have hc1 : z.1.2 = capAt w i := congrArg Prod.fst hz2
 have hc2 : z.2 = s.getD i 0 := congrArg Prod.snd hz2
 have hb := dueOf_bd (c := (capAt w i, s.getD i 0)) ⟨hn.1, by simp only; omega⟩ ⟨hn.2, by simp only; omega⟩ hx
 have hD := dueOf_D1 (c := (capAt w i, s.getD i 0)) hl.dpos
 have hcut : (dueOf (capAt w i, s.getD i 0) (levelW w s)).2 < (levelW w s).2 := (cutsL_bd hl.dpos (prs w s) _ (List.mem_map.2 ⟨_, hm, rfl⟩)).2
 have hlt : 0 < (dueOf (capAt w i, s.getD i 0) (levelW w s)).2 → (dueOf (capAt w i, s.getD i 0) (levelW w s)).1 < capAt w i := by
  intro hc
  have h1 : D1 (levelW w s).1 (levelW w s).2 (capAt w i, s.getD i 0) ≤ capAt w i * (levelW w s).2 := by unfold D1; exact Int.min_le_right ..
  rcases Int.lt_or_le (dueOf (capAt w i, s.getD i 0) (levelW w s)).1 (capAt w i) with h | h
  ·exact h
  ·have := Int.mul_le_mul_of_nonneg_right h (Int.le_of_lt hl.dpos)
   omega
 refine ⟨_, _, rfl, hD, hb.2.2.1, hcut, hb.1, hb.2.1, hlt, ?_⟩
 have h1 := payL_get hw hs hi
 rw [outs_at hw hs hi] at h1
 by_cases hmo : i ∈ moreW w s
 ·right
  rw [if_pos hmo] at h1
  have h2 := more_pos hw hs hmo
  rw [cuts_at hw hs hi] at h2
  exact ⟨h1, h2, hmo⟩
 ·left
  rw [if_neg hmo] at h1
  exact ⟨by rw [h1]; exact Int.add_zero _, hmo⟩
end
end Go.Proofs.Try
end
section
namespace Go.Proofs.Try
open Go.AM Go.Pay
set_option maxRecDepth 100000
theorem chkF_of : ∀ {fs : List (ByteArray × Int)} {seen : List ByteArray}, (∀ f ∈ fs, nameOk f.1 = true ∧ f.1 ∉ seen ∧ 0 ≤ f.2 ∧ f.2 ≤ 1000000000) → (fs.map (·.1)).Nodup → chkF seen fs = 0
 | [], _, _, _ => rfl
 | f :: r, seen, h, hn => by
  have h1 := h f (List.mem_cons_self ..)
  rw [List.map_cons, List.nodup_cons] at hn
  simp only [chkF]
  rw [if_neg (by rw [h1.1]; simp), if_neg (by rw [memS_iff]; exact h1.2.1), if_neg (not_not_intro h1.2.2)]
  refine chkF_of (fun g hg => ?_) hn.2
  have h2 := h g (List.mem_cons_of_mem _ hg)
  refine ⟨h2.1, fun hm => ?_, h2.2.2⟩
  rcases List.mem_append.1 hm with hm | hm
  ·exact h2.2.1 hm
  ·simp at hm
   exact hn.1 (List.mem_map.2 ⟨g, hg, hm⟩)
theorem chkW_of {n : Int} : ∀ {ws : List (Int × Int × Int × Int)}, (∀ x ∈ ws, 0 ≤ x.1 ∧ x.1 < n ∧ 0 ≤ x.2.2.1 ∧ x.2.2.1 ≤ x.2.1 ∧ x.2.1 ≤ 100000 ∧ 0 ≤ x.2.2.2 ∧ x.2.2.2 ≤ 1000) → chkW n ws = 0
 | [], _ => rfl
 | x :: r, h => by
  have h1 := h x (List.mem_cons_self ..)
  simp only [chkW]
  rw [if_neg (by omega), if_neg (by omega), if_neg (by omega), if_neg (by omega)]
  exact chkW_of fun y hy => h y (List.mem_cons_of_mem _ hy)
theorem chk_of {w : Wk} (h : OkW w) : chk w = 0 := by
 have h0 : chk0 w = 0 := by
  unfold chk0; rw [if_neg (not_not_intro h.pot), if_neg (not_not_intro h.scale), if_neg (not_not_intro h.lab)]
 have h1 : chk1 w = 0 := by
  have := h.some; have := h.many
  unfold chk1; rw [if_neg (by omega), if_neg (by omega)]
  exact chkF_of (fun f hf => ⟨h.name f hf, by simp, h.cap f hf⟩) h.twice
 have h2 : chk2 w = 0 := by
  have := h.wagons
  unfold chk2; rw [if_neg (by omega)]
  exact chkW_of h.wagon
 unfold chk
 rw [h0, h1, h2]; rfl
end Go.Proofs.Try
end
section
namespace Go.Proofs.Try
open Go.AM Go.Pay
set_option maxRecDepth 100000
/-- Nobody has more sugar than the Cap. -/
def Under (cs : List (Int × Int)) : Prop := ∀ c ∈ cs, 0 ≤ c.2 ∧ c.2 ≤ c.1
theorem Under.cons {c : Int × Int} {r : List (Int × Int)} (h : Under (c :: r)) : (0 ≤ c.2 ∧ c.2 ≤ c.1) ∧ Under r := ⟨h c (List.mem_cons_self ..), fun x hx => h x (List.mem_cons_of_mem _ hx)⟩
theorem under_caps : ∀ {cs : List (Int × Int)}, Under cs → sug cs ≤ capS cs ∧ 0 ≤ sug cs
 | [], _ => by simp [sug, capS]
 | c :: r, h => by
  have ih := under_caps h.cons.2
  have := h.cons.1
  rw [sug_cons, capS_cons]
  split <;> omega
theorem under_one : ∀ {cs : List (Int × Int)}, Under cs → DD 1 1 cs = sug cs
 | [], _ => by simp [DD, sug]
 | c :: r, h => by
  have ih := under_one h.cons.2
  have := h.cons.1
  rw [DD_cons, sug_cons, ih]
  unfold D1
  rw [Int.min_eq_left (by omega)]
  omega
theorem under_zero : ∀ {cs : List (Int × Int)}, Under cs → DD 0 1 cs = 0
 | [], _ => by simp [DD]
 | c :: r, h => by
  have ih := under_zero h.cons.2
  have := h.cons.1
  rw [DD_cons, ih]
  unfold D1
  rw [Int.min_eq_left (by omega)]
  omega
theorem under_pos : ∀ {cs : List (Int × Int)}, Under cs → 0 < sug cs → ∃ c ∈ cs, 0 < c.2
 | [], _, h => by simp [sug] at h
 | c :: r, h, h0 => by
  rw [sug_cons] at h0
  by_cases hc : 0 < c.2
  ·exact ⟨c, List.mem_cons_self .., hc⟩
  ·obtain ⟨x, hx, h1⟩ := under_pos h.cons.2 (by have := h.cons.1; omega)
   exact ⟨x, List.mem_cons_of_mem _ hx, h1⟩
/-- A level above 1 pays all. -/
theorem under_more {n d : Int} (hd : 0 < d) (hn : d ≤ n) : ∀ {cs : List (Int × Int)}, Under cs → sug cs * d ≤ DD n d cs ∧ (d < n → ∀ c ∈ cs, 0 < c.2 → c.2 < c.1 → sug cs * d < DD n d cs)
 | [], _ => by simp [DD, sug]
 | c :: r, h => by
  have ih := under_more hd hn h.cons.2
  have hc := h.cons.1
  have e1 : c.2 * d ≤ n * c.2 := by rw [Int.mul_comm n]; exact Int.mul_le_mul_of_nonneg_left hn hc.1
  have e2 : c.2 * d ≤ c.1 * d := Int.mul_le_mul_of_nonneg_right hc.2 (by omega)
  have e3 : c.2 * d ≤ D1 n d c := by unfold D1; exact Int.le_min.2 ⟨e1, e2⟩
  rw [DD_cons, sug_cons, Int.add_mul]
  refine ⟨by omega, fun hlt x hx hx0 hx1 => ?_⟩
  rcases List.mem_cons.1 hx with rfl | hx
  ·have e1 : x.2 * d < n * x.2 := by rw [Int.mul_comm n]; exact Int.mul_lt_mul_of_pos_left hlt hx0
   have e2 : x.2 * d < x.1 * d := Int.mul_lt_mul_of_pos_right hx1 hd
   have e3 : x.2 * d < D1 n d x := by unfold D1; exact Int.lt_min.2 ⟨e1, e2⟩
   omega
  ·have := ih.2 hlt x hx hx0 hx1
   omega
section
variable {w : Wk} {s : List Int} (hw : OkW w) (hs : OkS w s) (hu : Under (prs w s))
include hw hs hu
theorem full_paid (hp : w.1 = s.sum) : paidOf w s = s.sum := by
 have h1 := (under_caps hu).1
 rw [sug_prs hs] at h1
 unfold paidOf
 omega
theorem less_paid (hp : w.1 ≤ s.sum) : paidOf w s = w.1 := by
 have h1 := (under_caps hu).1
 rw [sug_prs hs] at h1
 unfold paidOf
 omega
theorem full_level (hp : w.1 = s.sum) : levelW w s = if 0 < s.sum then (1, 1) else (0, 1) := by
 have h := levelW_lv hw hs
 have hnn := prs_nn hw hs
 rw [full_paid hw hs hu hp] at h
 have h0 := (under_caps hu).2
 rw [sug_prs hs] at h0
 split
 ·rename_i h1
  have hl : Lv (prs w s) s.sum 1 1 := ⟨by decide, by decide, by decide, by rw [under_one hu, sug_prs hs]; omega, .inr (by
   obtain ⟨c, hc, hc0⟩ := under_pos hu (by rw [sug_prs hs]; exact h1)
   exact ⟨c, hc, hc0, by have := hu c hc; omega⟩)⟩
  have := h.uniq hl hnn
  exact Prod.ext this.1 this.2
 ·rename_i h1
  have hl : Lv (prs w s) s.sum 0 1 := ⟨by decide, by decide, by decide, by rw [under_zero hu]; omega, .inl rfl⟩
  have := h.uniq hl hnn
  exact Prod.ext this.1 this.2
theorem mem_at {i : Nat} (hi : i < w.2.2.2.1.length) : 0 ≤ s.getD i 0 ∧ s.getD i 0 ≤ capAt w i := hu _ (prs_mem hw hs hi)
theorem zero_sum {i : Nat} (h : ¬ 0 < s.sum) : s.getD i 0 = 0 := by
 have hn := hs.nn
 have key : ∀ (l : List Int) (i : Nat), (∀ x ∈ l, 0 ≤ x) → 0 ≤ l.sum ∧ 0 ≤ l.getD i 0 ∧ l.getD i 0 ≤ l.sum := by
  intro l
  induction l with
  | nil => intro i _; simp
  | cons x l ih =>
   intro i hx
   have h0 := hx x (List.mem_cons_self ..)
   cases i with
   | zero =>
    have := (ih 0 fun y hy => hx y (List.mem_cons_of_mem _ hy)).1
    simp
    omega
   | succ i =>
    have := ih i fun y hy => hx y (List.mem_cons_of_mem _ hy)
    simp
    simp at this
    omega
 have := key s i hn
 omega
/-- All get their sugar. -/
theorem full_pays (hp : w.1 = s.sum) : payL w s = s := by
 apply List.ext_getElem
 ·rw [payW_len hw hs, hs.len]
 intro i h1 h2
 have hi : i < w.2.2.2.1.length := by rw [← hs.len]; exact h2
 have e1 : (payL w s)[i] = (payL w s).getD i 0 := by simp [List.getD, h1]
 have e2 : s[i] = s.getD i 0 := by simp [List.getD, h2]
 rw [e1, e2]
 have hm := mem_at hw hs hu hi
 have h0 := @zero_sum w s hw hs hu i
 obtain ⟨o, c, -, e4, c0, c1, -, -, -, hq⟩ := payL_at hw hs hi
 rw [full_level hw hs hu hp] at e4 c1
 unfold D1 at e4
 by_cases hz : 0 < s.sum
 ·rw [if_pos hz] at e4 c1
  rw [Int.min_eq_left (by omega)] at e4
  rcases hq with hq | hq <;> omega
 ·rw [if_neg hz] at e4 c1
  have := h0 hz
  rw [Int.min_eq_left (by omega)] at e4
  rcases hq with hq | hq <;> omega
/-- With less money the level is at most 1. -/
theorem less_level (hp : w.1 ≤ s.sum) (hcap : ∀ i, i < w.2.2.2.1.length → s.getD i 0 < capAt w i) : (levelW w s).1 ≤ (levelW w s).2 ∨ s.sum = 0 := by
 by_cases hz : 0 < s.sum
 ·left
  have h := levelW_lv hw hs
  rw [less_paid hw hs hu hp] at h
  rcases Int.lt_or_le (levelW w s).2 (levelW w s).1 with hlt | hle
  ·exfalso
   obtain ⟨c, hc, hc0⟩ := under_pos hu (by rw [sug_prs hs]; exact hz)
   have hcc : c.2 < c.1 := by
    unfold prs at hc
    obtain ⟨x, hx, rfl⟩ := List.mem_map.1 hc
    obtain ⟨i, hi, rfl⟩ := List.getElem_of_mem hx
    have hi' : i < w.2.2.2.1.length ∧ i < s.length := by simp at hi; omega
    have := hcap i hi'.1
    simp [capAt, List.getD, hi'.1, hi'.2] at this
    simpa using this
   have h1 := (under_more h.dpos (Int.le_of_lt hlt) hu).2 hlt c hc hc0 hcc
   rw [sug_prs hs, h.sum] at h1
   have h2 := Int.mul_le_mul_of_nonneg_right hp (Int.le_of_lt h.dpos)
   omega
  ·exact hle
 ·right
  have := (under_caps hu).2
  rw [sug_prs hs] at this
  omega
theorem less_pays (hp : w.1 ≤ s.sum) (hcap : ∀ i, i < w.2.2.2.1.length → s.getD i 0 < capAt w i) {i : Nat} (hi : i < w.2.2.2.1.length) : (payL w s).getD i 0 ≤ s.getD i 0 := by
 have hm := mem_at hw hs hu hi
 have h := levelW_lv hw hs
 obtain ⟨o, c, -, e4, c0, c1, -, -, -, hq⟩ := payL_at hw hs hi
 have e5 : D1 (levelW w s).1 (levelW w s).2 (capAt w i, s.getD i 0) ≤ s.getD i 0 * (levelW w s).2 := by
  have e6 : D1 (levelW w s).1 (levelW w s).2 (capAt w i, s.getD i 0) ≤ (levelW w s).1 * s.getD i 0 := by unfold D1; exact Int.min_le_left ..
  rcases less_level hw hs hu hp hcap with hl | hz
  ·have := Int.mul_le_mul_of_nonneg_right hl hm.1
   rw [Int.mul_comm (levelW w s).2] at this
   omega
  ·have := @zero_sum w s hw hs hu i (by omega)
   rw [this] at e6 ⊢
   omega
 have hd := h.dpos
 have h1 : o ≤ s.getD i 0 := by
  rcases Int.lt_or_le (s.getD i 0) o with hlt | hle
  ·have := Int.mul_le_mul_of_nonneg_right (show s.getD i 0 + 1 ≤ o by omega) (Int.le_of_lt hd)
   rw [Int.add_mul] at this
   omega
  ·exact hle
 rcases hq with hq | hq
 ·omega
 ·have h2 : o ≠ s.getD i 0 := by
   rintro rfl
   omega
  omega
/-- Who has no less sugar gets no less, but for a cent. -/
theorem fair_pays {i k : Nat} (hi : i < w.2.2.2.1.length) (hk : k < w.2.2.2.1.length) (hc : capAt w i = capAt w k) (hik : s.getD k 0 ≤ s.getD i 0) : (payL w s).getD k 0 - 1 ≤ (payL w s).getD i 0 := by
 have h := levelW_lv hw hs
 have hd := h.dpos
 obtain ⟨o, c, -, e4, c0, c1, -, -, -, hq⟩ := payL_at hw hs hi
 obtain ⟨o', c', -, e4', c0', c1', -, -, -, hq'⟩ := payL_at hw hs hk
 have e5 : D1 (levelW w s).1 (levelW w s).2 (capAt w k, s.getD k 0) ≤ D1 (levelW w s).1 (levelW w s).2 (capAt w i, s.getD i 0) := by
  unfold D1
  rw [hc]
  have := Int.mul_le_mul_of_nonneg_left hik h.nneg
  simp only
  omega
 have h1 : o' ≤ o := by
  rcases Int.lt_or_le o o' with hlt | hle
  ·have := Int.mul_le_mul_of_nonneg_right (show o + 1 ≤ o' by omega) (Int.le_of_lt hd)
   rw [Int.add_mul] at this
   omega
  ·exact hle
 rcases hq with hq | hq <;> rcases hq' with hq' | hq' <;> omega
end
end Go.Proofs.Try
end
section
namespace Go.Top
open Go.AM
/-- The steps of fields from a number on: gain, and the field's number. -/
def stp : Nat → List (List Int) → List (Int × Int)
 | _, [] => []
 | k, f :: r => f.map (fun x => (x, (k : Int))) ++ stp (k + 1) r
/-- The greater gain first; of equal ones the lesser field. -/
def ltS (a b : Int × Int) : Bool := decide (b.1 < a.1 ∨ (b.1 = a.1 ∧ a.2 < b.2))
theorem ltS_ord (G : Int × Int → Prop) : OrdOn ltS G where
 asym a b _ _ h := by
  have h := of_decide_eq_true h
  exact decide_eq_false (by omega)
 ntr a b c _ _ _ h1 h2 := by
  have h1 := of_decide_eq_false h1
  have h2 := of_decide_eq_false h2
  exact decide_eq_false (by omega)
def srtS (fs : List (List Int)) : List (Int × Int) := isort ltS (stp 0 fs)
theorem stp_fld : ∀ {k : Nat} {fs : List (List Int)}, ∀ x ∈ stp k fs, (k : Int) ≤ x.2 ∧ x.2 < (k : Int) + fs.length
 | _, [], x, h => by cases h
 | k, f :: r, x, h => by
  rcases List.mem_append.1 h with h | h
  ·obtain ⟨y, -, rfl⟩ := List.mem_map.1 h
   simp
   omega
  ·have := stp_fld x h
   simp at this ⊢
   omega
theorem stp_filter : ∀ {k i : Nat} {fs : List (List Int)}, k ≤ i → (stp k fs).filter (fun x => decide (x.2 = (i : Int))) = (fs.getD (i - k) []).map fun x => (x, (i : Int))
 | _, _, [], _ => by simp [stp]
 | k, i, f :: r, h => by
  simp only [stp, List.filter_append]
  by_cases e : k = i
  ·subst e
   have h1 : (f.map fun x => (x, (k : Int))).filter (fun x => decide (x.2 = (k : Int))) = f.map fun x => (x, (k : Int)) := by
    rw [List.filter_eq_self]
    intro x hx
    obtain ⟨y, -, rfl⟩ := List.mem_map.1 hx
    simp
   have h2 : (stp (k + 1) r).filter (fun x => decide (x.2 = (k : Int))) = [] := by
    rw [List.filter_eq_nil_iff]
    intro x hx
    have := stp_fld x hx
    simp
    omega
   rw [h1, h2]
   simp
  ·have h1 : (f.map fun x => (x, (k : Int))).filter (fun x => decide (x.2 = (i : Int))) = [] := by
    rw [List.filter_eq_nil_iff]
    intro x hx
    obtain ⟨y, -, rfl⟩ := List.mem_map.1 hx
    simp
    omega
   rw [h1, stp_filter (show k + 1 ≤ i by omega), show i - k = (i - (k + 1)) + 1 by omega]
   simp
/-- The sorted steps of one field: in its order. -/
theorem srt_filter {fs : List (List Int)} {i : Nat} (hd : (fs.getD i []).Pairwise (fun a b => b ≤ a)) : (srtS fs).filter (fun x => decide (x.2 = (i : Int))) = (fs.getD i []).map fun x => (x, (i : Int)) := by
 have e : (stp 0 fs).filter (fun x => decide (x.2 = (i : Int))) = _ := stp_filter (Nat.zero_le i)
 rw [Nat.sub_zero] at e
 have hp : ((srtS fs).filter (fun x => decide (x.2 = (i : Int)))).Perm ((fs.getD i []).map fun x => (x, (i : Int))) := by
  rw [← e]
  exact (isort_perm _).filter _
 have hs : (srtS fs).Pairwise (fun a b => ltS b a = false) := isort_sorted (ltS_ord fun _ => True) (fun _ _ => trivial)
 refine hp.eq_of_pairwise (le := fun a b => ltS b a = false) (fun a b ha hb h1 h2 => ?_) (hs.sublist List.filter_sublist) ?_
 ·have h1 := of_decide_eq_false h1
  have h2 := of_decide_eq_false h2
  exact Prod.ext (by omega) (by omega)
 ·rw [List.pairwise_map]
  exact hd.imp fun {a b} h => decide_eq_false (by simp; omega)
/-- Sums by fields. -/
theorem sum_at {n j : Nat} {v : Int} {g : Nat → Int} (hj : j < n) : ((List.range n).map fun i => (if i = j then v else 0) + g i).sum = v + ((List.range n).map g).sum := by
 induction n with
 | zero => omega
 | succ n ih =>
  rw [List.range_succ, List.map_append, List.map_append, List.sum_append, List.sum_append]
  by_cases h : j = n
  ·subst h
   have e : ((List.range j).map fun i => (if i = j then v else 0) + g i) = (List.range j).map g := List.map_congr_left fun i hi => by
    rw [List.mem_range] at hi
    rw [if_neg (by omega)]; omega
   rw [e]
   simp
   omega
  ·rw [ih (by omega)]
   simp [show n ≠ j by omega]
   omega
theorem sum_fibre {n : Nat} : ∀ {S : List (Int × Int)}, (∀ x ∈ S, 0 ≤ x.2 ∧ x.2 < n) → (S.map (·.1)).sum = ((List.range n).map fun i => ((S.filter fun x => decide (x.2 = ((i : Nat) : Int))).map (·.1)).sum).sum
 | [], _ => by
  have : ((List.range n).map fun _ : Nat => (0 : Int)).sum = 0 := by
   rw [List.map_const']
   induction n with
   | zero => rfl
   | succ n ih => simp_all
  simpa using this.symm
 | x :: S, h => by
  have h1 := h x (List.mem_cons_self ..)
  have ih := sum_fibre (S := S) fun y hy => h y (List.mem_cons_of_mem _ hy)
  rw [List.map_cons, List.sum_cons, ih, ← sum_at (j := x.2.toNat) (v := x.1) (by omega)]
  congr 1
  apply List.map_congr_left
  intro i hi
  rw [List.filter_cons]
  by_cases e : x.2 = (i : Int)
  ·rw [if_pos (by omega), if_pos (by simpa using e)]
   simp
  ·rw [if_neg (by omega), if_neg (by simpa using e)]
   omega
/-- A plan: how many steps of each field are taken. -/
def planOf (S : List (Int × Int)) (n : Nat) : List Int := S.foldl (fun p x => p.set x.2.toNat (p.getD x.2.toNat 0 + 1)) (List.replicate n 0)
theorem plan_go : ∀ (S : List (Int × Int)) (p : List Int), (∀ x ∈ S, 0 ≤ x.2 ∧ x.2 < p.length) → (S.foldl (fun p x => p.set x.2.toNat (p.getD x.2.toNat 0 + 1)) p).length = p.length ∧
  ∀ i, i < p.length → (S.foldl (fun p x => p.set x.2.toNat (p.getD x.2.toNat 0 + 1)) p).getD i 0 = p.getD i 0 + (S.filter fun x => decide (x.2 = (i : Int))).length
 | [], p, _ => by simp
 | x :: S, p, h => by
  have h1 := h x (List.mem_cons_self ..)
  have ih := plan_go S (p.set x.2.toNat (p.getD x.2.toNat 0 + 1)) (fun y hy => by
   rw [List.length_set]; exact h y (List.mem_cons_of_mem _ hy))
  rw [List.length_set] at ih
  rw [List.foldl_cons]
  refine ⟨ih.1, fun i hi => ?_⟩
  rw [ih.2 i hi, List.filter_cons]
  by_cases e : x.2 = (i : Int)
  ·have e' : x.2.toNat = i := by omega
   rw [if_pos (by simpa using e), e']
   simp [List.getD, hi]
   omega
  ·have e' : x.2.toNat ≠ i := by omega
   rw [if_neg (by simpa using e)]
   simp [List.getD, List.getElem?_set_ne e']
theorem plan_at {S : List (Int × Int)} {n : Nat} (h : ∀ x ∈ S, 0 ≤ x.2 ∧ x.2 < n) : (planOf S n).length = n ∧ ∀ i, i < n → (planOf S n).getD i 0 = (S.filter fun x => decide (x.2 = (i : Int))).length := by
 have := plan_go S (List.replicate n 0) (by simpa using h)
 simp only [List.length_replicate] at this
 refine ⟨this.1, fun i hi => ?_⟩
 have := this.2 i hi
 unfold planOf
 rw [this]
 simp [List.getD, hi]
/-- The best plan of so many gangs: each field's first steps; its sugar. -/
theorem best_plan {fs : List (List Int)} {g : Nat} (hd : ∀ f ∈ fs, f.Pairwise (fun a b : Int => b ≤ a)) :
  (planOf ((srtS fs).take g) fs.length).length = fs.length ∧
  (∀ i, i < fs.length → ∃ m : Nat, (planOf ((srtS fs).take g) fs.length).getD i 0 = (m : Int) ∧ m ≤ (fs.getD i []).length) ∧
  (((srtS fs).take g).map (·.1)).sum = ((List.range fs.length).map fun i => ((fs.getD i []).take ((planOf ((srtS fs).take g) fs.length).getD i 0).toNat).sum).sum := by
 have hb : ∀ x ∈ (srtS fs).take g, 0 ≤ x.2 ∧ x.2 < fs.length := fun x hx => by
  have := stp_fld x ((isort_perm _).mem_iff.1 (List.mem_of_mem_take hx))
  omega
 have hp := plan_at hb
 have hf : ∀ i, i < fs.length → (((srtS fs).take g).filter fun x => decide (x.2 = (i : Int))) = ((fs.getD i []).take (((srtS fs).take g).filter fun x => decide (x.2 = (i : Int))).length).map fun x => (x, (i : Int)) := fun i hi => by
  have h1 : (((srtS fs).take g).filter fun x => decide (x.2 = (i : Int))) <+: ((srtS fs).filter fun x => decide (x.2 = (i : Int))) := (List.take_prefix g (srtS fs)).filter _
  rw [srt_filter (hd _ (by simp [List.getD, hi]))] at h1
  have h2 := List.prefix_iff_eq_take.1 h1
  rw [List.map_take]
  exact h2
 refine ⟨hp.1, fun i hi => ⟨_, hp.2 i hi, ?_⟩, ?_⟩
 ·have := congrArg List.length (hf i hi)
  rw [List.length_map, List.length_take] at this
  omega
 ·rw [sum_fibre hb]
  congr 1
  apply List.map_congr_left
  intro i hi
  rw [List.mem_range] at hi
  rw [hp.2 i hi, Int.toNat_natCast]
  conv => lhs; rw [hf i hi]
  rw [List.map_map]
  congr 1
  exact List.map_id' _
end Go.Top
end
section
namespace Go.Proofs.Try
open Go.AM Go.Pay Go.Top
set_option maxRecDepth 100000
/-- A field of this law. -/
structure OkF (f : List Int) : Prop where
 len : f.length = 3
 rng : ∀ x ∈ f, 0 ≤ x ∧ x ≤ 255
 down : f.Pairwise fun a b => b ≤ a
structure OkFs (fs : List (List Int)) : Prop where
 many : fs.length ≤ 4
 ok : ∀ f ∈ fs, OkF f
theorem w28 (a b c : Int) : run0 (F28 a b c) = some (decide (a ≤ b ∧ b ≤ c), ()) := by
 simp only [F28, run_br, run_ret, br_d]
 split <;> simp [*]
theorem OkF.at {f : List Int} (h : OkF f) {pre post : List Int} {x : Int} (e : f = pre ++ x :: post) (hp : 0 < pre.length) : x ≤ f.getD (pre.length - 1) 0 := by
 have hd := h.down
 rw [e, List.pairwise_append] at hd
 have hl : pre.length - 1 < pre.length := by omega
 have : f.getD (pre.length - 1) 0 = pre[pre.length - 1] := by
  rw [e]
  simp [List.getD, List.getElem?_append_left hl, List.getElem?_eq_getElem hl]
 rw [this]
 exact hd.2.2 _ (List.getElem_mem hl) x (List.mem_cons_self ..)
theorem w42_1 {f : List Int} (h : OkF f) (fs : List (List Int)) (n i : Int) : iter (fun a => run (fun _ => none) (g42_1 a)) (f, fs, n, i, f, ((f.length : Nat) : Int), (0 : Int), ()) = some (.inr (fs, n, i, ())) := by
 have hl3 := h.len
 have key := iter_list (f := fun a => run (fun _ => none) (g42_1 a)) f (fun k (_ : Unit) => (f, fs, n, i, f, ((f.length : Nat) : Int), (k : Int), ())) (fun _ _ => Sum.inr (fs, n, i, ())) (fun _ _ => True) ?_ ?_ (s := ()) trivial
 ·exact key
 ·rintro pre x post _ hx -
  left
  refine ⟨(), ?_, trivial, rfl⟩
  have hlen : f.length = pre.length + (post.length + 1) := by rw [hx]; simp
  have hd : f.getD pre.length 0 = x := by rw [hx]; exact getD_mid rfl
  have i1 : inb (pre.length : Int) ((f.length : Nat) : Int) = true := inb_t (by omega) (by omega)
  have r1 : rng .i64 ((pre.length : Int) + 1) = true := rng_i64 (by omega) (by omega)
  have hr := h.rng x (by rw [hx]; simp)
  have q1 : run (fun _ => none) (F28 0 x 1000000) = _ := w28 0 x 1000000
  simp only [g42_1, F43, F44, run_br, run_bd, run_nb, run_ni, run_nd, run_ret, Int.toNat_natCast, hd, i1, r1, need_true, br_d, br_not, br_eq, q1, bindO_s]
  rw [if_pos (by omega), if_pos ⟨by omega, by omega⟩]
  by_cases h0 : 0 < pre.length
  ·have t1 : Int.toNat ((pre.length : Int) - 1) = pre.length - 1 := by omega
   rw [if_pos (by omega), need_i64 (by omega) (by omega), need_inb (by omega) (by omega), t1, if_pos (h.at hx h0)]
   rfl
  ·rw [if_neg (by omega)]
   rfl
 ·rintro _ _
  simp only [g42_1, run_br, br_d, run_ret]
  rw [if_neg (by omega)]
theorem w42 {fs : List (List Int)} (h : OkFs fs) : run0 (F42 fs) = some (0, ()) := by
 have h4 := h.many
 simp only [F42, run_br, run_bd, run_it, run_ret, br_d]
 rw [if_neg (by omega)]
 refine bind_eq (iter_list fs (fun k (_ : Unit) => (fs, ((fs.length : Nat) : Int), (k : Int), ())) (fun _ _ => .inr ()) (fun _ _ => True) ?_ ?_ (s := ()) trivial) rfl
 ·rintro pre x post _ hx -
  left
  refine ⟨(), ?_, trivial, rfl⟩
  have hlen : fs.length = pre.length + (post.length + 1) := by rw [hx]; simp
  have hd : fs.getD pre.length [] = x := by rw [hx]; exact getD_mid rfl
  have i1 : inb (pre.length : Int) ((fs.length : Nat) : Int) = true := inb_t (by omega) (by omega)
  have hxo := h.ok x (by rw [hx]; simp)
  have h3 := hxo.len
  simp only [g42_0, run_br, run_bd, run_it, run_nb, run_ni, run_nd, run_ret, Int.toNat_natCast, hd, i1, need_true, br_d]
  rw [if_pos (by omega), if_neg (by omega), bind_of (w42_1 hxo _ _ _)]
  simp only [run_sr, run_ni, run_ret]
  rw [need_i64 (by omega) (by omega)]
  rfl
 ·rintro _ _
  simp only [g42_0, run_br, br_d, run_ret]
  rw [if_neg (by omega)]
theorem w46 {a b : Int × Int} (ha : 0 ≤ a.1 ∧ a.1 ≤ 255 ∧ 0 ≤ a.2 ∧ a.2 ≤ 255) (hb : 0 ≤ b.1 ∧ b.1 ≤ 255 ∧ 0 ≤ b.2 ∧ b.2 ≤ 255) : ∃ z : Int, run0 (F46 a b) = some (z, ()) ∧ (z < 0 ↔ ltS a b = true) := by
 unfold ltS
 rw [decide_eq_true_eq]
 simp only [F46, F30, run_br, run_bd, run_ni, run_ret, bindO_s, Bool.and_true]
 by_cases e : a.1 = b.1 ∧ a.2 = b.2
 ·refine ⟨0, ?_, by omega⟩
  rw [e.1, e.2]
  simp
 ·have : (a.1 == b.1 && a.2 == b.2) = false := by
   rw [Bool.eq_false_iff]
   intro h
   simp at h
   exact e h
  rw [this, brO_false, need_i64 (by omega) (by omega), need_i64 (by omega) (by omega), need_i64 (by omega) (by omega)]
  refine ⟨orL [b.1 - a.1, 0 - 0, a.2 - b.2], bind_eq (k58 _ (by simp)) rfl, ?_⟩
  simp only [orL]
  split <;> rename_i h1
  ·split <;> rename_i h2
   ·split <;> rename_i h3 <;> omega
   ·omega
  ·omega
def GoodS (c : Int × Int) : Prop := 0 ≤ c.1 ∧ c.1 ≤ 255 ∧ 0 ≤ c.2 ∧ c.2 ≤ 255
theorem w73 {l : List (Int × Int)} (hg : ∀ c ∈ l, GoodS c) (hl : l.length ≤ 1000) : run0 (FH73_v1 l.length 0 l.length l) = some (isort ltS l, ()) := by
 simp only [FH73_v1, run_ni, run_bd, run_it, run_ret]
 rw [need_i64 (by omega) (by omega)]
 refine bind_eq (ins_outer (lt := ltS) (Good := GoodS) (n := l.length) (fun k m => (l.length, (0 : Int), ((l.length : Nat) : Int), (k : Int), m, ())) (fun m => (m, ())) ?_ ?_ hg rfl) rfl
 ·intro R x Q hR hg' hn
  simp only [gH73_v1_0, run_br, run_bd, run_it, run_ret, run_ni, br_d]
  rw [if_pos (by omega)]
  refine bind_eq (ins_inner (lt := ltS) (Good := GoodS) (n := l.length) (fun k m => (l.length, (0 : Int), ((l.length : Nat) : Int), (R.length : Int), (k : Int), m, ())) (fun m => (l.length, (0 : Int), ((l.length : Nat) : Int), (R.length : Int), m, ())) ?_ ?_ R x Q hg' hn) ?_
  ·intro L y x W hg2 hn2
   have t1 : Int.toNat (((L.length + 1 : Nat) : Int) - 1) = L.length := by omega
   have g1 : (L ++ y :: x :: W).getD (L.length + 1) ((0 : Int), (0 : Int)) = x := by
    rw [show L ++ y :: x :: W = (L ++ [y]) ++ x :: W by simp]; exact getD_mid (by simp)
   have g2 : (L ++ y :: x :: W).getD L.length ((0 : Int), (0 : Int)) = y := getD_mid rfl
   have s1 : (L ++ y :: x :: W).set (L.length + 1) y = L ++ y :: y :: W := by
    rw [show L ++ y :: x :: W = (L ++ [y]) ++ x :: W by simp, set_mid (by simp)]; simp
   have s2 : (L ++ y :: y :: W).set L.length x = L ++ x :: y :: W := set_mid rfl
   have i1 : inb ((L.length + 1 : Nat) : Int) ((l.length : Nat) : Int) = true := inb_t (by omega) (by omega)
   have i2 : inb (((L.length + 1 : Nat) : Int) - 1) ((l.length : Nat) : Int) = true := inb_t (by omega) (by omega)
   have r1 : rng .i64 (((L.length + 1 : Nat) : Int) - 1) = true := rng_i64 (by omega) (by omega)
   have d1 : decide (L.length + 1 < (L ++ y :: x :: W).length) = true := decide_eq_true (by simp)
   have d2 : decide (L.length < (L ++ y :: x :: W).length) = true := decide_eq_true (by simp)
   have d3 : decide (L.length < (L ++ y :: y :: W).length) = true := decide_eq_true (by simp)
   obtain ⟨z, hz, hlt⟩ := w46 (hg2 x (by simp)) (hg2 y (by simp))
   simp only [gH73_v1_1, run_br, run_bd, run_nb, run_nd, run_ni, run_ret, Int.toNat_natCast, t1, Nat.zero_add, g1, g2, pr_eta, List.drop_zero, hz, bindO_s, i1, i2, r1, d1, d2, need_true, br_d, s1, s2, d3]
   rw [if_pos (by omega)]
   by_cases hcc : z < 0
   ·rw [if_pos hcc, if_pos (hlt.1 hcc)]
    have : (((L.length + 1 : Nat) : Int) - 1) = (L.length : Int) := by omega
    rw [this]
   ·rw [if_neg hcc, if_neg (fun h => hcc (hlt.2 h))]
  ·intro m
   simp only [gH73_v1_1, run_br, br_d, run_ret]
   rw [if_neg (by omega)]
  ·simp only []
   rw [need_i64 (by omega) (by omega)]
   simp
 ·intro k m hk
  simp only [gH73_v1_0, run_br, br_d, run_ret]
  rw [if_neg (by omega)]
theorem w45 {l : List (Int × Int)} (hg : ∀ c ∈ l, GoodS c) (hl : l.length ≤ 12) : run0 (FH45_v1 l.length l) = some (isort ltS l, ()) := by
 simp only [FH45_v1, FH64_v1, run_bd, run_it, run_ret]
 rw [iter_inr (b := (l.length, ((l.length : Nat) : Int), (20 : Int), (0 : Int), l, ())) (by
  simp only [gH64_v1_0, run_br, run_ret, br_d]
  rw [if_neg (by omega)])]
 simp only [bindO_s]
 rw [bind_of (w73 hg (by omega))]
 rw [iter_inr (b := (isort ltS l, ())) (by
  simp only [gH64_v1_1, run_br, run_ret, br_d]
  rw [if_neg (by omega)])]
 simp only [bindO_s]
end Go.Proofs.Try
end
section
namespace Go.Proofs.Try
open Go.AM Go.Pay Go.Top
set_option maxRecDepth 100000
theorem tk_one {α : Type} (x : α) : List.take 1 [x] = [x] := rfl
theorem w29_1 {f : List Int} (h : OkF f) (fs : List (List Int)) (n : Int) (i : Int) {st : List (Int × Int)} (hst : st.length ≤ 1000) :
  iter (fun a => run (fun _ => none) (g29_1 a)) (st.length, i, fs, n, i, f, ((f.length : Nat) : Int), (0 : Int), st, ()) = some ((st ++ f.map fun x => (x, i)).length, fs, n, i, st ++ f.map (fun x => (x, i)), ()) := by
 have hl3 := h.len
 have key := iter_list (f := fun a => run (fun _ => none) (g29_1 a)) f (fun k (st : List (Int × Int)) => (st.length, i, fs, n, i, f, ((f.length : Nat) : Int), (k : Int), st, ()))
  (fun st r => ((st ++ r.map fun x => (x, i)).length, fs, n, i, st ++ r.map (fun x => (x, i)), ())) (fun pre st => st.length ≤ 1000 + pre.length) ?_ ?_ (s := st) (by simpa using hst)
 ·exact key
 ·rintro pre x post st hx hi
  left
  have hlen : f.length = pre.length + (post.length + 1) := by rw [hx]; simp
  have hd : f.getD pre.length 0 = x := by rw [hx]; exact getD_mid rfl
  have i1 : inb (pre.length : Int) ((f.length : Nat) : Int) = true := inb_t (by omega) (by omega)
  have r1 : rng .i64 ((pre.length : Int) + 1) = true := rng_i64 (by omega) (by omega)
  refine ⟨st ++ [(x, i)], ?_, by simp; omega, by simp⟩
  simp only [g29_1, run_br, run_bd, run_nb, run_ni, run_nd, run_ret, Int.toNat_natCast, hd, i1, r1, need_true, br_d, List.drop_zero, tk_one, List.take_length, List.length_cons, List.length_nil]
  rw [if_pos (by omega), need_lenbig (by omega)]
  simp
 ·rintro st hi
  simp only [g29_1, run_br, br_d, run_ret]
  rw [if_neg (by omega)]
  simp
theorem stp_good : ∀ {k : Nat} {fs : List (List Int)}, (∀ f ∈ fs, OkF f) → k + fs.length ≤ 4 → (∀ c ∈ stp k fs, GoodS c) ∧ (stp k fs).length = 3 * fs.length
 | _, [], _, _ => by simp [stp]
 | k, f :: r, h, hk => by
  have hf := h f (List.mem_cons_self ..)
  simp at hk
  have ih := stp_good (k := k + 1) (fs := r) (fun x hx => h x (List.mem_cons_of_mem _ hx)) (by omega)
  refine ⟨fun c hc => ?_, ?_⟩
  ·rcases List.mem_append.1 hc with hc | hc
   ·obtain ⟨x, hx, rfl⟩ := List.mem_map.1 hc
    have := hf.rng x hx
    exact ⟨this.1, this.2, by simp, by simp; omega⟩
   ·exact ih.1 c hc
  ·simp only [stp, List.length_append, List.length_map, ih.2, hf.len, List.length_cons]
   omega
theorem w29 {fs : List (List Int)} (h : OkFs fs) : run0 (F29 fs) = some (srtS fs, ()) := by
 have h4 := h.many
 have hg := stp_good (k := 0) h.ok (by omega)
 simp only [F29, F47, run_bd, run_it, run_ret]
 have key := iter_list (f := fun a => run (fun _ => none) (g29_0 a)) fs (fun k (st : List (Int × Int)) => (st.length, fs, ((fs.length : Nat) : Int), (k : Int), st, ()))
  (fun st r => ((st ++ stp (fs.length - r.length) r).length, st ++ stp (fs.length - r.length) r, ())) (fun pre st => st.length = 3 * pre.length) ?_ ?_ (s := []) rfl
 ·refine bind_eq key ?_
  rw [Nat.sub_self, List.nil_append]
  rw [bind_of (w45 hg.1 (by omega))]
  simp only [bindO_s, List.drop_zero]
  rw [List.take_of_length_le (by rw [isort_length]; exact Nat.le_refl _)]
  rfl
 ·rintro pre x post st hx hi
  left
  have hlen : fs.length = pre.length + (post.length + 1) := by rw [hx]; simp
  have hd : fs.getD pre.length [] = x := by rw [hx]; exact getD_mid rfl
  have i1 : inb (pre.length : Int) ((fs.length : Nat) : Int) = true := inb_t (by omega) (by omega)
  have r1 : rng .i64 ((pre.length : Int) + 1) = true := rng_i64 (by omega) (by omega)
  have hxo := h.ok x (by rw [hx]; simp)
  have e1 : fs.length - (x :: post).length = pre.length := by rw [List.length_cons]; omega
  have e2 : fs.length - post.length = pre.length + 1 := by omega
  refine ⟨st ++ x.map (fun y => (y, (pre.length : Int))), ?_, ?_, ?_⟩
  ·simp only [g29_0, run_br, run_bd, run_it, run_nb, run_ni, run_nd, run_ret, Int.toNat_natCast, hd, i1, need_true, br_d]
   rw [if_pos (by omega), bind_of (w29_1 hxo fs _ _ (by omega))]
   simp only [r1, need_true]
   rfl
  ·simp [hxo.len, hi]; omega
  ·rw [e1, e2]
   simp [stp]
 ·rintro st hi
  simp only [g29_0, run_br, br_d, run_ret]
  rw [if_neg (by omega)]
  simp [stp]
/-- The rounds of the best plan. -/
theorem w12_0 {S : List (Int × Int)} {n : Nat} (hn : n ≤ 4) (hS : ∀ c ∈ S, GoodS c ∧ c.2 < n) (hl : S.length ≤ 12) (g : Nat) (hg : g ≤ 100) :
  ∃ z, (∃ c, iter (fun a => run (fun _ => none) (g12_0i_0 a)) (S, ((S.length : Nat) : Int), (0 : Int), S, (g : Int), n, (0 : Int), List.replicate n (0 : Int), ()) = some c ∧ (c = .inl z ∨ c = .inr z)) ∧
   z.2.1 = n ∧ z.2.2.1 = ((S.take g).map (·.1)).sum ∧ z.2.2.2.2.1 = planOf (S.take g) n := by
 have key := iter_list (f := fun a => run (fun _ => none) (g12_0i_0 a)) S (fun k (st : Nat × Int × List Int) => (S, ((S.length : Nat) : Int), (k : Int), S, (st.1 : Int), n, st.2.1, st.2.2, ()))
  (fun st r => if st.1 < r.length then Sum.inl ((0 : Int), n, st.2.1 + ((r.take st.1).map (·.1)).sum, S, (r.take st.1).foldl (fun p x => p.set x.2.toNat (p.getD x.2.toNat 0 + 1)) st.2.2, ())
   else Sum.inr (((st.1 - r.length : Nat) : Int), n, st.2.1 + (r.map (·.1)).sum, S, r.foldl (fun p x => p.set x.2.toNat (p.getD x.2.toNat 0 + 1)) st.2.2, ()))
  (fun pre st => st.1 ≤ 100 ∧ (0 ≤ st.2.1 ∧ st.2.1 ≤ 255 * (pre.length : Int)) ∧ st.2.2.length = n ∧ ∀ i, 0 ≤ st.2.2.getD i 0 ∧ st.2.2.getD i 0 ≤ pre.length) ?_ ?_ (s := (g, 0, List.replicate n 0)) ⟨hg, by simp, by simp, fun i => by
   by_cases hi : i < n
   ·simp [List.getD, hi]
   ·simp [List.getD, hi]⟩
 ·by_cases h : g < S.length
  ·rw [if_pos h] at key
   refine ⟨_, ⟨_, key, .inl rfl⟩, rfl, ?_, rfl⟩
   simp
  ·rw [if_neg h] at key
   refine ⟨_, ⟨_, key, .inr rfl⟩, rfl, ?_, ?_⟩
   ·rw [List.take_of_length_le (by omega)]
    simp
   ·rw [List.take_of_length_le (by omega)]
    rfl
 ·rintro pre x post ⟨c, sg, p⟩ hx ⟨hc, hsg, hpl, hp⟩
  have hlen : S.length = pre.length + (post.length + 1) := by rw [hx]; simp
  have hd : S.getD pre.length ((0 : Int), (0 : Int)) = x := by rw [hx]; exact getD_mid rfl
  have i1 : inb (pre.length : Int) ((S.length : Nat) : Int) = true := inb_t (by omega) (by omega)
  have r1 : rng .i64 ((pre.length : Int) + 1) = true := rng_i64 (by omega) (by omega)
  have hxo := hS x (by rw [hx]; simp)
  obtain ⟨⟨x1, x2, x3, x4⟩, x5⟩ := hxo
  simp only at hc hsg hpl hp
  have hpx := hp x.2.toNat
  have i2 : inb x.2 ((n : Nat) : Int) = true := inb_t x3 x5
  have d1 : decide (x.2.toNat < p.length) = true := decide_eq_true (by omega)
  simp only [g12_0i_0, run_br, run_bd, run_nb, run_ni, run_nd, run_ret, Int.toNat_natCast, hd, i1, i2, r1, need_true, br_d, br_eq, Nat.zero_add, d1]
  rw [if_pos (by omega)]
  by_cases h0 : c = 0
  ·right
   subst h0
   rw [if_pos (by omega), if_pos (by simp)]
   simp
  ·left
   refine ⟨(c - 1, sg + x.1, p.set x.2.toNat (p.getD x.2.toNat 0 + 1)), ?_, ⟨by simp only; omega, ⟨by simp only; omega, by simp; omega⟩, by simp [hpl], fun i => ?_⟩, ?_⟩
   ·rw [if_neg (by omega), need_i64 (by omega) (by omega), need_i64 (by omega) (by omega), need_i64 (by omega) (by omega)]
    have : ((c : Nat) : Int) - 1 = ((c - 1 : Nat) : Int) := by omega
    rw [this]
    rfl
   ·by_cases e : x.2.toNat = i
    ·subst e
     have : (p.set x.2.toNat (p.getD x.2.toNat 0 + 1)).getD x.2.toNat 0 = p.getD x.2.toNat 0 + 1 := by simp [List.getD, show x.2.toNat < p.length by omega]
     simp only [this, List.length_append, List.length_cons, List.length_nil]
     omega
    ·have e9 : (p.set x.2.toNat (p.getD x.2.toNat 0 + 1)).getD i 0 = p.getD i 0 := by simp [List.getD, List.getElem?_set_ne e]
     have hpi := hp i
     simp only [e9, List.length_append, List.length_cons, List.length_nil]
     omega
   ·obtain ⟨c, rfl⟩ : ∃ d, c = d + 1 := ⟨c - 1, by omega⟩
    simp only [List.length_cons, Nat.add_sub_cancel, List.take_succ_cons, List.map_cons, List.sum_cons, List.foldl_cons, Nat.add_lt_add_iff_right, Nat.add_sub_add_right, Int.add_assoc]
 ·rintro ⟨c, sg, p⟩ -
  simp only [g12_0i_0, run_br, run_ret, br_d]
  rw [if_neg (by omega)]
  simp
theorem w12 {fs : List (List Int)} (h : OkFs fs) (g : Nat) (hg : g ≤ 100) : run0 (F12 fs (g : Int)) = some (planOf ((srtS fs).take g) fs.length, (((srtS fs).take g).map (·.1)).sum, ()) := by
 have h4 := h.many
 have hst := stp_good (k := 0) h.ok (by omega)
 have hS : ∀ c ∈ srtS fs, GoodS c ∧ c.2 < fs.length := fun c hc => by
  have hm := (isort_perm _).mem_iff.1 hc
  exact ⟨hst.1 c hm, by have := stp_fld c hm; omega⟩
 have hl : (srtS fs).length ≤ 12 := by unfold srtS; rw [isort_length, hst.2]; omega
 have hpl : (planOf ((srtS fs).take g) fs.length).length = fs.length := (plan_at fun x hx => by
  have := hS x (List.mem_of_mem_take hx)
  exact ⟨this.1.2.2.1, this.2⟩).1
 obtain ⟨z, ⟨c, hit, hz⟩, z1, z2, z3⟩ := w12_0 h4 hS hl g hg
 simp only [F12, g12_0, run_nb, run_jx, run_bd, run_it, run_ret]
 rw [need_inbig (by omega) (by omega), bind_of (w29 h)]
 simp only [Int.toNat_natCast]
 rw [bind_of hit]
 rcases hz with rfl | rfl
 ·simp only [run_sl, run_ret, bindO_s, onS, z1, z2, z3, List.drop_zero]
  rw [List.take_of_length_le (by omega)]
 ·simp only [run_sr, run_ret, bindO_s, onS, z1, z2, z3, List.drop_zero]
  rw [List.take_of_length_le (by omega)]
theorem w5 {fs : List (List Int)} (h : OkFs fs) (g : Nat) (hg : g ≤ 100) : run0 (F5 fs (g : Int)) = some (planOf ((srtS fs).take g) fs.length, (((srtS fs).take g).map (·.1)).sum, 0, ()) := by
 have q1 : run0 (F11 fs (g : Int)) = some (0, ()) := by
  simp only [F11, F27, run_bd, run_br, run_ret, br_eq, br_not]
  rw [bind_of (w42 h)]
  simp only [bindO_s, if_true]
  rw [bind_of (w28 _ _ _), decide_eq_true ⟨by omega, by omega⟩]
  exact br_true
 simp only [F5, run_bd, run_br, run_ret, br_eq, br_not]
 rw [bind_of q1, if_pos rfl, bind_of (w12 h g hg)]
/-- A field by numbers. -/
def hf (x : Int × Int × Int) : List Int := [x.1, max 0 (x.1 - Int.tmod x.2.1 100), max 0 (max 0 (x.1 - Int.tmod x.2.1 100) - Int.tmod x.2.2 100)]
def U3 (x : Int × Int × Int) : Prop := (0 ≤ x.1 ∧ x.1 ≤ 255) ∧ (0 ≤ x.2.1 ∧ x.2.1 ≤ 255) ∧ 0 ≤ x.2.2 ∧ x.2.2 ≤ 255
theorem hf_ok {x : Int × Int × Int} (h : U3 x) : OkF (hf x) where
 len := rfl
 rng y hy := by
  have h1 := Int.tmod_nonneg 100 h.2.1.1
  have h2 := Int.tmod_nonneg 100 h.2.2.1
  obtain ⟨⟨_, _⟩, _⟩ := h
  simp only [hf, List.mem_cons, List.not_mem_nil, or_false] at hy
  rcases hy with rfl | rfl | rfl <;> omega
 down := by
  have h1 := Int.tmod_nonneg 100 h.2.1.1
  have h2 := Int.tmod_nonneg 100 h.2.2.1
  obtain ⟨⟨_, _⟩, _⟩ := h
  simp [hf]
  omega
end Go.Proofs.Try
end
section
namespace Go.Proofs.Try
open Go.AM Go.Pay Go.Top
set_option maxRecDepth 100000
theorem tk_three {α : Type} (x y z : α) : List.take 3 [x, y, z] = [x, y, z] := rfl
theorem w4 {l : List (Int × Int × Int)} (hl : ∀ x ∈ l, U3 x) : run0 (F4 l) = some ((l.take 4).map hf, ()) := by
 have h4 : (l.take 4).length = min 4 l.length := List.length_take
 simp only [F4, run_bd, run_it, run_ret]
 have key := iter_list (f := fun a => run (fun _ => none) (g4_0 a)) (l.take 4) (fun k (st : List (List Int)) => (l, st.length, (k : Int), st, ()))
  (fun st r => ((st ++ r.map hf).length, st ++ r.map hf, ())) (fun pre st => st.length = pre.length) ?_ ?_ (s := []) rfl
 ·refine bind_eq key ?_
  rw [List.nil_append, List.drop_zero, List.take_length]
 ·rintro pre x post st hx hi
  left
  have hlen : (l.take 4).length = pre.length + (post.length + 1) := by rw [hx]; simp
  have hd : l.getD pre.length ((0 : Int), (0 : Int), (0 : Int)) = x := by
   have : (l.take 4).getD pre.length ((0 : Int), (0 : Int), (0 : Int)) = x := by rw [hx]; exact getD_mid rfl
   rwa [getD_take (by omega)] at this
  have i1 : inb (pre.length : Int) ((l.length : Nat) : Int) = true := inb_t (by omega) (by omega)
  have r1 : rng .i64 ((pre.length : Int) + 1) = true := rng_i64 (by omega) (by omega)
  have hxo := hl x (List.mem_of_mem_take (by rw [hx]; simp))
  obtain ⟨⟨a1, a2⟩, ⟨b1, b2⟩, c1, c2⟩ := hxo
  have t1 := Int.tmod_nonneg 100 b1
  have t2 := Int.tmod_nonneg 100 c1
  have t3 := Int.tmod_lt_of_pos x.2.1 (show (0 : Int) < 100 by decide)
  have t4 := Int.tmod_lt_of_pos x.2.2 (show (0 : Int) < 100 by decide)
  have hne : (!((100 : Int) == 0)) = true := rfl
  have p1 : rng .i64 x.1 = true := rng_i64 (by omega) (by omega)
  have p2 : rng .i64 x.2.1 = true := rng_i64 (by omega) (by omega)
  have p3 : rng .i64 x.2.2 = true := rng_i64 (by omega) (by omega)
  have p4 : rng .i64 (x.1 - Int.tmod x.2.1 100) = true := rng_i64 (by omega) (by omega)
  have p5 : rng .i64 (max 0 (x.1 - Int.tmod x.2.1 100) - Int.tmod x.2.2 100) = true := rng_i64 (by omega) (by omega)
  refine ⟨st ++ [hf x], ?_, by simp [hi], by simp⟩
  simp only [g4_0, run_br, run_bd, run_nb, run_ni, run_nd, run_ret, Int.toNat_natCast, hd, i1, r1, imax_eq, hne, p1, p2, p3, p4, p5, need_true, br_d, List.drop_zero, tk_one, tk_three, List.take_length, List.length_cons, List.length_nil]
  rw [if_pos (by omega), if_pos (by omega), need_lenbig (by omega)]
  simp [hf]
 ·rintro st hi
  simp only [g4_0, run_br, run_ret, br_d]
  by_cases h : l.length ≤ 4
  ·rw [if_neg (by omega)]
   simp
  ·rw [if_pos (by omega), if_neg (by omega)]
   simp
/-- The farmers. -/
def nms : List ByteArray := [bs [97, 110, 97], bs [98, 101, 110], bs [99, 121]]
def fms : List (ByteArray × Int) := nms.map fun x => (x, 10000)
theorem nms_ok : ∀ x ∈ nms, nameOk x = true ∧ x.size ≤ 3 := by
 intro x hx
 simp only [nms, List.mem_cons, List.not_mem_nil, or_false] at hx
 rcases hx with rfl | rfl | rfl <;> exact ⟨by decide +kernel, by decide +kernel⟩
theorem w3_0 (v3 : Int) (fs : List (List Int)) (plan : List Int) (sg : Int) (b0 : List Int) (p0 p1 p2 : Int) :
  iter (fun a => run (fun _ => none) (g3_0 a)) (v3, fs, plan, sg, (3 : Nat), (3 : Int), (0 : Int), b0, p0, p1, p2, (0 : Nat), nms, [], ()) = some (.inr (v3, fs, plan, sg, b0, p0, p1, p2, (3 : Nat), fms, ())) := by
 have key := iter_list (f := fun a => run (fun _ => none) (g3_0 a)) nms (fun k (st : List (ByteArray × Int)) => (v3, fs, plan, sg, (3 : Nat), (3 : Int), (k : Int), b0, p0, p1, p2, st.length, nms, st, ()))
  (fun st r => Sum.inr (v3, fs, plan, sg, b0, p0, p1, p2, (st ++ r.map fun x => (x, (10000 : Int))).length, st ++ r.map (fun x => (x, (10000 : Int))), ())) (fun pre st => st.length = pre.length) ?_ ?_ (s := []) rfl
 ·exact key
 ·rintro pre x post st hx hi
  left
  have hlen : nms.length = pre.length + (post.length + 1) := by rw [hx]; simp
  have h3 : nms.length = 3 := rfl
  have hd : nms.getD pre.length (bs []) = x := by rw [hx]; exact getD_mid rfl
  have hxo := nms_ok x (by rw [hx]; simp)
  have i1 : inb (pre.length : Int) (((3 : Nat) : Nat) : Int) = true := inb_t (by omega) (by omega)
  have r1 : rng .i64 ((pre.length : Int) + 1) = true := rng_i64 (by omega) (by omega)
  have d1 : decide (pre.length < nms.length) = true := decide_eq_true (by omega)
  have q1 : run (fun _ => none) (F6 x) = _ := k67 x (by omega)
  refine ⟨st ++ [(x, 10000)], ?_, by simp [hi], by simp⟩
  simp only [g3_0, run_br, run_bd, run_nb, run_ni, run_nd, run_ret, Int.toNat_natCast, Nat.zero_add, hd, i1, r1, d1, q1, bindO_s, hxo.1, need_true, br_d, br_not, if_true, List.drop_zero, tk_one, List.take_length, List.length_cons, List.length_nil]
  rw [if_pos (by omega), need_lenbig (by omega)]
  simp
 ·rintro st hi
  have h3 : nms.length = 3 := rfl
  simp only [g3_0, run_br, run_ret, br_d]
  rw [if_neg (by omega)]
  simp
/-- The wagons of a field: of a farmer, so many. -/
def wg (j : Int) (x : Int) : Int × Int × Int × Int := (j, 500 + x, 500, 1)
theorem hRead_wg (j x : Int) : hRead (wg j x) = x := by simp [hRead, wg]; omega
/-- What is told of own sugar and wagons. -/
def OwnOk (own : List Int) (wag : List (Int × Int × Int × Int)) : Prop := own.length = 3 ∧ ∀ j, 0 ≤ own.getD j 0 ∧ own.getD j 0 ≤ 255 * (wag.length : Int)
theorem OwnOk.add {own : List Int} {wag : List (Int × Int × Int × Int)} (h : OwnOk own wag) {j : Int} {x : Int} (hj : 0 ≤ j ∧ j < 3) (hx : 0 ≤ x ∧ x ≤ 255) : OwnOk (own.set j.toNat (own.getD j.toNat 0 + x)) (wag ++ [wg j x]) := by
 refine ⟨by simp [h.1], fun i => ?_⟩
 have hi := h.2 i
 have hjt := h.2 j.toNat
 by_cases e : j.toNat = i
 ·subst e
  have : (own.set j.toNat (own.getD j.toNat 0 + x)).getD j.toNat 0 = own.getD j.toNat 0 + x := by
   have h3 := h.1
   simp [List.getD, show j.toNat < own.length by omega]
  rw [this]
  simp only [List.length_append, List.length_cons, List.length_nil]
  omega
 ·have : (own.set j.toNat (own.getD j.toNat 0 + x)).getD i 0 = own.getD i 0 := by simp [List.getD, List.getElem?_set_ne e]
  rw [this]
  simp only [List.length_append, List.length_cons, List.length_nil]
  omega
/-- The wagons that come from one field. -/
def wgs (j : Int) (l : List Int) : List (Int × Int × Int × Int) := l.map (wg j)
theorem w3_2 {fs : List (List Int)} {i : Nat} {f : List Int} (hif : i < fs.length) (hff : fs.getD i [] = f) (hf : OkF f) {m : Nat} (hm : m ≤ 3) {b0 : List Int} (hb : b0.length = 4) (hi4 : i < 4) (hu : 0 ≤ b0.getD i 0 ∧ b0.getD i 0 ≤ 255)
  {own : List Int} {wag : List (Int × Int × Int × Int)} (ho : OwnOk own wag) (hw : wag.length ≤ 1000) (v3 v11 : Int) (a73 : List Int) (a74 a75 a83 : Int) (a84 : List (List Int)) (a85 : Int) (a87 : List Int) (a88 : Int) (a89 : Bool) (p0 p1 p2 : Int) (fm : List (ByteArray × Int)) :
  iter (fun a => run (fun _ => none) (g3_2 a)) (v3, fs, v11, (3 : Nat), (i : Int), (m : Int), (0 : Int), a73, a74, a75, a83, a84, a85, a87, a88, a89, b0, p0, p1, p2, (3 : Nat), wag.length, own, fm, wag, ()) =
   some (v3, fs, v11, (3 : Nat), a73, a74, a75, a83, a84, a85, a87, a88, a89, b0, p0, p1, p2, (3 : Nat), (wag ++ wgs (Int.tmod (b0.getD i 0) 3) (f.take m)).length, (wgs (Int.tmod (b0.getD i 0) 3) (f.take m)).foldl (upd hRead) own, fm, wag ++ wgs (Int.tmod (b0.getD i 0) 3) (f.take m), ()) := by
 have hl3 := hf.len
 have htl : (f.take m).length = m := by rw [List.length_take]; omega
 have t1 := Int.tmod_nonneg 3 hu.1
 have t2 := Int.tmod_lt_of_pos (b0.getD i 0) (show (0 : Int) < 3 by decide)
 generalize hj : Int.tmod (b0.getD i 0) 3 = j at t1 t2
 have key := iter_list (f := fun a => run (fun _ => none) (g3_2 a)) (f.take m) (fun k (st : List Int × List (Int × Int × Int × Int)) => (v3, fs, v11, (3 : Nat), (i : Int), (m : Int), (k : Int), a73, a74, a75, a83, a84, a85, a87, a88, a89, b0, p0, p1, p2, (3 : Nat), st.2.length, st.1, fm, st.2, ()))
  (fun st r => (v3, fs, v11, (3 : Nat), a73, a74, a75, a83, a84, a85, a87, a88, a89, b0, p0, p1, p2, (3 : Nat), (st.2 ++ wgs j r).length, (wgs j r).foldl (upd hRead) st.1, fm, st.2 ++ wgs j r, ())) (fun pre st => OwnOk st.1 st.2 ∧ st.2.length ≤ 1000 + pre.length) ?_ ?_ (s := (own, wag)) ⟨ho, by simpa using hw⟩
 ·exact key
 ·rintro pre x post ⟨ow, wa⟩ hx ⟨hi, hwl⟩
  left
  have hlen : (f.take m).length = pre.length + (post.length + 1) := by rw [hx]; simp
  have hd : f.getD pre.length (0 : Int) = x := by
   have : (f.take m).getD pre.length (0 : Int) = x := by rw [hx]; exact getD_mid rfl
   rwa [getD_take (by omega)] at this
  have hxr := hf.rng x (List.mem_of_mem_take (by rw [hx]; simp))
  have hoj := hi.2 j.toNat
  have ho3 := hi.1
  simp only at hoj ho3 hwl
  have hne : (!((3 : Int) == 0)) = true := rfl
  have i1 : inb (i : Int) 4 = true := inb_t (by omega) (by omega)
  have i2 : inb (i : Int) ((fs.length : Nat) : Int) = true := inb_t (by omega) (by omega)
  have i3 : inb (pre.length : Int) ((f.length : Nat) : Int) = true := inb_t (by omega) (by omega)
  have i4 : inb j (((3 : Nat) : Nat) : Int) = true := inb_t (by omega) (by omega)
  have d1 : decide (i < b0.length) = true := decide_eq_true (by omega)
  have d2 : decide (j.toNat < ow.length) = true := decide_eq_true (by omega)
  have r1 : rng .i64 ((pre.length : Int) + 1) = true := rng_i64 (by omega) (by omega)
  have r2 : rng .i64 (b0.getD i 0) = true := rng_i64 (by omega) (by omega)
  have r3 : rng .i64 (ow.getD j.toNat 0 + x) = true := rng_i64 (by omega) (by omega)
  have r4 : rng .i64 (500 + x) = true := rng_i64 (by omega) (by omega)
  refine ⟨(ow.set j.toNat (ow.getD j.toNat 0 + x), wa ++ [wg j x]), ?_, ⟨hi.add ⟨t1, t2⟩ hxr, by simp; omega⟩, ?_⟩
  ·simp only [g3_2, run_br, run_bd, run_nb, run_ni, run_nd, run_ret, Int.toNat_natCast, Nat.zero_add, hff, hd, hj, hne, i1, i2, i3, i4, d1, d2, r1, r2, r3, r4, need_true, br_d, List.drop_zero, tk_one, List.take_length, List.length_cons, List.length_nil]
   rw [if_pos (by omega), need_lenbig (by omega)]
   simp [wg]
  ·simp only [wgs, List.map_cons, List.foldl_cons, List.append_assoc, List.singleton_append]
   have : upd hRead ow (wg j x) = ow.set j.toNat (ow.getD j.toNat 0 + x) := by
    unfold upd
    rw [hRead_wg]
    rfl
   rw [this]
 ·rintro ⟨ow, wa⟩ -
  simp only [g3_2, run_br, run_ret, br_d]
  rw [if_neg (by omega)]
  simp [wgs]
end Go.Proofs.Try
end
section
namespace Go.Proofs.Try
open Go.AM Go.Pay Go.Top
set_option maxRecDepth 100000
theorem it_upto {A B S : Type} {f : A → Option (A ⊕ B)} (N : Nat) (mk : Nat → S → A) (G : S → Nat → B) (Inv : Nat → S → Prop)
    (hs : ∀ k st, k < N → Inv k st → (∃ st', f (mk k st) = some (.inl (mk (k + 1) st')) ∧ Inv (k + 1) st' ∧ G st k = G st' (k + 1)) ∨ f (mk k st) = some (.inr (G st k)))
    (he : ∀ st, Inv N st → f (mk N st) = some (.inr (G st N))) {s : S} (h0 : Inv 0 s) : iter f (mk 0 s) = some (G s 0) := by
  have key : ∀ m k s, k + m = N → Inv k s → iter f (mk k s) = some (G s k) := by
    intro m
    induction m with
    | zero => intro k s hk hi; have e : k = N := by omega
              subst e; exact iter_inr (he s hi)
    | succ m ih =>
      intro k s hk hi
      rcases hs k s (by omega) hi with ⟨s', h1, h2, h3⟩ | h1
      · rw [h3]; exact iter_inl h1 (ih (k + 1) s' (by omega) h2)
      · exact iter_inr h1
  exact key N 0 s (by omega) h0
/-- A plan of these fields. -/
structure OkPl (fs : List (List Int)) (plan : List Int) : Prop where
  len : plan.length = fs.length
  ok : ∀ i, i < fs.length → ∃ m : Nat, plan.getD i 0 = (m : Int) ∧ m ≤ (fs.getD i []).length
structure OkB (b0 : List Int) : Prop where
  len : b0.length = 4
  ok : ∀ i, i < 4 → 0 ≤ b0.getD i 0 ∧ b0.getD i 0 ≤ 255
def wgA (fs : List (List Int)) (plan b0 : List Int) (i : Nat) : List (Int × Int × Int × Int) := wgs (Int.tmod (b0.getD i 0) 3) ((fs.getD i []).take (plan.getD i 0).toNat)
def wgR (fs : List (List Int)) (plan b0 : List Int) (i m : Nat) : List (Int × Int × Int × Int) := (List.range' i m).flatMap (wgA fs plan b0)
theorem wgR_step {fs : List (List Int)} {plan b0 : List Int} {i m : Nat} : wgR fs plan b0 i (m + 1) = wgA fs plan b0 i ++ wgR fs plan b0 (i + 1) m := by simp [wgR, List.range'_succ]
theorem OwnOk.adds : ∀ {l : List Int} {own : List Int} {wag : List (Int × Int × Int × Int)} {j : Int}, OwnOk own wag → (0 ≤ j ∧ j < 3) → (∀ x ∈ l, 0 ≤ x ∧ x ≤ 255) → OwnOk ((wgs j l).foldl (upd hRead) own) (wag ++ wgs j l)
  | [], own, wag, j, h, _, _ => by simpa [wgs] using h
  | x :: l, own, wag, j, h, hj, hx => by
    have h1 := h.add hj (hx x (List.mem_cons_self ..))
    have h2 := OwnOk.adds (l := l) h1 hj fun y hy => hx y (List.mem_cons_of_mem _ hy)
    have e : upd hRead own (wg j x) = own.set j.toNat (own.getD j.toNat 0 + x) := by
      unfold upd
      rw [hRead_wg]
      rfl
    simp only [wgs, List.map_cons, List.foldl_cons, e]
    simpa [wgs] using h2
section
variable {fs : List (List Int)} {plan b0 : List Int} (hfs : OkFs fs) (hp : OkPl fs plan) (hb : OkB b0)
include hfs hp hb
theorem w3_1 (v3 v11 : Int) (p0 p1 p2 : Int) (fm : List (ByteArray × Int)) :
    iter (fun a => run (fun _ => none) (g3_1 a)) (v3, fs, v11, (3 : Nat), plan, ((plan.length : Nat) : Int), (0 : Int), b0, p0, p1, p2, (3 : Nat), (0 : Nat), List.replicate 3 (0 : Int), fm, [], ()) =
      some (.inr (v3, v11, (3 : Nat), p0, p1, p2, (3 : Nat), (wgR fs plan b0 0 fs.length).length, sugarL hRead 3 (wgR fs plan b0 0 fs.length), fm, wgR fs plan b0 0 fs.length, ())) := by
  have h4 := hfs.many
  have hpl := hp.len
  have key := it_upto (f := fun a => run (fun _ => none) (g3_1 a)) fs.length (fun k (st : List Int × List (Int × Int × Int × Int)) => (v3, fs, v11, (3 : Nat), plan, ((plan.length : Nat) : Int), (k : Int), b0, p0, p1, p2, (3 : Nat), st.2.length, st.1, fm, st.2, ()))
    (fun st k => Sum.inr (v3, v11, (3 : Nat), p0, p1, p2, (3 : Nat), (st.2 ++ wgR fs plan b0 k (fs.length - k)).length, (wgR fs plan b0 k (fs.length - k)).foldl (upd hRead) st.1, fm, st.2 ++ wgR fs plan b0 k (fs.length - k), ()))
    (fun k st => OwnOk st.1 st.2 ∧ st.2.length ≤ 3 * k) ?_ ?_ (s := (List.replicate 3 0, [])) ⟨⟨rfl, fun j => by
      by_cases hj : j < 3
      · have : j = 0 ∨ j = 1 ∨ j = 2 := by omega
        rcases this with rfl | rfl | rfl <;> simp
      · simp [List.getD, show 3 ≤ j by omega]⟩, by simp⟩
  · simpa [sugarL] using key
  · rintro k ⟨ow, wa⟩ hk ⟨hi, hwl⟩
    left
    simp only at hwl
    obtain ⟨m, hm1, hm2⟩ := hp.ok k hk
    have hfo := hfs.ok (fs.getD k []) (by simp [List.getD, hk])
    have h3 := hfo.len
    have hbk := hb.ok k (by omega)
    have t1 := Int.tmod_nonneg 3 hbk.1
    have t2 := Int.tmod_lt_of_pos (b0.getD k 0) (show (0 : Int) < 3 by decide)
    have e : fs.length - k = (fs.length - (k + 1)) + 1 := by omega
    have i1 : inb (k : Int) ((plan.length : Nat) : Int) = true := inb_t (by omega) (by omega)
    have i2 : inb (k : Int) ((fs.length : Nat) : Int) = true := inb_t (by omega) (by omega)
    have r1 : rng .i64 ((k : Int) + 1) = true := rng_i64 (by omega) (by omega)
    have eA : wgA fs plan b0 k = wgs (Int.tmod (b0.getD k 0) 3) ((fs.getD k []).take m) := by unfold wgA; rw [hm1]; rfl
    have hadd := hi.adds (l := (fs.getD k []).take m) ⟨t1, t2⟩ fun x hx => hfo.rng x (List.mem_of_mem_take hx)
    refine ⟨((wgA fs plan b0 k).foldl (upd hRead) ow, wa ++ wgA fs plan b0 k), ?_, ⟨by rw [eA]; exact hadd, ?_⟩, ?_⟩
    · simp only [g3_1, run_br, run_bd, run_it, run_nb, run_ni, run_nd, run_ret, Int.toNat_natCast, hm1, i1, i2, need_true, br_d]
      rw [if_pos (by omega), if_neg (by omega), if_neg (by omega)]
      rw [bind_of (w3_2 hk rfl hfo (by omega) hb.len (by omega) hbk hi (by simp only; omega) _ _ _ _ _ _ _ _ _ _ _ _ _ _ _)]
      simp only [r1, need_true, eA]
      rfl
    · rw [eA]
      simp [wgs]
      omega
    · rw [e, wgR_step]
      simp [List.foldl_append]
  · rintro ⟨ow, wa⟩ -
    simp only [g3_1, run_br, run_ret, br_d]
    rw [if_neg (by omega)]
    simp [wgR]
theorem wgR_mem {x : Int × Int × Int × Int} (hx : x ∈ wgR fs plan b0 0 fs.length) : ∃ j y : Int, x = wg j y ∧ (0 ≤ j ∧ j < 3) ∧ 0 ≤ y ∧ y ≤ 255 := by
  have h4 := hfs.many
  obtain ⟨i, hi, hx⟩ := List.mem_flatMap.1 hx
  rw [List.mem_range'_1] at hi
  obtain ⟨y, hy, rfl⟩ := List.mem_map.1 hx
  have hfo := hfs.ok (fs.getD i []) (by simp [List.getD, show i < fs.length by omega])
  have hbk := hb.ok i (by omega)
  exact ⟨_, y, rfl, ⟨Int.tmod_nonneg 3 hbk.1, Int.tmod_lt_of_pos _ (by decide)⟩, hfo.rng y (List.mem_of_mem_take hy)⟩
theorem wgR_len : (wgR fs plan b0 0 fs.length).length ≤ 12 := by
  have h4 := hfs.many
  have key : ∀ m i, i + m ≤ fs.length → (wgR fs plan b0 i m).length ≤ 3 * m := by
    intro m
    induction m with
    | zero => intro i _; simp [wgR]
    | succ m ih =>
      intro i hi
      have := ih (i + 1) (by omega)
      have hfo := hfs.ok (fs.getD i []) (by simp [List.getD, show i < fs.length by omega])
      have h3 := hfo.len
      rw [wgR_step, List.length_append]
      have : (wgA fs plan b0 i).length ≤ 3 := by
        unfold wgA wgs
        rw [List.length_map, List.length_take]
        omega
      omega
  have := key fs.length 0 (by omega)
  omega
theorem wgR_sum : ∀ m i, ((wgR fs plan b0 i m).map hRead).sum = ((List.range' i m).map fun i => ((fs.getD i []).take (plan.getD i 0).toNat).sum).sum := by
  intro m
  induction m with
  | zero => intro i; simp [wgR]
  | succ m ih =>
    intro i
    rw [wgR_step, List.map_append, List.sum_append, ih, List.range'_succ, List.map_cons, List.sum_cons]
    congr 2
    unfold wgA wgs
    rw [List.map_map]
    have : (hRead ∘ wg (Int.tmod (b0.getD i 0) 3)) = id := funext fun x => hRead_wg _ _
    rw [this, List.map_id]
end
/-- Sugar by farmers is in all the sugar of the wagons. -/
theorem sugarL_sum {h : Int × Int × Int × Int → Int} : ∀ (ws : List (Int × Int × Int × Int)) (l : List Int), (∀ x ∈ ws, x.1.toNat < l.length) → (ws.foldl (upd h) l).sum = l.sum + (ws.map h).sum
  | [], l, _ => by simp
  | x :: r, l, hx => by
    rw [List.foldl_cons, sugarL_sum r _ (fun y hy => by rw [upd_len]; exact hx y (List.mem_cons_of_mem _ hy))]
    have := upd_sum h x l x.1.toNat (hx x (List.mem_cons_self ..))
    unfold upd
    rw [this]
    simp
    omega
end Go.Proofs.Try
end
section
namespace Go.Proofs.Try
open Go.AM Go.Pay Go.Top
set_option maxRecDepth 100000
theorem le_sum : ∀ {l : List Int}, (∀ x ∈ l, 0 ≤ x) → 0 ≤ l.sum ∧ ∀ x ∈ l, x ≤ l.sum
 | [], _ => by simp
 | y :: l, h => by
  have ih := le_sum (l := l) fun x hx => h x (List.mem_cons_of_mem _ hx)
  have hy := h y (List.mem_cons_self ..)
  simp only [List.sum_cons]
  refine ⟨by omega, fun x hx => ?_⟩
  rcases List.mem_cons.1 hx with rfl | hx
  ·omega
  ·have := ih.2 x hx; omega
section
variable {fs : List (List Int)} {plan b0 : List Int} (hfs : OkFs fs) (hp : OkPl fs plan) (hb : OkB b0)
include hfs hp hb
/-- The week. -/
def wkT (fs : List (List Int)) (plan b0 : List Int) (pot : Int) : Wk := (pot, 0, 0, fms, wgR fs plan b0 0 fs.length)
theorem wk_ok {pot : Int} (h0 : 0 ≤ pot) (h1 : pot ≤ 1000000000) : OkW (wkT fs plan b0 pot) where
 pot := ⟨h0, h1⟩
 scale := by simp [wkT]
 lab := by simp [wkT]
 some := by show 0 < 3; omega
 many := by show 3 ≤ 12; omega
 cap f hf := by
  obtain ⟨x, -, rfl⟩ := List.mem_map.1 (show f ∈ nms.map (fun x => (x, (10000 : Int))) from hf)
  simp
 name f hf := by
  obtain ⟨x, hx, rfl⟩ := List.mem_map.1 (show f ∈ nms.map (fun x => (x, (10000 : Int))) from hf)
  exact (nms_ok x hx).1
 twice := by
  show (fms.map (·.1)).Nodup
  have : fms.map (·.1) = nms := rfl
  rw [this]
  decide +kernel
 wagons := by
  have := wgR_len hfs hp hb
  show (wgR fs plan b0 0 fs.length).length ≤ 50
  omega
 wagon x hx := by
  obtain ⟨j, y, rfl, hj, hy⟩ := wgR_mem hfs hp hb hx
  have h3 : (wkT fs plan b0 pot).2.2.2.1.length = 3 := rfl
  rw [h3]
  simp only [wg]
  omega
theorem wk_names (pot : Int) : Names (wkT fs plan b0 pot) := fun f hf => by
 obtain ⟨x, hx, rfl⟩ := List.mem_map.1 (show f ∈ nms.map (fun x => (x, (10000 : Int))) from hf)
 have := (nms_ok x hx).2
 simp only
 omega
def ownT (fs : List (List Int)) (plan b0 : List Int) : List Int := sugarL hRead 3 (wgR fs plan b0 0 fs.length)
theorem own_sum : (ownT fs plan b0).sum = ((List.range fs.length).map fun i => ((fs.getD i []).take (plan.getD i 0).toNat).sum).sum := by
 unfold ownT sugarL
 rw [sugarL_sum, wgR_sum hfs hp hb, List.range_eq_range']
 ·simp
 ·intro x hx
  obtain ⟨j, y, rfl, hj, hy⟩ := wgR_mem hfs hp hb hx
  simp [wg]
  omega
theorem own_le : (ownT fs plan b0).sum ≤ 3060 := by
 have hl := wgR_len hfs hp hb
 unfold ownT sugarL
 rw [sugarL_sum _ _ (fun x hx => by
  obtain ⟨j, y, rfl, hj, hy⟩ := wgR_mem hfs hp hb hx
  simp [wg]
  omega)]
 have key : ∀ ws : List (Int × Int × Int × Int), (∀ x ∈ ws, hRead x ≤ 255) → (ws.map hRead).sum ≤ 255 * (ws.length : Int) := by
  intro ws
  induction ws with
  | nil => simp
  | cons x r ih =>
   intro h
   have := ih fun y hy => h y (List.mem_cons_of_mem _ hy)
   have := h x (List.mem_cons_self ..)
   simp only [List.map_cons, List.sum_cons, List.length_cons]
   omega
 have := key (wgR fs plan b0 0 fs.length) fun x hx => by
  obtain ⟨j, y, rfl, hj, hy⟩ := wgR_mem hfs hp hb hx
  rw [hRead_wg]; omega
 simp
 omega
theorem own_okS {pot : Int} (h0 : 0 ≤ pot) (h1 : pot ≤ 1000000000) : OkS (wkT fs plan b0 pot) (ownT fs plan b0) := okS_read (wk_ok hfs hp hb h0 h1)
theorem own_under {pot : Int} (h0 : 0 ≤ pot) (h1 : pot ≤ 1000000000) : Under (prs (wkT fs plan b0 pot) (ownT fs plan b0)) := fun c hc => by
 have hs := own_okS hfs hp hb h0 h1
 obtain ⟨x, hx, rfl⟩ := List.mem_map.1 hc
 have hx1 := (List.of_mem_zip hx).1
 have hx2 := (List.of_mem_zip hx).2
 obtain ⟨y, -, hy⟩ := List.mem_map.1 (show x.1 ∈ nms.map (fun x => (x, (10000 : Int))) from hx1)
 have e : x.1.2 = 10000 := by rw [← hy]
 have h2 := hs.nn _ hx2
 have h3 := (le_sum hs.nn).2 _ hx2
 have h4 := own_le hfs hp hb
 simp only
 omega
theorem cap_at {pot : Int} {i : Nat} (hi : i < 3) : capAt (wkT fs plan b0 pot) i = 10000 := by
 have : i = 0 ∨ i = 1 ∨ i = 2 := by omega
 rcases this with rfl | rfl | rfl <;> rfl
end
theorem w3_3 {own : List Int} (hl : own.length = 3) (v3 v11 p0 p1 p2 : Int) (nw : Nat) (fm : List (ByteArray × Int)) (wa : List (Int × Int × Int × Int)) :
  iter (fun a => run (fun _ => none) (g3_3 a)) (v3, v11, (3 : Nat), own, own, (((3 : Nat) : Nat) : Int), (0 : Int), p0, p1, p2, (3 : Nat), nw, own, fm, wa, ()) = some (.inr (v3, v11, (3 : Nat), own, p0, p1, p2, (3 : Nat), nw, own, fm, wa, ())) := by
 have key := it_upto (f := fun a => run (fun _ => none) (g3_3 a)) 3 (fun k (_ : Unit) => (v3, v11, (3 : Nat), own, own, (((3 : Nat) : Nat) : Int), (k : Int), p0, p1, p2, (3 : Nat), nw, own, fm, wa, ()))
  (fun _ _ => Sum.inr (v3, v11, (3 : Nat), own, p0, p1, p2, (3 : Nat), nw, own, fm, wa, ())) (fun _ _ => True) ?_ ?_ (s := ()) trivial
 ·exact key
 ·rintro k _ hk -
  left
  have i1 : inb (k : Int) ((own.length : Nat) : Int) = true := inb_t (by omega) (by omega)
  have i2 : inb (k : Int) (((3 : Nat) : Nat) : Int) = true := inb_t (by omega) (by omega)
  have d1 : decide (k < own.length) = true := decide_eq_true (by omega)
  have r1 : rng .i64 ((k : Int) + 1) = true := rng_i64 (by omega) (by omega)
  refine ⟨(), ?_, trivial, rfl⟩
  simp only [g3_3, run_br, run_nb, run_ni, run_nd, run_ret, Int.toNat_natCast, Nat.zero_add, i1, i2, d1, r1, need_true, br_d, br_not, br_eq, if_true]
  rw [if_pos (by omega)]
  rfl
 ·rintro _ -
  simp only [g3_3, run_br, run_ret, br_d]
  rw [if_neg (by omega)]
/-- What is told of the lesser payments. -/
structure OkQ (own q : List Int) : Prop where
 lo : own.length = 3
 lq : q.length = 3
 cap : ∀ i, i < 3 → own.getD i 0 ≤ 10000
 nn : ∀ i, i < 3 → 0 ≤ q.getD i 0
 le : ∀ i, i < 3 → q.getD i 0 ≤ own.getD i 0
 fair : ∀ i k, i < 3 → k < 3 → own.getD k 0 ≤ own.getD i 0 → q.getD k 0 - 1 ≤ q.getD i 0
theorem w3_5 {own q : List Int} (h : OkQ own q) {i : Nat} (hi : i < 3) (sm a224 a225 p0 p1 p2 : Int) (nw : Nat) (fm : List (ByteArray × Int)) (wa : List (Int × Int × Int × Int)) :
  iter (fun a => run (fun _ => none) (g3_5 a)) ((3 : Nat), own, q, sm, (i : Int), a224, a225, ((q.length : Nat) : Int), (0 : Int), p0, p1, p2, (3 : Nat), nw, own, fm, wa, ()) = some (.inr ((3 : Nat), own, q, sm, (i : Int), a224, a225, p0, p1, p2, (3 : Nat), nw, own, fm, wa, ())) := by
 have hlo := h.lo
 have hlq := h.lq
 have key := it_upto (f := fun a => run (fun _ => none) (g3_5 a)) 3 (fun k (_ : Unit) => ((3 : Nat), own, q, sm, (i : Int), a224, a225, ((q.length : Nat) : Int), (k : Int), p0, p1, p2, (3 : Nat), nw, own, fm, wa, ()))
  (fun _ _ => Sum.inr ((3 : Nat), own, q, sm, (i : Int), a224, a225, p0, p1, p2, (3 : Nat), nw, own, fm, wa, ())) (fun _ _ => True) ?_ ?_ (s := ()) trivial
 ·exact key
 ·rintro k _ hk -
  left
  have i1 : inb (k : Int) ((q.length : Nat) : Int) = true := inb_t (by omega) (by omega)
  have i2 : inb (k : Int) (((3 : Nat) : Nat) : Int) = true := inb_t (by omega) (by omega)
  have i3 : inb (i : Int) ((q.length : Nat) : Int) = true := inb_t (by omega) (by omega)
  have i4 : inb (i : Int) (((3 : Nat) : Nat) : Int) = true := inb_t (by omega) (by omega)
  have d1 : decide (k < own.length) = true := decide_eq_true (by omega)
  have d2 : decide (i < own.length) = true := decide_eq_true (by omega)
  have r1 : rng .i64 ((k : Int) + 1) = true := rng_i64 (by omega) (by omega)
  have q1 := h.cap k hk
  have q2 := h.nn k hk
  have q3 := h.le k hk
  have r2 : rng .i64 (q.getD k 0 - 1) = true := rng_i64 (by omega) (by omega)
  have hfair := h.fair i k hi hk
  refine ⟨(), ?_, trivial, rfl⟩
  simp only [g3_5, run_br, run_nb, run_ni, run_nd, run_ret, Int.toNat_natCast, Nat.zero_add, i1, i2, i3, i4, d1, d2, r1, r2, need_true, br_d]
  rw [if_pos (by omega)]
  split
  ·rename_i hle
   have := hfair hle
   rw [if_neg (by omega)]
   rfl
  ·rfl
 ·rintro _ -
  simp only [g3_5, run_br, run_ret, br_d]
  rw [if_neg (by omega)]
theorem w3_4 {own q : List Int} (h : OkQ own q) (p0 p1 p2 : Int) (nw : Nat) (fm : List (ByteArray × Int)) (wa : List (Int × Int × Int × Int)) :
  iter (fun a => run (fun _ => none) (g3_4 a)) ((3 : Nat), own, q, (0 : Int), ((q.length : Nat) : Int), (0 : Int), p0, p1, p2, (3 : Nat), nw, own, fm, wa, ()) = some (.inr (q.sum, p0, p1, p2, (3 : Nat), nw, fm, wa, ())) := by
 have hlo := h.lo
 have hlq := h.lq
 have key := iter_list (f := fun a => run (fun _ => none) (g3_4 a)) q (fun k (sm : Int) => ((3 : Nat), own, q, sm, ((q.length : Nat) : Int), (k : Int), p0, p1, p2, (3 : Nat), nw, own, fm, wa, ()))
  (fun sm r => Sum.inr (sm + r.sum, p0, p1, p2, (3 : Nat), nw, fm, wa, ())) (fun pre sm => 0 ≤ sm ∧ sm ≤ 10000 * (pre.length : Int)) ?_ ?_ (s := 0) ⟨by omega, by simp⟩
 ·rw [Int.zero_add] at key
  exact key
 ·rintro pre x post sm hx ⟨h0, h1⟩
  left
  have hlen : q.length = pre.length + (post.length + 1) := by rw [hx]; simp
  have hd : q.getD pre.length (0 : Int) = x := by rw [hx]; exact getD_mid rfl
  have i1 : inb (pre.length : Int) ((q.length : Nat) : Int) = true := inb_t (by omega) (by omega)
  have i2 : inb (pre.length : Int) ((own.length : Nat) : Int) = true := inb_t (by omega) (by omega)
  have r1 : rng .i64 ((pre.length : Int) + 1) = true := rng_i64 (by omega) (by omega)
  have q1 := h.cap pre.length (by omega)
  have q2 := h.nn pre.length (by omega)
  have q3 := h.le pre.length (by omega)
  rw [hd] at q2 q3
  have r2 : rng .i64 (sm + x) = true := rng_i64 (by omega) (by omega)
  refine ⟨sm + x, ?_, ⟨by omega, by simp; omega⟩, by simp [Int.add_assoc]⟩
  simp only [g3_4, run_br, run_bd, run_it, run_nb, run_ni, run_nd, run_ret, Int.toNat_natCast, Nat.zero_add, hd, i1, i2, r1, r2, need_true, br_d]
  rw [if_pos (by omega), bind_of (w3_5 h (by omega) _ _ _ _ _ _ _ _ _)]
  simp only [run_sr, run_br, run_nb, run_ni, run_ret, Int.toNat_natCast, hd, i1, i2, r1, need_true, br_d]
  rw [if_neg (by omega)]
  rfl
 ·rintro sm -
  simp only [g3_4, run_br, run_ret, br_d]
  rw [if_neg (by omega)]
  simp
theorem w10 : run0 F10 = some (true, ()) := cmp_done 400 (by kernel_rfl)
end Go.Proofs.Try
end
section
namespace Go.Proofs.Try
open Go.AM Go.Pay Go.Top
set_option maxRecDepth 100000
theorem u8_min : IntKind.u8.min = 0 := by decide
theorem u8_max : IntKind.u8.max = 255 := by decide
theorem law3 (a0 : List (Int × Int × Int)) (a1 : Int × Int × Int × Int) (a2 a3 : Int) (hW : WfAll [.list (.prod (.int .u8) (.prod (.int .u8) (.int .u8))), .prod (.int .u8) (.prod (.int .u8) (.prod (.int .u8) (.int .u8))), .int .u8, .int .u8] (a0, a1, a2, a3, ())) : run0 (F3 a0 a1 a2 a3) = some (true, ()) := by
 obtain ⟨h0, h1, h2, h3, -⟩ := hW
 simp only [Wf, u8_min, u8_max] at h0 h1 h2 h3
 have hU : ∀ x ∈ a0, U3 x := fun x hx => h0.2 x hx
 have t1 := Int.tmod_nonneg 10 h2.1
 have t2 := Int.tmod_lt_of_pos a2 (show (0 : Int) < 10 by decide)
 obtain ⟨g, hg⟩ : ∃ g : Nat, Int.tmod a2 10 = (g : Int) := ⟨(Int.tmod a2 10).toNat, by omega⟩
 have hfs : OkFs ((a0.take 4).map hf) := ⟨by simp; omega, fun f hf' => by
  obtain ⟨x, hx, rfl⟩ := List.mem_map.1 hf'
  exact hf_ok (hU x (List.mem_of_mem_take hx))⟩
 have hb : OkB [a1.1, a1.2.1, a1.2.2.1, a1.2.2.2] := ⟨rfl, fun i hi => by
  have : i = 0 ∨ i = 1 ∨ i = 2 ∨ i = 3 := by omega
  rcases this with rfl | rfl | rfl | rfl
  ·exact h1.1
  ·exact h1.2.1
  ·exact h1.2.2.1
  ·exact h1.2.2.2⟩
 have hbp := best_plan (g := g) fun f hf' => (hfs.ok f hf').down
 have q4 : run0 (F4 a0) = _ := w4 hU
 simp only [F3, run_bd, run_br, run_ni, run_nd, run_nb, run_it, run_ret, br_not, br_eq]
 rw [bind_of q4]
 generalize (a0.take 4).map hf = fs at hfs hbp
 generalize hB : [a1.1, a1.2.1, a1.2.2.1, a1.2.2.2] = b0 at hb
 have q5 := w5 hfs g (by omega)
 generalize hpl : planOf ((srtS fs).take g) fs.length = plan at hbp q5
 have hp : OkPl fs plan := ⟨hbp.1, hbp.2.1⟩
 have hsum := own_sum hfs hp hb
 rw [← hbp.2.2] at hsum
 rw [← hsum] at q5
 have hle := own_le hfs hp hb
 have hnn : 0 ≤ (ownT fs plan b0).sum := (le_sum (own_okS hfs hp hb (Int.le_refl 0) (by decide)).nn).1
 have hw := wk_ok hfs hp hb hnn (by omega)
 have hs := own_okS hfs hp hb hnn (show (ownT fs plan b0).sum ≤ 1000000000 by omega)
 have hu := own_under hfs hp hb hnn (show (ownT fs plan b0).sum ≤ 1000000000 by omega)
 have hnm := wk_names hfs hp hb (ownT fs plan b0).sum
 have hck := chk_of hw
 have q7 : run0 (F7 (wkT fs plan b0 (ownT fs plan b0).sum)) = _ := k17 _ hnm
 have q8 : run0 (F8 (wkT fs plan b0 (ownT fs plan b0).sum)) = _ := k26 _ hnm
 have q9 : run0 (F9 (wkT fs plan b0 (ownT fs plan b0).sum)) = _ := k24 _ hnm
 have eR : sRead (wkT fs plan b0 (ownT fs plan b0).sum) = ownT fs plan b0 := rfl
 have hfp := full_pays hw hs hu rfl
 have hfl := full_level hw hs hu rfl
 unfold sugar at q7
 unfold pays at q8
 unfold lvl at q9
 rw [if_pos hck, eR] at q7
 rw [if_pos hck, eR, hfp] at q8
 have hfl' : level (clm (wkT fs plan b0 (ownT fs plan b0).sum) (ownT fs plan b0)) (paidOf (wkT fs plan b0 (ownT fs plan b0).sum) (ownT fs plan b0)) = _ := hfl
 rw [if_pos hck, eR, hfl'] at q9
 have hol : (ownT fs plan b0).length = 3 := hs.len
 have h2' : a2 ≤ 255 := h2.2
 have h3' : a3 ≤ 255 := h3.2
 have h3'' : 0 ≤ a3 := h3.1
 have e10 : (!((10 : Int) == 0)) = true := rfl
 have q0 := w3_0 a3 fs plan (ownT fs plan b0).sum b0 (ownT fs plan b0).sum 0 0
 have q1 := w3_1 hfs hp hb a3 (ownT fs plan b0).sum (ownT fs plan b0).sum 0 0 fms
 have eO : sugarL hRead 3 (wgR fs plan b0 0 fs.length) = ownT fs plan b0 := rfl
 rw [eO] at q1
 have q3 := w3_3 hol a3 (ownT fs plan b0).sum (ownT fs plan b0).sum 0 0 (wgR fs plan b0 0 fs.length).length fms (wgR fs plan b0 0 fs.length)
 rw [need_i64 (by omega) (by omega), hg, e10, need_true]
 dsimp only
 rw [bind_of q5]
 dsimp only
 rw [if_pos rfl, if_pos (by rw [hp.len])]
 rw [bind_of (show iter (fun a => run (fun _ => none) (g3_0 a)) (a3, fs, plan, (ownT fs plan b0).sum, (3 : Nat), (3 : Int), (0 : Int), b0, (ownT fs plan b0).sum, 0, 0, (0 : Nat), [bs [97, 110, 97], bs [98, 101, 110], bs [99, 121]], [], ()) = _ from q0)]
 simp only [run_sr, run_nb, run_bd, run_it, show Int.toNat 3 = 3 from rfl]
 rw [need_inbig (by omega) (by omega), bind_of q1]
 simp only [run_sr, run_bd, run_br, run_ni, run_it, run_ret, List.drop_zero, List.take_length, br_not, br_eq, br_d]
 have e3 : List.take 3 fms = fms := rfl
 rw [e3]
 rw [bind_of (show run (fun _ => none) (F7 ((ownT fs plan b0).sum, 0, 0, fms, wgR fs plan b0 0 fs.length)) = _ from q7)]
 rw [bind_of (show run (fun _ => none) (F8 ((ownT fs plan b0).sum, 0, 0, fms, wgR fs plan b0 0 fs.length)) = _ from q8)]
 rw [bind_of (show run (fun _ => none) (F9 ((ownT fs plan b0).sum, 0, 0, fms, wgR fs plan b0 0 fs.length)) = _ from q9)]
 dsimp only
 rw [if_pos rfl, if_pos rfl, if_pos rfl, if_pos (by rw [hol]; rfl), if_pos (by rw [hol]; rfl)]
 -- less money
 have hp0 : 0 ≤ max 0 ((ownT fs plan b0).sum - a3) := by omega
 have hp1 : max 0 ((ownT fs plan b0).sum - a3) ≤ (ownT fs plan b0).sum := by omega
 generalize hpot : max 0 ((ownT fs plan b0).sum - a3) = pot at hp0 hp1
 have hw' := wk_ok hfs hp hb hp0 (show pot ≤ 1000000000 by omega)
 have hs' := own_okS hfs hp hb hp0 (show pot ≤ 1000000000 by omega)
 have hu' := own_under hfs hp hb hp0 (show pot ≤ 1000000000 by omega)
 have hck' := chk_of hw'
 have q8' : run0 (F8 (wkT fs plan b0 pot)) = _ := k26 _ (wk_names hfs hp hb pot)
 unfold pays at q8'
 have eR' : sRead (wkT fs plan b0 pot) = ownT fs plan b0 := rfl
 rw [if_pos hck', eR'] at q8'
 have hps := payL_sum hw' hs'
 rw [less_paid hw' hs' hu' hp1] at hps
 have hps' : (payL (wkT fs plan b0 pot) (ownT fs plan b0)).sum = pot := hps
 have hpl' := payW_len hw' hs'
 have hcap : ∀ i, i < 3 → (ownT fs plan b0).getD i 0 ≤ 3060 := fun i hi => by
  have h1 := (le_sum hs.nn).2 ((ownT fs plan b0).getD i 0) (by simp [List.getD, show i < (ownT fs plan b0).length by omega])
  omega
 have hQ : OkQ (ownT fs plan b0) (payL (wkT fs plan b0 pot) (ownT fs plan b0)) := {
  lo := hol
  lq := hpl'
  cap := fun i hi => by have := hcap i hi; omega
  nn := fun i hi => by
   obtain ⟨o, c, -, -, -, -, o0, -, -, hq⟩ := payL_at hw' hs' (i := i) hi
   rcases hq with hq | hq <;> omega
  le := fun i hi => less_pays hw' hs' hu' hp1 (fun j hj => by
   rw [cap_at hfs hp hb (show j < 3 from hj)]
   have := hcap j hj
   omega) (i := i) hi
  fair := fun i k hi hk hik => fair_pays hw' hs' hu' (i := i) (k := k) hi hk (by rw [cap_at hfs hp hb hi, cap_at hfs hp hb hk]) hik }
 generalize hq : payL (wkT fs plan b0 pot) (ownT fs plan b0) = q at q8' hps' hQ
 have hlq := hQ.lq
 have q34 := w3_4 hQ pot 0 0 (wgR fs plan b0 0 fs.length).length fms (wgR fs plan b0 0 fs.length)
 have rr : rng .i64 ((ownT fs plan b0).sum - a3) = true := rng_i64 (by omega) (by omega)
 have rr3 : rng .i64 a3 = true := rng_i64 (by omega) (by omega)
 by_cases hz : 0 < (ownT fs plan b0).sum
 ·simp only [if_pos hz]
  rw [if_pos trivial, if_pos trivial, bind_of q3]
  simp only [run_sr, run_bd, run_br, run_ni, run_it, run_ret, List.drop_zero, List.take_length, br_not, br_eq, br_d, rr, rr3, need_true, imax_eq, hpot, e3]
  rw [bind_of (show run (fun _ => none) (F8 (pot, 0, 0, fms, wgR fs plan b0 0 fs.length)) = _ from q8')]
  dsimp only
  rw [if_pos rfl, if_pos (by rw [hlq]; rfl), bind_of q34]
  simp only [run_sr, run_bd, run_br, run_ret, br_eq]
  rw [if_pos hps', bind_of w10]
 ·simp only [if_neg hz]
  rw [bind_of q3]
  simp only [run_sr, run_bd, run_br, run_ni, run_it, run_ret, List.drop_zero, List.take_length, br_not, br_eq, br_d, rr, rr3, need_true, imax_eq, hpot, e3]
  rw [bind_of (show run (fun _ => none) (F8 (pot, 0, 0, fms, wgR fs plan b0 0 fs.length)) = _ from q8')]
  dsimp only
  rw [if_pos rfl, if_pos (by rw [hlq]; rfl), bind_of q34]
  simp only [run_sr, run_bd, run_br, run_ret, br_eq]
  rw [if_pos hps', bind_of w10]
end Go.Proofs.Try
end
