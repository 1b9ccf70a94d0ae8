/- Tools for laws: rounds that count, find or keep something; needs. Rounds over a list, with a function that says what comes out. Plain Lean. Sorting by insertion, as rounds. Plain Lean. Polygons by a corner and their sides, which turn to the left: what is most of them in a direction. What lies in a polygon: by its sides, by its corners, and by what is most in each direction. A polygon is made of triangles from its first corner. The hull of points in order: from the least to the greatest one, and back. The hull of points: a polygon whose corners are some of them, and in which all lie; the hull of its corners is the same. The hull of the corners of a hull is the same. Sides of several polygons by their directions, those of one direction put together: a polygon whose most in each direction is the sum of theirs. All sums of corners, one of each polygon: the hull of these is the sum of the polygons. A polygon cut by a line of one power: the heats between where its sides meet the power. Points in any order: sorted, each once, and their hull. Sides of several polygons sorted by directions. The sum of polygons, side by side, and for each corner the corners that it is the sum of. Points: within bounds, in order, sorted. The hull of points, as the program finds it. The hull of points, as the program finds it: chains, and the hull itself. Which points lie in the hull of others: all are tried. Units that are hulls: those of the statements are made so, and are accepted; all sums of their corners. The units of the statements; all sums of corners; sides in order of their directions. Sides sorted by their directions. -/
import Derived.Test.YtpmpfolfjajjoaaW71
set_option linter.unusedSectionVars false
set_option linter.unusedVariables false
set_option linter.unusedSimpArgs false
section
namespace Go.AM
theorem bigL_eq : bigL = 1073741824 := by decide
/-- Rounds that count, or end early with what was found. -/
theorem iter_find {α β γ : Type} {step : α → Option (α ⊕ β)} (n : Nat) (g : Nat → α) (stop : Nat → Option γ) (inj : γ → β) {b : β}
  (hr : ∀ k, k < n → (∀ j, j < k → stop j = none) → step (g k) = match stop k with | none => some (.inl (g (k + 1))) | some c => some (.inr (inj c))) (he : (∀ j, j < n → stop j = none) → step (g n) = some (.inr b)) :
  iter step (g 0) = some (((List.range n).findSome? stop).elim b inj) := by
 have key : ∀ m k, k + m = n → (∀ j, j < k → stop j = none) → iter step (g k) = some (((List.range' k m).findSome? stop).elim b inj) := by
  intro m
  induction m with
  | zero =>
   intro k hk hs
   have : k = n := by omega
   subst this
   simpa using iter_inr (he hs)
  | succ m ih =>
   intro k hk hs0
   have h := hr k (by omega) hs0
   rw [List.range'_succ, List.findSome?_cons]
   cases hs : stop k with
   | none =>
    rw [hs] at h
    refine iter_inl h (ih (k + 1) (by omega) fun j hj => ?_)
    by_cases e : j = k
    ·rw [e, hs]
    ·exact hs0 j (by omega)
   | some c => rw [hs] at h; exact iter_inr h
 rw [List.range_eq_range']
 exact key n 0 (by omega) (fun j hj => by omega)
/-- Rounds that count and keep something. -/
theorem iter_ex {α β : Type} {step : α → Option (α ⊕ β)} (n : Nat) (I : Nat → α → Prop) (Q : β → Prop) (hr : ∀ k x, k < n → I k x → ∃ y, step x = some (.inl y) ∧ I (k + 1) y) (he : ∀ x, I n x → ∃ b, step x = some (.inr b) ∧ Q b)
  {x : α} (h0 : I 0 x) : ∃ b, iter step x = some b ∧ Q b := by
 have key : ∀ m k x, k + m = n → I k x → ∃ b, iter step x = some b ∧ Q b := by
  intro m
  induction m with
  | zero =>
   intro k x hk hx
   have : k = n := by omega
   subst this
   obtain ⟨b, h1, h2⟩ := he x hx
   exact ⟨b, iter_inr h1, h2⟩
  | succ m ih =>
   intro k x hk hx
   obtain ⟨y, h1, h2⟩ := hr k x (by omega) hx
   obtain ⟨b, h3, h4⟩ := ih (k + 1) y (by omega) h2
   exact ⟨b, iter_inl h1 h3, h4⟩
 exact key n 0 x (by omega) h0
theorem getD_mem {α : Type} {l : List α} {k : Nat} {d : α} (h : k < l.length) : l.getD k d ∈ l := by
 simp [List.getD_eq_getElem?_getD, List.getElem?_eq_getElem h]
theorem take_succ_getD {α : Type} {l : List α} {k : Nat} (d : α) (h : k < l.length) : l.take (k + 1) = l.take k ++ [l.getD k d] := by
 rw [List.take_succ_eq_append_getElem h]; simp [List.getD_eq_getElem?_getD, List.getElem?_eq_getElem h]
theorem getD_el {α : Type} {l : List α} {k : Nat} (d : α) (h : k < l.length) : l.getD k d = l[k] := by
 simp [List.getD_eq_getElem?_getD, List.getElem?_eq_getElem h]
theorem getD_out {α : Type} {l : List α} {k : Nat} (d : α) (h : l.length ≤ k) : l.getD k d = d := by
 simp [List.getD_eq_getElem?_getD, List.getElem?_eq_none h]
end Go.AM
end
section
namespace Go.AM
theorem getD_mid {α : Type} {A B : List α} {x d : α} {n : Nat} (h : n = A.length) : (A ++ x :: B).getD n d = x := by
 subst h; simp [List.getD_eq_getElem?_getD]
theorem set_mid {α : Type} {A B : List α} {x y : α} {n : Nat} (h : n = A.length) : (A ++ x :: B).set n y = A ++ y :: B := by
 subst h; simp [List.set_append]
/-- Rounds over the items of a list: 'G' says what comes out of a state and the items that are left. -/
theorem iter_list {A B S X : Type} {f : A → Option (A ⊕ B)} (xs : List X) (mk : Nat → S → A) (G : S → List X → B) (Inv : List X → S → Prop)
  (hs : ∀ pre x post s, xs = pre ++ x :: post → Inv pre s →
   (∃ s', f (mk pre.length s) = some (.inl (mk (pre.length + 1) s')) ∧ Inv (pre ++ [x]) s' ∧ G s (x :: post) = G s' post) ∨ f (mk pre.length s) = some (.inr (G s (x :: post))))
  (he : ∀ s, Inv xs s → f (mk xs.length s) = some (.inr (G s []))) {s : S} (h0 : Inv [] s) : iter f (mk 0 s) = some (G s xs) := by
 have key : ∀ (post pre : List X) (s : S), xs = pre ++ post → Inv pre s → iter f (mk pre.length s) = some (G s post) := by
  intro post
  induction post with
  | nil =>
   intro pre s hx hi
   have : pre = xs := by rw [hx]; simp
   subst this
   exact iter_inr (he s hi)
  | cons x post ih =>
   intro pre s hx hi
   rcases hs pre x post s hx hi with ⟨s', h1, h2, h3⟩ | h1
   ·refine iter_inl h1 ?_
    rw [h3]
    have := ih (pre ++ [x]) s' (by rw [hx]; simp) h2
    simpa using this
   ·exact iter_inr h1
 exact key xs [] s (by simp) h0
theorem bind_eq {A X : Type} {o : Option A} {a : A} {f : A → Option X} {y : Option X} (h : o = some a) (e : f a = y) : bindO o f = y := by rw [h, bindO_s, e]
theorem bigL_val : ((bigL : Nat) : Int) = 1073741824 := by decide
theorem need_inbig {X : Type} {i : Int} {x : Option X} (h : 0 ≤ i) (h2 : i < 1073741824) : need (inb i ((bigL : Nat) : Int)) x = x := need_inb h (by rw [bigL_val]; exact h2)
theorem need_lenbig {X : Type} {n : Nat} {x : Option X} (h : n < 1000000000) : need (decide (n < bigL)) x = x := need_d (by have := bigL_val; omega)
theorem br_true {X : Type} {x y : Option X} : brO true x y = x := by simp
theorem br_false {X : Type} {x y : Option X} : brO false x y = y := by simp
end Go.AM
end
section
namespace Go.AM
variable {α : Type}
/-- Put where it belongs; the list is told from its end. -/
def insR (lt : α → α → Bool) (x : α) : List α → List α
 | [] => [x]
 | y :: R => if lt x y = true then y :: insR lt x R else x :: y :: R
def sortR (lt : α → α → Bool) (R : List α) (l : List α) : List α := l.foldl (fun R x => insR lt x R) R
def isort (lt : α → α → Bool) (l : List α) : List α := (sortR lt [] l).reverse
variable {lt : α → α → Bool}
theorem insR_perm (x : α) : ∀ R : List α, (insR lt x R).Perm (x :: R)
 | [] => .refl _
 | y :: R => by
  unfold insR; split
  ·exact ((insR_perm x R).cons y).trans (.swap ..)
  ·exact .refl _
theorem sortR_perm : ∀ (l R : List α), (sortR lt R l).Perm (l ++ R)
 | [], _ => .refl _
 | x :: l, R => by
  have h1 := sortR_perm l (insR lt x R)
  have h2 : (l ++ insR lt x R).Perm (x :: (l ++ R)) := ((List.Perm.append_left l (insR_perm x R))).trans List.perm_middle
  exact h1.trans h2
theorem isort_perm (l : List α) : (isort lt l).Perm l := by
 have := sortR_perm (lt := lt) l []
 rw [List.append_nil] at this
 exact (List.reverse_perm _).trans this
theorem isort_length (l : List α) : (isort lt l).length = l.length := (isort_perm l).length_eq
/-- An order on what is good. -/
structure OrdOn (lt : α → α → Bool) (Good : α → Prop) : Prop where
 asym : ∀ a b, Good a → Good b → lt a b = true → lt b a = false
 ntr : ∀ a b c, Good a → Good b → Good c → lt a b = false → lt b c = false → lt a c = false
variable {Good : α → Prop}
theorem insR_sorted (h : OrdOn lt Good) {x : α} (hx : Good x) : ∀ {R : List α}, (∀ y ∈ R, Good y) → R.Pairwise (fun a b => lt a b = false) → (insR lt x R).Pairwise (fun a b => lt a b = false)
 | [], _, _ => by simp [insR]
 | y :: R, hg, hp => by
  have hy := hg y (List.mem_cons_self ..)
  have hg' : ∀ z ∈ R, Good z := fun z hz => hg z (List.mem_cons_of_mem _ hz)
  rw [List.pairwise_cons] at hp
  unfold insR; split
  ·rename_i hl
   rw [List.pairwise_cons]
   refine ⟨fun z hz => ?_, insR_sorted h hx hg' hp.2⟩
   rcases List.mem_cons.1 ((insR_perm x R).mem_iff.1 hz) with rfl | hz
   ·exact h.asym _ _ hx hy hl
   ·exact hp.1 z hz
  ·rename_i hl
   have hl : lt x y = false := by simpa using hl
   rw [List.pairwise_cons, List.pairwise_cons]
   refine ⟨fun z hz => ?_, hp⟩
   rcases List.mem_cons.1 hz with rfl | hz
   ·exact hl
   ·exact h.ntr _ _ _ hx hy (hg' z hz) hl (hp.1 z hz)
theorem sortR_sorted (h : OrdOn lt Good) : ∀ {l R : List α}, (∀ y ∈ l, Good y) → (∀ y ∈ R, Good y) → R.Pairwise (fun a b => lt a b = false) → (sortR lt R l).Pairwise (fun a b => lt a b = false)
 | [], _, _, _, hp => hp
 | x :: l, R, hl, hR, hp => by
  have hx := hl x (List.mem_cons_self ..)
  refine sortR_sorted (l := l) (R := insR lt x R) h (fun y hy => hl y (List.mem_cons_of_mem _ hy)) (fun y hy => ?_) (insR_sorted h hx hR hp)
  rcases List.mem_cons.1 ((insR_perm x R).mem_iff.1 hy) with rfl | hy
  ·exact hx
  ·exact hR y hy
theorem isort_sorted (h : OrdOn lt Good) {l : List α} (hl : ∀ y ∈ l, Good y) : (isort lt l).Pairwise (fun a b => lt b a = false) := by
 unfold isort
 rw [List.pairwise_reverse]
 exact sortR_sorted h hl (fun y hy => by cases hy) List.Pairwise.nil
/-- The inner rounds: one is moved to its place. -/
theorem ins_inner {A B : Type} {f : A → Option (A ⊕ B)} {n : Nat} (mk : Nat → List α → A) (out : List α → B)
  (hs : ∀ L y x Q, (∀ z ∈ L ++ y :: x :: Q, Good z) → L.length + 2 + Q.length = n → f (mk (L.length + 1) (L ++ y :: x :: Q)) = if lt x y = true then some (.inl (mk L.length (L ++ x :: y :: Q))) else some (.inr (out (L ++ y :: x :: Q))))
  (hz : ∀ l, f (mk 0 l) = some (.inr (out l))) : ∀ (R : List α) (x : α) (Q : List α), (∀ z ∈ R ++ x :: Q, Good z) → R.length + 1 + Q.length = n → iter f (mk R.length (R.reverse ++ x :: Q)) = some (out ((insR lt x R).reverse ++ Q))
 | [], x, Q, _, _ => by simpa [insR] using iter_inr (hz (x :: Q))
 | y :: R, x, Q, hg, hn => by
  have e : (y :: R).reverse ++ x :: Q = R.reverse ++ y :: x :: Q := by simp
  have h1 := hs R.reverse y x Q (fun z hz => hg z (by
   simp at hz ⊢
   rcases hz with h | h | h | h
   ·exact .inr (.inl h)
   ·exact .inl h
   ·exact .inr (.inr (.inl h))
   ·exact .inr (.inr (.inr h)))) (by simp at hn ⊢; omega)
  rw [List.length_reverse] at h1
  rw [e, List.length_cons]
  unfold insR
  by_cases hl : lt x y = true
  ·rw [if_pos hl] at h1
   rw [if_pos hl]
   refine iter_inl h1 ?_
   have := ins_inner mk out hs hz R x (y :: Q) (fun z hz => hg z (by
    simp at hz ⊢
    rcases hz with h | h | h | h
    ·exact .inr (.inl h)
    ·exact .inr (.inr (.inl h))
    ·exact .inl h
    ·exact .inr (.inr (.inr h)))) (by simp at hn ⊢; omega)
   simpa using this
  ·rw [if_neg hl] at h1
   rw [if_neg hl]
   refine iter_inr ?_
   rw [h1]; simp
/-- All rounds. -/
theorem ins_outer {A B : Type} {f : A → Option (A ⊕ B)} {n : Nat} (mk : Nat → List α → A) (out : List α → B)
  (hs : ∀ (R : List α) x Q, 0 < R.length → (∀ z ∈ R ++ x :: Q, Good z) → R.length + 1 + Q.length = n → f (mk R.length (R.reverse ++ x :: Q)) = some (.inl (mk (R.length + 1) ((insR lt x R).reverse ++ Q))))
  (he : ∀ k l, n ≤ k → f (mk k l) = some (.inr (out l))) {l : List α} (hg : ∀ z ∈ l, Good z) (hn : l.length = n) : iter f (mk 1 l) = some (out (isort lt l)) := by
 have key : ∀ (Q R : List α), 0 < R.length → (∀ z ∈ R ++ Q, Good z) → R.length + Q.length = n → iter f (mk R.length (R.reverse ++ Q)) = some (out (sortR lt R Q).reverse) := by
  intro Q
  induction Q with
  | nil =>
   intro R hR hg hn
   rw [List.append_nil]
   exact iter_inr (he _ _ (by simp at hn; omega))
  | cons x Q ih =>
   intro R hR hg hn
   refine iter_inl (hs R x Q hR hg (by simp at hn; omega)) ?_
   have hlen : (insR lt x R).length = R.length + 1 := (insR_perm x R).length_eq
   have := ih (insR lt x R) (by omega) (fun z hz => hg z (by
    rcases List.mem_append.1 hz with hz | hz
    ·rcases List.mem_cons.1 ((insR_perm x R).mem_iff.1 hz) with rfl | hz
     ·simp
     ·simp [hz]
    ·simp [hz])) (by simp at hn; omega)
   rw [hlen] at this
   exact this
 cases l with
 | nil => exact iter_inr (he 1 [] (by simp at hn; omega))
 | cons x Q => exact key Q [x] (by simp) hg (by simp at hn ⊢; omega)
end Go.AM
end
section
namespace Go.Geo
abbrev Pt := Int × Int
def add (p q : Pt) : Pt := (p.1 + q.1, p.2 + q.2)
def cr (d e : Pt) : Int := d.1 * e.2 - d.2 * e.1
def dt (u p : Pt) : Int := u.1 * p.1 + u.2 * p.2
def turn (a b c : Pt) : Int := (b.1 - a.1) * (c.2 - a.2) - (b.2 - a.2) * (c.1 - a.1)
def neg (d : Pt) : Pt := (-d.1, -d.2)
/-- The first half of all directions: from straight down (without it) to straight up. -/
def h0 (d : Pt) : Bool := decide (0 < d.1) || (decide (d.1 = 0) && decide (0 < d.2))
/-- One direction comes before another one. -/
def al (d e : Pt) : Prop := (h0 d = true ∧ h0 e = false) ∨ (h0 d = h0 e ∧ 0 < cr d e)
theorem h0_iff {d : Pt} : h0 d = true ↔ 0 < d.1 ∨ d.1 = 0 ∧ 0 < d.2 := by simp [h0]
theorem h0_not {d : Pt} : h0 d = false ↔ d.1 < 0 ∨ d.1 = 0 ∧ d.2 ≤ 0 := by
 rw [← Bool.not_eq_true, h0_iff]; omega
theorem h0_neg {d : Pt} (hz : d ≠ (0, 0)) : h0 (neg d) = !h0 d := by
 have : ¬ (d.1 = 0 ∧ d.2 = 0) := fun h => hz (Prod.ext h.1 h.2)
 cases h : h0 d
 ·rw [h0_not] at h; rw [Bool.not_false, h0_iff]; simp only [neg]; omega
 ·rw [h0_iff] at h; rw [Bool.not_true, h0_not]; simp only [neg]; omega
theorem neg_nz {d : Pt} (hz : d ≠ (0, 0)) : neg d ≠ (0, 0) := fun h => hz (by
 have h1 := congrArg Prod.fst h; have h2 := congrArg Prod.snd h
 simp only [neg] at h1 h2
 exact Prod.ext (by show d.1 = 0; omega) (by show d.2 = 0; omega))
theorem cr_neg (d e : Pt) : cr (neg d) (neg e) = cr d e := by simp only [cr, neg]; grind
theorem cr_neg1 (d e : Pt) : cr (neg d) e = - cr d e := by simp only [cr, neg]; grind
theorem cr_swap (d e : Pt) : cr d e = - cr e d := by simp only [cr]; grind
theorem cr_self (d : Pt) : cr d d = 0 := by simp only [cr]; grind
/-- In the first half: from one to the next one. -/
theorem tr0 {d e f : Pt} (hd : h0 d = true) (he : h0 e = true) (hf : h0 f = true) (h1 : 0 ≤ cr d e) (h2 : 0 ≤ cr e f) :
  0 ≤ cr d f ∧ (0 < cr d e ∨ 0 < cr e f → 0 < cr d f) := by
 obtain ⟨d1, d2⟩ := d; obtain ⟨e1, e2⟩ := e; obtain ⟨f1, f2⟩ := f
 rw [h0_iff] at hd he hf
 simp only [cr] at *
 rcases he with he | ⟨rfl, he⟩
 ·have id1 : e1 * (d1 * f2 - d2 * f1) = d1 * (e1 * f2 - e2 * f1) + f1 * (d1 * e2 - d2 * e1) := by grind
  have hd1 : 0 ≤ d1 := by omega
  have hf1 : 0 ≤ f1 := by omega
  have p1 := Int.mul_nonneg hd1 h2
  have p2 := Int.mul_nonneg hf1 h1
  refine ⟨Int.nonneg_of_mul_nonneg_right (a := e1) (by omega) he, fun h => ?_⟩
  refine Int.pos_of_mul_pos_right (a := e1) ?_ he
  rw [id1]
  rcases Int.lt_or_eq_of_le hd1 with hd0 | hd0
  ·rcases Int.lt_or_eq_of_le hf1 with hf0 | hf0
   ·rcases h with h | h
    ·have := Int.mul_pos hf0 h; omega
    ·have := Int.mul_pos hd0 h; omega
   ·subst hf0
    have : 0 < f2 := by omega
    have := Int.mul_pos he this
    have q : 0 < e1 * f2 - e2 * 0 := by omega
    have := Int.mul_pos hd0 q; omega
  ·subst hd0
   have : 0 < d2 := by omega
   have := Int.mul_pos this he
   omega
 ·have hf1 : ¬ 0 < f1 := fun h => by have := Int.mul_pos he h; omega
  have hf0 : f1 = 0 := by omega
  subst hf0
  have hf2 : 0 < f2 := by omega
  have hd1 : 0 ≤ d1 := by omega
  have p1 := Int.mul_nonneg hd1 (Int.le_of_lt hf2)
  refine ⟨by omega, fun h => ?_⟩
  have : d1 ≠ 0 := by rintro rfl; omega
  have := Int.mul_pos (show 0 < d1 by omega) hf2
  omega
/-- In either half. -/
theorem tr1 {d e f : Pt} (zd : d ≠ (0, 0)) (ze : e ≠ (0, 0)) (zf : f ≠ (0, 0)) (hde : h0 d = h0 e) (hef : h0 e = h0 f) (h1 : 0 ≤ cr d e) (h2 : 0 ≤ cr e f) :
  0 ≤ cr d f ∧ (0 < cr d e ∨ 0 < cr e f → 0 < cr d f) := by
 cases hd : h0 d
 ·have := tr0 (d := neg d) (e := neg e) (f := neg f) (by rw [h0_neg zd, hd]; rfl) (by rw [h0_neg ze, ← hde, hd]; rfl) (by rw [h0_neg zf, ← hef, ← hde, hd]; rfl)
   (by rw [cr_neg]; exact h1) (by rw [cr_neg]; exact h2)
  simpa only [cr_neg] using this
 ·exact tr0 hd (by rw [← hde, hd]) (by rw [← hef, ← hde, hd]) h1 h2
theorem al_trans {d e f : Pt} (zd : d ≠ (0, 0)) (ze : e ≠ (0, 0)) (zf : f ≠ (0, 0)) (h1 : al d e) (h2 : al e f) : al d f := by
 rcases h1 with ⟨a, b⟩ | ⟨a, b⟩
 ·rcases h2 with ⟨c, d⟩ | ⟨c, d⟩
  ·rw [b] at c; cases c
  ·exact Or.inl ⟨a, by rw [← c, b]⟩
 ·rcases h2 with ⟨c, d⟩ | ⟨c, d⟩
  ·exact Or.inl ⟨by rw [a, c], d⟩
  ·exact Or.inr ⟨by rw [a, c], (tr1 zd ze zf a c (by omega) (by omega)).2 (Or.inl b)⟩
theorem al_irr {d : Pt} : ¬ al d d := by
 rintro (⟨a, b⟩ | ⟨a, b⟩)
 ·rw [a] at b; cases b
 ·rw [cr_self] at b; omega
/-- No later than a direction. -/
def S (t d : Pt) : Bool := (h0 d && !h0 t) || (h0 d == h0 t && decide (0 ≤ cr d t))
theorem S_iff {t d : Pt} : S t d = true ↔ (h0 d = true ∧ h0 t = false) ∨ (h0 d = h0 t ∧ 0 ≤ cr d t) := by simp [S]
theorem S_down {t d e : Pt} (zt : t ≠ (0, 0)) (zd : d ≠ (0, 0)) (ze : e ≠ (0, 0)) (h : al d e) (hS : S t e = true) : S t d = true := by
 rw [S_iff] at hS ⊢
 rcases h with ⟨a, b⟩ | ⟨a, b⟩
 ·rcases hS with ⟨c, d⟩ | ⟨c, d⟩
  ·rw [b] at c; cases c
  ·exact Or.inl ⟨a, by rw [← c, b]⟩
 ·rcases hS with ⟨c, d⟩ | ⟨c, d⟩
  ·exact Or.inl ⟨by rw [a, c], d⟩
  ·exact Or.inr ⟨by rw [a, c], (tr1 zd ze zt a c (by omega) (by omega)).1⟩
/-- Up to the direction at which what is gained turns to loss it falls first, and rises then. -/
theorem S_val1 {t d e : Pt} (zt : t ≠ (0, 0)) (zd : d ≠ (0, 0)) (ze : e ≠ (0, 0)) (ht : h0 t = false) (h : al d e) (hS : S t e = true) (hp : 0 < cr d t) : 0 ≤ cr e t := by
 rw [S_iff] at hS
 rcases hS with ⟨c, -⟩ | ⟨c, d⟩
 ·have hd : h0 d = true := by
   rcases h with ⟨a, b⟩ | ⟨a, b⟩
   ·exact a
   ·rw [a, c]
  have hc : 0 ≤ cr d e := by
   rcases h with ⟨a, b⟩ | ⟨a, b⟩
   ·rw [b] at c; cases c
   ·omega
  have hn : h0 (neg t) = true := by rw [h0_neg zt, ht]; rfl
  have h1 : 0 < cr (neg t) d := by rw [cr_neg1, cr_swap]; omega
  have := (tr0 hn hd c (by omega) hc).1
  rw [cr_neg1, cr_swap] at this; omega
 ·exact d
theorem S_neg1 {t d : Pt} (ht : h0 t = false) (hS : S t d = false) : cr d t < 0 := by
 rw [← Bool.not_eq_true, S_iff, ht] at hS
 cases hd : h0 d
 ·rw [hd] at hS; simp at hS; exact hS
 ·rw [hd] at hS; simp at hS
theorem S_pos0 {t d : Pt} (ht : h0 t = true) (hS : S t d = true) : 0 ≤ cr d t := by
 rw [S_iff, ht] at hS
 rcases hS with ⟨-, h⟩ | ⟨-, h⟩
 ·cases h
 ·exact h
theorem S_val0 {t d e : Pt} (zt : t ≠ (0, 0)) (zd : d ≠ (0, 0)) (ze : e ≠ (0, 0)) (ht : h0 t = true) (h : al d e) (hS : S t d = false) (hp : 0 < cr d t) : 0 ≤ cr e t := by
 have hd : h0 d = false := by
  rw [← Bool.not_eq_true, S_iff, ht] at hS
  cases hd : h0 d
  ·rfl
  ·rw [hd] at hS; simp at hS; omega
 have he : h0 e = false := by
  rcases h with ⟨a, b⟩ | ⟨a, b⟩
  ·exact b
  ·rw [← a, hd]
 have hc : 0 ≤ cr d e := by
  rcases h with ⟨a, b⟩ | ⟨a, b⟩
  ·rw [hd] at a; cases a
  ·omega
 have hn : h0 (neg t) = false := by rw [h0_neg zt, ht]; rfl
 have h1 : 0 < cr (neg t) d := by rw [cr_neg1, cr_swap]; omega
 have := (tr1 (neg_nz zt) zd ze (by rw [hn, hd]) (by rw [hd, he]) (by omega) hc).1
 rw [cr_neg1, cr_swap] at this; omega
/- Sums. -/
def sm : List Pt → Pt
 | [] => (0, 0)
 | d :: r => add d (sm r)
theorem dt_add (u p q : Pt) : dt u (add p q) = dt u p + dt u q := by simp only [dt, add]; grind
theorem dt_sm (u : Pt) (l : List Pt) : dt u (sm l) = (l.map (dt u)).sum := by
 induction l with
 | nil => simp [sm, dt]
 | cons d r ih => rw [sm, dt_add, ih, List.map_cons, List.sum_cons]
theorem add_assoc (p q r : Pt) : add (add p q) r = add p (add q r) := by simp only [add]; exact Prod.ext (by simp only []; omega) (by simp only []; omega)
theorem add_zero (p : Pt) : add p (0, 0) = p := by simp [add]
theorem sm_append (l r : List Pt) : sm (l ++ r) = add (sm l) (sm r) := by
 induction l with
 | nil => simp [sm, add]
 | cons d l ih => rw [List.cons_append, sm, ih, sm, add_assoc]
/-- The corners. -/
def vs (a : Pt) : List Pt → List Pt
 | [] => []
 | d :: r => a :: vs (add a d) r
theorem vs_len (a : Pt) (ds : List Pt) : (vs a ds).length = ds.length := by
 induction ds generalizing a with
 | nil => rfl
 | cons d r ih => simp [vs, ih]
theorem mem_vs {a v : Pt} {ds : List Pt} : v ∈ vs a ds ↔ ∃ k, k < ds.length ∧ v = add a (sm (ds.take k)) := by
 induction ds generalizing a with
 | nil => simp [vs]
 | cons d r ih =>
  simp only [vs, List.mem_cons, ih, List.length_cons]
  constructor
  ·rintro (rfl | ⟨k, hk, rfl⟩)
   ·exact ⟨0, by omega, by simp [sm, add]⟩
   ·exact ⟨k + 1, by omega, by rw [List.take_succ_cons, sm, add_assoc]⟩
  ·rintro ⟨k, hk, rfl⟩
   cases k with
   | zero => left; simp [sm, add]
   | succ k => right; exact ⟨k, by omega, by rw [List.take_succ_cons, sm, add_assoc]⟩
/-- What falls first and rises then is at most what it is at an end. -/
theorem valley {l : List Int} (h : l.Pairwise (fun x y => 0 < x → 0 ≤ y)) (k : Nat) : (l.take k).sum ≤ max 0 l.sum := by
 induction l generalizing k with
 | nil => simp
 | cons x r ih =>
  rw [List.pairwise_cons] at h
  cases k with
  | zero => simp; omega
  | succ k =>
   rw [List.take_succ_cons, List.sum_cons, List.sum_cons]
   have hi := ih h.2 k
   by_cases hx : 0 < x
   ·have hr : ∀ y ∈ r, 0 ≤ y := fun y hy => h.1 y hy hx
    have : (r.take k).sum + (r.drop k).sum = r.sum := by rw [← List.sum_append, List.take_append_drop]
    have h2 : 0 ≤ (r.drop k).sum := by
     have : ∀ l : List Int, (∀ y ∈ l, 0 ≤ y) → 0 ≤ l.sum := by
      intro l; induction l with
      | nil => simp
      | cons a b ih => intro h; rw [List.sum_cons]; have := h a (by simp); have := ih (fun y hy => h y (by simp [hy])); omega
     exact this _ fun y hy => hr y (List.mem_of_mem_drop hy)
    omega
   ·omega
theorem sum_nonpos {l : List Int} (h : ∀ y ∈ l, y ≤ 0) : l.sum ≤ 0 := by
 induction l with
 | nil => simp
 | cons a b ih => rw [List.sum_cons]; have := h a (by simp); have := ih (fun y hy => h y (by simp [hy])); omega
theorem sum_nonneg {l : List Int} (h : ∀ y ∈ l, 0 ≤ y) : 0 ≤ l.sum := by
 induction l with
 | nil => simp
 | cons a b ih => rw [List.sum_cons]; have := h a (by simp); have := ih (fun y hy => h y (by simp [hy])); omega
/-- A direction, turned to the left. -/
def rot (u : Pt) : Pt := (-u.2, u.1)
theorem dt_rot (u d : Pt) : dt u d = cr d (rot u) := by simp only [dt, cr, rot]; grind
theorem rot_nz {u : Pt} (h : u ≠ (0, 0)) : rot u ≠ (0, 0) := fun e => h (by
 have h1 := congrArg Prod.fst e; have h2 := congrArg Prod.snd e
 simp only [rot] at h1 h2
 exact Prod.ext (by show u.1 = 0; omega) (by show u.2 = 0; omega))
theorem split_pre {α : Type} {p : α → Bool} {l : List α} (h : l.Pairwise (fun x y => p y = true → p x = true)) : l = l.filter p ++ l.filter (fun x => !p x) := by
 induction l with
 | nil => rfl
 | cons x r ih =>
  rw [List.pairwise_cons] at h
  by_cases hx : p x = true
  ·rw [List.filter_cons_of_pos hx, List.filter_cons_of_neg (by simp [hx]), List.cons_append, ← ih h.2]
  ·have hn : ∀ y ∈ r, p y = false := fun y hy => by
    cases hp : p y
    ·rfl
    ·exact absurd (h.1 y hy hp) hx
   have e1 : r.filter p = [] := List.filter_eq_nil_iff.2 fun y hy => by rw [hn y hy]; simp
   have e2 : r.filter (fun x => !p x) = r := List.filter_eq_self.2 fun y hy => by rw [hn y hy]; rfl
   rw [List.filter_cons_of_neg hx, List.filter_cons_of_pos (by simp [hx]), e1, e2]; rfl
/-- A polygon: a corner, and sides one after the other. -/
structure Sd (ds : List Pt) : Prop where
 srt : ds.Pairwise al
 nz : ∀ d ∈ ds, d ≠ (0, 0)
 cl : sm ds = (0, 0)
/-- What the sides bring in a direction. -/
def mF (u : Pt) (ds : List Pt) : Int := ((ds.filter (S (rot u))).map (dt u)).sum
theorem sm_take_le {u : Pt} {ds : List Pt} (h : Sd ds) (k : Nat) : ((ds.take k).map (dt u)).sum ≤ mF u ds := by
 by_cases hu : u = (0, 0)
 ·subst hu
  have hz : ∀ l : List Pt, (l.map (dt (0, 0))).sum = 0 := by
   intro l; induction l with
   | nil => rfl
   | cons a b ih => rw [List.map_cons, List.sum_cons, ih]; simp [dt]
  rw [mF, hz, hz]; omega
 have zt := rot_nz hu
 generalize ht : rot u = t at zt
 have hf : ∀ d, dt u d = cr d t := fun d => by rw [dt_rot, ht]
 unfold mF; rw [ht]
 have hsp := split_pre (p := S t) (l := ds) (h.srt.imp_of_mem fun ha hb hab => S_down zt (h.nz _ ha) (h.nz _ hb) hab)
 have hP := h.srt
 have hcl : (ds.map (dt u)).sum = 0 := by rw [← dt_sm, h.cl]; simp [dt]
 have hA : ∀ d ∈ ds.filter (S t), d ∈ ds ∧ S t d = true := fun d hd => List.mem_filter.1 hd
 have hB : ∀ d ∈ ds.filter (fun x => !S t x), d ∈ ds ∧ S t d = false := fun d hd => by
  have := List.mem_filter.1 hd; simpa using this
 generalize ds.filter (S t) = A at hsp hA ⊢
 generalize ds.filter (fun x => !S t x) = B at hsp hB
 rw [hsp] at hP hcl
 rw [List.pairwise_append] at hP
 rw [List.map_append, List.sum_append] at hcl
 conv => lhs; rw [hsp]
 rw [List.take_append, List.map_append, List.sum_append, List.map_take, List.map_take]
 cases h0t : h0 t
 ·have hneg : ∀ y ∈ B.map (dt u), y ≤ 0 := fun y hy => by
   obtain ⟨d, hd, rfl⟩ := List.mem_map.1 hy
   rw [hf]; have := S_neg1 h0t (hB d hd).2; omega
  have hv : (A.map (dt u)).Pairwise (fun x y => 0 < x → 0 ≤ y) := by
   rw [List.pairwise_map]
   refine hP.1.imp_of_mem fun ha hb hab => ?_
   rw [hf, hf]
   exact S_val1 zt (h.nz _ (hA _ ha).1) (h.nz _ (hA _ hb).1) h0t hab (hA _ hb).2
  have v1 := valley hv k
  have n1 := sum_nonpos hneg
  by_cases hk : k ≤ A.length
  ·rw [show k - A.length = 0 by omega, List.take_zero]; simp only [List.sum_nil]; omega
  ·rw [List.take_of_length_le (l := A.map (dt u)) (by rw [List.length_map]; omega)]
   have : ((B.map (dt u)).take (k - A.length)).sum ≤ 0 := sum_nonpos fun y hy => hneg y (List.mem_of_mem_take hy)
   omega
 ·have hpos : ∀ y ∈ A.map (dt u), 0 ≤ y := fun y hy => by
   obtain ⟨d, hd, rfl⟩ := List.mem_map.1 hy
   rw [hf]; exact S_pos0 h0t (hA d hd).2
  have hv : (B.map (dt u)).Pairwise (fun x y => 0 < x → 0 ≤ y) := by
   rw [List.pairwise_map]
   refine hP.2.1.imp_of_mem fun ha hb hab => ?_
   rw [hf, hf]
   exact S_val0 zt (h.nz _ (hB _ ha).1) (h.nz _ (hB _ hb).1) h0t hab (hB _ ha).2
  have v1 := valley hv (k - A.length)
  have n1 := sum_nonneg hpos
  have : ((A.map (dt u)).take k).sum + ((A.map (dt u)).drop k).sum = (A.map (dt u)).sum := by rw [← List.sum_append, List.take_append_drop]
  have : 0 ≤ ((A.map (dt u)).drop k).sum := sum_nonneg fun y hy => hpos y (List.mem_of_mem_drop hy)
  omega
/-- All corners. -/
def cs (a : Pt) (ds : List Pt) : List Pt := if ds = [] then [a] else vs a ds
theorem mx_le {u a v : Pt} {ds : List Pt} (h : Sd ds) (hv : v ∈ cs a ds) : dt u v ≤ dt u a + mF u ds := by
 unfold cs at hv
 split at hv
 ·rename_i e; subst e
  rw [List.mem_singleton.1 hv]; simp [mF]
 ·obtain ⟨k, -, rfl⟩ := mem_vs.1 hv
  rw [dt_add, dt_sm]
  have := sm_take_le (u := u) h k
  omega
theorem mx_at {u a : Pt} {ds : List Pt} (h : Sd ds) : ∃ v ∈ cs a ds, dt u v = dt u a + mF u ds := by
 unfold cs
 split
 ·rename_i e; subst e
  exact ⟨a, by simp, by simp [mF]⟩
 ·rename_i hne
  by_cases hu : u = (0, 0)
  ·subst hu
   have hz : ∀ l : List Pt, (l.map (dt (0, 0))).sum = 0 := by
    intro l; induction l with
    | nil => rfl
    | cons a b ih => rw [List.map_cons, List.sum_cons, ih]; simp [dt]
   refine ⟨a, mem_vs.2 ⟨0, List.length_pos_iff.2 hne, by simp [sm, add]⟩, ?_⟩
   rw [mF, hz]; omega
  have zt := rot_nz hu
  have hsp := split_pre (p := S (rot u)) (l := ds) (h.srt.imp_of_mem fun ha hb hab => S_down zt (h.nz _ ha) (h.nz _ hb) hab)
  have ht : ds.filter (S (rot u)) = ds.take (ds.filter (S (rot u))).length := by
   conv => rhs; rw [hsp]
   rw [List.filter_append]
   simp
  by_cases hl : (ds.filter (S (rot u))).length < ds.length
  ·exact ⟨_, mem_vs.2 ⟨_, hl, rfl⟩, by rw [← ht, dt_add, dt_sm]; rfl⟩
  ·refine ⟨a, mem_vs.2 ⟨0, List.length_pos_iff.2 hne, by simp [sm, add]⟩, ?_⟩
   unfold mF
   rw [ht, List.take_of_length_le (by omega), ← dt_sm, h.cl]; simp [dt]
end Go.Geo
end
section
namespace Go.Geo
def sub (p q : Pt) : Pt := (p.1 - q.1, p.2 - q.2)
def tms (n : Int) (p : Pt) : Pt := (n * p.1, n * p.2)
/-- In the hull of points: in a triangle, or between two. -/
def among (l : List Pt) (p : Pt) : Prop := ∃ a ∈ l, ∃ b ∈ l, (turn a b p = 0 ∧ (a.1 - p.1) * (b.1 - p.1) ≤ 0 ∧ (a.2 - p.2) * (b.2 - p.2) ≤ 0) ∨
 ∃ c ∈ l, 0 < turn a b c ∧ 0 ≤ turn a b p ∧ 0 ≤ turn b c p ∧ 0 ≤ turn c a p
/-- Nowhere beyond the corners, made so many times as great. -/
def Sup (l : List Pt) (n : Int) (p : Pt) : Prop := ∀ u, ∃ v ∈ l, dt u p ≤ n * dt u v
theorem seg_lt {x1 y1 x2 y2 u1 u2 : Int} (h1 : x1 * x2 ≤ 0) (h2 : y1 * y2 ≤ 0) (h3 : x1 * y2 = y1 * x2) (h4 : u1 * x1 + u2 * y1 < 0) (h5 : u1 * x2 + u2 * y2 < 0) : False := by
 have hP : 0 < (u1 * x1 + u2 * y1) * (u1 * x2 + u2 * y2) := Int.mul_pos_of_neg_of_neg h4 h5
 have id1 : (x1 * x2) * ((u1 * x1 + u2 * y1) * (u1 * x2 + u2 * y2)) = (u1 * (x1 * x2) + u2 * (x1 * y2)) * (u1 * (x1 * x2) + u2 * (x1 * y2)) := by grind
 have hsq : 0 ≤ (u1 * (x1 * x2) + u2 * (x1 * y2)) * (u1 * (x1 * x2) + u2 * (x1 * y2)) := by
  rcases Int.le_total 0 (u1 * (x1 * x2) + u2 * (x1 * y2)) with h | h
  ·exact Int.mul_nonneg h h
  ·exact Int.mul_nonneg_of_nonpos_of_nonpos h h
 rcases Int.lt_or_eq_of_le h1 with h | h
 ·have := Int.mul_neg_of_neg_of_pos h hP
  omega
 ·have hm : (x1 * y2) * (x1 * y2) = 0 := by
   have : (x1 * y2) * (x1 * y2) = (x1 * x2) * (y1 * y2) := by grind
   rw [this, h]; simp
  have hm0 : x1 * y2 = 0 := by
   rcases Int.mul_eq_zero.1 hm with h | h <;> exact h
  have id2 : (u1 * x1 + u2 * y1) * (u1 * x2 + u2 * y2) = (u2 * u2) * (y1 * y2) := by grind
  have hu : 0 ≤ u2 * u2 := by
   rcases Int.le_total 0 u2 with h | h
   ·exact Int.mul_nonneg h h
   ·exact Int.mul_nonneg_of_nonpos_of_nonpos h h
  have : (u2 * u2) * (y1 * y2) ≤ 0 := Int.mul_nonpos_of_nonneg_of_nonpos hu h2
  omega
theorem among_le {l : List Pt} {p : Pt} (h : among l p) : Sup l 1 p := by
 intro u
 obtain ⟨a, ha, b, hb, h⟩ := h
 rcases h with ⟨h1, h2, h3⟩ | ⟨c, hc, h1, h2, h3, h4⟩
 ·by_cases h5 : dt u p ≤ dt u a
  ·exact ⟨a, ha, by omega⟩
  by_cases h6 : dt u p ≤ dt u b
  ·exact ⟨b, hb, by omega⟩
  exfalso
  refine seg_lt (u1 := u.1) (u2 := u.2) h2 h3 ?_ ?_ ?_
  ·simp only [turn] at h1; grind
  ·simp only [dt] at h5; grind
  ·simp only [dt] at h6; grind
 ·by_cases h5 : dt u p ≤ dt u a
  ·exact ⟨a, ha, by omega⟩
  by_cases h6 : dt u p ≤ dt u b
  ·exact ⟨b, hb, by omega⟩
  by_cases h7 : dt u p ≤ dt u c
  ·exact ⟨c, hc, by omega⟩
  exfalso
  have id1 : turn b c p * (dt u p - dt u a) + turn c a p * (dt u p - dt u b) + turn a b p * (dt u p - dt u c) = 0 := by simp only [turn, dt]; grind
  have id2 : turn b c p + turn c a p + turn a b p = turn a b c := by simp only [turn]; grind
  have q1 := Int.mul_nonneg h3 (show 0 ≤ dt u p - dt u a by omega)
  have q2 := Int.mul_nonneg h4 (show 0 ≤ dt u p - dt u b by omega)
  have q3 := Int.mul_nonneg h2 (show 0 ≤ dt u p - dt u c by omega)
  have z1 : turn b c p = 0 := by
   rcases Int.mul_eq_zero.1 (show turn b c p * (dt u p - dt u a) = 0 by omega) with h | h
   ·exact h
   ·omega
  have z2 : turn c a p = 0 := by
   rcases Int.mul_eq_zero.1 (show turn c a p * (dt u p - dt u b) = 0 by omega) with h | h
   ·exact h
   ·omega
  have z3 : turn a b p = 0 := by
   rcases Int.mul_eq_zero.1 (show turn a b p * (dt u p - dt u c) = 0 by omega) with h | h
   ·exact h
   ·omega
  omega
theorem among_mono {l r : List Pt} {p : Pt} (h : among l p) (hs : ∀ v ∈ l, v ∈ r) : among r p := by
 obtain ⟨a, ha, b, hb, h⟩ := h
 refine ⟨a, hs a ha, b, hs b hb, ?_⟩
 rcases h with h | ⟨c, hc, h⟩
 ·exact Or.inl h
 ·exact Or.inr ⟨c, hs c hc, h⟩
/-- The sides, each from its corner. -/
def sd (a : Pt) : List Pt → List (Pt × Pt)
 | [] => []
 | d :: r => (a, d) :: sd (add a d) r
theorem mem_sd {a v d : Pt} {ds : List Pt} : (v, d) ∈ sd a ds ↔ ∃ A B, ds = A ++ d :: B ∧ v = add a (sm A) := by
 induction ds generalizing a with
 | nil => simp [sd]
 | cons x r ih =>
  simp only [sd, List.mem_cons, ih, Prod.mk.injEq]
  constructor
  ·rintro (⟨rfl, rfl⟩ | ⟨A, B, rfl, rfl⟩)
   ·exact ⟨[], r, rfl, by simp [sm, add]⟩
   ·exact ⟨x :: A, B, rfl, by rw [sm, add_assoc]⟩
  ·rintro ⟨A, B, h, rfl⟩
   cases A with
   | nil =>
    simp only [List.nil_append, List.cons.injEq] at h
    exact Or.inl ⟨by simp [sm, add], h.1.symm⟩
   | cons y A =>
    simp only [List.cons_append, List.cons.injEq] at h
    obtain ⟨rfl, rfl⟩ := h
    exact Or.inr ⟨A, B, rfl, by rw [sm, add_assoc]⟩
/-- The direction in which all lies to one side of a side. -/
def out (d : Pt) : Pt := (d.2, -d.1)
theorem rot_out (d : Pt) : rot (out d) = d := by simp [rot, out]
theorem dt_out (d x : Pt) : dt (out d) x = - cr d x := by simp only [dt, out, cr]; grind
theorem S_self (d : Pt) : S d d = true := by rw [S_iff, cr_self]; simp
theorem S_of_al {d e : Pt} (h : al e d) : S d e = true := by
 rw [S_iff]
 rcases h with h | ⟨h1, h2⟩
 ·exact Or.inl h
 ·exact Or.inr ⟨h1, by omega⟩
theorem S_not {d e : Pt} (h : al d e) : S d e = false := by
 rw [← Bool.not_eq_true, S_iff]
 rcases h with ⟨h1, h2⟩ | ⟨h1, h2⟩
 ·rw [h1, h2]; simp
 ·rw [h1, cr_swap] ; rw [cr_swap] at h2
  intro h
  rcases h with ⟨a, b⟩ | ⟨a, b⟩
  ·rw [a] at b; cases b
  ·rw [cr_swap] at h2; omega
theorem filt_at {A B : List Pt} {d : Pt} (h : (A ++ d :: B).Pairwise al) : (A ++ d :: B).filter (S d) = A ++ [d] := by
 rw [List.pairwise_append, List.pairwise_cons] at h
 have e1 : A.filter (S d) = A := List.filter_eq_self.2 fun x hx => S_of_al (h.2.2 x hx d (by simp))
 have e2 : B.filter (S d) = [] := List.filter_eq_nil_iff.2 fun x hx => by rw [S_not (h.2.1.1 x hx)]; simp
 rw [List.filter_append, e1, List.filter_cons_of_pos (S_self d), e2]
theorem mF_at {A B : List Pt} {d : Pt} (h : (A ++ d :: B).Pairwise al) : mF (out d) (A ++ d :: B) = dt (out d) (sm A) := by
 rw [mF, rot_out, filt_at h, List.map_append, List.sum_append, dt_sm, List.map_singleton]
 simp [dt_out, cr_self]
/-- All corners lie to the left of each side. -/
theorem left_of {a v d w : Pt} {ds : List Pt} (h : Sd ds) (hv : (v, d) ∈ sd a ds) (hw : w ∈ cs a ds) : 0 ≤ cr d (sub w v) := by
 obtain ⟨A, B, rfl, rfl⟩ := mem_sd.1 hv
 have h1 := mx_le (u := out d) h hw
 rw [mF_at h.srt, dt_out, dt_out, dt_out] at h1
 simp only [cr, sub, add] at h1 ⊢
 grind
/-- By sides, and between the least and the most of both. -/
def Has (a : Pt) (ds : List Pt) (n : Int) (p : Pt) : Prop :=
 (ds = [] → p = tms n a) ∧ (∀ v d, (v, d) ∈ sd a ds → 0 ≤ cr d (sub p (tms n v))) ∧
 (∃ v ∈ cs a ds, n * v.1 ≤ p.1) ∧ (∃ v ∈ cs a ds, p.1 ≤ n * v.1) ∧ (∃ v ∈ cs a ds, n * v.2 ≤ p.2) ∧ (∃ v ∈ cs a ds, p.2 ≤ n * v.2)
theorem has_of {a p : Pt} {ds : List Pt} {n : Int} (h : Sd ds) (hn : 0 ≤ n) (hs : Sup (cs a ds) n p) : Has a ds n p := by
 have b1 : ∃ v ∈ cs a ds, n * v.1 ≤ p.1 := by
  obtain ⟨v, hv, h⟩ := hs (-1, 0)
  exact ⟨v, hv, by simp only [dt] at h; grind⟩
 have b2 : ∃ v ∈ cs a ds, p.1 ≤ n * v.1 := by
  obtain ⟨v, hv, h⟩ := hs (1, 0)
  exact ⟨v, hv, by simp only [dt] at h; grind⟩
 have b3 : ∃ v ∈ cs a ds, n * v.2 ≤ p.2 := by
  obtain ⟨v, hv, h⟩ := hs (0, -1)
  exact ⟨v, hv, by simp only [dt] at h; grind⟩
 have b4 : ∃ v ∈ cs a ds, p.2 ≤ n * v.2 := by
  obtain ⟨v, hv, h⟩ := hs (0, 1)
  exact ⟨v, hv, by simp only [dt] at h; grind⟩
 refine ⟨fun e => ?_, fun v d hv => ?_, b1, b2, b3, b4⟩
 ·subst e
  simp only [cs, if_true, List.mem_singleton, exists_eq_left] at b1 b2 b3 b4
  exact Prod.ext (by simp only [tms]; omega) (by simp only [tms]; omega)
 ·obtain ⟨w, hw, h1⟩ := hs (out d)
  have h2 := left_of h hv hw
  rw [dt_out, dt_out] at h1
  have h3 := Int.mul_nonneg hn h2
  simp only [cr, sub, tms] at h1 h3 ⊢
  grind
/-- At each corner but the ends of the first one's sides: a true turn. -/
theorem conv {a d e : Pt} {A B : List Pt} (h : Sd (A ++ d :: e :: B)) (hB : B ≠ []) : 0 < turn a (add a (sm (A ++ [d]))) (add a (sm (A ++ [d, e]))) := by
 have hs : (A ++ d :: e :: B) = (A ++ [d]) ++ e :: B := by simp
 have hpw := h.srt
 rw [hs] at hpw
 have hF : mF (out e) (A ++ d :: e :: B) = dt (out e) (sm (A ++ [d])) := by rw [hs]; exact mF_at hpw
 have ht : turn a (add a (sm (A ++ [d]))) (add a (sm (A ++ [d, e]))) = dt (out e) (sm (A ++ [d])) := by
  rw [show A ++ [d, e] = (A ++ [d]) ++ [e] by simp, sm_append (A ++ [d]) [e]]
  generalize sm (A ++ [d]) = x
  rw [dt_out]
  simp only [turn, add, sm, cr]; grind
 rw [ht, dt_sm]
 have ze : e ≠ (0, 0) := h.nz e (by simp)
 rw [List.pairwise_append] at hpw
 have hde : al d e := hpw.2.2 d (by simp) e (by simp)
 have hf : ∀ x, dt (out e) x = cr x e := fun x => by rw [dt_out, cr_swap]; omega
 cases h0e : h0 e
 ·have hcl : ((A ++ d :: e :: B).map (dt (out e))).sum = 0 := by rw [← dt_sm, h.cl]; simp [dt]
  rw [hs, List.map_append, List.sum_append, List.map_cons, List.sum_cons] at hcl
  have he0 : dt (out e) e = 0 := by rw [hf, cr_self]
  have hneg : ∀ x ∈ B, dt (out e) x < 0 := fun x hx => by
   rw [hf]
   exact S_neg1 h0e (S_not ((List.pairwise_cons.1 hpw.2.1).1 x hx))
  have : (B.map (dt (out e))).sum < 0 := by
   cases B with
   | nil => exact absurd rfl hB
   | cons x r =>
    rw [List.map_cons, List.sum_cons]
    have h1 := hneg x (by simp)
    have h2 : (r.map (dt (out e))).sum ≤ 0 := sum_nonpos fun y hy => by
     obtain ⟨z, hz, rfl⟩ := List.mem_map.1 hy
     have := hneg z (by simp [hz]); omega
    omega
  omega
 ·rw [List.map_append, List.sum_append, List.map_singleton, List.sum_singleton]
  have h1 : 0 ≤ (A.map (dt (out e))).sum := sum_nonneg fun y hy => by
   obtain ⟨z, hz, rfl⟩ := List.mem_map.1 hy
   rw [hf]; exact S_pos0 h0e (S_of_al (hpw.2.2 z (by simp [hz]) e (by simp)))
  have h2 : 0 < dt (out e) d := by
   rw [hf]
   rcases hde with ⟨-, b⟩ | ⟨-, b⟩
   ·rw [h0e] at b; cases b
   ·exact b
  omega
end Go.Geo
end
section
namespace Go.Geo
/-- A corner by its number. -/
def vtx (a : Pt) (ds : List Pt) (i : Nat) : Pt := add a (sm (ds.take i))
theorem vtx_zero (a : Pt) (ds : List Pt) : vtx a ds 0 = a := by simp [vtx, sm, add]
theorem vtx_succ {a : Pt} {ds : List Pt} {i : Nat} (h : i < ds.length) : vtx a ds (i + 1) = add (vtx a ds i) ds[i] := by
 unfold vtx
 rw [List.take_succ_eq_append_getElem h, sm_append, ← add_assoc]
 simp [sm, add]
theorem vtx_last {a : Pt} {ds : List Pt} (h : Sd ds) : vtx a ds ds.length = a := by
 unfold vtx; rw [List.take_length, h.cl, add_zero]
theorem vs_get {a : Pt} {ds : List Pt} {i : Nat} (h : i < ds.length) : (vs a ds)[i]'(by rw [vs_len]; exact h) = vtx a ds i := by
 induction ds generalizing a i with
 | nil => simp at h
 | cons d r ih =>
  cases i with
  | zero => simp [vs, vtx, sm, add]
  | succ i =>
   simp only [vs, List.getElem_cons_succ]
   rw [ih (by simpa using h)]
   unfold vtx
   rw [List.take_succ_cons, sm, add_assoc]
theorem sd_at {a : Pt} {ds : List Pt} {i : Nat} (h : i < ds.length) : (vtx a ds i, ds[i]) ∈ sd a ds :=
 mem_sd.2 ⟨ds.take i, ds.drop (i + 1), by rw [List.getElem_cons_drop h, List.take_append_drop], rfl⟩
theorem turn_swap (a b c : Pt) : turn b a c = - turn a b c := by simp only [turn]; grind
theorem side_turn {a p : Pt} {ds : List Pt} {n : Int} (hn : 0 ≤ n) (hh : Has a ds n p) {i : Nat} (h : i < ds.length) :
  0 ≤ turn (tms n (vtx a ds i)) (tms n (vtx a ds (i + 1))) p := by
 have h1 := Int.mul_nonneg hn (hh.2.1 _ _ (sd_at h))
 rw [vtx_succ h]
 generalize vtx a ds i = v at h1 ⊢
 generalize ds[i] = d at h1 ⊢
 simp only [turn, tms, add, cr, sub] at h1 ⊢
 grind
theorem conv_at {a : Pt} {ds : List Pt} (h : Sd ds) {i : Nat} (h1 : 1 ≤ i) (h2 : i + 1 < ds.length) : 0 < turn a (vtx a ds i) (vtx a ds (i + 1)) := by
 obtain ⟨k, rfl⟩ : ∃ k, i = k + 1 := ⟨i - 1, by omega⟩
 have e : ds = ds.take k ++ ds[k] :: ds[k + 1] :: ds.drop (k + 2) := by
  rw [List.getElem_cons_drop (by omega), List.getElem_cons_drop (by omega), List.take_append_drop]
 have e1 : ds.take (k + 1) = ds.take k ++ [ds[k]] := List.take_succ_eq_append_getElem (by omega)
 have e2 : ds.take (k + 2) = ds.take k ++ [ds[k], ds[k + 1]] := by
  rw [show k + 2 = (k + 1) + 1 from rfl, List.take_succ_eq_append_getElem (show k + 1 < ds.length by omega), e1, List.append_assoc]; rfl
 unfold vtx
 rw [show k + 1 + 1 = k + 2 from rfl, e1, e2]
 have hB : ds.drop (k + 2) ≠ [] := by
  intro h; have := congrArg List.length h; rw [List.length_drop] at this; simp at this; omega
 rw [e] at h
 exact conv h hB
theorem ivt {f : Nat → Int} {m : Nat} (h1 : 0 ≤ f 1) (hm : 2 ≤ m) (h2 : f m ≤ 0) : ∃ i, 1 ≤ i ∧ i < m ∧ 0 ≤ f i ∧ f (i + 1) ≤ 0 := by
 induction m with
 | zero => omega
 | succ m ih =>
  rcases Int.le_total 0 (f m) with h | h
  ·exact ⟨m, by omega, by omega, h, h2⟩
  ·by_cases h3 : 2 ≤ m
   ·obtain ⟨i, a, b, c⟩ := ih h3 h
    exact ⟨i, a, by omega, c⟩
   ·have : m = 1 := by omega
    subst this
    exact ⟨1, by omega, by omega, h1, h2⟩
theorem fan {a p : Pt} {ds : List Pt} {n : Int} (hs : Sd ds) (hn : 0 ≤ n) (hh : Has a ds n p) (hl : 3 ≤ ds.length) :
  ∃ i, 1 ≤ i ∧ i + 1 < ds.length ∧ 0 ≤ turn (tms n (vtx a ds i)) (tms n (vtx a ds (i + 1))) p ∧ 0 ≤ turn (tms n (vtx a ds (i + 1))) (tms n a) p ∧ 0 ≤ turn (tms n a) (tms n (vtx a ds i)) p := by
 have h1 := side_turn hn hh (show 0 < ds.length by omega)
 have h2 := side_turn hn hh (show ds.length - 1 < ds.length by omega)
 rw [vtx_zero] at h1
 rw [show ds.length - 1 + 1 = ds.length by omega, vtx_last hs, turn_swap] at h2
 obtain ⟨i, a1, a2, a3, a4⟩ := ivt (f := fun j => turn (tms n a) (tms n (vtx a ds j)) p) (m := ds.length - 1) h1 (by omega) (by omega)
 exact ⟨i, a1, by omega, side_turn hn hh (by omega), by rw [turn_swap]; omega, a3⟩
theorem cs_mem {a : Pt} {ds : List Pt} {i : Nat} (h : i < ds.length) : vtx a ds i ∈ cs a ds := by
 unfold cs
 rw [if_neg (by rintro rfl; simp at h)]
 exact mem_vs.2 ⟨i, h, rfl⟩
theorem cs_first {a : Pt} {ds : List Pt} : a ∈ cs a ds := by
 by_cases h : ds = []
 ·subst h; simp [cs]
 ·have := cs_mem (a := a) (i := 0) (List.length_pos_iff.2 h)
  rwa [vtx_zero] at this
theorem two_of {ds : List Pt} (h : Sd ds) (hl : ¬ 3 ≤ ds.length) : ds = [] ∨ ∃ d, ds = [d, neg d] ∧ d ≠ (0, 0) := by
 match ds, hl with
 | [], _ => exact Or.inl rfl
 | [d], _ =>
  exfalso
  have := h.cl
  simp only [sm, add_zero] at this
  exact h.nz d (by simp) this
 | [d, e], _ =>
  right
  have := h.cl
  simp only [sm, add_zero] at this
  refine ⟨d, ?_, h.nz d (by simp)⟩
  have h1 := congrArg Prod.fst this; have h2 := congrArg Prod.snd this
  simp only [add] at h1 h2
  rw [show e = neg d from Prod.ext (by simp only [neg]; omega) (by simp only [neg]; omega)]
 | _ :: _ :: _ :: _, hl => exact absurd (by simp) hl
theorem has_among {a p : Pt} {ds : List Pt} {n : Int} (hs : Sd ds) (hn : 0 < n) (hh : Has a ds n p) : among ((cs a ds).map (tms n)) p := by
 have mm : ∀ {i : Nat}, i < ds.length → tms n (vtx a ds i) ∈ (cs a ds).map (tms n) := fun h => List.mem_map.2 ⟨_, cs_mem h, rfl⟩
 have m0 : tms n a ∈ (cs a ds).map (tms n) := List.mem_map.2 ⟨_, cs_first, rfl⟩
 by_cases hl : 3 ≤ ds.length
 ·obtain ⟨i, h1, h2, h3, h4, h5⟩ := fan hs (by omega) hh hl
  have hc := conv_at (a := a) hs h1 h2
  refine ⟨_, m0, _, mm (show i < ds.length by omega), Or.inr ⟨_, mm h2, ?_, h5, h3, h4⟩⟩
  have : turn (tms n a) (tms n (vtx a ds i)) (tms n (vtx a ds (i + 1))) = n * n * turn a (vtx a ds i) (vtx a ds (i + 1)) := by
   simp only [turn, tms]; grind
  rw [this]
  exact Int.mul_pos (Int.mul_pos hn hn) hc
 ·rcases two_of hs hl with rfl | ⟨d, rfl, hd⟩
  ·have := hh.1 rfl
   subst this
   refine ⟨_, m0, _, m0, Or.inl ⟨?_, ?_, ?_⟩⟩
   ·simp only [turn]; grind
   ·simp
   ·simp
  ·have m1 := mm (i := 1) (by simp)
   have e1 : vtx a [d, neg d] 1 = add a d := by simp [vtx, sm, add]
   rw [e1] at m1
   have hcs : cs a [d, neg d] = [a, add a d] := by simp [cs, vs]
   obtain ⟨-, hsd, b1, b2, b3, b4⟩ := hh
   rw [hcs] at b1 b2 b3 b4
   simp only [List.mem_cons, List.not_mem_nil, or_false, exists_eq_or_imp, exists_eq_left] at b1 b2 b3 b4
   have c1 := hsd a d (by simp [sd])
   have c2 := hsd (add a d) (neg d) (by simp [sd])
   refine ⟨_, m0, _, m1, Or.inl ⟨?_, ?_, ?_⟩⟩
   ·have g1 : cr d (sub p (tms n a)) = 0 := by
     have : cr (neg d) (sub p (tms n (add a d))) = - cr d (sub p (tms n a)) := by simp only [cr, neg, sub, tms, add]; grind
     omega
    have : turn (tms n a) (tms n (add a d)) p = n * cr d (sub p (tms n a)) := by simp only [turn, cr, sub, tms, add]; grind
    rw [this, g1]; simp
   ·show (n * a.1 - p.1) * (n * (a.1 + d.1) - p.1) ≤ 0
    simp only [add] at b1 b2
    rcases b1 with b1 | b1 <;> rcases b2 with b2 | b2
    ·have : n * a.1 - p.1 = 0 := by omega
     rw [this]; simp
    ·exact Int.mul_nonpos_of_nonpos_of_nonneg (by omega) (by omega)
    ·exact Int.mul_nonpos_of_nonneg_of_nonpos (by omega) (by omega)
    ·have : n * (a.1 + d.1) - p.1 = 0 := by omega
     rw [this]; simp
   ·show (n * a.2 - p.2) * (n * (a.2 + d.2) - p.2) ≤ 0
    simp only [add] at b3 b4
    rcases b3 with b1 | b1 <;> rcases b4 with b2 | b2
    ·have : n * a.2 - p.2 = 0 := by omega
     rw [this]; simp
    ·exact Int.mul_nonpos_of_nonpos_of_nonneg (by omega) (by omega)
    ·exact Int.mul_nonpos_of_nonneg_of_nonpos (by omega) (by omega)
    ·have : n * (a.2 + d.2) - p.2 = 0 := by omega
     rw [this]; simp
theorem dt_tms (u v : Pt) (n : Int) : dt u (tms n v) = n * dt u v := by simp only [dt, tms]; grind
theorem sup_of_among {l : List Pt} {p : Pt} {n : Int} (h : among (l.map (tms n)) p) : Sup l n p := by
 intro u
 obtain ⟨v, hv, h1⟩ := among_le h u
 obtain ⟨w, hw, rfl⟩ := List.mem_map.1 hv
 exact ⟨w, hw, by rw [dt_tms] at h1; omega⟩
theorem has_sup {a p : Pt} {ds : List Pt} {n : Int} (hs : Sd ds) (hn : 0 < n) : Has a ds n p ↔ Sup (cs a ds) n p :=
 ⟨fun h => sup_of_among (has_among hs hn h), fun h => has_of hs (by omega) h⟩
theorem has_iff_among {a p : Pt} {ds : List Pt} {n : Int} (hs : Sd ds) (hn : 0 < n) : Has a ds n p ↔ among ((cs a ds).map (tms n)) p :=
 ⟨has_among hs hn, fun h => has_of hs (by omega) (sup_of_among h)⟩
end Go.Geo
end
section
namespace Go.Geo
/-- The last ones that do not go well with a new one are taken away (the last one first). -/
def kp (x : Pt) : List Pt → List Pt
  | b :: a :: r => if 0 < turn a b x then x :: b :: a :: r else kp x (a :: r)
  | [b] => [x, b]
  | [] => [x]
/-- All, one after the other. -/
def chn (l : List Pt) : List Pt := l.foldl (fun s p => kp p s) []
def hullS (l : List Pt) : List Pt := if l.length < 3 then l else (chn l).reverse.dropLast ++ (chn l.reverse).reverse.dropLast
/-- The order of points. -/
def lx (p q : Pt) : Prop := h0 (sub q p) = true
theorem lx_iff {p q : Pt} : lx p q ↔ p.1 < q.1 ∨ p.1 = q.1 ∧ p.2 < q.2 := by
  unfold lx; rw [h0_iff]; simp only [sub]; omega
theorem lx_trans {p q r : Pt} (h1 : lx p q) (h2 : lx q r) : lx p r := by rw [lx_iff] at *; omega
theorem lx_irr {p : Pt} : ¬ lx p p := by rw [lx_iff]; omega
theorem h0_nz {d : Pt} (h : h0 d = true) : d ≠ (0, 0) := by rintro rfl; rw [h0_iff] at h; simp at h
/-- The steps, the last one first. -/
def rs : List Pt → List Pt
  | b :: a :: r => sub b a :: rs (a :: r)
  | _ => []
/-- A lower chain: what has been seen lies on it, or above it. -/
structure LC (st l : List Pt) : Prop where
  dec : st.Pairwise (fun b a => lx a b)
  top : st.head? = l.getLast?
  bot : st.getLast? = l.head?
  mem : ∀ v ∈ st, v ∈ l
  stp : (rs st).Pairwise (fun e d => al d e)
  low : ∀ u : Pt, u.2 ≤ 0 → ∀ p ∈ l, ∃ v ∈ st, dt u p ≤ dt u v
theorem rs_h0 {st : List Pt} (h : st.Pairwise (fun b a => lx a b)) : ∀ d ∈ rs st, h0 d = true := by
  induction st with
  | nil => simp [rs]
  | cons b r ih =>
    cases r with
    | nil => simp [rs]
    | cons a r =>
      rw [List.pairwise_cons] at h
      simp only [rs, List.mem_cons]
      rintro d (rfl | hd)
      · exact h.1 a (by simp)
      · exact ih h.2 d hd
/-- One between two that is not below them: no further down than one of both. -/
theorem drop_le {a b x u : Pt} (h1 : lx a b) (h2 : lx b x) (ht : turn a b x ≤ 0) (hu : u.2 ≤ 0) : dt u b ≤ dt u a ∨ dt u b ≤ dt u x := by
  rw [lx_iff] at h1 h2
  obtain ⟨a1, a2⟩ := a; obtain ⟨b1, b2⟩ := b; obtain ⟨x1, x2⟩ := x; obtain ⟨u1, u2⟩ := u
  simp only [turn, dt] at *
  by_cases hD : a1 = x1
  · left
    have h3 : a1 = b1 := by omega
    subst h3
    have := Int.mul_nonneg (show 0 ≤ -u2 by omega) (show 0 ≤ b2 - a2 by omega)
    grind
  · have hD0 : 0 < x1 - a1 := by omega
    have he0 : 0 ≤ b1 - a1 := by omega
    have he1 : 0 ≤ x1 - b1 := by omega
    have q1 := Int.mul_nonneg (show 0 ≤ -u2 by omega) (show 0 ≤ (b2 - a2) * (x1 - a1) - (b1 - a1) * (x2 - a2) by omega)
    have id1 : (x1 - a1) * (u1 * (b1 - a1) + u2 * (b2 - a2)) = (b1 - a1) * (u1 * (x1 - a1) + u2 * (x2 - a2)) - (-u2) * ((b2 - a2) * (x1 - a1) - (b1 - a1) * (x2 - a2)) := by grind
    rcases Int.le_total (u1 * (x1 - a1) + u2 * (x2 - a2)) 0 with h | h
    · left
      have q2 := Int.mul_nonneg he0 (show 0 ≤ -(u1 * (x1 - a1) + u2 * (x2 - a2)) by omega)
      have : u1 * (b1 - a1) + u2 * (b2 - a2) ≤ 0 := by
        rcases Int.lt_or_le 0 (u1 * (b1 - a1) + u2 * (b2 - a2)) with h3 | h3
        · have := Int.mul_pos hD0 h3
          grind
        · exact h3
      grind
    · right
      have q2 := Int.mul_nonneg he1 h
      have : 0 ≤ (u1 * (x1 - a1) + u2 * (x2 - a2)) - (u1 * (b1 - a1) + u2 * (b2 - a2)) := by
        rcases Int.lt_or_le ((u1 * (x1 - a1) + u2 * (x2 - a2)) - (u1 * (b1 - a1) + u2 * (b2 - a2))) 0 with h3 | h3
        · have := Int.mul_neg_of_pos_of_neg hD0 h3
          grind
        · exact h3
      grind
/-- One more point. -/
theorem kp_ok {x : Pt} {l st : List Pt} (hx : ∀ v ∈ l, lx v x) (hne : st ≠ [])
    (dec : st.Pairwise (fun b a => lx a b)) (bot : st.getLast? = l.head?) (mem : ∀ v ∈ st, v ∈ l) (stp : (rs st).Pairwise (fun e d => al d e))
    (low : ∀ u : Pt, u.2 ≤ 0 → ∀ p ∈ l, dt u p ≤ dt u x ∨ ∃ v ∈ st, dt u p ≤ dt u v) : LC (kp x st) (l ++ [x]) := by
  induction st with
  | nil => exact absurd rfl hne
  | cons b r ih =>
    have hb := mem b (by simp)
    have hlne : l ≠ [] := by rintro rfl; cases hb
    have hhead : (l ++ [x]).head? = l.head? := by cases l with
      | nil => exact absurd rfl hlne
      | cons y l => rfl
    have push : LC (x :: b :: r) (l ++ [x]) ↔ ((rs (x :: b :: r)).Pairwise (fun e d => al d e)) := by
      refine ⟨fun h => h.stp, fun h => ⟨?_, by simp, ?_, ?_, h, ?_⟩⟩
      · exact List.pairwise_cons.2 ⟨fun v hv => hx v (mem v hv), dec⟩
      · rw [hhead, ← bot]; simp
      · intro v hv
        rcases List.mem_cons.1 hv with rfl | hv
        · simp
        · exact List.mem_append_left _ (mem v hv)
      · intro u hu p hp
        rcases List.mem_append.1 hp with hp | hp
        · rcases low u hu p hp with h | ⟨v, hv, h⟩
          · exact ⟨x, by simp, h⟩
          · exact ⟨v, by simp only [List.mem_cons] at hv ⊢; exact Or.inr hv, h⟩
        · rw [List.mem_singleton.1 hp]; exact ⟨x, by simp, by omega⟩
    cases r with
    | nil =>
      simp only [kp]
      exact push.2 (by simp [rs])
    | cons a r =>
      simp only [kp]
      rw [List.pairwise_cons] at dec
      split
      · rename_i ht
        refine push.2 ?_
        have hh := rs_h0 (List.pairwise_cons.2 dec)
        have hxb := hx b hb
        have hab := dec.1 a (by simp)
        have h1 : al (sub b a) (sub x b) := Or.inr ⟨by rw [show h0 (sub b a) = true from hab, show h0 (sub x b) = true from hxb], by simp only [turn] at ht; simp only [cr, sub]; grind⟩
        simp only [rs] at stp hh ⊢
        refine List.pairwise_cons.2 ⟨fun d hd => ?_, stp⟩
        rcases List.mem_cons.1 hd with rfl | hd
        · exact h1
        · have h2 := (List.pairwise_cons.1 stp).1 d hd
          exact al_trans (h0_nz (hh d (by simp [hd]))) (h0_nz hab) (h0_nz hxb) h2 h1
      · rename_i ht
        refine ih (by simp) dec.2 (by rw [← bot]; simp) (fun v hv => mem v (by simp [List.mem_cons.1 hv])) ?_ ?_
        · simp only [rs] at stp; exact (List.pairwise_cons.1 stp).2
        · intro u hu p hp
          rcases low u hu p hp with h | ⟨v, hv, h⟩
          · exact Or.inl h
          · rcases List.mem_cons.1 hv with rfl | hv
            · rcases drop_le (dec.1 a (by simp)) (hx v hb) (by omega) hu with h3 | h3
              · exact Or.inr ⟨a, by simp, by omega⟩
              · exact Or.inl (by omega)
            · exact Or.inr ⟨v, hv, h⟩
theorem chn_ok {l : List Pt} (h : l.Pairwise lx) (hne : l ≠ []) : LC (chn l) l ∧ chn l ≠ [] := by
  have kne : ∀ x st, kp x st ≠ [] := by
    intro x st
    induction st with
    | nil => simp [kp]
    | cons b r ih =>
      cases r with
      | nil => simp [kp]
      | cons a r => simp only [kp]; split
                    · simp
                    · exact ih
  have go : ∀ post pre st, (pre ++ post).Pairwise lx → pre ≠ [] → st ≠ [] → LC st pre → LC (post.foldl (fun s p => kp p s) st) (pre ++ post) ∧ post.foldl (fun s p => kp p s) st ≠ [] := by
    intro post
    induction post with
    | nil => intro pre st _ _ h1 h2; rw [List.append_nil]; exact ⟨h2, h1⟩
    | cons x post ih =>
      intro pre st hp hpre hst hL
      have hp' := List.pairwise_append.1 hp
      have hk := kp_ok (x := x) (l := pre) (st := st) (fun v hv => hp'.2.2 v hv x (by simp)) hst hL.dec hL.bot hL.mem hL.stp (fun u hu p hp => Or.inr (hL.low u hu p hp))
      have := ih (pre ++ [x]) (kp x st) (by simpa using hp) (by simp) (kne x st) hk
      simpa using this
  cases l with
  | nil => exact absurd rfl hne
  | cons x l =>
    have h1 : LC [x] [x] := ⟨by simp, rfl, rfl, by simp, by simp [rs], fun u _ p hp => ⟨p, hp, by omega⟩⟩
    have := go l [x] [x] (by simpa using h) (by simp) (by simp) h1
    simpa [chn, kp] using this
theorem turn_neg (a b c : Pt) : turn (neg a) (neg b) (neg c) = turn a b c := by simp only [turn, neg]; grind
theorem kp_neg (x : Pt) (st : List Pt) : kp (neg x) (st.map neg) = (kp x st).map neg := by
  induction st with
  | nil => rfl
  | cons b r ih =>
    cases r with
    | nil => rfl
    | cons a r =>
      simp only [List.map_cons, kp, turn_neg] at ih ⊢
      split
      · rfl
      · exact ih
theorem chn_neg (l : List Pt) : chn (l.map neg) = (chn l).map neg := by
  have : ∀ l st : List Pt, (l.map neg).foldl (fun s p => kp p s) (st.map neg) = (l.foldl (fun s p => kp p s) st).map neg := by
    intro l
    induction l with
    | nil => intro st; rfl
    | cons x l ih => intro st; rw [List.map_cons, List.foldl_cons, kp_neg, ih, List.foldl_cons]
  exact this l []
theorem neg_neg (p : Pt) : neg (neg p) = p := by simp [neg]
/-- The steps, the first one first. -/
def stp : List Pt → List Pt
  | a :: b :: r => sub b a :: stp (b :: r)
  | _ => []
theorem stp_append (l : List Pt) (a b : Pt) (r : List Pt) : stp (l ++ a :: b :: r) = stp (l ++ [a]) ++ sub b a :: stp (b :: r) := by
  induction l with
  | nil => simp [stp]
  | cons x l ih =>
    cases l with
    | nil => simp [stp]
    | cons y l => simp only [List.cons_append, stp] at ih ⊢; rw [ih]
theorem stp_rev (l : List Pt) : stp l.reverse = (rs l).reverse := by
  induction l with
  | nil => rfl
  | cons b r ih =>
    cases r with
    | nil => rfl
    | cons a r =>
      rw [List.reverse_cons, List.reverse_cons, List.append_assoc, List.singleton_append, stp_append, rs, List.reverse_cons, ← ih, List.reverse_cons]
      simp [stp]
theorem add_sub (a b : Pt) : add a (sub b a) = b := by simp only [add, sub]; exact Prod.ext (by simp only []; omega) (by simp only []; omega)
theorem vs_stp (l : List Pt) (r : List Pt) (a : Pt) : vs a (stp (a :: l) ++ r) = (a :: l).dropLast ++ vs ((a :: l).getLast (by simp)) r := by
  induction l generalizing a with
  | nil => simp [stp]
  | cons b l ih =>
    simp only [stp, List.cons_append, vs]
    rw [add_sub, ih b]
    simp
theorem sm_stp (a : Pt) (l : List Pt) : add a (sm (stp (a :: l))) = (a :: l).getLast (by simp) := by
  induction l generalizing a with
  | nil => simp [stp, sm, add]
  | cons b l ih =>
    simp only [stp, sm]
    rw [← add_assoc, add_sub, ih b]
    simp
end Go.Geo
end
section
namespace Go.Geo
theorem h0_of_rs {st : List Pt} (h : st.Pairwise (fun b a => lx a b)) : ∀ d ∈ stp st.reverse, h0 d = true := by
 intro d hd
 rw [stp_rev, List.mem_reverse] at hd
 exact rs_h0 h d hd
theorem stp_al {st : List Pt} (h : (rs st).Pairwise (fun e d => al d e)) : (stp st.reverse).Pairwise al := by
 rw [stp_rev, List.pairwise_reverse]; exact h
theorem al_neg {d e : Pt} (hd : h0 d = true) (he : h0 e = true) (h : al d e) : al (neg d) (neg e) := by
 rcases h with ⟨_, b⟩ | ⟨_, b⟩
 ·rw [he] at b; cases b
 ·exact Or.inr ⟨by rw [h0_neg (h0_nz hd), h0_neg (h0_nz he), hd, he], by rw [cr_neg]; exact b⟩
theorem stp_neg (l : List Pt) : stp (l.map neg) = (stp l).map neg := by
 induction l with
 | nil => rfl
 | cons b r ih =>
  cases r with
  | nil => rfl
  | cons a r =>
   simp only [List.map_cons, stp] at ih ⊢
   rw [ih]
   congr 1
   simp only [sub, neg]; exact Prod.ext (by simp only []; omega) (by simp only []; omega)
/-- What a hull is. -/
structure IsHull (s : List Pt) (a m : Pt) (ds : List Pt) : Prop where
 sd : Sd ds
 eq : hullS s = cs a ds
 hd : s.head? = some a
 lst : s.getLast? = some m
 sub : ∀ v ∈ cs a ds, v ∈ s
 sup : ∀ p ∈ s, Sup (cs a ds) 1 p
 ma : m ∈ cs a ds
 kind : ∀ v ∈ cs a ds, v = a ∨ v = m ∨ ∃ A d e B, ds = A ++ d :: e :: B ∧ v = add a (sm (A ++ [d])) ∧ h0 d = h0 e
theorem lx_anti {l : List Pt} (h : l.Pairwise lx) : (l.reverse.map neg).Pairwise lx := by
 rw [List.pairwise_map, List.pairwise_reverse]
 refine h.imp fun {a b} hab => ?_
 rw [lx_iff] at *; simp only [neg]; omega
/-- The kinds of corners that two chains have. -/
theorem kind_of {a : Pt} {P Q : List Pt} (hP : ∀ d ∈ P, h0 d = true) (hQ : ∀ d ∈ Q, h0 d = false) {v : Pt} (hv : v ∈ vs a (P ++ Q)) :
  v = a ∨ v = add a (sm P) ∨ ∃ A d e B, P ++ Q = A ++ d :: e :: B ∧ v = add a (sm (A ++ [d])) ∧ h0 d = h0 e := by
 obtain ⟨k, hk, rfl⟩ := mem_vs.1 hv
 rcases Nat.eq_zero_or_pos k with rfl | hk0
 ·left; simp [sm, add]
 right
 by_cases he : k = P.length
 ·left; rw [List.take_left' he.symm]
 right
 refine ⟨(P ++ Q).take (k - 1), (P ++ Q)[k - 1], (P ++ Q)[k], (P ++ Q).drop (k + 1), ?_, ?_, ?_⟩
 ·have e1 : (P ++ Q)[k] :: (P ++ Q).drop (k + 1) = (P ++ Q).drop k := List.getElem_cons_drop hk
  have e2 : (P ++ Q)[k - 1] :: (P ++ Q).drop (k - 1 + 1) = (P ++ Q).drop (k - 1) := List.getElem_cons_drop (by omega)
  rw [e1]
  rw [show k - 1 + 1 = k by omega] at e2
  rw [e2, List.take_append_drop]
 ·rw [← List.take_succ_eq_append_getElem (by omega), show k - 1 + 1 = k by omega]
 ·by_cases h : k < P.length
  ·rw [List.getElem_append_left h, List.getElem_append_left (by omega), hP _ (List.getElem_mem _), hP _ (List.getElem_mem _)]
  ·rw [List.getElem_append_right (by omega), List.getElem_append_right (by omega), hQ _ (List.getElem_mem _), hQ _ (List.getElem_mem _)]
theorem hull_ok {s : List Pt} (h : s.Pairwise lx) (hne : s ≠ []) : ∃ a m ds, IsHull s a m ds := by
 by_cases hl : s.length < 3
 ·match s, hne, hl with
  | [a], _, _ =>
   exact ⟨a, a, [], ⟨⟨by simp, by simp, rfl⟩, by simp [hullS, cs], rfl, rfl, by simp [cs], fun p hp u => ⟨p, by simpa [cs] using hp, by omega⟩, by simp [cs], fun v hv => Or.inl (by simpa [cs] using hv)⟩⟩
  | [a, b], _, _ =>
   have hab : h0 (sub b a) = true := (List.pairwise_cons.1 h).1 b (by simp)
   have hz := h0_nz hab
   have e1 : cs a [sub b a, neg (sub b a)] = [a, b] := by simp [cs, vs, add_sub]
   refine ⟨a, b, [sub b a, neg (sub b a)], ⟨⟨?_, ?_, ?_⟩, ?_, rfl, rfl, ?_, ?_, ?_, ?_⟩⟩
   ·rw [List.pairwise_cons]
    exact ⟨fun e he => Or.inl ⟨hab, by rw [List.mem_singleton.1 he, h0_neg hz, hab]; rfl⟩, by simp⟩
   ·intro d hd
    simp only [List.mem_cons, List.not_mem_nil, or_false] at hd
    rcases hd with rfl | rfl
    ·exact hz
    ·exact neg_nz hz
   ·simp only [sm, add, neg]; exact Prod.ext (by simp only []; omega) (by simp only []; omega)
   ·rw [e1]; rfl
   ·rw [e1]; exact fun v hv => hv
   ·rw [e1]; exact fun p hp u => ⟨p, hp, by omega⟩
   ·rw [e1]; simp
   ·rw [e1]; intro v hv
    simp only [List.mem_cons, List.not_mem_nil, or_false] at hv
    rcases hv with h | h
    ·exact Or.inl h
    ·exact Or.inr (Or.inl h)
  | _ :: _ :: _ :: _, _, hl => exact absurd hl (by simp)
 have hR := lx_anti h
 obtain ⟨L, hL0⟩ := chn_ok h hne
 obtain ⟨U, hU0⟩ := chn_ok hR (by simpa using hne)
 have eU : chn (s.reverse.map neg) = (chn s.reverse).map neg := chn_neg _
 rw [eU] at U hU0
 have hU0' : chn s.reverse ≠ [] := fun e => hU0 (by rw [e]; rfl)
 -- both as lists from their first point on
 obtain ⟨a, L', eL⟩ : ∃ a L', (chn s).reverse = a :: L' := by
  cases hh : (chn s).reverse with
  | nil => exact absurd (List.reverse_eq_nil_iff.1 hh) hL0
  | cons a r => exact ⟨a, r, rfl⟩
 obtain ⟨m, U', eU'⟩ : ∃ m U', (chn s.reverse).reverse = m :: U' := by
  cases hh : (chn s.reverse).reverse with
  | nil => exact absurd (List.reverse_eq_nil_iff.1 hh) hU0'
  | cons a r => exact ⟨a, r, rfl⟩
 have ha : s.head? = some a := by
  rw [← L.bot, ← List.head?_reverse, eL]; rfl
 have hm : s.getLast? = some m := by
  have := U.bot
  rw [List.getLast?_map, List.head?_map, List.head?_reverse, ← List.head?_reverse, eU'] at this
  simp only [List.head?_cons, Option.map_some] at this
  cases hh : s.getLast? with
  | none => rw [hh] at this; cases this
  | some x =>
   rw [hh] at this
   simp only [Option.map_some, Option.some.injEq] at this
   have := congrArg neg this
   rw [neg_neg, neg_neg] at this
   rw [this]
 have lastL : (a :: L').getLast (by simp) = m := by
  have : (a :: L').getLast? = some m := by rw [← eL, List.getLast?_reverse, L.top, hm]
  rw [List.getLast?_eq_some_getLast (by simp)] at this
  exact Option.some.inj this
 have lastU : (m :: U').getLast (by simp) = a := by
  have : (m :: U').getLast? = some a := by
   rw [← eU', List.getLast?_reverse]
   have := U.top
   rw [List.head?_map, List.getLast?_map, List.getLast?_reverse, ha] at this
   cases hh : (chn s.reverse).head? with
   | none => rw [hh] at this; cases this
   | some x =>
    rw [hh] at this
    simp only [Option.map_some, Option.some.injEq] at this
    have := congrArg neg this
    rw [neg_neg, neg_neg] at this
    rw [this]
  rw [List.getLast?_eq_some_getLast (by simp)] at this
  exact Option.some.inj this
 have hP0 : ∀ d ∈ stp (a :: L'), h0 d = true := by rw [← eL]; exact h0_of_rs L.dec
 have hPal : (stp (a :: L')).Pairwise al := by rw [← eL]; exact stp_al L.stp
 have enU : stp (m :: U') = (stp ((chn s.reverse).map neg).reverse).map neg := by
  rw [← List.map_reverse, stp_neg, eU', List.map_map]
  rw [show (neg ∘ neg) = id from funext fun p => neg_neg p, List.map_id]
 have hQ0 : ∀ d ∈ stp (m :: U'), h0 d = false := by
  rw [enU]; intro d hd
  obtain ⟨x, hx, rfl⟩ := List.mem_map.1 hd
  have := h0_of_rs U.dec x hx
  rw [h0_neg (h0_nz this), this]; rfl
 have hQal : (stp (m :: U')).Pairwise al := by
  rw [enU, List.pairwise_map]
  exact (stp_al U.stp).imp_of_mem fun hx hy h => al_neg (h0_of_rs U.dec _ hx) (h0_of_rs U.dec _ hy) h
 have nzU : ∀ d ∈ stp (m :: U'), d ≠ (0, 0) := by
  rw [enU]; intro d hd
  obtain ⟨x, hx, rfl⟩ := List.mem_map.1 hd
  exact neg_nz (h0_nz (h0_of_rs U.dec x hx))
 have hcl : sm (stp (a :: L') ++ stp (m :: U')) = (0, 0) := by
  have h1 := sm_stp a L'
  have h2 := sm_stp m U'
  rw [lastL] at h1; rw [lastU] at h2
  rw [sm_append]
  generalize sm (stp (a :: L')) = x at h1
  generalize sm (stp (m :: U')) = y at h2
  have e1 := congrArg Prod.fst h1; have e2 := congrArg Prod.snd h1
  have e3 := congrArg Prod.fst h2; have e4 := congrArg Prod.snd h2
  simp only [add] at e1 e2 e3 e4 ⊢
  exact Prod.ext (by show x.1 + y.1 = 0; omega) (by show x.2 + y.2 = 0; omega)
 have hSd : Sd (stp (a :: L') ++ stp (m :: U')) := by
  refine ⟨List.pairwise_append.2 ⟨hPal, hQal, fun d hd e he => Or.inl ⟨hP0 d hd, hQ0 e he⟩⟩, ?_, hcl⟩
  intro d hd
  rcases List.mem_append.1 hd with h | h
  ·exact h0_nz (hP0 d h)
  ·exact nzU d h
 -- a is not m, so both chains have steps
 have ham : a ≠ m := by
  rintro rfl
  match s, hl with
  | [], hl => simp at hl
  | [x], hl => simp at hl
  | x :: y :: r, _ =>
   have hx : x = a := by simpa using ha
   subst hx
   have hmem : x ∈ y :: r := by
    have := List.mem_of_getLast? (l := y :: r) (a := x) (by simpa using hm)
    exact this
   exact lx_irr ((List.pairwise_cons.1 h).1 x hmem)
 have hL' : L' ≠ [] := by rintro rfl; exact ham (by simpa using lastL)
 have hU' : U' ≠ [] := by rintro rfl; exact ham (by simpa using lastU.symm)
 have hvs : vs a (stp (a :: L') ++ stp (m :: U')) = (a :: L').dropLast ++ (m :: U').dropLast := by
  rw [vs_stp, lastL]
  have := vs_stp U' [] m
  rw [List.append_nil] at this
  rw [this]; simp [vs]
 have hdne : stp (a :: L') ++ stp (m :: U') ≠ [] := by
  cases hL'' : L' with
  | nil => exact absurd hL'' hL'
  | cons x r => simp [stp]
 have hcs : cs a (stp (a :: L') ++ stp (m :: U')) = (a :: L').dropLast ++ (m :: U').dropLast := by unfold cs; rw [if_neg hdne, hvs]
 have mU : m ∈ (m :: U').dropLast := by
  cases U' with
  | nil => exact absurd rfl hU'
  | cons x r => simp
 have aL : a ∈ (a :: L').dropLast := by
  cases L' with
  | nil => exact absurd rfl hL'
  | cons x r => simp
 have memL : ∀ v ∈ (a :: L'), v ∈ s := fun v hv => L.mem v (by rw [← eL, List.mem_reverse] at hv; exact hv)
 have memU : ∀ v ∈ (m :: U'), v ∈ s := fun v hv => by
  rw [← eU', List.mem_reverse] at hv
  have := U.mem (neg v) (List.mem_map.2 ⟨v, hv, rfl⟩)
  obtain ⟨w, hw, e⟩ := List.mem_map.1 this
  have := congrArg neg e
  rw [neg_neg, neg_neg] at this
  rw [← this]; exact List.mem_reverse.1 hw
 have inL : ∀ v ∈ (a :: L'), v ∈ cs a (stp (a :: L') ++ stp (m :: U')) := fun v hv => by
  rw [hcs]
  have e := List.dropLast_concat_getLast (l := a :: L') (by simp)
  rw [lastL] at e
  rw [← e, List.mem_append] at hv
  rcases hv with h | h
  ·exact List.mem_append_left _ h
  ·rw [List.mem_singleton.1 h]; exact List.mem_append_right _ mU
 have inU : ∀ v ∈ (m :: U'), v ∈ cs a (stp (a :: L') ++ stp (m :: U')) := fun v hv => by
  rw [hcs]
  have e := List.dropLast_concat_getLast (l := m :: U') (by simp)
  rw [lastU] at e
  rw [← e, List.mem_append] at hv
  rcases hv with h | h
  ·exact List.mem_append_right _ h
  ·rw [List.mem_singleton.1 h]; exact List.mem_append_left _ aL
 refine ⟨a, m, stp (a :: L') ++ stp (m :: U'), ⟨hSd, ?_, ha, hm, ?_, ?_, ?_, ?_⟩⟩
 ·unfold hullS; rw [if_neg hl, hcs, eL, eU']
 ·intro v hv
  rw [hcs, List.mem_append] at hv
  rcases hv with h | h
  ·exact memL v (List.dropLast_subset _ h)
  ·exact memU v (List.dropLast_subset _ h)
 ·intro p hp u
  rcases Int.le_total u.2 0 with hu | hu
  ·obtain ⟨v, hv, hle⟩ := L.low u hu p hp
   exact ⟨v, inL v (by rw [← eL]; simpa using hv), by omega⟩
  ·obtain ⟨v, hv, hle⟩ := U.low (neg u) (by simp only [neg]; omega) (neg p) (List.mem_map.2 ⟨p, by simpa using hp, rfl⟩)
   obtain ⟨w, hw, rfl⟩ := List.mem_map.1 hv
   refine ⟨w, inU w (by rw [← eU']; simpa using hw), ?_⟩
   simp only [dt, neg] at hle ⊢; grind
 ·exact inU m (by simp)
 ·intro v hv
  unfold cs at hv
  rw [if_neg hdne] at hv
  have := kind_of hP0 hQ0 hv
  rwa [sm_stp, lastL] at this
end Go.Geo
end
section
namespace Go.Geo
theorem turn_cr (a b c : Pt) : turn a b c = cr (sub b a) (sub c a) := by simp only [turn, cr, sub]
theorem ord_turn {a : Pt} {ds : List Pt} (h : Sd ds) (hlx : ∀ i, 1 ≤ i → i < ds.length → lx a (vtx a ds i)) {i j : Nat} (h1 : 1 ≤ i) (h2 : i < j) (h3 : j < ds.length) :
  0 < turn a (vtx a ds i) (vtx a ds j) := by
 induction j with
 | zero => omega
 | succ j ih =>
  have hc := conv_at (a := a) h (i := j) (by omega) (by omega)
  by_cases e : i = j
  ·subst e; exact hc
  ·have h4 := ih (by omega) (by omega)
   rw [turn_cr] at hc h4 ⊢
   exact (tr0 (hlx i (by omega) (by omega)) (hlx j (by omega) (by omega)) (hlx (j + 1) (by omega) (by omega)) (by omega) (by omega)).2 (Or.inl h4)
theorem vtx_ne {a : Pt} {ds : List Pt} (h : Sd ds) {i : Nat} (h1 : 1 ≤ i) (h2 : i < ds.length) : vtx a ds i ≠ a := by
 intro e
 by_cases hl : 3 ≤ ds.length
 ·by_cases h3 : i + 1 < ds.length
  ·have := conv_at (a := a) h h1 h3
   rw [e] at this; simp only [turn] at this; grind
  ·have h4 : 1 ≤ i - 1 := by omega
   have := conv_at (a := a) h h4 (by omega)
   rw [show i - 1 + 1 = i by omega, e] at this; simp only [turn] at this; grind
 ·rcases two_of h hl with rfl | ⟨d, rfl, hd⟩
  ·simp at h2
  ·have : i = 1 := by simp at h2; omega
   subst this
   have e1 : vtx a [d, neg d] 1 = add a d := by simp [vtx, sm, add]
   rw [e1] at e
   have e2 := congrArg Prod.fst e; have e3 := congrArg Prod.snd e
   simp only [add] at e2 e3
   exact hd (Prod.ext (by show d.1 = 0; omega) (by show d.2 = 0; omega))
/-- The corners after the first one. -/
theorem cs_cons {a : Pt} {ds : List Pt} : ∃ T, cs a ds = a :: T ∧ ∀ v, v ∈ T ↔ ∃ i, 1 ≤ i ∧ i < ds.length ∧ v = vtx a ds i := by
 unfold cs
 cases ds with
 | nil => exact ⟨[], by simp, by simp⟩
 | cons d r =>
  refine ⟨vs (add a d) r, by simp [vs], fun v => ?_⟩
  rw [mem_vs]
  constructor
  ·rintro ⟨k, hk, rfl⟩
   exact ⟨k + 1, by omega, by simpa using hk, by simp [vtx, List.take_succ_cons, sm, add_assoc]⟩
  ·rintro ⟨i, h1, h2, rfl⟩
   obtain ⟨k, rfl⟩ : ∃ k, i = k + 1 := ⟨i - 1, by omega⟩
   exact ⟨k, by simpa using h2, by simp [vtx, List.take_succ_cons, sm, add_assoc]⟩
def Rt (a v w : Pt) : Prop := 0 < turn a v w
theorem tail_sorted {a : Pt} {ds : List Pt} (h : Sd ds) (hlx : ∀ v ∈ cs a ds, v = a ∨ lx a v) {T : List Pt} (hT : cs a ds = a :: T) :
  T.Pairwise (Rt a) ∧ a ∉ T ∧ T.Nodup := by
 have hv : ∀ i, 1 ≤ i → i < ds.length → lx a (vtx a ds i) := fun i h1 h2 => by
  rcases hlx _ (cs_mem h2) with h3 | h3
  ·exact absurd h3 (vtx_ne h h1 h2)
  ·exact h3
 have hp : T.Pairwise (Rt a) := by
  cases ds with
  | nil => simp only [cs, if_true, List.cons.injEq, true_and] at hT; rw [← hT]; exact .nil
  | cons d r =>
   have hT' : T = vs (add a d) r := by simp only [cs, vs] at hT; simp at hT; exact hT.symm
   rw [hT', List.pairwise_iff_getElem]
   intro i j hi hj hij
   rw [vs_len] at hi hj
   rw [vs_get hi, vs_get hj]
   have e : ∀ k, vtx (add a d) r k = vtx a (d :: r) (k + 1) := fun k => by simp [vtx, List.take_succ_cons, sm, add_assoc]
   rw [e, e]
   exact ord_turn h hv (by omega) (by omega) (by simp; omega)
 refine ⟨hp, ?_, ?_⟩
 ·intro ha
  obtain ⟨T', e1, e2⟩ := cs_cons (a := a) (ds := ds)
  rw [hT] at e1
  obtain rfl : T = T' := (List.cons.inj e1).2
  obtain ⟨i, h1, h2, h3⟩ := (e2 a).1 ha
  exact vtx_ne h h1 h2 h3.symm
 ·refine hp.imp fun {v w} hvw e => ?_
  subst e
  unfold Rt at hvw; simp only [turn] at hvw; grind
theorem cs_uniq {a : Pt} {ds es : List Pt} (h : Sd ds) (h' : Sd es) (hlx : ∀ v ∈ cs a ds, v = a ∨ lx a v) (hm : ∀ v, v ∈ cs a ds ↔ v ∈ cs a es) : cs a ds = cs a es := by
 obtain ⟨T, e1, -⟩ := cs_cons (a := a) (ds := ds)
 obtain ⟨T', e1', -⟩ := cs_cons (a := a) (ds := es)
 obtain ⟨p1, n1, d1⟩ := tail_sorted h hlx e1
 obtain ⟨p2, n2, d2⟩ := tail_sorted h' (fun v hv => hlx v ((hm v).2 hv)) e1'
 rw [e1, e1']
 congr 1
 refine List.Perm.eq_of_pairwise (le := Rt a) ?_ p1 p2 ((List.perm_ext_iff_of_nodup d1 d2).2 fun v => ?_)
 ·intro v w _ _ h1 h2
  unfold Rt at h1 h2
  simp only [turn] at h1 h2
  exfalso; grind
 ·rw [e1, e1'] at hm
  have := hm v
  simp only [List.mem_cons] at this
  constructor
  ·intro hv
   rcases this.1 (Or.inr hv) with rfl | h
   ·exact absurd hv n1
   ·exact h
  ·intro hv
   rcases this.2 (Or.inr hv) with rfl | h
   ·exact absurd hv n2
   ·exact h
theorem cs_nodup {a : Pt} {ds : List Pt} (h : Sd ds) (hlx : ∀ v ∈ cs a ds, v = a ∨ lx a v) : (cs a ds).Nodup := by
 obtain ⟨T, e1, -⟩ := cs_cons (a := a) (ds := ds)
 obtain ⟨-, n1, d1⟩ := tail_sorted h hlx e1
 rw [e1, List.nodup_cons]; exact ⟨n1, d1⟩
/-- A corner between two sides that turn less than half: there is a direction in which it alone is most. -/
theorem extreme {a d e : Pt} {A B : List Pt} (h : Sd (A ++ d :: e :: B)) (he : h0 d = h0 e) :
  ∃ u, ∀ w ∈ cs a (A ++ d :: e :: B), dt u (add a (sm (A ++ [d]))) ≤ dt u w → w = add a (sm (A ++ [d])) := by
 have hpw := h.srt
 rw [List.pairwise_append, List.pairwise_cons] at hpw
 have hde : 0 < cr d e := by
  rcases hpw.2.1.1 e (by simp) with ⟨a, b⟩ | ⟨a, b⟩
  ·rw [← he, a] at b; cases b
  ·exact b
 refine ⟨add (out d) (out e), fun w hw hle => ?_⟩
 have l1 := left_of (a := a) (v := add a (sm A)) (d := d) h (mem_sd.2 ⟨A, e :: B, rfl, rfl⟩) hw
 have l2 := left_of (a := a) (v := add a (sm (A ++ [d]))) (d := e) h (mem_sd.2 ⟨A ++ [d], B, by simp, rfl⟩) hw
 rw [sm_append] at l2 hle ⊢
 generalize sm A = x at l1 l2 hle ⊢
 obtain ⟨a1, a2⟩ := a; obtain ⟨d1, d2⟩ := d; obtain ⟨e1, e2⟩ := e; obtain ⟨w1, w2⟩ := w; obtain ⟨x1, x2⟩ := x
 simp only [sm, add, sub, cr, dt, out, Int.add_zero] at *
 obtain ⟨X, rfl⟩ : ∃ X, w1 = a1 + (x1 + d1) + X := ⟨w1 - (a1 + (x1 + d1)), by omega⟩
 obtain ⟨Y, rfl⟩ : ∃ Y, w2 = a2 + (x2 + d2) + Y := ⟨w2 - (a2 + (x2 + d2)), by omega⟩
 have l1' : 0 ≤ d1 * Y - d2 * X := by
  have : d1 * (a2 + (x2 + d2) + Y - (a2 + x2)) - d2 * (a1 + (x1 + d1) + X - (a1 + x1)) = d1 * Y - d2 * X := by grind
  omega
 have l2' : 0 ≤ e1 * Y - e2 * X := by
  have : e1 * (a2 + (x2 + d2) + Y - (a2 + (x2 + d2))) - e2 * (a1 + (x1 + d1) + X - (a1 + (x1 + d1))) = e1 * Y - e2 * X := by grind
  omega
 have l3' : (d1 * Y - d2 * X) + (e1 * Y - e2 * X) ≤ 0 := by
  have : (d2 + e2) * (a1 + (x1 + d1) + X) + (-d1 + -e1) * (a2 + (x2 + d2) + Y) - ((d2 + e2) * (a1 + (x1 + d1)) + (-d1 + -e1) * (a2 + (x2 + d2))) = -((d1 * Y - d2 * X) + (e1 * Y - e2 * X)) := by grind
  omega
 have k1 : d1 * Y - d2 * X = 0 := by omega
 have k2 : e1 * Y - e2 * X = 0 := by omega
 have q1 : (d1 * e2 - d2 * e1) * X = 0 := by
  have : (d1 * e2 - d2 * e1) * X = e1 * (d1 * Y - d2 * X) - d1 * (e1 * Y - e2 * X) := by grind
  rw [this, k1, k2]; simp
 have q2 : (d1 * e2 - d2 * e1) * Y = 0 := by
  have : (d1 * e2 - d2 * e1) * Y = e2 * (d1 * Y - d2 * X) - d2 * (e1 * Y - e2 * X) := by grind
  rw [this, k1, k2]; simp
 have r1 : X = 0 := by
  rcases Int.mul_eq_zero.1 q1 with h | h
  ·omega
  ·exact h
 have r2 : Y = 0 := by
  rcases Int.mul_eq_zero.1 q2 with h | h
  ·omega
  ·exact h
 subst r1; subst r2
 simp
theorem head_min {s : List Pt} {a v : Pt} (h : s.Pairwise lx) (ha : s.head? = some a) (hv : v ∈ s) : v = a ∨ lx a v := by
 cases s with
 | nil => cases hv
 | cons b r =>
  simp only [List.head?_cons, Option.some.injEq] at ha; subst ha
  rcases List.mem_cons.1 hv with rfl | hv
  ·exact Or.inl rfl
  ·exact Or.inr ((List.pairwise_cons.1 h).1 v hv)
theorem last_max {s : List Pt} {a v : Pt} (h : s.Pairwise lx) (ha : s.getLast? = some a) (hv : v ∈ s) : v = a ∨ lx v a := by
 obtain ⟨r, rfl⟩ := List.getLast?_eq_some_iff.1 ha
 rw [List.pairwise_append] at h
 rcases List.mem_append.1 hv with hv | hv
 ·exact Or.inr (h.2.2 v hv a (by simp))
 ·exact Or.inl (List.mem_singleton.1 hv)
theorem lx_asymm {a b : Pt} (h1 : lx a b) (h2 : lx b a) : False := lx_irr (lx_trans h1 h2)
theorem hull_min {s : List Pt} {a m : Pt} {ds : List Pt} (h : s.Pairwise lx) (hh : IsHull s a m ds) : ∀ v ∈ cs a ds, v = a ∨ lx a v :=
 fun v hv => head_min h hh.hd (hh.sub v hv)
theorem hull_hull {s s' : List Pt} {a m : Pt} {ds : List Pt} (h : s.Pairwise lx) (hh : IsHull s a m ds) (h' : s'.Pairwise lx) (hm : ∀ v, v ∈ s' ↔ v ∈ cs a ds) :
  hullS s' = cs a ds := by
 have hne : s' ≠ [] := fun e => by
  have := (hm a).2 cs_first
  rw [e] at this; cases this
 obtain ⟨a', m', es, hh'⟩ := hull_ok h' hne
 have ea : a' = a := by
  have h1 : a' ∈ s := hh.sub _ ((hm a').1 (hh'.sub _ cs_first))
  have h2 : a ∈ s' := (hm a).2 cs_first
  rcases head_min h hh.hd h1 with e | e
  ·exact e
  ·rcases head_min h' hh'.hd h2 with e' | e'
   ·exact e'.symm
   ·exact (lx_asymm e e').elim
 have em : m' = m := by
  have h1 : m' ∈ s := hh.sub _ ((hm m').1 (hh'.sub _ hh'.ma))
  have h2 : m ∈ s' := (hm m).2 hh.ma
  rcases last_max h hh.lst h1 with e | e
  ·exact e
  ·rcases last_max h' hh'.lst h2 with e' | e'
   ·exact e'.symm
   ·exact (lx_asymm e e').elim
 subst ea; subst em
 rw [hh'.eq]
 refine (cs_uniq hh.sd hh'.sd (hull_min h hh) fun v => ⟨fun hv => ?_, fun hv => (hm v).1 (hh'.sub v hv)⟩).symm
 rcases hh.kind v hv with rfl | rfl | ⟨A, d, e, B, rfl, rfl, he⟩
 ·exact cs_first
 ·exact hh'.ma
 ·obtain ⟨u, hu⟩ := extreme (a := a') hh.sd he
  obtain ⟨w, hw, hle⟩ := hh'.sup _ ((hm _).2 hv) u
  rw [← hu w ((hm w).1 (hh'.sub w hw)) (by omega)]
  exact hw
end Go.Geo
end
section
namespace Go.Geo
/-- Of one direction. -/
def sam (d e : Pt) : Prop := h0 d = h0 e ∧ cr d e = 0
instance (d e : Pt) : Decidable (sam d e) := inferInstanceAs (Decidable (_ ∧ _))
theorem tri (d e : Pt) : al d e ∨ sam d e ∨ al e d := by
 unfold al sam
 rw [cr_swap e d]
 cases h0 d <;> cases h0 e <;> simp <;> omega
theorem sam_symm {d e : Pt} (h : sam d e) : sam e d := ⟨h.1.symm, by rw [cr_swap]; have := h.2; omega⟩
theorem sam_self (d : Pt) : sam d d := ⟨rfl, cr_self d⟩
theorem not_al_sam {d e : Pt} (h : sam d e) : ¬ al d e := by
 rintro (⟨a, b⟩ | ⟨a, b⟩)
 ·rw [h.1, b] at a; cases a
 ·rw [h.2] at b; omega
theorem sam_trans {d e f : Pt} (zd : d ≠ (0, 0)) (ze : e ≠ (0, 0)) (zf : f ≠ (0, 0)) (h1 : sam d e) (h2 : sam e f) : sam d f := by
 have a := (tr1 zd ze zf h1.1 h2.1 (by rw [h1.2]; omega) (by rw [h2.2]; omega)).1
 have h1' := sam_symm h1
 have h2' := sam_symm h2
 have b := (tr1 zf ze zd h2'.1 h1'.1 (by rw [h2'.2]; omega) (by rw [h1'.2]; omega)).1
 rw [cr_swap] at b
 exact ⟨h1.1.trans h2.1, by omega⟩
theorem sam_al {d e f : Pt} (zd : d ≠ (0, 0)) (ze : e ≠ (0, 0)) (zf : f ≠ (0, 0)) (h1 : sam d e) (h2 : al e f) : al d f := by
 rcases h2 with ⟨a, b⟩ | ⟨a, b⟩
 ·exact Or.inl ⟨by rw [h1.1]; exact a, b⟩
 ·exact Or.inr ⟨by rw [h1.1]; exact a, (tr1 zd ze zf h1.1 a (by rw [h1.2]; omega) (by omega)).2 (Or.inr b)⟩
theorem al_sam {d e f : Pt} (zd : d ≠ (0, 0)) (ze : e ≠ (0, 0)) (zf : f ≠ (0, 0)) (h1 : al d e) (h2 : sam e f) : al d f := by
 rcases h1 with ⟨a, b⟩ | ⟨a, b⟩
 ·exact Or.inl ⟨a, by rw [← h2.1]; exact b⟩
 ·exact Or.inr ⟨by rw [a]; exact h2.1, (tr1 zd ze zf a h2.1 (by omega) (by rw [h2.2]; omega)).2 (Or.inl b)⟩
theorem S_sam {t d e : Pt} (zt : t ≠ (0, 0)) (zd : d ≠ (0, 0)) (ze : e ≠ (0, 0)) (h : sam d e) : S t d = S t e := by
 have key : ∀ {d e : Pt}, d ≠ (0, 0) → e ≠ (0, 0) → sam d e → S t e = true → S t d = true := by
  intro d e zd ze h hS
  rw [S_iff] at hS ⊢
  rcases hS with ⟨a, b⟩ | ⟨a, b⟩
  ·exact Or.inl ⟨by rw [h.1]; exact a, b⟩
  ·exact Or.inr ⟨by rw [h.1]; exact a, (tr1 zd ze zt h.1 a (by rw [h.2]; omega) b).1⟩
 cases h1 : S t e with
 | true => exact key zd ze h h1
 | false =>
  cases h2 : S t d with
  | false => rfl
  | true => rw [key ze zd (sam_symm h) h2] at h1; cases h1
theorem sam_add {d e : Pt} (zd : d ≠ (0, 0)) (ze : e ≠ (0, 0)) (h : sam d e) : sam (add d e) d ∧ add d e ≠ (0, 0) := by
 have hd : d.1 ≠ 0 ∨ d.2 ≠ 0 := by
  rcases d with ⟨x, y⟩
  simp only [ne_eq, Prod.mk.injEq, not_and] at zd
  by_cases hx : x = 0
  ·right; exact zd hx
  ·left; exact hx
 have he : e.1 ≠ 0 ∨ e.2 ≠ 0 := by
  rcases e with ⟨x, y⟩
  simp only [ne_eq, Prod.mk.injEq, not_and] at ze
  by_cases hx : x = 0
  ·right; exact ze hx
  ·left; exact hx
 have h2 := h.2
 cases hh : h0 d with
 | true =>
  have h3 := h.1.symm.trans hh
  have a1 := h0_iff.1 hh
  have a2 := h0_iff.1 h3
  have a3 : h0 (add d e) = true := h0_iff.2 (by simp only [add]; omega)
  refine ⟨⟨by rw [a3, hh], by simp only [cr, add] at h2 ⊢; grind⟩, fun z => ?_⟩
  rw [z] at a3; rw [h0_iff] at a3; simp at a3
 | false =>
  have h3 := h.1.symm.trans hh
  have a1 := h0_not.1 hh
  have a2 := h0_not.1 h3
  have a3 : h0 (add d e) = false := h0_not.2 (by simp only [add]; omega)
  refine ⟨⟨by rw [a3, hh], by simp only [cr, add] at h2 ⊢; grind⟩, fun z => ?_⟩
  simp only [add, Prod.mk.injEq] at z
  omega
theorem mF_append (u : Pt) (A B : List Pt) : mF u (A ++ B) = mF u A + mF u B := by
 simp [mF, List.filter_append, List.map_append, List.sum_append]
theorem sumI_perm {A B : List Int} (h : A.Perm B) : A.sum = B.sum := by
 induction h with
 | nil => rfl
 | cons x _ ih => rw [List.sum_cons, List.sum_cons, ih]
 | swap x y l => simp only [List.sum_cons]; omega
 | trans _ _ h1 h2 => rw [h1, h2]
theorem mF_perm {u : Pt} {A B : List Pt} (h : A.Perm B) : mF u A = mF u B := by
 unfold mF
 exact sumI_perm ((h.filter _).map _)
theorem mF_zero (A : List Pt) : mF (0, 0) A = 0 := by
 unfold mF
 have hz : ∀ l : List Pt, (l.map (dt (0, 0))).sum = 0 := by
  intro l; induction l with
  | nil => rfl
  | cons a b ih => rw [List.map_cons, List.sum_cons, ih]; simp [dt]
 exact hz _
theorem sm_perm {A B : List Pt} (h : A.Perm B) : sm A = sm B := by
 induction h with
 | nil => rfl
 | cons x _ ih => rw [sm, sm, ih]
 | swap x y l => simp only [sm, add]; exact Prod.ext (by simp only []; omega) (by simp only []; omega)
 | trans _ _ h1 h2 => rw [h1, h2]
/-- One more side: the last one goes on, or a new one begins ('R': the last one first). -/
def gstep (s : List Pt × Pt) (d : Pt) : List Pt × Pt :=
 (if s.2 ≠ (0, 0) ∧ sam s.2 d then (match s.1 with | e :: r => add e d :: r | [] => [d]) else d :: s.1, d)
structure GI (l R : List Pt) (last : Pt) : Prop where
 emp : l = [] → R = [] ∧ last = (0, 0)
 hd : l ≠ [] → last ∈ l ∧ ∃ e t, R = e :: t ∧ sam e last
 srt : R.Pairwise (fun e d => al d e)
 nz : ∀ d ∈ R, d ≠ (0, 0)
 sum : sm R.reverse = sm l
 mf : ∀ u, mF u R.reverse = mF u l
theorem gi_nil : GI [] [] (0, 0) := ⟨fun _ => ⟨rfl, rfl⟩, fun h => (h rfl).elim, .nil, by simp, rfl, fun _ => rfl⟩
theorem gi_step {l R : List Pt} {last d : Pt} (h : GI l R last) (nz : ∀ x ∈ l, x ≠ (0, 0)) (zd : d ≠ (0, 0)) (hs : ∀ x ∈ l, ¬ al d x) : GI (l ++ [d]) (gstep (R, last) d).1 (gstep (R, last) d).2 := by
 unfold gstep
 simp only
 by_cases hl : l = []
 ·subst hl
  obtain ⟨rfl, rfl⟩ := h.emp rfl
  rw [if_neg (fun h => h.1 rfl)]
  exact ⟨fun h => by simp at h, fun _ => ⟨by simp, d, [], rfl, sam_self d⟩, by simp, by simpa using zd, rfl, fun _ => rfl⟩
 ·obtain ⟨hm, e, t, rfl, hel⟩ := h.hd hl
  have zl := nz _ hm
  have ze := h.nz e (by simp)
  have hp := List.pairwise_cons.1 h.srt
  have hsum := h.sum
  rw [List.reverse_cons] at hsum
  have hmf : ∀ u, mF u (t.reverse ++ [e]) = mF u l := fun u => by have := h.mf u; rwa [List.reverse_cons] at this
  by_cases hsd : sam last d
  ·rw [if_pos ⟨zl, hsd⟩]
   have hed := sam_trans ze zl zd hel hsd
   obtain ⟨s1, s2⟩ := sam_add ze zd hed
   refine ⟨fun h => by simp at h, fun _ => ⟨by simp, _, _, rfl, sam_trans s2 ze zd s1 hed⟩, List.pairwise_cons.2 ⟨fun x hx => al_sam (h.nz x (by simp [hx])) ze s2 (hp.1 x hx) (sam_symm s1), hp.2⟩,
    fun x hx => ?_, ?_, fun u => ?_⟩
   ·rcases List.mem_cons.1 hx with rfl | hx
    ·exact s2
    ·exact h.nz x (by simp [hx])
   ·rw [List.reverse_cons, sm_append, sm_append, ← hsum, sm_append, add_assoc]
    simp [sm, add]
   ·rw [List.reverse_cons, mF_append, mF_append, ← hmf, mF_append, Int.add_assoc]
    congr 1
    by_cases hu : u = (0, 0)
    ·subst hu; rw [mF_zero, mF_zero, mF_zero]; rfl
    have zt := rot_nz hu
    have e1 := S_sam zt s2 ze s1
    have e2 := S_sam zt ze zd hed
    simp only [mF, List.filter_cons, List.filter_nil, e1, ← e2]
    cases S (rot u) e <;> simp [dt_add]
  ·rw [if_neg (fun h => hsd h.2)]
   have hald : al last d := by
    rcases tri last d with h1 | h1 | h1
    ·exact h1
    ·exact (hsd h1).elim
    ·exact (hs _ hm h1).elim
   have hed := sam_al ze zl zd hel hald
   refine ⟨fun h => by simp at h, fun _ => ⟨by simp, _, _, rfl, sam_self d⟩, List.pairwise_cons.2 ⟨fun x hx => ?_, h.srt⟩, fun x hx => ?_, ?_, fun u => ?_⟩
   ·rcases List.mem_cons.1 hx with rfl | hx
    ·exact hed
    ·exact al_trans (h.nz x (by simp [hx])) ze zd (hp.1 x hx) hed
   ·rcases List.mem_cons.1 hx with rfl | hx
    ·exact zd
    ·exact h.nz x hx
   ·rw [List.reverse_cons, sm_append, sm_append, h.sum]
   ·rw [List.reverse_cons, mF_append, mF_append, h.mf u]
/-- All sides, put together. -/
def grp (l : List Pt) : List Pt × Pt := l.foldl gstep ([], (0, 0))
theorem grp_snoc (l : List Pt) (d : Pt) : grp (l ++ [d]) = gstep (grp l) d := by simp [grp, List.foldl_append]
theorem grp_ok {l : List Pt} (nz : ∀ x ∈ l, x ≠ (0, 0)) (hs : l.Pairwise (fun x y => ¬ al y x)) : GI l (grp l).1 (grp l).2 := by
 have key : ∀ n (k : List Pt), k.length = n → (∀ x ∈ k, x ≠ (0, 0)) → k.Pairwise (fun x y => ¬ al y x) → GI k (grp k).1 (grp k).2 := by
  intro n
  induction n with
  | zero => intro k hk _ _; rw [List.length_eq_zero_iff.1 hk]; exact gi_nil
  | succ n ih =>
   intro k hk hn hp
   have hne : k ≠ [] := fun e => by rw [e] at hk; simp at hk
   have e := List.dropLast_concat_getLast hne
   have hl : k.dropLast.length = n := by rw [List.length_dropLast]; omega
   rw [← e] at hn hp ⊢
   rw [List.pairwise_append] at hp
   rw [grp_snoc]
   have h := ih _ hl (fun x hx => hn x (List.mem_append_left _ hx)) hp.1
   exact gi_step h (fun x hx => hn x (List.mem_append_left _ hx)) (hn _ (by simp)) (fun x hx => hp.2.2 x hx _ (by simp))
 exact key _ l rfl nz hs
/-- The sum's sides. -/
def sds (l : List Pt) : List Pt := (grp l).1.reverse
theorem sds_ok {l : List Pt} (nz : ∀ x ∈ l, x ≠ (0, 0)) (hs : l.Pairwise (fun x y => ¬ al y x)) (h0 : sm l = (0, 0)) :
  Sd (sds l) ∧ (∀ u, mF u (sds l) = mF u l) ∧ (sds l = [] ↔ l = []) := by
 have h := grp_ok nz hs
 refine ⟨⟨List.pairwise_reverse.2 h.srt, fun d hd => h.nz d (by simpa [sds] using hd), h.sum.trans h0⟩, h.mf, ?_, fun e => by rw [sds, (h.emp e).1]; rfl⟩
 intro e
 by_cases hl : l = []
 ·exact hl
 ·obtain ⟨-, a, t, h1, -⟩ := h.hd hl
  rw [sds, h1] at e; simp at e
/-- All corners, and the end. -/
def chain (a : Pt) (ds : List Pt) : List Pt := vs a ds ++ [add a (sm ds)]
theorem vs_snoc (a : Pt) (ds : List Pt) (d : Pt) : vs a (ds ++ [d]) = vs a ds ++ [add a (sm ds)] := by
 induction ds generalizing a with
 | nil => simp [vs, sm, add]
 | cons e r ih => simp only [List.cons_append, vs, ih, sm, add_assoc]
theorem chain_snoc (a : Pt) (ds : List Pt) (d : Pt) : chain a (ds ++ [d]) = chain a ds ++ [add (add a (sm ds)) d] := by
 simp only [chain, vs_snoc, sm_append, sm, add_zero, add_assoc]
/-- A step of the sum's corners. -/
theorem chain_step {a : Pt} {l : List Pt} {d : Pt} (nz : ∀ x ∈ l, x ≠ (0, 0)) (hs : l.Pairwise (fun x y => ¬ al y x)) :
  chain a (sds (l ++ [d])) = if (grp l).2 ≠ (0, 0) ∧ sam (grp l).2 d then (chain a (sds l)).dropLast ++ [add (add a (sm l)) d] else chain a (sds l) ++ [add (add a (sm l)) d] := by
 have h := grp_ok nz hs
 unfold sds
 rw [grp_snoc]
 unfold gstep
 simp only
 have hsum := h.sum
 by_cases hc : (grp l).2 ≠ (0, 0) ∧ sam (grp l).2 d
 ·rw [if_pos hc, if_pos hc]
  by_cases hl : l = []
  ·exact (hc.1 (h.emp hl).2).elim
  ·obtain ⟨-, e, t, h1, -⟩ := h.hd hl
   rw [h1] at hsum ⊢
   rw [List.reverse_cons] at hsum
   simp only [List.reverse_cons, chain_snoc]
   rw [← hsum, sm_append, List.dropLast_concat]
   simp [sm, add, Int.add_assoc]
 ·rw [if_neg hc, if_neg hc, List.reverse_cons, chain_snoc, hsum]
/-- Where the corners' list ends: without the end, which is the beginning. -/
theorem chain_last {a : Pt} {ds : List Pt} (h : ds ≠ []) : (chain a ds).dropLast = cs a ds := by simp [chain, cs, h]
theorem mem_chain {a v : Pt} {ds : List Pt} (h : Sd ds) : v ∈ chain a ds ↔ v ∈ cs a ds := by
 unfold chain cs
 rw [h.cl]
 split
 ·rename_i e; subst e; simp [vs, add]
 ·rename_i hne
  simp only [List.mem_append, List.mem_singleton]
  constructor
  ·rintro (h | rfl)
   ·exact h
   ·cases ds with
    | nil => exact (hne rfl).elim
    | cons d r => simp [vs, add]
  ·exact Or.inl
end Go.Geo
end
section
namespace Go.Geo
/-- One of each list. -/
def Sel : List Pt → List (List Pt) → Prop
 | [], [] => True
 | p :: ps, l :: U => p ∈ l ∧ Sel ps U
 | _, _ => False
def sumsA (out : List Pt) (U : List (List Pt)) : List Pt := U.foldl (fun out l => out.flatMap fun p => l.map fun q => add p q) out
def sums (U : List (List Pt)) : List Pt := sumsA [(0, 0)] U
theorem mem_sumsA {v : Pt} {U : List (List Pt)} : ∀ {out : List Pt}, v ∈ sumsA out U ↔ ∃ o ∈ out, ∃ ps, Sel ps U ∧ v = add o (sm ps) := by
 induction U with
 | nil =>
  intro out
  simp only [sumsA, List.foldl_nil]
  constructor
  ·exact fun h => ⟨v, h, [], trivial, by simp [sm, add]⟩
  ·rintro ⟨o, ho, ps, hs, rfl⟩
   cases ps with
   | nil => simpa [sm, add] using ho
   | cons => exact hs.elim
 | cons l U ih =>
  intro out
  rw [sumsA, List.foldl_cons]
  refine (ih (out := out.flatMap fun p => l.map fun q => add p q)).trans ⟨?_, ?_⟩
  ·rintro ⟨o, ho, ps, hs, rfl⟩
   obtain ⟨p, hp, ho⟩ := List.mem_flatMap.1 ho
   obtain ⟨q, hq, rfl⟩ := List.mem_map.1 ho
   exact ⟨p, hp, q :: ps, ⟨hq, hs⟩, by rw [sm, add_assoc]⟩
  ·rintro ⟨o, ho, ps, hs, rfl⟩
   cases ps with
   | nil => exact hs.elim
   | cons q ps => exact ⟨add o q, List.mem_flatMap.2 ⟨o, ho, List.mem_map.2 ⟨q, hs.1, rfl⟩⟩, ps, hs.2, by rw [sm, add_assoc]⟩
theorem zero_add (p : Pt) : add (0, 0) p = p := by simp [add]
theorem mem_sums {v : Pt} {U : List (List Pt)} : v ∈ sums U ↔ ∃ ps, Sel ps U ∧ v = sm ps := by
 rw [sums, mem_sumsA]
 simp [zero_add]
/-- Polygons: their first corners, and sides. -/
abbrev Pol := Pt × List Pt
def mxU (u : Pt) (U : List Pol) : Int := (U.map fun x => dt u x.1 + mF u x.2).sum
def csU (U : List Pol) : List (List Pt) := U.map fun x => cs x.1 x.2
theorem sel_le {u : Pt} {U : List Pol} (h : ∀ x ∈ U, Sd x.2) : ∀ {ps : List Pt}, Sel ps (csU U) → dt u (sm ps) ≤ mxU u U := by
 induction U with
 | nil =>
  intro ps hs
  cases ps with
  | nil => simp [sm, dt, mxU]
  | cons => exact hs.elim
 | cons x U ih =>
  intro ps hs
  cases ps with
  | nil => exact hs.elim
  | cons p ps =>
   have h1 := mx_le (u := u) (h x (by simp)) hs.1
   have h2 := ih (fun y hy => h y (by simp [hy])) hs.2
   simp only [mxU, List.map_cons, List.sum_cons] at h2 ⊢
   rw [sm, dt_add]; omega
theorem sel_at {u : Pt} {U : List Pol} (h : ∀ x ∈ U, Sd x.2) : ∃ ps, Sel ps (csU U) ∧ dt u (sm ps) = mxU u U := by
 induction U with
 | nil => exact ⟨[], trivial, by simp [sm, dt, mxU]⟩
 | cons x U ih =>
  obtain ⟨p, hp, h1⟩ := mx_at (u := u) (a := x.1) (h x (by simp))
  obtain ⟨ps, hs, h2⟩ := ih fun y hy => h y (by simp [hy])
  exact ⟨p :: ps, ⟨hp, hs⟩, by rw [sm, dt_add, h1, h2]; simp [mxU]⟩
theorem sums_le {u v : Pt} {U : List Pol} (h : ∀ x ∈ U, Sd x.2) (hv : v ∈ sums (csU U)) : dt u v ≤ mxU u U := by
 obtain ⟨ps, hs, rfl⟩ := mem_sums.1 hv
 exact sel_le h hs
theorem sums_at {u : Pt} {U : List Pol} (h : ∀ x ∈ U, Sd x.2) : ∃ v ∈ sums (csU U), dt u v = mxU u U := by
 obtain ⟨ps, hs, e⟩ := sel_at (u := u) h
 exact ⟨_, mem_sums.2 ⟨ps, hs, rfl⟩, e⟩
theorem sup_cs {a p : Pt} {ds : List Pt} (h : Sd ds) {n : Int} (hn : 0 ≤ n) : Sup (cs a ds) n p ↔ ∀ u, dt u p ≤ n * (dt u a + mF u ds) := by
 constructor
 ·intro hs u
  obtain ⟨v, hv, h1⟩ := hs u
  have := Int.mul_le_mul_of_nonneg_left (mx_le (u := u) h hv) hn
  omega
 ·intro hs u
  obtain ⟨v, hv, h1⟩ := mx_at (u := u) (a := a) h
  exact ⟨v, hv, by rw [h1]; exact hs u⟩
theorem sup_sums {p : Pt} {U : List Pol} (h : ∀ x ∈ U, Sd x.2) : Sup (sums (csU U)) 1 p ↔ ∀ u, dt u p ≤ mxU u U := by
 constructor
 ·intro hs u
  obtain ⟨v, hv, h1⟩ := hs u
  have := sums_le (u := u) h hv
  omega
 ·intro hs u
  obtain ⟨v, hv, h1⟩ := sums_at (u := u) h
  exact ⟨v, hv, by rw [h1]; have := hs u; omega⟩
/-- The sum of polygons. -/
structure IsSum (U : List Pol) (a : Pt) (ds : List Pt) : Prop where
 sd : Sd ds
 mx : ∀ u, dt u a + mF u ds = mxU u U
 sel : ∀ v ∈ cs a ds, ∃ ps, Sel ps (csU U) ∧ v = sm ps
theorem isSum_sup {U : List Pol} (h : ∀ x ∈ U, Sd x.2) {a : Pt} {ds : List Pt} (hs : IsSum U a ds) (p : Pt) : Sup (cs a ds) 1 p ↔ Sup (sums (csU U)) 1 p := by
 rw [sup_cs hs.sd (by omega), sup_sums h]
 simp only [hs.mx, Int.one_mul]
theorem isSum_sub {U : List Pol} {a : Pt} {ds : List Pt} (hs : IsSum U a ds) : ∀ v ∈ cs a ds, v ∈ sums (csU U) := fun v hv => by
 obtain ⟨ps, h1, rfl⟩ := hs.sel v hv
 exact mem_sums.2 ⟨ps, h1, rfl⟩
theorem map_one (l : List Pt) : l.map (tms 1) = l := by
 have : (tms 1) = id := by funext p; simp [tms]
 rw [this, List.map_id]
theorem has_among1 {a p : Pt} {ds : List Pt} (hs : Sd ds) : Has a ds 1 p ↔ among (cs a ds) p := by
 have := has_iff_among (a := a) (p := p) (n := 1) hs (by omega)
 rwa [map_one] at this
theorem isSum_among {U : List Pol} (h : ∀ x ∈ U, Sd x.2) {a : Pt} {ds : List Pt} (hs : IsSum U a ds) (p : Pt) : among (sums (csU U)) p ↔ Has a ds 1 p := by
 constructor
 ·intro h1
  rw [has_sup hs.sd (by omega), isSum_sup h hs]
  exact among_le h1
 ·intro h1
  exact among_mono ((has_among1 hs.sd).1 h1) (isSum_sub hs)
end Go.Geo
end
section
namespace Go.Geo
/-- What a side says of the heats that it meets. -/
def hiOf (v d : Pt) (y : Int) : Int := v.1 + Int.fdiv ((y - v.2) * d.1) d.2
def loOf (v d : Pt) (y : Int) : Int := v.1 - Int.fdiv (-((y - v.2) * d.1)) d.2
/-- The pieces: corners on the power, and sides that cross it. -/
inductive Meet (a : Pt) (ds : List Pt) (y : Int) : Int → Int → Prop
 | pt {v : Pt} (h : v ∈ cs a ds) (e : v.2 = y) : Meet a ds y v.1 v.1
 | side {v d : Pt} (h : (v, d) ∈ sd a ds) (c : decide (v.2 < y) ≠ decide ((add v d).2 < y)) : Meet a ds y (loOf v d y) (hiOf v d y)
end Go.Geo
end
section
namespace Go.Geo
open Go.AM
def ltP (a b : Pt) : Bool := decide (a.1 < b.1) || (decide (a.1 = b.1) && decide (a.2 < b.2))
theorem ltP_iff {a b : Pt} : ltP a b = true ↔ lx a b := by rw [lx_iff]; simp [ltP]
theorem ordP : OrdOn ltP (fun _ => True) where
 asym a b _ _ h := by
  rw [ltP_iff, lx_iff] at h
  rw [← Bool.not_eq_true, ltP_iff, lx_iff]; omega
 ntr a b c _ _ _ h1 h2 := by
  rw [← Bool.not_eq_true, ltP_iff, lx_iff] at h1 h2 ⊢
  omega
/-- Of equal ones beside each other one. -/
def cmpct : List Pt → List Pt
 | [] => []
 | [a] => [a]
 | a :: b :: r => if a = b then cmpct (b :: r) else a :: cmpct (b :: r)
theorem mem_cmpct {v : Pt} : ∀ {l : List Pt}, v ∈ cmpct l ↔ v ∈ l
 | [] => by simp [cmpct]
 | [a] => by simp [cmpct]
 | a :: b :: r => by
  unfold cmpct
  split
  ·rename_i e; subst e
   rw [mem_cmpct]; simp
  ·rw [List.mem_cons, mem_cmpct, List.mem_cons (l := b :: r)]
theorem cmpct_sorted : ∀ {l : List Pt}, l.Pairwise (fun a b => ltP b a = false) → (cmpct l).Pairwise lx
 | [], _ => by simp [cmpct]
 | [a], _ => by simp [cmpct]
 | a :: b :: r, h => by
  have h' := List.pairwise_cons.1 h
  have ih := cmpct_sorted h'.2
  unfold cmpct
  split
  ·exact ih
  ·rename_i hne
   refine List.pairwise_cons.2 ⟨fun v hv => ?_, ih⟩
   have hab : lx a b := by
    have := h'.1 b (by simp)
    rw [← Bool.not_eq_true, ltP_iff, lx_iff] at this
    rw [lx_iff]
    have hne' : a.1 ≠ b.1 ∨ a.2 ≠ b.2 := by
     rcases Classical.em (a.1 = b.1) with h1 | h1
     ·exact .inr fun h2 => hne (Prod.ext h1 h2)
     ·exact .inl h1
    omega
   rw [mem_cmpct] at hv
   rcases List.mem_cons.1 hv with rfl | hv
   ·exact hab
   ·have := (List.pairwise_cons.1 h'.2).1 v hv
    rw [← Bool.not_eq_true, ltP_iff, lx_iff] at this
    rw [lx_iff] at hab ⊢
    omega
/-- The points in order, each once. -/
def srtP (l : List Pt) : List Pt := cmpct (isort ltP l)
theorem srtP_sorted (l : List Pt) : (srtP l).Pairwise lx := cmpct_sorted (isort_sorted ordP (fun _ _ => trivial))
theorem mem_srtP {v : Pt} {l : List Pt} : v ∈ srtP l ↔ v ∈ l := by rw [srtP, mem_cmpct, (isort_perm l).mem_iff]
def hullP (l : List Pt) : List Pt := hullS (srtP l)
theorem hullP_ok {l : List Pt} (hne : l ≠ []) : ∃ a m ds, IsHull (srtP l) a m ds := by
 refine hull_ok (srtP_sorted l) fun e => hne ?_
 cases l with
 | nil => rfl
 | cons a r =>
  have : a ∈ srtP (a :: r) := mem_srtP.2 (by simp)
  rw [e] at this; cases this
/-- The hull of a hull's corners, in whatever order, is the same. -/
theorem hullP_cs {s l : List Pt} {a m : Pt} {ds : List Pt} (h : s.Pairwise lx) (hh : IsHull s a m ds) (hm : ∀ v, v ∈ l ↔ v ∈ cs a ds) : hullP l = cs a ds :=
 hull_hull h hh (srtP_sorted l) fun v => (mem_srtP (v := v)).trans (hm v)
/-! Sides, each of a unit. -/
abbrev Own := Pt × Nat
def alB (d e : Pt) : Bool := (h0 d && !h0 e) || (h0 d == h0 e && decide (0 < cr d e))
theorem alB_iff {d e : Pt} : alB d e = true ↔ al d e := by simp [alB, al]
theorem al_asym {d e : Pt} (zd : d ≠ (0, 0)) (ze : e ≠ (0, 0)) (h1 : al d e) (h2 : al e d) : False := al_irr (al_trans zd ze zd h1 h2)
theorem ordA : OrdOn (fun a b : Own => alB a.1 b.1) (fun x => x.1 ≠ (0, 0)) where
 asym a b ha hb h := by
  rw [alB_iff] at h
  rw [← Bool.not_eq_true, alB_iff]
  exact fun h' => al_asym ha hb h h'
 ntr a b c ha hb hc h1 h2 := by
  rw [← Bool.not_eq_true, alB_iff] at h1 h2 ⊢
  intro h
  rcases tri a.1 b.1 with q | q | q
  ·exact h1 q
  ·rcases tri b.1 c.1 with p | p | p
   ·exact h2 p
   ·exact not_al_sam (sam_trans ha hb hc q p) h
   ·exact h2 (sam_al hb ha hc (sam_symm q) h)
  ·exact h2 (al_trans hb ha hc q h)
/-- All sides of polygons, unit after unit, from number k on. -/
def allS : List Pol → Nat → List Own
 | [], _ => []
 | x :: U, k => x.2.map (fun d => (d, k)) ++ allS U (k + 1)
theorem allS_unit {U : List Pol} : ∀ {k : Nat} {x : Own}, x ∈ allS U k → k ≤ x.2 ∧ x.2 < k + U.length ∧ ∃ p, U[x.2 - k]? = some p ∧ x.1 ∈ p.2 := by
 induction U with
 | nil => intro k x h; cases h
 | cons y U ih =>
  intro k x h
  rcases List.mem_append.1 h with h | h
  ·obtain ⟨d, hd, rfl⟩ := List.mem_map.1 h
   exact ⟨Nat.le_refl _, by simp, y, by simp, hd⟩
  ·obtain ⟨h1, h2, p, h3, h4⟩ := ih h
   refine ⟨by omega, by simp; omega, p, ?_, h4⟩
   rw [show x.2 - k = x.2 - (k + 1) + 1 by omega]; simpa using h3
theorem allS_filter {U : List Pol} : ∀ {k i : Nat}, (allS U k).filter (fun x => decide (x.2 = i)) = (match U[i - k]? with | some p => if k ≤ i then p.2.map (fun d => (d, i)) else [] | none => []) := by
 induction U with
 | nil => intro k i; simp [allS]
 | cons y U ih =>
  intro k i
  rw [allS, List.filter_append, ih, List.filter_map]
  by_cases h : k = i
  ·subst h
   have e1 : y.2.filter ((fun x : Own => decide (x.2 = k)) ∘ fun d => (d, k)) = y.2 := List.filter_eq_self.2 fun d _ => by simp
   rw [e1]
   simp
   cases U[0]? with
   | none => rfl
   | some p => simp only; rw [if_neg (by omega)]
  ·have e1 : y.2.filter ((fun x : Own => decide (x.2 = i)) ∘ fun d => (d, k)) = [] := List.filter_eq_nil_iff.2 fun d _ => by simp [h]
   rw [e1, List.map_nil, List.nil_append]
   by_cases hk : k < i
   ·rw [show i - k = i - (k + 1) + 1 by omega, List.getElem?_cons_succ]
    cases U[i - (k + 1)]? with
    | none => rfl
    | some p => simp only; rw [if_pos (by omega), if_pos (by omega)]
   ·have : i - k = 0 := by omega
    rw [this]
    simp only [List.getElem?_cons_zero]
    rw [if_neg (by omega)]
    cases U[i - (k + 1)]? with
    | none => rfl
    | some p => simp only; rw [if_neg (by omega)]
theorem allS_map {U : List Pol} : ∀ {k : Nat}, (allS U k).map (·.1) = U.flatMap (·.2) := by
 induction U with
 | nil => intro k; rfl
 | cons y U ih => intro k; rw [allS, List.map_append, ih, List.flatMap_cons, List.map_map]; congr 1; exact List.map_id' _
def srtS (U : List Pol) : List Own := isort (fun a b => alB a.1 b.1) (allS U 0)
theorem srtS_perm (U : List Pol) : (srtS U).Perm (allS U 0) := isort_perm _
theorem allS_nz {U : List Pol} (h : ∀ x ∈ U, Sd x.2) : ∀ x ∈ allS U 0, x.1 ≠ (0, 0) := fun x hx => by
 obtain ⟨_, _, p, h3, h4⟩ := allS_unit hx
 exact (h p (List.mem_of_getElem? h3)).nz _ h4
theorem srtS_sorted {U : List Pol} (h : ∀ x ∈ U, Sd x.2) : ((srtS U).map (·.1)).Pairwise (fun x y => ¬ al y x) := by
 rw [List.pairwise_map]
 refine (isort_sorted ordA (allS_nz h)).imp fun {a b} hab => ?_
 rw [← alB_iff]; simpa using hab
/-- Each unit's sides stay in their order. -/
theorem srtS_filter {U : List Pol} (h : ∀ x ∈ U, Sd x.2) {i : Nat} {p : Pol} (hp : U[i]? = some p) : (srtS U).filter (fun x => decide (x.2 = i)) = p.2.map (fun d => (d, i)) := by
 have e : (allS U 0).filter (fun x => decide (x.2 = i)) = p.2.map (fun d => (d, i)) := by
  rw [allS_filter, show i - 0 = i by omega, hp]; simp
 have hperm := (srtS_perm U).filter (fun x => decide (x.2 = i))
 rw [e] at hperm
 have hs := h p (List.mem_of_getElem? hp)
 have hnz := hs.nz
 have key : ∀ (l k : List Own), (∀ x ∈ l, x.1 ≠ (0, 0)) → l.Perm k → l.Pairwise (fun a b => al a.1 b.1) → k.Pairwise (fun a b => al a.1 b.1) → l = k := by
  intro l
  induction l with
  | nil => intro k _ hp _ _; exact (List.nil_perm.1 hp).symm
  | cons a l ih =>
   intro k hn hp hl hk
   cases k with
   | nil => exact absurd hp.symm (by simp)
   | cons b k =>
    have e : a = b := by
     have ha : a ∈ b :: k := hp.mem_iff.1 (by simp)
     have hb : b ∈ a :: l := hp.mem_iff.2 (by simp)
     rcases List.mem_cons.1 ha with h | h
     ·exact h
     rcases List.mem_cons.1 hb with h' | h'
     ·exact h'.symm
     exact (al_asym (hn a (by simp)) (hn b hb) ((List.pairwise_cons.1 hl).1 b h') ((List.pairwise_cons.1 hk).1 a h)).elim
    subst e
    rw [ih k (fun x hx => hn x (by simp [hx])) (List.perm_cons a |>.1 hp) (List.pairwise_cons.1 hl).2 (List.pairwise_cons.1 hk).2]
 have hk : (p.2.map (fun d => ((d, i) : Own))).Pairwise (fun a b => al a.1 b.1) := by rw [List.pairwise_map]; exact hs.srt
 have hnd : (p.2.map (fun d => ((d, i) : Own))).Nodup := by
  refine hk.imp fun {a b} hab e => ?_
  subst e; exact al_irr hab
 refine key _ _ (fun x hx => ?_) hperm ?_ hk
 ·obtain ⟨d, hd, rfl⟩ := List.mem_map.1 (hperm.mem_iff.1 hx)
  exact hnz d hd
 ·have hnd2 : ((srtS U).filter (fun x => decide (x.2 = i))).Nodup := hperm.nodup_iff.2 hnd
  have hs1 := srtS_sorted h
  rw [List.pairwise_map] at hs1
  have hs2 := hs1.sublist (List.filter_sublist (p := fun x : Own => decide (x.2 = i)))
  refine (hs2.and hnd2).imp_of_mem fun {a b} ha hb hab => ?_
  obtain ⟨d, hd, rfl⟩ := List.mem_map.1 (hperm.mem_iff.1 ha)
  obtain ⟨e, he, rfl⟩ := List.mem_map.1 (hperm.mem_iff.1 hb)
  have hne : d ≠ e := fun h => hab.2 (by rw [h])
  -- of one polygon: in order, or the other way round
  rcases tri d e with q | q | q
  ·exact q
  ·exfalso
   have hd2 : ∀ x ∈ p.2, ∀ y ∈ p.2, x ≠ y → ¬ sam x y := by
    intro x hx y hy hxy hsam
    obtain ⟨n, hn, rfl⟩ := List.getElem_of_mem hx
    obtain ⟨m, hm, rfl⟩ := List.getElem_of_mem hy
    have hpw := List.pairwise_iff_getElem.1 hs.srt
    rcases Nat.lt_trichotomy n m with h | h | h
    ·exact not_al_sam hsam (hpw n m hn hm h)
    ·subst h; exact hxy rfl
    ·exact not_al_sam (sam_symm hsam) (hpw m n hm hn h)
   exact hd2 d hd e he hne q
  ·exact (hab.1 q).elim
end Go.Geo
end
section
namespace Go.Geo
open Go.AM
theorem sm_set {l : List Pt} {i : Nat} {p d : Pt} (h : l[i]? = some p) : sm (l.set i (add p d)) = add (sm l) d := by
 induction l generalizing i with
 | nil => simp at h
 | cons a l ih =>
  cases i with
  | zero => simp at h; subst h; simp only [List.set_cons_zero, sm, add]; exact Prod.ext (by simp only []; omega) (by simp only []; omega)
  | succ i => simp at h; simp only [List.set_cons_succ, sm, ih h, add_assoc]
/-- Corners of the units, each behind so many of its sides. -/
structure Prt (U : List Pol) (now : List Pt) (at_ : Pt) : Prop where
 len : now.length = U.length
 sum : sm now = at_
 pt : ∀ (i : Nat) (p : Pol), U[i]? = some p → ∃ j, j ≤ p.2.length ∧ now[i]? = some (add p.1 (sm (p.2.take j)))
theorem Prt.sel {U : List Pol} (hU : ∀ x ∈ U, Sd x.2) {now : List Pt} {at_ : Pt} (h : Prt U now at_) : Sel now (csU U) := by
 have key : ∀ (U : List Pol) (now : List Pt), (∀ x ∈ U, Sd x.2) → now.length = U.length → (∀ (i : Nat) (p : Pol), U[i]? = some p → ∃ j, j ≤ p.2.length ∧ now[i]? = some (add p.1 (sm (p.2.take j)))) → Sel now (csU U) := by
  intro U
  induction U with
  | nil => intro now _ hl _; rw [List.length_eq_zero_iff.1 hl]; trivial
  | cons x U ih =>
   intro now hs hl hp
   cases now with
   | nil => simp at hl
   | cons q now =>
    refine ⟨?_, ih now (fun y hy => hs y (by simp [hy])) (by simpa using hl) fun i p hi => by simpa using hp (i + 1) p (by simpa using hi)⟩
    obtain ⟨j, hj, e⟩ := hp 0 x rfl
    simp only [List.getElem?_cons_zero, Option.some.injEq] at e
    subst e
    rw [← mem_chain (hs x (by simp)), chain]
    by_cases h : j < x.2.length
    ·exact List.mem_append_left _ (mem_vs.2 ⟨j, h, rfl⟩)
    ·rw [List.take_of_length_le (by omega)]; simp
 exact key U now hU h.len h.pt
abbrev SSt := Pt × List Pt × List Pt × List (List Pt) × Pt
/-- One more side. -/
def sst (s : SSt) (x : Own) : SSt :=
 (add s.1 x.1, s.2.1.set x.2 (add (s.2.1.getD x.2 (0, 0)) x.1),
  (if s.2.2.2.2 ≠ (0, 0) ∧ sam s.2.2.2.2 x.1 then s.2.2.1.dropLast else s.2.2.1) ++ [add s.1 x.1],
  (if s.2.2.2.2 ≠ (0, 0) ∧ sam s.2.2.2.2 x.1 then s.2.2.2.1.dropLast else s.2.2.2.1) ++ [s.2.1.set x.2 (add (s.2.1.getD x.2 (0, 0)) x.1)], x.1)
def a0U (U : List Pol) : Pt := sm (U.map (·.1))
def st0 (U : List Pol) : SSt := (a0U U, U.map (·.1), [a0U U], [U.map (·.1)], (0, 0))
/-- Corners with their parts. -/
def Prts (U : List Pol) (cs : List Pt) (ps : List (List Pt)) : Prop := ps.length = cs.length ∧ ∀ (k : Nat) (v : Pt), cs[k]? = some v → ∃ now, ps[k]? = some now ∧ Prt U now v
theorem Prts.drop {U : List Pol} {cs : List Pt} {ps : List (List Pt)} (h : Prts U cs ps) : Prts U cs.dropLast ps.dropLast := by
 refine ⟨by simp [h.1], fun k v hk => ?_⟩
 have hlt := (List.getElem?_eq_some_iff.1 hk).1
 simp only [List.length_dropLast] at hlt
 rw [List.getElem?_dropLast, if_pos hlt] at hk
 obtain ⟨now, e, hp⟩ := h.2 k v hk
 exact ⟨now, by rw [List.getElem?_dropLast, if_pos (by rw [h.1]; exact hlt)]; exact e, hp⟩
theorem Prts.snoc {U : List Pol} {cs : List Pt} {ps : List (List Pt)} (h : Prts U cs ps) {now : List Pt} {at_ : Pt} (hp : Prt U now at_) : Prts U (cs ++ [at_]) (ps ++ [now]) := by
 refine ⟨by simp [h.1], fun k v hk => ?_⟩
 by_cases hl : k < cs.length
 ·rw [List.getElem?_append_left hl] at hk
  obtain ⟨w, e, hw⟩ := h.2 k v hk
  exact ⟨w, by rw [List.getElem?_append_left (by rw [h.1]; exact hl)]; exact e, hw⟩
 ·have : k = cs.length := by
   have := (List.getElem?_eq_some_iff.1 hk).1
   simp at this; omega
  subst this
  simp at hk
  subst hk
  exact ⟨now, by rw [← h.1]; simp, hp⟩
/-- After the first ones, in order. -/
structure SI (U : List Pol) (L : List Own) (s : SSt) : Prop where
 at_ : s.1 = add (a0U U) (sm (L.map (·.1)))
 now : s.2.1.length = U.length ∧ ∀ (i : Nat) (p : Pol), U[i]? = some p → s.2.1[i]? = some (add p.1 (sm (p.2.take (L.filter (fun x => decide (x.2 = i))).length)))
 sum : sm s.2.1 = s.1
 cor : s.2.2.1 = chain (a0U U) (sds (L.map (·.1)))
 prt : Prts U s.2.2.1 s.2.2.2.1
 last : s.2.2.2.2 = (grp (L.map (·.1))).2
theorem si_nil {U : List Pol} : SI U [] (st0 U) := by
 have hp : Prt U (U.map (·.1)) (a0U U) := ⟨by simp, rfl, fun i p hi => ⟨0, by omega, by simp [hi, sm, add]⟩⟩
 refine ⟨by simp [st0, sm, add], ⟨by simp [st0], fun i p hi => by simp [st0, hi, sm, add]⟩, rfl, by simp [st0, chain, sds, grp, vs, sm, add], ⟨rfl, fun k v hk => ?_⟩, rfl⟩
 cases k with
 | zero => simp [st0] at hk; subst hk; exact ⟨_, rfl, hp⟩
 | succ k => simp [st0] at hk
theorem si_step {U : List Pol} (hU : ∀ x ∈ U, Sd x.2) {L R : List Own} {x : Own} (hL : srtS U = L ++ x :: R) {s : SSt} (h : SI U L s) : SI U (L ++ [x]) (sst s x) := by
 have hx : x ∈ srtS U := by rw [hL]; simp
 obtain ⟨-, hlt, p, hp, hd⟩ := allS_unit ((srtS_perm U).mem_iff.1 hx)
 simp only [Nat.zero_add, Nat.sub_zero] at hlt hp
 have hf := srtS_filter hU hp
 rw [hL, List.filter_append, List.filter_cons_of_pos (by simp)] at hf
 -- how many of its sides went before
 have hj : p.2[(L.filter (fun y => decide (y.2 = x.2))).length]? = some x.1 := by
  have : ((p.2.map (fun d => ((d, x.2) : Own))))[(L.filter (fun y => decide (y.2 = x.2))).length]? = some x := by rw [← hf]; simp
  rw [List.getElem?_map] at this
  cases hq : p.2[(L.filter (fun y => decide (y.2 = x.2))).length]? with
  | none => rw [hq] at this; cases this
  | some d => rw [hq] at this; simp only [Option.map_some, Option.some.injEq] at this; rw [← this]
 have hnx := h.now.2 x.2 p hp
 have hgx : s.2.1.getD x.2 (0, 0) = add p.1 (sm (p.2.take (L.filter (fun y => decide (y.2 = x.2))).length)) := by
  rw [List.getD_eq_getElem?_getD, hnx]; rfl
 have hlt2 : x.2 < s.2.1.length := by rw [h.now.1]; exact hlt
 have hat : (sst s x).1 = add (a0U U) (sm ((L ++ [x]).map (·.1))) := by
  show add s.1 x.1 = _
  rw [h.at_, List.map_append, sm_append, add_assoc]; simp [sm, add_zero]
 have hnow : (sst s x).2.1.length = U.length ∧ ∀ (i : Nat) (q : Pol), U[i]? = some q → (sst s x).2.1[i]? = some (add q.1 (sm (q.2.take ((L ++ [x]).filter (fun y => decide (y.2 = i))).length))) := by
  refine ⟨by show (List.set _ _ _).length = _; rw [List.length_set]; exact h.now.1, fun i q hq => ?_⟩
  show (List.set _ _ _)[i]? = _
  rw [List.getElem?_set, List.filter_append]
  by_cases e : x.2 = i
  ·subst e
   rw [hq] at hp; cases hp
   rw [if_pos rfl, if_pos hlt2, hgx, List.filter_cons_of_pos (by simp), List.filter_nil, List.length_append, List.length_singleton]
   have hlt3 := (List.getElem?_eq_some_iff.1 hj).1
   rw [List.take_succ_eq_append_getElem hlt3, (List.getElem?_eq_some_iff.1 hj).2, sm_append, add_assoc]
   simp [sm, add_zero]
  ·rw [if_neg e, List.filter_cons_of_neg (by simpa using e), List.filter_nil, List.append_nil]
   exact h.now.2 i q hq
 have hsum : sm (sst s x).2.1 = (sst s x).1 := by
  show sm (List.set _ _ _) = add s.1 x.1
  rw [← h.sum, hgx]
  exact sm_set hnx
 have hprt : Prt U (sst s x).2.1 (sst s x).1 := by
  refine ⟨hnow.1, hsum, fun i q hq => ?_⟩
  refine ⟨min ((L ++ [x]).filter (fun y => decide (y.2 = i))).length q.2.length, Nat.min_le_right _ _, ?_⟩
  rw [hnow.2 i q hq, ← List.take_eq_take_min]
 have hnz : ∀ y ∈ (L ++ x :: R).map (·.1), y ≠ (0, 0) := fun y hy => by
  rw [← hL] at hy
  obtain ⟨z, hz, rfl⟩ := List.mem_map.1 hy
  exact allS_nz hU z ((srtS_perm U).mem_iff.1 hz)
 have hsrt := srtS_sorted hU
 rw [hL, List.map_append] at hsrt
 refine ⟨hat, hnow, hsum, ?_, ?_, ?_⟩
 ·show _ ++ [add s.1 x.1] = _
  rw [List.map_append, List.map_singleton, chain_step (fun y hy => hnz y (by rw [List.map_append]; exact List.mem_append_left _ hy)) (List.pairwise_append.1 hsrt).1, ← h.last, ← h.cor, ← h.at_]
  split <;> rfl
 ·show Prts U (_ ++ [add s.1 x.1]) (_ ++ [_])
  refine Prts.snoc ?_ hprt
  split
  ·exact h.prt.drop
  ·exact h.prt
 ·show x.1 = _
  rw [List.map_append, List.map_singleton, grp_snoc]; rfl
/-- The sum: its corners, and their parts. -/
def addU (U : List Pol) : List Pt × List (List Pt) :=
 if allS U 0 = [] then ((st0 U).2.2.1, (st0 U).2.2.2.1)
 else (((srtS U).foldl sst (st0 U)).2.2.1.dropLast, ((srtS U).foldl sst (st0 U)).2.2.2.1.dropLast)
theorem si_all {U : List Pol} (hU : ∀ x ∈ U, Sd x.2) : SI U (srtS U) ((srtS U).foldl sst (st0 U)) := by
 have key : ∀ (R L : List Own) (s : SSt), srtS U = L ++ R → SI U L s → SI U (srtS U) (R.foldl sst s) := by
  intro R
  induction R with
  | nil => intro L s e h; rw [e, List.append_nil] at *; exact h
  | cons x R ih =>
   intro L s e h
   rw [List.foldl_cons]
   exact ih (L ++ [x]) _ (by rw [e]; simp) (si_step hU e h)
 exact key _ [] _ rfl si_nil
/-- The sum's sides. -/
def dsU (U : List Pol) : List Pt := sds ((srtS U).map (·.1))
theorem addU_ok {U : List Pol} (hU : ∀ x ∈ U, Sd x.2) : (addU U).1 = cs (a0U U) (dsU U) ∧ Prts U (addU U).1 (addU U).2 ∧ IsSum U (a0U U) (dsU U) := by
 have hnz : ∀ y ∈ (srtS U).map (·.1), y ≠ (0, 0) := fun y hy => by
  obtain ⟨z, hz, rfl⟩ := List.mem_map.1 hy
  exact allS_nz hU z ((srtS_perm U).mem_iff.1 hz)
 have hflat : ((srtS U).map (·.1)).Perm (U.flatMap (·.2)) := by rw [← allS_map (k := 0)]; exact (srtS_perm U).map _
 have hsm : sm ((srtS U).map (·.1)) = (0, 0) := by
  rw [sm_perm hflat]
  have key : ∀ U : List Pol, (∀ x ∈ U, Sd x.2) → sm (U.flatMap (·.2)) = (0, 0) := by
   intro U
   induction U with
   | nil => intro _; rfl
   | cons x U ih => intro h; rw [List.flatMap_cons, sm_append, (h x (by simp)).cl, ih fun y hy => h y (by simp [hy])]; rfl
  exact key U hU
 obtain ⟨h1, h2, h3⟩ := sds_ok hnz (srtS_sorted hU) hsm
 have hmx : ∀ u, dt u (a0U U) + mF u (dsU U) = mxU u U := fun u => by
  rw [dsU, h2 u, mF_perm hflat]
  have key : ∀ U : List Pol, dt u (sm (U.map (·.1))) + mF u (U.flatMap (·.2)) = mxU u U := by
   intro U
   induction U with
   | nil => simp [sm, dt, mF, mxU]
   | cons x U ih =>
    simp only [mxU, List.map_cons, List.sum_cons] at ih ⊢
    rw [sm, dt_add, List.flatMap_cons, mF_append]; omega
  exact key U
 have hsi := si_all hU
 have hmain : (addU U).1 = cs (a0U U) (dsU U) ∧ Prts U (addU U).1 (addU U).2 := by
  unfold addU
  by_cases he : allS U 0 = []
  ·rw [if_pos he]
   have e0 : srtS U = [] := List.Perm.eq_nil (he ▸ srtS_perm U)
   refine ⟨?_, si_nil.prt⟩
   have : dsU U = [] := by rw [dsU, e0]; rfl
   rw [this]; simp [st0, cs]
  ·rw [if_neg he]
   have e0 : dsU U ≠ [] := fun e => he (by
    have := h3.1 e
    have e1 : srtS U = [] := List.map_eq_nil_iff.1 this
    exact List.Perm.eq_nil (e1 ▸ (srtS_perm U).symm))
   refine ⟨?_, hsi.prt.drop⟩
   show (List.dropLast _) = _
   rw [hsi.cor]
   exact chain_last e0
 refine ⟨hmain.1, hmain.2, h1, hmx, fun v hv => ?_⟩
 rw [← hmain.1] at hv
 obtain ⟨k, hk⟩ := List.getElem?_of_mem hv
 obtain ⟨now, -, hp⟩ := hmain.2.2 k v hk
 exact ⟨now, hp.sel hU, hp.sum.symm⟩
end Go.Geo
end
section
namespace Go.Proofs.Try
open Go.AM Go.Geo
set_option maxRecDepth 100000
def cmpI (a b : Int) : Int := if a < b then -1 else if b < a then 1 else 0
theorem pr_eta {A B : Type} (p : A × B) : (p.1, p.2) = p := rfl
theorem k69 (a : Int) : run0 (F69 a) = some (false, ()) := by simp [F69, run_ret]
theorem k54 (a b : Int) : run0 (F54 a b) = some (cmpI a b, ()) := by
 simp only [F54, run_bd, run_br, run_ret, k69, bindO_s, br_false, br_d, cmpI]
 split
 ·rfl
 ·split <;> rfl
def orL : List Int → Int
 | [] => 0
 | a :: r => if a = 0 then orL r else a
theorem k52 (l : List Int) (hl : l.length ≤ 1000) : run0 (F52 l) = some (orL l, ()) := by
 simp only [F52, run_bd, run_it]
 refine bind_eq (iter_list l (fun k (_ : Unit) => ((0 : Int), l, ((l.length : Nat) : Int), (k : Int), ())) (fun _ r => if orL r = 0 then .inr (0, ()) else .inl (orL r, ())) (fun _ _ => True) ?_ ?_ (s := ()) trivial) ?_
 ·rintro pre x post _ hx -
  have hlen : l.length = pre.length + (post.length + 1) := by rw [hx]; simp
  have hd : l.getD pre.length 0 = x := by rw [hx]; exact getD_mid rfl
  have i1 : inb (pre.length : Int) ((l.length : Nat) : Int) = true := inb_t (by omega) (by omega)
  have r1 : rng .i64 ((pre.length : Int) + 1) = true := rng_i64 (by omega) (by omega)
  simp only [g52_0, run_br, run_nb, run_ni, run_nd, run_ret, Int.toNat_natCast, hd, i1, r1, need_true, br_d, br_not, br_eq]
  rw [if_pos (by omega)]
  by_cases h : x = 0
  ·left
   refine ⟨(), ?_, trivial, by simp [orL, h]⟩
   rw [if_pos h]; rfl
  ·right
   rw [if_neg h]
   have : orL (x :: post) = x := by simp [orL, h]
   rw [this, if_neg h]
 ·rintro _ _
  simp only [g52_0, run_br, br_d, run_ret]
  rw [if_neg (by omega)]
  simp [orL]
 ·by_cases h : orL l = 0
  ·rw [if_pos h, h]; rfl
  ·rw [if_neg h]; rfl
theorem k62 (a b : Pt) : ∃ z, run0 (F62 a b) = some (z, ()) ∧ (z < 0 ↔ ltP a b = true) := by
 refine ⟨orL [cmpI a.1 b.1, cmpI a.2 b.2], ?_, ?_⟩
 ·simp only [F62, run_bd, k54, bindO_s, List.drop_zero, List.take_succ_cons, List.take_zero, run_ret]
  rw [bind_of (k52 _ (by simp))]
 ·have c1 : ∀ x y : Int, (cmpI x y < 0 ↔ x < y) ∧ (cmpI x y = 0 ↔ x = y) := fun x y => by
   unfold cmpI
   split
   ·constructor <;> constructor <;> intro h <;> omega
   ·split <;> constructor <;> constructor <;> intro h <;> omega
  have e1 := c1 a.1 b.1
  have e2 := c1 a.2 b.2
  simp only [orL, ltP]
  generalize cmpI a.1 b.1 = p at e1 ⊢
  generalize cmpI a.2 b.2 = q at e2 ⊢
  simp only [Bool.or_eq_true, Bool.and_eq_true, decide_eq_true_eq]
  by_cases h1 : p = 0
  ·have := e1.2.1 h1
   rw [if_pos h1]
   by_cases h2 : q = 0
   ·have := e2.2.1 h2
    rw [if_pos h2]; omega
   ·rw [if_neg h2]; omega
  ·rw [if_neg h1]
   have : a.1 ≠ b.1 := fun h => h1 (e1.2.2 h)
   omega
theorem kH76 {l T : List Pt} (hl : l.length ≤ 1000) : run0 (FH76 l.length 0 l.length (l ++ T)) = some (isort ltP l ++ T, ()) := by
 simp only [FH76, run_ni, run_bd, run_it, run_ret]
 rw [need_i64 (by omega) (by omega)]
 refine bind_eq (ins_outer (lt := ltP) (Good := fun _ => True) (n := l.length) (fun k m => (l.length, (0 : Int), ((l.length : Nat) : Int), (k : Int), m ++ T, ())) (fun m => (m ++ T, ())) ?_ ?_ (fun _ _ => trivial) rfl) rfl
 ·intro R x Q hR hg' hn
  simp only [gH76_0, run_br, run_bd, run_it, run_ret, run_ni, br_d]
  rw [if_pos (by omega)]
  refine bind_eq (ins_inner (lt := ltP) (Good := fun _ => True) (n := l.length) (fun k m => (l.length, (0 : Int), ((l.length : Nat) : Int), (R.length : Int), (k : Int), m ++ T, ())) (fun m => (l.length, (0 : Int), ((l.length : Nat) : Int), (R.length : Int), m ++ T, ())) ?_ ?_ R x Q hg' hn) ?_
  ·intro L y x Q hg2 hn2
   have e0 : L ++ y :: x :: Q ++ T = L ++ y :: x :: (Q ++ T) := by simp
   rw [e0]
   generalize hW : Q ++ T = W
   have t1 : Int.toNat (((L.length + 1 : Nat) : Int) - 1) = L.length := by omega
   have g1 : (L ++ y :: x :: W).getD (L.length + 1) ((0 : Int), (0 : Int)) = x := by
    rw [show L ++ y :: x :: W = (L ++ [y]) ++ x :: W by simp]; exact getD_mid (by simp)
   have g2 : (L ++ y :: x :: W).getD L.length ((0 : Int), (0 : Int)) = y := getD_mid rfl
   have s1 : (L ++ y :: x :: W).set (L.length + 1) y = L ++ y :: y :: W := by
    rw [show L ++ y :: x :: W = (L ++ [y]) ++ x :: W by simp, set_mid (by simp)]; simp
   have s2 : (L ++ y :: y :: W).set L.length x = L ++ x :: y :: W := set_mid rfl
   have i1 : inb ((L.length + 1 : Nat) : Int) ((l.length : Nat) : Int) = true := inb_t (by omega) (by omega)
   have i2 : inb (((L.length + 1 : Nat) : Int) - 1) ((l.length : Nat) : Int) = true := inb_t (by omega) (by omega)
   have r1 : rng .i64 (((L.length + 1 : Nat) : Int) - 1) = true := rng_i64 (by omega) (by omega)
   have d1 : decide (L.length + 1 < (L ++ y :: x :: W).length) = true := decide_eq_true (by simp)
   have d2 : decide (L.length < (L ++ y :: x :: W).length) = true := decide_eq_true (by simp)
   have d3 : decide (L.length < (L ++ y :: y :: W).length) = true := decide_eq_true (by simp)
   obtain ⟨z, hz, hzlt⟩ := k62 x y
   simp only [gH76_1, run_br, run_bd, run_nb, run_nd, run_ni, run_ret, Int.toNat_natCast, t1, Nat.zero_add, g1, g2, pr_eta, hz, bindO_s, i1, i2, r1, d1, d2, need_true, br_d, s1, s2, d3]
   rw [if_pos (by omega)]
   by_cases hc : z < 0
   ·rw [if_pos hc, if_pos (hzlt.1 hc)]
    have : (((L.length + 1 : Nat) : Int) - 1) = (L.length : Int) := by omega
    rw [this, ← hW]; simp
   ·rw [if_neg hc, if_neg (fun h => hc (hzlt.2 h))]
  ·intro m
   simp only [gH76_1, run_br, br_d, run_ret]
   rw [if_neg (by omega)]
  ·simp only []
   rw [need_i64 (by omega) (by omega)]
   simp
 ·intro k m hk
  simp only [gH76_0, run_br, br_d, run_ret]
  rw [if_neg (by omega)]
theorem k71 {n : Nat} (hn : n ≤ 20) : ∃ y, run0 (F71 (n : Int)) = some (y, ()) := by
 match n with
 | 0 => exact ⟨0, cmp_done 60 (by kernel_rfl)⟩
 | 1 => exact ⟨1, cmp_done 60 (by kernel_rfl)⟩
 | 2 => exact ⟨2, cmp_done 60 (by kernel_rfl)⟩
 | 3 => exact ⟨2, cmp_done 60 (by kernel_rfl)⟩
 | 4 => exact ⟨3, cmp_done 60 (by kernel_rfl)⟩
 | 5 => exact ⟨3, cmp_done 60 (by kernel_rfl)⟩
 | 6 => exact ⟨3, cmp_done 60 (by kernel_rfl)⟩
 | 7 => exact ⟨3, cmp_done 60 (by kernel_rfl)⟩
 | 8 => exact ⟨4, cmp_done 60 (by kernel_rfl)⟩
 | 9 => exact ⟨4, cmp_done 60 (by kernel_rfl)⟩
 | 10 => exact ⟨4, cmp_done 60 (by kernel_rfl)⟩
 | 11 => exact ⟨4, cmp_done 60 (by kernel_rfl)⟩
 | 12 => exact ⟨4, cmp_done 60 (by kernel_rfl)⟩
 | 13 => exact ⟨4, cmp_done 60 (by kernel_rfl)⟩
 | 14 => exact ⟨4, cmp_done 60 (by kernel_rfl)⟩
 | 15 => exact ⟨4, cmp_done 60 (by kernel_rfl)⟩
 | 16 => exact ⟨5, cmp_done 60 (by kernel_rfl)⟩
 | 17 => exact ⟨5, cmp_done 60 (by kernel_rfl)⟩
 | 18 => exact ⟨5, cmp_done 60 (by kernel_rfl)⟩
 | 19 => exact ⟨5, cmp_done 60 (by kernel_rfl)⟩
 | 20 => exact ⟨5, cmp_done 60 (by kernel_rfl)⟩
 | n + 21 => omega
theorem kH61 {l : List Pt} (hl : l.length ≤ 12) : run0 (FH61 l.length l) = some (isort ltP l, ()) := by
 obtain ⟨y, hy⟩ := k71 (n := l.length) (by omega)
 have hu : rng .u64 ((l.length : Nat) : Int) = true := rng_u64 (by omega) (by omega)
 have r1 : rng .i64 (((l.length : Nat) : Int) - 0) = true := rng_i64 (by omega) (by omega)
 simp only [FH61, run_nd, hu, need_true, run_bd, run_ret]
 refine bind_eq hy (bind_eq (a := (isort ltP l, ())) ?_ rfl)
 simp only [FH70, run_bd, run_it, run_ret]
 have := kH76 (l := l) (T := []) (by omega)
 simp only [List.append_nil] at this
 rw [iter_inr (b := (isort ltP l, ())) (by
  simp only [gH70_0, run_ni, r1, need_true, run_br, br_d, run_bd]
  rw [if_pos (by omega)]
  exact bind_eq this (by simp only [run_ret]))]
 simp only [bindO_s]
end Go.Proofs.Try
end
section
namespace Go.Proofs.Try
open Go.AM Go.Geo
set_option maxRecDepth 100000
/-- Equal ones put together, at the end. -/
theorem cmpct_snoc (x y : Pt) : ∀ A : List Pt, cmpct (A ++ [x, y]) = if x = y then cmpct (A ++ [x]) else cmpct (A ++ [x]) ++ [y]
 | [] => by simp only [List.nil_append, cmpct]; split <;> simp_all
 | [a] => by
  simp only [List.cons_append, List.nil_append, cmpct]
  by_cases h1 : a = x <;> by_cases h2 : x = y <;> simp [h1, h2]
 | a :: b :: A => by
  have ih := cmpct_snoc x y (b :: A)
  simp only [List.cons_append] at ih ⊢
  simp only [cmpct] at ih ⊢
  rw [ih]
  by_cases h : a = b
  ·rw [if_pos h, if_pos h]
  ·rw [if_neg h, if_neg h]; split <;> simp
theorem eqP (x y : Pt) : (x.1 == y.1 && (x.2 == y.2 && true)) = decide (x = y) := by
 rcases x with ⟨a, b⟩; rcases y with ⟨c, d⟩
 simp only [Prod.mk.injEq, Bool.and_true]
 by_cases h1 : a = c <;> by_cases h2 : b = d <;> simp [h1, h2]
/-- From where the first two equal ones stand on. -/
theorem comp_in {P R : List Pt} {x : Pt} {n : Nat} (hn : n = P.length + 2 + R.length) (hbig : n ≤ 1000) (h0 : cmpct (P ++ [x]) = P ++ [x]) :
  ∃ r, iter (fun s => run0 (gH63_1 s)) (n, ((P.length + 1 : Nat) : Int), P.length + 1, n - (P.length + 1), (1 : Int), P ++ x :: x :: R, ()) = some r ∧
   r.1 = n ∧ r.2.1 = (((cmpct (P ++ x :: x :: R)).length : Nat) : Int) ∧ (cmpct (P ++ x :: x :: R)).length ≤ n ∧ r.2.2.1.length = n ∧ r.2.2.1.take (cmpct (P ++ x :: x :: R)).length = cmpct (P ++ x :: x :: R) := by
 refine iter_ex (step := fun s => run0 (gH63_1 s)) R.length
  (fun k s => ∃ C J z, s = (n, ((C.length : Nat) : Int), P.length + 1, n - (P.length + 1), ((k + 1 : Nat) : Int), C ++ J ++ z :: R.drop k, ()) ∧ C = cmpct (P ++ x :: x :: R.take k) ∧ (x :: R.take k).getLast? = some z ∧ C.length + J.length = P.length + 1 + k)
  (fun r => r.1 = n ∧ r.2.1 = (((cmpct (P ++ x :: x :: R)).length : Nat) : Int) ∧ (cmpct (P ++ x :: x :: R)).length ≤ n ∧ r.2.2.1.length = n ∧ r.2.2.1.take (cmpct (P ++ x :: x :: R)).length = cmpct (P ++ x :: x :: R)) ?_ ?_ ?_
 ·rintro k s hk ⟨C, J, z, rfl, hC, hz, hl⟩
  have hR : R.drop k = R[k] :: R.drop (k + 1) := List.drop_eq_getElem_cons hk
  generalize hy : R[k] = y at hR
  have htk : R.take (k + 1) = R.take k ++ [y] := by rw [List.take_succ_eq_append_getElem hk, hy]
  have hsn : cmpct (P ++ x :: x :: R.take (k + 1)) = if z = y then C else C ++ [y] := by
   obtain ⟨A, hA⟩ : ∃ A, x :: R.take k = A ++ [z] := by
    obtain ⟨A, hA⟩ := List.getLast?_eq_some_iff.1 hz
    exact ⟨A, hA⟩
   have e1 : P ++ x :: x :: R.take k = (P ++ x :: A) ++ [z] := by rw [hA]; simp
   have e2 : P ++ x :: x :: R.take (k + 1) = (P ++ x :: A) ++ [z, y] := by
    rw [htk, show x :: (R.take k ++ [y]) = (x :: R.take k) ++ [y] by simp, hA]; simp
   rw [e2, cmpct_snoc, hC, e1]
  rw [hR]
  have i1 : inb ((k + 1 : Nat) : Int) (((n - (P.length + 1) : Nat)) : Int) = true := inb_t (by omega) (by omega)
  have i2 : inb (((k + 1 : Nat) : Int) - 1) (((n - (P.length + 1) : Nat)) : Int) = true := inb_t (by omega) (by omega)
  have t1 : Int.toNat (((k + 1 : Nat) : Int) - 1) = k := by omega
  have p1 : P.length + 1 + (k + 1) = (C ++ J ++ [z]).length := by simp; omega
  have p2 : P.length + 1 + k = (C ++ J).length := by simp; omega
  have e3 : C ++ J ++ z :: y :: R.drop (k + 1) = (C ++ J ++ [z]) ++ y :: R.drop (k + 1) := by simp
  have g1 : (C ++ J ++ z :: y :: R.drop (k + 1)).getD (P.length + 1 + (k + 1)) ((0 : Int), (0 : Int)) = y := by rw [e3]; exact getD_mid p1
  have g2 : (C ++ J ++ z :: y :: R.drop (k + 1)).getD (P.length + 1 + k) ((0 : Int), (0 : Int)) = z := getD_mid p2
  have hlen : (C ++ J ++ z :: y :: R.drop (k + 1)).length = n := by simp; omega
  have d1 : decide (P.length + 1 + (k + 1) < (C ++ J ++ z :: y :: R.drop (k + 1)).length) = true := decide_eq_true (by rw [hlen]; omega)
  have d2 : decide (P.length + 1 + k < (C ++ J ++ z :: y :: R.drop (k + 1)).length) = true := decide_eq_true (by rw [hlen]; omega)
  have d3 : decide (C.length < (C ++ J ++ z :: y :: R.drop (k + 1)).length) = true := decide_eq_true (by rw [hlen]; omega)
  have i3 : inb ((C.length : Nat) : Int) ((n : Nat) : Int) = true := inb_t (by omega) (by omega)
  have r1 : rng .i64 (((k + 1 : Nat) : Int) - 1) = true := rng_i64 (by omega) (by omega)
  have r2 : rng .i64 (((k + 1 : Nat) : Int) + 1) = true := rng_i64 (by omega) (by omega)
  have r3 : rng .i64 (((C.length : Nat) : Int) + 1) = true := rng_i64 (by omega) (by omega)
  simp only [gH63_1, run_br, run_bd, run_nb, run_nd, run_ni, run_ret, Int.toNat_natCast, t1, i1, i2, i3, r1, r2, r3, need_true, br_d, br_not, g1, g2, d1, d2, d3, eqP, Nat.zero_add, pr_eta]
  rw [if_pos (by omega)]
  by_cases hzy : y = z
  ·rw [if_pos hzy]
   refine ⟨_, rfl, C, J ++ [z], y, ?_, ?_, ?_, by simp; omega⟩
   ·simp
   ·rw [hsn, if_pos hzy.symm]
   ·rw [htk, List.getLast?_cons]; simp
  ·rw [if_neg hzy]
   obtain ⟨j, J', hJ⟩ : ∃ j J', J ++ [z] = j :: J' := by
    cases J with
    | nil => exact ⟨z, [], rfl⟩
    | cons j J => exact ⟨j, J ++ [z], rfl⟩
   have e4 : C ++ J ++ z :: y :: R.drop (k + 1) = C ++ j :: (J' ++ y :: R.drop (k + 1)) := by
    rw [show C ++ J ++ z :: y :: R.drop (k + 1) = C ++ (J ++ [z]) ++ y :: R.drop (k + 1) by simp, hJ]; simp
   have hjl : J'.length + 1 = J.length + 1 := by have := congrArg List.length hJ; simpa using this.symm
   refine ⟨_, rfl, C ++ [y], J', y, ?_, ?_, ?_, by simp; omega⟩
   ·rw [e4, set_mid rfl]; simp
   ·rw [hsn, if_neg (fun h => hzy h.symm)]
   ·rw [htk, List.getLast?_cons]; simp
 ·rintro s ⟨C, J, z, rfl, hC, hz, hl⟩
  simp only [List.take_length, List.drop_length] at hC hz ⊢
  simp only [gH63_1, run_br, br_d, run_ret]
  rw [if_neg (by omega)]
  refine ⟨_, rfl, rfl, by rw [← hC], by rw [← hC]; omega, by simp; omega, ?_⟩
  simp only
  rw [← hC, List.append_assoc, List.take_left' rfl]
 ·refine ⟨P ++ [x], [], x, by simp, ?_, by simp, by simp⟩
  rw [List.take_zero, show P ++ [x, x] = P ++ [x, x] from rfl, cmpct_snoc, if_pos rfl, h0]
theorem kH63 {l : List Pt} (hl : l.length ≤ 1000) : ∃ n b, run0 (FH63 l.length l) = some (0, n, b, ()) ∧ n = (cmpct l).length ∧ b.take n = cmpct l := by
 by_cases h2 : l.length < 2
 ·refine ⟨l.length, l, ?_, ?_⟩
  ·simp only [FH63, run_br, br_d, run_ret]
   rw [if_pos (by omega)]
  ·match l, h2 with
   | [], _ => exact ⟨rfl, rfl⟩
   | [a], _ => exact ⟨rfl, rfl⟩
 have key : ∀ m k, m + k = l.length → 1 ≤ k → cmpct (l.take k) = l.take k → ∃ r, iter (fun s => run0 (gH63_0 s)) (l.length, ((k : Nat) : Int), l, ()) = some r ∧
   ((∃ n b, r = .inl (0, n, b, ()) ∧ n = (cmpct l).length ∧ b.take n = cmpct l) ∨ (r = .inr (l.length, l, ()) ∧ cmpct l = l)) := by
  intro m
  induction m with
  | zero =>
   intro k hk h1 hc
   rw [List.take_of_length_le (by omega)] at hc
   refine ⟨_, iter_inr (b := .inr (l.length, l, ())) ?_, .inr ⟨rfl, hc⟩⟩
   simp only [gH63_0, run_br, br_d, run_ret]
   rw [if_neg (by omega)]
  | succ m ih =>
   intro k hk h1 hc
   have hlt : k < l.length := by omega
   have e0 : l = l.take (k - 1) ++ l[k - 1] :: l[k] :: l.drop (k + 1) := by
    have a1 : l.drop (k - 1) = l[k - 1] :: l.drop (k - 1 + 1) := List.drop_eq_getElem_cons (by omega)
    rw [show k - 1 + 1 = k by omega] at a1
    have a2 : l.drop k = l[k] :: l.drop (k + 1) := List.drop_eq_getElem_cons (by omega)
    rw [← a2, ← a1, List.take_append_drop]
   generalize hP : l.take (k - 1) = P at e0
   generalize hx : l[k - 1] = x at e0
   generalize hy : l[k] = y at e0
   generalize hR : l.drop (k + 1) = R at e0
   have hPl : P.length = k - 1 := by rw [← hP]; simp; omega
   have hRl : R.length = l.length - (k + 1) := by rw [← hR]; simp
   have htk : l.take k = P ++ [x] := by
    rw [e0, show P ++ x :: y :: R = (P ++ [x]) ++ y :: R by simp, List.take_left' (by simp; omega)]
   rw [htk] at hc
   have g1 : l.getD k ((0 : Int), (0 : Int)) = y := by rw [← hy]; simp [List.getD, hlt]
   have g2 : l.getD (k - 1) ((0 : Int), (0 : Int)) = x := by rw [← hx]; simp [List.getD, show k - 1 < l.length by omega]
   have t1 : Int.toNat ((k : Int) - 1) = k - 1 := by omega
   have i1 : inb (k : Int) ((l.length : Nat) : Int) = true := inb_t (by omega) (by omega)
   have i2 : inb ((k : Int) - 1) ((l.length : Nat) : Int) = true := inb_t (by omega) (by omega)
   have d1 : decide (k < l.length) = true := decide_eq_true hlt
   have d2 : decide (k - 1 < l.length) = true := decide_eq_true (by omega)
   have r1 : rng .i64 ((k : Int) - 1) = true := rng_i64 (by omega) (by omega)
   have r2 : rng .i64 ((k : Int) + 1) = true := rng_i64 (by omega) (by omega)
   by_cases hyx : y = x
   ·subst hyx
    obtain ⟨r, q1, q2, q3, q4, q5, q6⟩ := comp_in (P := P) (R := R) (x := y) (n := l.length) (by omega) hl hc
    rw [← e0] at q1 q3 q4 q6
    obtain ⟨rn, rv, rb, _⟩ := r
    simp only at q2 q3 q5 q6
    subst q2; subst q3
    have f1 : ((P.length + 1 : Nat) : Int) = (k : Int) := by omega
    have f2 : P.length + 1 = k := by omega
    rw [f1, f2] at q1
    refine ⟨_, iter_inr (b := .inl (0, (cmpct l).length, clrL ((0 : Int), (0 : Int)) rb (cmpct l).length (l.length - (cmpct l).length), ())) ?_, .inl ⟨_, _, rfl, rfl, ?_⟩⟩
    ·have c1 : decide ((0 : Int) ≤ (k : Int)) = true := decide_eq_true (by omega)
     have c2 : decide ((k : Int) ≤ ((l.length : Nat) : Int)) = true := decide_eq_true (by omega)
     have c3 : decide (((l.length : Nat) : Int) ≤ ((l.length : Nat) : Int)) = true := decide_eq_true (by omega)
     have c4 : decide ((0 : Int) ≤ (((cmpct l).length : Nat) : Int)) = true := decide_eq_true (by omega)
     have c5 : decide ((((cmpct l).length : Nat) : Int) ≤ ((l.length : Nat) : Int)) = true := decide_eq_true (by omega)
     have c6 : decide ((0 : Int) ≤ (0 : Int)) = true := rfl
     simp only [gH63_0, run_br, run_bd, run_it, run_nb, run_nd, run_ni, run_ret, Int.toNat_natCast, Nat.zero_add, t1, g1, g2, i1, i2, d1, d2, r1, r2, need_true, br_d, eqP, c1, c2, c3]
     rw [if_pos (by omega), if_pos trivial]
     refine bind_eq q1 ?_
     simp only [c1, c3, c4, c5, c6, need_true, Int.toNat_natCast, Int.toNat_zero, Nat.sub_zero]
    ·unfold clrL
     rw [List.append_assoc, List.take_left' (by simp; omega)]
     exact q6
   ·obtain ⟨r, q1, q2⟩ := ih (k + 1) (by omega) (by omega) (by
     rw [List.take_succ_eq_append_getElem hlt, hy, htk, List.append_assoc]
     show cmpct (P ++ [x, y]) = _
     rw [cmpct_snoc, if_neg (fun h => hyx h.symm), hc]; simp)
    refine ⟨r, iter_inl ?_ q1, q2⟩
    simp only [gH63_0, run_br, run_bd, run_it, run_nb, run_nd, run_ni, run_ret, Int.toNat_natCast, Nat.zero_add, t1, g1, g2, i1, i2, d1, d2, r1, r2, need_true, br_d, eqP]
    rw [if_pos (by omega), if_neg hyx]
    rfl
 obtain ⟨r, q1, q2⟩ := key (l.length - 1) 1 (by omega) (by omega) (by
  match l, h2 with
  | a :: l, _ => rfl)
 rcases q2 with ⟨n, b, rfl, h3, h4⟩ | ⟨rfl, h3⟩
 ·refine ⟨n, b, ?_, h3, h4⟩
  simp only [FH63, run_br, br_d, run_bd, run_it]
  rw [if_neg (by omega)]
  exact bind_eq q1 rfl
 ·refine ⟨l.length, l, ?_, by rw [h3], by rw [h3]; simp⟩
  simp only [FH63, run_br, br_d, run_bd, run_it]
  rw [if_neg (by omega)]
  exact bind_eq q1 rfl
end Go.Proofs.Try
end
section
namespace Go.Proofs.Try
open Go.AM Go.Geo
set_option maxRecDepth 100000
/-- Within bounds. -/
def Bd (K : Int) (p : Pt) : Prop := -K ≤ p.1 ∧ p.1 ≤ K ∧ -K ≤ p.2 ∧ p.2 ≤ K
theorem mulb {a b K M : Int} (h1 : -K ≤ a) (h2 : a ≤ K) (h3 : -M ≤ b) (h4 : b ≤ M) : -(K * M) ≤ a * b ∧ a * b ≤ K * M := by
 have e1 : 0 ≤ (K - a) * (M - b) := Int.mul_nonneg (by omega) (by omega)
 have e2 : 0 ≤ (K + a) * (M + b) := Int.mul_nonneg (by omega) (by omega)
 have e3 : 0 ≤ (K - a) * (M + b) := Int.mul_nonneg (by omega) (by omega)
 have e4 : 0 ≤ (K + a) * (M - b) := Int.mul_nonneg (by omega) (by omega)
 simp only [Int.sub_mul, Int.mul_sub, Int.add_mul, Int.mul_add] at e1 e2 e3 e4
 constructor <;> omega
theorem k49 {a b : Pt} (ha : Bd 2000000000000 a) (hb : Bd 2000000000000 b) : run0 (F49 a b) = some (sub a b, ()) := by
 obtain ⟨h1, h2, h3, h4⟩ := ha
 obtain ⟨g1, g2, g3, g4⟩ := hb
 simp only [F49, run_ni, run_ret]
 rw [need_i64 (by omega) (by omega), need_i64 (by omega) (by omega)]
 rfl
theorem k48 {a b : Pt} (ha : Bd 2000000000 a) (hb : Bd 2000000000 b) : run0 (F48 a b) = some (cr a b, ()) := by
 obtain ⟨h1, h2, h3, h4⟩ := ha
 obtain ⟨g1, g2, g3, g4⟩ := hb
 have m1 := mulb h1 h2 g3 g4
 have m2 := mulb h3 h4 g1 g2
 simp only [F48, run_ni, run_ret]
 rw [need_i64 (by omega) (by omega), need_i64 (by omega) (by omega), need_i64 (by omega) (by omega)]
 rfl
theorem bd_sub {K M : Int} {a b : Pt} (ha : Bd K a) (hb : Bd M b) : Bd (K + M) (sub a b) := by
 obtain ⟨h1, h2, h3, h4⟩ := ha
 obtain ⟨g1, g2, g3, g4⟩ := hb
 exact ⟨by simp only [sub]; omega, by simp only [sub]; omega, by simp only [sub]; omega, by simp only [sub]; omega⟩
theorem bd_add {K M : Int} {a b : Pt} (ha : Bd K a) (hb : Bd M b) : Bd (K + M) (add a b) := by
 obtain ⟨h1, h2, h3, h4⟩ := ha
 obtain ⟨g1, g2, g3, g4⟩ := hb
 exact ⟨by simp only [add]; omega, by simp only [add]; omega, by simp only [add]; omega, by simp only [add]; omega⟩
theorem Bd.le {K M : Int} {a : Pt} (ha : Bd K a) (h : K ≤ M) : Bd M a := by
 obtain ⟨h1, h2, h3, h4⟩ := ha
 exact ⟨by omega, by omega, by omega, by omega⟩
theorem k65 {a b c : Pt} (ha : Bd 1000 a) (hb : Bd 1000 b) (hc : Bd 1000 c) : run0 (F65 a b c) = some (decide (0 < turn a b c), ()) := by
 simp only [F65, run_bd, run_ret, pr_eta]
 refine bind_eq (k49 (hb.le (by omega)) (ha.le (by omega))) (bind_eq (k49 (hc.le (by omega)) (ha.le (by omega))) ?_)
 simp only [pr_eta]
 refine bind_eq (k48 ((bd_sub hb ha).le (by omega)) ((bd_sub hc ha).le (by omega))) ?_
 rw [turn_cr]
/-- The last ones are taken away. -/
theorem keep_in {x : Pt} (hx : Bd 1000 x) {n : Nat} : ∀ (st W : List Pt), (∀ p ∈ st, Bd 1000 p) → (st.reverse ++ W).length ≤ 1000 →
  ∃ st', kp x st = x :: st' ∧ iter (fun s => run0 (gH64_0 s)) ((0 : Nat), st.length, st.reverse ++ W, x.1, x.2, ()) = some (0, st'.length, st.reverse ++ W, x.1, x.2, ()) ∧ st'.length ≤ st.length ∧ (st.reverse ++ W).take st'.length = st'.reverse
 | [], W, _, _ => ⟨[], rfl, iter_inr (by simp only [gH64_0, run_br, br_d, run_ret, List.length_nil]; rw [if_neg (by omega)]), by simp, by simp⟩
 | [b], W, _, _ => ⟨[b], rfl, iter_inr (by simp only [gH64_0, run_br, br_d, run_ret, List.length_singleton]; rw [if_neg (by omega)]), by simp, by simp⟩
 | b :: a :: r, W, hb, hl => by
  have e0 : (b :: a :: r).reverse ++ W = r.reverse ++ a :: b :: W := by simp
  have g1 : (r.reverse ++ a :: b :: W).getD r.length ((0 : Int), (0 : Int)) = a := getD_mid (by simp)
  have g2 : (r.reverse ++ a :: b :: W).getD (r.length + 1) ((0 : Int), (0 : Int)) = b := by
   rw [show r.reverse ++ a :: b :: W = (r.reverse ++ [a]) ++ b :: W by simp]; exact getD_mid (by simp)
  have hlen : (r.reverse ++ a :: b :: W).length ≤ 1000 := by rw [← e0]; exact hl
  have hlen2 : (r.reverse ++ a :: b :: W).length = r.length + 2 + W.length := by simp; omega
  rw [e0]
  have ln : (b :: a :: r).length = r.length + 2 := rfl
  rw [ln]
  have t1 : Int.toNat (((r.length + 2 : Nat) : Int) - 2) = r.length := by omega
  have t2 : Int.toNat (((r.length + 2 : Nat) : Int) - 1) = r.length + 1 := by omega
  have i1 : inb (((r.length + 2 : Nat) : Int) - 2) ((r.length + 2 : Nat) : Int) = true := inb_t (by omega) (by omega)
  have i2 : inb (((r.length + 2 : Nat) : Int) - 1) ((r.length + 2 : Nat) : Int) = true := inb_t (by omega) (by omega)
  have r1 : rng .i64 (((r.length + 2 : Nat) : Int) - 2) = true := rng_i64 (by omega) (by omega)
  have r2 : rng .i64 (((r.length + 2 : Nat) : Int) - 1) = true := rng_i64 (by omega) (by omega)
  have d1 : decide (r.length < (r.reverse ++ a :: b :: W).length) = true := decide_eq_true (by omega)
  have d2 : decide (r.length + 1 < (r.reverse ++ a :: b :: W).length) = true := decide_eq_true (by omega)
  have d3 : decide ((0 : Int) ≤ (0 : Int)) = true := rfl
  have d4 : decide ((0 : Int) ≤ ((r.length + 2 : Nat) : Int) - 1) = true := decide_eq_true (by omega)
  have d5 : decide (((r.length + 2 : Nat) : Int) - 1 ≤ ((r.length + 2 : Nat) : Int)) = true := decide_eq_true (by omega)
  have hk := k65 (hb a (by simp)) (hb b (by simp)) hx
  have hstep : run0 (gH64_0 ((0 : Nat), r.length + 2, r.reverse ++ a :: b :: W, x.1, x.2, ())) = if 0 < turn a b x then some (.inr (0, r.length + 2, r.reverse ++ a :: b :: W, x.1, x.2, ())) else some (.inl (0, r.length + 1, r.reverse ++ a :: b :: W, x.1, x.2, ())) := by
   simp only [gH64_0, run_br, run_bd, run_nb, run_nd, run_ni, run_ret, t1, t2, i1, i2, r1, r2, need_true, br_d, br_not, Nat.zero_add, g1, g2, d1, d2, d3, d4, d5, pr_eta, hk, bindO_s]
   rw [if_pos (by omega)]
   by_cases h : 0 < turn a b x <;> simp [h]
  unfold kp
  by_cases h : 0 < turn a b x
  ·rw [if_pos h] at hstep
   rw [if_pos h]
   refine ⟨b :: a :: r, rfl, iter_inr hstep, by simp, ?_⟩
   have : (b :: a :: r).length = ((b :: a :: r).reverse).length := by simp
   rw [← e0, this, List.take_left' rfl]
  ·rw [if_neg h] at hstep
   rw [if_neg h]
   obtain ⟨st', q1, q2, q3, q4⟩ := keep_in hx (n := n) (a :: r) (b :: W) (fun p hp => hb p (List.mem_cons_of_mem _ hp)) (by simp at hl ⊢; omega)
   have e1 : (a :: r).reverse ++ b :: W = r.reverse ++ a :: b :: W := by simp
   rw [e1] at q2 q4
   exact ⟨st', q1, iter_inl hstep q2, Nat.le_succ_of_le q3, q4⟩
theorem kH64 {x : Pt} (hx : Bd 1000 x) {st : List Pt} (hb : ∀ p ∈ st, Bd 1000 p) (hl : st.length ≤ 900) : run0 (FH64 st.length x st.reverse) = some ((kp x st).length, (kp x st).reverse, ()) := by
 obtain ⟨st', q1, q2, q3, q4⟩ := keep_in hx (n := 0) st [] hb (by simp; omega)
 simp only [List.append_nil] at q2 q4
 simp only [FH64, run_bd, run_it, run_nd, run_ret]
 refine bind_eq q2 ?_
 simp only [List.drop_zero, List.take_succ_cons, List.take_zero, List.length_nil, Nat.zero_add, q4, q1, List.length_cons, List.reverse_cons, pr_eta]
 rw [need_lenbig (by omega)]
theorem kp_mem {x v : Pt} : ∀ {st : List Pt}, v ∈ kp x st → v = x ∨ v ∈ st
 | [], h => by simpa [kp] using h
 | [b], h => by simpa [kp] using h
 | b :: a :: r, h => by
  unfold kp at h
  split at h
  ·simpa using h
  ·rcases kp_mem h with h | h
   ·exact .inl h
   ·exact .inr (List.mem_cons_of_mem _ h)
theorem kp_len {x : Pt} : ∀ {st : List Pt}, (kp x st).length ≤ st.length + 1
 | [] => by simp [kp]
 | [b] => by simp [kp]
 | b :: a :: r => by
  unfold kp
  split
  ·simp
  ·have := kp_len (x := x) (st := a :: r)
   simp at this ⊢; omega
theorem chn_snoc (l : List Pt) (x : Pt) : chn (l ++ [x]) = kp x (chn l) := by simp [chn, List.foldl_append]
theorem chn_facts {l : List Pt} (hb : ∀ p ∈ l, Bd 1000 p) : (∀ p ∈ chn l, Bd 1000 p) ∧ (chn l).length ≤ l.length := by
 have key : ∀ n (l : List Pt), l.length = n → (∀ p ∈ l, Bd 1000 p) → (∀ p ∈ chn l, Bd 1000 p) ∧ (chn l).length ≤ l.length := by
  intro n
  induction n with
  | zero => intro l hl _; rw [List.length_eq_zero_iff.1 hl]; exact ⟨by simp [chn], by simp [chn]⟩
  | succ n ih =>
   intro l hl hb
   have hne : l ≠ [] := fun e => by rw [e] at hl; simp at hl
   have e := List.dropLast_concat_getLast hne
   rw [← e] at hb ⊢
   have ih := ih l.dropLast (by simp; omega) fun p hp => hb p (List.mem_append_left _ hp)
   rw [chn_snoc]
   refine ⟨fun p hp => ?_, ?_⟩
   ·rcases kp_mem hp with h | h
    ·subst h; exact hb _ (by simp)
    ·exact ih.1 p h
   ·have := kp_len (x := l.getLast hne) (st := chn l.dropLast)
    simp only [List.length_append, List.length_singleton]; omega
 exact key _ l rfl hb
theorem kH55 {l : List Pt} (hl : l.length ≤ 1000) : run0 (FH55 l) = some (l.length, l, ()) := by
 simp only [FH55, run_br, run_am, run_nd, run_ret, br_eq]
 rw [need_lenbig (by omega)]
 split
 ·have : l = [] := List.length_eq_zero_iff.1 (by omega)
  subst this
  simp only [List.length_nil, List.drop_nil, List.take_nil, List.append_nil, Nat.add_zero]
  exact ambO_same
 ·simp
/-- Lists, one after the other. -/
theorem k67 {ls : List (List Pt)} (hl : ls.length ≤ 10) (hb : ls.flatten.length ≤ 1000) : run0 (F67 ls) = some (ls.flatten, ()) := by
 have hpre : ∀ k, k ≤ ls.length → (ls.take k).flatten.length ≤ 1000 := fun k _ => by
  have : (ls.take k).flatten.length ≤ ls.flatten.length := by
   conv => rhs; rw [← List.take_append_drop k ls, List.flatten_append, List.length_append]
   omega
  omega
 have hk : ∀ k (h : k < ls.length), (ls.take (k + 1)).flatten = (ls.take k).flatten ++ ls[k] := fun k h => by
  rw [List.take_succ_eq_append_getElem h, List.flatten_append]; simp
 obtain ⟨r, q1, q2⟩ := iter_ex (step := fun s => run0 (g67_0 s)) ls.length (fun k s => s = (ls, (((ls.take k).flatten.length : Nat) : Int), ls, ((ls.length : Nat) : Int), ((k : Nat) : Int), ()))
  (fun r => r = (ls, ((ls.flatten.length : Nat) : Int), ())) (fun k s hk0 hs => by
   subst hs
   have g1 : ls.getD k [] = ls[k] := by simp [List.getD, hk0]
   have h1 := hpre (k + 1) (by omega)
   rw [hk k hk0, List.length_append] at h1
   have i1 : inb (k : Int) ((ls.length : Nat) : Int) = true := inb_t (by omega) (by omega)
   have r1 : rng .i64 ((((ls.take k).flatten.length : Nat) : Int) + ((ls[k].length : Nat) : Int)) = true := rng_i64 (by omega) (by omega)
   have r2 : rng .i64 ((k : Int) + 1) = true := rng_i64 (by omega) (by omega)
   refine ⟨_, ?_, rfl⟩
   simp only [g67_0, run_br, run_nb, run_ni, run_ret, run_no, Int.toNat_natCast, g1, i1, r1, r2, need_true, br_d]
   rw [if_pos (by omega), if_neg (by omega), hk k hk0, List.length_append]
   simp only [Int.natCast_add, Int.natCast_one]) (fun s hs => by
   subst hs
   refine ⟨_, ?_, rfl⟩
   simp only [g67_0, run_br, run_ret, br_d, List.take_length]
   rw [if_neg (by omega)]) (x := (ls, 0, ls, ((ls.length : Nat) : Int), 0, ())) (by simp)
 subst q2
 simp only [F67, run_bd, run_it, run_ret]
 refine bind_eq q1 ?_
 have hg : ∃ b, run0 (FH73 ((ls.flatten.length : Nat) : Int)) = some (0, 0, b, ()) := by
  simp only [FH73, run_br, br_d, run_ni, run_nd, run_nb, run_ret, run_no]
  rw [if_neg (by omega), need_i64 (by omega) (by omega), need_i64 (by omega) (by omega)]
  split
  ·have d1 : ((0 : Int) == (0 : Int)) = true := rfl
   have d2 : decide ((0 : Int) ≤ (0 : Int)) = true := rfl
   have d3 : decide ((0 : Int) ≤ ((Int.toNat (((ls.flatten.length : Nat) : Int) - 0) : Nat) : Int)) = true := decide_eq_true (by omega)
   rw [need_inbig (by omega) (by omega)]
   simp only [d1, d2, d3, need_true]
   exact ⟨_, rfl⟩
  ·exact ⟨_, rfl⟩
 obtain ⟨b, hg⟩ := hg
 refine bind_eq hg ?_
 simp only
 obtain ⟨r, p1, p2⟩ := iter_ex (step := fun s => run0 (g67_1 s)) ls.length (fun k s => ∃ lo n b, s = (lo, n, ls, ((ls.length : Nat) : Int), ((k : Nat) : Int), b, ()) ∧ (b.drop lo).take n = (ls.take k).flatten ∧ n = (ls.take k).flatten.length)
  (fun r => (r.2.2.1.drop r.1).take r.2.1 = ls.flatten) (fun k s hk0 hs => by
   obtain ⟨lo, n, b, rfl, e1, e2⟩ := hs
   have g1 : ls.getD k [] = ls[k] := by simp [List.getD, hk0]
   have h1 := hpre (k + 1) (by omega)
   rw [hk k hk0, List.length_append] at h1
   have i1 : inb (k : Int) ((ls.length : Nat) : Int) = true := inb_t (by omega) (by omega)
   have r2 : rng .i64 ((k : Int) + 1) = true := rng_i64 (by omega) (by omega)
   refine ⟨_, ?_, 0, n + ls[k].length, (ls.take k).flatten ++ ls[k], rfl, ?_, ?_⟩
   ·simp only [g67_1, run_br, run_nb, run_nd, run_ni, run_ret, Int.toNat_natCast, g1, i1, r2, need_true, br_d, e1]
    rw [if_pos (by omega), need_lenbig (by omega)]
    simp only [Int.natCast_add, Int.natCast_one]
   ·rw [hk k hk0, List.drop_zero, List.take_of_length_le (by rw [List.length_append]; omega)]
   ·rw [hk k hk0, List.length_append]; omega) (fun s hs => by
   obtain ⟨lo, n, b, rfl, e1, e2⟩ := hs
   refine ⟨(lo, n, b, ()), ?_, ?_⟩
   ·simp only [g67_1, run_br, run_ret, br_d]
    rw [if_neg (by omega)]
   ·simp only; rw [e1, List.take_length]) (x := ((0 : Nat), (0 : Nat), ls, ((ls.length : Nat) : Int), 0, b, ())) ⟨0, 0, b, by simp, by simp, by simp⟩
 exact bind_eq p1 (by rw [p2])
/-- The hull. -/
theorem k46 {l : List Pt} (hl : l.length ≤ 12) (hb : ∀ p ∈ l, Bd 1000 p) : run0 (F46 l) = some (hullP l, ()) := by
 obtain ⟨n, b, q1, q2, q3⟩ := kH63 (l := isort ltP l) (by rw [isort_length]; omega)
 rw [isort_length] at q1
 simp only [F46, run_bd, run_it]
 refine bind_eq (kH55 (by omega)) ?_
 simp only
 refine bind_eq (kH61 hl) ?_
 simp only
 refine bind_eq q1 ?_
 simp only [run_br, br_d, run_ret, List.drop_zero, q3]
 have hs : hullP l = hullS (cmpct (isort ltP l)) := rfl
 rw [hs]
 have hbs : ∀ p ∈ cmpct (isort ltP l), Bd 1000 p := fun p hp => hb p ((isort_perm l).mem_iff.1 (mem_cmpct.1 hp))
 have hnl : (cmpct (isort ltP l)).length ≤ 12 := by
  have key : ∀ k : List Pt, (cmpct k).length ≤ k.length := by
   intro k
   match k with
   | [] => simp [cmpct]
   | [a] => simp [cmpct]
   | a :: b :: r =>
    have key2 : ∀ n (k : List Pt), k.length = n → (cmpct k).length ≤ k.length := by
     intro n
     induction n with
     | zero => intro k hk; rw [List.length_eq_zero_iff.1 hk]; simp [cmpct]
     | succ n ih =>
      intro k hk
      match k, hk with
      | [a], _ => simp [cmpct]
      | a :: b :: r, hk =>
       have := ih (b :: r) (by simpa using hk)
       unfold cmpct
       split
       ·simp at this ⊢; omega
       ·simp at this ⊢; omega
    exact key2 _ _ rfl
  have := key (isort ltP l)
  rw [isort_length] at this; omega
 generalize cmpct (isort ltP l) = s at *
 subst q2
 unfold hullS
 by_cases h3 : s.length < 3
 ·rw [if_pos (by omega), if_pos h3]
 rw [if_neg (by omega), if_neg h3]
 have hsb : ∀ k (h : k < s.length), b.getD k ((0 : Int), (0 : Int)) = s[k] := fun k h => by
  have e : b[k]? = some s[k] := by
   rw [← List.getElem?_eq_getElem h, ← q3, List.getElem?_take, if_pos h]
  rw [List.getD_eq_getElem?_getD, e]; rfl
 have hbl : s.length ≤ b.length := by
  have := congrArg List.length q3
  rw [List.length_take] at this; omega
 have htk : ∀ (u : List Pt) k (h : k < u.length), u.take (k + 1) = u.take k ++ [u[k]] := fun u k h => List.take_succ_eq_append_getElem h
 -- there
 obtain ⟨r, p1, p2⟩ := iter_ex (step := fun x => run0 (g46_0 x)) s.length (fun k x => x = ((0 : Nat), s.length, (chn (s.take k)).length, (0 : Nat), s.length, ((s.length : Nat) : Int), ((k : Nat) : Int), b, (chn (s.take k)).reverse, ()))
  (fun r => r = ((0 : Nat), s.length, (chn s).length, b, (chn s).reverse, ())) (fun k x hk hx => by
   subst hx
   obtain ⟨f1, f2⟩ := chn_facts (l := s.take k) fun p hp => hbs p (List.mem_of_mem_take hp)
   have f3 : (s.take k).length ≤ 12 := by simp; omega
   have i1 : inb (k : Int) ((s.length : Nat) : Int) = true := inb_t (by omega) (by omega)
   have d1 : decide (k < b.length) = true := decide_eq_true (by omega)
   have r2 : rng .i64 ((k : Int) + 1) = true := rng_i64 (by omega) (by omega)
   refine ⟨_, ?_, rfl⟩
   simp only [g46_0, run_br, run_bd, run_nb, run_nd, run_ni, run_ret, Int.toNat_natCast, Nat.zero_add, hsb k hk, i1, d1, r2, need_true, br_d, pr_eta]
   rw [if_pos (by omega)]
   refine bind_eq (kH64 (hbs _ (List.getElem_mem hk)) f1 (by omega)) ?_
   rw [htk s k hk, chn_snoc]
   simp only [Int.natCast_add, Int.natCast_one]) (fun x hx => by
   subst hx
   refine ⟨_, ?_, rfl⟩
   simp only [g46_0, run_br, run_ret, br_d, List.take_length]
   rw [if_neg (by omega)]) (x := ((0 : Nat), s.length, (0 : Nat), (0 : Nat), s.length, ((s.length : Nat) : Int), 0, b, [], ())) (by simp [chn])
 subst p2
 refine bind_eq p1 ?_
 simp only [F66, run_bd, run_ret, bindO_s, List.drop_zero, q3]
 -- back
 obtain ⟨r, u1, u2⟩ := iter_ex (step := fun x => run0 (g46_1i_0 x)) s.length
  (fun k x => x = (s, ((s.length : Nat) : Int) - 1 - (k : Int), (chn s).length, s, (chn s).reverse, (chn (s.reverse.take k)).length, (chn (s.reverse.take k)).reverse, ()))
  (fun r => r = ((chn s.reverse).length, (chn s).length, s, (chn s).reverse, (chn s.reverse).reverse, ())) (fun k x hk hx => by
   subst hx
   obtain ⟨f1, f2⟩ := chn_facts (l := s.reverse.take k) fun p hp => hbs p (by simpa using List.mem_of_mem_take hp)
   have f3 : (s.reverse.take k).length ≤ 12 := by simp; omega
   have t1 : Int.toNat (((s.length : Nat) : Int) - 1 - (k : Int)) = s.length - 1 - k := by omega
   have hk2 : k < s.reverse.length := by simpa using hk
   have g1 : s.getD (s.length - 1 - k) ((0 : Int), (0 : Int)) = s.reverse[k] := by
    rw [List.getElem_reverse, List.getD_eq_getElem?_getD, List.getElem?_eq_getElem (by omega)]; rfl
   have i1 : inb (((s.length : Nat) : Int) - 1 - (k : Int)) ((s.length : Nat) : Int) = true := inb_t (by omega) (by omega)
   have r2 : rng .i64 (((s.length : Nat) : Int) - 1 - (k : Int) - 1) = true := rng_i64 (by omega) (by omega)
   refine ⟨_, ?_, rfl⟩
   simp only [g46_1i_0, run_br, run_bd, run_nb, run_nd, run_ni, run_ret, t1, g1, i1, r2, need_true, br_d, pr_eta]
   rw [if_pos (by omega)]
   refine bind_eq (kH64 (hbs _ (by simp)) f1 (by omega)) ?_
   rw [htk s.reverse k hk2, chn_snoc]
   simp only [Int.natCast_add, Int.natCast_one, ← Int.sub_sub]) (fun x hx => by
   subst hx
   refine ⟨_, ?_, rfl⟩
   simp only [g46_1i_0, run_br, run_ret, br_d]
   rw [if_neg (by omega), show s.reverse.take s.length = s.reverse from List.take_of_length_le (by simp)]) (x := (s, ((s.length : Nat) : Int) - 1, (chn s).length, s, (chn s).reverse, (0 : Nat), [], ())) (by simp [chn])
 subst u2
 have hg : run0 (g46_1 ((chn s).length, s, (chn s).reverse, ())) = some ((chn s).length, (chn s).reverse, (chn s.reverse).length, (chn s.reverse).reverse, ()) := by
  simp only [g46_1, run_ni, run_bd, run_it, run_ret]
  rw [need_i64 (by omega) (by omega)]
  exact bind_eq u1 rfl
 refine bind_eq hg ?_
 obtain ⟨f1, f2⟩ := chn_facts hbs
 obtain ⟨g1, g2⟩ := chn_facts (l := s.reverse) fun p hp => hbs p (by simpa using hp)
 rw [List.length_reverse] at g2
 have hne : ∀ u : List Pt, u ≠ [] → 0 < (chn u).length := fun u hu => by
  have e := List.dropLast_concat_getLast hu
  rw [← e, chn_snoc]
  generalize chn u.dropLast = st
  match st with
  | [] => simp [kp]
  | [b] => simp [kp]
  | b :: a :: r =>
   obtain ⟨st', w1, -⟩ : ∃ st', kp (u.getLast hu) (b :: a :: r) = u.getLast hu :: st' ∧ True := by
    have key : ∀ st : List Pt, ∃ st', kp (u.getLast hu) st = u.getLast hu :: st' := by
     intro st
     induction st with
     | nil => exact ⟨[], rfl⟩
     | cons b r ih =>
      cases r with
      | nil => exact ⟨[b], rfl⟩
      | cons a r =>
       unfold kp
       split
       ·exact ⟨_, rfl⟩
       ·exact ih
    obtain ⟨st', h⟩ := key (b :: a :: r)
    exact ⟨st', h, trivial⟩
   rw [w1]; simp
 have hs1 := hne s (fun e => by rw [e] at h3; simp at h3)
 have hs2 := hne s.reverse (fun e => by
  have := List.reverse_eq_nil_iff.1 e
  rw [this] at h3; simp at h3)
 have c1 : decide ((0 : Int) ≤ (0 : Int)) = true := rfl
 have c2 : decide ((0 : Int) ≤ (((chn s).length : Nat) : Int) - 1) = true := decide_eq_true (by omega)
 have c3 : decide ((((chn s).length : Nat) : Int) - 1 ≤ (((chn s).length : Nat) : Int)) = true := decide_eq_true (by omega)
 have c4 : decide ((0 : Int) ≤ (((chn s.reverse).length : Nat) : Int) - 1) = true := decide_eq_true (by omega)
 have c5 : decide ((((chn s.reverse).length : Nat) : Int) - 1 ≤ (((chn s.reverse).length : Nat) : Int)) = true := decide_eq_true (by omega)
 have r1 : rng .i64 ((((chn s).length : Nat) : Int) - 1) = true := rng_i64 (by omega) (by omega)
 have r2 : rng .i64 ((((chn s.reverse).length : Nat) : Int) - 1) = true := rng_i64 (by omega) (by omega)
 simp only [run_ni, run_nd, run_bd, run_ret, r1, r2, c1, c2, c3, c4, c5, need_true, Int.toNat_zero, Nat.add_zero, List.drop_zero, Nat.sub_zero, List.take_succ_cons, List.take_zero]
 have e1 : (chn s).reverse.take (Int.toNat ((((chn s).length : Nat) : Int) - 1)) = (chn s).reverse.dropLast := by
  rw [List.dropLast_eq_take, List.length_reverse]; congr 1; omega
 have e2 : (chn s.reverse).reverse.take (Int.toNat ((((chn s.reverse).length : Nat) : Int) - 1)) = (chn s.reverse).reverse.dropLast := by
  rw [List.dropLast_eq_take, List.length_reverse]; congr 1; omega
 rw [e1, e2, bind_of (k67 (ls := [(chn s).reverse.dropLast, (chn s.reverse).reverse.dropLast]) (by simp) (by simp; omega))]
 simp
end Go.Proofs.Try
end
section
namespace Go.Proofs.Try
open Go.AM Go.Geo
set_option maxRecDepth 100000
def c3 (a b c p : Pt) : Bool := decide (0 < turn a b c) && (decide (0 ≤ turn a b p) && (decide (0 ≤ turn b c p) && decide (0 ≤ turn c a p)))
def c2 (a b p : Pt) : Bool := decide (turn a b p = 0) && (decide ((a.1 - p.1) * (b.1 - p.1) ≤ 0) && decide ((a.2 - p.2) * (b.2 - p.2) ≤ 0))
def amB (l : List Pt) (p : Pt) : Bool := l.any fun a => l.any fun b => c2 a b p || l.any fun c => c3 a b c p
theorem amB_iff {l : List Pt} {p : Pt} : amB l p = true ↔ among l p := by
 simp only [amB, among, c2, c3, List.any_eq_true, Bool.or_eq_true, Bool.and_eq_true, decide_eq_true_eq]
section
variable {l : List Pt} {p : Pt} (hl : l.length ≤ 1000000) (hb : ∀ v ∈ l, Bd 1000000000 v) (hp : Bd 1000000000 p)
include hl hb hp
end
end Go.Proofs.Try
end
section
namespace Go.Proofs.Try
open Go.AM Go.Geo
set_option maxRecDepth 100000
theorem k45 {p : Pt} (h : Bd 1000 p) : run0 (F45 p) = some (false, ()) := by
 obtain ⟨h1, h2, h3, h4⟩ := h
 have e : ∀ z : Int, -1000 ≤ z → z ≤ 1000 → run0 (F59 z 1000) = some (true, ()) := fun z h1 h2 => by
  simp only [F59, run_ni, run_br, br_d, run_ret]
  rw [need_i64 (by omega) (by omega), if_pos (by omega)]
  simp [h2]
 simp only [F45, F41, run_bd, run_br, run_ret, e _ h1 h2, e _ h3 h4, bindO_s, br_true]
 rfl
theorem k44 {l : List Pt} (hl : l.length ≤ 1000) (hb : ∀ p ∈ l, Bd 1000 p) : run0 (F44 l) = some (false, ()) := by
 have h60 : run0 (F60 l) = some (-1, ()) := by
  simp only [F60, run_bd, run_it]
  refine bind_eq (iter_list l (fun k (_ : Unit) => (l, ((l.length : Nat) : Int), (k : Int), ())) (fun _ _ => .inr ()) (fun _ _ => True) ?_ ?_ (s := ()) trivial) rfl
  ·rintro pre x post _ hx -
   have hlen : l.length = pre.length + (post.length + 1) := by rw [hx]; simp
   have hd : l.getD pre.length ((0 : Int), (0 : Int)) = x := by rw [hx]; exact getD_mid rfl
   have i1 : inb (pre.length : Int) ((l.length : Nat) : Int) = true := inb_t (by omega) (by omega)
   have r1 : rng .i64 ((pre.length : Int) + 1) = true := rng_i64 (by omega) (by omega)
   left
   refine ⟨(), ?_, trivial, rfl⟩
   simp only [g60_0, run_br, run_nb, run_bd, run_ni, run_ret, Int.toNat_natCast, hd, i1, r1, need_true, br_d, pr_eta, k45 (hb x (by rw [hx]; simp)), bindO_s, br_false]
   rw [if_pos (by omega)]; rfl
  ·rintro _ _
   simp only [g60_0, run_br, br_d, run_ret]
   rw [if_neg (by omega)]
 simp only [F44, run_bd, h60, bindO_s, run_ret]
 rfl
theorem k24 {l : List Pt} (h1 : l ≠ []) (hl : l.length ≤ 12) (hb : ∀ p ∈ l, Bd 1000 p) : run0 (F24 l) = some (hullP l, 0, ()) := by
 have h0 : l.length ≠ 0 := fun e => h1 (List.length_eq_zero_iff.1 e)
 simp only [F24, run_br, br_d, br_eq, run_bd, run_ret]
 rw [if_neg (by omega), if_neg (by omega)]
 refine bind_eq (k44 (by omega) hb) ?_
 rw [br_false]
 exact bind_eq (k46 hl hb) rfl
theorem k47 {l : List Pt} (hl : l.length ≤ 1000) : run0 (F47 l l) = some (true, ()) := by
 simp only [F47, run_br, br_not, br_eq, run_bd, run_it, run_ret]
 rw [if_pos trivial]
 refine bind_eq (iter_list l (fun k (_ : Unit) => (l, l, ((l.length : Nat) : Int), (k : Int), ())) (fun _ _ => .inr ()) (fun _ _ => True) ?_ ?_ (s := ()) trivial) rfl
 ·rintro pre x post _ hx -
  have hlen : l.length = pre.length + (post.length + 1) := by rw [hx]; simp
  have i1 : inb (pre.length : Int) ((l.length : Nat) : Int) = true := inb_t (by omega) (by omega)
  have r1 : rng .i64 ((pre.length : Int) + 1) = true := rng_i64 (by omega) (by omega)
  left
  refine ⟨(), ?_, trivial, rfl⟩
  simp only [g47_0, run_br, run_nb, run_ni, run_ret, Int.toNat_natCast, i1, r1, need_true, br_d, br_not, eqP]
  rw [if_pos (by omega), if_pos trivial]; rfl
 ·rintro _ _
  simp only [g47_0, run_br, br_d, run_ret]
  rw [if_neg (by omega)]
/-- Units that the program accepts. -/
structure OkU (ls : List (List Pt)) : Prop where
 len : ls.length ≤ 6
 ne : ∀ l ∈ ls, l ≠ []
 le : ∀ l ∈ ls, l.length ≤ 8
 bd : ∀ l ∈ ls, ∀ p ∈ l, Bd 1000 p
 hull : ∀ l ∈ ls, hullP l = l
theorem k29 {ls : List (List Pt)} (h : OkU ls) : run0 (F29 ls) = some (0, ()) := by
 have hlen := h.len
 simp only [F29, run_br, br_d, run_bd, run_it, run_ret]
 rw [if_neg (by omega)]
 refine bind_eq (iter_list ls (fun k (_ : Unit) => (ls, ((ls.length : Nat) : Int), (k : Int), ())) (fun _ _ => .inr ()) (fun _ _ => True) ?_ ?_ (s := ()) trivial) rfl
 ·rintro pre x post _ hx -
  have hlen : ls.length = pre.length + (post.length + 1) := by rw [hx]; simp
  have hxm : x ∈ ls := by rw [hx]; simp
  have hd : ls.getD pre.length [] = x := by rw [hx]; exact getD_mid rfl
  have i1 : inb (pre.length : Int) ((ls.length : Nat) : Int) = true := inb_t (by omega) (by omega)
  have r1 : rng .i64 ((pre.length : Int) + 1) = true := rng_i64 (by omega) (by omega)
  have hle := h.le x hxm
  have q1 := k24 (h.ne x hxm) (by omega) (h.bd x hxm)
  rw [h.hull x hxm] at q1
  left
  refine ⟨(), ?_, trivial, rfl⟩
  simp only [g29_0, run_br, run_nb, run_bd, run_ni, run_ret, Int.toNat_natCast, hd, i1, r1, need_true, br_d, br_not, br_eq, q1, bindO_s, k47 (l := x) (by omega)]
  rw [if_pos (by omega), if_neg (by omega), if_pos trivial, br_true]; rfl
 ·rintro _ _
  simp only [g29_0, run_br, br_d, run_ret]
  rw [if_neg (by omega)]
theorem td {a k : Int} (hk : 0 < k) : (0 ≤ a → Int.tdiv a k = a / k) ∧ (a < 0 → Int.tdiv a k = -((-a) / k)) := by
 refine ⟨fun h => Int.tdiv_eq_ediv_of_nonneg h, fun h => ?_⟩
 have := Int.tdiv_eq_ediv_of_nonneg (a := -a) (b := k) (by omega)
 rw [Int.neg_tdiv] at this; omega
theorem td_bd {a : Int} (k : Int) (hk : 0 < k) {K : Int} (h1 : -K ≤ a) (h2 : a ≤ K) : -K ≤ Int.tdiv a k ∧ Int.tdiv a k ≤ K := by
 obtain ⟨e1, e2⟩ := td (a := a) hk
 rcases Int.lt_or_le a 0 with h | h
 ·rw [e2 h]
  have p1 : 0 ≤ (-a) / k := Int.ediv_nonneg (by omega) (by omega)
  have p2 : (-a) / k ≤ -a := Int.ediv_le_self k (by omega)
  omega
 ·rw [e1 h]
  have p1 : 0 ≤ a / k := Int.ediv_nonneg h (by omega)
  have p2 : a / k ≤ a := Int.ediv_le_self k h
  omega
theorem td8 {a : Int} (h1 : -128 ≤ a) (h2 : a ≤ 128) : -16 ≤ Int.tdiv a 8 ∧ Int.tdiv a 8 ≤ 16 := by
 obtain ⟨e1, e2⟩ := td (a := a) (k := 8) (by omega)
 rcases Int.lt_or_le a 0 with h | h
 ·rw [e2 h]; omega
 ·rw [e1 h]; omega
theorem nodup_le {α : Type} [DecidableEq α] : ∀ {l r : List α}, l.Nodup → (∀ x ∈ l, x ∈ r) → l.length ≤ r.length
 | [], _, _, _ => by simp
 | a :: l, r, hn, hs => by
  have ha : a ∈ r := hs a (by simp)
  have h := nodup_le (l := l) (r := r.erase a) (List.nodup_cons.1 hn).2 fun x hx => (List.mem_erase_of_ne (fun e => by subst e; exact (List.nodup_cons.1 hn).1 hx)).2 (hs x (by simp [hx]))
  rw [List.length_erase_of_mem ha] at h
  have := List.length_pos_of_mem ha
  simp only [List.length_cons]; omega
/-- Points by numbers. -/
def oct (p : Pt) : Pt := (Int.tdiv p.1 8, Int.tdiv p.2 8)
def cl (a : List Pt) : List Pt := if a = [] then [(1, 1)] else (a.take 4).map oct
theorem cl_facts {a : List Pt} (hb : ∀ p ∈ a, Bd 128 p) : cl a ≠ [] ∧ (cl a).length ≤ 4 ∧ ∀ p ∈ cl a, Bd 16 p := by
 unfold cl
 split
 ·exact ⟨by simp, by simp, fun p hp => by rw [List.mem_singleton.1 hp]; exact ⟨by decide, by decide, by decide, by decide⟩⟩
 ·rename_i h
  refine ⟨by simpa using h, by simp; omega, fun p hp => ?_⟩
  obtain ⟨q, hq, rfl⟩ := List.mem_map.1 hp
  obtain ⟨h1, h2, h3, h4⟩ := hb q (List.mem_of_mem_take hq)
  exact ⟨(td8 h1 h2).1, (td8 h1 h2).2, (td8 h3 h4).1, (td8 h3 h4).2⟩
theorem k25 {a : List Pt} (hl : a.length ≤ 9223372036854775807) (hb : ∀ p ∈ a, Bd 128 p) : run0 (F25 a) = some (cl a, ()) := by
 simp only [F25, run_bd, run_it, run_ret]
 have key : iter (fun s => run0 (g25_0 s)) (a, 1, 0, [((1 : Int), (1 : Int))], ()) = some ((cl a).length, cl a, ()) := by
  by_cases h0 : a = []
  ·subst h0
   refine iter_inr ?_
   simp only [g25_0, run_br, br_d, run_ret, List.length_nil]
   rw [if_neg (by omega)]; rfl
  have hcl : cl a = (a.take 4).map oct := by unfold cl; rw [if_neg h0]
  have ha : 0 < a.length := List.length_pos_iff.2 h0
  obtain ⟨r, q1, q2⟩ := iter_ex (step := fun s => run0 (g25_0 s)) (min a.length 4) (fun k s => s = (a, (if k = 0 then 1 else k), ((k : Nat) : Int), (if k = 0 then [((1 : Int), (1 : Int))] else (a.take k).map oct), ())) (fun r => r = ((cl a).length, cl a, ()))
   (fun k s hk hs => by
    subst hs
    have hk1 : k < a.length := by omega
    have g1 : a.getD k ((0 : Int), (0 : Int)) = a[k] := by simp [List.getD, hk1]
    obtain ⟨b1, b2, b3, b4⟩ := hb a[k] (List.getElem_mem hk1)
    have t1 := td8 b1 b2
    have t2 := td8 b3 b4
    have i1 : inb (k : Int) ((a.length : Nat) : Int) = true := inb_t (by omega) (by omega)
    have r1 : rng .i64 a[k].1 = true := rng_i64 (by omega) (by omega)
    have r2 : rng .i64 (Int.tdiv a[k].1 8) = true := rng_i64 (by omega) (by omega)
    have r3 : rng .i64 a[k].2 = true := rng_i64 (by omega) (by omega)
    have r4 : rng .i64 (Int.tdiv a[k].2 8) = true := rng_i64 (by omega) (by omega)
    have r5 : rng .i64 ((k : Int) + 1) = true := rng_i64 (by omega) (by omega)
    have d1 : (!((8 : Int) == (0 : Int))) = true := rfl
    have htk : (a.take (k + 1)).map oct = (a.take k).map oct ++ [oct a[k]] := by rw [List.take_succ_eq_append_getElem hk1, List.map_append]; rfl
    refine ⟨_, ?_, rfl⟩
    simp only [g25_0, run_br, run_jx, br_d, br_eq, run_ret]
    rw [if_pos (by omega), if_pos (by omega)]
    by_cases hk0 : k = 0
    ·subst hk0
     rw [if_pos (by omega)]
     simp only [bindO_s, onS, run_nb, run_ni, run_nd, run_ret, Int.toNat_natCast, g1, i1, r1, r2, r3, r4, r5, d1, need_true]
     rw [need_lenbig (by simp)]
     rw [htk]
     simp [oct]
    ·rw [if_neg (by omega)]
     simp only [bindO_s, onS, run_nb, run_ni, run_nd, run_ret, Int.toNat_natCast, g1, i1, r1, r2, r3, r4, r5, d1, need_true, if_neg hk0]
     rw [need_lenbig (by simp; omega)]
     rw [htk]
     have e : ((a.take k).map oct).take k = (a.take k).map oct := List.take_of_length_le (by simp; omega)
     simp only [List.drop_zero, e]
     simp [oct])
   (fun s hs => by
    subst hs
    refine ⟨_, ?_, rfl⟩
    have hm : ¬ min a.length 4 = 0 := by omega
    have e : a.take (min a.length 4) = a.take 4 := by rw [Nat.min_comm, ← List.take_eq_take_min]
    have el : (cl a).length = min a.length 4 := by rw [hcl]; simp; omega
    simp only [if_neg hm, e, ← hcl]
    simp only [g25_0, run_br, br_d, run_ret]
    by_cases h4 : a.length < 4
    ·rw [if_neg (by omega), el]
    ·rw [el, Nat.min_eq_right (by omega)]
     split
     ·rw [if_neg (by omega)]
     ·rfl) (x := (a, 1, 0, [((1 : Int), (1 : Int))], ())) (by simp)
  rw [q1, q2]
 refine bind_eq key ?_
 simp
/-- The statements' units. -/
def uns (x : List (List Pt)) : List (List Pt) := (x.take 3).map fun a => hullP (cl a)
theorem uns_ok {x : List (List Pt)} (hb : ∀ a ∈ x, ∀ p ∈ a, Bd 128 p) : OkU (uns x) ∧ (uns x).length ≤ 3 ∧ (∀ l ∈ uns x, ∀ p ∈ l, Bd 16 p) ∧ ∃ U : List Pol, csU U = uns x ∧ ∀ y ∈ U, Sd y.2 := by
 have one : ∀ a ∈ x, hullP (cl a) ≠ [] ∧ (hullP (cl a)).length ≤ 8 ∧ (∀ p ∈ hullP (cl a), Bd 16 p) ∧ hullP (hullP (cl a)) = hullP (cl a) ∧ ∃ y : Pol, cs y.1 y.2 = hullP (cl a) ∧ Sd y.2 := by
  intro a ha
  obtain ⟨c1, c2, c3⟩ := cl_facts (hb a ha)
  obtain ⟨v, m, ds, hh⟩ := hullP_ok c1
  have e : hullP (cl a) = cs v ds := hh.eq
  have hsub : ∀ p ∈ hullP (cl a), p ∈ cl a := fun p hp => mem_srtP.1 (hh.sub p (by rw [← e]; exact hp))
  have hnd : (hullP (cl a)).Nodup := by
   rw [e]; exact cs_nodup hh.sd (hull_min (srtP_sorted _) hh)
  refine ⟨fun h => ?_, ?_, fun p hp => c3 p (hsub p hp), ?_, (v, ds), e.symm, hh.sd⟩
  ·have : v ∈ hullP (cl a) := by rw [e]; exact cs_first
   rw [h] at this; cases this
  ·have := nodup_le hnd hsub
   omega
  ·rw [hullP_cs (srtP_sorted _) hh (l := hullP (cl a)) (fun p => by rw [e]), e]
 have mem : ∀ l ∈ uns x, ∃ a ∈ x, l = hullP (cl a) := fun l hl => by
  obtain ⟨a, ha, rfl⟩ := List.mem_map.1 hl
  exact ⟨a, List.mem_of_mem_take ha, rfl⟩
 refine ⟨⟨by simp [uns]; omega, fun l hl => ?_, fun l hl => ?_, fun l hl => ?_, fun l hl => ?_⟩, by simp [uns]; omega, fun l hl => ?_, ?_⟩
 ·obtain ⟨a, ha, rfl⟩ := mem l hl; exact (one a ha).1
 ·obtain ⟨a, ha, rfl⟩ := mem l hl; exact (one a ha).2.1
 ·obtain ⟨a, ha, rfl⟩ := mem l hl; exact fun p hp => ((one a ha).2.2.1 p hp).le (by omega)
 ·obtain ⟨a, ha, rfl⟩ := mem l hl; exact (one a ha).2.2.2.1
 ·obtain ⟨a, ha, rfl⟩ := mem l hl; exact (one a ha).2.2.1
 ·have key : ∀ k : List (List Pt), (∀ a ∈ k, a ∈ x) → ∃ U : List Pol, csU U = k.map (fun a => hullP (cl a)) ∧ ∀ y ∈ U, Sd y.2 := by
   intro k
   induction k with
   | nil => intro _; exact ⟨[], rfl, by simp⟩
   | cons a k ih =>
    intro hk
    obtain ⟨U, h1, h2⟩ := ih fun b hb => hk b (by simp [hb])
    obtain ⟨-, -, -, -, y, hy, hs⟩ := one a (hk a (by simp))
    refine ⟨y :: U, ?_, fun z hz => ?_⟩
    ·show cs y.1 y.2 :: csU U = _
     rw [h1, hy]; rfl
    ·rcases List.mem_cons.1 hz with rfl | hz
     ·exact hs
     ·exact h2 z hz
  exact key _ fun a ha => List.mem_of_mem_take ha
end Go.Proofs.Try
end
section
namespace Go.Proofs.Try
open Go.AM Go.Geo
set_option maxRecDepth 100000
theorem in10_2 {v0 : List (List Pt)} {nv4 : Nat} {v5 v18 v36 v40 v41 : Int} {v19 v37 : Bool} {v6 v35 v39 c : List Pt} {b0 : List (List Pt)} {q : Pt} (hc : c.length ≤ 1000) : iter (fun s => run0 (g10_2 s)) (v0, nv4, v5, v6, false, v18, v19, v35, v36, v37, v39, v40, v41, c, ((c.length : Nat) : Int), 0, b0, q.1, q.2, ()) =
  some (v0, nv4, v5, v6, c.any (fun p => decide (q = p)), v18, v19, v35, v36, v37, v39, v40, v41, b0, ()) := by
 have := iter_list (f := fun s => run0 (g10_2 s)) c (fun k (f : Bool) => (v0, nv4, v5, v6, f, v18, v19, v35, v36, v37, v39, v40, v41, c, ((c.length : Nat) : Int), (k : Int), b0, q.1, q.2, ()))
  (fun f r => (v0, nv4, v5, v6, f || r.any (fun p => decide (q = p)), v18, v19, v35, v36, v37, v39, v40, v41, b0, ())) (fun _ _ => True) ?_ ?_ (s := false) trivial
 ·simpa using this
 ·rintro pre x post f hx -
  have hlen : c.length = pre.length + (post.length + 1) := by rw [hx]; simp
  have hd : c.getD pre.length ((0 : Int), (0 : Int)) = x := by rw [hx]; exact getD_mid rfl
  have i1 : inb (pre.length : Int) ((c.length : Nat) : Int) = true := inb_t (by omega) (by omega)
  have r1 : rng .i64 ((pre.length : Int) + 1) = true := rng_i64 (by omega) (by omega)
  left
  cases f
  ·refine ⟨decide (q = x), ?_, trivial, by simp [List.any_cons]⟩
   simp only [g10_2, run_br, run_nb, run_ni, run_ret, Int.toNat_natCast, hd, i1, r1, need_true, br_d, br_false, eqP]
   rw [if_pos (by omega)]; rfl
  ·refine ⟨true, ?_, trivial, by simp⟩
   simp only [g10_2, run_br, run_nb, run_ni, run_ret, Int.toNat_natCast, i1, r1, need_true, br_d, br_true]
   rw [if_pos (by omega)]; rfl
 ·rintro f _
  simp only [g10_2, run_br, br_d, run_ret]
  rw [if_neg (by omega)]
  simp
theorem in10_1 {v0 : List (List Pt)} {nv4 k : Nat} {v18 v36 : Int} {v19 v37 : Bool} {v6 v35 h : List Pt} {b0 : List (List Pt)} (hk : k < v0.length) (hl : v0.length ≤ 9223372036854775807) (hh : h.length ≤ 1000)
  (ha : (v0.getD k []).length ≤ 9223372036854775807) (hb : ∀ p ∈ v0.getD k [], Bd 128 p) (hin : ∀ q ∈ h, q ∈ cl (v0.getD k [])) :
  iter (fun s => run0 (g10_1 s)) (v0, nv4, (k : Int), v6, v18, v19, v35, v36, v37, h, ((h.length : Nat) : Int), 0, b0, ()) = some (.inr (v0, nv4, (k : Int), v6, v18, v19, v35, v36, v37, b0, ())) := by
 refine iter_list (f := fun s => run0 (g10_1 s)) h (fun j (_ : Unit) => (v0, nv4, (k : Int), v6, v18, v19, v35, v36, v37, h, ((h.length : Nat) : Int), (j : Int), b0, ()))
  (fun _ r => Sum.inr (v0, nv4, (k : Int), v6, v18, v19, v35, v36, v37, b0, ())) (fun _ _ => True) ?_ ?_ (s := ()) trivial
 ·rintro pre x post _ hx -
  have hlen : h.length = pre.length + (post.length + 1) := by rw [hx]; simp
  have hd : h.getD pre.length ((0 : Int), (0 : Int)) = x := by rw [hx]; exact getD_mid rfl
  have i1 : inb (pre.length : Int) ((h.length : Nat) : Int) = true := inb_t (by omega) (by omega)
  have i2 : inb (k : Int) ((v0.length : Nat) : Int) = true := inb_t (by omega) (by omega)
  have r1 : rng .i64 ((pre.length : Int) + 1) = true := rng_i64 (by omega) (by omega)
  have hcl := (cl_facts hb).2.1
  have hany : (cl (v0.getD k [])).any (fun p => decide (x = p)) = true := List.any_eq_true.2 ⟨x, hin x (by rw [hx]; simp), by simp⟩
  left
  refine ⟨(), ?_, trivial, rfl⟩
  simp only [g10_1, run_br, run_nb, run_bd, run_it, run_ni, run_ret, Int.toNat_natCast, hd, i1, i2, need_true, br_d]
  rw [if_pos (by omega)]
  refine bind_eq (k25 ha hb) (bind_eq (in10_2 (c := cl (v0.getD k [])) (by omega)) ?_)
  simp only [hany, r1, need_true, br_not, br_true]; rfl
 ·rintro _ _
  simp only [g10_1, run_br, br_d, run_ret]
  rw [if_neg (by omega)]
theorem hull_in {c : List Pt} (h : c ≠ []) : ∀ q ∈ hullP c, q ∈ c := fun q hq => by
 obtain ⟨v, m, ds, hh⟩ := hullP_ok h
 exact mem_srtP.1 (hh.sub q (by rw [← hh.eq]; exact hq))
theorem hull_len {c : List Pt} (h : c ≠ []) : (hullP c).length ≤ c.length ∧ hullP c ≠ [] := by
 obtain ⟨v, m, ds, hh⟩ := hullP_ok h
 have e : hullP c = cs v ds := hh.eq
 refine ⟨nodup_le (by rw [e]; exact cs_nodup hh.sd (hull_min (srtP_sorted _) hh)) (hull_in h), fun h0 => ?_⟩
 have : v ∈ hullP c := by rw [e]; exact cs_first
 rw [h0] at this; cases this
/-- What the statements' numbers are. -/
structure WfX (x : List (List Pt)) : Prop where
 len : x.length ≤ 9223372036854775807
 le : ∀ a ∈ x, a.length ≤ 9223372036854775807
 bd : ∀ a ∈ x, ∀ p ∈ a, Bd 128 p
theorem k10 {x : List (List Pt)} (h : WfX x) : run0 (F10 x) = some (uns x, true, ()) := by
 have hx := h.len
 have key : iter (fun s => run0 (g10_0 s)) (x, 0, 0, [], ()) = some (.inr ((uns x).length, uns x, ())) := by
  obtain ⟨r, q1, q2⟩ := iter_ex (step := fun s => run0 (g10_0 s)) (min x.length 3) (fun k s => s = (x, k, ((k : Nat) : Int), (x.take k).map (fun a => hullP (cl a)), ())) (fun r => r = .inr ((uns x).length, uns x, ()))
   (fun k s hk hs => by
    subst hs
    have hk1 : k < x.length := by omega
    have g1 : x.getD k [] = x[k] := by simp [List.getD, hk1]
    have hm : x[k] ∈ x := List.getElem_mem hk1
    have hb := h.bd _ hm
    have hle := h.le _ hm
    obtain ⟨c1, c2, c3⟩ := cl_facts hb
    obtain ⟨e1, e2⟩ := hull_len c1
    have e3 : (hullP (cl x[k])).length ≠ 0 := fun e => e2 (List.length_eq_zero_iff.1 e)
    have i1 : inb (k : Int) ((x.length : Nat) : Int) = true := inb_t (by omega) (by omega)
    have r1 : rng .i64 ((k : Int) + 1) = true := rng_i64 (by omega) (by omega)
    refine ⟨_, ?_, rfl⟩
    simp only [g10_0, run_br, run_nb, run_bd, run_it, Int.toNat_natCast, g1, i1, need_true, br_d]
    rw [if_pos (by omega), if_pos (by omega)]
    refine bind_eq (k25 hle hb) (bind_eq (k24 (l := cl x[k]) c1 (by omega) fun p hp => (c3 p hp).le (by omega)) ?_)
    simp only [br_not, br_eq]
    rw [if_pos trivial, if_neg (by omega)]
    refine bind_eq (in10_1 hk1 hx (by omega) (by rw [g1]; exact hle) (by rw [g1]; exact hb) (by rw [g1]; exact hull_in c1)) ?_
    simp only [run_sr, run_nd, run_ni, run_ret, r1, need_true]
    have e4 : ((x.take k).map (fun a => hullP (cl a))).take k = (x.take k).map (fun a => hullP (cl a)) := List.take_of_length_le (by simp; omega)
    rw [need_lenbig (by simp; omega)]
    simp only [List.drop_zero, e4]
    rw [List.take_succ_eq_append_getElem hk1, List.map_append]
    rfl)
   (fun s hs => by
    subst hs
    refine ⟨_, ?_, rfl⟩
    have e : x.take (min x.length 3) = x.take 3 := by rw [Nat.min_comm, ← List.take_eq_take_min]
    have el : (uns x).length = min x.length 3 := by simp [uns]; omega
    simp only [g10_0, run_br, br_d, run_ret, e, el]
    by_cases h4 : x.length < 3
    ·rw [if_neg (by omega)]; rfl
    ·rw [Nat.min_eq_right (by omega)]
     split
     ·rw [if_neg (by omega)]; rfl
     ·rfl) (x := (x, 0, 0, [], ())) (by simp)
  rw [q1, q2]
 simp only [F10, run_bd, run_it]
 refine bind_eq key ?_
 simp only [run_sr, run_bd, run_ret, List.drop_zero, List.take_length]
 exact bind_eq (k29 (uns_ok h.bd).1) rfl
/-! All sums. -/
theorem in11_2 {l N B2 : List Pt} {ls : List (List Pt)} {v14 v15 v20 v21 : Int} {nv19 : Nat} {p : Pt} (hl : l.length ≤ 1000) (hN : N.length ≤ 100000) (hb : ∀ q ∈ l, Bd 1000 q) (hp : Bd 100000 p) :
  iter (fun s => run0 (g11_2 s)) (l, N.length, ls, v14, v15, nv19, v20, v21, l, ((l.length : Nat) : Int), 0, N, p.1, p.2, B2, ()) = some (l, (N ++ l.map fun q => add p q).length, ls, v14, v15, nv19, v20, v21, N ++ l.map (fun q => add p q), B2, ()) := by
 obtain ⟨r, q1, q2⟩ := iter_ex (step := fun s => run0 (g11_2 s)) l.length (fun k s => s = (l, (N ++ (l.take k).map fun q => add p q).length, ls, v14, v15, nv19, v20, v21, l, ((l.length : Nat) : Int), ((k : Nat) : Int), N ++ (l.take k).map (fun q => add p q), p.1, p.2, B2, ()))
  (fun r => r = (l, (N ++ l.map fun q => add p q).length, ls, v14, v15, nv19, v20, v21, N ++ l.map (fun q => add p q), B2, ())) (fun k s hk hs => by
   subst hs
   have g1 : l.getD k ((0 : Int), (0 : Int)) = l[k] := by simp [List.getD, hk]
   obtain ⟨b1, b2, b3, b4⟩ := hb l[k] (List.getElem_mem hk)
   obtain ⟨p1, p2, p3, p4⟩ := hp
   have i1 : inb (k : Int) ((l.length : Nat) : Int) = true := inb_t (by omega) (by omega)
   have r1 : rng .i64 (p.1 + l[k].1) = true := rng_i64 (by omega) (by omega)
   have r2 : rng .i64 (p.2 + l[k].2) = true := rng_i64 (by omega) (by omega)
   have r3 : rng .i64 ((k : Int) + 1) = true := rng_i64 (by omega) (by omega)
   refine ⟨_, ?_, rfl⟩
   simp only [g11_2, run_br, run_nb, run_ni, run_nd, run_ret, Int.toNat_natCast, g1, i1, r1, r2, r3, need_true, br_d]
   rw [if_pos (by omega), need_lenbig (by simp; omega)]
   simp only [List.drop_zero, List.take_length]
   rw [List.take_succ_eq_append_getElem hk, List.map_append]
   simp [add, Nat.add_assoc]) (fun s hs => by
   subst hs
   refine ⟨_, ?_, rfl⟩
   simp only [g11_2, run_br, run_ret, br_d, List.take_length]
   rw [if_neg (by omega)]) (x := (l, N.length, ls, v14, v15, nv19, v20, v21, l, ((l.length : Nat) : Int), 0, N, p.1, p.2, B2, ())) (by simp)
 rw [q1, q2]
theorem in11_1 {l o : List Pt} {ls : List (List Pt)} {v14 v15 : Int} (hl : l.length ≤ 10) (ho : o.length ≤ 1000) (hb : ∀ q ∈ l, Bd 1000 q) (hob : ∀ p ∈ o, Bd 100000 p) :
  iter (fun s => run0 (g11_1 s)) (l, 0, ls, v14, v15, o.length, ((o.length : Nat) : Int), 0, [], o, ()) = some ((o.flatMap fun p => l.map fun q => add p q).length, ls, v14, v15, o.flatMap (fun p => l.map fun q => add p q), ()) := by
 have hfl : ∀ k, k ≤ o.length → ((o.take k).flatMap fun p => l.map fun q => add p q).length = k * l.length := fun k hk => by
  have key : ∀ u : List Pt, (u.flatMap fun p => l.map fun q => add p q).length = u.length * l.length := by
   intro u
   induction u with
   | nil => simp
   | cons a u ih => rw [List.flatMap_cons, List.length_append, ih, List.length_map, List.length_cons, Nat.add_mul, Nat.one_mul]; omega
  rw [key, List.length_take, Nat.min_eq_left hk]
 have hb2 : ∀ k, k ≤ o.length → k * l.length ≤ 10000 := fun k hk => by
  have := Nat.mul_le_mul (Nat.le_trans hk ho) hl; omega
 obtain ⟨r, q1, q2⟩ := iter_ex (step := fun s => run0 (g11_1 s)) o.length (fun k s => s = (l, ((o.take k).flatMap fun p => l.map fun q => add p q).length, ls, v14, v15, o.length, ((o.length : Nat) : Int), ((k : Nat) : Int), (o.take k).flatMap (fun p => l.map fun q => add p q), o, ()))
  (fun r => r = ((o.flatMap fun p => l.map fun q => add p q).length, ls, v14, v15, o.flatMap (fun p => l.map fun q => add p q), ())) (fun k s hk hs => by
   subst hs
   have g1 : o.getD k ((0 : Int), (0 : Int)) = o[k] := by simp [List.getD, hk]
   have i1 : inb (k : Int) ((o.length : Nat) : Int) = true := inb_t (by omega) (by omega)
   have d1 : decide (k < o.length) = true := decide_eq_true hk
   have r3 : rng .i64 ((k : Int) + 1) = true := rng_i64 (by omega) (by omega)
   refine ⟨_, ?_, rfl⟩
   simp only [g11_1, run_br, run_nb, run_ni, run_nd, run_bd, run_it, run_ret, Int.toNat_natCast, Nat.zero_add, g1, i1, d1, need_true, br_d]
   rw [if_pos (by omega)]
   refine bind_eq (in11_2 (by omega) (by rw [hfl k (by omega)]; have := hb2 k (by omega); omega) hb (hob _ (List.getElem_mem hk))) ?_
   simp only [r3, need_true]
   rw [List.take_succ_eq_append_getElem hk, List.flatMap_append]
   simp) (fun s hs => by
   subst hs
   refine ⟨_, ?_, rfl⟩
   simp only [g11_1, run_br, run_ret, br_d, List.take_length]
   rw [if_neg (by omega)]) (x := (l, 0, ls, v14, v15, o.length, ((o.length : Nat) : Int), 0, [], o, ())) (by simp)
 rw [q1, q2]
theorem sumsA_snoc (o : List Pt) (U : List (List Pt)) (l : List Pt) : sumsA o (U ++ [l]) = (sumsA o U).flatMap fun p => l.map fun q => add p q := by simp [sumsA, List.foldl_append]
theorem k11 {ls : List (List Pt)} (h1 : ls.length ≤ 3) (h2 : ∀ l ∈ ls, l.length ≤ 4) (hb : ∀ l ∈ ls, ∀ p ∈ l, Bd 1000 p) : run0 (F11 ls) = some (sums ls, ()) ∧ (sums ls).length ≤ 64 ∧ ∀ p ∈ sums ls, Bd 3000 p := by
 have facts : ∀ k, k ≤ ls.length → (sums (ls.take k)).length ≤ 4 ^ k ∧ ∀ p ∈ sums (ls.take k), Bd (1000 * k) p := by
  intro k
  induction k with
  | zero => intro _; exact ⟨by simp [sums, sumsA], fun p hp => by
    simp [sums, sumsA] at hp; subst hp; exact ⟨by simp, by simp, by simp, by simp⟩⟩
  | succ k ih =>
   intro hk
   obtain ⟨i1, i2⟩ := ih (by omega)
   have hk1 : k < ls.length := by omega
   have hm : ls[k] ∈ ls := List.getElem_mem hk1
   have e : sums (ls.take (k + 1)) = (sums (ls.take k)).flatMap fun p => ls[k].map fun q => add p q := by
    rw [List.take_succ_eq_append_getElem hk1]; exact sumsA_snoc _ _ _
   rw [e]
   refine ⟨?_, fun p hp => ?_⟩
   ·have key : ∀ u : List Pt, (u.flatMap fun p => ls[k].map fun q => add p q).length = u.length * ls[k].length := by
     intro u
     induction u with
     | nil => simp
     | cons a u ih => rw [List.flatMap_cons, List.length_append, ih, List.length_map, List.length_cons, Nat.add_mul, Nat.one_mul]; omega
    rw [key, Nat.pow_succ]
    exact Nat.mul_le_mul i1 (h2 _ hm)
   ·obtain ⟨a, ha, hp⟩ := List.mem_flatMap.1 hp
    obtain ⟨q, hq, rfl⟩ := List.mem_map.1 hp
    have := bd_add (i2 a ha) (hb _ hm q hq)
    exact this.le (by omega)
 have hp4 : ∀ k, k ≤ 3 → 4 ^ k ≤ 64 := fun k hk => by
  match k, hk with
  | 0, _ => omega
  | 1, _ => omega
  | 2, _ => omega
  | 3, _ => omega
 have hall := facts ls.length (Nat.le_refl _)
 rw [List.take_length] at hall
 refine ⟨?_, Nat.le_trans hall.1 (hp4 _ h1), fun p hp => (hall.2 p hp).le (by omega)⟩
 obtain ⟨r, q1, q2⟩ := iter_ex (step := fun s => run0 (g11_0 s)) ls.length (fun k s => s = ((sums (ls.take k)).length, ls, ((ls.length : Nat) : Int), ((k : Nat) : Int), sums (ls.take k), ()))
  (fun r => r = ((sums ls).length, sums ls, ())) (fun k s hk hs => by
   subst hs
   obtain ⟨i1, i2⟩ := facts k (by omega)
   have hp := hp4 k (by omega)
   have hm : ls[k] ∈ ls := List.getElem_mem hk
   have hle := h2 _ hm
   have g1 : ls.getD k [] = ls[k] := by simp [List.getD, hk]
   have j1 : inb (k : Int) ((ls.length : Nat) : Int) = true := inb_t (by omega) (by omega)
   have r3 : rng .i64 ((k : Int) + 1) = true := rng_i64 (by omega) (by omega)
   refine ⟨_, ?_, rfl⟩
   simp only [g11_0, run_br, run_nb, run_ni, run_bd, run_it, run_ret, Int.toNat_natCast, g1, j1, need_true, br_d]
   rw [if_pos (by omega)]
   refine bind_eq (in11_1 (by omega) (by omega) (hb _ hm) fun p hp => (i2 p hp).le (by omega)) ?_
   simp only [r3, need_true]
   have e : sums (ls.take (k + 1)) = (sums (ls.take k)).flatMap fun p => ls[k].map fun q => add p q := by
    rw [List.take_succ_eq_append_getElem hk]; exact sumsA_snoc _ _ _
   rw [e]
   rfl) (fun s hs => by
   subst hs
   refine ⟨_, ?_, rfl⟩
   simp only [g11_0, run_br, run_ret, br_d, List.take_length]
   rw [if_neg (by omega)]) (x := (1, ls, ((ls.length : Nat) : Int), 0, [((0 : Int), (0 : Int))], ())) (by simp [sums, sumsA])
 subst q2
 simp only [F11, run_bd, run_it, run_ret]
 exact bind_eq q1 (by simp)
end Go.Proofs.Try
end
section
namespace Go.Proofs.Try
open Go.AM Go.Geo
set_option maxRecDepth 100000
theorem insR_congr {α : Type} {lt lt' : α → α → Bool} {x : α} : ∀ {R : List α}, (∀ y ∈ R, lt x y = lt' x y) → insR lt x R = insR lt' x R
 | [], _ => rfl
 | y :: R, h => by
  unfold insR
  rw [h y (by simp), insR_congr fun z hz => h z (by simp [hz])]
theorem sortR_congr {α : Type} {lt lt' : α → α → Bool} : ∀ {l R : List α}, l.Pairwise (fun y x => lt x y = lt' x y) → (∀ x ∈ l, ∀ y ∈ R, lt x y = lt' x y) → sortR lt R l = sortR lt' R l
 | [], R, _, _ => rfl
 | x :: l, R, hp, h => by
  have hp' := List.pairwise_cons.1 hp
  show sortR lt (insR lt x R) l = sortR lt' (insR lt' x R) l
  rw [← insR_congr (fun y hy => h x (by simp) y hy)]
  refine sortR_congr hp'.2 fun z hz y hy => ?_
  rcases List.mem_cons.1 ((insR_perm x R).mem_iff.1 hy) with rfl | hy
  ·exact hp'.1 z hz
  ·exact h z (by simp [hz]) y hy
theorem isort_congr {α : Type} {lt lt' : α → α → Bool} {l : List α} (h : l.Pairwise (fun y x => lt x y = lt' x y)) : isort lt l = isort lt' l := by
 unfold isort; rw [sortR_congr h (by simp)]
theorem insR_map {α β : Type} {f : α → β} {lt : β → β → Bool} {x : α} : ∀ {R : List α}, (insR (fun a b => lt (f a) (f b)) x R).map f = insR lt (f x) (R.map f)
 | [] => rfl
 | y :: R => by
  unfold insR
  simp only [List.map_cons]
  split
  ·rw [List.map_cons, insR_map]
  ·rfl
theorem isort_map {α β : Type} {f : α → β} {lt : β → β → Bool} {l : List α} : (isort (fun a b => lt (f a) (f b)) l).map f = isort lt (l.map f) := by
 have key : ∀ (l R : List α), (sortR (fun a b => lt (f a) (f b)) R l).map f = sortR lt (R.map f) (l.map f) := by
  intro l
  induction l with
  | nil => intro R; rfl
  | cons x l ih =>
   intro R
   show (sortR _ (insR _ x R) l).map f = sortR lt (insR lt (f x) (R.map f)) (l.map f)
   rw [ih, insR_map]
 unfold isort
 rw [List.map_reverse, key]; rfl
/-- A side: its beginning, along, and its unit. -/
abbrev OwF := (Pt × Pt) × Int
def prj (x : OwF) : Go.Geo.Own := (x.1.2, x.2.toNat)
def ltO (a b : OwF) : Bool := if a.1 = b.1 then decide (a.2 < b.2) else alB a.1.2 b.1.2
structure GoodO (x : OwF) : Prop where
 bd : Bd 2000 x.1.2
 u0 : 0 ≤ x.2
 u1 : x.2 ≤ 100
theorem k53 (d : Pt) : run0 (F53 d) = some (if h0 d = true then 0 else 1, ()) := by
 simp only [F53, run_br, br_d, br_eq, run_ret, h0]
 by_cases h1 : 0 < d.1
 ·simp [h1]
 ·by_cases h2 : d.1 = 0
  ·by_cases h3 : 0 < d.2 <;> simp [h1, h2, h3]
  ·simp [h1, h2]
theorem eq4 (a b : Pt × Pt) : (a.1.1 == b.1.1 && (a.1.2 == b.1.2 && (a.2.1 == b.2.1 && (a.2.2 == b.2.2 && true)))) = decide (a = b) := by
 rcases a with ⟨⟨a1, a2⟩, ⟨a3, a4⟩⟩; rcases b with ⟨⟨b1, b2⟩, ⟨b3, b4⟩⟩
 simp only [Prod.mk.injEq, Bool.and_true]
 by_cases h1 : a1 = b1 <;> by_cases h2 : a2 = b2 <;> by_cases h3 : a3 = b3 <;> by_cases h4 : a4 = b4 <;> simp [h1, h2, h3, h4]
theorem k51 {a b : OwF} (ha : GoodO a) (hb : GoodO b) : ∃ z, run0 (F51 (a.1.1.1, a.1.1.2, a.1.2.1, a.1.2.2, a.2) (b.1.1.1, b.1.1.2, b.1.2.1, b.1.2.2, b.2)) = some (z, ()) ∧ (z < 0 ↔ ltO a b = true) := by
 have ha1 := ha.u0; have ha2 := ha.u1; have hb1 := hb.u0; have hb2 := hb.u1
 simp only [F51, run_br, eq4, br_d, run_ni, run_bd, run_ret, pr_eta, k53, bindO_s]
 unfold ltO
 by_cases h : a.1 = b.1
 ·rw [if_pos h, if_pos h, need_i64 (by omega) (by omega)]
  exact ⟨_, rfl, by simp; omega⟩
 ·rw [if_neg h, if_neg h]
  refine ⟨orL [(if h0 a.1.2 = true then (0 : Int) else 1) - (if h0 b.1.2 = true then (0 : Int) else 1), cmpI 0 (cr a.1.2 b.1.2)], ?_, ?_⟩
  ·rw [need_i64 (by split <;> split <;> omega) (by split <;> split <;> omega)]
   refine bind_eq (k48 (ha.bd.le (by omega)) (hb.bd.le (by omega))) ?_
   simp only [k54, bindO_s, List.drop_zero, List.take_succ_cons, List.take_zero]
   rw [bind_of (k52 _ (by simp))]
  ·have c0 : (cmpI 0 (cr a.1.2 b.1.2) < 0 ↔ 0 < cr a.1.2 b.1.2) ∧ (cmpI 0 (cr a.1.2 b.1.2) = 0 ↔ cr a.1.2 b.1.2 = 0) := by
    unfold cmpI
    split
    ·constructor <;> constructor <;> intro h <;> omega
    ·split <;> constructor <;> constructor <;> intro h <;> omega
   rw [alB_iff]
   unfold al
   generalize cmpI 0 (cr a.1.2 b.1.2) = q at c0 ⊢
   cases e1 : h0 a.1.2 <;> cases e2 : h0 b.1.2 <;> simp [orL] <;> first | (split <;> omega) | omega | skip
theorem kH74 {l : List OwF} (hg : ∀ x ∈ l, GoodO x) (hl : l.length ≤ 1000) : run0 (FH74_v1 l.length 0 l.length l) = some (isort ltO l, ()) := by
 simp only [FH74_v1, run_ni, run_bd, run_it, run_ret]
 rw [need_i64 (by omega) (by omega)]
 refine bind_eq (ins_outer (lt := ltO) (Good := GoodO) (n := l.length) (fun k m => (l.length, (0 : Int), ((l.length : Nat) : Int), (k : Int), m, ())) (fun m => (m, ())) ?_ ?_ hg rfl) rfl
 ·intro R x Q hR hg' hn
  simp only [gH74_v1_0, run_br, run_bd, run_it, run_ret, run_ni, br_d]
  rw [if_pos (by omega)]
  refine bind_eq (ins_inner (lt := ltO) (Good := GoodO) (n := l.length) (fun k m => (l.length, (0 : Int), ((l.length : Nat) : Int), (R.length : Int), (k : Int), m, ())) (fun m => (l.length, (0 : Int), ((l.length : Nat) : Int), (R.length : Int), m, ())) ?_ ?_ R x Q hg' hn) ?_
  ·intro L y x W hg2 hn2
   have t1 : Int.toNat (((L.length + 1 : Nat) : Int) - 1) = L.length := by omega
   have g1 : (L ++ y :: x :: W).getD (L.length + 1) ((((0 : Int), (0 : Int)), ((0 : Int), (0 : Int))), (0 : Int)) = x := by
    rw [show L ++ y :: x :: W = (L ++ [y]) ++ x :: W by simp]; exact getD_mid (by simp)
   have g2 : (L ++ y :: x :: W).getD L.length ((((0 : Int), (0 : Int)), ((0 : Int), (0 : Int))), (0 : Int)) = y := getD_mid rfl
   have s1 : (L ++ y :: x :: W).set (L.length + 1) y = L ++ y :: y :: W := by
    rw [show L ++ y :: x :: W = (L ++ [y]) ++ x :: W by simp, set_mid (by simp)]; simp
   have s2 : (L ++ y :: y :: W).set L.length x = L ++ x :: y :: W := set_mid rfl
   have i1 : inb ((L.length + 1 : Nat) : Int) ((l.length : Nat) : Int) = true := inb_t (by omega) (by omega)
   have i2 : inb (((L.length + 1 : Nat) : Int) - 1) ((l.length : Nat) : Int) = true := inb_t (by omega) (by omega)
   have r1 : rng .i64 (((L.length + 1 : Nat) : Int) - 1) = true := rng_i64 (by omega) (by omega)
   have d1 : decide (L.length + 1 < (L ++ y :: x :: W).length) = true := decide_eq_true (by simp)
   have d2 : decide (L.length < (L ++ y :: x :: W).length) = true := decide_eq_true (by simp)
   have d3 : decide (L.length < (L ++ y :: y :: W).length) = true := decide_eq_true (by simp)
   obtain ⟨z, hz, hzlt⟩ := k51 (hg2 x (by simp)) (hg2 y (by simp))
   simp only [gH74_v1_1, run_br, run_bd, run_nb, run_nd, run_ni, run_ret, Int.toNat_natCast, t1, Nat.zero_add, g1, g2, hz, bindO_s, i1, i2, r1, d1, d2, need_true, br_d, pr_eta, s1, s2, d3]
   rw [if_pos (by omega)]
   by_cases hc : z < 0
   ·rw [if_pos hc, if_pos (hzlt.1 hc)]
    have : (((L.length + 1 : Nat) : Int) - 1) = (L.length : Int) := by omega
    rw [this]
   ·rw [if_neg hc, if_neg (fun h => hc (hzlt.2 h))]
  ·intro m
   simp only [gH74_v1_1, run_br, br_d, run_ret]
   rw [if_neg (by omega)]
  ·simp only []
   rw [need_i64 (by omega) (by omega)]
   simp
 ·intro k m hk
  simp only [gH74_v1_0, run_br, br_d, run_ret]
  rw [if_neg (by omega)]
theorem kH50 {l : List OwF} (hg : ∀ x ∈ l, GoodO x) (hl : l.length ≤ 19) : run0 (FH50_v1 l.length l) = some (isort ltO l, ()) := by
 simp only [FH50_v1, FH68_v1, run_bd, run_it, run_ret]
 rw [iter_inr (b := (l.length, ((l.length : Nat) : Int), (20 : Int), (0 : Int), l, ())) (by
  simp only [gH68_v1_0, run_br, br_d, run_ret]; rw [if_neg (by omega)])]
 simp only [bindO_s]
 rw [bind_of (kH74 hg (by omega))]
 rw [iter_inr (b := (isort ltO l, ())) (by
  simp only [gH68_v1_1, run_br, br_d, run_ret]; rw [if_neg (by omega)])]
 simp only [bindO_s]
/-! The sides of a polygon, as the program goes round. -/
def sidesL (l : List Pt) : List (Pt × Pt) := if 1 < l.length then (List.range l.length).map fun i => (l.getD i (0, 0), sub (l.getD ((i + 1) % l.length) (0, 0)) (l.getD i (0, 0))) else []
theorem sd_len (a : Pt) (ds : List Pt) : (sd a ds).length = ds.length := by
 induction ds generalizing a with
 | nil => rfl
 | cons d r ih => simp [sd, ih]
theorem sd_get {a : Pt} {ds : List Pt} {i : Nat} (h : i < ds.length) : (sd a ds)[i]? = some (vtx a ds i, ds[i]) := by
 induction ds generalizing a i with
 | nil => simp at h
 | cons d r ih =>
  cases i with
  | zero => simp [sd, vtx_zero]
  | succ i =>
   simp only [sd, List.getElem?_cons_succ, List.getElem_cons_succ]
   rw [ih (a := add a d) (by simpa using h)]
   simp [vtx, sm, add_assoc]
theorem two_le {ds : List Pt} (h : Sd ds) (hne : ds ≠ []) : 2 ≤ ds.length := by
 by_cases hl : 3 ≤ ds.length
 ·omega
 ·rcases two_of h hl with rfl | ⟨d, rfl, -⟩
  ·exact (hne rfl).elim
  ·simp
theorem cs_get {a : Pt} {ds : List Pt} (hne : ds ≠ []) {i : Nat} (h : i < ds.length) : (cs a ds).getD i (0, 0) = vtx a ds i := by
 unfold cs
 rw [if_neg hne, List.getD_eq_getElem?_getD, List.getElem?_eq_getElem (by rw [vs_len]; exact h)]
 exact vs_get h
theorem cs_len {a : Pt} {ds : List Pt} (hne : ds ≠ []) : (cs a ds).length = ds.length := by unfold cs; rw [if_neg hne, vs_len]
theorem sidesL_cs {a : Pt} {ds : List Pt} (h : Sd ds) : sidesL (cs a ds) = sd a ds := by
 by_cases hne : ds = []
 ·subst hne; simp [sidesL, cs, sd]
 have h2 := two_le h hne
 unfold sidesL
 rw [cs_len hne, if_pos (by omega)]
 apply List.ext_getElem?
 intro i
 by_cases hi : i < ds.length
 ·rw [sd_get hi, List.getElem?_map, List.getElem?_range hi]
  simp only [Option.map_some, Option.some.injEq, Prod.mk.injEq]
  rw [cs_get hne hi]
  refine ⟨rfl, ?_⟩
  have e : (cs a ds).getD ((i + 1) % ds.length) (0, 0) = vtx a ds (i + 1) := by
   by_cases hl : i + 1 < ds.length
   ·rw [Nat.mod_eq_of_lt hl, cs_get hne hl]
   ·have : i + 1 = ds.length := by omega
    rw [this, Nat.mod_self, cs_get hne (by omega), vtx_last h, vtx_zero]
  rw [e, vtx_succ hi]
  simp only [sub, add]
  exact Prod.ext (by simp only []; omega) (by simp only []; omega)
 ·rw [List.getElem?_eq_none (by simp; omega), List.getElem?_eq_none (by rw [sd_len]; omega)]
/-- All sides, with their units' numbers. -/
def ownL (ls : List (List Pt)) : List OwF := (ls.zipIdx.map fun x => (sidesL x.1).map fun s => (s, (x.2 : Int))).flatten
theorem ownL_snoc (ls : List (List Pt)) (l : List Pt) : ownL (ls ++ [l]) = ownL ls ++ (sidesL l).map fun s => (s, (ls.length : Int)) := by
 unfold ownL
 rw [List.zipIdx_append, List.map_append, List.flatten_append]
 simp
theorem ownL_prj {U : List Pol} (h : ∀ x ∈ U, Sd x.2) : (ownL (csU U)).map prj = allS U 0 := by
 have sd_map : ∀ (a : Pt) (ds : List Pt), (sd a ds).map (·.2) = ds := by
  intro a ds
  induction ds generalizing a with
  | nil => rfl
  | cons d r ih => simp [sd, ih]
 have key : ∀ (U : List Pol) (k : Nat), (∀ x ∈ U, Sd x.2) → ((((csU U).zipIdx k).map fun x => (sidesL x.1).map fun s => ((s, (x.2 : Int)) : OwF)).flatten).map prj = allS U k := by
  intro U
  induction U with
  | nil => intro k _; rfl
  | cons x U ih =>
   intro k h
   simp only [csU, List.map_cons, List.zipIdx_cons, List.flatten_cons, List.map_append]
   have := ih (k + 1) fun y hy => h y (by simp [hy])
   simp only [csU] at this
   rw [this, sidesL_cs (h x (by simp)), List.map_map, allS]
   congr 1
   conv => rhs; rw [← sd_map x.1 x.2, List.map_map]
   exact List.map_congr_left fun s _ => by simp [prj]
 exact key U 0 h
theorem ownL_sorted (ls : List (List Pt)) : (ownL ls).Pairwise (fun a b => a.2 ≤ b.2) ∧ ∀ x ∈ ownL ls, 0 ≤ x.2 ∧ x.2 < ls.length := by
 have key : ∀ n (ls : List (List Pt)), ls.length = n → (ownL ls).Pairwise (fun a b => a.2 ≤ b.2) ∧ ∀ x ∈ ownL ls, 0 ≤ x.2 ∧ x.2 < ls.length := by
  intro n
  induction n with
  | zero => intro ls hl; rw [List.length_eq_zero_iff.1 hl]; exact ⟨.nil, by simp [ownL]⟩
  | succ n ih =>
   intro ls hl
   have hne : ls ≠ [] := fun e => by rw [e] at hl; simp at hl
   have e := List.dropLast_concat_getLast hne
   obtain ⟨i1, i2⟩ := ih ls.dropLast (by simp; omega)
   rw [← e, ownL_snoc]
   refine ⟨List.pairwise_append.2 ⟨i1, ?_, fun a ha b hb => ?_⟩, fun x hx => ?_⟩
   ·rw [List.pairwise_map]
    exact List.pairwise_of_forall fun _ _ => Int.le_refl _
   ·obtain ⟨s, _, rfl⟩ := List.mem_map.1 hb
    have := (i2 a ha).2
    simp only; omega
   ·rcases List.mem_append.1 hx with hx | hx
    ·have := i2 x hx
     simp only [List.length_append, List.length_singleton]; omega
    ·obtain ⟨s, _, rfl⟩ := List.mem_map.1 hx
     simp only [List.length_append, List.length_singleton]; omega
 exact key _ ls rfl
/-- Sorted, they are those of the plain sum. -/
theorem srt_own {U : List Pol} (h : ∀ x ∈ U, Sd x.2) : (isort ltO (ownL (csU U))).map prj = srtS U := by
 have e1 : isort ltO (ownL (csU U)) = isort (fun a b => (fun x y : Go.Geo.Own => alB x.1 y.1) (prj a) (prj b)) (ownL (csU U)) := by
  refine isort_congr ((ownL_sorted (csU U)).1.imp fun {y x} hyx => ?_)
  simp only [ltO, prj]
  split
  ·rename_i e
   rw [e]
   have : ¬ al y.1.2 y.1.2 := al_irr
   rw [← alB_iff, Bool.not_eq_true] at this
   rw [this]
   exact decide_eq_false (by omega)
  ·rfl
 rw [e1]
 refine (isort_map (f := prj) (lt := fun x y : Go.Geo.Own => alB x.1 y.1)).trans ?_
 rw [ownL_prj h]
 rfl
end Go.Proofs.Try
end
