/- Tools for laws: rounds that count, find or keep something; needs. Rounds over a list, with a function that says what comes out. Plain Lean. Sorting by insertion, as rounds. Plain Lean. Lists of numbers in order. Plain Lean. Sets as numbers below 64: their growers, one after the other. Plain Lean. A council is valid: program and reference say the same. A set's weight, and whether it wins: the program's. The reference's sums and wins; councils out of parts; what is known of a council. Sets without some; swings and turns of the program. Swings and turns: the program's and the reference's. Swings and turns of the reference; the law of powers. Swings and turns are as stated. Which of two growers is stronger: the program and the reference. Lists of growers as sets; wins; exchanges: the program and the reference. Exchanges: what is accepted; where there is one. The weights and quotas with which the same sets win: the program and the reference. Councils by numbers; sets that win, without the reference. Sums over sets; sets that win, and lists of sets, without the reference. Sets that win least; what growers are. Orders of growers, and the sets that decide: plain laws. Lists in order: both comparisons, and the sort. The sets that win least, listed in order: the program's list and the reference's. What growers are, by the reference. Whether a set wins, the sets that win least, and what growers are: both ways alike. -/
import Derived.Test.YtdbjdjjcijgdfaaDoorG13
set_option linter.unusedSectionVars false
set_option linter.unusedVariables false
set_option linter.unusedSimpArgs false
section
namespace Go.AM
theorem need_u64 {X : Type} {z : Int} {x : Option X} (h1 : 0 ≤ z) (h2 : z ≤ 18446744073709551615) : need (rng .u64 z) x = x := need_t (rng_u64 h1 h2)
theorem bigL_eq : bigL = 1073741824 := by decide
theorem need_big {X : Type} {n : Nat} {x : Option X} (h : n < 1000000000) : need (decide (n < bigL)) x = x := need_d (by rw [bigL_eq]; omega)
theorem need_inbL {X : Type} {i : Int} {x : Option X} (h : 0 ≤ i) (h2 : i < 1000000000) : need (inb i ((bigL : Nat) : Int)) x = x := need_inb h (by rw [bigL_eq]; omega)
/-- Rounds that count, or end early with what was found. -/
theorem iter_find {α β γ : Type} {step : α → Option (α ⊕ β)} (n : Nat) (g : Nat → α) (stop : Nat → Option γ) (inj : γ → β) {b : β}
  (hr : ∀ k, k < n → (∀ j, j < k → stop j = none) → step (g k) = match stop k with | none => some (.inl (g (k + 1))) | some c => some (.inr (inj c))) (he : (∀ j, j < n → stop j = none) → step (g n) = some (.inr b)) :
  iter step (g 0) = some (((List.range n).findSome? stop).elim b inj) := by
 have key : ∀ m k, k + m = n → (∀ j, j < k → stop j = none) → iter step (g k) = some (((List.range' k m).findSome? stop).elim b inj) := by
  intro m
  induction m with
  | zero =>
   intro k hk hs
   have : k = n := by omega
   subst this
   simpa using iter_inr (he hs)
  | succ m ih =>
   intro k hk hs0
   have h := hr k (by omega) hs0
   rw [List.range'_succ, List.findSome?_cons]
   cases hs : stop k with
   | none =>
    rw [hs] at h
    refine iter_inl h (ih (k + 1) (by omega) fun j hj => ?_)
    by_cases e : j = k
    ·rw [e, hs]
    ·exact hs0 j (by omega)
   | some c => rw [hs] at h; exact iter_inr h
 rw [List.range_eq_range']
 exact key n 0 (by omega) (fun j hj => by omega)
/-- Rounds that count and keep something. -/
theorem iter_ex {α β : Type} {step : α → Option (α ⊕ β)} (n : Nat) (I : Nat → α → Prop) (Q : β → Prop) (hr : ∀ k x, k < n → I k x → ∃ y, step x = some (.inl y) ∧ I (k + 1) y) (he : ∀ x, I n x → ∃ b, step x = some (.inr b) ∧ Q b)
  {x : α} (h0 : I 0 x) : ∃ b, iter step x = some b ∧ Q b := by
 have key : ∀ m k x, k + m = n → I k x → ∃ b, iter step x = some b ∧ Q b := by
  intro m
  induction m with
  | zero =>
   intro k x hk hx
   have : k = n := by omega
   subst this
   obtain ⟨b, h1, h2⟩ := he x hx
   exact ⟨b, iter_inr h1, h2⟩
  | succ m ih =>
   intro k x hk hx
   obtain ⟨y, h1, h2⟩ := hr k x (by omega) hx
   obtain ⟨b, h3, h4⟩ := ih (k + 1) y (by omega) h2
   exact ⟨b, iter_inl h1 h3, h4⟩
 exact key n 0 x (by omega) h0
/-- Rounds over the items of a list: the state is what the items so far came to. -/
theorem iter_fold {α β γ σ : Type} {step : α → Option (α ⊕ β)} (l : List γ) (d : γ) (f : σ → γ → σ) (g : Nat → σ → α) (s0 : σ) (I : σ → Prop) {out : σ → β} (h0 : I s0)
  (hr : ∀ k s, k < l.length → I s → I (f s (l.getD k d)) ∧ step (g k s) = some (.inl (g (k + 1) (f s (l.getD k d))))) (he : ∀ s, I s → step (g l.length s) = some (.inr (out s))) :
  iter step (g 0 s0) = some (out (l.foldl f s0)) ∧ I (l.foldl f s0) := by
 have key : ∀ m k s, k + m = l.length → I s → iter step (g k s) = some (out ((l.drop k).foldl f s)) ∧ I ((l.drop k).foldl f s) := by
  intro m
  induction m with
  | zero =>
   intro k s hk hs
   rw [show k = l.length by omega, List.drop_length]
   exact ⟨iter_inr (he s hs), hs⟩
  | succ m ih =>
   intro k s hk hs
   obtain ⟨h1, h2⟩ := hr k s (by omega) hs
   obtain ⟨h3, h4⟩ := ih (k + 1) _ (by omega) h1
   have e : l.drop k = l.getD k d :: l.drop (k + 1) := by
    rw [List.drop_eq_getElem_cons (by omega)]; simp [List.getD_eq_getElem?_getD, List.getElem?_eq_getElem (show k < l.length by omega)]
   rw [e, List.foldl_cons]
   exact ⟨iter_inl h2 h3, h4⟩
 have := key l.length 0 s0 (by omega) h0
 simpa using this
theorem getD_take {α : Type} {l : List α} {k n : Nat} {d : α} (h : k < n) : (l.take n).getD k d = l.getD k d := by
 simp [List.getD_eq_getElem?_getD, List.getElem?_take, h]
theorem getD_mem {α : Type} {l : List α} {k : Nat} {d : α} (h : k < l.length) : l.getD k d ∈ l := by
 simp [List.getD_eq_getElem?_getD, List.getElem?_eq_getElem h]
theorem take_succ_getD {α : Type} {l : List α} {k : Nat} (d : α) (h : k < l.length) : l.take (k + 1) = l.take k ++ [l.getD k d] := by
 rw [List.take_succ_eq_append_getElem h]; simp [List.getD_eq_getElem?_getD, List.getElem?_eq_getElem h]
theorem getD_el {α : Type} {l : List α} {k : Nat} (d : α) (h : k < l.length) : l.getD k d = l[k] := by
 simp [List.getD_eq_getElem?_getD, List.getElem?_eq_getElem h]
theorem getD_out {α : Type} {l : List α} {k : Nat} (d : α) (h : l.length ≤ k) : l.getD k d = d := by
 simp [List.getD_eq_getElem?_getD, List.getElem?_eq_none h]
end Go.AM
end
section
namespace Go.AM
theorem getD_mid {α : Type} {A B : List α} {x d : α} {n : Nat} (h : n = A.length) : (A ++ x :: B).getD n d = x := by
 subst h; simp [List.getD_eq_getElem?_getD]
theorem set_mid {α : Type} {A B : List α} {x y : α} {n : Nat} (h : n = A.length) : (A ++ x :: B).set n y = A ++ y :: B := by
 subst h; simp [List.set_append]
/-- Rounds over the items of a list: 'G' says what comes out of a state and the items that are left. -/
theorem iter_list {A B S X : Type} {f : A → Option (A ⊕ B)} (xs : List X) (mk : Nat → S → A) (G : S → List X → B) (Inv : List X → S → Prop)
  (hs : ∀ pre x post s, xs = pre ++ x :: post → Inv pre s →
   (∃ s', f (mk pre.length s) = some (.inl (mk (pre.length + 1) s')) ∧ Inv (pre ++ [x]) s' ∧ G s (x :: post) = G s' post) ∨ f (mk pre.length s) = some (.inr (G s (x :: post))))
  (he : ∀ s, Inv xs s → f (mk xs.length s) = some (.inr (G s []))) {s : S} (h0 : Inv [] s) : iter f (mk 0 s) = some (G s xs) := by
 have key : ∀ (post pre : List X) (s : S), xs = pre ++ post → Inv pre s → iter f (mk pre.length s) = some (G s post) := by
  intro post
  induction post with
  | nil =>
   intro pre s hx hi
   have : pre = xs := by rw [hx]; simp
   subst this
   exact iter_inr (he s hi)
  | cons x post ih =>
   intro pre s hx hi
   rcases hs pre x post s hx hi with ⟨s', h1, h2, h3⟩ | h1
   ·refine iter_inl h1 ?_
    rw [h3]
    have := ih (pre ++ [x]) s' (by rw [hx]; simp) h2
    simpa using this
   ·exact iter_inr h1
 exact key xs [] s (by simp) h0
theorem bind_eq {A X : Type} {o : Option A} {a : A} {f : A → Option X} {y : Option X} (h : o = some a) (e : f a = y) : bindO o f = y := by rw [h, bindO_s, e]
theorem bigL_val : ((bigL : Nat) : Int) = 1073741824 := by decide
theorem need_lenbig {X : Type} {n : Nat} {x : Option X} (h : n < 1000000000) : need (decide (n < bigL)) x = x := need_d (by have := bigL_val; omega)
theorem br_true {X : Type} {x y : Option X} : brO true x y = x := by simp
theorem br_false {X : Type} {x y : Option X} : brO false x y = y := by simp
end Go.AM
end
section
namespace Go.AM
variable {α : Type}
/-- Put where it belongs; the list is told from its end. -/
def insR (lt : α → α → Bool) (x : α) : List α → List α
 | [] => [x]
 | y :: R => if lt x y = true then y :: insR lt x R else x :: y :: R
def sortR (lt : α → α → Bool) (R : List α) (l : List α) : List α := l.foldl (fun R x => insR lt x R) R
def isort (lt : α → α → Bool) (l : List α) : List α := (sortR lt [] l).reverse
variable {lt : α → α → Bool}
theorem insR_perm (x : α) : ∀ R : List α, (insR lt x R).Perm (x :: R)
 | [] => .refl _
 | y :: R => by
  unfold insR; split
  ·exact ((insR_perm x R).cons y).trans (.swap ..)
  ·exact .refl _
theorem sortR_perm : ∀ (l R : List α), (sortR lt R l).Perm (l ++ R)
 | [], _ => .refl _
 | x :: l, R => by
  have h1 := sortR_perm l (insR lt x R)
  have h2 : (l ++ insR lt x R).Perm (x :: (l ++ R)) := ((List.Perm.append_left l (insR_perm x R))).trans List.perm_middle
  exact h1.trans h2
theorem isort_perm (l : List α) : (isort lt l).Perm l := by
 have := sortR_perm (lt := lt) l []
 rw [List.append_nil] at this
 exact (List.reverse_perm _).trans this
theorem isort_length (l : List α) : (isort lt l).length = l.length := (isort_perm l).length_eq
/-- An order on what is good. -/
structure OrdOn (lt : α → α → Bool) (Good : α → Prop) : Prop where
 asym : ∀ a b, Good a → Good b → lt a b = true → lt b a = false
 ntr : ∀ a b c, Good a → Good b → Good c → lt a b = false → lt b c = false → lt a c = false
variable {Good : α → Prop}
theorem insR_sorted (h : OrdOn lt Good) {x : α} (hx : Good x) : ∀ {R : List α}, (∀ y ∈ R, Good y) → R.Pairwise (fun a b => lt a b = false) → (insR lt x R).Pairwise (fun a b => lt a b = false)
 | [], _, _ => by simp [insR]
 | y :: R, hg, hp => by
  have hy := hg y (List.mem_cons_self ..)
  have hg' : ∀ z ∈ R, Good z := fun z hz => hg z (List.mem_cons_of_mem _ hz)
  rw [List.pairwise_cons] at hp
  unfold insR; split
  ·rename_i hl
   rw [List.pairwise_cons]
   refine ⟨fun z hz => ?_, insR_sorted h hx hg' hp.2⟩
   rcases List.mem_cons.1 ((insR_perm x R).mem_iff.1 hz) with rfl | hz
   ·exact h.asym _ _ hx hy hl
   ·exact hp.1 z hz
  ·rename_i hl
   have hl : lt x y = false := by simpa using hl
   rw [List.pairwise_cons, List.pairwise_cons]
   refine ⟨fun z hz => ?_, hp⟩
   rcases List.mem_cons.1 hz with rfl | hz
   ·exact hl
   ·exact h.ntr _ _ _ hx hy (hg' z hz) hl (hp.1 z hz)
theorem sortR_sorted (h : OrdOn lt Good) : ∀ {l R : List α}, (∀ y ∈ l, Good y) → (∀ y ∈ R, Good y) → R.Pairwise (fun a b => lt a b = false) → (sortR lt R l).Pairwise (fun a b => lt a b = false)
 | [], _, _, _, hp => hp
 | x :: l, R, hl, hR, hp => by
  have hx := hl x (List.mem_cons_self ..)
  refine sortR_sorted (l := l) (R := insR lt x R) h (fun y hy => hl y (List.mem_cons_of_mem _ hy)) (fun y hy => ?_) (insR_sorted h hx hR hp)
  rcases List.mem_cons.1 ((insR_perm x R).mem_iff.1 hy) with rfl | hy
  ·exact hx
  ·exact hR y hy
theorem isort_sorted (h : OrdOn lt Good) {l : List α} (hl : ∀ y ∈ l, Good y) : (isort lt l).Pairwise (fun a b => lt b a = false) := by
 unfold isort
 rw [List.pairwise_reverse]
 exact sortR_sorted h hl (fun y hy => by cases hy) List.Pairwise.nil
/-- The inner rounds: one is moved to its place. -/
theorem ins_inner {A B : Type} {f : A → Option (A ⊕ B)} {n : Nat} (mk : Nat → List α → A) (out : List α → B)
  (hs : ∀ L y x Q, (∀ z ∈ L ++ y :: x :: Q, Good z) → L.length + 2 + Q.length = n → f (mk (L.length + 1) (L ++ y :: x :: Q)) = if lt x y = true then some (.inl (mk L.length (L ++ x :: y :: Q))) else some (.inr (out (L ++ y :: x :: Q))))
  (hz : ∀ l, f (mk 0 l) = some (.inr (out l))) : ∀ (R : List α) (x : α) (Q : List α), (∀ z ∈ R ++ x :: Q, Good z) → R.length + 1 + Q.length = n → iter f (mk R.length (R.reverse ++ x :: Q)) = some (out ((insR lt x R).reverse ++ Q))
 | [], x, Q, _, _ => by simpa [insR] using iter_inr (hz (x :: Q))
 | y :: R, x, Q, hg, hn => by
  have e : (y :: R).reverse ++ x :: Q = R.reverse ++ y :: x :: Q := by simp
  have h1 := hs R.reverse y x Q (fun z hz => hg z (by
   simp at hz ⊢
   rcases hz with h | h | h | h
   ·exact .inr (.inl h)
   ·exact .inl h
   ·exact .inr (.inr (.inl h))
   ·exact .inr (.inr (.inr h)))) (by simp at hn ⊢; omega)
  rw [List.length_reverse] at h1
  rw [e, List.length_cons]
  unfold insR
  by_cases hl : lt x y = true
  ·rw [if_pos hl] at h1
   rw [if_pos hl]
   refine iter_inl h1 ?_
   have := ins_inner mk out hs hz R x (y :: Q) (fun z hz => hg z (by
    simp at hz ⊢
    rcases hz with h | h | h | h
    ·exact .inr (.inl h)
    ·exact .inr (.inr (.inl h))
    ·exact .inl h
    ·exact .inr (.inr (.inr h)))) (by simp at hn ⊢; omega)
   simpa using this
  ·rw [if_neg hl] at h1
   rw [if_neg hl]
   refine iter_inr ?_
   rw [h1]; simp
/-- All rounds. -/
theorem ins_outer {A B : Type} {f : A → Option (A ⊕ B)} {n : Nat} (mk : Nat → List α → A) (out : List α → B)
  (hs : ∀ (R : List α) x Q, 0 < R.length → (∀ z ∈ R ++ x :: Q, Good z) → R.length + 1 + Q.length = n → f (mk R.length (R.reverse ++ x :: Q)) = some (.inl (mk (R.length + 1) ((insR lt x R).reverse ++ Q))))
  (he : ∀ k l, n ≤ k → f (mk k l) = some (.inr (out l))) {l : List α} (hg : ∀ z ∈ l, Good z) (hn : l.length = n) : iter f (mk 1 l) = some (out (isort lt l)) := by
 have key : ∀ (Q R : List α), 0 < R.length → (∀ z ∈ R ++ Q, Good z) → R.length + Q.length = n → iter f (mk R.length (R.reverse ++ Q)) = some (out (sortR lt R Q).reverse) := by
  intro Q
  induction Q with
  | nil =>
   intro R hR hg hn
   rw [List.append_nil]
   exact iter_inr (he _ _ (by simp at hn; omega))
  | cons x Q ih =>
   intro R hR hg hn
   refine iter_inl (hs R x Q hR hg (by simp at hn; omega)) ?_
   have hlen : (insR lt x R).length = R.length + 1 := (insR_perm x R).length_eq
   have := ih (insR lt x R) (by omega) (fun z hz => hg z (by
    rcases List.mem_append.1 hz with hz | hz
    ·rcases List.mem_cons.1 ((insR_perm x R).mem_iff.1 hz) with rfl | hz
     ·simp
     ·simp [hz]
    ·simp [hz])) (by simp at hn; omega)
   rw [hlen] at this
   exact this
 cases l with
 | nil => exact iter_inr (he 1 [] (by simp at hn; omega))
 | cons x Q => exact key Q [x] (by simp) hg (by simp at hn ⊢; omega)
end Go.AM
end
section
namespace Go.AM
/-- -1, 0 or 1. -/
def cmpL : List Int → List Int → Int
 | [], [] => 0
 | [], _ :: _ => -1
 | _ :: _, [] => 1
 | a :: u, b :: v => if a < b then -1 else if b < a then 1 else cmpL u v
def ltL (a b : List Int) : Bool := decide (cmpL a b < 0)
/-- Where both still have something: which is first, if they differ. -/
def clL : List Int → List Int → Option Int
 | [], _ => none
 | _ :: _, [] => some 1
 | a :: u, b :: v => if a < b then some (-1) else if b < a then some 1 else clL u v
theorem cmpL_cl : ∀ a b : List Int, cmpL a b = (clL a b).getD (if a.length < b.length then -1 else 0)
 | [], [] => rfl
 | [], _ :: _ => by simp [cmpL, clL]
 | _ :: _, [] => rfl
 | a :: u, b :: v => by
  have := cmpL_cl u v
  simp only [cmpL, clL]
  by_cases h : a < b
  ·rw [if_pos h, if_pos h]; rfl
  rw [if_neg h, if_neg h]
  by_cases h2 : b < a
  ·rw [if_pos h2, if_pos h2]; rfl
  rw [if_neg h2, if_neg h2, this]
  simp
theorem cmpL_anti : ∀ a b : List Int, cmpL b a = - cmpL a b
 | [], [] => rfl
 | [], _ :: _ => rfl
 | _ :: _, [] => rfl
 | a :: u, b :: v => by
  have := cmpL_anti u v
  simp only [cmpL]
  by_cases h : a < b
  ·rw [if_neg (by omega), if_pos h, if_pos h]; rfl
  by_cases h2 : b < a
  ·rw [if_pos h2, if_neg h, if_pos h2]
  rw [if_neg h2, if_neg h, if_neg h, if_neg h2, this]
theorem cmpL_zero : ∀ a b : List Int, cmpL a b = 0 → a = b
 | [], [], _ => rfl
 | [], _ :: _, h => by simp [cmpL] at h
 | _ :: _, [], h => by simp [cmpL] at h
 | a :: u, b :: v, h => by
  simp only [cmpL] at h
  by_cases h1 : a < b
  ·simp [h1] at h
  by_cases h2 : b < a
  ·simp [h1, h2] at h
  rw [if_neg h1, if_neg h2] at h
  rw [cmpL_zero u v h, show a = b by omega]
theorem cmpL_self : ∀ a : List Int, cmpL a a = 0
 | [] => rfl
 | a :: u => by simp [cmpL, cmpL_self u]
theorem cmpL_trans : ∀ a b c : List Int, cmpL a b < 0 → cmpL b c < 0 → cmpL a c < 0
 | [], [], _, h, _ => by simp [cmpL] at h
 | _ :: _, [], _, h, _ => by simp [cmpL] at h
 | _, _ :: _, [], _, h => by simp [cmpL] at h
 | [], _ :: _, _ :: _, _, _ => by simp [cmpL]
 | a :: u, b :: v, c :: w, h1, h2 => by
  have ih := cmpL_trans u v w
  simp only [cmpL] at h1 h2 ⊢
  split at h1 <;> split at h2 <;> split <;> (try omega) <;> split <;> (try omega) <;> (repeat' split at h1) <;> (try omega) <;> (repeat' split at h2) <;> (try omega)
  all_goals exact ih h1 h2
theorem ltL_irr (a : List Int) : ltL a a = false := by simp [ltL, cmpL_self]
theorem ltL_trans {a b c : List Int} (h1 : ltL a b = true) (h2 : ltL b c = true) : ltL a c = true :=
 decide_eq_true (cmpL_trans a b c (of_decide_eq_true h1) (of_decide_eq_true h2))
theorem ltL_asym {a b : List Int} (h : ltL a b = true) : ltL b a = false := by
 have h := of_decide_eq_true h
 exact decide_eq_false (by rw [cmpL_anti a b]; omega)
theorem ltL_le {a b : List Int} (h : ltL a b = false) : ltL b a = true ∨ a = b := by
 have h := of_decide_eq_false h
 by_cases e : cmpL a b = 0
 ·exact .inr (cmpL_zero _ _ e)
 ·exact .inl (decide_eq_true (by rw [cmpL_anti a b]; omega))
theorem ltL_ntr {a b c : List Int} (h1 : ltL a b = false) (h2 : ltL b c = false) : ltL a c = false := by
 rcases ltL_le h1 with h | rfl
 ·rcases ltL_le h2 with h' | rfl
  ·exact ltL_asym (ltL_trans h' h)
  ·exact h1
 ·exact h2
theorem ltL_ord (G : List Int → Prop) : OrdOn ltL G := ⟨fun _ _ _ _ h => ltL_asym h, fun _ _ _ _ _ _ h1 h2 => ltL_ntr h1 h2⟩
/-- There is one way to stand in order. -/
theorem ltL_one {l r : List (List Int)} (h : l.Perm r) (hl : l.Pairwise (fun a b => ltL b a = false)) (hr : r.Pairwise (fun a b => ltL b a = false)) : l = r :=
 h.eq_of_pairwise (fun a b _ _ h1 h2 => by
  rcases ltL_le h1 with h | h
  ·rw [h2] at h; cases h
  ·exact h.symm) hl hr
end Go.AM
end
section
namespace Go.Cn
open Go.AM
/-- The growers of a set. -/
def els (s : Nat) : List Nat := (List.range 6).filter s.testBit
/-- The first of them. -/
def tzN (s : Nat) : Nat := ((List.range 6).find? s.testBit).getD 64
def low (s : Nat) : Nat := s &&& (s - 1)
/-- What is so of all small numbers is seen by trying them. -/
theorem all_lt {n : Nat} {p : Nat → Bool} (h : (List.range n).all p = true) {s : Nat} (hs : s < n) : p s = true := List.all_eq_true.1 h s (List.mem_range.2 hs)
theorem all_lt2 {n m : Nat} {p : Nat → Nat → Bool} (h : (List.range n).all (fun s => (List.range m).all (p s)) = true) {s i : Nat} (hs : s < n) (hi : i < m) : p s i = true := all_lt (all_lt h hs) hi
theorem els_zero : els 0 = [] := by decide
theorem els_cons {s : Nat} (hs : s < 64) (h : s ≠ 0) : els s = tzN s :: els (low s) := by
  have := all_lt (n := 64) (p := fun s => s == 0 || decide (els s = tzN s :: els (low s))) (by decide +kernel) hs
  simpa [h] using this
theorem low_lt {s : Nat} (hs : s < 64) (h : s ≠ 0) : low s < s := by
  have := all_lt (n := 64) (p := fun s => s == 0 || decide (low s < s)) (by decide +kernel) hs
  simpa [h] using this
/-- Below 2^n there are only the first n. -/
theorem els_upto {s n : Nat} (hn : n ≤ 6) (hs : s < 2 ^ n) : els s = (List.range n).filter s.testBit := by
  have := all_lt2 (n := 7) (m := 64) (p := fun n s => !(decide (s < 2 ^ n)) || decide (els s = (List.range n).filter s.testBit)) (by decide +kernel) (s := n) (i := s) (by omega) (by
    have : 2 ^ n ≤ 2 ^ 6 := Nat.pow_le_pow_right (by omega) hn
    omega)
  simpa [hs] using this
theorem tz_lt {s n : Nat} (hn : n ≤ 6) (hs : s < 2 ^ n) (h : s ≠ 0) : tzN s < n := by
  have h64 : s < 64 := by
    have : 2 ^ n ≤ 2 ^ 6 := Nat.pow_le_pow_right (by omega) hn
    omega
  have e := els_upto hn hs
  rw [els_cons h64 h] at e
  have : tzN s ∈ (List.range n).filter s.testBit := by rw [← e]; exact List.mem_cons_self ..
  exact List.mem_range.1 (List.mem_filter.1 this).1
theorem pow6 {n : Nat} (hn : n ≤ 6) : 2 ^ n ≤ 64 := Nat.pow_le_pow_right (by omega) hn
/-- Rounds over the growers of a set. -/
theorem iter_els {A B S : Type} {f : A → Option (A ⊕ B)} (mk : Nat → S → A) (G : S → List Nat → B) (Inv : Nat → S → Prop)
    (hs : ∀ s st, s < 64 → s ≠ 0 → Inv s st → (∃ st', f (mk s st) = some (.inl (mk (low s) st')) ∧ Inv (low s) st' ∧ G st (tzN s :: els (low s)) = G st' (els (low s))) ∨ f (mk s st) = some (.inr (G st (tzN s :: els (low s)))))
    (he : ∀ st, Inv 0 st → f (mk 0 st) = some (.inr (G st []))) : ∀ {s : Nat} {st : S}, s < 64 → Inv s st → iter f (mk s st) = some (G st (els s)) := by
  intro s
  induction s using Nat.strongRecOn with
  | ind s ih =>
    intro st h64 hi
    by_cases h0 : s = 0
    · subst h0; rw [els_zero]; exact iter_inr (he st hi)
    · rw [els_cons h64 h0]
      rcases hs s st h64 h0 hi with ⟨st', h1, h2, h3⟩ | h1
      · rw [h3]
        exact iter_inl h1 (ih _ (low_lt h64 h0) (by have := low_lt h64 h0; omega) h2)
      · exact iter_inr h1
/-- Rounds that count up, and carry something. -/
theorem iter_upto {A B S : Type} {f : A → Option (A ⊕ B)} (N : Nat) (mk : Nat → S → A) (G : S → Nat → B) (Inv : Nat → S → Prop)
    (hs : ∀ k st, k < N → Inv k st → (∃ st', f (mk k st) = some (.inl (mk (k + 1) st')) ∧ Inv (k + 1) st' ∧ G st k = G st' (k + 1)) ∨ f (mk k st) = some (.inr (G st k)))
    (he : ∀ st, Inv N st → f (mk N st) = some (.inr (G st N))) {s : S} (h0 : Inv 0 s) : iter f (mk 0 s) = some (G s 0) := by
  have key : ∀ m k s, k + m = N → Inv k s → iter f (mk k s) = some (G s k) := by
    intro m
    induction m with
    | zero => intro k s hk hi; have e : k = N := by omega
              subst e; exact iter_inr (he s hi)
    | succ m ih =>
      intro k s hk hi
      rcases hs k s (by omega) hi with ⟨s', h1, h2, h3⟩ | h1
      · rw [h3]; exact iter_inl h1 (ih (k + 1) s' (by omega) h2)
      · exact iter_inr h1
  exact key N 0 s (by omega) h0
/-! Operations on 64 els, on small numbers. -/
theorem u_has {s i : Nat} (hs : s < 64) (hi : i < 6) : (ar0.bits IBin.and .u64 (ar0.shr (s : Int) (i : Int)) (1 : Int) == (1 : Int)) = s.testBit i := by
  have := all_lt2 (n := 64) (m := 6) (p := fun s i => (ar0.bits IBin.and .u64 (ar0.shr (s : Int) (i : Int)) (1 : Int) == (1 : Int)) == s.testBit i) (by kernel_rfl) hs hi
  simpa using this
theorem u_with {s i : Nat} (hs : s < 64) (hi : i < 6) : ar0.bits IBin.or .u64 (s : Int) (ar0.shl (1 : Int) (i : Int)) = ((s ||| 2 ^ i : Nat) : Int) := by
  have := all_lt2 (n := 64) (m := 6) (p := fun s i => ar0.bits IBin.or .u64 (s : Int) (ar0.shl (1 : Int) (i : Int)) == ((s ||| 2 ^ i : Nat) : Int)) (by kernel_rfl) hs hi
  simpa using this
/-- A set without one. -/
def wo (s i : Nat) : Nat := if s.testBit i then s - 2 ^ i else s
theorem u_wo {s i : Nat} (hs : s < 64) (hi : i < 6) : ar0.bits IBin.andNot .u64 (s : Int) (ar0.shl (1 : Int) (i : Int)) = ((wo s i : Nat) : Int) := by
  have := all_lt2 (n := 64) (m := 6) (p := fun s i => ar0.bits IBin.andNot .u64 (s : Int) (ar0.shl (1 : Int) (i : Int)) == ((wo s i : Nat) : Int)) (by kernel_rfl) hs hi
  simpa using this
theorem u_low {s : Nat} (hs : s < 64) (h : s ≠ 0) : ar0.bits IBin.and .u64 (s : Int) ((s : Int) - 1) = ((low s : Nat) : Int) := by
  have := all_lt (n := 64) (p := fun s => s == 0 || ar0.bits IBin.and .u64 (s : Int) ((s : Int) - 1) == ((low s : Nat) : Int)) (by kernel_rfl) hs
  simpa [h] using this
theorem i_has {s i : Nat} (hs : s < 64) (hi : i < 6) : (ar0.bits IBin.and .i64 (ar0.shr (s : Int) (i : Int)) (1 : Int) == (1 : Int)) = s.testBit i := by
  have := all_lt2 (n := 64) (m := 6) (p := fun s i => (ar0.bits IBin.and .i64 (ar0.shr (s : Int) (i : Int)) (1 : Int) == (1 : Int)) == s.testBit i) (by kernel_rfl) hs hi
  simpa using this
theorem i_with {s i : Nat} (hs : s < 64) (hi : i < 6) : ar0.bits IBin.or .i64 (s : Int) (ar0.shl (1 : Int) (i : Int)) = ((s ||| 2 ^ i : Nat) : Int) := by
  have := all_lt2 (n := 64) (m := 6) (p := fun s i => ar0.bits IBin.or .i64 (s : Int) (ar0.shl (1 : Int) (i : Int)) == ((s ||| 2 ^ i : Nat) : Int)) (by kernel_rfl) hs hi
  simpa using this
theorem i_wo {s i : Nat} (hs : s < 64) (hi : i < 6) : ar0.bits IBin.andNot .i64 (s : Int) (ar0.shl (1 : Int) (i : Int)) = ((wo s i : Nat) : Int) := by
  have := all_lt2 (n := 64) (m := 6) (p := fun s i => ar0.bits IBin.andNot .i64 (s : Int) (ar0.shl (1 : Int) (i : Int)) == ((wo s i : Nat) : Int)) (by kernel_rfl) hs hi
  simpa using this
theorem shl_one {i : Nat} (hi : i < 12) : ar0.shl (1 : Int) (i : Int) = ((2 ^ i : Nat) : Int) := by
  have := all_lt (n := 12) (p := fun i => ar0.shl (1 : Int) (i : Int) == ((2 ^ i : Nat) : Int)) (by kernel_rfl) hi
  simpa using this
theorem wo_lt {s i n : Nat} (hs : s < n) : wo s i < n := by
  have := Nat.sub_le s (2 ^ i)
  unfold wo; split <;> omega
theorem or_lt {s i n : Nat} (hn : n ≤ 6) (hs : s < 2 ^ n) (hi : i < n) : s ||| 2 ^ i < 2 ^ n := Nat.or_lt_two_pow hs (Nat.pow_lt_pow_right (by omega) hi)
end Go.Cn
end
section
namespace Go.Proofs.Tryd
open Go.AM Go.Cn
set_option maxRecDepth 100000
abbrev Ch := Int × List Int
def gro (c : List Ch) : Nat := (c.getD 0 ((0 : Int), [])).2.length
def badW (z : Int) : Bool := !decide (0 ≤ z ∧ z ≤ 1000000)
def okCh (n : Nat) (x : Ch) : Int := if x.2.length ≠ n then 3 else if ¬ (1 ≤ x.1 ∧ x.1 ≤ 10000000) then 2 else if x.2.any badW = true then 2 else 0
def chkL (n : Nat) : List Ch → Int
 | [] => 0
 | x :: r => if okCh n x ≠ 0 then okCh n x else chkL n r
def chk (c : List Ch) : Int := if c.length = 0 then 4 else if 3 < c.length then 1 else if gro c = 0 then 4 else if 9 < gro c then 1 else chkL (gro c) c
def largeOne (x : Ch) : Bool := (decide (6 < x.2.length) && decide (x.2.length ≤ 9)) || decide (40 < x.2.length)
def largeC (c : List Ch) : Bool := decide (20 < c.length) || c.any largeOne
theorem k67 (a b c : Int) : run0 (F67 a b c) = some (decide (a ≤ b ∧ b ≤ c), ()) := by
 simp only [F67, run_br, run_ret, br_d]
 by_cases h : a ≤ b
 ·rw [if_pos h]; simp [h]
 ·rw [if_neg h]; simp [h]
theorem k69 (a b c : Int) : run0 (F69 a b c) = some (decide (b ≤ a ∧ a ≤ c), ()) := by
 simp only [F69, run_br, run_ret, br_d]
 by_cases h : b ≤ a
 ·rw [if_pos h]; simp [h]
 ·rw [if_neg h]; simp [h]
theorem k91 {c : List Ch} (h : 0 < c.length) : run0 (F91 c) = some (((gro c : Nat) : Int), ()) := by
 simp only [F91, run_nb, run_ret]
 rw [need_inb (by omega) (by omega)]; rfl
theorem k60 {c : List Ch} (h : 0 < c.length) : run0 (F60 c) = some (((gro c : Nat) : Int), ()) := by
 simp only [F60, run_nb, run_ret]
 rw [need_inb (by omega) (by omega)]; rfl
theorem k92 (z : Int) : run0 (F92 z) = some (badW z, ()) := by
 simp only [F92, run_bd, k67, bindO_s, run_ret, badW]
theorem k15 {c : List Ch} (hc : c.length < 9223372036854775808) : run0 (F15 c) = some (largeC c, ()) := by
 simp only [F15, run_bd, run_it]
 refine bind_eq (iter_list c (fun k (s : Bool) => (s, (k : Int), c, ())) (fun s r => (s || r.any largeOne, ())) (fun _ _ => True) ?_ ?_ (s := decide ((20 : Int) < ((c.length : Nat) : Int))) trivial) ?_
 ·rintro pre x post s hx -
  left
  have hlen : c.length = pre.length + (post.length + 1) := by rw [hx]; simp
  have hd : c.getD pre.length ((0 : Int), []) = x := by rw [hx]; exact getD_mid rfl
  refine ⟨s || largeOne x, ?_, trivial, by simp [Bool.or_assoc]⟩
  have hin : inb (pre.length : Int) ((c.length : Nat) : Int) = true := inb_t (by omega) (by omega)
  have hni : rng .i64 ((pre.length : Int) + 1) = true := rng_i64 (by omega) (by omega)
  simp only [g15_0, run_br, run_nb, run_ni, run_ret, Int.toNat_natCast, hd, br_d, hin, hni, need_true]
  rw [if_pos (by omega)]
  cases s
  ·simp only [brO_false, largeOne, Bool.false_or]
   by_cases h1 : 6 < x.2.length
   ·rw [if_pos (by omega)]
    by_cases h2 : x.2.length ≤ 9
    ·rw [if_pos (by omega)]; simp [h1, h2]
    ·rw [if_neg (by omega)]; simp [h1, h2]
     omega
   ·rw [if_neg (by omega)]; simp [h1]
    omega
  ·simp
 ·intro s _
  simp only [g15_0, run_br, run_ret, br_d]
  rw [if_neg (by omega)]; simp
 ·simp only [run_ret, largeC]
  congr 3
  have e : decide ((20 : Int) < ((c.length : Nat) : Int)) = decide (20 < c.length) := by
   apply decide_eq_decide.2; omega
  rw [e]
theorem k105 {l : List Int} (hl : l.length < 1000) : ∃ k : Int, run0 (F105 l) = some (k, ()) ∧ (0 ≤ k ↔ l.any badW = true) := by
 simp only [F105, run_bd, run_it]
 have := iter_list l (f := fun a => run (fun _ => none) (g105_0 a)) (fun k (s : Nat) => (l, ((l.length : Nat) : Int), (k : Int), ())) (fun s r => match r.findIdx? badW with | some k => .inl (((s + k : Nat) : Int), ()) | none => .inr ()) (fun pre s => s = pre.length) ?_ ?_ (s := 0) rfl
 ·replace this : iter (fun a => run (fun _ => none) (g105_0 a)) (l, ((l.length : Nat) : Int), (0 : Int), ()) = _ := this
  rw [bind_of this]
  cases hf : l.findIdx? badW with
  | none =>
   simp only [run_sr, run_ret]
   exact ⟨-1, rfl, by simp only [show ¬ ((0 : Int) ≤ -1) by omega, false_iff]; simpa using List.findIdx?_eq_none_iff.1 hf⟩
  | some k =>
   simp only [run_sl, run_ret]
   refine ⟨_, rfl, by
    simp only [show (0 : Int) ≤ ((0 + k : Nat) : Int) by omega, true_iff]
    obtain ⟨hk, h1, _⟩ := List.findIdx?_eq_some_iff_getElem.1 hf
    exact List.any_eq_true.2 ⟨_, List.getElem_mem hk, h1⟩⟩
 ·rintro pre x post s hx rfl
  have hlen : l.length = pre.length + (post.length + 1) := by rw [hx]; simp
  have hd : l.getD pre.length (0 : Int) = x := by rw [hx]; exact getD_mid rfl
  have hin : inb (pre.length : Int) ((l.length : Nat) : Int) = true := inb_t (by omega) (by omega)
  have hni : rng .i64 ((pre.length : Int) + 1) = true := rng_i64 (by omega) (by omega)
  simp only [g105_0, run_br, run_bd, run_nb, run_ni, run_ret, Int.toNat_natCast, hd, br_d, hin, hni, need_true, k92, bindO_s]
  rw [if_pos (by omega)]
  cases hb : badW x
  ·left
   refine ⟨pre.length + 1, by simp, by simp, ?_⟩
   rw [List.findIdx?_cons, hb]
   cases post.findIdx? badW with
   | none => rfl
   | some k => simp; omega
  ·right
   rw [List.findIdx?_cons, hb]; simp
 ·rintro s rfl
  simp only [g105_0, run_br, run_ret, br_d]
  rw [if_neg (by omega)]; rfl
theorem k93 {l : List Int} (hl : l.length < 1000) : run0 (F93 l) = some (l.any badW, ()) := by
 obtain ⟨k, h1, h2⟩ := k105 hl
 simp only [F93, run_bd, run_ret]
 rw [bind_of h1]
 congr 2
 cases h : l.any badW
 ·rw [h] at h2; simp only [decide_eq_false_iff_not]; intro e; exact absurd (h2.1 e) (by simp)
 ·rw [h] at h2; simp only [decide_eq_true_eq]; exact h2.2 rfl
theorem k41 (c : List Ch) : run0 (F41 c) = some (chk c, ()) := by
 simp only [F41, run_br, run_ret, br_eq, br_d, chk]
 by_cases h0 : c.length = 0
 ·rw [if_pos (by omega), if_pos h0]
 rw [if_neg (by omega), if_neg h0]
 by_cases h1 : 3 < c.length
 ·rw [if_pos (by omega), if_pos h1]
 rw [if_neg (by omega), if_neg h1]
 simp only [run_bd, k91 (show 0 < c.length by omega), bindO_s, run_br, br_eq, br_d, run_ret]
 by_cases h2 : gro c = 0
 ·rw [if_pos (by omega), if_pos h2]
 rw [if_neg (by omega), if_neg h2]
 by_cases h3 : 9 < gro c
 ·rw [if_pos (by omega), if_pos h3]
 rw [if_neg (by omega), if_neg h3]
 simp only [run_it]
 refine bind_eq (iter_list c (fun k (s : Unit) => (c, ((c.length : Nat) : Int), (k : Int), c, ())) (fun _ r => if chkL (gro c) r = 0 then Sum.inr () else Sum.inl (chkL (gro c) r, ())) (fun _ _ => True) ?_ ?_ (s := ()) trivial) ?_
 ·rintro pre x post s hx -
  have hlen : c.length = pre.length + (post.length + 1) := by rw [hx]; simp
  have hd : c.getD pre.length ((0 : Int), []) = x := by rw [hx]; exact getD_mid rfl
  have hin : inb (pre.length : Int) ((c.length : Nat) : Int) = true := inb_t (by omega) (by omega)
  have hni : rng .i64 ((pre.length : Int) + 1) = true := rng_i64 (by omega) (by omega)
  simp only [g41_0, run_br, run_bd, run_nb, run_ni, run_ret, Int.toNat_natCast, hd, br_d, br_eq, br_not, hin, hni, need_true, k91 (show 0 < c.length by omega), k67, bindO_s]
  rw [if_pos (by omega)]
  by_cases h4 : x.2.length = gro c
  case neg =>
   right
   rw [if_neg (by omega)]
   simp [chkL, okCh, h4]
  rw [if_pos (by omega)]
  by_cases h5 : 1 ≤ x.1 ∧ x.1 ≤ 10000000
  case neg =>
   right
   rw [if_neg h5]
   simp only [chkL, okCh, if_neg (not_not_intro h4), if_pos h5]; simp
  rw [if_pos h5, bind_of (k93 (show x.2.length < 1000 by omega))]
  cases h6 : x.2.any badW
  ·left
   refine ⟨(), by simp, trivial, ?_⟩
   simp [chkL, okCh, h4, h5, h6]
  ·right
   simp [chkL, okCh, h4, h5, h6]
 ·intro s _
  simp only [g41_0, run_br, run_ret, br_d]
  rw [if_neg (by omega)]; simp [chkL]
 ·cases h : decide (chkL (gro c) c = 0)
  ·have h' := of_decide_eq_false h
   simp only [if_neg h', run_sl, run_ret]
  ·have h' := of_decide_eq_true h
   simp only [if_pos h', run_sr, run_ret]; rw [h']
theorem k50_1 {l : List Int} (hl : l.length < 1000) (c : List Ch) (q v : Int) : iter (fun a => run (fun _ => none) (g50_1 a)) (v, (0 : Int), c, q, l, ()) = some (if l.any badW = true then .inl (2, ()) else .inr (v, c, ())) := by
 refine iter_list l (fun k (s : Unit) => (v, (k : Int), c, q, l, ())) (fun _ r => if r.any badW = true then Sum.inl (2, ()) else Sum.inr (v, c, ())) (fun _ _ => True) ?_ ?_ (s := ()) trivial
 ·rintro pre x post s hx -
  have hlen : l.length = pre.length + (post.length + 1) := by rw [hx]; simp
  have hd : l.getD pre.length (0 : Int) = x := by rw [hx]; exact getD_mid rfl
  have hin : inb (pre.length : Int) ((l.length : Nat) : Int) = true := inb_t (by omega) (by omega)
  have hni : rng .i64 ((pre.length : Int) + 1) = true := rng_i64 (by omega) (by omega)
  simp only [g50_1, run_br, run_bd, run_nb, run_ni, run_ret, Int.toNat_natCast, hd, br_d, br_not, hin, hni, need_true, k69, bindO_s]
  rw [if_pos (by omega)]
  by_cases h : 0 ≤ x ∧ x ≤ 1000000
  ·left
   refine ⟨(), by rw [if_pos h]; rfl, trivial, by simp [badW, h]⟩
  ·right
   rw [if_neg h]
   have : badW x = true := by unfold badW; rw [decide_eq_false h]; rfl
   simp [this]
 ·intro s _
  simp only [g50_1, run_br, run_ret, br_d]
  rw [if_neg (by omega)]; simp
theorem k50 (c : List Ch) : run0 (F50 c) = some (chk c, ()) := by
 simp only [F50, run_br, run_ret, br_eq, br_d, chk]
 by_cases h0 : c.length = 0
 ·rw [if_pos (by omega), if_pos h0]
 rw [if_neg (by omega), if_neg h0]
 by_cases h1 : 3 < c.length
 ·rw [if_pos (by omega), if_pos h1]
 rw [if_neg (by omega), if_neg h1]
 simp only [run_bd, k60 (show 0 < c.length by omega), bindO_s, run_br, br_eq, br_d, run_ret]
 by_cases h2 : gro c = 0
 ·rw [if_pos (by omega), if_pos h2]
 rw [if_neg (by omega), if_neg h2]
 by_cases h3 : 9 < gro c
 ·rw [if_pos (by omega), if_pos h3]
 rw [if_neg (by omega), if_neg h3]
 simp only [run_it]
 refine bind_eq (iter_list c (fun k (s : Unit) => ((k : Int), c, ())) (fun _ r => if chkL (gro c) r = 0 then Sum.inr () else Sum.inl (chkL (gro c) r, ())) (fun _ _ => True) ?_ ?_ (s := ()) trivial) ?_
 ·rintro pre x post s hx -
  have hlen : c.length = pre.length + (post.length + 1) := by rw [hx]; simp
  have hd : c.getD pre.length ((0 : Int), []) = x := by rw [hx]; exact getD_mid rfl
  have hin : inb (pre.length : Int) ((c.length : Nat) : Int) = true := inb_t (by omega) (by omega)
  have hni : rng .i64 ((pre.length : Int) + 1) = true := rng_i64 (by omega) (by omega)
  simp only [g50_0, run_br, run_bd, run_it, run_nb, run_ret, Int.toNat_natCast, hd, br_d, br_eq, br_not, hin, need_true, k60 (show 0 < c.length by omega), k69, bindO_s]
  rw [if_pos (by omega)]
  by_cases h4 : x.2.length = gro c
  case neg =>
   right
   rw [if_neg (by omega)]
   simp [chkL, okCh, h4]
  rw [if_pos (by omega)]
  by_cases h5 : 1 ≤ x.1 ∧ x.1 ≤ 10000000
  case neg =>
   right
   rw [if_neg h5]
   simp only [chkL, okCh, if_neg (not_not_intro h4), if_pos h5]; simp
  rw [if_pos h5, bind_of (k50_1 (show x.2.length < 1000 by omega) c x.1 _)]
  cases h6 : x.2.any badW
  ·left
   refine ⟨(), ?_, trivial, ?_⟩
   ·simp only [Bool.false_eq_true, if_false, run_sr, run_ni, run_ret, hni, need_true]; simp
   ·simp [chkL, okCh, h4, h5, h6]
  ·right
   simp [chkL, okCh, h4, h5, h6, run_sl, run_ret]
 ·intro s _
  simp only [g50_0, run_br, run_ret, br_d]
  rw [if_neg (by omega)]; simp [chkL]
 ·cases h : decide (chkL (gro c) c = 0)
  ·have h' := of_decide_eq_false h
   simp only [if_neg h', run_sl, run_ret]
  ·have h' := of_decide_eq_true h
   simp only [if_pos h', run_sr, run_ret]; rw [h']
end Go.Proofs.Tryd
end
section
namespace Go.Proofs.Tryd
open Go.AM Go.Cn
set_option maxRecDepth 100000
/-- The weight of a set. -/
def wt (ws : List Int) (s : Nat) : Int := ((els s).map fun i => ws.getD i 0).sum
/-- A set wins in a chamber; in all. -/
def win1 (s : Nat) (x : Ch) : Bool := decide (x.1 ≤ wt x.2 s)
def winB (c : List Ch) (s : Nat) : Bool := c.all (win1 s)
/-- A chamber of n growers. -/
structure OkX (n : Nat) (x : Ch) : Prop where
 len : x.2.length = n
 q1 : 1 ≤ x.1
 q2 : x.1 ≤ 10000000
 w : ∀ z ∈ x.2, 0 ≤ z ∧ z ≤ 1000000
/-- A council of n growers, not too large. -/
structure OkC (n : Nat) (c : List Ch) : Prop where
 c1 : 1 ≤ c.length
 c3 : c.length ≤ 3
 n1 : 1 ≤ n
 n6 : n ≤ 6
 gro : gro c = n
 ch : ∀ x ∈ c, OkX n x
theorem OkX.get {n : Nat} {x : Ch} (h : OkX n x) (i : Nat) : 0 ≤ x.2.getD i 0 ∧ x.2.getD i 0 ≤ 1000000 := by
 by_cases hi : i < x.2.length
 ·rw [show x.2.getD i 0 = x.2[i] by simp [List.getD, hi]]; exact h.w _ (List.getElem_mem hi)
 ·rw [show x.2.getD i 0 = 0 by simp [List.getD, hi]]; omega
theorem k101 {s : Nat} (hs : s < 64) (h : s ≠ 0) : run0 (F101 (s : Int)) = some (((tzN s : Nat) : Int), ()) := by
 have := all_lt (n := 64) (p := fun s => s == 0 || decide (cmp 40 (fun _ => none) (F101 ((s : Nat) : Int)) = some (((tzN s : Nat) : Int), ()))) (by kernel_rfl) hs
 simp only [Bool.or_eq_true, beq_iff_eq, h, false_or, decide_eq_true_eq] at this
 exact cmp_done 40 this
theorem els_len {s : Nat} : (els s).length ≤ 6 := by
 have := List.length_filter_le s.testBit (List.range 6)
 simpa [els] using this
theorem k78 {n s : Nat} {x : Ch} (hx : OkX n x) (hn : n ≤ 6) (hs : s < 2 ^ n) : run0 (F78 x (s : Int)) = some (wt x.2 s, ()) := by
 have h64 : s < 64 := Nat.lt_of_lt_of_le hs (pow6 hn)
 simp only [F78, FH77, g78_0, run_bd, run_it, run_ret, bindO_s]
 refine bind_eq (a := (wt x.2 s, ())) (bind_eq (iter_els (fun s' (st : Int) => ((0 : Int), (s' : Int), x.1, x.2, st, ())) (fun st r => (x.1, x.2, st + (r.map fun i => x.2.getD i 0).sum, (0 : Int), (0 : Int), ()))
  (fun s' st => s' < 2 ^ n ∧ 0 ≤ st ∧ st + 1000000 * ((els s').length : Int) ≤ 6000000) ?_ ?_ (s := s) (st := 0) h64 ⟨hs, by omega, by have := els_len (s := s); omega⟩) ?_) rfl
 ·rintro s' st h64 h0 ⟨hs', b1, b2⟩
  left
  have ht := tz_lt hn hs' h0
  have hl := low_lt h64 h0
  have hw := hx.get (tzN s')
  have e := congrArg List.length (els_cons h64 h0)
  rw [List.length_cons] at e
  refine ⟨st + x.2.getD (tzN s') 0, ?_, ⟨by omega, by omega, by omega⟩, ?_⟩
  ·have hin : inb ((tzN s' : Nat) : Int) ((x.2.length : Nat) : Int) = true := inb_t (by omega) (by have := hx.len; omega)
   have hni : rng .i64 (st + x.2.getD (tzN s') 0) = true := rng_i64 (by omega) (by omega)
   have hnu : rng .u64 ((s' : Int) - 1) = true := rng_u64 (by omega) (by omega)
   simp only [g78_0i_0, run_br, run_bd, run_nb, run_ni, run_nd, run_ret, br_not, br_eq, k101 h64 h0, bindO_s, Int.toNat_natCast, hin, hni, hnu, need_true, u_low h64 h0]
   rw [if_neg (by omega)]
  ·simp only [List.map_cons, List.sum_cons, Int.add_assoc]
 ·rintro st -
  simp only [g78_0i_0, run_br, run_ret, br_not, br_eq]
  simp
 ·simp only [wt, Int.zero_add]
theorem k84 {n s : Nat} {x : Ch} (hx : OkX n x) (hn : n ≤ 6) (hs : s < 2 ^ n) : run0 (F84 x (s : Int)) = some (win1 s x, ()) := by
 simp only [F84, run_bd, run_ret]
 rw [bind_of (k78 hx hn hs)]; rfl
theorem k104 {n s : Nat} {x : Ch} (hx : OkX n x) (hn : n ≤ 6) (hs : s < 2 ^ n) : run0 (F104 x.1 x.2 (s : Int)) = some (!win1 s x, ()) := by
 simp only [F104, run_bd, run_ret]
 rw [bind_of (k84 (x := x) hx hn hs)]
theorem k113 {n s : Nat} {c : List Ch} (hc : ∀ x ∈ c, OkX n x) (hl : c.length < 1000) (hn : n ≤ 6) (hs : s < 2 ^ n) : ∃ k : Int, run0 (F113 c (s : Int)) = some (k, ()) ∧ (0 ≤ k ↔ winB c s = false) := by
 simp only [F113, run_bd, run_it]
 have := iter_list c (f := fun a => run (fun _ => none) (g113_0 a)) (fun k (_ : Unit) => (c, (s : Int), ((c.length : Nat) : Int), (k : Int), ())) (fun _ r => match r.findIdx? (fun x => !win1 s x) with | some k => .inl (((c.length - r.length + k : Nat) : Int), ()) | none => .inr ()) (fun _ _ => True) ?_ ?_ (s := ()) trivial
 ·replace this : iter (fun a => run (fun _ => none) (g113_0 a)) (c, (s : Int), ((c.length : Nat) : Int), (0 : Int), ()) = _ := this
  rw [bind_of this]
  cases hf : c.findIdx? (fun x => !win1 s x) with
  | none =>
   simp only [run_sr, run_ret]
   refine ⟨-1, rfl, ?_⟩
   have h := List.findIdx?_eq_none_iff.1 hf
   have : winB c s = true := List.all_eq_true.2 fun x hx => by simpa using h x hx
   simp [this]
  | some k =>
   simp only [run_sl, run_ret]
   obtain ⟨hk, h1, _⟩ := List.findIdx?_eq_some_iff_getElem.1 hf
   refine ⟨_, rfl, ?_⟩
   have : winB c s = false := by
    rw [Bool.eq_false_iff]
    intro h
    have := List.all_eq_true.1 h _ (List.getElem_mem hk)
    rw [this] at h1; cases h1
   rw [this]
   simp only [iff_true]
   omega
 ·rintro pre x post _ hxx -
  have hlen : c.length = pre.length + (post.length + 1) := by rw [hxx]; simp
  have hd : c.getD pre.length ((0 : Int), []) = x := by rw [hxx]; exact getD_mid rfl
  have hx : OkX n x := hc x (by rw [hxx]; simp)
  have hin : inb (pre.length : Int) ((c.length : Nat) : Int) = true := inb_t (by omega) (by omega)
  have hni : rng .i64 ((pre.length : Int) + 1) = true := rng_i64 (by omega) (by omega)
  simp only [g113_0, run_br, run_bd, run_nb, run_ni, run_ret, Int.toNat_natCast, hd, br_d, hin, hni, need_true, k104 hx hn hs, bindO_s]
  rw [if_pos (by omega)]
  cases hb : win1 s x
  ·right
   rw [List.findIdx?_cons]
   have e : c.length - (x :: post).length = pre.length := by rw [List.length_cons]; omega
   simp only [hb, Bool.not_false, if_true, brO_true, e, Nat.add_zero]
  ·left
   refine ⟨(), by simp, trivial, ?_⟩
   rw [List.findIdx?_cons]
   simp only [hb, Bool.not_true, Bool.false_eq_true, if_false]
   cases post.findIdx? (fun x => !win1 s x) with
   | none => rfl
   | some k => simp; omega
 ·rintro _ -
  simp only [g113_0, run_br, run_ret, br_d]
  rw [if_neg (by omega)]; rfl
theorem k103 {n s : Nat} {c : List Ch} (hc : OkC n c) (hs : s < 2 ^ n) : run0 (F103 c (s : Int)) = some (!winB c s, ()) := by
 obtain ⟨k, h1, h2⟩ := k113 hc.ch (by have := hc.c3; omega) hc.n6 hs
 simp only [F103, run_bd, run_ret]
 rw [bind_of h1]
 congr 2
 cases h : winB c s
 ·rw [h] at h2; simp only [Bool.not_false, decide_eq_true_eq]; exact h2.2 rfl
 ·rw [h] at h2; simp only [Bool.not_true, decide_eq_false_iff_not]; intro e; exact absurd (h2.1 e) (by simp)
theorem k83 {n s : Nat} {c : List Ch} (hc : OkC n c) (hs : s < 2 ^ n) : run0 (F83 c (s : Int)) = some (winB c s, ()) := by
 simp only [F83, run_bd, run_ret]
 rw [bind_of (k103 hc hs), Bool.not_not]
end Go.Proofs.Tryd
end
section
namespace Go.Proofs.Tryd
open Go.AM Go.Cn
set_option maxRecDepth 100000
theorem wt_range {n s : Nat} {ws : List Int} (hn : n ≤ 6) (hs : s < 2 ^ n) : wt ws s = (((List.range n).filter s.testBit).map fun i => ws.getD i 0).sum := by
 rw [wt, els_upto hn hs]
theorem k79 {n s : Nat} {x : Ch} (hx : OkX n x) (hn : n ≤ 6) (hs : s < 2 ^ n) : run0 (F79 x (s : Int)) = some (wt x.2 s, ()) := by
 have h64 : s < 64 := Nat.lt_of_lt_of_le hs (pow6 hn)
 simp only [F79, run_bd, run_it, run_ret]
 refine bind_eq (iter_upto n (fun k (st : Int) => ((s : Int), st, (k : Int), x.1, x.2, ())) (fun st k => (st + (((List.range' k (n - k)).filter s.testBit).map fun i => x.2.getD i 0).sum, ()))
  (fun k st => 0 ≤ st ∧ st ≤ 1000000 * (k : Int)) ?_ ?_ (s := 0) ⟨by omega, by omega⟩) ?_
 ·rintro k st hk ⟨b1, b2⟩
  left
  have hw := hx.get k
  have hl := hx.len
  have hin : inb (k : Int) ((x.2.length : Nat) : Int) = true := inb_t (by omega) (by omega)
  have hi6 : inb (k : Int) 64 = true := inb_t (by omega) (by omega)
  have hni : rng .i64 ((k : Int) + 1) = true := rng_i64 (by omega) (by omega)
  have hni2 : rng .i64 (st + x.2.getD k 0) = true := rng_i64 (by omega) (by omega)
  have e : n - k = (n - (k + 1)) + 1 := by omega
  simp only [g79_0, run_br, run_nb, run_ni, run_ret, Int.toNat_natCast, br_d, hin, hi6, hni, hni2, need_true, i_has h64 (show k < 6 by omega)]
  rw [if_pos (by omega), e, List.range'_succ, List.filter_cons]
  cases hb : s.testBit k
  ·exact ⟨st, by simp, ⟨by omega, by omega⟩, by simp⟩
  ·exact ⟨st + x.2.getD k 0, by simp, ⟨by omega, by omega⟩, by simp only [if_true, List.map_cons, List.sum_cons, Int.add_assoc]⟩
 ·rintro st -
  have hl := hx.len
  simp only [g79_0, run_br, run_ret, br_d]
  rw [if_neg (by omega)]; simp
 ·rw [wt_range hn hs, List.range_eq_range']; simp
/-- All chambers but one. -/
def passL (s : Nat) (but : Int) : Nat → List Ch → Bool
 | _, [] => true
 | k, x :: r => (decide ((k : Int) = but) || win1 s x) && passL s but (k + 1) r
def dropL (but : Int) : Nat → List Ch → List Ch
 | _, [] => []
 | k, x :: r => if (k : Int) = but then dropL but (k + 1) r else x :: dropL but (k + 1) r
theorem pass_drop (s : Nat) (but : Int) : ∀ (k : Nat) (c : List Ch), passL s but k c = winB (dropL but k c) s
 | _, [] => rfl
 | k, x :: r => by
  simp only [passL, dropL, pass_drop s but (k + 1) r]
  by_cases h : (k : Int) = but
  ·simp [h]
  ·simp [h, winB]
theorem drop_none : ∀ (k : Nat) (c : List Ch), dropL (-1) k c = c
 | _, [] => rfl
 | k, x :: r => by
  simp only [dropL, drop_none (k + 1) r]
  rw [if_neg (by omega)]
theorem k86 {n s : Nat} {c : List Ch} (hc : OkC n c) (hs : s < 2 ^ n) (but : Int) : run0 (F86 c (s : Int) but) = some (passL s but 0 c, ()) := by
 simp only [F86, run_bd, run_it]
 refine bind_eq (iter_list c (fun k (_ : Unit) => ((s : Int), but, (k : Int), c, ())) (fun _ r => if passL s but (c.length - r.length) r = true then .inr () else .inl ()) (fun _ _ => True) ?_ ?_ (s := ()) trivial) ?_
 ·rintro pre x post _ hxx -
  have hlen : c.length = pre.length + (post.length + 1) := by rw [hxx]; simp
  have hd : c.getD pre.length ((0 : Int), []) = x := by rw [hxx]; exact getD_mid rfl
  have hx : OkX n x := hc.ch x (by rw [hxx]; simp)
  have h3 := hc.c3
  have hin : inb (pre.length : Int) ((c.length : Nat) : Int) = true := inb_t (by omega) (by omega)
  have hni : rng .i64 ((pre.length : Int) + 1) = true := rng_i64 (by omega) (by omega)
  have e1 : c.length - (x :: post).length = pre.length := by simp; omega
  have e2 : c.length - post.length = pre.length + 1 := by omega
  simp only [g86_0, run_br, run_bd, run_nb, run_ni, run_ret, Int.toNat_natCast, hd, br_d, br_eq, br_not, hin, hni, need_true, k79 hx hc.n6 hs, bindO_s]
  rw [if_pos (by omega)]
  simp only [e1, e2, passL]
  by_cases hb : (pre.length : Int) = but
  ·left
   rw [if_pos hb]
   exact ⟨(), rfl, trivial, by simp [hb]⟩
  rw [if_neg hb]
  by_cases hw : wt x.2 s < x.1
  ·right
   rw [if_pos hw]
   have : win1 s x = false := by simp only [win1, decide_eq_false_iff_not]; omega
   simp [hb, this]
  ·left
   rw [if_neg hw]
   have : win1 s x = true := by simp only [win1, decide_eq_true_eq]; omega
   exact ⟨(), rfl, trivial, by simp [hb, this]⟩
 ·rintro _ -
  simp only [g86_0, run_br, run_ret, br_d]
  rw [if_neg (by omega)]; simp [passL]
 ·have e : c.length - c.length = 0 := by omega
  rw [e]
  cases h : passL s but 0 c <;> simp [run_sl, run_sr, run_ret]
theorem k76 {n s : Nat} {c : List Ch} (hc : OkC n c) (hs : s < 2 ^ n) : run0 (F76 c (s : Int)) = some (winB c s, ()) := by
 simp only [F76, run_bd, run_ret]
 rw [bind_of (k86 hc hs _), pass_drop, drop_none]
theorem k81 (c : List Ch) (hl : c.length < 1000) (but : Int) : run0 (F81 c but) = some (dropL but 0 c, ()) := by
 simp only [F81, run_bd, run_it]
 refine bind_eq (iter_list c (fun k (st : List Ch) => (but, st.length, c, ((c.length : Nat) : Int), (k : Int), st, ())) (fun st r => ((st ++ dropL but (c.length - r.length) r).length, st ++ dropL but (c.length - r.length) r, ())) (fun pre st => st.length ≤ pre.length) ?_ ?_ (s := []) (by simp)) ?_
 ·rintro pre x post st hxx hst
  left
  have hlen : c.length = pre.length + (post.length + 1) := by rw [hxx]; simp
  have hd : c.getD pre.length ((0 : Int), []) = x := by rw [hxx]; exact getD_mid rfl
  have hin : inb (pre.length : Int) ((c.length : Nat) : Int) = true := inb_t (by omega) (by omega)
  have hni : rng .i64 ((pre.length : Int) + 1) = true := rng_i64 (by omega) (by omega)
  have e1 : c.length - (x :: post).length = pre.length := by simp; omega
  have e2 : c.length - post.length = pre.length + 1 := by omega
  simp only [g81_0, run_br, run_bd, run_nb, run_nd, run_ni, run_ret, Int.toNat_natCast, hd, br_d, br_eq, br_not, hin, hni, need_true]
  rw [if_pos (by omega)]
  simp only [e1, e2, dropL]
  by_cases hb : (pre.length : Int) = but
  ·rw [if_pos hb]
   exact ⟨st, rfl, by simp; omega, by simp [hb]⟩
  ·rw [if_neg hb]
   refine ⟨st ++ [x], ?_, by simp; omega, by simp [hb]⟩
   rw [need_lenbig (by simp; omega)]
   simp
 ·rintro st -
  simp only [g81_0, run_br, run_ret, br_d]
  rw [if_neg (by omega)]; simp [dropL]
 ·have e : c.length - c.length = 0 := by omega
  simp only [e, run_ret]; simp
theorem k66_no {c : List Ch} (h : chk c ≠ 0) : run0 (F66 c) = some (.inl ([], 0, 0, chk c, ())) := by
 simp only [F66, run_bd, run_br, run_ret, k41, bindO_s, br_not, br_eq]
 rw [if_neg h]
theorem k66 {n : Nat} {c : List Ch} (hc : OkC n c) (h : chk c = 0) : run0 (F66 c) = some (.inr (c, c, (n : Int), ((2 ^ n - 1 : Nat) : Int), 0, ())) := by
 have h1 := hc.c1
 have h3 := hc.c3
 have hn := hc.n6
 simp only [F66, run_bd, run_br, run_ret, k41, bindO_s, br_not, br_eq]
 rw [if_pos h, bind_of (k81 c (by omega) _), drop_none]
 have hp : 0 < 2 ^ n := Nat.pow_pos (by omega)
 have hp2 := pow6 hn
 have e : (((2 ^ n : Nat) : Int) - 1) = ((2 ^ n - 1 : Nat) : Int) := by omega
 simp only [k91 (show 0 < c.length by omega), hc.gro, bindO_s, run_nb, run_nd, run_ret, shl_one (show n < 12 by omega)]
 rw [need_inb (by omega) (by omega), need_t (rng_u64 (by omega) (by omega)), need_t (rng_u64 (by omega) (by omega)), e]
theorem k17 {c : List Ch} (hl : c.length ≤ 1000) : run0 (F17 c) = some ((c, ()), ()) := by
 simp only [F17, run_bd, run_it]
 refine bind_eq (iter_list c (fun k (st : List Ch) => ((k : Int), c, st.length, st, ())) (fun st r => ((st ++ r).length, st ++ r, ())) (fun pre st => st = pre) ?_ ?_ (s := []) rfl) ?_
 ·rintro pre x post st hxx rfl
  left
  have hlen : c.length = st.length + (post.length + 1) := by rw [hxx]; simp
  have hd : c.getD st.length ((0 : Int), []) = x := by rw [hxx]; exact getD_mid rfl
  have hin : inb (st.length : Int) ((c.length : Nat) : Int) = true := inb_t (by omega) (by omega)
  have hni : rng .i64 ((st.length : Int) + 1) = true := rng_i64 (by omega) (by omega)
  refine ⟨st ++ [x], ?_, rfl, by simp⟩
  simp only [g17_0, run_br, run_bd, run_nb, run_nd, run_ni, run_ret, Int.toNat_natCast, hd, br_d, hin, hni, need_true]
  rw [if_pos (by omega), need_lenbig (by simp; omega)]
  simp
 ·rintro st rfl
  simp only [g17_0, run_br, run_ret, br_d]
  rw [if_neg (by omega)]; simp
 ·simp only [run_ret]; simp
end Go.Proofs.Tryd
end
section
namespace Go.Proofs.Tryd
open Go.AM Go.Cn
set_option maxRecDepth 100000
theorem u_rng {i : Nat} (hi : i < 6) : rng .u64 (ar0.shl (1 : Int) (i : Int)) = true := by
 have := all_lt (n := 6) (p := fun i => rng .u64 (ar0.shl (1 : Int) (i : Int))) (by kernel_rfl) hi
 exact this
theorem i_rng {i : Nat} (hi : i < 6) : rng .i64 (ar0.shl (1 : Int) (i : Int)) = true := by
 have := all_lt (n := 6) (p := fun i => rng .i64 (ar0.shl (1 : Int) (i : Int))) (by kernel_rfl) hi
 exact this
/-- A set without those of a list. -/
def woL (s : Nat) (l : List Nat) : Nat := l.foldl wo s
abbrev ints (l : List Nat) : List Int := l.map fun i : Nat => (i : Int)
theorem k90 {s : Nat} {l : List Nat} (hs : s < 64) (hl : ∀ i ∈ l, i < 6) (hn : l.length < 1000) : run0 (F90 (s : Int) (ints l)) = some (((woL s l : Nat) : Int), ()) := by
 simp only [F90, run_bd, run_it]
 refine bind_eq (iter_list l (fun k (st : Nat) => ((st : Int), ints l, (((ints l).length : Nat) : Int), (k : Int), ())) (fun st r => (((woL st r : Nat) : Int), ())) (fun _ st => st < 64) ?_ ?_ (s := s) hs) ?_
 ·rintro pre x post st hx hst
  left
  have hlen : l.length = pre.length + (post.length + 1) := by rw [hx]; simp
  have hd : (ints l).getD pre.length (0 : Int) = (x : Int) := by
   rw [hx]; simp only [ints, List.map_append, List.map_cons]
   exact getD_mid (by simp)
  have hx6 : x < 6 := hl x (by rw [hx]; simp)
  have hin : inb (pre.length : Int) (((ints l).length : Nat) : Int) = true := inb_t (by omega) (by simp; omega)
  have hni : rng .i64 ((pre.length : Int) + 1) = true := rng_i64 (by omega) (by omega)
  have hi6 : inb (x : Int) 64 = true := inb_t (by omega) (by omega)
  refine ⟨wo st x, ?_, wo_lt hst, rfl⟩
  simp only [g90_0, run_br, run_nb, run_ni, run_nd, run_ret, Int.toNat_natCast, hd, br_d, hin, hni, hi6, need_true, u_rng hx6, u_wo hst hx6]
  rw [if_pos (by simp; omega)]; rfl
 ·rintro st -
  simp only [g90_0, run_br, run_ret, br_d]
  rw [if_neg (by simp)]; rfl
 ·rfl
theorem k74 {s i n : Nat} (hn : n ≤ 6) (hs : s < 2 ^ n) (hi : i < n) : run0 (F74 (s : Int) (i : Int)) = some (((s ||| 2 ^ i : Nat) : Int), ()) := by
 have h64 : s < 64 := Nat.lt_of_lt_of_le hs (pow6 hn)
 simp only [F74, run_nb, run_nd, run_ret, u_rng (show i < 6 by omega), need_true, u_with h64 (show i < 6 by omega)]
 rw [need_inb (by omega) (by omega)]
theorem inc_u {k n : Nat} (hn : n ≤ 6) (hk : k < 2 ^ n) : rng .u64 ((k : Int) + 1) = true := by
 have := pow6 hn
 exact rng_u64 (by omega) (by omega)
end Go.Proofs.Tryd
end
section
namespace Go.Proofs.Tryd
open Go.AM Go.Cn
set_option maxRecDepth 100000
theorem dt1 {α : Type} (x : α) : List.take 1 (List.drop 0 [x]) = [x] := rfl
theorem tk1 {α : Type} (x : α) : List.take 1 [x] = [x] := rfl
theorem map_range' {α : Type} (f : Nat → α) {k n : Nat} (h : k < n) : (List.range' k (n - k)).map f = f k :: (List.range' (k + 1) (n - (k + 1))).map f := by
 have e : n - k = (n - (k + 1)) + 1 := by omega
 rw [e, List.range'_succ, List.map_cons]
/-- 'each' of a council: rounds that put one number more behind a list. -/
theorem each_ok {A B : Type} {f : A → Option (A ⊕ B)} {n : Nat} (mk : Nat → List Int → A) (fin : List Int → B) (p : Nat → Int)
  (hs : ∀ k st, k < n → st.length = k → f (mk k st) = some (.inl (mk (k + 1) (st ++ [p k])))) (he : ∀ st, st.length = n → f (mk n st) = some (.inr (fin st))) :
  iter f (mk 0 []) = some (fin ((List.range n).map p)) := by
 have := iter_upto (f := f) n mk (fun st k => fin (st ++ (List.range' k (n - k)).map p)) (fun k st => st.length = k) (fun k st hk hi => .inl ⟨st ++ [p k], hs k st hk hi, by simp [hi], by
  rw [map_range' p hk]; simp⟩) (fun st hi => by rw [he st hi]; simp) (s := []) rfl
 rw [this]; simp [List.range_eq_range']
/-! Turns: how many orders. -/
theorem k64 {s : Nat} (hs : s < 64) : run0 (F64 (s : Int)) = some (ints (els s), ()) := by
 have := all_lt (n := 64) (p := fun s => decide (cmp 40 (fun _ => none) (F64 ((s : Nat) : Int)) = some (ints (els s), ()))) (by kernel_rfl) hs
 exact cmp_done 40 (of_decide_eq_true this)
end Go.Proofs.Tryd
end
section
namespace Go.Proofs.Tryd
open Go.AM Go.Cn
set_option maxRecDepth 100000
theorem ok_of {c : List Ch} (hl : largeC c = false) (h : chk c = 0) : OkC (gro c) c := by
 unfold chk at h
 split at h
 ·cases h
 rename_i h1
 split at h
 ·cases h
 rename_i h2
 split at h
 ·cases h
 rename_i h3
 split at h
 ·cases h
 rename_i h4
 have hall : ∀ (n : Nat) (l : List Ch), chkL n l = 0 → ∀ x ∈ l, okCh n x = 0 := by
  intro n l
  induction l with
  | nil => intro _ x hx; cases hx
  | cons y r ih =>
   intro h x hx
   simp only [chkL] at h
   by_cases hy : okCh n y = 0
   ·rw [if_neg (by simpa using hy)] at h
    rcases List.mem_cons.1 hx with rfl | hx
    ·exact hy
    ·exact ih h x hx
   ·rw [if_pos hy] at h; exact absurd h hy
 have hx : ∀ x ∈ c, OkX (gro c) x := fun x hx => by
  have := hall _ _ h x hx
  unfold okCh at this
  split at this
  ·cases this
  rename_i e1
  split at this
  ·cases this
  rename_i e2
  split at this
  ·cases this
  rename_i e3
  refine ⟨Decidable.not_not.1 e1, (Decidable.not_not.1 e2).1, (Decidable.not_not.1 e2).2, fun z hz => ?_⟩
  have hb : badW z = false := by
   rw [Bool.eq_false_iff]
   intro hb
   exact e3 (List.any_eq_true.2 ⟨z, hz, hb⟩)
  unfold badW at hb
  simpa using hb
 refine ⟨by omega, by omega, by omega, ?_, rfl, hx⟩
 unfold largeC at hl
 rw [Bool.or_eq_false_iff] at hl
 have hmem : c.getD 0 ((0 : Int), []) ∈ c := by
  cases c with
  | nil => exact absurd rfl h1
  | cons x r => exact List.mem_cons_self ..
 have h5 := List.any_eq_false.1 hl.2 _ hmem
 unfold largeOne at h5
 have h6 : (c.getD 0 ((0 : Int), [])).2.length = gro c := rfl
 rw [h6] at h5
 simp at h5
 omega
theorem k22 {a b : List Int} (ha : a.length ≤ 1000) : run0 (F22 a b) = some (decide (a = b), ()) := by
 simp only [F22, run_br, run_bd, run_it, run_ret, br_not, br_eq]
 by_cases hl : a.length = b.length
 case neg =>
  rw [if_neg (by omega)]
  have : a ≠ b := fun e => hl (by rw [e])
  simp [this]
 rw [if_pos (by omega)]
 refine bind_eq (iter_list a (fun k (_ : Unit) => (a, b, (k : Int), ())) (fun _ r => if r = b.drop (a.length - r.length) then Sum.inr () else Sum.inl ()) (fun _ _ => True) ?_ ?_ (s := ()) trivial) ?_
 ·rintro pre x post _ hx -
  have hlen : a.length = pre.length + (post.length + 1) := by rw [hx]; simp
  have hd : a.getD pre.length (0 : Int) = x := by rw [hx]; exact getD_mid rfl
  have hin : inb (pre.length : Int) ((a.length : Nat) : Int) = true := inb_t (by omega) (by omega)
  have hin2 : inb (pre.length : Int) ((b.length : Nat) : Int) = true := inb_t (by omega) (by omega)
  have hni : rng .i64 ((pre.length : Int) + 1) = true := rng_i64 (by omega) (by omega)
  have e1 : a.length - (x :: post).length = pre.length := by rw [List.length_cons]; omega
  have e2 : a.length - post.length = pre.length + 1 := by omega
  have e3 : b.drop pre.length = b.getD pre.length 0 :: b.drop (pre.length + 1) := by
   rw [List.drop_eq_getElem_cons (by omega)]
   simp [List.getD, show pre.length < b.length by omega]
  simp only [g22_0, run_br, run_nb, run_ni, run_ret, Int.toNat_natCast, hd, br_d, br_not, br_eq, hin, hin2, hni, need_true]
  rw [if_pos (by omega)]
  rw [e1, e2, e3]
  by_cases hxy : x = b.getD pre.length 0
  ·left
   rw [if_pos hxy]
   refine ⟨(), rfl, trivial, ?_⟩
   rw [← hxy]
   simp
  ·right
   rw [if_neg hxy, if_neg (fun e => hxy (List.cons.inj e).1)]
 ·rintro _ -
  simp only [g22_0, run_br, run_ret, br_d]
  rw [if_neg (by omega)]
  simp
  omega
 ·have e : a.length - a.length = 0 := by omega
  simp only [e, List.drop_zero]
  by_cases h : a = b
  ·rw [if_pos h, decide_eq_true h]; rfl
  ·rw [if_neg h, decide_eq_false h]; rfl
theorem shl_n {n : Nat} (hn : n ≤ 6) : ar0.shl (1 : Int) (n : Int) = ((2 ^ n : Nat) : Int) := shl_one (by omega)
theorem ints_len (l : List Nat) : (ints l).length = l.length := by simp [ints]
theorem works_ok : run0 F16 = some (true, ()) := cmp_done 200 (by kernel_rfl)
end Go.Proofs.Tryd
end
section
namespace Go.Proofs.Tryd
open Go.AM Go.Cn
set_option maxRecDepth 100000
theorem len_ok {c : List Ch} (h : Wf (.prod (.list (.prod (.int .i64) (.list (.int .i64)))) .unit) (c, ())) : c.length < 9223372036854775808 := by
 have := h.1.1
 have e : maxLen < 9223372036854775808 := by decide
 exact Nat.lt_of_le_of_lt this e
theorem large_len {c : List Ch} (h : largeC c = false) : c.length ≤ 20 := by
 unfold largeC at h
 rw [Bool.or_eq_false_iff] at h
 have := of_decide_eq_false h.1
 omega
end Go.Proofs.Tryd
end
section
namespace Go.Proofs.Tryd
open Go.AM Go.Cn
set_option maxRecDepth 100000
/-- A number names a grower. -/
def inG (n : Nat) (z : Int) : Bool := decide (0 ≤ z ∧ z ≤ (n : Int) - 1)
theorem inG_nat {n : Nat} {z : Int} (h : inG n z = true) : ∃ i : Nat, i < n ∧ z = (i : Int) := by
 have := of_decide_eq_true h
 exact ⟨z.toNat, by omega, by omega⟩
theorem n_rng {n : Nat} (h : n ≤ 6) : rng .i64 ((n : Int) - 1) = true := rng_i64 (by omega) (by omega)
end Go.Proofs.Tryd
end
section
namespace Go.Proofs.Tryd
open Go.AM Go.Cn
set_option maxRecDepth 100000
/-- A list of growers, read: its set, or an error. -/
def rdL (n : Nat) : Int → Nat → List Int → Nat × Int
 | _, s, [] => (s, 0)
 | last, s, x :: r => if inG n x = false then (0, 5) else if x ≤ last then (0, 7) else rdL n x (s ||| 2 ^ x.toNat) r
def rd (n : Nat) (l : List Int) : Nat × Int := rdL n (-1) 0 l
theorem rdL_lt {n : Nat} (hn : n ≤ 6) : ∀ {l : List Int} {last : Int} {s : Nat}, s < 2 ^ n → (rdL n last s l).1 < 2 ^ n
 | [], _, _, h => h
 | x :: r, last, s, h => by
  have hp : 0 < 2 ^ n := Nat.pow_pos (by omega)
  simp only [rdL]
  split
  ·exact hp
  split
  ·exact hp
  ·rename_i h1 _
   have h1' : inG n x = true := by simpa using h1
   obtain ⟨i, hi, rfl⟩ := inG_nat h1'
   exact rdL_lt hn (by rw [Int.toNat_natCast]; exact or_lt hn h hi)
theorem rd_lt {n : Nat} (hn : n ≤ 6) (l : List Int) : (rd n l).1 < 2 ^ n := rdL_lt hn (Nat.pow_pos (by omega))
theorem k72 {c : List Ch} {n : Nat} (hn : n ≤ 6) {l : List Int} (hl : l.length < 1000) : run0 (F72_v1 c c (n : Int) ((2 ^ n - 1 : Nat) : Int) l) = some (((rd n l).1 : Int), (rd n l).2, ()) := by
 have hp : 0 < 2 ^ n := Nat.pow_pos (by omega)
 have h64 := pow6 hn
 simp only [F72_v1, run_bd, run_it]
 have key := iter_list l (f := fun a => run (fun _ => none) (g72_v1_0 a)) (fun k (st : Nat × Int) => ((st.1 : Int), st.2, l, ((l.length : Nat) : Int), (k : Int), c, c, (n : Int), ((2 ^ n - 1 : Nat) : Int), ()))
  (fun st r => if (rdL n st.2 st.1 r).2 = 0 then Sum.inr (((rdL n st.2 st.1 r).1 : Int), ()) else Sum.inl (((rdL n st.2 st.1 r).1 : Int), (rdL n st.2 st.1 r).2, ())) (fun _ st => st.1 < 2 ^ n) ?_ ?_ (s := (0, -1)) hp
 ·replace key : iter (fun a => run (fun _ => none) (g72_v1_0 a)) ((0 : Int), (-1 : Int), l, ((l.length : Nat) : Int), (0 : Int), c, c, (n : Int), ((2 ^ n - 1 : Nat) : Int), ()) = _ := key
  rw [bind_of key]
  simp only [rd]
  by_cases h : (rdL n (-1) 0 l).2 = 0
  ·rw [if_pos h]; simp [run_sr, run_ret, h]
  ·rw [if_neg h]; simp [run_sl, run_ret]
 ·rintro pre x post ⟨s, last⟩ hx hs
  simp only at hs
  have hlen : l.length = pre.length + (post.length + 1) := by rw [hx]; simp
  have hd : l.getD pre.length (0 : Int) = x := by rw [hx]; exact getD_mid rfl
  have hin : inb (pre.length : Int) ((l.length : Nat) : Int) = true := inb_t (by omega) (by omega)
  have hni : rng .i64 ((pre.length : Int) + 1) = true := rng_i64 (by omega) (by omega)
  have e : ∀ z : Int, decide (0 ≤ z ∧ z ≤ (n : Int) - 1) = inG n z := fun _ => rfl
  simp only [g72_v1_0, run_br, run_bd, run_nb, run_ni, run_ret, Int.toNat_natCast, hd, br_d, br_not, hin, hni, n_rng hn, need_true, k67, bindO_s, e]
  rw [if_pos (by omega)]
  simp only [rdL]
  by_cases h1 : inG n x = false
  ·right
   simp [h1]
  replace h1 : inG n x = true := by simpa using h1
  obtain ⟨i, hi, rfl⟩ := inG_nat h1
  simp only [h1, brO_true]
  by_cases h2 : (i : Int) ≤ last
  ·right
   rw [if_pos h2]; simp [h2]
  ·left
   rw [if_neg h2]
   refine ⟨(s ||| 2 ^ i, (i : Int)), ?_, or_lt hn hs hi, by simp [h2]⟩
   rw [bind_of (k74 hn hs hi)]
   rfl
 ·rintro ⟨s, last⟩ hs
  simp only [g72_v1_0, run_br, run_ret, br_d]
  rw [if_neg (by omega)]
  simp [rdL]
theorem k69' {n : Nat} (z : Int) : run (fun _ => none) (F69 z 0 ((n : Int) - 1)) = some (inG n z, ()) := k69 _ _ _
theorem k75 {c : List Ch} {n : Nat} (hc : OkC n c) {l : List Int} (hl : l.length < 1000) : run0 (F75 c l) = some (((rd n l).1 : Int), (rd n l).2, ()) := by
 have hn := hc.n6
 have hp : 0 < 2 ^ n := Nat.pow_pos (by omega)
 have h64 := pow6 hn
 have h0 : 0 < c.length := by have := hc.c1; omega
 simp only [F75, run_bd, run_it]
 have key := iter_list l (f := fun a => run (fun _ => none) (g75_0 a)) (fun k (st : Nat × Int) => (l, (st.1 : Int), (k : Int), c, ()))
  (fun st r => if (rdL n st.2 st.1 r).2 = 0 then Sum.inr (((rdL n st.2 st.1 r).1 : Int), ()) else Sum.inl (((rdL n st.2 st.1 r).1 : Int), (rdL n st.2 st.1 r).2, ())) (fun pre st => st.1 < 2 ^ n ∧ st.2 = (pre.getLast?).getD (-1)) ?_ ?_ (s := (0, -1)) ⟨hp, rfl⟩
 ·replace key : iter (fun a => run (fun _ => none) (g75_0 a)) (l, (0 : Int), (0 : Int), c, ()) = _ := key
  rw [bind_of key]
  simp only [rd]
  by_cases h : (rdL n (-1) 0 l).2 = 0
  ·rw [if_pos h]; simp [run_sr, run_ret, h]
  ·rw [if_neg h]; simp [run_sl, run_ret]
 ·rintro pre x post ⟨s, last⟩ hx ⟨hs, hla⟩
  simp only at hs hla
  have hlen : l.length = pre.length + (post.length + 1) := by rw [hx]; simp
  have hd : l.getD pre.length (0 : Int) = x := by rw [hx]; exact getD_mid rfl
  have hin : inb (pre.length : Int) ((l.length : Nat) : Int) = true := inb_t (by omega) (by omega)
  have hni : rng .i64 ((pre.length : Int) + 1) = true := rng_i64 (by omega) (by omega)
  have e : ∀ z : Int, decide (0 ≤ z ∧ z ≤ (n : Int) - 1) = inG n z := fun _ => rfl
  simp only [g75_0, run_br, run_bd, run_nb, run_ni, run_ret, Int.toNat_natCast, hd, br_d, br_not, hin, hni, k60 h0, hc.gro, n_rng hn, need_true, k69' (n := n), bindO_s]
  rw [if_pos (by omega)]
  simp only [rdL]
  by_cases h1 : inG n x = false
  ·right
   simp [h1]
  replace h1 : inG n x = true := by simpa using h1
  obtain ⟨i, hi, rfl⟩ := inG_nat h1
  have hi6 : inb (i : Int) 64 = true := inb_t (by omega) (by omega)
  simp only [h1, brO_true, hi6, need_true, i_rng (show i < 6 by omega), i_with (show s < 64 by omega) (show i < 6 by omega)]
  rcases List.eq_nil_or_concat pre with rfl | ⟨p0, y, rfl⟩
  ·have hl1 : last = -1 := by simpa using hla
   left
   rw [if_neg (by simp)]
   refine ⟨(s ||| 2 ^ i, (i : Int)), rfl, ⟨or_lt hn hs hi, by simp⟩, ?_⟩
   subst hl1
   simp only [h1, Bool.true_eq_false, if_false, if_neg (show ¬ ((i : Int) ≤ -1) by omega), Int.toNat_natCast]
  ·have hl1 : last = y := by simpa using hla
   subst hl1
   have hd2 : l.getD p0.length (0 : Int) = last := by rw [hx]; simp [List.getD]
   have e2 : (((p0 ++ [last]).length : Nat) : Int) - 1 = (p0.length : Int) := by simp
   simp only [List.concat_eq_append] at *
   rw [if_pos (by simp), e2, need_t (rng_i64 (by omega) (by omega)), need_inb (by omega) (by simp at hlen; omega)]
   simp only [Int.toNat_natCast, hd2]
   by_cases h2 : (i : Int) ≤ last
   ·right
    rw [if_pos h2]
    simp [h1, h2]
   ·left
    rw [if_neg h2]
    refine ⟨(s ||| 2 ^ i, (i : Int)), rfl, ⟨or_lt hn hs hi, by simp⟩, ?_⟩
    simp only [h1, Bool.true_eq_false, if_false, if_neg h2, Int.toNat_natCast]
 ·rintro ⟨s, last⟩ ⟨hs, _⟩
  simp only [g75_0, run_br, run_ret, br_d]
  rw [if_neg (by omega)]
  simp [rdL]
/-- What Wins answers. -/
def winR (c : List Ch) (n : Nat) (l : List Int) : Bool × Int × Unit := if (rd n l).2 = 0 then (winB c (rd n l).1, 0, ()) else (false, (rd n l).2, ())
theorem k44_no {c : List Ch} (h : chk c ≠ 0) (l : List Int) : run0 (F44 c l) = some (false, chk c, ()) := by
 simp only [F44, run_bd]
 rw [bind_of (k66_no h)]
 simp only [run_sl, run_br, run_bd, run_ret, br_not, br_eq]
 rw [if_neg h]
theorem k45_no {c : List Ch} (h : chk c ≠ 0) (l : List Int) : run0 (F45 c l) = some (false, chk c, ()) := by
 simp only [F45, run_bd, run_br, run_ret, br_not, br_eq]
 rw [bind_of (k50 c), if_neg h]
theorem k44 {c : List Ch} {n : Nat} (hc : OkC n c) (h : chk c = 0) {l : List Int} (hl : l.length < 1000) : run0 (F44 c l) = some (winR c n l) := by
 have hn := hc.n6
 simp only [F44, run_bd]
 rw [bind_of (k66 hc h)]
 simp only [run_sr, run_br, run_bd, run_ret, br_not, br_eq]
 rw [if_pos trivial, bind_of (k72 hn hl)]
 unfold winR
 by_cases h1 : (rd n l).2 = 0
 ·rw [if_pos h1, if_pos h1, bind_of (k83 hc (rd_lt hn l))]
 ·rw [if_neg h1, if_neg h1]
theorem k45 {c : List Ch} {n : Nat} (hc : OkC n c) (h : chk c = 0) {l : List Int} (hl : l.length < 1000) : run0 (F45 c l) = some (winR c n l) := by
 have hn := hc.n6
 simp only [F45, run_bd, run_br, run_ret, br_not, br_eq]
 rw [bind_of (k50 c), if_pos h, bind_of (k75 hc hl)]
 unfold winR
 by_cases h1 : (rd n l).2 = 0
 ·rw [if_pos h1, if_pos h1, bind_of (k76 hc (rd_lt hn l))]
 ·rw [if_neg h1, if_neg h1]
end Go.Proofs.Tryd
end
section
namespace Go.Proofs.Tryd
open Go.AM Go.Cn
set_option maxRecDepth 100000
theorem k73 {s i : Nat} (hs : s < 64) (hi : i < 6) : run0 (F73 (s : Int) (i : Int)) = some (s.testBit i, ()) := by
 simp only [F73, run_nb, run_ret, u_has hs hi]
 rw [need_inb (by omega) (by omega)]
theorem k71 {s : Nat} (hs : s < 64) : run0 (F71 (s : Int)) = some (ints (els s), ()) := by
 have := all_lt (n := 64) (p := fun s => decide (cmp 40 (fun _ => none) (F71 ((s : Nat) : Int)) = some (ints (els s), ()))) (by kernel_rfl) hs
 exact cmp_done 40 (of_decide_eq_true this)
end Go.Proofs.Tryd
end
section
namespace Go.Proofs.Tryd
open Go.AM Go.Cn
set_option maxRecDepth 100000
section
variable {c : List Ch} {n : Nat} {x : Ch} {D : List Ch}
end
end Go.Proofs.Tryd
end
section
namespace Go.Proofs.Tryd
open Go.AM Go.Cn
set_option maxRecDepth 100000
/-- A council by numbers: what is known of it. -/
structure OkH (n : Nat) (c : List Ch) : Prop where
 ok : OkC n c
 n5 : n ≤ 5
 chk0 : chk c = 0
 w7 : ∀ x ∈ c, ∀ z ∈ x.2, 0 ≤ z ∧ z ≤ 7
 q16 : ∀ x ∈ c, 1 ≤ x.1 ∧ x.1 ≤ 16
section
variable {g : Int} {q : List Int} {a0 a1 a2 a3 a4 b0 b1 b2 b3 b4 d0 d1 d2 d3 d4 : Int}
end
end Go.Proofs.Tryd
end
section
namespace Go.Proofs.Tryd
open Go.AM Go.Cn
set_option maxRecDepth 100000
/-! Sums. -/
end Go.Proofs.Tryd
end
section
namespace Go.Proofs.Tryd
open Go.AM Go.Cn
set_option maxRecDepth 100000
def leastB (c : List Ch) (s : Nat) : Bool := (els s).all (fun i => !winB c (wo s i)) && winB c s
theorem k90_one {s i : Nat} (hs : s < 64) (hi : i < 6) : run (fun _ => none) (F90 (s : Int) [(i : Int)]) = some (((wo s i : Nat) : Int), ()) :=
 k90 (s := s) (l := [i]) hs (by simpa using hi) (by simp)
theorem k90_nil {s : Nat} (hs : s < 64) : run (fun _ => none) (F90 (s : Int) []) = some ((s : Int), ()) := k90 (s := s) (l := []) hs (by simp) (by simp)
theorem k89_it {c : List Ch} {n s : Nat} (hc : OkC n c) (hs : s < 2 ^ n) : ∀ {t : Nat}, t < 2 ^ n →
  (∃ z, iter (fun a => run (fun _ => none) (g89_v1_0i_0 a)) ((t : Int), c, c, (n : Int), ((2 ^ n - 1 : Nat) : Int), (s : Int), ()) = some (.inl z) ∧ (els t).all (fun i => !winB c (wo s i)) = false) ∨
  (iter (fun a => run (fun _ => none) (g89_v1_0i_0 a)) ((t : Int), c, c, (n : Int), ((2 ^ n - 1 : Nat) : Int), (s : Int), ()) = some (.inr (c, c, (n : Int), ((2 ^ n - 1 : Nat) : Int), (s : Int), (0 : Int), ())) ∧ (els t).all (fun i => !winB c (wo s i)) = true) := by
 have hn := hc.n6
 have h64 : s < 64 := Nat.lt_of_lt_of_le hs (pow6 hn)
 intro t
 induction t using Nat.strongRecOn with
 | ind t ih =>
  intro ht
  have t64 : t < 64 := Nat.lt_of_lt_of_le ht (pow6 hn)
  by_cases h0 : t = 0
  ·subst h0
   right
   refine ⟨iter_inr ?_, by rw [els_zero]; rfl⟩
   simp only [g89_v1_0i_0, run_br, run_ret, br_not, br_eq]
   simp
  have hz := tz_lt hn ht h0
  have hl := low_lt t64 h0
  have q1 : run (fun _ => none) (F83 c ((wo s (tzN t) : Nat) : Int)) = _ := k83 hc (wo_lt (i := tzN t) hs)
  have hnu : rng .u64 ((t : Int) - 1) = true := rng_u64 (by omega) (by omega)
  have st : run (fun _ => none) (g89_v1_0i_0 ((t : Int), c, c, (n : Int), ((2 ^ n - 1 : Nat) : Int), (s : Int), ())) = if winB c (wo s (tzN t)) = true then some (.inr (.inl (c, c, (n : Int), ((2 ^ n - 1 : Nat) : Int), (s : Int), (t : Int), ()))) else some (.inl (((low t : Nat) : Int), c, c, (n : Int), ((2 ^ n - 1 : Nat) : Int), (s : Int), ())) := by
   simp only [g89_v1_0i_0, run_br, run_bd, run_nd, run_ret, br_not, br_eq, k101 t64 h0, bindO_s, dt1, k90_one h64 (show tzN t < 6 by omega), q1, hnu, need_true, u_low t64 h0]
   rw [if_neg (by omega)]
   cases winB c (wo s (tzN t)) <;> simp
  rw [els_cons t64 h0, List.all_cons]
  cases hw : winB c (wo s (tzN t))
  ·rw [hw] at st
   rcases ih (low t) hl (by omega) with ⟨z, h1, h2⟩ | ⟨h1, h2⟩
   ·exact .inl ⟨z, iter_inl st h1, by simp [h2]⟩
   ·exact .inr ⟨iter_inl st h1, by simp [h2]⟩
  ·rw [hw] at st
   exact .inl ⟨_, iter_inr st, by simp⟩
theorem k89 {c : List Ch} {n s : Nat} (hc : OkC n c) (hs : s < 2 ^ n) : run0 (F89_v1 c c (n : Int) ((2 ^ n - 1 : Nat) : Int) (s : Int)) = some (leastB c s, ()) := by
 simp only [F89_v1, FH77, g89_v1_0, run_bd, run_it, run_ret, bindO_s]
 unfold leastB
 rcases k89_it hc hs hs with ⟨z, h1, h2⟩ | ⟨h1, h2⟩
 ·rw [bind_of h1, h2]
  simp [run_sl, run_ret]
 ·rw [bind_of h1, h2]
  simp only [run_sr, run_ret, bindO_s, run_bd]
  rw [bind_of (k83 hc hs), Bool.true_and]
/-- Some set of those from k on that wins least has the grower. -/
def inLeast (c : List Ch) (i s : Nat) : Bool := s.testBit i && leastB c s
def anyL (c : List Ch) (i k m : Nat) : Bool := (List.range' k m).any (inLeast c i)
theorem anyL_zero {c : List Ch} {i k : Nat} : anyL c i k 0 = false := rfl
theorem anyL_step {c : List Ch} {i k m : Nat} : anyL c i k (m + 1) = (inLeast c i k || anyL c i (k + 1) m) := by simp [anyL, List.range'_succ]
/-- What a grower is. -/
def kdI (c : List Ch) (n i : Nat) : Int := (if anyL c i 0 (2 ^ n) = true then 0 else 1) + (if (winB c (2 ^ n - 1) && !winB c (wo (2 ^ n - 1) i)) = true then 2 else 0) + (if winB c (2 ^ i) = true then 4 else 0)
def kds (c : List Ch) (n : Nat) : List Int := (List.range n).map (kdI c n)
theorem k88 {c : List Ch} {n i : Nat} (hc : OkC n c) (hi : i < n) : run0 (F88_v1 (i : Int) c c (n : Int) ((2 ^ n - 1 : Nat) : Int)) = some (kdI c n i, ()) := by
 have hn := hc.n6
 have hp : 0 < 2 ^ n := Nat.pow_pos (by omega)
 have h64 := pow6 hn
 have hA : 2 ^ n - 1 < 2 ^ n := by omega
 simp only [F88_v1, F82_v1, g88_v1_0, run_bd, run_it, run_jx, run_br, run_ret, bindO_s]
 have key := iter_upto (f := fun a => run (fun _ => none) (g88_v1_0i_0 a)) (2 ^ n) (fun k (st : Int) => (c, c, (n : Int), ((2 ^ n - 1 : Nat) : Int), [], (k : Int), c, c, (n : Int), ((2 ^ n - 1 : Nat) : Int), (0 : Int), c, c, (n : Int), ((2 ^ n - 1 : Nat) : Int), [], (i : Int), st, ()))
  (fun st k => ((i : Int), (if anyL c i k (2 ^ n - k) = true then 0 else st), c, c, (n : Int), ((2 ^ n - 1 : Nat) : Int), (0 : Int), c, c, (n : Int), ((2 ^ n - 1 : Nat) : Int), [], ())) (fun _ _ => True) ?_ ?_ (s := 1) trivial
 ·replace key : iter (fun a => run (fun _ => none) (g88_v1_0i_0 a)) (c, c, (n : Int), ((2 ^ n - 1 : Nat) : Int), [], (0 : Int), c, c, (n : Int), ((2 ^ n - 1 : Nat) : Int), (0 : Int), c, c, (n : Int), ((2 ^ n - 1 : Nat) : Int), [], (i : Int), (1 : Int), ()) = _ := key
  rw [bind_of key, Nat.sub_zero]
  have q1 : run (fun _ => none) (F83 c ((2 ^ n - 1 : Nat) : Int)) = _ := k83 hc hA
  have q2 : run (fun _ => none) (F83 c ((wo (2 ^ n - 1) i : Nat) : Int)) = _ := k83 hc (wo_lt (i := i) hA)
  have q3 : run (fun _ => none) (F74 0 (i : Int)) = some (((2 ^ i : Nat) : Int), ()) := by
   have := k74 (s := 0) hn hp hi
   rwa [Nat.zero_or] at this
  have q4 : run (fun _ => none) (F83 c ((2 ^ i : Nat) : Int)) = _ := k83 hc (Nat.pow_lt_pow_right (by omega) hi)
  simp only [q1, bindO_s, dt1, k90_one (show 2 ^ n - 1 < 64 by omega) (show i < 6 by omega), q2, run_ni, run_ret, br_not]
  unfold kdI
  generalize ((2 ^ i : Nat) : Int) = P at q3 q4
  cases h1 : anyL c i 0 (2 ^ n) <;> cases h2 : winB c (2 ^ n - 1) <;> cases h3 : winB c (wo (2 ^ n - 1) i) <;> cases h4 : winB c (2 ^ i) <;>
   simp [onS, q3, q4, h4, need_t (show rng .i64 (0 + 2) = true by decide), need_t (show rng .i64 (1 + 2) = true by decide), need_t (show rng .i64 (0 + 4) = true by decide), need_t (show rng .i64 (1 + 4) = true by decide), need_t (show rng .i64 (2 + 4) = true by decide), need_t (show rng .i64 (3 + 4) = true by decide), need_t (show rng .i64 2 = true by decide), need_t (show rng .i64 3 = true by decide), need_t (show rng .i64 4 = true by decide), need_t (show rng .i64 5 = true by decide), need_t (show rng .i64 6 = true by decide), need_t (show rng .i64 7 = true by decide)]
 ·rintro k st hk -
  left
  have e : 2 ^ n - k = (2 ^ n - (k + 1)) + 1 := by omega
  have q1 : run (fun _ => none) (F73 (k : Int) (i : Int)) = _ := k73 (show k < 64 by omega) (show i < 6 by omega)
  have q2 : run (fun _ => none) (F89_v1 c c (n : Int) ((2 ^ n - 1 : Nat) : Int) (k : Int)) = _ := k89 hc hk
  simp only [g88_v1_0i_0, run_br, run_bd, run_nd, run_ret, br_d, br_eq, inc_u hn hk, need_true, k90_nil (show k < 64 by omega), bindO_s, q1, q2]
  rw [if_pos (by omega), if_pos trivial, e, anyL_step]
  unfold inLeast
  cases h1 : k.testBit i
  ·exact ⟨st, by simp, trivial, by simp⟩
  cases h2 : leastB c k
  ·exact ⟨st, by simp, trivial, by simp⟩
  ·exact ⟨0, by simp, trivial, by simp⟩
 ·rintro st -
  simp only [g88_v1_0i_0, run_br, run_ret, br_d]
  rw [if_neg (by omega)]
  simp [anyL_zero]
theorem k87_v1 {c : List Ch} {n : Nat} (hc : OkC n c) : run0 (F87_v1 c c (n : Int) ((2 ^ n - 1 : Nat) : Int) c c (n : Int) ((2 ^ n - 1 : Nat) : Int)) = some (kds c n, ()) := by
 have hn := hc.n6
 simp only [F87_v1, run_bd, run_it]
 refine bind_eq (each_ok (n := n) (fun k st => (c, c, (n : Int), ((2 ^ n - 1 : Nat) : Int), st.length, (n : Int), (k : Int), st, ())) (fun st => (st.length, st, ())) (kdI c n) (fun k st hk hi => ?_) (fun st hi => ?_)) ?_
 ·have hni : rng .i64 ((k : Int) + 1) = true := rng_i64 (by omega) (by omega)
  simp only [g87_v1_0, run_br, run_bd, run_nd, run_ni, run_ret, br_d, hni, need_true]
  rw [if_pos (by omega), bind_of (k88 hc hk)]
  simp only [dt1, tk1, List.length_cons, List.length_nil, List.drop_zero, List.take_length]
  rw [need_lenbig (by omega)]
  simp
 ·simp only [g87_v1_0, run_br, run_ret, br_d]
  rw [if_neg (by omega)]
 ·simp only [run_ret, List.drop_zero, List.take_length, kds]
theorem k37 {c : List Ch} {n : Nat} (hc : OkC n c) (h : chk c = 0) : run0 (F37 c) = some (kds c n, 0, ()) := by
 simp only [F37, run_bd]
 rw [bind_of (k66 hc h)]
 simp only [run_sr, run_br, run_bd, run_ret, br_not, br_eq]
 rw [if_pos trivial, bind_of (k87_v1 hc)]
theorem k37_no {c : List Ch} (h : chk c ≠ 0) : run0 (F37 c) = some ([], chk c, ()) := by
 simp only [F37, run_bd]
 rw [bind_of (k66_no h)]
 simp only [run_sl, run_br, run_bd, run_ret, br_not, br_eq]
 rw [if_neg h]
end Go.Proofs.Tryd
end
section
namespace Go.Proofs.Tryd
open Go.AM Go.Cn
set_option maxRecDepth 100000
/-- A set within another one. -/
def subB (a b : Nat) : Bool := a &&& b == a
theorem sub_els {a b : Nat} (hb : b < 64) (h : subB a b = true) : (els a).Sublist (els b) := by
 have ha : a < 64 := by
  have : a &&& b ≤ b := Nat.and_le_right
  rw [beq_iff_eq.1 h] at this; omega
 have := all_lt2 (n := 64) (m := 64) (p := fun a b => !subB a b || decide ((els a).Sublist (els b))) (by decide +kernel) ha hb
 simpa [h] using this
theorem wt_sub {n : Nat} {x : Ch} (hx : OkX n x) {l l' : List Nat} (h : l.Sublist l') : (l.map fun i => x.2.getD i 0).sum ≤ (l'.map fun i => x.2.getD i 0).sum := by
 induction h with
 | slnil => simp
 | cons a _ ih =>
  have := (hx.get a).1
  simp only [List.map_cons, List.sum_cons]; omega
 | cons_cons a _ ih => simp only [List.map_cons, List.sum_cons]; omega
theorem winB_sub {c : List Ch} {n : Nat} (hc : ∀ x ∈ c, OkX n x) {a b : Nat} (hb : b < 64) (h : subB a b = true) (hw : winB c a = true) : winB c b = true := by
 unfold winB at hw ⊢
 rw [List.all_eq_true] at hw ⊢
 intro x hx
 have h1 := of_decide_eq_true (hw x hx)
 have h2 := wt_sub (hc x hx) (sub_els hb h)
 exact decide_eq_true (Int.le_trans h1 h2)
theorem wo_sub {s i : Nat} (hs : s < 64) (hi : i < 6) : subB (wo s i) s = true ∧ (wo s i).testBit i = false := by
 have := all_lt2 (n := 64) (m := 6) (p := fun s i => subB (wo s i) s && !(wo s i).testBit i) (by decide +kernel) hs hi
 simpa using this
/-! How often a grower decides, by all that went before. -/
end Go.Proofs.Tryd
end
section
namespace Go.Proofs.Tryd
open Go.AM Go.Cn
set_option maxRecDepth 100000
def sgn (a b : Int) : Int := if a < b then -1 else if b < a then 1 else 0
theorem k108 (a b : Int) : run0 (F108 a b) = some (sgn a b, ()) := by
  simp only [F108, F124, run_bd, run_br, run_ret, bindO_s, beq_self_eq_true, Bool.not_true, br_false, br_d]
  unfold sgn
  by_cases h : a < b
  · rw [if_pos h, if_pos h]
  · rw [if_neg h, if_neg h]
    by_cases h2 : b < a
    · rw [if_pos h2, if_pos h2]
    · rw [if_neg h2, if_neg h2]
theorem k95 (a b : List Int) (ha : a.length ≤ 1000) : run0 (F95 a b) = some (cmpL a b, ()) := by
  simp only [F95, run_bd, run_it]
  refine bind_eq (iter_list a (fun k (_ : Unit) => (a, b, a, ((a.length : Nat) : Int), (k : Int), ()))
    (fun _ r => match clL r (b.drop (a.length - r.length)) with | some z => Sum.inl (z, ()) | none => Sum.inr (a, b, ())) (fun _ _ => True) ?_ ?_ (s := ()) trivial) ?_
  · rintro pre x post _ hx -
    have hlen : a.length = pre.length + (post.length + 1) := by rw [hx]; simp
    have hd : a.getD pre.length (0 : Int) = x := by rw [hx]; exact getD_mid rfl
    have hin : inb (pre.length : Int) ((a.length : Nat) : Int) = true := inb_t (by omega) (by omega)
    have hni : rng .i64 ((pre.length : Int) + 1) = true := rng_i64 (by omega) (by omega)
    have e1 : a.length - (x :: post).length = pre.length := by rw [List.length_cons]; omega
    have e2 : a.length - post.length = pre.length + 1 := by omega
    simp only [g95_0, run_br, run_nb, run_bd, run_ni, run_ret, Int.toNat_natCast, hd, br_d, br_not, br_eq, hin, hni, need_true]
    rw [if_pos (by omega), e1, e2]
    by_cases hb : b.length ≤ pre.length
    · right
      rw [if_pos (by omega), List.drop_eq_nil_of_le hb]
      rfl
    have e3 : b.drop pre.length = b.getD pre.length 0 :: b.drop (pre.length + 1) := by
      rw [List.drop_eq_getElem_cons (by omega)]
      simp [List.getD, show pre.length < b.length by omega]
    have hin2 : inb (pre.length : Int) ((b.length : Nat) : Int) = true := inb_t (by omega) (by omega)
    rw [if_neg (by omega), hin2, need_true, bind_of (k108 _ _), e3]
    generalize b.getD pre.length 0 = y
    simp only [clL, sgn]
    by_cases h1 : x < y
    · right
      simp [h1]
    by_cases h2 : y < x
    · right
      simp [h1, h2]
    · left
      exact ⟨(), by simp [h1, h2], trivial, by simp [h1, h2]⟩
  · rintro _ -
    simp only [g95_0, run_br, run_ret, br_d]
    rw [if_neg (by omega)]
    rfl
  · have e : a.length - a.length = 0 := by omega
    simp only [e, List.drop_zero]
    rw [cmpL_cl]
    cases h : clL a b with
    | some z => simp [run_sl, run_ret]
    | none =>
      simp only [run_sr, run_br, run_ret, br_d, Option.getD_none]
      by_cases hl : a.length < b.length
      · rw [if_pos (by omega), if_pos hl]
      · rw [if_neg (by omega), if_neg hl]
def rlL : List Int → List Int → Option Bool
  | [], _ => none
  | _ :: _, [] => none
  | x :: p, y :: q => if x = y then rlL p q else some (decide (x < y))
theorem ltL_rl : ∀ a b : List Int, ltL a b = (rlL a b).getD (decide (a.length < b.length))
  | [], [] => rfl
  | [], _ :: _ => by simp [ltL, cmpL, rlL]
  | _ :: _, [] => by simp [ltL, cmpL, rlL]
  | a :: u, b :: v => by
    have := ltL_rl u v
    simp only [ltL, cmpL, rlL] at this ⊢
    by_cases h : a = b
    · subst h
      simp [this]
    by_cases h1 : a < b
    · simp [h, h1]
    · have h2 : b < a := by omega
      simp [h, h1, h2]
theorem k97 (a b : List Int) (ha : a.length ≤ 1000) (hb : b.length ≤ 1000) : run0 (F97 a b) = some (ltL a b, ()) := by
  simp only [F97, run_bd, run_it]
  refine bind_eq (iter_list a (fun k (_ : Unit) => (a, b, (k : Int), ()))
    (fun _ r => match rlL r (b.drop (a.length - r.length)) with | some z => Sum.inl (z, ()) | none => Sum.inr (a, b, ())) (fun _ _ => True) ?_ ?_ (s := ()) trivial) ?_
  · rintro pre x post _ hx -
    have hlen : a.length = pre.length + (post.length + 1) := by rw [hx]; simp
    have hd : a.getD pre.length (0 : Int) = x := by rw [hx]; exact getD_mid rfl
    have hin : inb (pre.length : Int) ((a.length : Nat) : Int) = true := inb_t (by omega) (by omega)
    have hni : rng .i64 ((pre.length : Int) + 1) = true := rng_i64 (by omega) (by omega)
    have e1 : a.length - (x :: post).length = pre.length := by rw [List.length_cons]; omega
    have e2 : a.length - post.length = pre.length + 1 := by omega
    simp only [g97_0, run_br, run_nb, run_bd, run_ni, run_ret, Int.toNat_natCast, hd, br_d, br_not, br_eq, hin, hni, need_true]
    rw [if_pos (by omega), e1, e2]
    by_cases hb : b.length ≤ pre.length
    · right
      rw [if_neg (by omega), List.drop_eq_nil_of_le hb]
      rfl
    have e3 : b.drop pre.length = b.getD pre.length 0 :: b.drop (pre.length + 1) := by
      rw [List.drop_eq_getElem_cons (by omega)]
      simp [List.getD, show pre.length < b.length by omega]
    have hin2 : inb (pre.length : Int) ((b.length : Nat) : Int) = true := inb_t (by omega) (by omega)
    rw [if_pos (by omega), hin2, need_true, need_true, e3]
    generalize b.getD pre.length 0 = y
    simp only [rlL]
    by_cases h1 : x = y
    · left
      exact ⟨(), by simp [h1], trivial, by simp [h1]⟩
    · right
      simp [h1]
  · rintro _ -
    simp only [g97_0, run_br, run_ret, br_d]
    rw [if_neg (by omega)]
    rfl
  · have e : a.length - a.length = 0 := by omega
    simp only [e, List.drop_zero]
    rw [ltL_rl]
    cases h : rlL a b with
    | some z => simp [run_sl, run_ret]
    | none =>
      simp only [run_sr, run_br, run_ret, br_d, Option.getD_none]
      by_cases hl : a.length < b.length
      · rw [decide_eq_true hl, decide_eq_true (by omega)]
      · rw [decide_eq_false hl, decide_eq_false (by omega)]
/-! ### SortFunc -/
def SmL (l : List Int) : Prop := l.length ≤ 1000
theorem kH114_v1 {l : List (List Int)} (hg : ∀ c ∈ l, SmL c) (hl : l.length ≤ 1000) : run0 (FH114_v1 l.length 0 l.length l) = some (isort ltL l, ()) := by
  simp only [FH114_v1, run_ni, run_bd, run_it, run_ret]
  rw [need_i64 (by omega) (by omega)]
  refine bind_eq (ins_outer (lt := ltL) (Good := SmL) (n := l.length) (fun k m => (l.length, (0 : Int), ((l.length : Nat) : Int), (k : Int), m, ())) (fun m => (m, ())) ?_ ?_ hg rfl) rfl
  · intro R x Q hR hg' hn
    simp only [gH114_v1_0, run_br, run_bd, run_it, run_ret, run_ni, br_d]
    rw [if_pos (by omega)]
    refine bind_eq (ins_inner (lt := ltL) (Good := SmL) (n := l.length) (fun k m => (l.length, (0 : Int), ((l.length : Nat) : Int), (R.length : Int), (k : Int), m, ())) (fun m => (l.length, (0 : Int), ((l.length : Nat) : Int), (R.length : Int), m, ())) ?_ ?_ R x Q hg' hn) ?_
    · intro L y x W hg2 hn2
      have t1 : Int.toNat (((L.length + 1 : Nat) : Int) - 1) = L.length := by omega
      have g1 : (L ++ y :: x :: W).getD (L.length + 1) [] = x := by
        rw [show L ++ y :: x :: W = (L ++ [y]) ++ x :: W by simp]; exact getD_mid (by simp)
      have g2 : (L ++ y :: x :: W).getD L.length [] = y := getD_mid rfl
      have s1 : (L ++ y :: x :: W).set (L.length + 1) y = L ++ y :: y :: W := by
        rw [show L ++ y :: x :: W = (L ++ [y]) ++ x :: W by simp, set_mid (by simp)]; simp
      have s2 : (L ++ y :: y :: W).set L.length x = L ++ x :: y :: W := set_mid rfl
      have i1 : inb ((L.length + 1 : Nat) : Int) ((l.length : Nat) : Int) = true := inb_t (by omega) (by omega)
      have i2 : inb (((L.length + 1 : Nat) : Int) - 1) ((l.length : Nat) : Int) = true := inb_t (by omega) (by omega)
      have r1 : rng .i64 (((L.length + 1 : Nat) : Int) - 1) = true := rng_i64 (by omega) (by omega)
      have d1 : decide (L.length + 1 < (L ++ y :: x :: W).length) = true := decide_eq_true (by simp)
      have d2 : decide (L.length < (L ++ y :: x :: W).length) = true := decide_eq_true (by simp)
      have d3 : decide (L.length < (L ++ y :: y :: W).length) = true := decide_eq_true (by simp)
      have hz : run (fun _ => none) (F95 x y) = _ := k95 x y (hg2 x (by simp))
      simp only [gH114_v1_1, run_br, run_bd, run_nb, run_nd, run_ni, run_ret, Int.toNat_natCast, t1, Nat.zero_add, g1, g2, List.drop_zero, hz, bindO_s, i1, i2, r1, d1, d2, need_true, br_d, s1, s2, d3]
      rw [if_pos (by omega)]
      unfold ltL
      by_cases hcc : cmpL x y < 0
      · rw [if_pos hcc, if_pos (decide_eq_true hcc)]
        have : (((L.length + 1 : Nat) : Int) - 1) = (L.length : Int) := by omega
        rw [this]
      · rw [if_neg hcc, if_neg (by simpa using hcc)]
    · intro m
      simp only [gH114_v1_1, run_br, br_d, run_ret]
      rw [if_neg (by omega)]
    · simp only []
      rw [need_i64 (by omega) (by omega)]
      simp
  · intro k m hk
    simp only [gH114_v1_0, run_br, br_d, run_ret]
    rw [if_neg (by omega)]
theorem k107 : ∀ n : Nat, n ≤ 12 → ∃ y, run0 (F107 (n : Int)) = some (y, ())
  | 0, _ => ⟨0, cmp_done 10 (by kernel_rfl)⟩
  | 1, _ => ⟨1, cmp_done 10 (by kernel_rfl)⟩
  | 2, _ => ⟨2, cmp_done 10 (by kernel_rfl)⟩
  | 3, _ => ⟨2, cmp_done 10 (by kernel_rfl)⟩
  | 4, _ => ⟨3, cmp_done 10 (by kernel_rfl)⟩
  | 5, _ => ⟨3, cmp_done 10 (by kernel_rfl)⟩
  | 6, _ => ⟨3, cmp_done 10 (by kernel_rfl)⟩
  | 7, _ => ⟨3, cmp_done 10 (by kernel_rfl)⟩
  | 8, _ => ⟨4, cmp_done 10 (by kernel_rfl)⟩
  | 9, _ => ⟨4, cmp_done 10 (by kernel_rfl)⟩
  | 10, _ => ⟨4, cmp_done 10 (by kernel_rfl)⟩
  | 11, _ => ⟨4, cmp_done 10 (by kernel_rfl)⟩
  | 12, _ => ⟨4, cmp_done 10 (by kernel_rfl)⟩
  | n + 13, h => by omega
theorem kH94a {l : List (List Int)} (hg : ∀ c ∈ l, SmL c) (hl : l.length ≤ 12) : run0 (FH94_v1a l.length l) = some (isort ltL l, ()) := by
  obtain ⟨y, hy⟩ := k107 l.length hl
  simp only [FH94_v1a, FH106_v1, run_nd, run_bd, run_it, run_ret]
  rw [need_t (rng_u64 (by omega) (by omega)), bind_of hy, iter_inr (b := (isort ltL l, ())) (by
    simp only [gH106_v1_0, run_ni, run_nd, run_br, run_bd, run_ret, br_d]
    rw [need_i64 (by omega) (by omega), if_pos (by omega), bind_of (kH114_v1 hg (by omega))])]
  simp only [bindO_s]
/-- What SortFunc gives: the list in order. -/
theorem kH94 {l : List (List Int)} (hg : ∀ c ∈ l, SmL c) (hl : l.length ≤ 1000) : ∃ ys, run0 (FH94_v1 l.length l) = some (ys, ()) ∧ ys.Perm l ∧ ys.Pairwise (fun a b => ltL b a = false) := by
  simp only [FH94_v1, run_br, br_d, run_of]
  by_cases h : l.length ≤ 12
  · rw [if_pos h]
    exact ⟨_, kH94a hg h, isort_perm l, isort_sorted (ltL_ord SmL) hg⟩
  rw [if_neg h]
  have hG : ∀ x : List Int, (x ∈ l ∨ x = (Ty.list (.int .i64)).zero) → SmL x := by
    rintro x (hx | rfl)
    · exact hg x hx
    · exact Nat.zero_le _
  have hc : ∀ a b : List Int, (a ∈ l ∨ a = (Ty.list (.int .i64)).zero) → ltC (cfO fun a b => run0 (F95 a b)) a b = ltL a b := fun a b ha => by
    unfold ltC cfO ltL
    have e := k95 a b (hG a ha)
    show decide ((match run0 (F95 a b) with | some z => z.1 | none => 0) < 0) = _
    rw [e]
  obtain ⟨ys, h1, h2, h3⟩ := srtO_eq (t := .list (.int .i64)) (cmp := fun a b => run0 (F95 a b)) (xs := l) (by omega) (by omega) (fun a b ha hb => ⟨_, k95 a b (hG a ha)⟩)
    ⟨fun a ha => by rw [hc a a ha]; exact ltL_irr a, fun a b c ha hb hcc h1 h2 => by
      rw [hc a b ha] at h1; rw [hc b c hb] at h2; rw [hc a c ha]; exact ltL_trans h1 h2,
     fun a b c ha hb hcc h1 h2 => by
      rw [hc a b ha] at h1; rw [hc b c hb] at h2; rw [hc a c ha]; exact ltL_ntr h1 h2⟩
  refine ⟨ys, h1, h2, h3.imp_of_mem fun {a b} ha hb h => ?_⟩
  rwa [hc b a (.inl (h2.mem_iff.1 hb))] at h
end Go.Proofs.Tryd
end
section
namespace Go.Proofs.Tryd
open Go.AM Go.Cn
set_option maxRecDepth 100000
theorem inc_i {k n : Nat} (hn : n ≤ 6) (hk : k < 2 ^ n) : rng .i64 ((k : Int) + 1) = true := by
 have := pow6 hn
 exact rng_i64 (by omega) (by omega)
theorem i_hasnt {s i : Nat} (hs : s < 64) (hi : i < 6) : (ar0.bits IBin.and .i64 (ar0.shr (s : Int) (i : Int)) (1 : Int) == (0 : Int)) = !s.testBit i := by
 have := all_lt2 (n := 64) (m := 6) (p := fun s i => (ar0.bits IBin.and .i64 (ar0.shr (s : Int) (i : Int)) (1 : Int) == (0 : Int)) == !s.testBit i) (by kernel_rfl) hs hi
 simpa using this
/-- The sets from k on, as lists. -/
def lstL (c : List Ch) (k m : Nat) : List (List Int) := ((List.range' k m).filter (leastB c)).map fun s => ints (els s)
theorem lstL_zero {c : List Ch} {k : Nat} : lstL c k 0 = [] := rfl
theorem lstL_step {c : List Ch} {k m : Nat} : lstL c k (m + 1) = (if leastB c k = true then [ints (els k)] else []) ++ lstL c (k + 1) m := by
 unfold lstL
 rw [List.range'_succ, List.filter_cons]
 split <;> simp
theorem lstL_sm {c : List Ch} {k m : Nat} : ∀ l ∈ lstL c k m, SmL l := by
 intro l hl
 unfold lstL at hl
 obtain ⟨s, -, rfl⟩ := List.mem_map.1 hl
 have := @els_len s
 unfold SmL
 rw [ints_len]
 omega
theorem lstL_len {c : List Ch} {k m : Nat} : (lstL c k m).length ≤ m := by
 unfold lstL
 rw [List.length_map]
 exact Nat.le_trans (List.length_filter_le _ _) (by simp)
/-- In order. -/
def leasts (c : List Ch) (n : Nat) : List (List Int) := isort ltL (lstL c 0 (2 ^ n))
theorem leasts_one {c : List Ch} {n : Nat} {ys : List (List Int)} (h : ys.Perm (lstL c 0 (2 ^ n))) (hp : ys.Pairwise (fun a b => ltL b a = false)) : ys = leasts c n :=
 ltL_one (h.trans (isort_perm _).symm) hp (isort_sorted (ltL_ord fun _ => True) (fun _ _ => trivial))
theorem k46_no {c : List Ch} (h : chk c ≠ 0) : run0 (F46 c) = some ([], chk c, ()) := by
 simp only [F46, run_bd]
 rw [bind_of (k66_no h)]
 simp only [run_sl, run_br, run_bd, run_ret, br_not, br_eq]
 rw [if_neg h]
theorem k46 {c : List Ch} {n : Nat} (hc : OkC n c) (h : chk c = 0) : run0 (F46 c) = some (leasts c n, 0, ()) := by
 have hn := hc.n6
 have h64 := pow6 hn
 have hp0 : 0 < 2 ^ n := Nat.pow_pos (by omega)
 simp only [F46, run_bd]
 rw [bind_of (k66 hc h)]
 simp only [run_sr, run_br, run_bd, run_ret, br_not, br_eq, F82_v1, bindO_s, g46_0, run_it]
 rw [if_pos trivial]
 have key := iter_upto (f := fun a => run (fun _ => none) (g46_0i_0 a)) (2 ^ n) (fun k (st : List (List Int)) => (c, c, (n : Int), ((2 ^ n - 1 : Nat) : Int), [], (k : Int), (0 : Int), c, c, (n : Int), ((2 ^ n - 1 : Nat) : Int), [], c, c, (n : Int), ((2 ^ n - 1 : Nat) : Int), st.length, st, ()))
  (fun st k => (c, c, (n : Int), ((2 ^ n - 1 : Nat) : Int), (st ++ lstL c k (2 ^ n - k)).length, (0 : Int), c, c, (n : Int), ((2 ^ n - 1 : Nat) : Int), [], st ++ lstL c k (2 ^ n - k), ())) (fun k st => st.length ≤ k) ?_ ?_ (s := []) (Nat.zero_le _)
 ·replace key : iter (fun a => run (fun _ => none) (g46_0i_0 a)) (c, c, (n : Int), ((2 ^ n - 1 : Nat) : Int), [], (0 : Int), (0 : Int), c, c, (n : Int), ((2 ^ n - 1 : Nat) : Int), [], c, c, (n : Int), ((2 ^ n - 1 : Nat) : Int), (0 : Nat), [], ()) = _ := key
  rw [bind_of key, Nat.sub_zero, List.nil_append]
  obtain ⟨ys, h1, h2, h3⟩ := kH94 (l := lstL c 0 (2 ^ n)) lstL_sm (by have := @lstL_len c 0 (2 ^ n); omega)
  simp only [bindO_s]
  rw [bind_of h1, ← leasts_one h2 h3]
  simp only [List.drop_zero, ← h2.length_eq, List.take_length]
 ·rintro k st hk hi
  left
  have e : 2 ^ n - k = (2 ^ n - (k + 1)) + 1 := by omega
  have q2 : run (fun _ => none) (F89_v1 c c (n : Int) ((2 ^ n - 1 : Nat) : Int) (k : Int)) = _ := k89 hc hk
  have q3 : run (fun _ => none) (F71 (k : Int)) = _ := k71 (show k < 64 by omega)
  simp only [g46_0i_0, run_br, run_bd, run_nd, run_ret, br_d, br_eq, inc_u hn hk, need_true, k90_nil (show k < 64 by omega), bindO_s, q2, q3, dt1, tk1, List.length_cons, List.length_nil, List.drop_zero, List.take_length]
  rw [if_pos (by omega), if_pos trivial, e, lstL_step]
  cases h1 : leastB c k
  ·exact ⟨st, by simp, by omega, by simp⟩
  ·refine ⟨st ++ [ints (els k)], ?_, by simp; omega, by simp⟩
   rw [brO_true, need_lenbig (by omega)]
   simp
 ·rintro st hi
  simp only [g46_0i_0, run_br, run_ret, br_d]
  rw [if_neg (by omega)]
  simp [lstL_zero]
theorem els_all {s n : Nat} (hn : n ≤ 6) (hs : s < 2 ^ n) (p : Nat → Bool) : (els s).all p = (List.range' 0 n).all (fun i => !s.testBit i || p i) := by
 rw [els_upto hn hs, ← List.range_eq_range', Bool.eq_iff_iff]
 simp only [List.all_eq_true, List.mem_filter, List.mem_range]
 constructor
 ·intro h i hi
  cases hb : s.testBit i
  ·rfl
  ·simpa using h i ⟨hi, hb⟩
 ·rintro h i ⟨hi, hb⟩
  simpa [hb] using h i hi
/-- The reference's way to see a least set. -/
theorem k96 {c : List Ch} {n s : Nat} (hc : OkC n c) (hs : s < 2 ^ n) : run0 (F96 c (s : Int)) = some (leastB c s, ()) := by
 have hn := hc.n6
 have h64 := pow6 hn
 have h0 : 0 < c.length := by have := hc.c1; omega
 simp only [F96, run_bd, run_it]
 refine bind_eq (iter_upto n (fun k (_ : Unit) => ((s : Int), (k : Int), c, ())) (fun _ k => if (List.range' k (n - k)).all (fun i => !s.testBit i || !winB c (wo s i)) = true then Sum.inr ((s : Int), c, ()) else Sum.inl ()) (fun _ _ => True) ?_ ?_ (s := ()) trivial) ?_
 ·rintro k _ hk -
  have e : n - k = (n - (k + 1)) + 1 := by omega
  have q1 : run (fun _ => none) (F76 c ((wo s k : Nat) : Int)) = _ := k76 hc (wo_lt (i := k) hs)
  have hni : rng .i64 ((k : Int) + 1) = true := rng_i64 (by omega) (by omega)
  have hsh : rng .i64 (ar0.shl (1 : Int) (k : Int)) = true := by
   rw [shl_one (by omega)]
   have : 2 ^ k ≤ 2 ^ 6 := Nat.pow_le_pow_right (by omega) (by omega)
   have : 0 < 2 ^ k := Nat.pow_pos (by omega)
   exact rng_i64 (by omega) (by omega)
  simp only [g96_0, run_br, run_bd, run_nb, run_ni, run_ret, k60 h0, hc.gro, bindO_s, br_d, i_has (show s < 64 by omega) (show k < 6 by omega), i_wo (show s < 64 by omega) (show k < 6 by omega), hsh, hni, need_true, q1, inb_t (show (0 : Int) ≤ (k : Int) by omega) (show (k : Int) < 64 by omega)]
  rw [if_pos (by omega), e, List.range'_succ, List.all_cons]
  cases h1 : s.testBit k
  ·exact .inl ⟨(), by simp, trivial, rfl⟩
  cases h2 : winB c (wo s k)
  ·exact .inl ⟨(), by simp, trivial, rfl⟩
  ·exact .inr (by simp)
 ·rintro _ -
  simp only [g96_0, run_br, run_bd, run_ret, k60 h0, hc.gro, bindO_s, br_d]
  rw [if_neg (by omega)]
  simp
 ·unfold leastB
  rw [els_all hn hs, Nat.sub_zero]
  cases (List.range' 0 n).all (fun i => !s.testBit i || !winB c (wo s i))
  ·simp [run_sl, run_ret]
  ·simp only [if_true, run_sr, run_bd, run_ret, Bool.true_and]
   rw [bind_of (k76 hc hs)]
theorem k47_no {c : List Ch} (h : chk c ≠ 0) : run0 (F47 c) = some ([], chk c, ()) := by
 simp only [F47, run_bd, run_br, run_ret, br_not, br_eq]
 rw [bind_of (k50 c), if_neg h]
theorem k47_1 {c : List Ch} {R : List (List Int)} {x : List Int} {s : Int} (hx : SmL x) (hR : ∀ l ∈ R, SmL l) (hl : R.length ≤ 1000) :
  iter (fun a => run (fun _ => none) (g47_1 a)) (R.length + 1, s, (R.length : Int), c, R.reverse ++ [x], ()) = some (R.length + 1, s, c, (insR ltL x R).reverse, ()) := by
 have := ins_inner (f := fun a => run (fun _ => none) (g47_1 a)) (lt := ltL) (Good := SmL) (n := R.length + 1) (fun k m => (R.length + 1, s, (k : Int), c, m, ())) (fun m => (R.length + 1, s, c, m, ())) ?_ ?_ R x [] (by
  intro z hz
  rcases List.mem_append.1 hz with h | h
  ·exact hR z h
  ·rw [List.mem_singleton.1 h]; exact hx) rfl
 ·simpa using this
 ·intro L y x W hg2 hn2
  have t1 : Int.toNat (((L.length + 1 : Nat) : Int) - 1) = L.length := by omega
  have g1 : (L ++ y :: x :: W).getD (L.length + 1) [] = x := by
   rw [show L ++ y :: x :: W = (L ++ [y]) ++ x :: W by simp]; exact getD_mid (by simp)
  have g2 : (L ++ y :: x :: W).getD L.length [] = y := getD_mid rfl
  have s1 : (L ++ y :: x :: W).set (L.length + 1) y = L ++ y :: y :: W := by
   rw [show L ++ y :: x :: W = (L ++ [y]) ++ x :: W by simp, set_mid (by simp)]; simp
  have s2 : (L ++ y :: y :: W).set L.length x = L ++ x :: y :: W := set_mid rfl
  have i1 : inb ((L.length + 1 : Nat) : Int) ((R.length + 1 : Nat) : Int) = true := inb_t (by omega) (by omega)
  have i2 : inb (((L.length + 1 : Nat) : Int) - 1) ((R.length + 1 : Nat) : Int) = true := inb_t (by omega) (by omega)
  have r1 : rng .i64 (((L.length + 1 : Nat) : Int) - 1) = true := rng_i64 (by omega) (by omega)
  have d1 : decide (L.length + 1 < (L ++ y :: x :: W).length) = true := decide_eq_true (by simp)
  have d2 : decide (L.length < (L ++ y :: x :: W).length) = true := decide_eq_true (by simp)
  have d3 : decide (L.length < (L ++ y :: y :: W).length) = true := decide_eq_true (by simp)
  have hz : run (fun _ => none) (F97 x y) = _ := k97 x y (hg2 x (by simp)) (hg2 y (by simp))
  simp only [g47_1, run_br, run_bd, run_nb, run_nd, run_ni, run_ret, Int.toNat_natCast, t1, Nat.zero_add, g1, g2, List.drop_zero, hz, bindO_s, i1, i2, r1, d1, d2, need_true, br_d, s1, s2, d3]
  rw [if_pos (by omega)]
  cases ltL x y
  ·simp
  ·have : (((L.length + 1 : Nat) : Int) - 1) = (L.length : Int) := by omega
   simp [this]
 ·intro m
  simp only [g47_1, run_br, br_d, run_ret]
  rw [if_neg (by omega)]
theorem k47 {c : List Ch} {n : Nat} (hc : OkC n c) (h : chk c = 0) : run0 (F47 c) = some (leasts c n, 0, ()) := by
 have hn := hc.n6
 have h64 := pow6 hn
 have h0 : 0 < c.length := by have := hc.c1; omega
 simp only [F47, run_bd, run_br, run_it, run_ret, br_not, br_eq]
 rw [bind_of (k50 c), if_pos h]
 have key := iter_upto (f := fun a => run (fun _ => none) (g47_0 a)) (2 ^ n) (fun k (R : List (List Int)) => (R.length, (k : Int), c, R.reverse, ()))
  (fun R k => ((sortR ltL R (lstL c k (2 ^ n - k))).length, (sortR ltL R (lstL c k (2 ^ n - k))).reverse, ())) (fun k R => R.length ≤ k ∧ ∀ l ∈ R, SmL l) ?_ ?_ (s := []) ⟨Nat.zero_le _, by simp⟩
 ·replace key : iter (fun a => run (fun _ => none) (g47_0 a)) ((0 : Nat), (0 : Int), c, [], ()) = _ := key
  rw [bind_of key, Nat.sub_zero]
  simp only [List.drop_zero]
  rw [← List.length_reverse, List.take_length]
  rfl
 ·rintro k R hk ⟨hi, hR⟩
  left
  have e : 2 ^ n - k = (2 ^ n - (k + 1)) + 1 := by omega
  have q2 : run (fun _ => none) (F96 c (k : Int)) = _ := k96 hc hk
  have q3 : run (fun _ => none) (F64 (k : Int)) = _ := k64 (show k < 64 by omega)
  have hsx : SmL (ints (els k)) := by
   have := @els_len k
   unfold SmL; rw [ints_len]; omega
  have q4 := k47_1 (c := c) (s := (k : Int)) hsx hR (by omega)
  have er : (((R.length + 1 : Nat) : Int) - 1) = (R.length : Int) := by omega
  have hr : rng .i64 (R.length : Int) = true := rng_i64 (by omega) (by omega)
  have hpw : rng .i64 ((2 ^ n : Nat) : Int) = true := rng_i64 (by omega) (by omega)
  simp only [g47_0, run_br, run_bd, run_it, run_nb, run_nd, run_ni, run_ret, k60 h0, hc.gro, shl_n hn, hpw, br_d, inc_i hn hk, inb_t (show (0 : Int) ≤ (n : Int) by omega) (show (n : Int) < 64 by omega), need_true, bindO_s, q2, q3, dt1, tk1, List.length_cons, List.length_nil, List.drop_zero, Nat.zero_add]
  rw [if_pos (by omega), e, lstL_step]
  cases h1 : leastB c k
  ·exact ⟨R, by simp, ⟨by omega, hR⟩, by simp⟩
  ·refine ⟨insR ltL (ints (els k)) R, ?_, ⟨?_, ?_⟩, ?_⟩
   ·rw [brO_true, need_lenbig (by omega)]
    simp only [er, hr, need_true]
    rw [List.take_of_length_le (by simp), bind_of q4, (insR_perm (lt := ltL) (ints (els k)) R).length_eq]
    simp [inc_i hn hk]
   ·rw [(insR_perm (lt := ltL) (ints (els k)) R).length_eq]
    simp; omega
   ·intro l hl
    rcases List.mem_cons.1 ((insR_perm (lt := ltL) (ints (els k)) R).mem_iff.1 hl) with rfl | hl
    ·exact hsx
    ·exact hR l hl
   ·simp [sortR]
 ·rintro R hi
  have hpw : rng .i64 ((2 ^ n : Nat) : Int) = true := rng_i64 (by omega) (by omega)
  simp only [g47_0, run_br, run_bd, run_nb, run_ni, run_ret, k60 h0, hc.gro, shl_n hn, hpw, br_d, need_true, bindO_s]
  rw [need_inb (by omega) (by omega), if_neg (by omega)]
  simp [lstL_zero, sortR]
theorem k49 {l : List (List Int)} (hl : l.length ≤ 1000) (hs : ∀ x ∈ l, SmL x) : run0 (F49 l l) = some (true, ()) := by
 simp only [F49, run_br, run_bd, run_it, run_ret, br_not, br_eq, if_true]
 refine bind_eq (iter_list l (fun k (_ : Unit) => (l, l, (k : Int), ())) (fun _ _ => Sum.inr ()) (fun _ _ => True) ?_ ?_ (s := ()) trivial) rfl
 ·rintro pre x post _ hx -
  left
  have hlen : l.length = pre.length + (post.length + 1) := by rw [hx]; simp
  have hd : l.getD pre.length [] = x := by rw [hx]; exact getD_mid rfl
  have hin : inb (pre.length : Int) ((l.length : Nat) : Int) = true := inb_t (by omega) (by omega)
  have hni : rng .i64 ((pre.length : Int) + 1) = true := rng_i64 (by omega) (by omega)
  have q : run (fun _ => none) (F22 x x) = _ := k22 (hs x (by rw [hx]; simp))
  simp only [g49_0, run_br, run_nb, run_bd, run_ni, run_ret, Int.toNat_natCast, hd, br_d, hin, hni, need_true, q, bindO_s]
  rw [if_pos (by omega)]
  exact ⟨(), by simp, trivial, trivial⟩
 ·rintro _ -
  simp only [g49_0, run_br, run_ret, br_d]
  rw [if_neg (by omega)]
theorem leasts_ok {c : List Ch} {n : Nat} (hn : n ≤ 6) : (leasts c n).length ≤ 1000 ∧ ∀ x ∈ leasts c n, SmL x := by
 have := pow6 hn
 have h2 := @lstL_len c 0 (2 ^ n)
 exact ⟨by unfold leasts; rw [isort_length]; omega, fun x hx => lstL_sm x ((isort_perm _).mem_iff.1 hx)⟩
end Go.Proofs.Tryd
end
section
namespace Go.Proofs.Tryd
open Go.AM Go.Cn
set_option maxRecDepth 100000
def anyW (c : List Ch) (i k m : Nat) : Bool := (List.range' k m).any fun s => !s.testBit i && winB c s
theorem anyW_zero {c : List Ch} {i k : Nat} : anyW c i k 0 = false := rfl
theorem anyW_step {c : List Ch} {i k m : Nat} : anyW c i k (m + 1) = ((!k.testBit i && winB c k) || anyW c i (k + 1) m) := by simp [anyW, List.range'_succ]
theorem sub_wo {n i s : Nat} (hn : n ≤ 6) (hi : i < n) (hs : s < 2 ^ n) (h : s.testBit i = false) : subB s (wo (2 ^ n - 1) i) = true := by
 have h64 := pow6 hn
 have := all_lt (n := 7) (p := fun n => (List.range 64).all fun s => (List.range 6).all fun i => !(decide (i < n) && (decide (s < 2 ^ n) && !s.testBit i)) || subB s (wo (2 ^ n - 1) i)) (by kernel_rfl) (show n < 7 by omega)
 have := all_lt2 (p := fun s i => !(decide (i < n) && (decide (s < 2 ^ n) && !s.testBit i)) || subB s (wo (2 ^ n - 1) i)) this (show s < 64 by omega) (show i < 6 by omega)
 simpa [hi, hs, h] using this
theorem any_wo {c : List Ch} {n i : Nat} (hc : OkC n c) (hi : i < n) : anyW c i 0 (2 ^ n) = winB c (wo (2 ^ n - 1) i) := by
 have hn := hc.n6
 have h64 := pow6 hn
 have hp : 0 < 2 ^ n := Nat.pow_pos (by omega)
 have hw : wo (2 ^ n - 1) i < 2 ^ n := wo_lt (by omega)
 rw [Bool.eq_iff_iff]
 unfold anyW
 rw [List.any_eq_true]
 constructor
 ·rintro ⟨s, hs, h⟩
  rw [List.mem_range'_1] at hs
  rw [Bool.and_eq_true] at h
  exact winB_sub hc.ch (by omega) (sub_wo hn hi (by omega) (by simpa using h.1)) h.2
 ·intro h
  exact ⟨wo (2 ^ n - 1) i, List.mem_range'_1.2 (by omega), by rw [h, (wo_sub (s := 2 ^ n - 1) (by omega) (show i < 6 by omega)).2]; rfl⟩
theorem k48_1 {c : List Ch} {n i : Nat} (hc : OkC n c) (hi : i < n) (m : Nat) (l : List Int) (w : Bool) :
  iter (fun a => run (fun _ => none) (g48_1 a)) (m, ((2 ^ n - 1 : Nat) : Int), (i : Int), true, w, (0 : Int), c, l, ()) = some (m, ((2 ^ n - 1 : Nat) : Int), (i : Int), !anyL c i 0 (2 ^ n), w && !anyW c i 0 (2 ^ n), c, l, ()) := by
 have hn := hc.n6
 have h64 := pow6 hn
 have hp0 : 0 < 2 ^ n := Nat.pow_pos (by omega)
 have key := iter_upto (f := fun a => run (fun _ => none) (g48_1 a)) (2 ^ n) (fun k (st : Bool × Bool) => (m, ((2 ^ n - 1 : Nat) : Int), (i : Int), st.1, st.2, (k : Int), c, l, ()))
  (fun st k => (m, ((2 ^ n - 1 : Nat) : Int), (i : Int), st.1 && !anyL c i k (2 ^ n - k), st.2 && !anyW c i k (2 ^ n - k), c, l, ())) (fun _ _ => True) ?_ ?_ (s := (true, w)) trivial
 ·simpa using key
 ·rintro k ⟨v, w⟩ hk -
  left
  have e : 2 ^ n - k = (2 ^ n - (k + 1)) + 1 := by omega
  have q1 : run (fun _ => none) (F96 c (k : Int)) = _ := k96 hc hk
  have q2 : run (fun _ => none) (F76 c (k : Int)) = _ := k76 hc hk
  simp only [g48_1, run_br, run_bd, run_nb, run_ni, run_ret, br_d, i_has (show k < 64 by omega) (show i < 6 by omega), i_hasnt (show k < 64 by omega) (show i < 6 by omega), inc_i hn hk, need_true, q1, q2, bindO_s, inb_t (show (0 : Int) ≤ (i : Int) by omega) (show (i : Int) < 64 by omega)]
  rw [if_pos (by omega), e, anyL_step, anyW_step]
  unfold inLeast
  refine ⟨(v && !(k.testBit i && leastB c k), w && !(!k.testBit i && winB c k)), ?_, trivial, ?_⟩
  ·cases v <;> cases w <;> cases k.testBit i <;> cases leastB c k <;> cases winB c k <;> simp
  ·simp [Bool.and_assoc]
 ·rintro ⟨v, w⟩ -
  simp only [g48_1, run_br, run_ret, br_d]
  rw [if_neg (by omega)]
  simp [anyL_zero, anyW_zero]
theorem k48_no {c : List Ch} (h : chk c ≠ 0) : run0 (F48 c) = some ([], chk c, ()) := by
 simp only [F48, run_bd, run_br, run_ret, br_not, br_eq]
 rw [bind_of (k50 c), if_neg h]
theorem k48 {c : List Ch} {n : Nat} (hc : OkC n c) (h : chk c = 0) : run0 (F48 c) = some (kds c n, 0, ()) := by
 have hn := hc.n6
 have h64 := pow6 hn
 have hp0 : 0 < 2 ^ n := Nat.pow_pos (by omega)
 have h0 : 0 < c.length := by have := hc.c1; omega
 have hA : 2 ^ n - 1 < 2 ^ n := by omega
 have eA : ((2 ^ n : Nat) : Int) - 1 = ((2 ^ n - 1 : Nat) : Int) := by omega
 simp only [F48, run_bd, run_br, run_it, run_nb, run_ni, run_ret, br_not, br_eq]
 rw [bind_of (k50 c), if_pos h]
 simp only [k60 h0, hc.gro, bindO_s, shl_n hn, eA, inb_t (show (0 : Int) ≤ (n : Int) by omega) (show (n : Int) < 64 by omega), need_true]
 rw [need_t (rng_i64 (by omega) (by omega)), need_t (rng_i64 (by omega) (by omega))]
 refine bind_eq (each_ok (n := n) (fun k st => (st.length, ((2 ^ n - 1 : Nat) : Int), (k : Int), c, st, ())) (fun st => (st.length, st, ())) (kdI c n) (fun k st hk hi => ?_) (fun st hi => ?_)) ?_
 ·have hni : rng .i64 ((k : Int) + 1) = true := rng_i64 (by omega) (by omega)
  have q1 : run (fun _ => none) (F76 c ((2 ^ n - 1 : Nat) : Int)) = _ := k76 hc hA
  have q4 : run (fun _ => none) (F76 c ((2 ^ k : Nat) : Int)) = _ := k76 hc (Nat.pow_lt_pow_right (by omega) hk)
  have hpk : 2 ^ k ≤ 2 ^ n := Nat.pow_le_pow_right (by omega) (by omega)
  have hpk0 : 0 < 2 ^ k := Nat.pow_pos (by omega)
  have hr : rng .i64 ((2 ^ k : Nat) : Int) = true := rng_i64 (by omega) (by omega)
  have hsh := shl_one (show k < 12 by omega)
  have hk64 : (k : Int) < 64 := by omega
  simp only [g48_0, run_br, run_bd, run_it, run_nb, run_nd, run_ni, run_jx, run_ret, k60 h0, hc.gro, bindO_s, br_d, q1]
  rw [if_pos (by omega), bind_of (k48_1 hc hk _ _ _), any_wo hc hk]
  unfold kdI
  simp only [dt1, tk1, List.length_cons, List.length_nil, List.drop_zero]
  generalize ((2 ^ k : Nat) : Int) = P at q4 hr hsh
  cases h1 : anyL c k 0 (2 ^ n) <;> cases h2 : winB c (2 ^ n - 1) <;> cases h3 : winB c (wo (2 ^ n - 1) k) <;> cases h4 : winB c (2 ^ k) <;>
   simp [onS, q4, h4, hsh, hr, hni, hk64, need_lenbig (show st.length + 1 < 1000000000 by omega), need_t (show rng .i64 1 = true by decide), need_t (show rng .i64 (0 + 1) = true by decide), need_t (show rng .i64 (0 + 2) = true by decide), need_t (show rng .i64 (1 + 2) = true by decide), need_t (show rng .i64 (0 + 4) = true by decide), need_t (show rng .i64 (1 + 4) = true by decide), need_t (show rng .i64 (2 + 4) = true by decide), need_t (show rng .i64 (3 + 4) = true by decide), need_t (show rng .i64 2 = true by decide), need_t (show rng .i64 3 = true by decide), need_t (show rng .i64 4 = true by decide), need_t (show rng .i64 5 = true by decide), need_t (show rng .i64 6 = true by decide), need_t (show rng .i64 7 = true by decide)]
 ·simp only [g48_0, run_br, run_bd, run_ret, k60 h0, hc.gro, bindO_s, br_d]
  rw [if_neg (by omega)]
 ·simp only [List.drop_zero, List.take_length, kds]
end Go.Proofs.Tryd
end
section
namespace Go.Proofs.Tryd
open Go.AM Go.Cn
set_option maxRecDepth 100000
theorem law13 (a0 : List Ch × Unit) (a1 : List Int) (hW : WfAll [.prod (.list (.prod (.int .i64) (.list (.int .i64)))) .unit, .list (.int .i64)] (a0, a1, ())) : run0 (F13 a0 a1) = some (true, ()) := by
 obtain ⟨c, u⟩ := a0
 have hl := len_ok hW.1
 simp only [F13, run_bd, run_br, run_ret]
 rw [bind_of (k15 hl)]
 cases hL : largeC c
 case true => rw [br_true, bind_of works_ok]
 have h20 := large_len hL
 rw [br_false]
 by_cases h1 : 40 < a1.length
 ·rw [decide_eq_true (by omega), br_true, bind_of works_ok]
 rw [decide_eq_false (by omega), br_false, bind_of (k17 (by omega))]
 by_cases h : chk c = 0
 case neg =>
  rw [bind_of (k44_no h _), bind_of (k45_no h _), bind_of (k46_no h), bind_of (k47_no h), bind_of (k37_no h), bind_of (k48_no h)]
  simp only [beq_self_eq_true, br_true]
  rw [bind_of (k49 (l := []) (by simp) (by simp)), br_true, bind_of (k22 (a := []) (b := []) (by simp)), decide_eq_true rfl, br_true, bind_of (k41 c), bind_of (k50 c)]
  simp only [beq_self_eq_true, br_true]
  rw [bind_of works_ok]
 have hc := ok_of hL h
 generalize gro c = n at hc
 have hn := hc.n6
 obtain ⟨g1, g2⟩ := leasts_ok (c := c) hn
 rw [bind_of (k44 hc h (by omega)), bind_of (k45 hc h (by omega)), bind_of (k46 hc h), bind_of (k47 hc h), bind_of (k37 hc h), bind_of (k48 hc h)]
 simp only [beq_self_eq_true, br_true]
 rw [bind_of (k49 g1 g2), br_true, bind_of (k22 (a := kds c n) (b := kds c n) (by simp [kds]; omega)), decide_eq_true rfl, br_true, bind_of (k41 c), bind_of (k50 c)]
 simp only [beq_self_eq_true, br_true]
 rw [bind_of works_ok]
end Go.Proofs.Tryd
end
