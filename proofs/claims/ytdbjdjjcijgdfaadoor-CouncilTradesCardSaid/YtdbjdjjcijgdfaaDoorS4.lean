/- Tools for laws: rounds that count, find or keep something; needs. Rounds over a list, with a function that says what comes out. Plain Lean. Sets as numbers below 64: their growers, one after the other. Plain Lean. A council is valid: program and reference say the same. A set's weight, and whether it wins: the program's. The reference's sums and wins; councils out of parts; what is known of a council. Sets without some; swings and turns of the program. Swings and turns: the program's and the reference's. Swings and turns of the reference; the law of powers. Swings and turns are as stated. Which of two growers is stronger: the program and the reference. Lists of growers as sets; wins; exchanges: the program and the reference. Exchanges: what is accepted; where there is one. Growers are compared, and exchanges found and accepted, as stated. -/
import Derived.Test.YtdbjdjjcijgdfaaDoorG4
set_option linter.unusedSectionVars false
set_option linter.unusedVariables false
set_option linter.unusedSimpArgs false
section
namespace Go.AM
theorem need_u64 {X : Type} {z : Int} {x : Option X} (h1 : 0 ≤ z) (h2 : z ≤ 18446744073709551615) : need (rng .u64 z) x = x := need_t (rng_u64 h1 h2)
theorem bigL_eq : bigL = 1073741824 := by decide
theorem need_big {X : Type} {n : Nat} {x : Option X} (h : n < 1000000000) : need (decide (n < bigL)) x = x := need_d (by rw [bigL_eq]; omega)
theorem need_inbL {X : Type} {i : Int} {x : Option X} (h : 0 ≤ i) (h2 : i < 1000000000) : need (inb i ((bigL : Nat) : Int)) x = x := need_inb h (by rw [bigL_eq]; omega)
/-- Rounds that count, or end early with what was found. -/
theorem iter_find {α β γ : Type} {step : α → Option (α ⊕ β)} (n : Nat) (g : Nat → α) (stop : Nat → Option γ) (inj : γ → β) {b : β}
  (hr : ∀ k, k < n → (∀ j, j < k → stop j = none) → step (g k) = match stop k with | none => some (.inl (g (k + 1))) | some c => some (.inr (inj c))) (he : (∀ j, j < n → stop j = none) → step (g n) = some (.inr b)) :
  iter step (g 0) = some (((List.range n).findSome? stop).elim b inj) := by
 have key : ∀ m k, k + m = n → (∀ j, j < k → stop j = none) → iter step (g k) = some (((List.range' k m).findSome? stop).elim b inj) := by
  intro m
  induction m with
  | zero =>
   intro k hk hs
   have : k = n := by omega
   subst this
   simpa using iter_inr (he hs)
  | succ m ih =>
   intro k hk hs0
   have h := hr k (by omega) hs0
   rw [List.range'_succ, List.findSome?_cons]
   cases hs : stop k with
   | none =>
    rw [hs] at h
    refine iter_inl h (ih (k + 1) (by omega) fun j hj => ?_)
    by_cases e : j = k
    ·rw [e, hs]
    ·exact hs0 j (by omega)
   | some c => rw [hs] at h; exact iter_inr h
 rw [List.range_eq_range']
 exact key n 0 (by omega) (fun j hj => by omega)
/-- Rounds that count and keep something. -/
theorem iter_ex {α β : Type} {step : α → Option (α ⊕ β)} (n : Nat) (I : Nat → α → Prop) (Q : β → Prop) (hr : ∀ k x, k < n → I k x → ∃ y, step x = some (.inl y) ∧ I (k + 1) y) (he : ∀ x, I n x → ∃ b, step x = some (.inr b) ∧ Q b)
  {x : α} (h0 : I 0 x) : ∃ b, iter step x = some b ∧ Q b := by
 have key : ∀ m k x, k + m = n → I k x → ∃ b, iter step x = some b ∧ Q b := by
  intro m
  induction m with
  | zero =>
   intro k x hk hx
   have : k = n := by omega
   subst this
   obtain ⟨b, h1, h2⟩ := he x hx
   exact ⟨b, iter_inr h1, h2⟩
  | succ m ih =>
   intro k x hk hx
   obtain ⟨y, h1, h2⟩ := hr k x (by omega) hx
   obtain ⟨b, h3, h4⟩ := ih (k + 1) y (by omega) h2
   exact ⟨b, iter_inl h1 h3, h4⟩
 exact key n 0 x (by omega) h0
/-- Rounds over the items of a list: the state is what the items so far came to. -/
theorem iter_fold {α β γ σ : Type} {step : α → Option (α ⊕ β)} (l : List γ) (d : γ) (f : σ → γ → σ) (g : Nat → σ → α) (s0 : σ) (I : σ → Prop) {out : σ → β} (h0 : I s0)
  (hr : ∀ k s, k < l.length → I s → I (f s (l.getD k d)) ∧ step (g k s) = some (.inl (g (k + 1) (f s (l.getD k d))))) (he : ∀ s, I s → step (g l.length s) = some (.inr (out s))) :
  iter step (g 0 s0) = some (out (l.foldl f s0)) ∧ I (l.foldl f s0) := by
 have key : ∀ m k s, k + m = l.length → I s → iter step (g k s) = some (out ((l.drop k).foldl f s)) ∧ I ((l.drop k).foldl f s) := by
  intro m
  induction m with
  | zero =>
   intro k s hk hs
   rw [show k = l.length by omega, List.drop_length]
   exact ⟨iter_inr (he s hs), hs⟩
  | succ m ih =>
   intro k s hk hs
   obtain ⟨h1, h2⟩ := hr k s (by omega) hs
   obtain ⟨h3, h4⟩ := ih (k + 1) _ (by omega) h1
   have e : l.drop k = l.getD k d :: l.drop (k + 1) := by
    rw [List.drop_eq_getElem_cons (by omega)]; simp [List.getD_eq_getElem?_getD, List.getElem?_eq_getElem (show k < l.length by omega)]
   rw [e, List.foldl_cons]
   exact ⟨iter_inl h2 h3, h4⟩
 have := key l.length 0 s0 (by omega) h0
 simpa using this
theorem getD_take {α : Type} {l : List α} {k n : Nat} {d : α} (h : k < n) : (l.take n).getD k d = l.getD k d := by
 simp [List.getD_eq_getElem?_getD, List.getElem?_take, h]
theorem getD_mem {α : Type} {l : List α} {k : Nat} {d : α} (h : k < l.length) : l.getD k d ∈ l := by
 simp [List.getD_eq_getElem?_getD, List.getElem?_eq_getElem h]
theorem take_succ_getD {α : Type} {l : List α} {k : Nat} (d : α) (h : k < l.length) : l.take (k + 1) = l.take k ++ [l.getD k d] := by
 rw [List.take_succ_eq_append_getElem h]; simp [List.getD_eq_getElem?_getD, List.getElem?_eq_getElem h]
theorem getD_el {α : Type} {l : List α} {k : Nat} (d : α) (h : k < l.length) : l.getD k d = l[k] := by
 simp [List.getD_eq_getElem?_getD, List.getElem?_eq_getElem h]
theorem getD_out {α : Type} {l : List α} {k : Nat} (d : α) (h : l.length ≤ k) : l.getD k d = d := by
 simp [List.getD_eq_getElem?_getD, List.getElem?_eq_none h]
end Go.AM
end
section
namespace Go.AM
theorem getD_mid {α : Type} {A B : List α} {x d : α} {n : Nat} (h : n = A.length) : (A ++ x :: B).getD n d = x := by
 subst h; simp [List.getD_eq_getElem?_getD]
/-- Rounds over the items of a list: 'G' says what comes out of a state and the items that are left. -/
theorem iter_list {A B S X : Type} {f : A → Option (A ⊕ B)} (xs : List X) (mk : Nat → S → A) (G : S → List X → B) (Inv : List X → S → Prop)
  (hs : ∀ pre x post s, xs = pre ++ x :: post → Inv pre s →
   (∃ s', f (mk pre.length s) = some (.inl (mk (pre.length + 1) s')) ∧ Inv (pre ++ [x]) s' ∧ G s (x :: post) = G s' post) ∨ f (mk pre.length s) = some (.inr (G s (x :: post))))
  (he : ∀ s, Inv xs s → f (mk xs.length s) = some (.inr (G s []))) {s : S} (h0 : Inv [] s) : iter f (mk 0 s) = some (G s xs) := by
 have key : ∀ (post pre : List X) (s : S), xs = pre ++ post → Inv pre s → iter f (mk pre.length s) = some (G s post) := by
  intro post
  induction post with
  | nil =>
   intro pre s hx hi
   have : pre = xs := by rw [hx]; simp
   subst this
   exact iter_inr (he s hi)
  | cons x post ih =>
   intro pre s hx hi
   rcases hs pre x post s hx hi with ⟨s', h1, h2, h3⟩ | h1
   ·refine iter_inl h1 ?_
    rw [h3]
    have := ih (pre ++ [x]) s' (by rw [hx]; simp) h2
    simpa using this
   ·exact iter_inr h1
 exact key xs [] s (by simp) h0
theorem bind_eq {A X : Type} {o : Option A} {a : A} {f : A → Option X} {y : Option X} (h : o = some a) (e : f a = y) : bindO o f = y := by rw [h, bindO_s, e]
theorem bigL_val : ((bigL : Nat) : Int) = 1073741824 := by decide
theorem need_lenbig {X : Type} {n : Nat} {x : Option X} (h : n < 1000000000) : need (decide (n < bigL)) x = x := need_d (by have := bigL_val; omega)
theorem br_true {X : Type} {x y : Option X} : brO true x y = x := by simp
theorem br_false {X : Type} {x y : Option X} : brO false x y = y := by simp
end Go.AM
end
section
namespace Go.Cn
open Go.AM
/-- The growers of a set. -/
def els (s : Nat) : List Nat := (List.range 6).filter s.testBit
/-- The first of them. -/
def tzN (s : Nat) : Nat := ((List.range 6).find? s.testBit).getD 64
def low (s : Nat) : Nat := s &&& (s - 1)
/-- What is so of all small numbers is seen by trying them. -/
theorem all_lt {n : Nat} {p : Nat → Bool} (h : (List.range n).all p = true) {s : Nat} (hs : s < n) : p s = true := List.all_eq_true.1 h s (List.mem_range.2 hs)
theorem all_lt2 {n m : Nat} {p : Nat → Nat → Bool} (h : (List.range n).all (fun s => (List.range m).all (p s)) = true) {s i : Nat} (hs : s < n) (hi : i < m) : p s i = true := all_lt (all_lt h hs) hi
theorem els_zero : els 0 = [] := by decide
theorem els_cons {s : Nat} (hs : s < 64) (h : s ≠ 0) : els s = tzN s :: els (low s) := by
  have := all_lt (n := 64) (p := fun s => s == 0 || decide (els s = tzN s :: els (low s))) (by decide +kernel) hs
  simpa [h] using this
theorem low_lt {s : Nat} (hs : s < 64) (h : s ≠ 0) : low s < s := by
  have := all_lt (n := 64) (p := fun s => s == 0 || decide (low s < s)) (by decide +kernel) hs
  simpa [h] using this
/-- Below 2^n there are only the first n. -/
theorem els_upto {s n : Nat} (hn : n ≤ 6) (hs : s < 2 ^ n) : els s = (List.range n).filter s.testBit := by
  have := all_lt2 (n := 7) (m := 64) (p := fun n s => !(decide (s < 2 ^ n)) || decide (els s = (List.range n).filter s.testBit)) (by decide +kernel) (s := n) (i := s) (by omega) (by
    have : 2 ^ n ≤ 2 ^ 6 := Nat.pow_le_pow_right (by omega) hn
    omega)
  simpa [hs] using this
theorem tz_lt {s n : Nat} (hn : n ≤ 6) (hs : s < 2 ^ n) (h : s ≠ 0) : tzN s < n := by
  have h64 : s < 64 := by
    have : 2 ^ n ≤ 2 ^ 6 := Nat.pow_le_pow_right (by omega) hn
    omega
  have e := els_upto hn hs
  rw [els_cons h64 h] at e
  have : tzN s ∈ (List.range n).filter s.testBit := by rw [← e]; exact List.mem_cons_self ..
  exact List.mem_range.1 (List.mem_filter.1 this).1
theorem pow6 {n : Nat} (hn : n ≤ 6) : 2 ^ n ≤ 64 := Nat.pow_le_pow_right (by omega) hn
/-- Rounds over the growers of a set. -/
theorem iter_els {A B S : Type} {f : A → Option (A ⊕ B)} (mk : Nat → S → A) (G : S → List Nat → B) (Inv : Nat → S → Prop)
    (hs : ∀ s st, s < 64 → s ≠ 0 → Inv s st → (∃ st', f (mk s st) = some (.inl (mk (low s) st')) ∧ Inv (low s) st' ∧ G st (tzN s :: els (low s)) = G st' (els (low s))) ∨ f (mk s st) = some (.inr (G st (tzN s :: els (low s)))))
    (he : ∀ st, Inv 0 st → f (mk 0 st) = some (.inr (G st []))) : ∀ {s : Nat} {st : S}, s < 64 → Inv s st → iter f (mk s st) = some (G st (els s)) := by
  intro s
  induction s using Nat.strongRecOn with
  | ind s ih =>
    intro st h64 hi
    by_cases h0 : s = 0
    · subst h0; rw [els_zero]; exact iter_inr (he st hi)
    · rw [els_cons h64 h0]
      rcases hs s st h64 h0 hi with ⟨st', h1, h2, h3⟩ | h1
      · rw [h3]
        exact iter_inl h1 (ih _ (low_lt h64 h0) (by have := low_lt h64 h0; omega) h2)
      · exact iter_inr h1
/-- Rounds that count up, and carry something. -/
theorem iter_upto {A B S : Type} {f : A → Option (A ⊕ B)} (N : Nat) (mk : Nat → S → A) (G : S → Nat → B) (Inv : Nat → S → Prop)
    (hs : ∀ k st, k < N → Inv k st → (∃ st', f (mk k st) = some (.inl (mk (k + 1) st')) ∧ Inv (k + 1) st' ∧ G st k = G st' (k + 1)) ∨ f (mk k st) = some (.inr (G st k)))
    (he : ∀ st, Inv N st → f (mk N st) = some (.inr (G st N))) {s : S} (h0 : Inv 0 s) : iter f (mk 0 s) = some (G s 0) := by
  have key : ∀ m k s, k + m = N → Inv k s → iter f (mk k s) = some (G s k) := by
    intro m
    induction m with
    | zero => intro k s hk hi; have e : k = N := by omega
              subst e; exact iter_inr (he s hi)
    | succ m ih =>
      intro k s hk hi
      rcases hs k s (by omega) hi with ⟨s', h1, h2, h3⟩ | h1
      · rw [h3]; exact iter_inl h1 (ih (k + 1) s' (by omega) h2)
      · exact iter_inr h1
  exact key N 0 s (by omega) h0
/-! Operations on 64 els, on small numbers. -/
theorem u_has {s i : Nat} (hs : s < 64) (hi : i < 6) : (ar0.bits IBin.and .u64 (ar0.shr (s : Int) (i : Int)) (1 : Int) == (1 : Int)) = s.testBit i := by
  have := all_lt2 (n := 64) (m := 6) (p := fun s i => (ar0.bits IBin.and .u64 (ar0.shr (s : Int) (i : Int)) (1 : Int) == (1 : Int)) == s.testBit i) (by kernel_rfl) hs hi
  simpa using this
theorem u_with {s i : Nat} (hs : s < 64) (hi : i < 6) : ar0.bits IBin.or .u64 (s : Int) (ar0.shl (1 : Int) (i : Int)) = ((s ||| 2 ^ i : Nat) : Int) := by
  have := all_lt2 (n := 64) (m := 6) (p := fun s i => ar0.bits IBin.or .u64 (s : Int) (ar0.shl (1 : Int) (i : Int)) == ((s ||| 2 ^ i : Nat) : Int)) (by kernel_rfl) hs hi
  simpa using this
/-- A set without one. -/
def wo (s i : Nat) : Nat := if s.testBit i then s - 2 ^ i else s
theorem u_wo {s i : Nat} (hs : s < 64) (hi : i < 6) : ar0.bits IBin.andNot .u64 (s : Int) (ar0.shl (1 : Int) (i : Int)) = ((wo s i : Nat) : Int) := by
  have := all_lt2 (n := 64) (m := 6) (p := fun s i => ar0.bits IBin.andNot .u64 (s : Int) (ar0.shl (1 : Int) (i : Int)) == ((wo s i : Nat) : Int)) (by kernel_rfl) hs hi
  simpa using this
theorem u_low {s : Nat} (hs : s < 64) (h : s ≠ 0) : ar0.bits IBin.and .u64 (s : Int) ((s : Int) - 1) = ((low s : Nat) : Int) := by
  have := all_lt (n := 64) (p := fun s => s == 0 || ar0.bits IBin.and .u64 (s : Int) ((s : Int) - 1) == ((low s : Nat) : Int)) (by kernel_rfl) hs
  simpa [h] using this
theorem i_has {s i : Nat} (hs : s < 64) (hi : i < 6) : (ar0.bits IBin.and .i64 (ar0.shr (s : Int) (i : Int)) (1 : Int) == (1 : Int)) = s.testBit i := by
  have := all_lt2 (n := 64) (m := 6) (p := fun s i => (ar0.bits IBin.and .i64 (ar0.shr (s : Int) (i : Int)) (1 : Int) == (1 : Int)) == s.testBit i) (by kernel_rfl) hs hi
  simpa using this
theorem i_with {s i : Nat} (hs : s < 64) (hi : i < 6) : ar0.bits IBin.or .i64 (s : Int) (ar0.shl (1 : Int) (i : Int)) = ((s ||| 2 ^ i : Nat) : Int) := by
  have := all_lt2 (n := 64) (m := 6) (p := fun s i => ar0.bits IBin.or .i64 (s : Int) (ar0.shl (1 : Int) (i : Int)) == ((s ||| 2 ^ i : Nat) : Int)) (by kernel_rfl) hs hi
  simpa using this
theorem shl_one {i : Nat} (hi : i < 12) : ar0.shl (1 : Int) (i : Int) = ((2 ^ i : Nat) : Int) := by
  have := all_lt (n := 12) (p := fun i => ar0.shl (1 : Int) (i : Int) == ((2 ^ i : Nat) : Int)) (by kernel_rfl) hi
  simpa using this
theorem wo_lt {s i n : Nat} (hs : s < n) : wo s i < n := by
  have := Nat.sub_le s (2 ^ i)
  unfold wo; split <;> omega
theorem or_lt {s i n : Nat} (hn : n ≤ 6) (hs : s < 2 ^ n) (hi : i < n) : s ||| 2 ^ i < 2 ^ n := Nat.or_lt_two_pow hs (Nat.pow_lt_pow_right (by omega) hi)
end Go.Cn
end
section
namespace Go.Proofs.Tryd
open Go.AM Go.Cn
set_option maxRecDepth 100000
abbrev Ch := Int × List Int
def gro (c : List Ch) : Nat := (c.getD 0 ((0 : Int), [])).2.length
def badW (z : Int) : Bool := !decide (0 ≤ z ∧ z ≤ 1000000)
def okCh (n : Nat) (x : Ch) : Int := if x.2.length ≠ n then 3 else if ¬ (1 ≤ x.1 ∧ x.1 ≤ 10000000) then 2 else if x.2.any badW = true then 2 else 0
def chkL (n : Nat) : List Ch → Int
 | [] => 0
 | x :: r => if okCh n x ≠ 0 then okCh n x else chkL n r
def chk (c : List Ch) : Int := if c.length = 0 then 4 else if 3 < c.length then 1 else if gro c = 0 then 4 else if 9 < gro c then 1 else chkL (gro c) c
def largeOne (x : Ch) : Bool := (decide (6 < x.2.length) && decide (x.2.length ≤ 9)) || decide (40 < x.2.length)
def largeC (c : List Ch) : Bool := decide (20 < c.length) || c.any largeOne
theorem k67 (a b c : Int) : run0 (F67 a b c) = some (decide (a ≤ b ∧ b ≤ c), ()) := by
 simp only [F67, run_br, run_ret, br_d]
 by_cases h : a ≤ b
 ·rw [if_pos h]; simp [h]
 ·rw [if_neg h]; simp [h]
theorem k69 (a b c : Int) : run0 (F69 a b c) = some (decide (b ≤ a ∧ a ≤ c), ()) := by
 simp only [F69, run_br, run_ret, br_d]
 by_cases h : b ≤ a
 ·rw [if_pos h]; simp [h]
 ·rw [if_neg h]; simp [h]
theorem k91 {c : List Ch} (h : 0 < c.length) : run0 (F91 c) = some (((gro c : Nat) : Int), ()) := by
 simp only [F91, run_nb, run_ret]
 rw [need_inb (by omega) (by omega)]; rfl
theorem k60 {c : List Ch} (h : 0 < c.length) : run0 (F60 c) = some (((gro c : Nat) : Int), ()) := by
 simp only [F60, run_nb, run_ret]
 rw [need_inb (by omega) (by omega)]; rfl
theorem k92 (z : Int) : run0 (F92 z) = some (badW z, ()) := by
 simp only [F92, run_bd, k67, bindO_s, run_ret, badW]
theorem k15 {c : List Ch} (hc : c.length < 9223372036854775808) : run0 (F15 c) = some (largeC c, ()) := by
 simp only [F15, run_bd, run_it]
 refine bind_eq (iter_list c (fun k (s : Bool) => (s, (k : Int), c, ())) (fun s r => (s || r.any largeOne, ())) (fun _ _ => True) ?_ ?_ (s := decide ((20 : Int) < ((c.length : Nat) : Int))) trivial) ?_
 ·rintro pre x post s hx -
  left
  have hlen : c.length = pre.length + (post.length + 1) := by rw [hx]; simp
  have hd : c.getD pre.length ((0 : Int), []) = x := by rw [hx]; exact getD_mid rfl
  refine ⟨s || largeOne x, ?_, trivial, by simp [Bool.or_assoc]⟩
  have hin : inb (pre.length : Int) ((c.length : Nat) : Int) = true := inb_t (by omega) (by omega)
  have hni : rng .i64 ((pre.length : Int) + 1) = true := rng_i64 (by omega) (by omega)
  simp only [g15_0, run_br, run_nb, run_ni, run_ret, Int.toNat_natCast, hd, br_d, hin, hni, need_true]
  rw [if_pos (by omega)]
  cases s
  ·simp only [brO_false, largeOne, Bool.false_or]
   by_cases h1 : 6 < x.2.length
   ·rw [if_pos (by omega)]
    by_cases h2 : x.2.length ≤ 9
    ·rw [if_pos (by omega)]; simp [h1, h2]
    ·rw [if_neg (by omega)]; simp [h1, h2]
     omega
   ·rw [if_neg (by omega)]; simp [h1]
    omega
  ·simp
 ·intro s _
  simp only [g15_0, run_br, run_ret, br_d]
  rw [if_neg (by omega)]; simp
 ·simp only [run_ret, largeC]
  congr 3
  have e : decide ((20 : Int) < ((c.length : Nat) : Int)) = decide (20 < c.length) := by
   apply decide_eq_decide.2; omega
  rw [e]
theorem k105 {l : List Int} (hl : l.length < 1000) : ∃ k : Int, run0 (F105 l) = some (k, ()) ∧ (0 ≤ k ↔ l.any badW = true) := by
 simp only [F105, run_bd, run_it]
 have := iter_list l (f := fun a => run (fun _ => none) (g105_0 a)) (fun k (s : Nat) => (l, ((l.length : Nat) : Int), (k : Int), ())) (fun s r => match r.findIdx? badW with | some k => .inl (((s + k : Nat) : Int), ()) | none => .inr ()) (fun pre s => s = pre.length) ?_ ?_ (s := 0) rfl
 ·replace this : iter (fun a => run (fun _ => none) (g105_0 a)) (l, ((l.length : Nat) : Int), (0 : Int), ()) = _ := this
  rw [bind_of this]
  cases hf : l.findIdx? badW with
  | none =>
   simp only [run_sr, run_ret]
   exact ⟨-1, rfl, by simp only [show ¬ ((0 : Int) ≤ -1) by omega, false_iff]; simpa using List.findIdx?_eq_none_iff.1 hf⟩
  | some k =>
   simp only [run_sl, run_ret]
   refine ⟨_, rfl, by
    simp only [show (0 : Int) ≤ ((0 + k : Nat) : Int) by omega, true_iff]
    obtain ⟨hk, h1, _⟩ := List.findIdx?_eq_some_iff_getElem.1 hf
    exact List.any_eq_true.2 ⟨_, List.getElem_mem hk, h1⟩⟩
 ·rintro pre x post s hx rfl
  have hlen : l.length = pre.length + (post.length + 1) := by rw [hx]; simp
  have hd : l.getD pre.length (0 : Int) = x := by rw [hx]; exact getD_mid rfl
  have hin : inb (pre.length : Int) ((l.length : Nat) : Int) = true := inb_t (by omega) (by omega)
  have hni : rng .i64 ((pre.length : Int) + 1) = true := rng_i64 (by omega) (by omega)
  simp only [g105_0, run_br, run_bd, run_nb, run_ni, run_ret, Int.toNat_natCast, hd, br_d, hin, hni, need_true, k92, bindO_s]
  rw [if_pos (by omega)]
  cases hb : badW x
  ·left
   refine ⟨pre.length + 1, by simp, by simp, ?_⟩
   rw [List.findIdx?_cons, hb]
   cases post.findIdx? badW with
   | none => rfl
   | some k => simp; omega
  ·right
   rw [List.findIdx?_cons, hb]; simp
 ·rintro s rfl
  simp only [g105_0, run_br, run_ret, br_d]
  rw [if_neg (by omega)]; rfl
theorem k93 {l : List Int} (hl : l.length < 1000) : run0 (F93 l) = some (l.any badW, ()) := by
 obtain ⟨k, h1, h2⟩ := k105 hl
 simp only [F93, run_bd, run_ret]
 rw [bind_of h1]
 congr 2
 cases h : l.any badW
 ·rw [h] at h2; simp only [decide_eq_false_iff_not]; intro e; exact absurd (h2.1 e) (by simp)
 ·rw [h] at h2; simp only [decide_eq_true_eq]; exact h2.2 rfl
theorem k41 (c : List Ch) : run0 (F41 c) = some (chk c, ()) := by
 simp only [F41, run_br, run_ret, br_eq, br_d, chk]
 by_cases h0 : c.length = 0
 ·rw [if_pos (by omega), if_pos h0]
 rw [if_neg (by omega), if_neg h0]
 by_cases h1 : 3 < c.length
 ·rw [if_pos (by omega), if_pos h1]
 rw [if_neg (by omega), if_neg h1]
 simp only [run_bd, k91 (show 0 < c.length by omega), bindO_s, run_br, br_eq, br_d, run_ret]
 by_cases h2 : gro c = 0
 ·rw [if_pos (by omega), if_pos h2]
 rw [if_neg (by omega), if_neg h2]
 by_cases h3 : 9 < gro c
 ·rw [if_pos (by omega), if_pos h3]
 rw [if_neg (by omega), if_neg h3]
 simp only [run_it]
 refine bind_eq (iter_list c (fun k (s : Unit) => (c, ((c.length : Nat) : Int), (k : Int), c, ())) (fun _ r => if chkL (gro c) r = 0 then Sum.inr () else Sum.inl (chkL (gro c) r, ())) (fun _ _ => True) ?_ ?_ (s := ()) trivial) ?_
 ·rintro pre x post s hx -
  have hlen : c.length = pre.length + (post.length + 1) := by rw [hx]; simp
  have hd : c.getD pre.length ((0 : Int), []) = x := by rw [hx]; exact getD_mid rfl
  have hin : inb (pre.length : Int) ((c.length : Nat) : Int) = true := inb_t (by omega) (by omega)
  have hni : rng .i64 ((pre.length : Int) + 1) = true := rng_i64 (by omega) (by omega)
  simp only [g41_0, run_br, run_bd, run_nb, run_ni, run_ret, Int.toNat_natCast, hd, br_d, br_eq, br_not, hin, hni, need_true, k91 (show 0 < c.length by omega), k67, bindO_s]
  rw [if_pos (by omega)]
  by_cases h4 : x.2.length = gro c
  case neg =>
   right
   rw [if_neg (by omega)]
   simp [chkL, okCh, h4]
  rw [if_pos (by omega)]
  by_cases h5 : 1 ≤ x.1 ∧ x.1 ≤ 10000000
  case neg =>
   right
   rw [if_neg h5]
   simp only [chkL, okCh, if_neg (not_not_intro h4), if_pos h5]; simp
  rw [if_pos h5, bind_of (k93 (show x.2.length < 1000 by omega))]
  cases h6 : x.2.any badW
  ·left
   refine ⟨(), by simp, trivial, ?_⟩
   simp [chkL, okCh, h4, h5, h6]
  ·right
   simp [chkL, okCh, h4, h5, h6]
 ·intro s _
  simp only [g41_0, run_br, run_ret, br_d]
  rw [if_neg (by omega)]; simp [chkL]
 ·cases h : decide (chkL (gro c) c = 0)
  ·have h' := of_decide_eq_false h
   simp only [if_neg h', run_sl, run_ret]
  ·have h' := of_decide_eq_true h
   simp only [if_pos h', run_sr, run_ret]; rw [h']
theorem k50_1 {l : List Int} (hl : l.length < 1000) (c : List Ch) (q v : Int) : iter (fun a => run (fun _ => none) (g50_1 a)) (v, (0 : Int), c, q, l, ()) = some (if l.any badW = true then .inl (2, ()) else .inr (v, c, ())) := by
 refine iter_list l (fun k (s : Unit) => (v, (k : Int), c, q, l, ())) (fun _ r => if r.any badW = true then Sum.inl (2, ()) else Sum.inr (v, c, ())) (fun _ _ => True) ?_ ?_ (s := ()) trivial
 ·rintro pre x post s hx -
  have hlen : l.length = pre.length + (post.length + 1) := by rw [hx]; simp
  have hd : l.getD pre.length (0 : Int) = x := by rw [hx]; exact getD_mid rfl
  have hin : inb (pre.length : Int) ((l.length : Nat) : Int) = true := inb_t (by omega) (by omega)
  have hni : rng .i64 ((pre.length : Int) + 1) = true := rng_i64 (by omega) (by omega)
  simp only [g50_1, run_br, run_bd, run_nb, run_ni, run_ret, Int.toNat_natCast, hd, br_d, br_not, hin, hni, need_true, k69, bindO_s]
  rw [if_pos (by omega)]
  by_cases h : 0 ≤ x ∧ x ≤ 1000000
  ·left
   refine ⟨(), by rw [if_pos h]; rfl, trivial, by simp [badW, h]⟩
  ·right
   rw [if_neg h]
   have : badW x = true := by unfold badW; rw [decide_eq_false h]; rfl
   simp [this]
 ·intro s _
  simp only [g50_1, run_br, run_ret, br_d]
  rw [if_neg (by omega)]; simp
theorem k50 (c : List Ch) : run0 (F50 c) = some (chk c, ()) := by
 simp only [F50, run_br, run_ret, br_eq, br_d, chk]
 by_cases h0 : c.length = 0
 ·rw [if_pos (by omega), if_pos h0]
 rw [if_neg (by omega), if_neg h0]
 by_cases h1 : 3 < c.length
 ·rw [if_pos (by omega), if_pos h1]
 rw [if_neg (by omega), if_neg h1]
 simp only [run_bd, k60 (show 0 < c.length by omega), bindO_s, run_br, br_eq, br_d, run_ret]
 by_cases h2 : gro c = 0
 ·rw [if_pos (by omega), if_pos h2]
 rw [if_neg (by omega), if_neg h2]
 by_cases h3 : 9 < gro c
 ·rw [if_pos (by omega), if_pos h3]
 rw [if_neg (by omega), if_neg h3]
 simp only [run_it]
 refine bind_eq (iter_list c (fun k (s : Unit) => ((k : Int), c, ())) (fun _ r => if chkL (gro c) r = 0 then Sum.inr () else Sum.inl (chkL (gro c) r, ())) (fun _ _ => True) ?_ ?_ (s := ()) trivial) ?_
 ·rintro pre x post s hx -
  have hlen : c.length = pre.length + (post.length + 1) := by rw [hx]; simp
  have hd : c.getD pre.length ((0 : Int), []) = x := by rw [hx]; exact getD_mid rfl
  have hin : inb (pre.length : Int) ((c.length : Nat) : Int) = true := inb_t (by omega) (by omega)
  have hni : rng .i64 ((pre.length : Int) + 1) = true := rng_i64 (by omega) (by omega)
  simp only [g50_0, run_br, run_bd, run_it, run_nb, run_ret, Int.toNat_natCast, hd, br_d, br_eq, br_not, hin, need_true, k60 (show 0 < c.length by omega), k69, bindO_s]
  rw [if_pos (by omega)]
  by_cases h4 : x.2.length = gro c
  case neg =>
   right
   rw [if_neg (by omega)]
   simp [chkL, okCh, h4]
  rw [if_pos (by omega)]
  by_cases h5 : 1 ≤ x.1 ∧ x.1 ≤ 10000000
  case neg =>
   right
   rw [if_neg h5]
   simp only [chkL, okCh, if_neg (not_not_intro h4), if_pos h5]; simp
  rw [if_pos h5, bind_of (k50_1 (show x.2.length < 1000 by omega) c x.1 _)]
  cases h6 : x.2.any badW
  ·left
   refine ⟨(), ?_, trivial, ?_⟩
   ·simp only [Bool.false_eq_true, if_false, run_sr, run_ni, run_ret, hni, need_true]; simp
   ·simp [chkL, okCh, h4, h5, h6]
  ·right
   simp [chkL, okCh, h4, h5, h6, run_sl, run_ret]
 ·intro s _
  simp only [g50_0, run_br, run_ret, br_d]
  rw [if_neg (by omega)]; simp [chkL]
 ·cases h : decide (chkL (gro c) c = 0)
  ·have h' := of_decide_eq_false h
   simp only [if_neg h', run_sl, run_ret]
  ·have h' := of_decide_eq_true h
   simp only [if_pos h', run_sr, run_ret]; rw [h']
end Go.Proofs.Tryd
end
section
namespace Go.Proofs.Tryd
open Go.AM Go.Cn
set_option maxRecDepth 100000
/-- The weight of a set. -/
def wt (ws : List Int) (s : Nat) : Int := ((els s).map fun i => ws.getD i 0).sum
/-- A set wins in a chamber; in all. -/
def win1 (s : Nat) (x : Ch) : Bool := decide (x.1 ≤ wt x.2 s)
def winB (c : List Ch) (s : Nat) : Bool := c.all (win1 s)
/-- A chamber of n growers. -/
structure OkX (n : Nat) (x : Ch) : Prop where
 len : x.2.length = n
 q1 : 1 ≤ x.1
 q2 : x.1 ≤ 10000000
 w : ∀ z ∈ x.2, 0 ≤ z ∧ z ≤ 1000000
/-- A council of n growers, not too large. -/
structure OkC (n : Nat) (c : List Ch) : Prop where
 c1 : 1 ≤ c.length
 c3 : c.length ≤ 3
 n1 : 1 ≤ n
 n6 : n ≤ 6
 gro : gro c = n
 ch : ∀ x ∈ c, OkX n x
theorem OkX.get {n : Nat} {x : Ch} (h : OkX n x) (i : Nat) : 0 ≤ x.2.getD i 0 ∧ x.2.getD i 0 ≤ 1000000 := by
 by_cases hi : i < x.2.length
 ·rw [show x.2.getD i 0 = x.2[i] by simp [List.getD, hi]]; exact h.w _ (List.getElem_mem hi)
 ·rw [show x.2.getD i 0 = 0 by simp [List.getD, hi]]; omega
theorem k101 {s : Nat} (hs : s < 64) (h : s ≠ 0) : run0 (F101 (s : Int)) = some (((tzN s : Nat) : Int), ()) := by
 have := all_lt (n := 64) (p := fun s => s == 0 || decide (cmp 40 (fun _ => none) (F101 ((s : Nat) : Int)) = some (((tzN s : Nat) : Int), ()))) (by kernel_rfl) hs
 simp only [Bool.or_eq_true, beq_iff_eq, h, false_or, decide_eq_true_eq] at this
 exact cmp_done 40 this
theorem els_len {s : Nat} : (els s).length ≤ 6 := by
 have := List.length_filter_le s.testBit (List.range 6)
 simpa [els] using this
theorem k78 {n s : Nat} {x : Ch} (hx : OkX n x) (hn : n ≤ 6) (hs : s < 2 ^ n) : run0 (F78 x (s : Int)) = some (wt x.2 s, ()) := by
 have h64 : s < 64 := Nat.lt_of_lt_of_le hs (pow6 hn)
 simp only [F78, FH77, g78_0, run_bd, run_it, run_ret, bindO_s]
 refine bind_eq (a := (wt x.2 s, ())) (bind_eq (iter_els (fun s' (st : Int) => ((0 : Int), (s' : Int), x.1, x.2, st, ())) (fun st r => (x.1, x.2, st + (r.map fun i => x.2.getD i 0).sum, (0 : Int), (0 : Int), ()))
  (fun s' st => s' < 2 ^ n ∧ 0 ≤ st ∧ st + 1000000 * ((els s').length : Int) ≤ 6000000) ?_ ?_ (s := s) (st := 0) h64 ⟨hs, by omega, by have := els_len (s := s); omega⟩) ?_) rfl
 ·rintro s' st h64 h0 ⟨hs', b1, b2⟩
  left
  have ht := tz_lt hn hs' h0
  have hl := low_lt h64 h0
  have hw := hx.get (tzN s')
  have e := congrArg List.length (els_cons h64 h0)
  rw [List.length_cons] at e
  refine ⟨st + x.2.getD (tzN s') 0, ?_, ⟨by omega, by omega, by omega⟩, ?_⟩
  ·have hin : inb ((tzN s' : Nat) : Int) ((x.2.length : Nat) : Int) = true := inb_t (by omega) (by have := hx.len; omega)
   have hni : rng .i64 (st + x.2.getD (tzN s') 0) = true := rng_i64 (by omega) (by omega)
   have hnu : rng .u64 ((s' : Int) - 1) = true := rng_u64 (by omega) (by omega)
   simp only [g78_0i_0, run_br, run_bd, run_nb, run_ni, run_nd, run_ret, br_not, br_eq, k101 h64 h0, bindO_s, Int.toNat_natCast, hin, hni, hnu, need_true, u_low h64 h0]
   rw [if_neg (by omega)]
  ·simp only [List.map_cons, List.sum_cons, Int.add_assoc]
 ·rintro st -
  simp only [g78_0i_0, run_br, run_ret, br_not, br_eq]
  simp
 ·simp only [wt, Int.zero_add]
theorem k84 {n s : Nat} {x : Ch} (hx : OkX n x) (hn : n ≤ 6) (hs : s < 2 ^ n) : run0 (F84 x (s : Int)) = some (win1 s x, ()) := by
 simp only [F84, run_bd, run_ret]
 rw [bind_of (k78 hx hn hs)]; rfl
theorem k104 {n s : Nat} {x : Ch} (hx : OkX n x) (hn : n ≤ 6) (hs : s < 2 ^ n) : run0 (F104 x.1 x.2 (s : Int)) = some (!win1 s x, ()) := by
 simp only [F104, run_bd, run_ret]
 rw [bind_of (k84 (x := x) hx hn hs)]
theorem k113 {n s : Nat} {c : List Ch} (hc : ∀ x ∈ c, OkX n x) (hl : c.length < 1000) (hn : n ≤ 6) (hs : s < 2 ^ n) : ∃ k : Int, run0 (F113 c (s : Int)) = some (k, ()) ∧ (0 ≤ k ↔ winB c s = false) := by
 simp only [F113, run_bd, run_it]
 have := iter_list c (f := fun a => run (fun _ => none) (g113_0 a)) (fun k (_ : Unit) => (c, (s : Int), ((c.length : Nat) : Int), (k : Int), ())) (fun _ r => match r.findIdx? (fun x => !win1 s x) with | some k => .inl (((c.length - r.length + k : Nat) : Int), ()) | none => .inr ()) (fun _ _ => True) ?_ ?_ (s := ()) trivial
 ·replace this : iter (fun a => run (fun _ => none) (g113_0 a)) (c, (s : Int), ((c.length : Nat) : Int), (0 : Int), ()) = _ := this
  rw [bind_of this]
  cases hf : c.findIdx? (fun x => !win1 s x) with
  | none =>
   simp only [run_sr, run_ret]
   refine ⟨-1, rfl, ?_⟩
   have h := List.findIdx?_eq_none_iff.1 hf
   have : winB c s = true := List.all_eq_true.2 fun x hx => by simpa using h x hx
   simp [this]
  | some k =>
   simp only [run_sl, run_ret]
   obtain ⟨hk, h1, _⟩ := List.findIdx?_eq_some_iff_getElem.1 hf
   refine ⟨_, rfl, ?_⟩
   have : winB c s = false := by
    rw [Bool.eq_false_iff]
    intro h
    have := List.all_eq_true.1 h _ (List.getElem_mem hk)
    rw [this] at h1; cases h1
   rw [this]
   simp only [iff_true]
   omega
 ·rintro pre x post _ hxx -
  have hlen : c.length = pre.length + (post.length + 1) := by rw [hxx]; simp
  have hd : c.getD pre.length ((0 : Int), []) = x := by rw [hxx]; exact getD_mid rfl
  have hx : OkX n x := hc x (by rw [hxx]; simp)
  have hin : inb (pre.length : Int) ((c.length : Nat) : Int) = true := inb_t (by omega) (by omega)
  have hni : rng .i64 ((pre.length : Int) + 1) = true := rng_i64 (by omega) (by omega)
  simp only [g113_0, run_br, run_bd, run_nb, run_ni, run_ret, Int.toNat_natCast, hd, br_d, hin, hni, need_true, k104 hx hn hs, bindO_s]
  rw [if_pos (by omega)]
  cases hb : win1 s x
  ·right
   rw [List.findIdx?_cons]
   have e : c.length - (x :: post).length = pre.length := by rw [List.length_cons]; omega
   simp only [hb, Bool.not_false, if_true, brO_true, e, Nat.add_zero]
  ·left
   refine ⟨(), by simp, trivial, ?_⟩
   rw [List.findIdx?_cons]
   simp only [hb, Bool.not_true, Bool.false_eq_true, if_false]
   cases post.findIdx? (fun x => !win1 s x) with
   | none => rfl
   | some k => simp; omega
 ·rintro _ -
  simp only [g113_0, run_br, run_ret, br_d]
  rw [if_neg (by omega)]; rfl
theorem k103 {n s : Nat} {c : List Ch} (hc : OkC n c) (hs : s < 2 ^ n) : run0 (F103 c (s : Int)) = some (!winB c s, ()) := by
 obtain ⟨k, h1, h2⟩ := k113 hc.ch (by have := hc.c3; omega) hc.n6 hs
 simp only [F103, run_bd, run_ret]
 rw [bind_of h1]
 congr 2
 cases h : winB c s
 ·rw [h] at h2; simp only [Bool.not_false, decide_eq_true_eq]; exact h2.2 rfl
 ·rw [h] at h2; simp only [Bool.not_true, decide_eq_false_iff_not]; intro e; exact absurd (h2.1 e) (by simp)
theorem k83 {n s : Nat} {c : List Ch} (hc : OkC n c) (hs : s < 2 ^ n) : run0 (F83 c (s : Int)) = some (winB c s, ()) := by
 simp only [F83, run_bd, run_ret]
 rw [bind_of (k103 hc hs), Bool.not_not]
end Go.Proofs.Tryd
end
section
namespace Go.Proofs.Tryd
open Go.AM Go.Cn
set_option maxRecDepth 100000
theorem wt_range {n s : Nat} {ws : List Int} (hn : n ≤ 6) (hs : s < 2 ^ n) : wt ws s = (((List.range n).filter s.testBit).map fun i => ws.getD i 0).sum := by
 rw [wt, els_upto hn hs]
theorem k79 {n s : Nat} {x : Ch} (hx : OkX n x) (hn : n ≤ 6) (hs : s < 2 ^ n) : run0 (F79 x (s : Int)) = some (wt x.2 s, ()) := by
 have h64 : s < 64 := Nat.lt_of_lt_of_le hs (pow6 hn)
 simp only [F79, run_bd, run_it, run_ret]
 refine bind_eq (iter_upto n (fun k (st : Int) => ((s : Int), st, (k : Int), x.1, x.2, ())) (fun st k => (st + (((List.range' k (n - k)).filter s.testBit).map fun i => x.2.getD i 0).sum, ()))
  (fun k st => 0 ≤ st ∧ st ≤ 1000000 * (k : Int)) ?_ ?_ (s := 0) ⟨by omega, by omega⟩) ?_
 ·rintro k st hk ⟨b1, b2⟩
  left
  have hw := hx.get k
  have hl := hx.len
  have hin : inb (k : Int) ((x.2.length : Nat) : Int) = true := inb_t (by omega) (by omega)
  have hi6 : inb (k : Int) 64 = true := inb_t (by omega) (by omega)
  have hni : rng .i64 ((k : Int) + 1) = true := rng_i64 (by omega) (by omega)
  have hni2 : rng .i64 (st + x.2.getD k 0) = true := rng_i64 (by omega) (by omega)
  have e : n - k = (n - (k + 1)) + 1 := by omega
  simp only [g79_0, run_br, run_nb, run_ni, run_ret, Int.toNat_natCast, br_d, hin, hi6, hni, hni2, need_true, i_has h64 (show k < 6 by omega)]
  rw [if_pos (by omega), e, List.range'_succ, List.filter_cons]
  cases hb : s.testBit k
  ·exact ⟨st, by simp, ⟨by omega, by omega⟩, by simp⟩
  ·exact ⟨st + x.2.getD k 0, by simp, ⟨by omega, by omega⟩, by simp only [if_true, List.map_cons, List.sum_cons, Int.add_assoc]⟩
 ·rintro st -
  have hl := hx.len
  simp only [g79_0, run_br, run_ret, br_d]
  rw [if_neg (by omega)]; simp
 ·rw [wt_range hn hs, List.range_eq_range']; simp
/-- All chambers but one. -/
def passL (s : Nat) (but : Int) : Nat → List Ch → Bool
 | _, [] => true
 | k, x :: r => (decide ((k : Int) = but) || win1 s x) && passL s but (k + 1) r
def dropL (but : Int) : Nat → List Ch → List Ch
 | _, [] => []
 | k, x :: r => if (k : Int) = but then dropL but (k + 1) r else x :: dropL but (k + 1) r
theorem pass_drop (s : Nat) (but : Int) : ∀ (k : Nat) (c : List Ch), passL s but k c = winB (dropL but k c) s
 | _, [] => rfl
 | k, x :: r => by
  simp only [passL, dropL, pass_drop s but (k + 1) r]
  by_cases h : (k : Int) = but
  ·simp [h]
  ·simp [h, winB]
theorem drop_none : ∀ (k : Nat) (c : List Ch), dropL (-1) k c = c
 | _, [] => rfl
 | k, x :: r => by
  simp only [dropL, drop_none (k + 1) r]
  rw [if_neg (by omega)]
theorem k86 {n s : Nat} {c : List Ch} (hc : OkC n c) (hs : s < 2 ^ n) (but : Int) : run0 (F86 c (s : Int) but) = some (passL s but 0 c, ()) := by
 simp only [F86, run_bd, run_it]
 refine bind_eq (iter_list c (fun k (_ : Unit) => ((s : Int), but, (k : Int), c, ())) (fun _ r => if passL s but (c.length - r.length) r = true then .inr () else .inl ()) (fun _ _ => True) ?_ ?_ (s := ()) trivial) ?_
 ·rintro pre x post _ hxx -
  have hlen : c.length = pre.length + (post.length + 1) := by rw [hxx]; simp
  have hd : c.getD pre.length ((0 : Int), []) = x := by rw [hxx]; exact getD_mid rfl
  have hx : OkX n x := hc.ch x (by rw [hxx]; simp)
  have h3 := hc.c3
  have hin : inb (pre.length : Int) ((c.length : Nat) : Int) = true := inb_t (by omega) (by omega)
  have hni : rng .i64 ((pre.length : Int) + 1) = true := rng_i64 (by omega) (by omega)
  have e1 : c.length - (x :: post).length = pre.length := by simp; omega
  have e2 : c.length - post.length = pre.length + 1 := by omega
  simp only [g86_0, run_br, run_bd, run_nb, run_ni, run_ret, Int.toNat_natCast, hd, br_d, br_eq, br_not, hin, hni, need_true, k79 hx hc.n6 hs, bindO_s]
  rw [if_pos (by omega)]
  simp only [e1, e2, passL]
  by_cases hb : (pre.length : Int) = but
  ·left
   rw [if_pos hb]
   exact ⟨(), rfl, trivial, by simp [hb]⟩
  rw [if_neg hb]
  by_cases hw : wt x.2 s < x.1
  ·right
   rw [if_pos hw]
   have : win1 s x = false := by simp only [win1, decide_eq_false_iff_not]; omega
   simp [hb, this]
  ·left
   rw [if_neg hw]
   have : win1 s x = true := by simp only [win1, decide_eq_true_eq]; omega
   exact ⟨(), rfl, trivial, by simp [hb, this]⟩
 ·rintro _ -
  simp only [g86_0, run_br, run_ret, br_d]
  rw [if_neg (by omega)]; simp [passL]
 ·have e : c.length - c.length = 0 := by omega
  rw [e]
  cases h : passL s but 0 c <;> simp [run_sl, run_sr, run_ret]
theorem k76 {n s : Nat} {c : List Ch} (hc : OkC n c) (hs : s < 2 ^ n) : run0 (F76 c (s : Int)) = some (winB c s, ()) := by
 simp only [F76, run_bd, run_ret]
 rw [bind_of (k86 hc hs _), pass_drop, drop_none]
theorem k81 (c : List Ch) (hl : c.length < 1000) (but : Int) : run0 (F81 c but) = some (dropL but 0 c, ()) := by
 simp only [F81, run_bd, run_it]
 refine bind_eq (iter_list c (fun k (st : List Ch) => (but, st.length, c, ((c.length : Nat) : Int), (k : Int), st, ())) (fun st r => ((st ++ dropL but (c.length - r.length) r).length, st ++ dropL but (c.length - r.length) r, ())) (fun pre st => st.length ≤ pre.length) ?_ ?_ (s := []) (by simp)) ?_
 ·rintro pre x post st hxx hst
  left
  have hlen : c.length = pre.length + (post.length + 1) := by rw [hxx]; simp
  have hd : c.getD pre.length ((0 : Int), []) = x := by rw [hxx]; exact getD_mid rfl
  have hin : inb (pre.length : Int) ((c.length : Nat) : Int) = true := inb_t (by omega) (by omega)
  have hni : rng .i64 ((pre.length : Int) + 1) = true := rng_i64 (by omega) (by omega)
  have e1 : c.length - (x :: post).length = pre.length := by simp; omega
  have e2 : c.length - post.length = pre.length + 1 := by omega
  simp only [g81_0, run_br, run_bd, run_nb, run_nd, run_ni, run_ret, Int.toNat_natCast, hd, br_d, br_eq, br_not, hin, hni, need_true]
  rw [if_pos (by omega)]
  simp only [e1, e2, dropL]
  by_cases hb : (pre.length : Int) = but
  ·rw [if_pos hb]
   exact ⟨st, rfl, by simp; omega, by simp [hb]⟩
  ·rw [if_neg hb]
   refine ⟨st ++ [x], ?_, by simp; omega, by simp [hb]⟩
   rw [need_lenbig (by simp; omega)]
   simp
 ·rintro st -
  simp only [g81_0, run_br, run_ret, br_d]
  rw [if_neg (by omega)]; simp [dropL]
 ·have e : c.length - c.length = 0 := by omega
  simp only [e, run_ret]; simp
theorem k66_no {c : List Ch} (h : chk c ≠ 0) : run0 (F66 c) = some (.inl ([], 0, 0, chk c, ())) := by
 simp only [F66, run_bd, run_br, run_ret, k41, bindO_s, br_not, br_eq]
 rw [if_neg h]
theorem k66 {n : Nat} {c : List Ch} (hc : OkC n c) (h : chk c = 0) : run0 (F66 c) = some (.inr (c, c, (n : Int), ((2 ^ n - 1 : Nat) : Int), 0, ())) := by
 have h1 := hc.c1
 have h3 := hc.c3
 have hn := hc.n6
 simp only [F66, run_bd, run_br, run_ret, k41, bindO_s, br_not, br_eq]
 rw [if_pos h, bind_of (k81 c (by omega) _), drop_none]
 have hp : 0 < 2 ^ n := Nat.pow_pos (by omega)
 have hp2 := pow6 hn
 have e : (((2 ^ n : Nat) : Int) - 1) = ((2 ^ n - 1 : Nat) : Int) := by omega
 simp only [k91 (show 0 < c.length by omega), hc.gro, bindO_s, run_nb, run_nd, run_ret, shl_one (show n < 12 by omega)]
 rw [need_inb (by omega) (by omega), need_t (rng_u64 (by omega) (by omega)), need_t (rng_u64 (by omega) (by omega)), e]
theorem k17 {c : List Ch} (hl : c.length ≤ 1000) : run0 (F17 c) = some ((c, ()), ()) := by
 simp only [F17, run_bd, run_it]
 refine bind_eq (iter_list c (fun k (st : List Ch) => ((k : Int), c, st.length, st, ())) (fun st r => ((st ++ r).length, st ++ r, ())) (fun pre st => st = pre) ?_ ?_ (s := []) rfl) ?_
 ·rintro pre x post st hxx rfl
  left
  have hlen : c.length = st.length + (post.length + 1) := by rw [hxx]; simp
  have hd : c.getD st.length ((0 : Int), []) = x := by rw [hxx]; exact getD_mid rfl
  have hin : inb (st.length : Int) ((c.length : Nat) : Int) = true := inb_t (by omega) (by omega)
  have hni : rng .i64 ((st.length : Int) + 1) = true := rng_i64 (by omega) (by omega)
  refine ⟨st ++ [x], ?_, rfl, by simp⟩
  simp only [g17_0, run_br, run_bd, run_nb, run_nd, run_ni, run_ret, Int.toNat_natCast, hd, br_d, hin, hni, need_true]
  rw [if_pos (by omega), need_lenbig (by simp; omega)]
  simp
 ·rintro st rfl
  simp only [g17_0, run_br, run_ret, br_d]
  rw [if_neg (by omega)]; simp
 ·simp only [run_ret]; simp
end Go.Proofs.Tryd
end
section
namespace Go.Proofs.Tryd
open Go.AM Go.Cn
set_option maxRecDepth 100000
theorem u_rng {i : Nat} (hi : i < 6) : rng .u64 (ar0.shl (1 : Int) (i : Int)) = true := by
 have := all_lt (n := 6) (p := fun i => rng .u64 (ar0.shl (1 : Int) (i : Int))) (by kernel_rfl) hi
 exact this
theorem i_rng {i : Nat} (hi : i < 6) : rng .i64 (ar0.shl (1 : Int) (i : Int)) = true := by
 have := all_lt (n := 6) (p := fun i => rng .i64 (ar0.shl (1 : Int) (i : Int))) (by kernel_rfl) hi
 exact this
/-- A set without those of a list. -/
def woL (s : Nat) (l : List Nat) : Nat := l.foldl wo s
abbrev ints (l : List Nat) : List Int := l.map fun i : Nat => (i : Int)
theorem k90 {s : Nat} {l : List Nat} (hs : s < 64) (hl : ∀ i ∈ l, i < 6) (hn : l.length < 1000) : run0 (F90 (s : Int) (ints l)) = some (((woL s l : Nat) : Int), ()) := by
 simp only [F90, run_bd, run_it]
 refine bind_eq (iter_list l (fun k (st : Nat) => ((st : Int), ints l, (((ints l).length : Nat) : Int), (k : Int), ())) (fun st r => (((woL st r : Nat) : Int), ())) (fun _ st => st < 64) ?_ ?_ (s := s) hs) ?_
 ·rintro pre x post st hx hst
  left
  have hlen : l.length = pre.length + (post.length + 1) := by rw [hx]; simp
  have hd : (ints l).getD pre.length (0 : Int) = (x : Int) := by
   rw [hx]; simp only [ints, List.map_append, List.map_cons]
   exact getD_mid (by simp)
  have hx6 : x < 6 := hl x (by rw [hx]; simp)
  have hin : inb (pre.length : Int) (((ints l).length : Nat) : Int) = true := inb_t (by omega) (by simp; omega)
  have hni : rng .i64 ((pre.length : Int) + 1) = true := rng_i64 (by omega) (by omega)
  have hi6 : inb (x : Int) 64 = true := inb_t (by omega) (by omega)
  refine ⟨wo st x, ?_, wo_lt hst, rfl⟩
  simp only [g90_0, run_br, run_nb, run_ni, run_nd, run_ret, Int.toNat_natCast, hd, br_d, hin, hni, hi6, need_true, u_rng hx6, u_wo hst hx6]
  rw [if_pos (by simp; omega)]; rfl
 ·rintro st -
  simp only [g90_0, run_br, run_ret, br_d]
  rw [if_neg (by simp)]; rfl
 ·rfl
theorem k74 {s i n : Nat} (hn : n ≤ 6) (hs : s < 2 ^ n) (hi : i < n) : run0 (F74 (s : Int) (i : Int)) = some (((s ||| 2 ^ i : Nat) : Int), ()) := by
 have h64 : s < 64 := Nat.lt_of_lt_of_le hs (pow6 hn)
 simp only [F74, run_nb, run_nd, run_ret, u_rng (show i < 6 by omega), need_true, u_with h64 (show i < 6 by omega)]
 rw [need_inb (by omega) (by omega)]
theorem inc_u {k n : Nat} (hn : n ≤ 6) (hk : k < 2 ^ n) : rng .u64 ((k : Int) + 1) = true := by
 have := pow6 hn
 exact rng_u64 (by omega) (by omega)
end Go.Proofs.Tryd
end
section
namespace Go.Proofs.Tryd
open Go.AM Go.Cn
set_option maxRecDepth 100000
/-! Turns: how many orders. -/
theorem k64 {s : Nat} (hs : s < 64) : run0 (F64 (s : Int)) = some (ints (els s), ()) := by
 have := all_lt (n := 64) (p := fun s => decide (cmp 40 (fun _ => none) (F64 ((s : Nat) : Int)) = some (ints (els s), ()))) (by kernel_rfl) hs
 exact cmp_done 40 (of_decide_eq_true this)
end Go.Proofs.Tryd
end
section
namespace Go.Proofs.Tryd
open Go.AM Go.Cn
set_option maxRecDepth 100000
theorem ok_of {c : List Ch} (hl : largeC c = false) (h : chk c = 0) : OkC (gro c) c := by
 unfold chk at h
 split at h
 ·cases h
 rename_i h1
 split at h
 ·cases h
 rename_i h2
 split at h
 ·cases h
 rename_i h3
 split at h
 ·cases h
 rename_i h4
 have hall : ∀ (n : Nat) (l : List Ch), chkL n l = 0 → ∀ x ∈ l, okCh n x = 0 := by
  intro n l
  induction l with
  | nil => intro _ x hx; cases hx
  | cons y r ih =>
   intro h x hx
   simp only [chkL] at h
   by_cases hy : okCh n y = 0
   ·rw [if_neg (by simpa using hy)] at h
    rcases List.mem_cons.1 hx with rfl | hx
    ·exact hy
    ·exact ih h x hx
   ·rw [if_pos hy] at h; exact absurd h hy
 have hx : ∀ x ∈ c, OkX (gro c) x := fun x hx => by
  have := hall _ _ h x hx
  unfold okCh at this
  split at this
  ·cases this
  rename_i e1
  split at this
  ·cases this
  rename_i e2
  split at this
  ·cases this
  rename_i e3
  refine ⟨Decidable.not_not.1 e1, (Decidable.not_not.1 e2).1, (Decidable.not_not.1 e2).2, fun z hz => ?_⟩
  have hb : badW z = false := by
   rw [Bool.eq_false_iff]
   intro hb
   exact e3 (List.any_eq_true.2 ⟨z, hz, hb⟩)
  unfold badW at hb
  simpa using hb
 refine ⟨by omega, by omega, by omega, ?_, rfl, hx⟩
 unfold largeC at hl
 rw [Bool.or_eq_false_iff] at hl
 have hmem : c.getD 0 ((0 : Int), []) ∈ c := by
  cases c with
  | nil => exact absurd rfl h1
  | cons x r => exact List.mem_cons_self ..
 have h5 := List.any_eq_false.1 hl.2 _ hmem
 unfold largeOne at h5
 have h6 : (c.getD 0 ((0 : Int), [])).2.length = gro c := rfl
 rw [h6] at h5
 simp at h5
 omega
theorem shl_n {n : Nat} (hn : n ≤ 6) : ar0.shl (1 : Int) (n : Int) = ((2 ^ n : Nat) : Int) := shl_one (by omega)
theorem ints_len (l : List Nat) : (ints l).length = l.length := by simp [ints]
theorem works_ok : run0 F16 = some (true, ()) := cmp_done 200 (by kernel_rfl)
end Go.Proofs.Tryd
end
section
namespace Go.Proofs.Tryd
open Go.AM Go.Cn
set_option maxRecDepth 100000
theorem len_ok {c : List Ch} (h : Wf (.prod (.list (.prod (.int .i64) (.list (.int .i64)))) .unit) (c, ())) : c.length < 9223372036854775808 := by
 have := h.1.1
 have e : maxLen < 9223372036854775808 := by decide
 exact Nat.lt_of_le_of_lt this e
theorem large_len {c : List Ch} (h : largeC c = false) : c.length ≤ 20 := by
 unfold largeC at h
 rw [Bool.or_eq_false_iff] at h
 have := of_decide_eq_false h.1
 omega
end Go.Proofs.Tryd
end
section
namespace Go.Proofs.Tryd
open Go.AM Go.Cn
set_option maxRecDepth 100000
/-- The first number from k on, of m. -/
def findF (p : Nat → Bool) (k m : Nat) : Option Nat := (List.range' k m).find? p
theorem findF_zero {p : Nat → Bool} {k : Nat} : findF p k 0 = none := rfl
theorem findF_yes {p : Nat → Bool} {k m : Nat} (h : p k = true) : findF p k (m + 1) = some k := by simp [findF, List.range'_succ, h]
theorem findF_no {p : Nat → Bool} {k m : Nat} (h : p k = false) : findF p k (m + 1) = findF p (k + 1) m := by simp [findF, List.range'_succ, h]
theorem findF_some {p : Nat → Bool} {k m s : Nat} (h : findF p k m = some s) : k ≤ s ∧ s < k + m ∧ p s = true := by
 have h1 := List.mem_of_find?_eq_some h
 have h2 := List.find?_some h
 rw [List.mem_range'_1] at h1
 exact ⟨h1.1, h1.2, h2⟩
theorem findF_none {p : Nat → Bool} {k m : Nat} : findF p k m = none ↔ ∀ s, k ≤ s → s < k + m → p s = false := by
 unfold findF
 rw [List.find?_eq_none]
 simp only [List.mem_range'_1, Bool.not_eq_true]
 exact ⟨fun h s h1 h2 => h s ⟨h1, h2⟩, fun h s h1 => h s h1.1 h1.2⟩
/-- A set with which one wins, and the other one does not. -/
def strB (c : List Ch) (i j s : Nat) : Bool := !s.testBit i && !s.testBit j && (winB c (s ||| 2 ^ i) && !winB c (s ||| 2 ^ j))
def strF (c : List Ch) (n i j : Nat) : Option Nat := findF (strB c i j) 0 (2 ^ n)
theorem wo2_eq {s i j : Nat} (hs : s < 64) (hi : i < 6) (hj : j < 6) : (((s : Nat) : Int) = ((woL s [i, j] : Nat) : Int)) ↔ (s.testBit i = false ∧ s.testBit j = false) := by
 have := all_lt2 (n := 64) (m := 6) (p := fun s i => (List.range 6).all fun j => decide ((((s : Nat) : Int) = ((woL s [i, j] : Nat) : Int)) ↔ (s.testBit i = false ∧ s.testBit j = false))) (by kernel_rfl) hs hi
 exact of_decide_eq_true (List.all_eq_true.1 this j (List.mem_range.2 hj))
theorem k68 {c : List Ch} {n i j : Nat} (hc : OkC n c) (hi : i < n) (hj : j < n) : run0 (F68_v1 c c (n : Int) ((2 ^ n - 1 : Nat) : Int) (i : Int) (j : Int)) = some (match strF c n i j with | some s => ((s : Int), true, ()) | none => ((0 : Int), false, ())) := by
 have hn := hc.n6
 have hp : 0 < 2 ^ n := Nat.pow_pos (by omega)
 have h64 := pow6 hn
 simp only [F68_v1, F82_v1, g68_v1_0, run_bd, run_it, run_ret, bindO_s, show List.take 2 (List.drop 0 [(i : Int), (j : Int)]) = [(i : Int), (j : Int)] from rfl]
 have key := iter_upto (f := fun a => run (fun _ => none) (g68_v1_0i_0 a)) (2 ^ n) (fun k (_ : Unit) => (c, c, (n : Int), ((2 ^ n - 1 : Nat) : Int), [(i : Int), (j : Int)], (k : Int), c, c, (n : Int), ((2 ^ n - 1 : Nat) : Int), [(i : Int), (j : Int)], c, c, (n : Int), ((2 ^ n - 1 : Nat) : Int), (i : Int), (j : Int), (0 : Int), ()))
  (fun _ k => match findF (strB c i j) k (2 ^ n - k) with
   | some s => Sum.inl (c, c, (n : Int), ((2 ^ n - 1 : Nat) : Int), (i : Int), (j : Int), (s : Int), c, c, (n : Int), ((2 ^ n - 1 : Nat) : Int), [(i : Int), (j : Int)], ())
   | none => Sum.inr (c, c, (n : Int), ((2 ^ n - 1 : Nat) : Int), (i : Int), (j : Int), (0 : Int), c, c, (n : Int), ((2 ^ n - 1 : Nat) : Int), [(i : Int), (j : Int)], ())) (fun _ _ => True) ?_ ?_ (s := ()) trivial
 ·replace key : iter (fun a => run (fun _ => none) (g68_v1_0i_0 a)) (c, c, (n : Int), ((2 ^ n - 1 : Nat) : Int), [(i : Int), (j : Int)], (0 : Int), c, c, (n : Int), ((2 ^ n - 1 : Nat) : Int), [(i : Int), (j : Int)], c, c, (n : Int), ((2 ^ n - 1 : Nat) : Int), (i : Int), (j : Int), (0 : Int), ()) = _ := key
  rw [bind_of key, Nat.sub_zero]
  show _ = some (match findF (strB c i j) 0 (2 ^ n) with | some s => ((s : Int), true, ()) | none => ((0 : Int), false, ()))
  cases findF (strB c i j) 0 (2 ^ n) <;> simp [run_sl, run_sr, run_ret]
 ·rintro k _ hk -
  have hb : run (fun _ => none) (F90 (k : Int) [(i : Int), (j : Int)]) = _ := k90 (s := k) (l := [i, j]) (by omega) (by simp; omega) (by simp)
  have e : 2 ^ n - k = (2 ^ n - (k + 1)) + 1 := by omega
  have hw1 : run (fun _ => none) (F83 c ((k ||| 2 ^ i : Nat) : Int)) = _ := k83 hc (or_lt hn hk hi)
  have hw2 : run (fun _ => none) (F83 c ((k ||| 2 ^ j : Nat) : Int)) = _ := k83 hc (or_lt hn hk hj)
  simp only [g68_v1_0i_0, run_br, run_bd, run_ni, run_nd, run_ret, br_d, br_eq, br_not, inc_u hn hk, need_true]
  rw [if_pos (by omega), bind_of hb]
  simp only [wo2_eq (show k < 64 by omega) (show i < 6 by omega) (show j < 6 by omega), k74 hn hk hi, k74 hn hk hj, hw1, hw2, bindO_s]
  rw [e]
  by_cases h1 : k.testBit i = false ∧ k.testBit j = false
  case neg =>
   left
   rw [if_neg h1, findF_no (by
    unfold strB
    cases ha : k.testBit i
    ·cases hb : k.testBit j
     ·exact absurd ⟨ha, hb⟩ h1
     ·rfl
    ·rfl)]
   exact ⟨(), rfl, trivial, rfl⟩
  rw [if_pos h1]
  cases h2 : winB c (k ||| 2 ^ i)
  case false =>
   left
   rw [findF_no (by simp [strB, h2])]
   exact ⟨(), by simp, trivial, rfl⟩
  cases h3 : winB c (k ||| 2 ^ j)
  case true =>
   left
   rw [findF_no (by simp [strB, h3])]
   exact ⟨(), by simp, trivial, rfl⟩
  ·right
   rw [findF_yes (by simp [strB, h1, h2, h3])]
   simp
 ·rintro _ -
  simp only [g68_v1_0i_0, run_br, run_ret, br_d]
  rw [if_neg (by omega)]
  simp [findF_zero]
theorem k70 {c : List Ch} {n i j : Nat} (hc : OkC n c) (hi : i < n) (hj : j < n) : run0 (F70 c (i : Int) (j : Int)) = some (match strF c n i j with | some s => ((s : Int), ()) | none => ((-1 : Int), ())) := by
 have hn := hc.n6
 have hp : 0 < 2 ^ n := Nat.pow_pos (by omega)
 have h64 := pow6 hn
 have h0 : 0 < c.length := by have := hc.c1; omega
 have hbit : ∀ {s i : Nat}, s < 64 → i < 6 → (ar0.bits IBin.and .i64 (ar0.shr (s : Int) (i : Int)) (1 : Int) == (0 : Int)) = !s.testBit i := fun hs hi => by
  have := all_lt2 (n := 64) (m := 6) (p := fun s i => (ar0.bits IBin.and .i64 (ar0.shr (s : Int) (i : Int)) (1 : Int) == (0 : Int)) == !s.testBit i) (by kernel_rfl) hs hi
  simpa using this
 simp only [F70, run_bd, run_it]
 have key := iter_upto (f := fun a => run (fun _ => none) (g70_0 a)) (2 ^ n) (fun k (_ : Unit) => ((i : Int), (j : Int), (k : Int), c, ()))
  (fun _ k => match findF (strB c i j) k (2 ^ n - k) with | some s => Sum.inl ((s : Int), ()) | none => Sum.inr ()) (fun _ _ => True) ?_ ?_ (s := ()) trivial
 ·replace key : iter (fun a => run (fun _ => none) (g70_0 a)) ((i : Int), (j : Int), (0 : Int), c, ()) = _ := key
  rw [bind_of key, Nat.sub_zero]
  show _ = some (match findF (strB c i j) 0 (2 ^ n) with | some s => ((s : Int), ()) | none => ((-1 : Int), ()))
  cases findF (strB c i j) 0 (2 ^ n) <;> simp [run_sl, run_sr, run_ret]
 ·rintro k _ hk -
  have e : 2 ^ n - k = (2 ^ n - (k + 1)) + 1 := by omega
  have hni : rng .i64 ((k : Int) + 1) = true := rng_i64 (by omega) (by omega)
  have hin1 : inb (i : Int) 64 = true := inb_t (by omega) (by omega)
  have hin2 : inb (j : Int) 64 = true := inb_t (by omega) (by omega)
  simp only [g70_0, run_br, run_bd, run_nb, run_ni, run_ret, k60 h0, hc.gro, bindO_s, br_d, hni, hin1, hin2, need_true, shl_n hn, hbit (show k < 64 by omega) (show i < 6 by omega), hbit (show k < 64 by omega) (show j < 6 by omega), i_rng (show i < 6 by omega), i_rng (show j < 6 by omega), i_with (show k < 64 by omega) (show i < 6 by omega), i_with (show k < 64 by omega) (show j < 6 by omega), br_not]
  rw [need_inb (by omega) (by omega), need_t (rng_i64 (by omega) (by omega)), if_pos (by omega), e]
  cases ha : k.testBit i
  case true =>
   left
   rw [findF_no (by simp [strB, ha])]
   exact ⟨(), by simp, trivial, rfl⟩
  cases hb : k.testBit j
  case true =>
   left
   rw [findF_no (by simp [strB, hb])]
   exact ⟨(), by simp, trivial, rfl⟩
  simp only [brO_true, brO_false]
  rw [bind_of (k76 hc (or_lt hn hk hi))]
  cases h2 : winB c (k ||| 2 ^ i)
  case false =>
   left
   rw [findF_no (by simp [strB, h2])]
   exact ⟨(), by simp, trivial, rfl⟩
  simp only [brO_true]
  rw [bind_of (k76 hc (or_lt hn hk hj))]
  cases h3 : winB c (k ||| 2 ^ j)
  case true =>
   left
   rw [findF_no (by simp [strB, h3])]
   exact ⟨(), by simp, trivial, rfl⟩
  ·right
   rw [findF_yes (by simp [strB, ha, hb, h2, h3])]
   simp
 ·rintro _ -
  simp only [g70_0, run_br, run_bd, run_nb, run_ni, run_ret, k60 h0, hc.gro, bindO_s, br_d, shl_n hn]
  rw [need_inb (by omega) (by omega), need_t (rng_i64 (by omega) (by omega)), if_neg (by omega)]
  simp [findF_zero]
/-- A number names a grower. -/
def inG (n : Nat) (z : Int) : Bool := decide (0 ≤ z ∧ z ≤ (n : Int) - 1)
theorem inG_nat {n : Nat} {z : Int} (h : inG n z = true) : ∃ i : Nat, i < n ∧ z = (i : Int) := by
 have := of_decide_eq_true h
 exact ⟨z.toNat, by omega, by omega⟩
def cmpV (c : List Ch) (n i j : Nat) : Int := if (strF c n i j).isSome then (if (strF c n j i).isSome then 2 else 1) else if (strF c n j i).isSome then -1 else 0
/-- What Compare answers. -/
def cmpR (c : List Ch) (n : Nat) (a b : Int) : Int × Int × Unit := if inG n a = false ∨ inG n b = false then (0, 5, ()) else (cmpV c n a.toNat b.toNat, 0, ())
theorem k23_no {c : List Ch} (h : chk c ≠ 0) (a b : Int) : run0 (F23 c a b) = some (0, chk c, ()) := by
 simp only [F23, run_bd]
 rw [bind_of (k66_no h)]
 simp only [run_sl, run_br, run_bd, run_ret, br_not, br_eq]
 rw [if_neg h]
theorem k24_no {c : List Ch} (h : chk c ≠ 0) (a b : Int) : run0 (F24 c a b) = some (0, chk c, ()) := by
 simp only [F24, run_bd, run_br, run_ret, br_not, br_eq]
 rw [bind_of (k50 c), if_neg h]
theorem n_rng {n : Nat} (h : n ≤ 6) : rng .i64 ((n : Int) - 1) = true := rng_i64 (by omega) (by omega)
theorem k23 {c : List Ch} {n : Nat} (hc : OkC n c) (h : chk c = 0) (a b : Int) : run0 (F23 c a b) = some (cmpR c n a b) := by
 have hn := hc.n6
 simp only [F23, run_bd]
 rw [bind_of (k66 hc h)]
 simp only [run_sr, run_br, run_bd, run_ni, run_ret, br_not, br_eq, n_rng hn, need_true, k67, bindO_s]
 rw [if_pos trivial]
 have e : ∀ z : Int, decide (0 ≤ z ∧ z ≤ (n : Int) - 1) = inG n z := fun _ => rfl
 simp only [e]
 cases ha : inG n a
 ·simp [cmpR, ha]
 cases hb : inG n b
 ·simp [cmpR, hb]
 obtain ⟨i, hi, rfl⟩ := inG_nat ha
 obtain ⟨j, hj, rfl⟩ := inG_nat hb
 simp only [brO_true]
 rw [bind_of (k68 hc hi hj), bind_of (k68 hc hj hi)]
 have h1 : ∀ o : Option Nat, (match o with | some s => ((s : Int), true, ()) | none => ((0 : Int), false, ())).2.1 = o.isSome := fun o => by cases o <;> simp
 simp only [cmpR, ha, hb, cmpV, Int.toNat_natCast, h1]
 rcases Bool.eq_false_or_eq_true (strF c n i j).isSome with hA | hA <;> rcases Bool.eq_false_or_eq_true (strF c n j i).isSome with hB | hB <;> simp [hA, hB]
theorem k24 {c : List Ch} {n : Nat} (hc : OkC n c) (h : chk c = 0) (a b : Int) : run0 (F24 c a b) = some (cmpR c n a b) := by
 have hn := hc.n6
 have h0 : 0 < c.length := by have := hc.c1; omega
 simp only [F24, run_bd, run_br, run_ret, br_not, br_eq]
 rw [bind_of (k50 c), if_pos h]
 simp only [run_br, run_bd, run_ni, run_ret, k60 h0, hc.gro, bindO_s, br_not, n_rng hn, need_true, k69]
 have e : ∀ z : Int, decide (0 ≤ z ∧ z ≤ (n : Int) - 1) = inG n z := fun _ => rfl
 simp only [e]
 cases ha : inG n a
 ·simp [cmpR, ha]
 cases hb : inG n b
 ·simp [cmpR, hb]
 obtain ⟨i, hi, rfl⟩ := inG_nat ha
 obtain ⟨j, hj, rfl⟩ := inG_nat hb
 simp only [brO_true]
 rw [bind_of (k70 hc hi hj), bind_of (k70 hc hj hi)]
 simp only [cmpR, ha, hb, cmpV, Int.toNat_natCast]
 have h1 : ∀ o : Option Nat, decide (0 ≤ (match o with | some s => ((s : Int), ()) | none => ((-1 : Int), ())).1) = o.isSome := fun o => by cases o <;> simp
 simp only [h1]
 rcases Bool.eq_false_or_eq_true (strF c n i j).isSome with hA | hA <;> rcases Bool.eq_false_or_eq_true (strF c n j i).isSome with hB | hB <;> simp [hA, hB]
end Go.Proofs.Tryd
end
section
namespace Go.Proofs.Tryd
open Go.AM Go.Cn
set_option maxRecDepth 100000
/-- A list of growers, read: its set, or an error. -/
def rdL (n : Nat) : Int → Nat → List Int → Nat × Int
 | _, s, [] => (s, 0)
 | last, s, x :: r => if inG n x = false then (0, 5) else if x ≤ last then (0, 7) else rdL n x (s ||| 2 ^ x.toNat) r
def rd (n : Nat) (l : List Int) : Nat × Int := rdL n (-1) 0 l
theorem rdL_lt {n : Nat} (hn : n ≤ 6) : ∀ {l : List Int} {last : Int} {s : Nat}, s < 2 ^ n → (rdL n last s l).1 < 2 ^ n
 | [], _, _, h => h
 | x :: r, last, s, h => by
  have hp : 0 < 2 ^ n := Nat.pow_pos (by omega)
  simp only [rdL]
  split
  ·exact hp
  split
  ·exact hp
  ·rename_i h1 _
   have h1' : inG n x = true := by simpa using h1
   obtain ⟨i, hi, rfl⟩ := inG_nat h1'
   exact rdL_lt hn (by rw [Int.toNat_natCast]; exact or_lt hn h hi)
theorem rd_lt {n : Nat} (hn : n ≤ 6) (l : List Int) : (rd n l).1 < 2 ^ n := rdL_lt hn (Nat.pow_pos (by omega))
theorem k72 {c : List Ch} {n : Nat} (hn : n ≤ 6) {l : List Int} (hl : l.length < 1000) : run0 (F72_v1 c c (n : Int) ((2 ^ n - 1 : Nat) : Int) l) = some (((rd n l).1 : Int), (rd n l).2, ()) := by
 have hp : 0 < 2 ^ n := Nat.pow_pos (by omega)
 have h64 := pow6 hn
 simp only [F72_v1, run_bd, run_it]
 have key := iter_list l (f := fun a => run (fun _ => none) (g72_v1_0 a)) (fun k (st : Nat × Int) => ((st.1 : Int), st.2, l, ((l.length : Nat) : Int), (k : Int), c, c, (n : Int), ((2 ^ n - 1 : Nat) : Int), ()))
  (fun st r => if (rdL n st.2 st.1 r).2 = 0 then Sum.inr (((rdL n st.2 st.1 r).1 : Int), ()) else Sum.inl (((rdL n st.2 st.1 r).1 : Int), (rdL n st.2 st.1 r).2, ())) (fun _ st => st.1 < 2 ^ n) ?_ ?_ (s := (0, -1)) hp
 ·replace key : iter (fun a => run (fun _ => none) (g72_v1_0 a)) ((0 : Int), (-1 : Int), l, ((l.length : Nat) : Int), (0 : Int), c, c, (n : Int), ((2 ^ n - 1 : Nat) : Int), ()) = _ := key
  rw [bind_of key]
  simp only [rd]
  by_cases h : (rdL n (-1) 0 l).2 = 0
  ·rw [if_pos h]; simp [run_sr, run_ret, h]
  ·rw [if_neg h]; simp [run_sl, run_ret]
 ·rintro pre x post ⟨s, last⟩ hx hs
  simp only at hs
  have hlen : l.length = pre.length + (post.length + 1) := by rw [hx]; simp
  have hd : l.getD pre.length (0 : Int) = x := by rw [hx]; exact getD_mid rfl
  have hin : inb (pre.length : Int) ((l.length : Nat) : Int) = true := inb_t (by omega) (by omega)
  have hni : rng .i64 ((pre.length : Int) + 1) = true := rng_i64 (by omega) (by omega)
  have e : ∀ z : Int, decide (0 ≤ z ∧ z ≤ (n : Int) - 1) = inG n z := fun _ => rfl
  simp only [g72_v1_0, run_br, run_bd, run_nb, run_ni, run_ret, Int.toNat_natCast, hd, br_d, br_not, hin, hni, n_rng hn, need_true, k67, bindO_s, e]
  rw [if_pos (by omega)]
  simp only [rdL]
  by_cases h1 : inG n x = false
  ·right
   simp [h1]
  replace h1 : inG n x = true := by simpa using h1
  obtain ⟨i, hi, rfl⟩ := inG_nat h1
  simp only [h1, brO_true]
  by_cases h2 : (i : Int) ≤ last
  ·right
   rw [if_pos h2]; simp [h2]
  ·left
   rw [if_neg h2]
   refine ⟨(s ||| 2 ^ i, (i : Int)), ?_, or_lt hn hs hi, by simp [h2]⟩
   rw [bind_of (k74 hn hs hi)]
   rfl
 ·rintro ⟨s, last⟩ hs
  simp only [g72_v1_0, run_br, run_ret, br_d]
  rw [if_neg (by omega)]
  simp [rdL]
theorem k69' {n : Nat} (z : Int) : run (fun _ => none) (F69 z 0 ((n : Int) - 1)) = some (inG n z, ()) := k69 _ _ _
theorem k75 {c : List Ch} {n : Nat} (hc : OkC n c) {l : List Int} (hl : l.length < 1000) : run0 (F75 c l) = some (((rd n l).1 : Int), (rd n l).2, ()) := by
 have hn := hc.n6
 have hp : 0 < 2 ^ n := Nat.pow_pos (by omega)
 have h64 := pow6 hn
 have h0 : 0 < c.length := by have := hc.c1; omega
 simp only [F75, run_bd, run_it]
 have key := iter_list l (f := fun a => run (fun _ => none) (g75_0 a)) (fun k (st : Nat × Int) => (l, (st.1 : Int), (k : Int), c, ()))
  (fun st r => if (rdL n st.2 st.1 r).2 = 0 then Sum.inr (((rdL n st.2 st.1 r).1 : Int), ()) else Sum.inl (((rdL n st.2 st.1 r).1 : Int), (rdL n st.2 st.1 r).2, ())) (fun pre st => st.1 < 2 ^ n ∧ st.2 = (pre.getLast?).getD (-1)) ?_ ?_ (s := (0, -1)) ⟨hp, rfl⟩
 ·replace key : iter (fun a => run (fun _ => none) (g75_0 a)) (l, (0 : Int), (0 : Int), c, ()) = _ := key
  rw [bind_of key]
  simp only [rd]
  by_cases h : (rdL n (-1) 0 l).2 = 0
  ·rw [if_pos h]; simp [run_sr, run_ret, h]
  ·rw [if_neg h]; simp [run_sl, run_ret]
 ·rintro pre x post ⟨s, last⟩ hx ⟨hs, hla⟩
  simp only at hs hla
  have hlen : l.length = pre.length + (post.length + 1) := by rw [hx]; simp
  have hd : l.getD pre.length (0 : Int) = x := by rw [hx]; exact getD_mid rfl
  have hin : inb (pre.length : Int) ((l.length : Nat) : Int) = true := inb_t (by omega) (by omega)
  have hni : rng .i64 ((pre.length : Int) + 1) = true := rng_i64 (by omega) (by omega)
  have e : ∀ z : Int, decide (0 ≤ z ∧ z ≤ (n : Int) - 1) = inG n z := fun _ => rfl
  simp only [g75_0, run_br, run_bd, run_nb, run_ni, run_ret, Int.toNat_natCast, hd, br_d, br_not, hin, hni, k60 h0, hc.gro, n_rng hn, need_true, k69' (n := n), bindO_s]
  rw [if_pos (by omega)]
  simp only [rdL]
  by_cases h1 : inG n x = false
  ·right
   simp [h1]
  replace h1 : inG n x = true := by simpa using h1
  obtain ⟨i, hi, rfl⟩ := inG_nat h1
  have hi6 : inb (i : Int) 64 = true := inb_t (by omega) (by omega)
  simp only [h1, brO_true, hi6, need_true, i_rng (show i < 6 by omega), i_with (show s < 64 by omega) (show i < 6 by omega)]
  rcases List.eq_nil_or_concat pre with rfl | ⟨p0, y, rfl⟩
  ·have hl1 : last = -1 := by simpa using hla
   left
   rw [if_neg (by simp)]
   refine ⟨(s ||| 2 ^ i, (i : Int)), rfl, ⟨or_lt hn hs hi, by simp⟩, ?_⟩
   subst hl1
   simp only [h1, Bool.true_eq_false, if_false, if_neg (show ¬ ((i : Int) ≤ -1) by omega), Int.toNat_natCast]
  ·have hl1 : last = y := by simpa using hla
   subst hl1
   have hd2 : l.getD p0.length (0 : Int) = last := by rw [hx]; simp [List.getD]
   have e2 : (((p0 ++ [last]).length : Nat) : Int) - 1 = (p0.length : Int) := by simp
   simp only [List.concat_eq_append] at *
   rw [if_pos (by simp), e2, need_t (rng_i64 (by omega) (by omega)), need_inb (by omega) (by simp at hlen; omega)]
   simp only [Int.toNat_natCast, hd2]
   by_cases h2 : (i : Int) ≤ last
   ·right
    rw [if_pos h2]
    simp [h1, h2]
   ·left
    rw [if_neg h2]
    refine ⟨(s ||| 2 ^ i, (i : Int)), rfl, ⟨or_lt hn hs hi, by simp⟩, ?_⟩
    simp only [h1, Bool.true_eq_false, if_false, if_neg h2, Int.toNat_natCast]
 ·rintro ⟨s, last⟩ ⟨hs, _⟩
  simp only [g75_0, run_br, run_ret, br_d]
  rw [if_neg (by omega)]
  simp [rdL]
end Go.Proofs.Tryd
end
section
namespace Go.Proofs.Tryd
open Go.AM Go.Cn
set_option maxRecDepth 100000
theorem u_or {s t : Nat} (hs : s < 64) (ht : t < 64) : ar0.bits IBin.or .u64 (s : Int) (t : Int) = ((s ||| t : Nat) : Int) := by
 have := all_lt2 (n := 64) (m := 64) (p := fun s t => ar0.bits IBin.or .u64 (s : Int) (t : Int) == ((s ||| t : Nat) : Int)) (by kernel_rfl) hs ht
 simpa using this
theorem i_or {s t : Nat} (hs : s < 64) (ht : t < 64) : ar0.bits IBin.or .i64 (s : Int) (t : Int) = ((s ||| t : Nat) : Int) := by
 have := all_lt2 (n := 64) (m := 64) (p := fun s t => ar0.bits IBin.or .i64 (s : Int) (t : Int) == ((s ||| t : Nat) : Int)) (by kernel_rfl) hs ht
 simpa using this
theorem or64 {s t : Nat} (hs : s < 64) (ht : t < 64) : s ||| t < 64 := Nat.or_lt_two_pow (n := 6) hs ht
theorem two_lt {i : Nat} (hi : i < 6) : 2 ^ i < 64 := by
 have : 2 ^ i < 2 ^ 6 := Nat.pow_lt_pow_right (by omega) hi
 omega
theorem i_and2 {s i j : Nat} (hs : s < 64) (hi : i < 6) (hj : j < 6) : (ar0.bits IBin.and .i64 (s : Int) ((2 ^ i ||| 2 ^ j : Nat) : Int) = 0) ↔ (s.testBit i = false ∧ s.testBit j = false) := by
 have := all_lt2 (n := 64) (m := 6) (p := fun s i => (List.range 6).all fun j => decide ((ar0.bits IBin.and .i64 (s : Int) ((2 ^ i ||| 2 ^ j : Nat) : Int) = 0) ↔ (s.testBit i = false ∧ s.testBit j = false))) (by kernel_rfl) hs hi
 exact of_decide_eq_true (List.all_eq_true.1 this j (List.mem_range.2 hj))
theorem k73 {s i : Nat} (hs : s < 64) (hi : i < 6) : run0 (F73 (s : Int) (i : Int)) = some (s.testBit i, ()) := by
 simp only [F73, run_nb, run_ret, u_has hs hi]
 rw [need_inb (by omega) (by omega)]
theorem k71 {s : Nat} (hs : s < 64) : run0 (F71 (s : Int)) = some (ints (els s), ()) := by
 have := all_lt (n := 64) (p := fun s => decide (cmp 40 (fun _ => none) (F71 ((s : Nat) : Int)) = some (ints (els s), ()))) (by kernel_rfl) hs
 exact cmp_done 40 (of_decide_eq_true this)
def verOk (c : List Ch) (A B i j : Nat) : Bool := winB c (A ||| 2 ^ i) && (winB c (B ||| 2 ^ j) && (!winB c (A ||| 2 ^ j) && !winB c (B ||| 2 ^ i)))
/-- What Verify answers. -/
def verS (c : List Ch) (i j A B : Nat) : Int := if (A ||| B).testBit i = true ∨ (A ||| B).testBit j = true then 3 else if verOk c A B i j = true then 0 else 11
def verR (c : List Ch) (n : Nat) (x : Int × Int × List Int × List Int) : Int :=
 if inG n x.1 = false ∨ inG n x.2.1 = false then 5 else if x.1 = x.2.1 then 6 else if (rd n x.2.2.1).2 ≠ 0 then (rd n x.2.2.1).2 else if (rd n x.2.2.2).2 ≠ 0 then (rd n x.2.2.2).2 else
 verS c x.1.toNat x.2.1.toNat (rd n x.2.2.1).1 (rd n x.2.2.2).1
theorem k27_no {c : List Ch} (h : chk c ≠ 0) (x : Int × Int × List Int × List Int) : run0 (F27 c x) = some (chk c, ()) := by
 simp only [F27, run_bd]
 rw [bind_of (k66_no h)]
 simp only [run_sl, run_br, run_bd, run_ret, br_not, br_eq]
 rw [if_neg h]
theorem k28_no {c : List Ch} (h : chk c ≠ 0) (x : Int × Int × List Int × List Int) : run0 (F28 c x) = some (chk c, ()) := by
 simp only [F28, run_bd, run_br, run_ret, br_not, br_eq]
 rw [bind_of (k50 c), if_neg h]
theorem k27_0 {c : List Ch} {n : Nat} (hn : n ≤ 6) (a b : Int) {l m : List Int} (hl : l.length < 1000) (hm : m.length < 1000) :
  iter (fun a => run (fun _ => none) (g27_0 a)) (2, (2 : Int), (0 : Int), a, b, l, m, c, c, (n : Int), ((2 ^ n - 1 : Nat) : Int), List.replicate 2 (0 : Int), [l, m], ()) =
   some (if (rd n l).2 ≠ 0 then Sum.inl ((rd n l).2, ()) else if (rd n m).2 ≠ 0 then Sum.inl ((rd n m).2, ()) else Sum.inr (a, b, l, m, c, c, (n : Int), ((2 ^ n - 1 : Nat) : Int), [((rd n l).1 : Int), ((rd n m).1 : Int)], ())) := by
 have s1 : run (fun _ => none) (g27_0 (2, (2 : Int), (0 : Int), a, b, l, m, c, c, (n : Int), ((2 ^ n - 1 : Nat) : Int), List.replicate 2 (0 : Int), [l, m], ())) =
   some (if (rd n l).2 ≠ 0 then .inr (.inl ((rd n l).2, ())) else .inl (2, (2 : Int), (1 : Int), a, b, l, m, c, c, (n : Int), ((2 ^ n - 1 : Nat) : Int), [((rd n l).1 : Int), (0 : Int)], [l, m], ())) := by
  simp only [g27_0, run_br, run_bd, run_nb, run_nd, run_ni, run_ret, br_d, br_not, br_eq]
  rw [if_pos (by omega), need_inb (by omega) (by omega), need_d (by simp)]
  have e : [l, m].getD (0 + Int.toNat 0) [] = l := rfl
  rw [e, bind_of (k72 hn hl)]
  by_cases h : (rd n l).2 = 0
  ·rw [if_pos h, if_neg (by simpa using h), need_inb (by omega) (by omega), need_d (by simp), need_t (rng_i64 (by omega) (by omega))]
   rfl
  ·rw [if_neg h, if_pos h]
 have s2 : run (fun _ => none) (g27_0 (2, (2 : Int), (1 : Int), a, b, l, m, c, c, (n : Int), ((2 ^ n - 1 : Nat) : Int), [((rd n l).1 : Int), (0 : Int)], [l, m], ())) =
   some (if (rd n m).2 ≠ 0 then .inr (.inl ((rd n m).2, ())) else .inl (2, (2 : Int), (2 : Int), a, b, l, m, c, c, (n : Int), ((2 ^ n - 1 : Nat) : Int), [((rd n l).1 : Int), ((rd n m).1 : Int)], [l, m], ())) := by
  simp only [g27_0, run_br, run_bd, run_nb, run_nd, run_ni, run_ret, br_d, br_not, br_eq]
  rw [if_pos (by omega), need_inb (by omega) (by omega), need_d (by simp)]
  have e : [l, m].getD (0 + Int.toNat 1) [] = m := rfl
  rw [e, bind_of (k72 hn hm)]
  by_cases h : (rd n m).2 = 0
  ·rw [if_pos h, if_neg (by simpa using h), need_inb (by omega) (by omega), need_d (by simp), need_t (rng_i64 (by omega) (by omega))]
   rfl
  ·rw [if_neg h, if_pos h]
 have s3 : run (fun _ => none) (g27_0 (2, (2 : Int), (2 : Int), a, b, l, m, c, c, (n : Int), ((2 ^ n - 1 : Nat) : Int), [((rd n l).1 : Int), ((rd n m).1 : Int)], [l, m], ())) =
   some (.inr (.inr (a, b, l, m, c, c, (n : Int), ((2 ^ n - 1 : Nat) : Int), [((rd n l).1 : Int), ((rd n m).1 : Int)], ()))) := by
  simp only [g27_0, run_br, run_ret, br_d]
  rw [if_neg (by omega)]
 by_cases h1 : (rd n l).2 = 0
 ·rw [if_neg (by simpa using h1)] at s1
  refine iter_inl s1 ?_
  rw [if_neg (by simpa using h1)]
  by_cases h2 : (rd n m).2 = 0
  ·rw [if_neg (by simpa using h2)] at s2
   refine iter_inl s2 ?_
   rw [if_neg (by simpa using h2)]
   exact iter_inr s3
  ·rw [if_pos h2] at s2
   rw [if_pos h2]
   exact iter_inr s2
 ·rw [if_pos h1] at s1
  rw [if_pos h1]
  exact iter_inr s1
theorem k27 {c : List Ch} {n : Nat} (hc : OkC n c) (h : chk c = 0) (a b : Int) {l m : List Int} (hl : l.length < 1000) (hm : m.length < 1000) : run0 (F27 c (a, b, l, m)) = some (verR c n (a, b, l, m), ()) := by
 have hn := hc.n6
 have hp := pow6 hn
 simp only [F27, run_bd]
 rw [bind_of (k66 hc h)]
 have k67' : ∀ z : Int, run (fun _ => none) (F67 0 z ((n : Int) - 1)) = some (inG n z, ()) := fun z => k67 _ _ _
 simp only [run_sr, run_br, run_bd, run_ni, run_it, run_ret, br_not, br_eq, n_rng hn, need_true, k67', bindO_s]
 rw [if_pos trivial]
 by_cases ha : inG n a = false
 ·simp [verR, ha]
 replace ha : inG n a = true := by simpa using ha
 by_cases hb : inG n b = false
 ·simp [verR, ha, hb]
 replace hb : inG n b = true := by simpa using hb
 simp only [ha, hb, brO_true]
 by_cases hab : a = b
 ·subst hab; rw [if_pos rfl]; simp [verR, ha]
 rw [if_neg hab]
 obtain ⟨i, hi, rfl⟩ := inG_nat ha
 obtain ⟨j, hj, rfl⟩ := inG_nat hb
 rw [bind_of (k27_0 hn _ _ hl hm)]
 by_cases h1 : (rd n l).2 = 0
 case neg =>
  rw [if_pos h1]; simp [verR, ha, hb, hab, h1, run_sl, run_ret]
 by_cases h2 : (rd n m).2 = 0
 case neg =>
  rw [if_neg (by simpa using h1), if_pos h2]; simp [verR, ha, hb, hab, h1, h2, run_sl, run_ret]
 rw [if_neg (by simpa using h1), if_neg (by simpa using h2)]
 have hA := rd_lt hn l
 have hB := rd_lt hn m
 have hv : verR c n ((i : Int), (j : Int), l, m) = verS c i j (rd n l).1 (rd n m).1 := by
  unfold verR
  simp only [ha, hb, hab, h1, h2, Bool.true_eq_false, or_self, if_false, ne_eq, not_true, Int.toNat_natCast]
 rw [hv]
 generalize (rd n l).1 = A at *
 generalize (rd n m).1 = B at *
 simp only [run_sr, run_nd, run_bd, run_br, run_ret]
 have hA64 : A < 64 := by omega
 have hB64 : B < 64 := by omega
 simp only [show [(A : Int), (B : Int)].getD 0 0 = (A : Int) from rfl, show [(A : Int), (B : Int)].getD 1 0 = (B : Int) from rfl, u_or hA64 hB64]
 have hd0 : decide (0 < [(A : Int), (B : Int)].length) = true := rfl
 have hd1 : decide (1 < [(A : Int), (B : Int)].length) = true := rfl
 have q1 : run (fun _ => none) (F83 c ((A ||| 2 ^ i : Nat) : Int)) = _ := k83 hc (or_lt hn hA hi)
 have q2 : run (fun _ => none) (F83 c ((B ||| 2 ^ j : Nat) : Int)) = _ := k83 hc (or_lt hn hB hj)
 have q3 : run (fun _ => none) (F83 c ((A ||| 2 ^ j : Nat) : Int)) = _ := k83 hc (or_lt hn hA hj)
 have q4 : run (fun _ => none) (F83 c ((B ||| 2 ^ i : Nat) : Int)) = _ := k83 hc (or_lt hn hB hi)
 have q5 : run (fun _ => none) (F73 ((A ||| B : Nat) : Int) (i : Int)) = _ := k73 (or64 hA64 hB64) (show i < 6 by omega)
 have q6 : run (fun _ => none) (F73 ((A ||| B : Nat) : Int) (j : Int)) = _ := k73 (or64 hA64 hB64) (show j < 6 by omega)
 simp only [hd0, hd1, need_true, q5, q6, bindO_s, k74 hn hA hi, k74 hn hB hj, k74 hn hA hj, k74 hn hB hi, q1, q2, q3, q4, br_not]
 unfold verS verOk
 cases h5 : (A ||| B).testBit i
 case true => simp
 cases h6 : (A ||| B).testBit j
 case true => simp
 cases h7 : winB c (A ||| 2 ^ i) <;> cases h8 : winB c (B ||| 2 ^ j) <;> cases h9 : winB c (A ||| 2 ^ j) <;> cases h10 : winB c (B ||| 2 ^ i) <;> simp
theorem k28 {c : List Ch} {n : Nat} (hc : OkC n c) (h : chk c = 0) (a b : Int) {l m : List Int} (hl : l.length < 1000) (hm : m.length < 1000) : run0 (F28 c (a, b, l, m)) = some (verR c n (a, b, l, m), ()) := by
 have hn := hc.n6
 have hp := pow6 hn
 have h0 : 0 < c.length := by have := hc.c1; omega
 simp only [F28, run_bd, run_br, run_ret, br_not, br_eq]
 rw [bind_of (k50 c), if_pos h]
 simp only [run_bd, run_br, run_ni, run_nb, run_ret, k60 h0, hc.gro, bindO_s, n_rng hn, need_true, k69' (n := n), br_not, br_eq]
 by_cases ha : inG n a = false
 ·simp [verR, ha]
 replace ha : inG n a = true := by simpa using ha
 by_cases hb : inG n b = false
 ·simp [verR, ha, hb]
 replace hb : inG n b = true := by simpa using hb
 simp only [ha, hb, brO_true]
 by_cases hab : a = b
 ·subst hab; rw [if_pos rfl]; simp [verR, ha]
 rw [if_neg hab]
 obtain ⟨i, hi, rfl⟩ := inG_nat ha
 obtain ⟨j, hj, rfl⟩ := inG_nat hb
 have hij : ¬ i = j := fun e => hab (by rw [e])
 rw [bind_of (k75 hc hl)]
 by_cases h1 : (rd n l).2 = 0
 case neg =>
  rw [if_neg h1]; simp [verR, ha, hb, hab, h1]
 rw [if_pos h1, bind_of (k75 hc hm)]
 by_cases h2 : (rd n m).2 = 0
 case neg =>
  rw [if_neg h2]; simp [verR, ha, hb, hab, h1, h2]
 rw [if_pos h2]
 have hA := rd_lt hn l
 have hB := rd_lt hn m
 have hv : verR c n ((i : Int), (j : Int), l, m) = verS c i j (rd n l).1 (rd n m).1 := by
  unfold verR
  simp only [ha, hb, hab, h1, h2, Bool.true_eq_false, or_self, if_false, ne_eq, not_true, Int.toNat_natCast]
 rw [hv]
 generalize (rd n l).1 = A at *
 generalize (rd n m).1 = B at *
 have hA64 : A < 64 := by omega
 have hB64 : B < 64 := by omega
 have hi6 : inb (i : Int) 64 = true := inb_t (by omega) (by omega)
 have hj6 : inb (j : Int) 64 = true := inb_t (by omega) (by omega)
 simp only [hi6, hj6, need_true, i_rng (show i < 6 by omega), i_rng (show j < 6 by omega), i_with hA64 (show i < 6 by omega), i_with hA64 (show j < 6 by omega), i_with hB64 (show i < 6 by omega), i_with hB64 (show j < 6 by omega)]
 rw [i_or hA64 hB64, shl_one (show i < 12 by omega), shl_one (show j < 12 by omega), i_or (two_lt (by omega)) (two_lt (by omega))]
 simp only [i_and2 (or64 hA64 hB64) (show i < 6 by omega) (show j < 6 by omega)]
 have q1 : run (fun _ => none) (F76 c ((A ||| 2 ^ i : Nat) : Int)) = _ := k76 hc (or_lt hn hA hi)
 have q2 : run (fun _ => none) (F76 c ((B ||| 2 ^ j : Nat) : Int)) = _ := k76 hc (or_lt hn hB hj)
 have q3 : run (fun _ => none) (F76 c ((A ||| 2 ^ j : Nat) : Int)) = _ := k76 hc (or_lt hn hA hj)
 have q4 : run (fun _ => none) (F76 c ((B ||| 2 ^ i : Nat) : Int)) = _ := k76 hc (or_lt hn hB hi)
 simp only [q1, q2, q3, q4, bindO_s]
 unfold verS verOk
 cases h5 : (A ||| B).testBit i
 case true => simp
 cases h6 : (A ||| B).testBit j
 case true => simp
 cases h7 : winB c (A ||| 2 ^ i) <;> cases h8 : winB c (B ||| 2 ^ j) <;> cases h9 : winB c (A ||| 2 ^ j) <;> cases h10 : winB c (B ||| 2 ^ i) <;> simp
end Go.Proofs.Tryd
end
section
namespace Go.Proofs.Tryd
open Go.AM Go.Cn
set_option maxRecDepth 100000
/-- Two growers of whom neither is at least as strong. -/
def mixB (c : List Ch) (n i k : Nat) : Bool := (strF c n i k).isSome && (strF c n k i).isSome
theorem k68' {c : List Ch} {n i j : Nat} (hc : OkC n c) (hi : i < n) (hj : j < n) : run (fun _ => none) (F68_v1 c c (n : Int) ((2 ^ n - 1 : Nat) : Int) (i : Int) (j : Int)) = some ((((strF c n i j).getD 0 : Nat) : Int), (strF c n i j).isSome, ()) := by
 refine (k68 hc hi hj).trans ?_
 cases strF c n i j <;> rfl
theorem strF_lt {c : List Ch} {n i j s : Nat} (h : strF c n i j = some s) : s < 2 ^ n := by
 have := (findF_some h).2.1
 omega
theorem strF_getD_lt {c : List Ch} {n i j : Nat} (hc : OkC n c) : (strF c n i j).getD 0 < 64 := by
 have hp := pow6 hc.n6
 cases h : strF c n i j with
 | none => simp
 | some s => have := strF_lt h; simp; omega
theorem k25_1 {c : List Ch} {n i : Nat} (hc : OkC n c) (hi : i < n) : iter (fun a => run (fun _ => none) (g25_1 a)) ((i : Int), (n : Int), (i : Int), (i : Int), (0 : Int), (0 : Int), (0 : Int), c, c, (n : Int), ((2 ^ n - 1 : Nat) : Int), ()) =
  some (match findF (mixB c n i) 0 i with
   | some k => .inl ((0 : Int), (i : Int), (k : Int), ints (els ((strF c n i k).getD 0)), ints (els ((strF c n k i).getD 0)), ())
   | none => .inr ((n : Int), (i : Int), (0 : Int), (0 : Int), c, c, (n : Int), ((2 ^ n - 1 : Nat) : Int), ())) := by
 have hn := hc.n6
 have key := iter_upto (f := fun a => run (fun _ => none) (g25_1 a)) i (fun k (_ : Unit) => ((i : Int), (n : Int), (i : Int), (i : Int), (k : Int), (0 : Int), (0 : Int), c, c, (n : Int), ((2 ^ n - 1 : Nat) : Int), ()))
  (fun _ k0 => match findF (mixB c n i) k0 (i - k0) with
   | some k => Sum.inl ((0 : Int), (i : Int), (k : Int), ints (els ((strF c n i k).getD 0)), ints (els ((strF c n k i).getD 0)), ())
   | none => Sum.inr ((n : Int), (i : Int), (0 : Int), (0 : Int), c, c, (n : Int), ((2 ^ n - 1 : Nat) : Int), ())) (fun _ _ => True) ?_ ?_ (s := ()) trivial
 ·rw [Nat.sub_zero] at key; exact key
 ·rintro k _ hk -
  have e : i - k = (i - (k + 1)) + 1 := by omega
  have hni : rng .i64 ((k : Int) + 1) = true := rng_i64 (by omega) (by omega)
  simp only [g25_1, run_br, run_bd, run_ni, run_ret, br_d, hni, need_true]
  rw [if_pos (by omega), bind_of (k68' hc hi (show k < n by omega)), bind_of (k68' hc (show k < n by omega) hi), e]
  rcases Bool.eq_false_or_eq_true (strF c n i k).isSome with h1 | h1
  ·rcases Bool.eq_false_or_eq_true (strF c n k i).isSome with h2 | h2
   ·right
    rw [findF_yes (by simp [mixB, h1, h2])]
    simp only [h1, h2, brO_true]
    rw [bind_of (k71 (strF_getD_lt hc)), bind_of (k71 (strF_getD_lt hc))]
   ·left
    rw [findF_no (by simp [mixB, h1, h2])]
    exact ⟨(), by simp [h1, h2], trivial, rfl⟩
  ·left
   rw [findF_no (by simp [mixB, h1])]
   exact ⟨(), by simp [h1], trivial, rfl⟩
 ·rintro _ -
  simp only [g25_1, run_br, run_ret, br_d]
  rw [if_neg (by omega)]
  simp [findF_zero]
def trdB (c : List Ch) (n i : Nat) : Bool := (findF (mixB c n i) 0 i).isSome
def trdV (c : List Ch) (n : Nat) : (Int × Int × List Int × List Int) × Int × Unit := match findF (trdB c n) 0 n with
 | some i => match findF (mixB c n i) 0 i with
  | some k => (((i : Int), (k : Int), ints (els ((strF c n i k).getD 0)), ints (els ((strF c n k i).getD 0))), 0, ())
  | none => ((0, 0, [], []), 5, ())
 | none => ((0, 0, [], []), 5, ())
theorem k25 {c : List Ch} {n : Nat} (hc : OkC n c) (h : chk c = 0) : run0 (F25 c) = some (trdV c n) := by
 have hn := hc.n6
 simp only [F25, run_bd]
 rw [bind_of (k66 hc h)]
 simp only [run_sr, run_br, run_bd, run_it, run_ret, br_not, br_eq]
 rw [if_pos trivial]
 have key := iter_upto (f := fun a => run (fun _ => none) (g25_0 a)) n (fun i (_ : Unit) => ((n : Int), (i : Int), (0 : Int), (0 : Int), c, c, (n : Int), ((2 ^ n - 1 : Nat) : Int), ()))
  (fun _ i0 => match findF (trdB c n) i0 (n - i0) with
   | some i => match findF (mixB c n i) 0 i with
    | some k => Sum.inl ((0 : Int), (i : Int), (k : Int), ints (els ((strF c n i k).getD 0)), ints (els ((strF c n k i).getD 0)), ())
    | none => Sum.inr ((0 : Int), (0 : Int), ())
   | none => Sum.inr ((0 : Int), (0 : Int), ())) (fun _ _ => True) ?_ ?_ (s := ()) trivial
 ·rw [Nat.sub_zero] at key
  refine bind_eq key ?_
  unfold trdV
  cases findF (trdB c n) 0 n with
  | none => simp [run_sr, run_ret]
  | some i =>
   simp only
   cases findF (mixB c n i) 0 i <;> simp [run_sl, run_sr, run_ret]
 ·rintro i _ hi -
  have e : n - i = (n - (i + 1)) + 1 := by omega
  have hni : rng .i64 ((i : Int) + 1) = true := rng_i64 (by omega) (by omega)
  simp only [g25_0, run_br, run_bd, run_it, run_ret, br_d]
  rw [if_pos (by omega), bind_of (k25_1 hc hi), e]
  cases hf : findF (mixB c n i) 0 i with
  | some k =>
   right
   rw [findF_yes (by simp [trdB, hf])]
   simp [hf, run_sl, run_ret]
  | none =>
   left
   rw [findF_no (by simp [trdB, hf])]
   refine ⟨(), ?_, trivial, rfl⟩
   simp only [run_sr, run_ni, run_ret, hni, need_true]
   rfl
 ·rintro _ -
  simp only [g25_0, run_br, run_ret, br_d]
  rw [if_neg (by omega)]
  simp [findF_zero]
theorem k25_no {c : List Ch} (h : chk c ≠ 0) : run0 (F25 c) = some ((0, 0, [], []), chk c, ()) := by
 simp only [F25, run_bd]
 rw [bind_of (k66_no h)]
 simp only [run_sl, run_br, run_bd, run_ret, br_not, br_eq]
 rw [if_neg h]
/-! The reference's. -/
theorem k70' {c : List Ch} {n i j : Nat} (hc : OkC n c) (hi : i < n) (hj : j < n) : ∃ z : Int, run (fun _ => none) (F70 c (i : Int) (j : Int)) = some (z, ()) ∧ decide (0 ≤ z) = (strF c n i j).isSome ∧ (0 ≤ z → z = (((strF c n i j).getD 0 : Nat) : Int)) := by
 have k := k70 hc hi hj
 cases hs : strF c n i j with
 | none => rw [hs] at k; exact ⟨-1, k, by simp, fun h => by omega⟩
 | some s => rw [hs] at k; exact ⟨(s : Int), k, by simp, fun _ => by simp⟩
theorem k26_1 {c : List Ch} {n i : Nat} (hc : OkC n c) (hi : i < n) : (∃ z, iter (fun a => run (fun _ => none) (g26_1 a)) ((i : Int), ((i + 1 : Nat) : Int), c, (0 : Int), (0 : Int), ()) = some (.inl (0, z)) ∧ ∃ k, i < k ∧ k < n ∧ mixB c n i k = true) ∨
  (iter (fun a => run (fun _ => none) (g26_1 a)) ((i : Int), ((i + 1 : Nat) : Int), c, (0 : Int), (0 : Int), ()) = some (.inr ((i : Int), c, (0 : Int), (0 : Int), ())) ∧ ∀ k, i < k → k < n → mixB c n i k = false) := by
 have hn := hc.n6
 have h0 : 0 < c.length := by have := hc.c1; omega
 have key : ∀ m k, k + m = n → i < k → (∃ z, iter (fun a => run (fun _ => none) (g26_1 a)) ((i : Int), (k : Int), c, (0 : Int), (0 : Int), ()) = some (.inl (0, z)) ∧ ∃ k', k ≤ k' ∧ k' < n ∧ mixB c n i k' = true) ∨
   (iter (fun a => run (fun _ => none) (g26_1 a)) ((i : Int), (k : Int), c, (0 : Int), (0 : Int), ()) = some (.inr ((i : Int), c, (0 : Int), (0 : Int), ())) ∧ ∀ k', k ≤ k' → k' < n → mixB c n i k' = false) := by
  intro m
  induction m with
  | zero =>
   intro k hk hik
   right
   refine ⟨iter_inr ?_, fun k' h1 h2 => by omega⟩
   simp only [g26_1, run_br, run_bd, run_ret, k60 h0, hc.gro, bindO_s, br_d]
   rw [if_neg (by omega)]
  | succ m ih =>
   intro k hk hik
   have hni : rng .i64 ((k : Int) + 1) = true := rng_i64 (by omega) (by omega)
   obtain ⟨z1, a1, a2, a3⟩ := k70' hc hi (show k < n by omega)
   obtain ⟨z2, b1, b2, b3⟩ := k70' hc (show k < n by omega) hi
   have st : run (fun _ => none) (g26_1 ((i : Int), (k : Int), c, (0 : Int), (0 : Int), ())) = if mixB c n i k = true then some (.inr (.inl ((0 : Int), (i : Int), (k : Int), ints (els ((strF c n i k).getD 0)), ints (els ((strF c n k i).getD 0)), ()))) else some (.inl ((i : Int), (k : Int) + 1, c, (0 : Int), (0 : Int), ())) := by
    simp only [g26_1, run_br, run_bd, run_ni, run_ret, k60 h0, hc.gro, bindO_s, hni, need_true, a1, b1, a2, b2]
    rw [show decide ((k : Int) < (n : Int)) = true from decide_eq_true (by omega), br_true]
    rcases Bool.eq_false_or_eq_true (strF c n i k).isSome with h1 | h1
    ·rcases Bool.eq_false_or_eq_true (strF c n k i).isSome with h2 | h2
     ·have c1 := a3 (by rw [h1] at a2; exact of_decide_eq_true a2)
      have c2 := b3 (by rw [h2] at b2; exact of_decide_eq_true b2)
      rw [if_pos (by simp [mixB, h1, h2])]
      simp only [h1, h2, brO_true, c1, c2]
      rw [bind_of (k64 (strF_getD_lt hc)), bind_of (k64 (strF_getD_lt hc))]
     ·rw [if_neg (by simp [mixB, h1, h2])]
      simp [h1, h2]
    ·rw [if_neg (by simp [mixB, h1])]
     simp [h1]
   by_cases hm : mixB c n i k = true
   ·left
    rw [if_pos hm] at st
    exact ⟨_, iter_inr st, k, Nat.le_refl _, by omega, hm⟩
   ·rw [if_neg hm] at st
    have e : (k : Int) + 1 = ((k + 1 : Nat) : Int) := by simp
    rw [e] at st
    rcases ih (k + 1) (by omega) (by omega) with ⟨z, h1, k', h2, h3, h4⟩ | ⟨h1, h2⟩
    ·exact .inl ⟨z, iter_inl st h1, k', by omega, h3, h4⟩
    ·refine .inr ⟨iter_inl st h1, fun k' q1 q2 => ?_⟩
     by_cases hk' : k' = k
     ·subst hk'; simpa using hm
     ·exact h2 k' (by omega) q2
 have := key (n - (i + 1)) (i + 1) (by omega) (by omega)
 simpa only [Nat.succ_le_iff] using this
theorem k26 {c : List Ch} {n : Nat} (hc : OkC n c) (h : chk c = 0) : (∃ t, run0 (F26 c) = some (t, 0, ()) ∧ ∃ i k, i < k ∧ k < n ∧ mixB c n i k = true) ∨ (run0 (F26 c) = some ((0, 0, [], []), 5, ()) ∧ ∀ i k, i < k → k < n → mixB c n i k = false) := by
 have hn := hc.n6
 have h0 : 0 < c.length := by have := hc.c1; omega
 have key : ∀ m i, i + m = n → (∃ z, iter (fun a => run (fun _ => none) (g26_0 a)) ((i : Int), c, (0 : Int), (0 : Int), ()) = some (.inl (0, z)) ∧ ∃ i' k, i' < k ∧ k < n ∧ mixB c n i' k = true) ∨
   (iter (fun a => run (fun _ => none) (g26_0 a)) ((i : Int), c, (0 : Int), (0 : Int), ()) = some (.inr ((0 : Int), (0 : Int), ())) ∧ ∀ i' k, i ≤ i' → i' < k → k < n → mixB c n i' k = false) := by
  intro m
  induction m with
  | zero =>
   intro i hi
   right
   refine ⟨iter_inr ?_, fun i' k h1 h2 h3 => by omega⟩
   simp only [g26_0, run_br, run_bd, run_ret, k60 h0, hc.gro, bindO_s, br_d]
   rw [if_neg (by omega)]
  | succ m ih =>
   intro i hi
   have hni : rng .i64 ((i : Int) + 1) = true := rng_i64 (by omega) (by omega)
   have e : (i : Int) + 1 = ((i + 1 : Nat) : Int) := by simp
   rcases k26_1 hc (show i < n by omega) with ⟨z, h1, k, h2, h3, h4⟩ | ⟨h1, h2⟩
   ·left
    refine ⟨_, iter_inr (b := Sum.inl (0, z)) ?_, i, k, h2, h3, h4⟩
    simp only [g26_0, run_br, run_bd, run_ni, run_it, k60 h0, hc.gro, bindO_s, br_d, hni, need_true]
    rw [if_pos (by omega), e, bind_of h1]
    rfl
   ·have st : run (fun _ => none) (g26_0 ((i : Int), c, (0 : Int), (0 : Int), ())) = some (.inl (((i + 1 : Nat) : Int), c, (0 : Int), (0 : Int), ())) := by
     simp only [g26_0, run_br, run_bd, run_ni, run_it, k60 h0, hc.gro, bindO_s, br_d, hni, need_true]
     rw [if_pos (by omega), e, bind_of h1]
     simp only [run_sr, run_ni, run_ret, hni, need_true]
     rw [e]
    rcases ih (i + 1) (by omega) with ⟨z, q1, q2⟩ | ⟨q1, q2⟩
    ·exact .inl ⟨z, iter_inl st q1, q2⟩
    ·refine .inr ⟨iter_inl st q1, fun i' k r1 r2 r3 => ?_⟩
     by_cases hii : i' = i
     ·subst hii; exact h2 k r2 r3
     ·exact q2 i' k (by omega) r2 r3
 simp only [F26, run_bd, run_br, run_it, run_ret, br_not, br_eq]
 rw [bind_of (k50 c), if_pos h]
 rcases key n 0 (by omega) with ⟨z, h1, h2⟩ | ⟨h1, h2⟩
 ·left
  exact ⟨_, bind_eq h1 rfl, h2⟩
 ·right
  exact ⟨bind_eq h1 rfl, fun i k q1 q2 => h2 i k (by omega) q1 q2⟩
theorem k26_no {c : List Ch} (h : chk c ≠ 0) : run0 (F26 c) = some ((0, 0, [], []), chk c, ()) := by
 simp only [F26, run_bd, run_br, run_ret, br_not, br_eq]
 rw [bind_of (k50 c), if_neg h]
theorem mixB_symm {c : List Ch} {n i k : Nat} : mixB c n i k = mixB c n k i := by unfold mixB; rw [Bool.and_comm]
theorem rd_els {n s : Nat} (hn : n ≤ 6) (hs : s < 2 ^ n) : rd n (ints (els s)) = (s, 0) := by
 have := all_lt2 (n := 7) (m := 64) (p := fun n s => !(decide (s < 2 ^ n)) || decide (rd n (ints (els s)) = (s, 0))) (by decide +kernel) (s := n) (i := s) (by omega) (by have := pow6 hn; omega)
 simpa [hs] using this
/-- What Trade returns is accepted. -/
theorem trd_ok {c : List Ch} {n : Nat} (hc : OkC n c) : (trdV c n = ((0, 0, [], []), 5, ()) ∧ ∀ i k, k < i → i < n → mixB c n i k = false) ∨
  ∃ (i k a b : Nat), k < i ∧ i < n ∧ mixB c n i k = true ∧ trdV c n = (((i : Int), (k : Int), ints (els a), ints (els b)), 0, ()) ∧ verR c n ((i : Int), (k : Int), ints (els a), ints (els b)) = 0 := by
 have hn := hc.n6
 unfold trdV
 cases h1 : findF (trdB c n) 0 n with
 | none =>
  left
  refine ⟨rfl, fun i k hk hi => ?_⟩
  have := findF_none.1 h1 i (by omega) (by omega)
  unfold trdB at this
  have h2 : findF (mixB c n i) 0 i = none := by simpa using this
  exact findF_none.1 h2 k (by omega) (by omega)
 | some i =>
  right
  obtain ⟨_, hi, hb⟩ := findF_some h1
  unfold trdB at hb
  obtain ⟨k, hk⟩ := Option.isSome_iff_exists.1 hb
  obtain ⟨_, hki, hm⟩ := findF_some hk
  simp only [hk]
  have hm' := hm
  unfold mixB at hm'
  rw [Bool.and_eq_true] at hm'
  obtain ⟨a, ha⟩ := Option.isSome_iff_exists.1 hm'.1
  obtain ⟨b, hb⟩ := Option.isSome_iff_exists.1 hm'.2
  rw [ha, hb]
  refine ⟨i, k, a, b, by omega, by omega, hm, rfl, ?_⟩
  have la := strF_lt ha
  have lb := strF_lt hb
  have pa := (findF_some ha).2.2
  have pb := (findF_some hb).2.2
  have ii : inG n (i : Int) = true := decide_eq_true (by omega)
  have ik : inG n (k : Int) = true := decide_eq_true (by omega)
  have hne : ¬ ((i : Int) = (k : Int)) := by omega
  unfold verR
  simp only [rd_els hn la, rd_els hn lb, ii, ik, hne, Bool.true_eq_false, or_self, if_false, ne_eq, not_true, Int.toNat_natCast]
  unfold strB at pa pb
  simp only [Bool.and_eq_true, Bool.not_eq_true'] at pa pb
  unfold verS verOk
  rw [if_neg (by simp [Nat.testBit_or, pa.1.1, pa.1.2, pb.1.1, pb.1.2]), if_pos (by simp [pa.2.1, pa.2.2, pb.2.1, pb.2.2])]
theorem law4 (a0 : List Ch × Unit) (x : Int × Int × List Int × List Int) (hW : WfAll [.prod (.list (.prod (.int .i64) (.list (.int .i64)))) .unit, .prod (.int .i64) (.prod (.int .i64) (.prod (.list (.int .i64)) (.list (.int .i64))))] (a0, x, ())) : run0 (F4 a0 x) = some (true, ()) := by
 obtain ⟨c, u⟩ := a0
 obtain ⟨one, other, wi, an⟩ := x
 have hl := len_ok hW.1
 simp only [F4, run_bd, run_br, run_ret]
 rw [bind_of (k15 hl)]
 cases hL : largeC c
 case true => rw [br_true, bind_of works_ok]
 have h20 := large_len hL
 rw [br_false]
 by_cases h1 : 40 < wi.length
 ·rw [decide_eq_true (by omega), br_true, bind_of works_ok]
 by_cases h2 : 40 < an.length
 ·rw [decide_eq_false (by omega), br_false, decide_eq_true (by omega), br_true, bind_of works_ok]
 rw [decide_eq_false (by omega), br_false, decide_eq_false (by omega), br_false, bind_of (k17 (by omega))]
 simp only [br_not, br_eq]
 by_cases h : chk c = 0
 case neg =>
  rw [bind_of (k23_no h _ _), bind_of (k24_no h _ _), bind_of (k25_no h), bind_of (k26_no h), if_pos rfl, if_pos rfl, if_pos rfl, bind_of (k27_no h _), bind_of (k28_no h _), if_pos rfl, if_neg h, if_pos rfl, if_pos rfl, if_pos (by rfl), if_pos (by rfl), bind_of works_ok]
 have hc := ok_of hL h
 generalize gro c = n at hc
 have hn := hc.n6
 rw [bind_of (k23 hc h _ _), bind_of (k24 hc h _ _), bind_of (k25 hc h)]
 rcases trd_ok hc with ⟨t1, t2⟩ | ⟨i, k, a, b, hk, hi, hm, t1, t2⟩
 ·rcases k26 hc h with ⟨t, r1, i, k, hik, hk, hm⟩ | ⟨r1, _⟩
  ·rw [mixB_symm, t2 k i hik hk] at hm; cases hm
  ·rw [bind_of r1, t1, if_pos rfl, if_pos rfl, if_pos rfl, bind_of (k27 hc h _ _ (by omega) (by omega)), bind_of (k28 hc h _ _ (by omega) (by omega)), if_pos rfl, if_neg (by decide), if_pos rfl, if_pos rfl, if_pos (by rfl), if_pos (by rfl), bind_of works_ok]
 ·rcases k26 hc h with ⟨t, r1, _⟩ | ⟨_, r2⟩
  ·rw [bind_of r1, t1, if_pos rfl, if_pos rfl, if_pos rfl, bind_of (k27 hc h _ _ (by omega) (by omega)), bind_of (k28 hc h _ _ (by omega) (by omega)), if_pos rfl, if_pos rfl,
    bind_of (k28 hc h _ _ (by rw [ints_len]; have := els_len (s := a); omega) (by rw [ints_len]; have := els_len (s := b); omega)), if_pos t2, bind_of works_ok]
  ·rw [mixB_symm, r2 k i hk hi] at hm; cases hm
end Go.Proofs.Tryd
end
