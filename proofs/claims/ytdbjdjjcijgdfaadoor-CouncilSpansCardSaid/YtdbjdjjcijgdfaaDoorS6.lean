/- Tools for laws: rounds that count, find or keep something; needs. Rounds over a list, with a function that says what comes out. Plain Lean. Sets as numbers below 64: their growers, one after the other. Plain Lean. A council is valid: program and reference say the same. A set's weight, and whether it wins: the program's. The reference's sums and wins; councils out of parts; what is known of a council. Sets without some; swings and turns of the program. Swings and turns: the program's and the reference's. Swings and turns of the reference; the law of powers. Swings and turns are as stated. Which of two growers is stronger: the program and the reference. Lists of growers as sets; wins; exchanges: the program and the reference. The weights and quotas with which the same sets win: the program and the reference. The weights and quotas with which the same sets win are as stated. -/
import Derived.Test.YtdbjdjjcijgdfaaDoorG6
set_option linter.unusedSectionVars false
set_option linter.unusedVariables false
set_option linter.unusedSimpArgs false
section
namespace Go.AM
theorem need_u64 {X : Type} {z : Int} {x : Option X} (h1 : 0 ≤ z) (h2 : z ≤ 18446744073709551615) : need (rng .u64 z) x = x := need_t (rng_u64 h1 h2)
theorem bigL_eq : bigL = 1073741824 := by decide
theorem need_big {X : Type} {n : Nat} {x : Option X} (h : n < 1000000000) : need (decide (n < bigL)) x = x := need_d (by rw [bigL_eq]; omega)
theorem need_inbL {X : Type} {i : Int} {x : Option X} (h : 0 ≤ i) (h2 : i < 1000000000) : need (inb i ((bigL : Nat) : Int)) x = x := need_inb h (by rw [bigL_eq]; omega)
/-- Rounds that count, or end early with what was found. -/
theorem iter_find {α β γ : Type} {step : α → Option (α ⊕ β)} (n : Nat) (g : Nat → α) (stop : Nat → Option γ) (inj : γ → β) {b : β}
  (hr : ∀ k, k < n → (∀ j, j < k → stop j = none) → step (g k) = match stop k with | none => some (.inl (g (k + 1))) | some c => some (.inr (inj c))) (he : (∀ j, j < n → stop j = none) → step (g n) = some (.inr b)) :
  iter step (g 0) = some (((List.range n).findSome? stop).elim b inj) := by
 have key : ∀ m k, k + m = n → (∀ j, j < k → stop j = none) → iter step (g k) = some (((List.range' k m).findSome? stop).elim b inj) := by
  intro m
  induction m with
  | zero =>
   intro k hk hs
   have : k = n := by omega
   subst this
   simpa using iter_inr (he hs)
  | succ m ih =>
   intro k hk hs0
   have h := hr k (by omega) hs0
   rw [List.range'_succ, List.findSome?_cons]
   cases hs : stop k with
   | none =>
    rw [hs] at h
    refine iter_inl h (ih (k + 1) (by omega) fun j hj => ?_)
    by_cases e : j = k
    ·rw [e, hs]
    ·exact hs0 j (by omega)
   | some c => rw [hs] at h; exact iter_inr h
 rw [List.range_eq_range']
 exact key n 0 (by omega) (fun j hj => by omega)
/-- Rounds that count and keep something. -/
theorem iter_ex {α β : Type} {step : α → Option (α ⊕ β)} (n : Nat) (I : Nat → α → Prop) (Q : β → Prop) (hr : ∀ k x, k < n → I k x → ∃ y, step x = some (.inl y) ∧ I (k + 1) y) (he : ∀ x, I n x → ∃ b, step x = some (.inr b) ∧ Q b)
  {x : α} (h0 : I 0 x) : ∃ b, iter step x = some b ∧ Q b := by
 have key : ∀ m k x, k + m = n → I k x → ∃ b, iter step x = some b ∧ Q b := by
  intro m
  induction m with
  | zero =>
   intro k x hk hx
   have : k = n := by omega
   subst this
   obtain ⟨b, h1, h2⟩ := he x hx
   exact ⟨b, iter_inr h1, h2⟩
  | succ m ih =>
   intro k x hk hx
   obtain ⟨y, h1, h2⟩ := hr k x (by omega) hx
   obtain ⟨b, h3, h4⟩ := ih (k + 1) y (by omega) h2
   exact ⟨b, iter_inl h1 h3, h4⟩
 exact key n 0 x (by omega) h0
/-- Rounds over the items of a list: the state is what the items so far came to. -/
theorem iter_fold {α β γ σ : Type} {step : α → Option (α ⊕ β)} (l : List γ) (d : γ) (f : σ → γ → σ) (g : Nat → σ → α) (s0 : σ) (I : σ → Prop) {out : σ → β} (h0 : I s0)
  (hr : ∀ k s, k < l.length → I s → I (f s (l.getD k d)) ∧ step (g k s) = some (.inl (g (k + 1) (f s (l.getD k d))))) (he : ∀ s, I s → step (g l.length s) = some (.inr (out s))) :
  iter step (g 0 s0) = some (out (l.foldl f s0)) ∧ I (l.foldl f s0) := by
 have key : ∀ m k s, k + m = l.length → I s → iter step (g k s) = some (out ((l.drop k).foldl f s)) ∧ I ((l.drop k).foldl f s) := by
  intro m
  induction m with
  | zero =>
   intro k s hk hs
   rw [show k = l.length by omega, List.drop_length]
   exact ⟨iter_inr (he s hs), hs⟩
  | succ m ih =>
   intro k s hk hs
   obtain ⟨h1, h2⟩ := hr k s (by omega) hs
   obtain ⟨h3, h4⟩ := ih (k + 1) _ (by omega) h1
   have e : l.drop k = l.getD k d :: l.drop (k + 1) := by
    rw [List.drop_eq_getElem_cons (by omega)]; simp [List.getD_eq_getElem?_getD, List.getElem?_eq_getElem (show k < l.length by omega)]
   rw [e, List.foldl_cons]
   exact ⟨iter_inl h2 h3, h4⟩
 have := key l.length 0 s0 (by omega) h0
 simpa using this
theorem getD_take {α : Type} {l : List α} {k n : Nat} {d : α} (h : k < n) : (l.take n).getD k d = l.getD k d := by
 simp [List.getD_eq_getElem?_getD, List.getElem?_take, h]
theorem getD_mem {α : Type} {l : List α} {k : Nat} {d : α} (h : k < l.length) : l.getD k d ∈ l := by
 simp [List.getD_eq_getElem?_getD, List.getElem?_eq_getElem h]
theorem take_succ_getD {α : Type} {l : List α} {k : Nat} (d : α) (h : k < l.length) : l.take (k + 1) = l.take k ++ [l.getD k d] := by
 rw [List.take_succ_eq_append_getElem h]; simp [List.getD_eq_getElem?_getD, List.getElem?_eq_getElem h]
theorem getD_el {α : Type} {l : List α} {k : Nat} (d : α) (h : k < l.length) : l.getD k d = l[k] := by
 simp [List.getD_eq_getElem?_getD, List.getElem?_eq_getElem h]
theorem getD_out {α : Type} {l : List α} {k : Nat} (d : α) (h : l.length ≤ k) : l.getD k d = d := by
 simp [List.getD_eq_getElem?_getD, List.getElem?_eq_none h]
end Go.AM
end
section
namespace Go.AM
theorem getD_mid {α : Type} {A B : List α} {x d : α} {n : Nat} (h : n = A.length) : (A ++ x :: B).getD n d = x := by
 subst h; simp [List.getD_eq_getElem?_getD]
/-- Rounds over the items of a list: 'G' says what comes out of a state and the items that are left. -/
theorem iter_list {A B S X : Type} {f : A → Option (A ⊕ B)} (xs : List X) (mk : Nat → S → A) (G : S → List X → B) (Inv : List X → S → Prop)
  (hs : ∀ pre x post s, xs = pre ++ x :: post → Inv pre s →
   (∃ s', f (mk pre.length s) = some (.inl (mk (pre.length + 1) s')) ∧ Inv (pre ++ [x]) s' ∧ G s (x :: post) = G s' post) ∨ f (mk pre.length s) = some (.inr (G s (x :: post))))
  (he : ∀ s, Inv xs s → f (mk xs.length s) = some (.inr (G s []))) {s : S} (h0 : Inv [] s) : iter f (mk 0 s) = some (G s xs) := by
 have key : ∀ (post pre : List X) (s : S), xs = pre ++ post → Inv pre s → iter f (mk pre.length s) = some (G s post) := by
  intro post
  induction post with
  | nil =>
   intro pre s hx hi
   have : pre = xs := by rw [hx]; simp
   subst this
   exact iter_inr (he s hi)
  | cons x post ih =>
   intro pre s hx hi
   rcases hs pre x post s hx hi with ⟨s', h1, h2, h3⟩ | h1
   ·refine iter_inl h1 ?_
    rw [h3]
    have := ih (pre ++ [x]) s' (by rw [hx]; simp) h2
    simpa using this
   ·exact iter_inr h1
 exact key xs [] s (by simp) h0
theorem bind_eq {A X : Type} {o : Option A} {a : A} {f : A → Option X} {y : Option X} (h : o = some a) (e : f a = y) : bindO o f = y := by rw [h, bindO_s, e]
theorem bigL_val : ((bigL : Nat) : Int) = 1073741824 := by decide
theorem need_lenbig {X : Type} {n : Nat} {x : Option X} (h : n < 1000000000) : need (decide (n < bigL)) x = x := need_d (by have := bigL_val; omega)
theorem br_true {X : Type} {x y : Option X} : brO true x y = x := by simp
theorem br_false {X : Type} {x y : Option X} : brO false x y = y := by simp
end Go.AM
end
section
namespace Go.Cn
open Go.AM
/-- The growers of a set. -/
def els (s : Nat) : List Nat := (List.range 6).filter s.testBit
/-- The first of them. -/
def tzN (s : Nat) : Nat := ((List.range 6).find? s.testBit).getD 64
def low (s : Nat) : Nat := s &&& (s - 1)
/-- What is so of all small numbers is seen by trying them. -/
theorem all_lt {n : Nat} {p : Nat → Bool} (h : (List.range n).all p = true) {s : Nat} (hs : s < n) : p s = true := List.all_eq_true.1 h s (List.mem_range.2 hs)
theorem all_lt2 {n m : Nat} {p : Nat → Nat → Bool} (h : (List.range n).all (fun s => (List.range m).all (p s)) = true) {s i : Nat} (hs : s < n) (hi : i < m) : p s i = true := all_lt (all_lt h hs) hi
theorem els_zero : els 0 = [] := by decide
theorem els_cons {s : Nat} (hs : s < 64) (h : s ≠ 0) : els s = tzN s :: els (low s) := by
  have := all_lt (n := 64) (p := fun s => s == 0 || decide (els s = tzN s :: els (low s))) (by decide +kernel) hs
  simpa [h] using this
theorem low_lt {s : Nat} (hs : s < 64) (h : s ≠ 0) : low s < s := by
  have := all_lt (n := 64) (p := fun s => s == 0 || decide (low s < s)) (by decide +kernel) hs
  simpa [h] using this
/-- Below 2^n there are only the first n. -/
theorem els_upto {s n : Nat} (hn : n ≤ 6) (hs : s < 2 ^ n) : els s = (List.range n).filter s.testBit := by
  have := all_lt2 (n := 7) (m := 64) (p := fun n s => !(decide (s < 2 ^ n)) || decide (els s = (List.range n).filter s.testBit)) (by decide +kernel) (s := n) (i := s) (by omega) (by
    have : 2 ^ n ≤ 2 ^ 6 := Nat.pow_le_pow_right (by omega) hn
    omega)
  simpa [hs] using this
theorem tz_lt {s n : Nat} (hn : n ≤ 6) (hs : s < 2 ^ n) (h : s ≠ 0) : tzN s < n := by
  have h64 : s < 64 := by
    have : 2 ^ n ≤ 2 ^ 6 := Nat.pow_le_pow_right (by omega) hn
    omega
  have e := els_upto hn hs
  rw [els_cons h64 h] at e
  have : tzN s ∈ (List.range n).filter s.testBit := by rw [← e]; exact List.mem_cons_self ..
  exact List.mem_range.1 (List.mem_filter.1 this).1
theorem pow6 {n : Nat} (hn : n ≤ 6) : 2 ^ n ≤ 64 := Nat.pow_le_pow_right (by omega) hn
/-- Rounds over the growers of a set. -/
theorem iter_els {A B S : Type} {f : A → Option (A ⊕ B)} (mk : Nat → S → A) (G : S → List Nat → B) (Inv : Nat → S → Prop)
    (hs : ∀ s st, s < 64 → s ≠ 0 → Inv s st → (∃ st', f (mk s st) = some (.inl (mk (low s) st')) ∧ Inv (low s) st' ∧ G st (tzN s :: els (low s)) = G st' (els (low s))) ∨ f (mk s st) = some (.inr (G st (tzN s :: els (low s)))))
    (he : ∀ st, Inv 0 st → f (mk 0 st) = some (.inr (G st []))) : ∀ {s : Nat} {st : S}, s < 64 → Inv s st → iter f (mk s st) = some (G st (els s)) := by
  intro s
  induction s using Nat.strongRecOn with
  | ind s ih =>
    intro st h64 hi
    by_cases h0 : s = 0
    · subst h0; rw [els_zero]; exact iter_inr (he st hi)
    · rw [els_cons h64 h0]
      rcases hs s st h64 h0 hi with ⟨st', h1, h2, h3⟩ | h1
      · rw [h3]
        exact iter_inl h1 (ih _ (low_lt h64 h0) (by have := low_lt h64 h0; omega) h2)
      · exact iter_inr h1
/-- Rounds that count up, and carry something. -/
theorem iter_upto {A B S : Type} {f : A → Option (A ⊕ B)} (N : Nat) (mk : Nat → S → A) (G : S → Nat → B) (Inv : Nat → S → Prop)
    (hs : ∀ k st, k < N → Inv k st → (∃ st', f (mk k st) = some (.inl (mk (k + 1) st')) ∧ Inv (k + 1) st' ∧ G st k = G st' (k + 1)) ∨ f (mk k st) = some (.inr (G st k)))
    (he : ∀ st, Inv N st → f (mk N st) = some (.inr (G st N))) {s : S} (h0 : Inv 0 s) : iter f (mk 0 s) = some (G s 0) := by
  have key : ∀ m k s, k + m = N → Inv k s → iter f (mk k s) = some (G s k) := by
    intro m
    induction m with
    | zero => intro k s hk hi; have e : k = N := by omega
              subst e; exact iter_inr (he s hi)
    | succ m ih =>
      intro k s hk hi
      rcases hs k s (by omega) hi with ⟨s', h1, h2, h3⟩ | h1
      · rw [h3]; exact iter_inl h1 (ih (k + 1) s' (by omega) h2)
      · exact iter_inr h1
  exact key N 0 s (by omega) h0
/-! Operations on 64 els, on small numbers. -/
theorem u_with {s i : Nat} (hs : s < 64) (hi : i < 6) : ar0.bits IBin.or .u64 (s : Int) (ar0.shl (1 : Int) (i : Int)) = ((s ||| 2 ^ i : Nat) : Int) := by
  have := all_lt2 (n := 64) (m := 6) (p := fun s i => ar0.bits IBin.or .u64 (s : Int) (ar0.shl (1 : Int) (i : Int)) == ((s ||| 2 ^ i : Nat) : Int)) (by kernel_rfl) hs hi
  simpa using this
/-- A set without one. -/
def wo (s i : Nat) : Nat := if s.testBit i then s - 2 ^ i else s
theorem u_wo {s i : Nat} (hs : s < 64) (hi : i < 6) : ar0.bits IBin.andNot .u64 (s : Int) (ar0.shl (1 : Int) (i : Int)) = ((wo s i : Nat) : Int) := by
  have := all_lt2 (n := 64) (m := 6) (p := fun s i => ar0.bits IBin.andNot .u64 (s : Int) (ar0.shl (1 : Int) (i : Int)) == ((wo s i : Nat) : Int)) (by kernel_rfl) hs hi
  simpa using this
theorem u_low {s : Nat} (hs : s < 64) (h : s ≠ 0) : ar0.bits IBin.and .u64 (s : Int) ((s : Int) - 1) = ((low s : Nat) : Int) := by
  have := all_lt (n := 64) (p := fun s => s == 0 || ar0.bits IBin.and .u64 (s : Int) ((s : Int) - 1) == ((low s : Nat) : Int)) (by kernel_rfl) hs
  simpa [h] using this
theorem i_has {s i : Nat} (hs : s < 64) (hi : i < 6) : (ar0.bits IBin.and .i64 (ar0.shr (s : Int) (i : Int)) (1 : Int) == (1 : Int)) = s.testBit i := by
  have := all_lt2 (n := 64) (m := 6) (p := fun s i => (ar0.bits IBin.and .i64 (ar0.shr (s : Int) (i : Int)) (1 : Int) == (1 : Int)) == s.testBit i) (by kernel_rfl) hs hi
  simpa using this
theorem i_wo {s i : Nat} (hs : s < 64) (hi : i < 6) : ar0.bits IBin.andNot .i64 (s : Int) (ar0.shl (1 : Int) (i : Int)) = ((wo s i : Nat) : Int) := by
  have := all_lt2 (n := 64) (m := 6) (p := fun s i => ar0.bits IBin.andNot .i64 (s : Int) (ar0.shl (1 : Int) (i : Int)) == ((wo s i : Nat) : Int)) (by kernel_rfl) hs hi
  simpa using this
theorem shl_one {i : Nat} (hi : i < 12) : ar0.shl (1 : Int) (i : Int) = ((2 ^ i : Nat) : Int) := by
  have := all_lt (n := 12) (p := fun i => ar0.shl (1 : Int) (i : Int) == ((2 ^ i : Nat) : Int)) (by kernel_rfl) hi
  simpa using this
theorem wo_lt {s i n : Nat} (hs : s < n) : wo s i < n := by
  have := Nat.sub_le s (2 ^ i)
  unfold wo; split <;> omega
theorem or_lt {s i n : Nat} (hn : n ≤ 6) (hs : s < 2 ^ n) (hi : i < n) : s ||| 2 ^ i < 2 ^ n := Nat.or_lt_two_pow hs (Nat.pow_lt_pow_right (by omega) hi)
end Go.Cn
end
section
namespace Go.Proofs.Tryd
open Go.AM Go.Cn
set_option maxRecDepth 100000
abbrev Ch := Int × List Int
def gro (c : List Ch) : Nat := (c.getD 0 ((0 : Int), [])).2.length
def badW (z : Int) : Bool := !decide (0 ≤ z ∧ z ≤ 1000000)
def okCh (n : Nat) (x : Ch) : Int := if x.2.length ≠ n then 3 else if ¬ (1 ≤ x.1 ∧ x.1 ≤ 10000000) then 2 else if x.2.any badW = true then 2 else 0
def chkL (n : Nat) : List Ch → Int
 | [] => 0
 | x :: r => if okCh n x ≠ 0 then okCh n x else chkL n r
def chk (c : List Ch) : Int := if c.length = 0 then 4 else if 3 < c.length then 1 else if gro c = 0 then 4 else if 9 < gro c then 1 else chkL (gro c) c
def largeOne (x : Ch) : Bool := (decide (6 < x.2.length) && decide (x.2.length ≤ 9)) || decide (40 < x.2.length)
def largeC (c : List Ch) : Bool := decide (20 < c.length) || c.any largeOne
theorem k67 (a b c : Int) : run0 (F67 a b c) = some (decide (a ≤ b ∧ b ≤ c), ()) := by
 simp only [F67, run_br, run_ret, br_d]
 by_cases h : a ≤ b
 ·rw [if_pos h]; simp [h]
 ·rw [if_neg h]; simp [h]
theorem k69 (a b c : Int) : run0 (F69 a b c) = some (decide (b ≤ a ∧ a ≤ c), ()) := by
 simp only [F69, run_br, run_ret, br_d]
 by_cases h : b ≤ a
 ·rw [if_pos h]; simp [h]
 ·rw [if_neg h]; simp [h]
theorem k91 {c : List Ch} (h : 0 < c.length) : run0 (F91 c) = some (((gro c : Nat) : Int), ()) := by
 simp only [F91, run_nb, run_ret]
 rw [need_inb (by omega) (by omega)]; rfl
theorem k60 {c : List Ch} (h : 0 < c.length) : run0 (F60 c) = some (((gro c : Nat) : Int), ()) := by
 simp only [F60, run_nb, run_ret]
 rw [need_inb (by omega) (by omega)]; rfl
theorem k92 (z : Int) : run0 (F92 z) = some (badW z, ()) := by
 simp only [F92, run_bd, k67, bindO_s, run_ret, badW]
theorem k15 {c : List Ch} (hc : c.length < 9223372036854775808) : run0 (F15 c) = some (largeC c, ()) := by
 simp only [F15, run_bd, run_it]
 refine bind_eq (iter_list c (fun k (s : Bool) => (s, (k : Int), c, ())) (fun s r => (s || r.any largeOne, ())) (fun _ _ => True) ?_ ?_ (s := decide ((20 : Int) < ((c.length : Nat) : Int))) trivial) ?_
 ·rintro pre x post s hx -
  left
  have hlen : c.length = pre.length + (post.length + 1) := by rw [hx]; simp
  have hd : c.getD pre.length ((0 : Int), []) = x := by rw [hx]; exact getD_mid rfl
  refine ⟨s || largeOne x, ?_, trivial, by simp [Bool.or_assoc]⟩
  have hin : inb (pre.length : Int) ((c.length : Nat) : Int) = true := inb_t (by omega) (by omega)
  have hni : rng .i64 ((pre.length : Int) + 1) = true := rng_i64 (by omega) (by omega)
  simp only [g15_0, run_br, run_nb, run_ni, run_ret, Int.toNat_natCast, hd, br_d, hin, hni, need_true]
  rw [if_pos (by omega)]
  cases s
  ·simp only [brO_false, largeOne, Bool.false_or]
   by_cases h1 : 6 < x.2.length
   ·rw [if_pos (by omega)]
    by_cases h2 : x.2.length ≤ 9
    ·rw [if_pos (by omega)]; simp [h1, h2]
    ·rw [if_neg (by omega)]; simp [h1, h2]
     omega
   ·rw [if_neg (by omega)]; simp [h1]
    omega
  ·simp
 ·intro s _
  simp only [g15_0, run_br, run_ret, br_d]
  rw [if_neg (by omega)]; simp
 ·simp only [run_ret, largeC]
  congr 3
  have e : decide ((20 : Int) < ((c.length : Nat) : Int)) = decide (20 < c.length) := by
   apply decide_eq_decide.2; omega
  rw [e]
theorem k105 {l : List Int} (hl : l.length < 1000) : ∃ k : Int, run0 (F105 l) = some (k, ()) ∧ (0 ≤ k ↔ l.any badW = true) := by
 simp only [F105, run_bd, run_it]
 have := iter_list l (f := fun a => run (fun _ => none) (g105_0 a)) (fun k (s : Nat) => (l, ((l.length : Nat) : Int), (k : Int), ())) (fun s r => match r.findIdx? badW with | some k => .inl (((s + k : Nat) : Int), ()) | none => .inr ()) (fun pre s => s = pre.length) ?_ ?_ (s := 0) rfl
 ·replace this : iter (fun a => run (fun _ => none) (g105_0 a)) (l, ((l.length : Nat) : Int), (0 : Int), ()) = _ := this
  rw [bind_of this]
  cases hf : l.findIdx? badW with
  | none =>
   simp only [run_sr, run_ret]
   exact ⟨-1, rfl, by simp only [show ¬ ((0 : Int) ≤ -1) by omega, false_iff]; simpa using List.findIdx?_eq_none_iff.1 hf⟩
  | some k =>
   simp only [run_sl, run_ret]
   refine ⟨_, rfl, by
    simp only [show (0 : Int) ≤ ((0 + k : Nat) : Int) by omega, true_iff]
    obtain ⟨hk, h1, _⟩ := List.findIdx?_eq_some_iff_getElem.1 hf
    exact List.any_eq_true.2 ⟨_, List.getElem_mem hk, h1⟩⟩
 ·rintro pre x post s hx rfl
  have hlen : l.length = pre.length + (post.length + 1) := by rw [hx]; simp
  have hd : l.getD pre.length (0 : Int) = x := by rw [hx]; exact getD_mid rfl
  have hin : inb (pre.length : Int) ((l.length : Nat) : Int) = true := inb_t (by omega) (by omega)
  have hni : rng .i64 ((pre.length : Int) + 1) = true := rng_i64 (by omega) (by omega)
  simp only [g105_0, run_br, run_bd, run_nb, run_ni, run_ret, Int.toNat_natCast, hd, br_d, hin, hni, need_true, k92, bindO_s]
  rw [if_pos (by omega)]
  cases hb : badW x
  ·left
   refine ⟨pre.length + 1, by simp, by simp, ?_⟩
   rw [List.findIdx?_cons, hb]
   cases post.findIdx? badW with
   | none => rfl
   | some k => simp; omega
  ·right
   rw [List.findIdx?_cons, hb]; simp
 ·rintro s rfl
  simp only [g105_0, run_br, run_ret, br_d]
  rw [if_neg (by omega)]; rfl
theorem k93 {l : List Int} (hl : l.length < 1000) : run0 (F93 l) = some (l.any badW, ()) := by
 obtain ⟨k, h1, h2⟩ := k105 hl
 simp only [F93, run_bd, run_ret]
 rw [bind_of h1]
 congr 2
 cases h : l.any badW
 ·rw [h] at h2; simp only [decide_eq_false_iff_not]; intro e; exact absurd (h2.1 e) (by simp)
 ·rw [h] at h2; simp only [decide_eq_true_eq]; exact h2.2 rfl
theorem k41 (c : List Ch) : run0 (F41 c) = some (chk c, ()) := by
 simp only [F41, run_br, run_ret, br_eq, br_d, chk]
 by_cases h0 : c.length = 0
 ·rw [if_pos (by omega), if_pos h0]
 rw [if_neg (by omega), if_neg h0]
 by_cases h1 : 3 < c.length
 ·rw [if_pos (by omega), if_pos h1]
 rw [if_neg (by omega), if_neg h1]
 simp only [run_bd, k91 (show 0 < c.length by omega), bindO_s, run_br, br_eq, br_d, run_ret]
 by_cases h2 : gro c = 0
 ·rw [if_pos (by omega), if_pos h2]
 rw [if_neg (by omega), if_neg h2]
 by_cases h3 : 9 < gro c
 ·rw [if_pos (by omega), if_pos h3]
 rw [if_neg (by omega), if_neg h3]
 simp only [run_it]
 refine bind_eq (iter_list c (fun k (s : Unit) => (c, ((c.length : Nat) : Int), (k : Int), c, ())) (fun _ r => if chkL (gro c) r = 0 then Sum.inr () else Sum.inl (chkL (gro c) r, ())) (fun _ _ => True) ?_ ?_ (s := ()) trivial) ?_
 ·rintro pre x post s hx -
  have hlen : c.length = pre.length + (post.length + 1) := by rw [hx]; simp
  have hd : c.getD pre.length ((0 : Int), []) = x := by rw [hx]; exact getD_mid rfl
  have hin : inb (pre.length : Int) ((c.length : Nat) : Int) = true := inb_t (by omega) (by omega)
  have hni : rng .i64 ((pre.length : Int) + 1) = true := rng_i64 (by omega) (by omega)
  simp only [g41_0, run_br, run_bd, run_nb, run_ni, run_ret, Int.toNat_natCast, hd, br_d, br_eq, br_not, hin, hni, need_true, k91 (show 0 < c.length by omega), k67, bindO_s]
  rw [if_pos (by omega)]
  by_cases h4 : x.2.length = gro c
  case neg =>
   right
   rw [if_neg (by omega)]
   simp [chkL, okCh, h4]
  rw [if_pos (by omega)]
  by_cases h5 : 1 ≤ x.1 ∧ x.1 ≤ 10000000
  case neg =>
   right
   rw [if_neg h5]
   simp only [chkL, okCh, if_neg (not_not_intro h4), if_pos h5]; simp
  rw [if_pos h5, bind_of (k93 (show x.2.length < 1000 by omega))]
  cases h6 : x.2.any badW
  ·left
   refine ⟨(), by simp, trivial, ?_⟩
   simp [chkL, okCh, h4, h5, h6]
  ·right
   simp [chkL, okCh, h4, h5, h6]
 ·intro s _
  simp only [g41_0, run_br, run_ret, br_d]
  rw [if_neg (by omega)]; simp [chkL]
 ·cases h : decide (chkL (gro c) c = 0)
  ·have h' := of_decide_eq_false h
   simp only [if_neg h', run_sl, run_ret]
  ·have h' := of_decide_eq_true h
   simp only [if_pos h', run_sr, run_ret]; rw [h']
theorem k50_1 {l : List Int} (hl : l.length < 1000) (c : List Ch) (q v : Int) : iter (fun a => run (fun _ => none) (g50_1 a)) (v, (0 : Int), c, q, l, ()) = some (if l.any badW = true then .inl (2, ()) else .inr (v, c, ())) := by
 refine iter_list l (fun k (s : Unit) => (v, (k : Int), c, q, l, ())) (fun _ r => if r.any badW = true then Sum.inl (2, ()) else Sum.inr (v, c, ())) (fun _ _ => True) ?_ ?_ (s := ()) trivial
 ·rintro pre x post s hx -
  have hlen : l.length = pre.length + (post.length + 1) := by rw [hx]; simp
  have hd : l.getD pre.length (0 : Int) = x := by rw [hx]; exact getD_mid rfl
  have hin : inb (pre.length : Int) ((l.length : Nat) : Int) = true := inb_t (by omega) (by omega)
  have hni : rng .i64 ((pre.length : Int) + 1) = true := rng_i64 (by omega) (by omega)
  simp only [g50_1, run_br, run_bd, run_nb, run_ni, run_ret, Int.toNat_natCast, hd, br_d, br_not, hin, hni, need_true, k69, bindO_s]
  rw [if_pos (by omega)]
  by_cases h : 0 ≤ x ∧ x ≤ 1000000
  ·left
   refine ⟨(), by rw [if_pos h]; rfl, trivial, by simp [badW, h]⟩
  ·right
   rw [if_neg h]
   have : badW x = true := by unfold badW; rw [decide_eq_false h]; rfl
   simp [this]
 ·intro s _
  simp only [g50_1, run_br, run_ret, br_d]
  rw [if_neg (by omega)]; simp
theorem k50 (c : List Ch) : run0 (F50 c) = some (chk c, ()) := by
 simp only [F50, run_br, run_ret, br_eq, br_d, chk]
 by_cases h0 : c.length = 0
 ·rw [if_pos (by omega), if_pos h0]
 rw [if_neg (by omega), if_neg h0]
 by_cases h1 : 3 < c.length
 ·rw [if_pos (by omega), if_pos h1]
 rw [if_neg (by omega), if_neg h1]
 simp only [run_bd, k60 (show 0 < c.length by omega), bindO_s, run_br, br_eq, br_d, run_ret]
 by_cases h2 : gro c = 0
 ·rw [if_pos (by omega), if_pos h2]
 rw [if_neg (by omega), if_neg h2]
 by_cases h3 : 9 < gro c
 ·rw [if_pos (by omega), if_pos h3]
 rw [if_neg (by omega), if_neg h3]
 simp only [run_it]
 refine bind_eq (iter_list c (fun k (s : Unit) => ((k : Int), c, ())) (fun _ r => if chkL (gro c) r = 0 then Sum.inr () else Sum.inl (chkL (gro c) r, ())) (fun _ _ => True) ?_ ?_ (s := ()) trivial) ?_
 ·rintro pre x post s hx -
  have hlen : c.length = pre.length + (post.length + 1) := by rw [hx]; simp
  have hd : c.getD pre.length ((0 : Int), []) = x := by rw [hx]; exact getD_mid rfl
  have hin : inb (pre.length : Int) ((c.length : Nat) : Int) = true := inb_t (by omega) (by omega)
  have hni : rng .i64 ((pre.length : Int) + 1) = true := rng_i64 (by omega) (by omega)
  simp only [g50_0, run_br, run_bd, run_it, run_nb, run_ret, Int.toNat_natCast, hd, br_d, br_eq, br_not, hin, need_true, k60 (show 0 < c.length by omega), k69, bindO_s]
  rw [if_pos (by omega)]
  by_cases h4 : x.2.length = gro c
  case neg =>
   right
   rw [if_neg (by omega)]
   simp [chkL, okCh, h4]
  rw [if_pos (by omega)]
  by_cases h5 : 1 ≤ x.1 ∧ x.1 ≤ 10000000
  case neg =>
   right
   rw [if_neg h5]
   simp only [chkL, okCh, if_neg (not_not_intro h4), if_pos h5]; simp
  rw [if_pos h5, bind_of (k50_1 (show x.2.length < 1000 by omega) c x.1 _)]
  cases h6 : x.2.any badW
  ·left
   refine ⟨(), ?_, trivial, ?_⟩
   ·simp only [Bool.false_eq_true, if_false, run_sr, run_ni, run_ret, hni, need_true]; simp
   ·simp [chkL, okCh, h4, h5, h6]
  ·right
   simp [chkL, okCh, h4, h5, h6, run_sl, run_ret]
 ·intro s _
  simp only [g50_0, run_br, run_ret, br_d]
  rw [if_neg (by omega)]; simp [chkL]
 ·cases h : decide (chkL (gro c) c = 0)
  ·have h' := of_decide_eq_false h
   simp only [if_neg h', run_sl, run_ret]
  ·have h' := of_decide_eq_true h
   simp only [if_pos h', run_sr, run_ret]; rw [h']
end Go.Proofs.Tryd
end
section
namespace Go.Proofs.Tryd
open Go.AM Go.Cn
set_option maxRecDepth 100000
/-- The weight of a set. -/
def wt (ws : List Int) (s : Nat) : Int := ((els s).map fun i => ws.getD i 0).sum
/-- A set wins in a chamber; in all. -/
def win1 (s : Nat) (x : Ch) : Bool := decide (x.1 ≤ wt x.2 s)
def winB (c : List Ch) (s : Nat) : Bool := c.all (win1 s)
/-- A chamber of n growers. -/
structure OkX (n : Nat) (x : Ch) : Prop where
 len : x.2.length = n
 q1 : 1 ≤ x.1
 q2 : x.1 ≤ 10000000
 w : ∀ z ∈ x.2, 0 ≤ z ∧ z ≤ 1000000
/-- A council of n growers, not too large. -/
structure OkC (n : Nat) (c : List Ch) : Prop where
 c1 : 1 ≤ c.length
 c3 : c.length ≤ 3
 n1 : 1 ≤ n
 n6 : n ≤ 6
 gro : gro c = n
 ch : ∀ x ∈ c, OkX n x
theorem OkX.get {n : Nat} {x : Ch} (h : OkX n x) (i : Nat) : 0 ≤ x.2.getD i 0 ∧ x.2.getD i 0 ≤ 1000000 := by
 by_cases hi : i < x.2.length
 ·rw [show x.2.getD i 0 = x.2[i] by simp [List.getD, hi]]; exact h.w _ (List.getElem_mem hi)
 ·rw [show x.2.getD i 0 = 0 by simp [List.getD, hi]]; omega
theorem k101 {s : Nat} (hs : s < 64) (h : s ≠ 0) : run0 (F101 (s : Int)) = some (((tzN s : Nat) : Int), ()) := by
 have := all_lt (n := 64) (p := fun s => s == 0 || decide (cmp 40 (fun _ => none) (F101 ((s : Nat) : Int)) = some (((tzN s : Nat) : Int), ()))) (by kernel_rfl) hs
 simp only [Bool.or_eq_true, beq_iff_eq, h, false_or, decide_eq_true_eq] at this
 exact cmp_done 40 this
theorem els_len {s : Nat} : (els s).length ≤ 6 := by
 have := List.length_filter_le s.testBit (List.range 6)
 simpa [els] using this
theorem k78 {n s : Nat} {x : Ch} (hx : OkX n x) (hn : n ≤ 6) (hs : s < 2 ^ n) : run0 (F78 x (s : Int)) = some (wt x.2 s, ()) := by
 have h64 : s < 64 := Nat.lt_of_lt_of_le hs (pow6 hn)
 simp only [F78, FH77, g78_0, run_bd, run_it, run_ret, bindO_s]
 refine bind_eq (a := (wt x.2 s, ())) (bind_eq (iter_els (fun s' (st : Int) => ((0 : Int), (s' : Int), x.1, x.2, st, ())) (fun st r => (x.1, x.2, st + (r.map fun i => x.2.getD i 0).sum, (0 : Int), (0 : Int), ()))
  (fun s' st => s' < 2 ^ n ∧ 0 ≤ st ∧ st + 1000000 * ((els s').length : Int) ≤ 6000000) ?_ ?_ (s := s) (st := 0) h64 ⟨hs, by omega, by have := els_len (s := s); omega⟩) ?_) rfl
 ·rintro s' st h64 h0 ⟨hs', b1, b2⟩
  left
  have ht := tz_lt hn hs' h0
  have hl := low_lt h64 h0
  have hw := hx.get (tzN s')
  have e := congrArg List.length (els_cons h64 h0)
  rw [List.length_cons] at e
  refine ⟨st + x.2.getD (tzN s') 0, ?_, ⟨by omega, by omega, by omega⟩, ?_⟩
  ·have hin : inb ((tzN s' : Nat) : Int) ((x.2.length : Nat) : Int) = true := inb_t (by omega) (by have := hx.len; omega)
   have hni : rng .i64 (st + x.2.getD (tzN s') 0) = true := rng_i64 (by omega) (by omega)
   have hnu : rng .u64 ((s' : Int) - 1) = true := rng_u64 (by omega) (by omega)
   simp only [g78_0i_0, run_br, run_bd, run_nb, run_ni, run_nd, run_ret, br_not, br_eq, k101 h64 h0, bindO_s, Int.toNat_natCast, hin, hni, hnu, need_true, u_low h64 h0]
   rw [if_neg (by omega)]
  ·simp only [List.map_cons, List.sum_cons, Int.add_assoc]
 ·rintro st -
  simp only [g78_0i_0, run_br, run_ret, br_not, br_eq]
  simp
 ·simp only [wt, Int.zero_add]
theorem k84 {n s : Nat} {x : Ch} (hx : OkX n x) (hn : n ≤ 6) (hs : s < 2 ^ n) : run0 (F84 x (s : Int)) = some (win1 s x, ()) := by
 simp only [F84, run_bd, run_ret]
 rw [bind_of (k78 hx hn hs)]; rfl
theorem k104 {n s : Nat} {x : Ch} (hx : OkX n x) (hn : n ≤ 6) (hs : s < 2 ^ n) : run0 (F104 x.1 x.2 (s : Int)) = some (!win1 s x, ()) := by
 simp only [F104, run_bd, run_ret]
 rw [bind_of (k84 (x := x) hx hn hs)]
theorem k113 {n s : Nat} {c : List Ch} (hc : ∀ x ∈ c, OkX n x) (hl : c.length < 1000) (hn : n ≤ 6) (hs : s < 2 ^ n) : ∃ k : Int, run0 (F113 c (s : Int)) = some (k, ()) ∧ (0 ≤ k ↔ winB c s = false) := by
 simp only [F113, run_bd, run_it]
 have := iter_list c (f := fun a => run (fun _ => none) (g113_0 a)) (fun k (_ : Unit) => (c, (s : Int), ((c.length : Nat) : Int), (k : Int), ())) (fun _ r => match r.findIdx? (fun x => !win1 s x) with | some k => .inl (((c.length - r.length + k : Nat) : Int), ()) | none => .inr ()) (fun _ _ => True) ?_ ?_ (s := ()) trivial
 ·replace this : iter (fun a => run (fun _ => none) (g113_0 a)) (c, (s : Int), ((c.length : Nat) : Int), (0 : Int), ()) = _ := this
  rw [bind_of this]
  cases hf : c.findIdx? (fun x => !win1 s x) with
  | none =>
   simp only [run_sr, run_ret]
   refine ⟨-1, rfl, ?_⟩
   have h := List.findIdx?_eq_none_iff.1 hf
   have : winB c s = true := List.all_eq_true.2 fun x hx => by simpa using h x hx
   simp [this]
  | some k =>
   simp only [run_sl, run_ret]
   obtain ⟨hk, h1, _⟩ := List.findIdx?_eq_some_iff_getElem.1 hf
   refine ⟨_, rfl, ?_⟩
   have : winB c s = false := by
    rw [Bool.eq_false_iff]
    intro h
    have := List.all_eq_true.1 h _ (List.getElem_mem hk)
    rw [this] at h1; cases h1
   rw [this]
   simp only [iff_true]
   omega
 ·rintro pre x post _ hxx -
  have hlen : c.length = pre.length + (post.length + 1) := by rw [hxx]; simp
  have hd : c.getD pre.length ((0 : Int), []) = x := by rw [hxx]; exact getD_mid rfl
  have hx : OkX n x := hc x (by rw [hxx]; simp)
  have hin : inb (pre.length : Int) ((c.length : Nat) : Int) = true := inb_t (by omega) (by omega)
  have hni : rng .i64 ((pre.length : Int) + 1) = true := rng_i64 (by omega) (by omega)
  simp only [g113_0, run_br, run_bd, run_nb, run_ni, run_ret, Int.toNat_natCast, hd, br_d, hin, hni, need_true, k104 hx hn hs, bindO_s]
  rw [if_pos (by omega)]
  cases hb : win1 s x
  ·right
   rw [List.findIdx?_cons]
   have e : c.length - (x :: post).length = pre.length := by rw [List.length_cons]; omega
   simp only [hb, Bool.not_false, if_true, brO_true, e, Nat.add_zero]
  ·left
   refine ⟨(), by simp, trivial, ?_⟩
   rw [List.findIdx?_cons]
   simp only [hb, Bool.not_true, Bool.false_eq_true, if_false]
   cases post.findIdx? (fun x => !win1 s x) with
   | none => rfl
   | some k => simp; omega
 ·rintro _ -
  simp only [g113_0, run_br, run_ret, br_d]
  rw [if_neg (by omega)]; rfl
end Go.Proofs.Tryd
end
section
namespace Go.Proofs.Tryd
open Go.AM Go.Cn
set_option maxRecDepth 100000
theorem wt_range {n s : Nat} {ws : List Int} (hn : n ≤ 6) (hs : s < 2 ^ n) : wt ws s = (((List.range n).filter s.testBit).map fun i => ws.getD i 0).sum := by
 rw [wt, els_upto hn hs]
theorem k79 {n s : Nat} {x : Ch} (hx : OkX n x) (hn : n ≤ 6) (hs : s < 2 ^ n) : run0 (F79 x (s : Int)) = some (wt x.2 s, ()) := by
 have h64 : s < 64 := Nat.lt_of_lt_of_le hs (pow6 hn)
 simp only [F79, run_bd, run_it, run_ret]
 refine bind_eq (iter_upto n (fun k (st : Int) => ((s : Int), st, (k : Int), x.1, x.2, ())) (fun st k => (st + (((List.range' k (n - k)).filter s.testBit).map fun i => x.2.getD i 0).sum, ()))
  (fun k st => 0 ≤ st ∧ st ≤ 1000000 * (k : Int)) ?_ ?_ (s := 0) ⟨by omega, by omega⟩) ?_
 ·rintro k st hk ⟨b1, b2⟩
  left
  have hw := hx.get k
  have hl := hx.len
  have hin : inb (k : Int) ((x.2.length : Nat) : Int) = true := inb_t (by omega) (by omega)
  have hi6 : inb (k : Int) 64 = true := inb_t (by omega) (by omega)
  have hni : rng .i64 ((k : Int) + 1) = true := rng_i64 (by omega) (by omega)
  have hni2 : rng .i64 (st + x.2.getD k 0) = true := rng_i64 (by omega) (by omega)
  have e : n - k = (n - (k + 1)) + 1 := by omega
  simp only [g79_0, run_br, run_nb, run_ni, run_ret, Int.toNat_natCast, br_d, hin, hi6, hni, hni2, need_true, i_has h64 (show k < 6 by omega)]
  rw [if_pos (by omega), e, List.range'_succ, List.filter_cons]
  cases hb : s.testBit k
  ·exact ⟨st, by simp, ⟨by omega, by omega⟩, by simp⟩
  ·exact ⟨st + x.2.getD k 0, by simp, ⟨by omega, by omega⟩, by simp only [if_true, List.map_cons, List.sum_cons, Int.add_assoc]⟩
 ·rintro st -
  have hl := hx.len
  simp only [g79_0, run_br, run_ret, br_d]
  rw [if_neg (by omega)]; simp
 ·rw [wt_range hn hs, List.range_eq_range']; simp
/-- All chambers but one. -/
def passL (s : Nat) (but : Int) : Nat → List Ch → Bool
 | _, [] => true
 | k, x :: r => (decide ((k : Int) = but) || win1 s x) && passL s but (k + 1) r
def dropL (but : Int) : Nat → List Ch → List Ch
 | _, [] => []
 | k, x :: r => if (k : Int) = but then dropL but (k + 1) r else x :: dropL but (k + 1) r
theorem pass_drop (s : Nat) (but : Int) : ∀ (k : Nat) (c : List Ch), passL s but k c = winB (dropL but k c) s
 | _, [] => rfl
 | k, x :: r => by
  simp only [passL, dropL, pass_drop s but (k + 1) r]
  by_cases h : (k : Int) = but
  ·simp [h]
  ·simp [h, winB]
theorem drop_none : ∀ (k : Nat) (c : List Ch), dropL (-1) k c = c
 | _, [] => rfl
 | k, x :: r => by
  simp only [dropL, drop_none (k + 1) r]
  rw [if_neg (by omega)]
theorem drop_len (but : Int) : ∀ (k : Nat) (c : List Ch), (dropL but k c).length ≤ c.length
 | _, [] => Nat.le_refl _
 | k, x :: r => by
  have := drop_len but (k + 1) r
  simp only [dropL]
  split <;> simp <;> omega
theorem drop_mem {but : Int} {x : Ch} : ∀ {k : Nat} {c : List Ch}, x ∈ dropL but k c → x ∈ c
 | _, [], h => h
 | k, y :: r, h => by
  simp only [dropL] at h
  split at h
  ·exact List.mem_cons_of_mem _ (drop_mem h)
  ·rcases List.mem_cons.1 h with rfl | h
   ·exact List.mem_cons_self ..
   ·exact List.mem_cons_of_mem _ (drop_mem h)
theorem k86 {n s : Nat} {c : List Ch} (hc : OkC n c) (hs : s < 2 ^ n) (but : Int) : run0 (F86 c (s : Int) but) = some (passL s but 0 c, ()) := by
 simp only [F86, run_bd, run_it]
 refine bind_eq (iter_list c (fun k (_ : Unit) => ((s : Int), but, (k : Int), c, ())) (fun _ r => if passL s but (c.length - r.length) r = true then .inr () else .inl ()) (fun _ _ => True) ?_ ?_ (s := ()) trivial) ?_
 ·rintro pre x post _ hxx -
  have hlen : c.length = pre.length + (post.length + 1) := by rw [hxx]; simp
  have hd : c.getD pre.length ((0 : Int), []) = x := by rw [hxx]; exact getD_mid rfl
  have hx : OkX n x := hc.ch x (by rw [hxx]; simp)
  have h3 := hc.c3
  have hin : inb (pre.length : Int) ((c.length : Nat) : Int) = true := inb_t (by omega) (by omega)
  have hni : rng .i64 ((pre.length : Int) + 1) = true := rng_i64 (by omega) (by omega)
  have e1 : c.length - (x :: post).length = pre.length := by simp; omega
  have e2 : c.length - post.length = pre.length + 1 := by omega
  simp only [g86_0, run_br, run_bd, run_nb, run_ni, run_ret, Int.toNat_natCast, hd, br_d, br_eq, br_not, hin, hni, need_true, k79 hx hc.n6 hs, bindO_s]
  rw [if_pos (by omega)]
  simp only [e1, e2, passL]
  by_cases hb : (pre.length : Int) = but
  ·left
   rw [if_pos hb]
   exact ⟨(), rfl, trivial, by simp [hb]⟩
  rw [if_neg hb]
  by_cases hw : wt x.2 s < x.1
  ·right
   rw [if_pos hw]
   have : win1 s x = false := by simp only [win1, decide_eq_false_iff_not]; omega
   simp [hb, this]
  ·left
   rw [if_neg hw]
   have : win1 s x = true := by simp only [win1, decide_eq_true_eq]; omega
   exact ⟨(), rfl, trivial, by simp [hb, this]⟩
 ·rintro _ -
  simp only [g86_0, run_br, run_ret, br_d]
  rw [if_neg (by omega)]; simp [passL]
 ·have e : c.length - c.length = 0 := by omega
  rw [e]
  cases h : passL s but 0 c <;> simp [run_sl, run_sr, run_ret]
theorem k76 {n s : Nat} {c : List Ch} (hc : OkC n c) (hs : s < 2 ^ n) : run0 (F76 c (s : Int)) = some (winB c s, ()) := by
 simp only [F76, run_bd, run_ret]
 rw [bind_of (k86 hc hs _), pass_drop, drop_none]
theorem k81 (c : List Ch) (hl : c.length < 1000) (but : Int) : run0 (F81 c but) = some (dropL but 0 c, ()) := by
 simp only [F81, run_bd, run_it]
 refine bind_eq (iter_list c (fun k (st : List Ch) => (but, st.length, c, ((c.length : Nat) : Int), (k : Int), st, ())) (fun st r => ((st ++ dropL but (c.length - r.length) r).length, st ++ dropL but (c.length - r.length) r, ())) (fun pre st => st.length ≤ pre.length) ?_ ?_ (s := []) (by simp)) ?_
 ·rintro pre x post st hxx hst
  left
  have hlen : c.length = pre.length + (post.length + 1) := by rw [hxx]; simp
  have hd : c.getD pre.length ((0 : Int), []) = x := by rw [hxx]; exact getD_mid rfl
  have hin : inb (pre.length : Int) ((c.length : Nat) : Int) = true := inb_t (by omega) (by omega)
  have hni : rng .i64 ((pre.length : Int) + 1) = true := rng_i64 (by omega) (by omega)
  have e1 : c.length - (x :: post).length = pre.length := by simp; omega
  have e2 : c.length - post.length = pre.length + 1 := by omega
  simp only [g81_0, run_br, run_bd, run_nb, run_nd, run_ni, run_ret, Int.toNat_natCast, hd, br_d, br_eq, br_not, hin, hni, need_true]
  rw [if_pos (by omega)]
  simp only [e1, e2, dropL]
  by_cases hb : (pre.length : Int) = but
  ·rw [if_pos hb]
   exact ⟨st, rfl, by simp; omega, by simp [hb]⟩
  ·rw [if_neg hb]
   refine ⟨st ++ [x], ?_, by simp; omega, by simp [hb]⟩
   rw [need_lenbig (by simp; omega)]
   simp
 ·rintro st -
  simp only [g81_0, run_br, run_ret, br_d]
  rw [if_neg (by omega)]; simp [dropL]
 ·have e : c.length - c.length = 0 := by omega
  simp only [e, run_ret]; simp
theorem k66_no {c : List Ch} (h : chk c ≠ 0) : run0 (F66 c) = some (.inl ([], 0, 0, chk c, ())) := by
 simp only [F66, run_bd, run_br, run_ret, k41, bindO_s, br_not, br_eq]
 rw [if_neg h]
theorem k66 {n : Nat} {c : List Ch} (hc : OkC n c) (h : chk c = 0) : run0 (F66 c) = some (.inr (c, c, (n : Int), ((2 ^ n - 1 : Nat) : Int), 0, ())) := by
 have h1 := hc.c1
 have h3 := hc.c3
 have hn := hc.n6
 simp only [F66, run_bd, run_br, run_ret, k41, bindO_s, br_not, br_eq]
 rw [if_pos h, bind_of (k81 c (by omega) _), drop_none]
 have hp : 0 < 2 ^ n := Nat.pow_pos (by omega)
 have hp2 := pow6 hn
 have e : (((2 ^ n : Nat) : Int) - 1) = ((2 ^ n - 1 : Nat) : Int) := by omega
 simp only [k91 (show 0 < c.length by omega), hc.gro, bindO_s, run_nb, run_nd, run_ret, shl_one (show n < 12 by omega)]
 rw [need_inb (by omega) (by omega), need_t (rng_u64 (by omega) (by omega)), need_t (rng_u64 (by omega) (by omega)), e]
theorem k17 {c : List Ch} (hl : c.length ≤ 1000) : run0 (F17 c) = some ((c, ()), ()) := by
 simp only [F17, run_bd, run_it]
 refine bind_eq (iter_list c (fun k (st : List Ch) => ((k : Int), c, st.length, st, ())) (fun st r => ((st ++ r).length, st ++ r, ())) (fun pre st => st = pre) ?_ ?_ (s := []) rfl) ?_
 ·rintro pre x post st hxx rfl
  left
  have hlen : c.length = st.length + (post.length + 1) := by rw [hxx]; simp
  have hd : c.getD st.length ((0 : Int), []) = x := by rw [hxx]; exact getD_mid rfl
  have hin : inb (st.length : Int) ((c.length : Nat) : Int) = true := inb_t (by omega) (by omega)
  have hni : rng .i64 ((st.length : Int) + 1) = true := rng_i64 (by omega) (by omega)
  refine ⟨st ++ [x], ?_, rfl, by simp⟩
  simp only [g17_0, run_br, run_bd, run_nb, run_nd, run_ni, run_ret, Int.toNat_natCast, hd, br_d, hin, hni, need_true]
  rw [if_pos (by omega), need_lenbig (by simp; omega)]
  simp
 ·rintro st rfl
  simp only [g17_0, run_br, run_ret, br_d]
  rw [if_neg (by omega)]; simp
 ·simp only [run_ret]; simp
end Go.Proofs.Tryd
end
section
namespace Go.Proofs.Tryd
open Go.AM Go.Cn
set_option maxRecDepth 100000
theorem u_rng {i : Nat} (hi : i < 6) : rng .u64 (ar0.shl (1 : Int) (i : Int)) = true := by
 have := all_lt (n := 6) (p := fun i => rng .u64 (ar0.shl (1 : Int) (i : Int))) (by kernel_rfl) hi
 exact this
theorem i_rng {i : Nat} (hi : i < 6) : rng .i64 (ar0.shl (1 : Int) (i : Int)) = true := by
 have := all_lt (n := 6) (p := fun i => rng .i64 (ar0.shl (1 : Int) (i : Int))) (by kernel_rfl) hi
 exact this
theorem wo_eq {s i : Nat} (hs : s < 64) (hi : i < 6) : (((s : Nat) : Int) = ((wo s i : Nat) : Int)) ↔ s.testBit i = false := by
 have := all_lt2 (n := 64) (m := 6) (p := fun s i => decide ((((s : Nat) : Int) = ((wo s i : Nat) : Int)) ↔ s.testBit i = false)) (by kernel_rfl) hs hi
 exact of_decide_eq_true this
/-- A set without those of a list. -/
def woL (s : Nat) (l : List Nat) : Nat := l.foldl wo s
abbrev ints (l : List Nat) : List Int := l.map fun i : Nat => (i : Int)
theorem k90 {s : Nat} {l : List Nat} (hs : s < 64) (hl : ∀ i ∈ l, i < 6) (hn : l.length < 1000) : run0 (F90 (s : Int) (ints l)) = some (((woL s l : Nat) : Int), ()) := by
 simp only [F90, run_bd, run_it]
 refine bind_eq (iter_list l (fun k (st : Nat) => ((st : Int), ints l, (((ints l).length : Nat) : Int), (k : Int), ())) (fun st r => (((woL st r : Nat) : Int), ())) (fun _ st => st < 64) ?_ ?_ (s := s) hs) ?_
 ·rintro pre x post st hx hst
  left
  have hlen : l.length = pre.length + (post.length + 1) := by rw [hx]; simp
  have hd : (ints l).getD pre.length (0 : Int) = (x : Int) := by
   rw [hx]; simp only [ints, List.map_append, List.map_cons]
   exact getD_mid (by simp)
  have hx6 : x < 6 := hl x (by rw [hx]; simp)
  have hin : inb (pre.length : Int) (((ints l).length : Nat) : Int) = true := inb_t (by omega) (by simp; omega)
  have hni : rng .i64 ((pre.length : Int) + 1) = true := rng_i64 (by omega) (by omega)
  have hi6 : inb (x : Int) 64 = true := inb_t (by omega) (by omega)
  refine ⟨wo st x, ?_, wo_lt hst, rfl⟩
  simp only [g90_0, run_br, run_nb, run_ni, run_nd, run_ret, Int.toNat_natCast, hd, br_d, hin, hni, hi6, need_true, u_rng hx6, u_wo hst hx6]
  rw [if_pos (by simp; omega)]; rfl
 ·rintro st -
  simp only [g90_0, run_br, run_ret, br_d]
  rw [if_neg (by simp)]; rfl
 ·rfl
theorem k74 {s i n : Nat} (hn : n ≤ 6) (hs : s < 2 ^ n) (hi : i < n) : run0 (F74 (s : Int) (i : Int)) = some (((s ||| 2 ^ i : Nat) : Int), ()) := by
 have h64 : s < 64 := Nat.lt_of_lt_of_le hs (pow6 hn)
 simp only [F74, run_nb, run_nd, run_ret, u_rng (show i < 6 by omega), need_true, u_with h64 (show i < 6 by omega)]
 rw [need_inb (by omega) (by omega)]
theorem inc_u {k n : Nat} (hn : n ≤ 6) (hk : k < 2 ^ n) : rng .u64 ((k : Int) + 1) = true := by
 have := pow6 hn
 exact rng_u64 (by omega) (by omega)
end Go.Proofs.Tryd
end
section
namespace Go.Proofs.Tryd
open Go.AM Go.Cn
set_option maxRecDepth 100000
theorem dt1 {α : Type} (x : α) : List.take 1 (List.drop 0 [x]) = [x] := rfl
/-! Turns: how many orders. -/
end Go.Proofs.Tryd
end
section
namespace Go.Proofs.Tryd
open Go.AM Go.Cn
set_option maxRecDepth 100000
theorem ok_of {c : List Ch} (hl : largeC c = false) (h : chk c = 0) : OkC (gro c) c := by
 unfold chk at h
 split at h
 ·cases h
 rename_i h1
 split at h
 ·cases h
 rename_i h2
 split at h
 ·cases h
 rename_i h3
 split at h
 ·cases h
 rename_i h4
 have hall : ∀ (n : Nat) (l : List Ch), chkL n l = 0 → ∀ x ∈ l, okCh n x = 0 := by
  intro n l
  induction l with
  | nil => intro _ x hx; cases hx
  | cons y r ih =>
   intro h x hx
   simp only [chkL] at h
   by_cases hy : okCh n y = 0
   ·rw [if_neg (by simpa using hy)] at h
    rcases List.mem_cons.1 hx with rfl | hx
    ·exact hy
    ·exact ih h x hx
   ·rw [if_pos hy] at h; exact absurd h hy
 have hx : ∀ x ∈ c, OkX (gro c) x := fun x hx => by
  have := hall _ _ h x hx
  unfold okCh at this
  split at this
  ·cases this
  rename_i e1
  split at this
  ·cases this
  rename_i e2
  split at this
  ·cases this
  rename_i e3
  refine ⟨Decidable.not_not.1 e1, (Decidable.not_not.1 e2).1, (Decidable.not_not.1 e2).2, fun z hz => ?_⟩
  have hb : badW z = false := by
   rw [Bool.eq_false_iff]
   intro hb
   exact e3 (List.any_eq_true.2 ⟨z, hz, hb⟩)
  unfold badW at hb
  simpa using hb
 refine ⟨by omega, by omega, by omega, ?_, rfl, hx⟩
 unfold largeC at hl
 rw [Bool.or_eq_false_iff] at hl
 have hmem : c.getD 0 ((0 : Int), []) ∈ c := by
  cases c with
  | nil => exact absurd rfl h1
  | cons x r => exact List.mem_cons_self ..
 have h5 := List.any_eq_false.1 hl.2 _ hmem
 unfold largeOne at h5
 have h6 : (c.getD 0 ((0 : Int), [])).2.length = gro c := rfl
 rw [h6] at h5
 simp at h5
 omega
theorem shl_n {n : Nat} (hn : n ≤ 6) : ar0.shl (1 : Int) (n : Int) = ((2 ^ n : Nat) : Int) := shl_one (by omega)
theorem works_ok : run0 F16 = some (true, ()) := cmp_done 200 (by kernel_rfl)
end Go.Proofs.Tryd
end
section
namespace Go.Proofs.Tryd
open Go.AM Go.Cn
set_option maxRecDepth 100000
theorem len_ok {c : List Ch} (h : Wf (.prod (.list (.prod (.int .i64) (.list (.int .i64)))) .unit) (c, ())) : c.length < 9223372036854775808 := by
 have := h.1.1
 have e : maxLen < 9223372036854775808 := by decide
 exact Nat.lt_of_le_of_lt this e
theorem large_len {c : List Ch} (h : largeC c = false) : c.length ≤ 20 := by
 unfold largeC at h
 rw [Bool.or_eq_false_iff] at h
 have := of_decide_eq_false h.1
 omega
end Go.Proofs.Tryd
end
section
namespace Go.Proofs.Tryd
open Go.AM Go.Cn
set_option maxRecDepth 100000
/-- A number names a grower. -/
def inG (n : Nat) (z : Int) : Bool := decide (0 ≤ z ∧ z ≤ (n : Int) - 1)
theorem inG_nat {n : Nat} {z : Int} (h : inG n z = true) : ∃ i : Nat, i < n ∧ z = (i : Int) := by
 have := of_decide_eq_true h
 exact ⟨z.toNat, by omega, by omega⟩
theorem n_rng {n : Nat} (h : n ≤ 6) : rng .i64 ((n : Int) - 1) = true := rng_i64 (by omega) (by omega)
end Go.Proofs.Tryd
end
section
namespace Go.Proofs.Tryd
open Go.AM Go.Cn
set_option maxRecDepth 100000
/-- A list of growers, read: its set, or an error. -/
def rdL (n : Nat) : Int → Nat → List Int → Nat × Int
 | _, s, [] => (s, 0)
 | last, s, x :: r => if inG n x = false then (0, 5) else if x ≤ last then (0, 7) else rdL n x (s ||| 2 ^ x.toNat) r
def rd (n : Nat) (l : List Int) : Nat × Int := rdL n (-1) 0 l
theorem k69' {n : Nat} (z : Int) : run (fun _ => none) (F69 z 0 ((n : Int) - 1)) = some (inG n z, ()) := k69 _ _ _
end Go.Proofs.Tryd
end
section
namespace Go.Proofs.Tryd
open Go.AM Go.Cn
set_option maxRecDepth 100000
theorem k83' {n s : Nat} {c : List Ch} (hx : ∀ x ∈ c, OkX n x) (hl : c.length < 1000) (hn : n ≤ 6) (hs : s < 2 ^ n) : run0 (F83 c (s : Int)) = some (winB c s, ()) := by
 obtain ⟨k, h1, h2⟩ := k113 hx hl hn hs
 have h103 : run0 (F103 c (s : Int)) = some (!winB c s, ()) := by
  simp only [F103, run_bd, run_ret]
  rw [bind_of h1]
  congr 2
  cases h : winB c s
  ·rw [h] at h2; simp only [Bool.not_false, decide_eq_true_eq]; exact h2.2 rfl
  ·rw [h] at h2; simp only [Bool.not_true, decide_eq_false_iff_not]; intro e; exact absurd (h2.1 e) (by simp)
 simp only [F83, run_bd, run_ret]
 rw [bind_of h103, Bool.not_not]
theorem wt_bd {n : Nat} {x : Ch} (hx : OkX n x) (s : Nat) : 0 ≤ wt x.2 s ∧ wt x.2 s ≤ 6000000 := by
 have key : ∀ l : List Nat, 0 ≤ (l.map fun i => x.2.getD i 0).sum ∧ (l.map fun i => x.2.getD i 0).sum ≤ 1000000 * (l.length : Int) := by
  intro l
  induction l with
  | nil => simp
  | cons i l ih =>
   have := hx.get i
   simp only [List.map_cons, List.sum_cons, List.length_cons]
   omega
 have := key (els s)
 have h6 := els_len (s := s)
 unfold wt
 omega
/-- Something carried over some of the numbers from k on. -/
def foldF {S : Type} (p : Nat → Bool) (f : S → Nat → S) (st : S) (k m : Nat) : S := ((List.range' k m).filter p).foldl f st
theorem foldF_zero {S : Type} {p : Nat → Bool} {f : S → Nat → S} {st : S} {k : Nat} : foldF p f st k 0 = st := rfl
theorem foldF_yes {S : Type} {p : Nat → Bool} {f : S → Nat → S} {st : S} {k m : Nat} (h : p k = true) : foldF p f st k (m + 1) = foldF p f (f st k) (k + 1) m := by
 simp [foldF, List.range'_succ, h]
theorem foldF_no {S : Type} {p : Nat → Bool} {f : S → Nat → S} {st : S} {k m : Nat} (h : p k = false) : foldF p f st k (m + 1) = foldF p f st (k + 1) m := by
 simp [foldF, List.range'_succ, h]
theorem foldF_same {S : Type} {p : Nat → Bool} {f : S → Nat → S} {st : S} {k m : Nat} (h : f st k = st) : foldF p f st k (m + 1) = foldF p f st (k + 1) m := by
 cases hp : p k
 ·exact foldF_no hp
 ·rw [foldF_yes hp, h]
/-- A set's word on the span of a weight; on that of a quota. -/
def stepW (x : Ch) (D : List Ch) (g : Nat) (st : Int × Int) (s : Nat) : Int × Int :=
 if winB D (s ||| 2 ^ g) = true then (if win1 (s ||| 2 ^ g) x = true then (imax st.1 (x.1 - wt x.2 s), st.2) else (st.1, imin st.2 (x.1 - wt x.2 s - 1))) else st
def stepQ (x : Ch) (D : List Ch) (st : Int × Int) (s : Nat) : Int × Int :=
 if winB D s = true then (if win1 s x = true then (st.1, imin st.2 (wt x.2 s)) else (imax st.1 (wt x.2 s + 1), st.2)) else st
def hasNo (g s : Nat) : Bool := !s.testBit g
def spanW (x : Ch) (D : List Ch) (n g : Nat) : Int × Int := foldF (hasNo g) (stepW x D g) (0, 1000000) 0 (2 ^ n)
def spanQ (x : Ch) (D : List Ch) (n : Nat) : Int × Int := foldF (fun _ => true) (stepQ x D) (1, 10000000) 0 (2 ^ n)
section
variable {c : List Ch} {n : Nat} {x : Ch} {D : List Ch}
theorem k31_0 {g : Nat} (hc : OkC n c) (hg : g < n) (hx : OkX n x) (hD : ∀ y ∈ D, OkX n y) (hDl : D.length < 1000) :
  run0 (g31_0 ((0 : Int), c, c, (n : Int), ((2 ^ n - 1 : Nat) : Int), [(g : Int)], (g : Int), (0 : Int), (0 : Int), x.1, x.2, D, (0 : Int), (1000000 : Int), ())) = some ((0 : Int), (0 : Int), (spanW x D n g).1, (spanW x D n g).2, ()) := by
 have hn := hc.n6
 have hp : 0 < 2 ^ n := Nat.pow_pos (by omega)
 have h64 := pow6 hn
 simp only [g31_0, run_bd, run_it, run_ret]
 refine bind_eq (iter_upto (f := fun a => run (fun _ => none) (g31_0i_0 a)) (2 ^ n) (fun k (st : Int × Int) => (c, c, (n : Int), ((2 ^ n - 1 : Nat) : Int), [(g : Int)], (k : Int), (0 : Int), c, c, (n : Int), ((2 ^ n - 1 : Nat) : Int), [(g : Int)], (g : Int), (0 : Int), (0 : Int), x.1, x.2, D, st.1, st.2, ()))
  (fun st k => ((g : Int), (0 : Int), (0 : Int), x.1, x.2, D, (foldF (hasNo g) (stepW x D g) st k (2 ^ n - k)).1, (foldF (hasNo g) (stepW x D g) st k (2 ^ n - k)).2, (0 : Int), c, c, (n : Int), ((2 ^ n - 1 : Nat) : Int), [(g : Int)], ())) (fun _ _ => True) ?_ ?_ (s := (0, 1000000)) trivial) (by simp [spanW])
 ·rintro k ⟨lo, hi⟩ hk -
  left
  have hb : run (fun _ => none) (F90 (k : Int) [(g : Int)]) = _ := k90 (s := k) (l := [g]) (by omega) (by simp; omega) (by simp)
  have e : 2 ^ n - k = (2 ^ n - (k + 1)) + 1 := by omega
  have q1 : run (fun _ => none) (F83 D ((k ||| 2 ^ g : Nat) : Int)) = _ := k83' hD hDl hn (or_lt hn hk hg)
  have q2 : run (fun _ => none) (F84 x ((k ||| 2 ^ g : Nat) : Int)) = _ := k84 hx hn (or_lt hn hk hg)
  have q3 : run (fun _ => none) (F78 x (k : Int)) = _ := k78 hx hn hk
  have hw := wt_bd hx k
  have hq1 := hx.q1
  have hq2 := hx.q2
  have r1 : rng .i64 (x.1 - wt x.2 k) = true := rng_i64 (by omega) (by omega)
  have r2 : rng .i64 (x.1 - wt x.2 k - 1) = true := rng_i64 (by omega) (by omega)
  simp only [g31_0i_0, run_br, run_bd, run_ni, run_nd, run_ret, br_d, br_eq, br_not, inc_u hn hk, need_true, Prod.eta]
  rw [if_pos (by omega), bind_of hb]
  simp only [woL, List.foldl_cons, List.foldl_nil, wo_eq (show k < 64 by omega) (show g < 6 by omega), k74 hn hk hg, q1, q2, q3, bindO_s, r1, r2, need_true]
  rw [e]
  cases h1 : k.testBit g
  case true =>
   rw [foldF_no (by simp [hasNo, h1])]
   exact ⟨(lo, hi), by simp, trivial, rfl⟩
  cases h2 : winB D (k ||| 2 ^ g)
  case false =>
   rw [foldF_same (by simp [stepW, h2])]
   exact ⟨(lo, hi), by simp, trivial, rfl⟩
  rw [foldF_yes (by simp [hasNo, h1])]
  cases h3 : win1 (k ||| 2 ^ g) x
  ·refine ⟨_, ?_, trivial, rfl⟩
   simp [stepW, h2, h3]
  ·refine ⟨_, ?_, trivial, rfl⟩
   simp [stepW, h2, h3]
 ·rintro ⟨lo, hi⟩ -
  simp only [g31_0i_0, run_br, run_ret, br_d]
  rw [if_neg (by omega)]
  simp [foldF_zero]
theorem k33_0 (hc : OkC n c) (hx : OkX n x) (hD : ∀ y ∈ D, OkX n y) (hDl : D.length < 1000) :
  run0 (g33_0 ((0 : Int), c, c, (n : Int), ((2 ^ n - 1 : Nat) : Int), [], (0 : Int), (0 : Int), x.1, x.2, D, (1 : Int), (10000000 : Int), ())) = some ((0 : Int), (0 : Int), (spanQ x D n).1, (spanQ x D n).2, ()) := by
 have hn := hc.n6
 have hp : 0 < 2 ^ n := Nat.pow_pos (by omega)
 have h64 := pow6 hn
 simp only [g33_0, run_bd, run_it, run_ret]
 refine bind_eq (iter_upto (f := fun a => run (fun _ => none) (g33_0i_0 a)) (2 ^ n) (fun k (st : Int × Int) => (c, c, (n : Int), ((2 ^ n - 1 : Nat) : Int), [], (k : Int), (0 : Int), c, c, (n : Int), ((2 ^ n - 1 : Nat) : Int), [], (0 : Int), (0 : Int), x.1, x.2, D, st.1, st.2, ()))
  (fun st k => ((0 : Int), (0 : Int), x.1, x.2, D, (foldF (fun _ => true) (stepQ x D) st k (2 ^ n - k)).1, (foldF (fun _ => true) (stepQ x D) st k (2 ^ n - k)).2, (0 : Int), c, c, (n : Int), ((2 ^ n - 1 : Nat) : Int), [], ())) (fun _ _ => True) ?_ ?_ (s := (1, 10000000)) trivial) (by simp [spanQ])
 ·rintro k ⟨lo, hi⟩ hk -
  left
  have hb : run (fun _ => none) (F90 (k : Int) []) = _ := k90 (s := k) (l := []) (by omega) (by simp) (by simp)
  have e : 2 ^ n - k = (2 ^ n - (k + 1)) + 1 := by omega
  have q1 : run (fun _ => none) (F83 D (k : Int)) = _ := k83' hD hDl hn hk
  have q2 : run (fun _ => none) (F84 x (k : Int)) = _ := k84 hx hn hk
  have q3 : run (fun _ => none) (F78 x (k : Int)) = _ := k78 hx hn hk
  have hw := wt_bd hx k
  have r1 : rng .i64 (wt x.2 k + 1) = true := rng_i64 (by omega) (by omega)
  simp only [g33_0i_0, run_br, run_bd, run_ni, run_nd, run_ret, br_d, br_eq, br_not, inc_u hn hk, need_true, Prod.eta]
  rw [if_pos (by omega), bind_of hb]
  simp only [woL, List.foldl_nil, q1, q2, q3, bindO_s, r1, need_true, if_true]
  rw [e]
  cases h2 : winB D k
  case false =>
   rw [foldF_same (by simp [stepQ, h2])]
   exact ⟨(lo, hi), by simp, trivial, rfl⟩
  rw [foldF_yes rfl]
  cases h3 : win1 k x
  ·refine ⟨_, ?_, trivial, rfl⟩
   simp [stepQ, h2, h3]
  ·refine ⟨_, ?_, trivial, rfl⟩
   simp [stepQ, h2, h3]
 ·rintro ⟨lo, hi⟩ -
  simp only [g33_0i_0, run_br, run_ret, br_d]
  rw [if_neg (by omega)]
  simp [foldF_zero]
/-- Wins in all are those in one and in the others. -/
theorem win_drop {s : Nat} : ∀ {k j : Nat} {c : List Ch}, j < c.length → winB c s = (winB (dropL ((k + j : Nat) : Int) k c) s && win1 s (c.getD j ((0 : Int), [])))
 | k, j, [], h => by simp at h
 | k, 0, x :: r, h => by
  have hd : ∀ (m : Nat) (r : List Ch), k < m → dropL ((k : Nat) : Int) m r = r := by
   intro m r
   induction r generalizing m with
   | nil => intro _; rfl
   | cons y r ih => intro hm; simp only [dropL]; rw [if_neg (by omega), ih (m + 1) (by omega)]
  simp only [dropL, Nat.add_zero, if_pos, hd (k + 1) r (by omega), winB, List.all_cons, List.getD_cons_zero]
  rw [Bool.and_comm]
 | k, j + 1, x :: r, h => by
  have ih := win_drop (s := s) (k := k + 1) (j := j) (c := r) (by simp at h; omega)
  have e : k + (j + 1) = k + 1 + j := by omega
  simp only [dropL, List.getD_cons_succ]
  rw [if_neg (by omega), e]
  simp only [winB, List.all_cons] at ih ⊢
  rw [ih, Bool.and_assoc]
def inC (c : List Ch) (z : Int) : Bool := decide (0 ≤ z ∧ z ≤ ((c.length : Nat) : Int) - 1)
theorem inC_nat {z : Int} (h : inC c z = true) : ∃ i : Nat, i < c.length ∧ z = (i : Int) := by
 have := of_decide_eq_true h
 exact ⟨z.toNat, by omega, by omega⟩
theorem with_map {n g : Nat} (hn : n ≤ 6) (hg : g < n) : (List.range' 0 (2 ^ n)).filter (fun s => s.testBit g) = ((List.range' 0 (2 ^ n)).filter (hasNo g)).map fun s => s ||| 2 ^ g := by
 have := all_lt2 (n := 7) (m := 6) (p := fun n g => !(decide (g < n)) || decide ((List.range' 0 (2 ^ n)).filter (fun s => s.testBit g) = ((List.range' 0 (2 ^ n)).filter (hasNo g)).map fun s => s ||| 2 ^ g)) (by decide +kernel) (s := n) (i := g) (by omega) (by omega)
 simpa [hg] using this
theorem wo_with {s g : Nat} (hs : s < 64) (hg : g < 6) (h : s.testBit g = true) : s = (wo s g) ||| 2 ^ g := by
 have := all_lt2 (n := 64) (m := 6) (p := fun s g => !s.testBit g || decide (s = (wo s g) ||| 2 ^ g)) (by decide +kernel) hs hg
 simpa [h] using this
theorem with_wo {s g : Nat} (hs : s < 64) (hg : g < 6) (h : hasNo g s = true) : wo (s ||| 2 ^ g) g = s := by
 have := all_lt2 (n := 64) (m := 6) (p := fun s g => !hasNo g s || decide (wo (s ||| 2 ^ g) g = s)) (by decide +kernel) hs hg
 simpa [h] using this
/-- The reference goes through the sets with the grower. -/
theorem span_ref {g : Nat} (hn : n ≤ 6) (hg : g < n) (st : Int × Int) : foldF (fun s => s.testBit g) (fun st s => stepW x D g st (wo s g)) st 0 (2 ^ n) = foldF (hasNo g) (stepW x D g) st 0 (2 ^ n) := by
 unfold foldF
 rw [with_map hn hg, List.foldl_map]
 have key : ∀ (l : List Nat) (st : Int × Int), (∀ s ∈ l, s < 64 ∧ hasNo g s = true) → l.foldl (fun st s => stepW x D g st (wo (s ||| 2 ^ g) g)) st = l.foldl (stepW x D g) st := by
  intro l
  induction l with
  | nil => intro st _; rfl
  | cons s l ih =>
   intro st h
   obtain ⟨h1, h2⟩ := h s (by simp)
   simp only [List.foldl_cons, with_wo h1 (show g < 6 by omega) h2]
   exact ih _ fun s hs => h s (by simp [hs])
 refine key _ _ fun s hs => ?_
 rw [List.mem_filter, List.mem_range'_1] at hs
 have := pow6 hn
 exact ⟨by omega, hs.2⟩
theorem k32_0 {ch g : Nat} (hc : OkC n c) (hg : g < n) (hch : ch < c.length) (hx : c.getD ch ((0 : Int), []) = x) (hD : dropL (ch : Int) 0 c = D) :
  iter (fun a => run (fun _ => none) (g32_0 a)) ((ch : Int), (g : Int), (0 : Int), c, (0 : Int), (0 : Int), x.1, x.2, (0 : Int), (1000000 : Int), ()) = some ((0 : Int), (0 : Int), (spanW x D n g).1, (spanW x D n g).2, ()) := by
 have hn := hc.n6
 have hp : 0 < 2 ^ n := Nat.pow_pos (by omega)
 have h64 := pow6 hn
 have h0 : 0 < c.length := by omega
 have hxo : OkX n x := hc.ch x (by rw [← hx]; simp [List.getD, hch])
 have key := iter_upto (f := fun a => run (fun _ => none) (g32_0 a)) (2 ^ n) (fun k (st : Int × Int) => ((ch : Int), (g : Int), (k : Int), c, (0 : Int), (0 : Int), x.1, x.2, st.1, st.2, ()))
  (fun st k => ((0 : Int), (0 : Int), (foldF (fun s => s.testBit g) (fun st s => stepW x D g st (wo s g)) st k (2 ^ n - k)).1, (foldF (fun s => s.testBit g) (fun st s => stepW x D g st (wo s g)) st k (2 ^ n - k)).2, ())) (fun _ _ => True) ?_ ?_ (s := (0, 1000000)) trivial
 ·refine Eq.trans key ?_
  rw [Nat.sub_zero, span_ref hn hg]; rfl
 ·rintro k ⟨lo, hi⟩ hk -
  left
  have e : 2 ^ n - k = (2 ^ n - (k + 1)) + 1 := by omega
  have hbit : (ar0.bits IBin.and .i64 (ar0.shr (k : Int) (g : Int)) (1 : Int) == (0 : Int)) = !k.testBit g := by
   have := all_lt2 (n := 64) (m := 6) (p := fun s i => (ar0.bits IBin.and .i64 (ar0.shr (s : Int) (i : Int)) (1 : Int) == (0 : Int)) == !s.testBit i) (by kernel_rfl) (show k < 64 by omega) (show g < 6 by omega)
   simpa using this
  have hin : inb (g : Int) 64 = true := inb_t (by omega) (by omega)
  have hni : rng .i64 ((k : Int) + 1) = true := rng_i64 (by omega) (by omega)
  have hlt : wo k g < 2 ^ n := wo_lt hk
  have q1 : run (fun _ => none) (F86 c (k : Int) (ch : Int)) = _ := k86 hc hk (ch : Int)
  have q2 : run (fun _ => none) (F79 x ((wo k g : Nat) : Int)) = _ := k79 hxo hn hlt
  have q3 : run (fun _ => none) (F76 c (k : Int)) = _ := k76 hc hk
  rw [pass_drop, hD] at q1
  have hw := wt_bd hxo (wo k g)
  have hq1 := hxo.q1
  have hq2 := hxo.q2
  have r1 : rng .i64 (x.1 - wt x.2 (wo k g)) = true := rng_i64 (by omega) (by omega)
  have r2 : rng .i64 (x.1 - wt x.2 (wo k g) - 1) = true := rng_i64 (by omega) (by omega)
  simp only [g32_0, run_br, run_bd, run_nb, run_ni, run_ret, k60 h0, hc.gro, bindO_s, br_d, hbit, hin, hni, need_true, shl_n hn, i_rng (show g < 6 by omega), i_wo (show k < 64 by omega) (show g < 6 by omega), q1, q2, q3, r1, r2, Prod.eta, br_not]
  rw [need_inb (by omega) (by omega), need_t (rng_i64 (by omega) (by omega)), if_pos (by omega), e]
  cases h1 : k.testBit g
  case false =>
   rw [foldF_no (by simpa using h1)]
   exact ⟨(lo, hi), by simp, trivial, rfl⟩
  have ew := wo_with (show k < 64 by omega) (show g < 6 by omega) h1
  cases h2 : winB D k
  case false =>
   rw [foldF_same (by simp only [stepW]; rw [← ew, if_neg (by rw [h2]; simp)])]
   exact ⟨(lo, hi), by simp, trivial, rfl⟩
  rw [foldF_yes (by simpa using h1)]
  have hall := win_drop (s := k) (k := 0) (j := ch) hch
  rw [Nat.zero_add, hD, hx, h2, Bool.true_and] at hall
  refine ⟨_, ?_, trivial, rfl⟩
  simp only [stepW]
  rw [← ew, if_pos h2, hall]
  cases h3 : win1 k x <;> simp
 ·rintro ⟨lo, hi⟩ -
  simp only [g32_0, run_br, run_bd, run_nb, run_ni, run_ret, k60 h0, hc.gro, bindO_s, br_d, shl_n hn]
  rw [need_inb (by omega) (by omega), need_t (rng_i64 (by omega) (by omega)), if_neg (by omega)]
  simp [foldF_zero]
theorem k34_0 {ch : Nat} (hc : OkC n c) (hch : ch < c.length) (hx : c.getD ch ((0 : Int), []) = x) (hD : dropL (ch : Int) 0 c = D) :
  iter (fun a => run (fun _ => none) (g34_0 a)) ((ch : Int), (0 : Int), c, (0 : Int), (0 : Int), x.1, x.2, (1 : Int), (10000000 : Int), ()) = some ((0 : Int), (0 : Int), (spanQ x D n).1, (spanQ x D n).2, ()) := by
 have hn := hc.n6
 have hp : 0 < 2 ^ n := Nat.pow_pos (by omega)
 have h64 := pow6 hn
 have h0 : 0 < c.length := by omega
 have hxo : OkX n x := hc.ch x (by rw [← hx]; simp [List.getD, hch])
 have key := iter_upto (f := fun a => run (fun _ => none) (g34_0 a)) (2 ^ n) (fun k (st : Int × Int) => ((ch : Int), (k : Int), c, (0 : Int), (0 : Int), x.1, x.2, st.1, st.2, ()))
  (fun st k => ((0 : Int), (0 : Int), (foldF (fun _ => true) (stepQ x D) st k (2 ^ n - k)).1, (foldF (fun _ => true) (stepQ x D) st k (2 ^ n - k)).2, ())) (fun _ _ => True) ?_ ?_ (s := (1, 10000000)) trivial
 ·refine Eq.trans key ?_
  rw [Nat.sub_zero]; rfl
 ·rintro k ⟨lo, hi⟩ hk -
  left
  have e : 2 ^ n - k = (2 ^ n - (k + 1)) + 1 := by omega
  have hni : rng .i64 ((k : Int) + 1) = true := rng_i64 (by omega) (by omega)
  have q1 : run (fun _ => none) (F86 c (k : Int) (ch : Int)) = _ := k86 hc hk (ch : Int)
  have q2 : run (fun _ => none) (F79 x (k : Int)) = _ := k79 hxo hn hk
  have q3 : run (fun _ => none) (F76 c (k : Int)) = _ := k76 hc hk
  rw [pass_drop, hD] at q1
  have hw := wt_bd hxo k
  have r1 : rng .i64 (wt x.2 k + 1) = true := rng_i64 (by omega) (by omega)
  simp only [g34_0, run_br, run_bd, run_nb, run_ni, run_ret, k60 h0, hc.gro, bindO_s, br_d, hni, need_true, shl_n hn, q1, q2, q3, r1, Prod.eta, br_not]
  rw [need_inb (by omega) (by omega), need_t (rng_i64 (by omega) (by omega)), if_pos (by omega), e]
  cases h2 : winB D k
  case false =>
   rw [foldF_same (by simp [stepQ, h2])]
   exact ⟨(lo, hi), by simp, trivial, rfl⟩
  rw [foldF_yes rfl]
  have hall := win_drop (s := k) (k := 0) (j := ch) hch
  rw [Nat.zero_add, hD, hx, h2, Bool.true_and] at hall
  refine ⟨_, ?_, trivial, rfl⟩
  simp only [stepQ]
  rw [if_pos h2, hall]
  cases h3 : win1 k x <;> simp
 ·rintro ⟨lo, hi⟩ -
  simp only [g34_0, run_br, run_bd, run_nb, run_ni, run_ret, k60 h0, hc.gro, bindO_s, br_d, shl_n hn]
  rw [need_inb (by omega) (by omega), need_t (rng_i64 (by omega) (by omega)), if_neg (by omega)]
  simp [foldF_zero]
end
end Go.Proofs.Tryd
end
section
namespace Go.Proofs.Tryd
open Go.AM Go.Cn
set_option maxRecDepth 100000
section
variable {c : List Ch} {n : Nat}
theorem k67c (z : Int) : run (fun _ => none) (F67 0 z (((c.length : Nat) : Int) - 1)) = some (inC c z, ()) := k67 _ _ _
theorem k67n (z : Int) : run (fun _ => none) (F67 0 z ((n : Int) - 1)) = some (inG n z, ()) := k67 _ _ _
theorem k69c (z : Int) : run (fun _ => none) (F69 z 0 (((c.length : Nat) : Int) - 1)) = some (inC c z, ()) := k69 _ _ _
theorem c_rng (hc : OkC n c) : rng .i64 (((c.length : Nat) : Int) - 1) = true := by
 have := hc.c3
 exact rng_i64 (by omega) (by omega)
theorem k80_no (h : chk c ≠ 0) (a : Int) : run0 (F80 c a) = some (.inl ([], 0, 0, chk c, ())) := by
 simp only [F80, run_bd]
 rw [bind_of (k66_no h)]
 simp only [run_sl, run_br, run_bd, run_ret, br_not, br_eq]
 rw [if_neg h]
theorem k80_out (hc : OkC n c) (h : chk c = 0) {a : Int} (ha : inC c a = false) : run0 (F80 c a) = some (.inl ([], 0, 0, 17, ())) := by
 simp only [F80, run_bd]
 rw [bind_of (k66 hc h)]
 simp only [run_sr, run_br, run_bd, run_ni, run_ret, br_not, br_eq, c_rng hc, need_true, k67c, bindO_s, ha, brO_false, if_true]
theorem k80 (hc : OkC n c) (h : chk c = 0) {a : Int} (ha : inC c a = true) : run0 (F80 c a) = some (.inr (c, c, (n : Int), ((2 ^ n - 1 : Nat) : Int), 0, ())) := by
 simp only [F80, run_bd]
 rw [bind_of (k66 hc h)]
 simp only [run_sr, run_br, run_bd, run_ni, run_ret, br_not, br_eq, c_rng hc, need_true, k67c, bindO_s, ha, brO_true, if_true]
theorem k85_no (h : chk c ≠ 0) (a : Int) : run0 (F85 c a) = some (chk c, ()) := by
 simp only [F85, run_bd, run_br, run_ret, br_eq]
 rw [bind_of (k50 c), if_neg h]
theorem k85 (hc : OkC n c) (h : chk c = 0) (a : Int) : run0 (F85 c a) = some (if inC c a = true then 0 else 17, ()) := by
 simp only [F85, run_bd, run_br, run_ni, run_ret, br_eq]
 rw [bind_of (k50 c), if_pos h]
 simp only [c_rng hc, need_true, k69c, bindO_s, br_not]
 cases ha : inC c a <;> simp [h]
def wR (c : List Ch) (n : Nat) (a g : Int) : (Int × Int) × Int × Unit :=
 if chk c ≠ 0 then ((0, 0), chk c, ()) else if inC c a = false then ((0, 0), 17, ()) else if inG n g = false then ((0, 0), 5, ()) else (spanW (c.getD a.toNat ((0 : Int), [])) (dropL a 0 c) n g.toNat, 0, ())
def qR (c : List Ch) (n : Nat) (a : Int) : (Int × Int) × Int × Unit :=
 if chk c ≠ 0 then ((0, 0), chk c, ()) else if inC c a = false then ((0, 0), 17, ()) else (spanQ (c.getD a.toNat ((0 : Int), [])) (dropL a 0 c) n, 0, ())
theorem k31 (hc : chk c = 0 → OkC n c) (a g : Int) : run0 (F31 c a g) = some (wR c n a g) := by
 unfold wR
 by_cases h : chk c = 0
 case neg =>
  rw [if_pos h]
  simp only [F31, run_bd]
  rw [bind_of (k80_no h a)]
  simp only [run_sl, run_br, run_ret, br_not, br_eq]
  rw [if_neg h]
 rw [if_neg (not_not_intro h)]
 have hc := hc h
 have hn := hc.n6
 by_cases ha : inC c a = false
 ·rw [if_pos ha]
  simp only [F31, run_bd]
  rw [bind_of (k80_out hc h ha)]
  simp only [run_sl, run_br, run_ret, br_not, br_eq]
  rw [if_neg (by decide)]
 rw [if_neg ha]
 replace ha : inC c a = true := by simpa using ha
 simp only [F31, run_bd]
 rw [bind_of (k80 hc h ha)]
 simp only [run_sr, run_br, run_bd, run_ni, run_nb, run_ret, br_not, br_eq, n_rng hn, need_true, k67n, bindO_s]
 rw [if_pos trivial]
 by_cases hg : inG n g = false
 ·rw [if_pos hg]; simp [hg]
 rw [if_neg hg]
 replace hg : inG n g = true := by simpa using hg
 obtain ⟨i, hi, rfl⟩ := inC_nat ha
 obtain ⟨j, hj, rfl⟩ := inG_nat hg
 have c3 := hc.c3
 have hxo : OkX n (c.getD i ((0 : Int), [])) := hc.ch _ (by simp [List.getD, hi])
 simp only [hg, brO_true]
 rw [need_inb (by omega) (by omega), bind_of (k81 c (by omega) _)]
 simp only [F82_v1, run_ret, bindO_s, dt1, Int.toNat_natCast]
 rw [bind_of (k31_0 hc hj hxo (fun y hy => hc.ch y (drop_mem hy)) (by have := drop_len (i : Int) 0 c; omega))]
theorem k32 (hc : chk c = 0 → OkC n c) (a g : Int) : run0 (F32 c a g) = some (wR c n a g) := by
 unfold wR
 simp only [F32, run_bd, run_br, run_ret, br_not, br_eq]
 by_cases h : chk c = 0
 case neg =>
  rw [if_pos h, bind_of (k85_no h a), if_neg h]
 rw [if_neg (not_not_intro h)]
 have hc := hc h
 have hn := hc.n6
 rw [bind_of (k85 hc h a)]
 by_cases ha : inC c a = false
 ·simp [ha]
 rw [if_neg ha]
 replace ha : inC c a = true := by simpa using ha
 have h0 : 0 < c.length := by have := hc.c1; omega
 simp only [ha, if_true, run_bd, run_ni, run_br, run_nb, run_it, run_ret, k60 h0, hc.gro, bindO_s, n_rng hn, need_true, k69' (n := n), br_not]
 by_cases hg : inG n g = false
 ·rw [if_pos hg]; simp [hg]
 rw [if_neg hg]
 replace hg : inG n g = true := by simpa using hg
 obtain ⟨i, hi, rfl⟩ := inC_nat ha
 obtain ⟨j, hj, rfl⟩ := inG_nat hg
 have c3 := hc.c3
 simp only [hg, brO_true]
 rw [need_inb (by omega) (by omega)]
 simp only [Int.toNat_natCast]
 rw [bind_of (k32_0 hc hj hi rfl rfl)]
theorem k33 (hc : chk c = 0 → OkC n c) (a : Int) : run0 (F33 c a) = some (qR c n a) := by
 unfold qR
 by_cases h : chk c = 0
 case neg =>
  rw [if_pos h]
  simp only [F33, run_bd]
  rw [bind_of (k80_no h a)]
  simp only [run_sl, run_br, run_ret, br_not, br_eq]
  rw [if_neg h]
 rw [if_neg (not_not_intro h)]
 have hc := hc h
 have hn := hc.n6
 by_cases ha : inC c a = false
 ·rw [if_pos ha]
  simp only [F33, run_bd]
  rw [bind_of (k80_out hc h ha)]
  simp only [run_sl, run_br, run_ret, br_not, br_eq]
  rw [if_neg (by decide)]
 rw [if_neg ha]
 replace ha : inC c a = true := by simpa using ha
 simp only [F33, run_bd]
 rw [bind_of (k80 hc h ha)]
 obtain ⟨i, hi, rfl⟩ := inC_nat ha
 have c3 := hc.c3
 have hxo : OkX n (c.getD i ((0 : Int), [])) := hc.ch _ (by simp [List.getD, hi])
 simp only [run_sr, run_br, run_bd, run_ni, run_nb, run_ret, br_not, br_eq]
 rw [if_pos trivial, need_inb (by omega) (by omega), bind_of (k81 c (by omega) _)]
 simp only [F82_v1, run_ret, bindO_s, Int.toNat_natCast]
 rw [bind_of (k33_0 hc hxo (fun y hy => hc.ch y (drop_mem hy)) (by have := drop_len (i : Int) 0 c; omega))]
theorem k34 (hc : chk c = 0 → OkC n c) (a : Int) : run0 (F34 c a) = some (qR c n a) := by
 unfold qR
 simp only [F34, run_bd, run_br, run_ret, br_not, br_eq]
 by_cases h : chk c = 0
 case neg =>
  rw [if_pos h, bind_of (k85_no h a), if_neg h]
 rw [if_neg (not_not_intro h)]
 have hc := hc h
 have hn := hc.n6
 rw [bind_of (k85 hc h a)]
 by_cases ha : inC c a = false
 ·simp [ha]
 rw [if_neg ha]
 replace ha : inC c a = true := by simpa using ha
 have h0 : 0 < c.length := by have := hc.c1; omega
 obtain ⟨i, hi, rfl⟩ := inC_nat ha
 have c3 := hc.c3
 simp only [ha, if_true, run_bd, run_nb, run_it, run_ret]
 rw [need_inb (by omega) (by omega)]
 simp only [Int.toNat_natCast]
 rw [bind_of (k34_0 hc hi rfl rfl)]
end
theorem law6 (a0 : List Ch × Unit) (a g : Int) (hW : WfAll [.prod (.list (.prod (.int .i64) (.list (.int .i64)))) .unit, .int .i64, .int .i64] (a0, a, g, ())) : run0 (F6 a0 a g) = some (true, ()) := by
 obtain ⟨c, u⟩ := a0
 have hl := len_ok hW.1
 simp only [F6, run_bd, run_br, run_it, run_ret]
 rw [bind_of (k15 hl)]
 cases hL : largeC c
 case true => rw [br_true, bind_of works_ok]
 have h20 := large_len hL
 rw [br_false, bind_of (k17 (by omega))]
 have hc : chk c = 0 → OkC (gro c) c := ok_of hL
 rw [bind_of (k31 hc a g), bind_of (k32 hc a g), bind_of (k33 hc a), bind_of (k34 hc a)]
 simp only [beq_self_eq_true, Bool.and_self, br_true]
 rw [bind_of works_ok]
end Go.Proofs.Tryd
end
