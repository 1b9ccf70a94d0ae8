/- Tools for laws: rounds that count, find or keep something; needs. Rounds over a list, with a function that says what comes out. Plain Lean. Sets as numbers below 64: their growers, one after the other. Plain Lean. A council is valid: program and reference say the same. A set's weight, and whether it wins: the program's. The reference's sums and wins; councils out of parts; what is known of a council. Sets without some; swings and turns of the program. Swings and turns: the program's and the reference's. Swings and turns of the reference; the law of powers. Swings and turns are as stated. -/
import Derived.Test.YtdbjdjjcijgdfaaDoorG3
set_option linter.unusedSectionVars false
set_option linter.unusedVariables false
set_option linter.unusedSimpArgs false
section
namespace Go.AM
theorem need_u64 {X : Type} {z : Int} {x : Option X} (h1 : 0 ≤ z) (h2 : z ≤ 18446744073709551615) : need (rng .u64 z) x = x := need_t (rng_u64 h1 h2)
theorem bigL_eq : bigL = 1073741824 := by decide
theorem need_big {X : Type} {n : Nat} {x : Option X} (h : n < 1000000000) : need (decide (n < bigL)) x = x := need_d (by rw [bigL_eq]; omega)
theorem need_inbL {X : Type} {i : Int} {x : Option X} (h : 0 ≤ i) (h2 : i < 1000000000) : need (inb i ((bigL : Nat) : Int)) x = x := need_inb h (by rw [bigL_eq]; omega)
/-- Rounds that count, or end early with what was found. -/
theorem iter_find {α β γ : Type} {step : α → Option (α ⊕ β)} (n : Nat) (g : Nat → α) (stop : Nat → Option γ) (inj : γ → β) {b : β}
  (hr : ∀ k, k < n → (∀ j, j < k → stop j = none) → step (g k) = match stop k with | none => some (.inl (g (k + 1))) | some c => some (.inr (inj c))) (he : (∀ j, j < n → stop j = none) → step (g n) = some (.inr b)) :
  iter step (g 0) = some (((List.range n).findSome? stop).elim b inj) := by
 have key : ∀ m k, k + m = n → (∀ j, j < k → stop j = none) → iter step (g k) = some (((List.range' k m).findSome? stop).elim b inj) := by
  intro m
  induction m with
  | zero =>
   intro k hk hs
   have : k = n := by omega
   subst this
   simpa using iter_inr (he hs)
  | succ m ih =>
   intro k hk hs0
   have h := hr k (by omega) hs0
   rw [List.range'_succ, List.findSome?_cons]
   cases hs : stop k with
   | none =>
    rw [hs] at h
    refine iter_inl h (ih (k + 1) (by omega) fun j hj => ?_)
    by_cases e : j = k
    ·rw [e, hs]
    ·exact hs0 j (by omega)
   | some c => rw [hs] at h; exact iter_inr h
 rw [List.range_eq_range']
 exact key n 0 (by omega) (fun j hj => by omega)
/-- Rounds that count and keep something. -/
theorem iter_ex {α β : Type} {step : α → Option (α ⊕ β)} (n : Nat) (I : Nat → α → Prop) (Q : β → Prop) (hr : ∀ k x, k < n → I k x → ∃ y, step x = some (.inl y) ∧ I (k + 1) y) (he : ∀ x, I n x → ∃ b, step x = some (.inr b) ∧ Q b)
  {x : α} (h0 : I 0 x) : ∃ b, iter step x = some b ∧ Q b := by
 have key : ∀ m k x, k + m = n → I k x → ∃ b, iter step x = some b ∧ Q b := by
  intro m
  induction m with
  | zero =>
   intro k x hk hx
   have : k = n := by omega
   subst this
   obtain ⟨b, h1, h2⟩ := he x hx
   exact ⟨b, iter_inr h1, h2⟩
  | succ m ih =>
   intro k x hk hx
   obtain ⟨y, h1, h2⟩ := hr k x (by omega) hx
   obtain ⟨b, h3, h4⟩ := ih (k + 1) y (by omega) h2
   exact ⟨b, iter_inl h1 h3, h4⟩
 exact key n 0 x (by omega) h0
/-- Rounds over the items of a list: the state is what the items so far came to. -/
theorem iter_fold {α β γ σ : Type} {step : α → Option (α ⊕ β)} (l : List γ) (d : γ) (f : σ → γ → σ) (g : Nat → σ → α) (s0 : σ) (I : σ → Prop) {out : σ → β} (h0 : I s0)
  (hr : ∀ k s, k < l.length → I s → I (f s (l.getD k d)) ∧ step (g k s) = some (.inl (g (k + 1) (f s (l.getD k d))))) (he : ∀ s, I s → step (g l.length s) = some (.inr (out s))) :
  iter step (g 0 s0) = some (out (l.foldl f s0)) ∧ I (l.foldl f s0) := by
 have key : ∀ m k s, k + m = l.length → I s → iter step (g k s) = some (out ((l.drop k).foldl f s)) ∧ I ((l.drop k).foldl f s) := by
  intro m
  induction m with
  | zero =>
   intro k s hk hs
   rw [show k = l.length by omega, List.drop_length]
   exact ⟨iter_inr (he s hs), hs⟩
  | succ m ih =>
   intro k s hk hs
   obtain ⟨h1, h2⟩ := hr k s (by omega) hs
   obtain ⟨h3, h4⟩ := ih (k + 1) _ (by omega) h1
   have e : l.drop k = l.getD k d :: l.drop (k + 1) := by
    rw [List.drop_eq_getElem_cons (by omega)]; simp [List.getD_eq_getElem?_getD, List.getElem?_eq_getElem (show k < l.length by omega)]
   rw [e, List.foldl_cons]
   exact ⟨iter_inl h2 h3, h4⟩
 have := key l.length 0 s0 (by omega) h0
 simpa using this
theorem getD_take {α : Type} {l : List α} {k n : Nat} {d : α} (h : k < n) : (l.take n).getD k d = l.getD k d := by
 simp [List.getD_eq_getElem?_getD, List.getElem?_take, h]
theorem getD_mem {α : Type} {l : List α} {k : Nat} {d : α} (h : k < l.length) : l.getD k d ∈ l := by
 simp [List.getD_eq_getElem?_getD, List.getElem?_eq_getElem h]
theorem take_succ_getD {α : Type} {l : List α} {k : Nat} (d : α) (h : k < l.length) : l.take (k + 1) = l.take k ++ [l.getD k d] := by
 rw [List.take_succ_eq_append_getElem h]; simp [List.getD_eq_getElem?_getD, List.getElem?_eq_getElem h]
theorem getD_el {α : Type} {l : List α} {k : Nat} (d : α) (h : k < l.length) : l.getD k d = l[k] := by
 simp [List.getD_eq_getElem?_getD, List.getElem?_eq_getElem h]
theorem getD_out {α : Type} {l : List α} {k : Nat} (d : α) (h : l.length ≤ k) : l.getD k d = d := by
 simp [List.getD_eq_getElem?_getD, List.getElem?_eq_none h]
end Go.AM
end
section
namespace Go.AM
theorem getD_mid {α : Type} {A B : List α} {x d : α} {n : Nat} (h : n = A.length) : (A ++ x :: B).getD n d = x := by
 subst h; simp [List.getD_eq_getElem?_getD]
/-- Rounds over the items of a list: 'G' says what comes out of a state and the items that are left. -/
theorem iter_list {A B S X : Type} {f : A → Option (A ⊕ B)} (xs : List X) (mk : Nat → S → A) (G : S → List X → B) (Inv : List X → S → Prop)
  (hs : ∀ pre x post s, xs = pre ++ x :: post → Inv pre s →
   (∃ s', f (mk pre.length s) = some (.inl (mk (pre.length + 1) s')) ∧ Inv (pre ++ [x]) s' ∧ G s (x :: post) = G s' post) ∨ f (mk pre.length s) = some (.inr (G s (x :: post))))
  (he : ∀ s, Inv xs s → f (mk xs.length s) = some (.inr (G s []))) {s : S} (h0 : Inv [] s) : iter f (mk 0 s) = some (G s xs) := by
 have key : ∀ (post pre : List X) (s : S), xs = pre ++ post → Inv pre s → iter f (mk pre.length s) = some (G s post) := by
  intro post
  induction post with
  | nil =>
   intro pre s hx hi
   have : pre = xs := by rw [hx]; simp
   subst this
   exact iter_inr (he s hi)
  | cons x post ih =>
   intro pre s hx hi
   rcases hs pre x post s hx hi with ⟨s', h1, h2, h3⟩ | h1
   ·refine iter_inl h1 ?_
    rw [h3]
    have := ih (pre ++ [x]) s' (by rw [hx]; simp) h2
    simpa using this
   ·exact iter_inr h1
 exact key xs [] s (by simp) h0
theorem bind_eq {A X : Type} {o : Option A} {a : A} {f : A → Option X} {y : Option X} (h : o = some a) (e : f a = y) : bindO o f = y := by rw [h, bindO_s, e]
theorem bigL_val : ((bigL : Nat) : Int) = 1073741824 := by decide
theorem need_lenbig {X : Type} {n : Nat} {x : Option X} (h : n < 1000000000) : need (decide (n < bigL)) x = x := need_d (by have := bigL_val; omega)
theorem br_true {X : Type} {x y : Option X} : brO true x y = x := by simp
theorem br_false {X : Type} {x y : Option X} : brO false x y = y := by simp
end Go.AM
end
section
namespace Go.Cn
open Go.AM
/-- The growers of a set. -/
def els (s : Nat) : List Nat := (List.range 6).filter s.testBit
/-- The first of them. -/
def tzN (s : Nat) : Nat := ((List.range 6).find? s.testBit).getD 64
def low (s : Nat) : Nat := s &&& (s - 1)
/-- What is so of all small numbers is seen by trying them. -/
theorem all_lt {n : Nat} {p : Nat → Bool} (h : (List.range n).all p = true) {s : Nat} (hs : s < n) : p s = true := List.all_eq_true.1 h s (List.mem_range.2 hs)
theorem all_lt2 {n m : Nat} {p : Nat → Nat → Bool} (h : (List.range n).all (fun s => (List.range m).all (p s)) = true) {s i : Nat} (hs : s < n) (hi : i < m) : p s i = true := all_lt (all_lt h hs) hi
theorem els_zero : els 0 = [] := by decide
theorem els_cons {s : Nat} (hs : s < 64) (h : s ≠ 0) : els s = tzN s :: els (low s) := by
  have := all_lt (n := 64) (p := fun s => s == 0 || decide (els s = tzN s :: els (low s))) (by decide +kernel) hs
  simpa [h] using this
theorem low_lt {s : Nat} (hs : s < 64) (h : s ≠ 0) : low s < s := by
  have := all_lt (n := 64) (p := fun s => s == 0 || decide (low s < s)) (by decide +kernel) hs
  simpa [h] using this
/-- Below 2^n there are only the first n. -/
theorem els_upto {s n : Nat} (hn : n ≤ 6) (hs : s < 2 ^ n) : els s = (List.range n).filter s.testBit := by
  have := all_lt2 (n := 7) (m := 64) (p := fun n s => !(decide (s < 2 ^ n)) || decide (els s = (List.range n).filter s.testBit)) (by decide +kernel) (s := n) (i := s) (by omega) (by
    have : 2 ^ n ≤ 2 ^ 6 := Nat.pow_le_pow_right (by omega) hn
    omega)
  simpa [hs] using this
theorem tz_lt {s n : Nat} (hn : n ≤ 6) (hs : s < 2 ^ n) (h : s ≠ 0) : tzN s < n := by
  have h64 : s < 64 := by
    have : 2 ^ n ≤ 2 ^ 6 := Nat.pow_le_pow_right (by omega) hn
    omega
  have e := els_upto hn hs
  rw [els_cons h64 h] at e
  have : tzN s ∈ (List.range n).filter s.testBit := by rw [← e]; exact List.mem_cons_self ..
  exact List.mem_range.1 (List.mem_filter.1 this).1
theorem pow6 {n : Nat} (hn : n ≤ 6) : 2 ^ n ≤ 64 := Nat.pow_le_pow_right (by omega) hn
/-- Rounds over the growers of a set. -/
theorem iter_els {A B S : Type} {f : A → Option (A ⊕ B)} (mk : Nat → S → A) (G : S → List Nat → B) (Inv : Nat → S → Prop)
    (hs : ∀ s st, s < 64 → s ≠ 0 → Inv s st → (∃ st', f (mk s st) = some (.inl (mk (low s) st')) ∧ Inv (low s) st' ∧ G st (tzN s :: els (low s)) = G st' (els (low s))) ∨ f (mk s st) = some (.inr (G st (tzN s :: els (low s)))))
    (he : ∀ st, Inv 0 st → f (mk 0 st) = some (.inr (G st []))) : ∀ {s : Nat} {st : S}, s < 64 → Inv s st → iter f (mk s st) = some (G st (els s)) := by
  intro s
  induction s using Nat.strongRecOn with
  | ind s ih =>
    intro st h64 hi
    by_cases h0 : s = 0
    · subst h0; rw [els_zero]; exact iter_inr (he st hi)
    · rw [els_cons h64 h0]
      rcases hs s st h64 h0 hi with ⟨st', h1, h2, h3⟩ | h1
      · rw [h3]
        exact iter_inl h1 (ih _ (low_lt h64 h0) (by have := low_lt h64 h0; omega) h2)
      · exact iter_inr h1
/-- Rounds that count up, and carry something. -/
theorem iter_upto {A B S : Type} {f : A → Option (A ⊕ B)} (N : Nat) (mk : Nat → S → A) (G : S → Nat → B) (Inv : Nat → S → Prop)
    (hs : ∀ k st, k < N → Inv k st → (∃ st', f (mk k st) = some (.inl (mk (k + 1) st')) ∧ Inv (k + 1) st' ∧ G st k = G st' (k + 1)) ∨ f (mk k st) = some (.inr (G st k)))
    (he : ∀ st, Inv N st → f (mk N st) = some (.inr (G st N))) {s : S} (h0 : Inv 0 s) : iter f (mk 0 s) = some (G s 0) := by
  have key : ∀ m k s, k + m = N → Inv k s → iter f (mk k s) = some (G s k) := by
    intro m
    induction m with
    | zero => intro k s hk hi; have e : k = N := by omega
              subst e; exact iter_inr (he s hi)
    | succ m ih =>
      intro k s hk hi
      rcases hs k s (by omega) hi with ⟨s', h1, h2, h3⟩ | h1
      · rw [h3]; exact iter_inl h1 (ih (k + 1) s' (by omega) h2)
      · exact iter_inr h1
  exact key N 0 s (by omega) h0
/-! Operations on 64 els, on small numbers. -/
theorem u_with {s i : Nat} (hs : s < 64) (hi : i < 6) : ar0.bits IBin.or .u64 (s : Int) (ar0.shl (1 : Int) (i : Int)) = ((s ||| 2 ^ i : Nat) : Int) := by
  have := all_lt2 (n := 64) (m := 6) (p := fun s i => ar0.bits IBin.or .u64 (s : Int) (ar0.shl (1 : Int) (i : Int)) == ((s ||| 2 ^ i : Nat) : Int)) (by kernel_rfl) hs hi
  simpa using this
/-- A set without one. -/
def wo (s i : Nat) : Nat := if s.testBit i then s - 2 ^ i else s
theorem u_wo {s i : Nat} (hs : s < 64) (hi : i < 6) : ar0.bits IBin.andNot .u64 (s : Int) (ar0.shl (1 : Int) (i : Int)) = ((wo s i : Nat) : Int) := by
  have := all_lt2 (n := 64) (m := 6) (p := fun s i => ar0.bits IBin.andNot .u64 (s : Int) (ar0.shl (1 : Int) (i : Int)) == ((wo s i : Nat) : Int)) (by kernel_rfl) hs hi
  simpa using this
theorem u_low {s : Nat} (hs : s < 64) (h : s ≠ 0) : ar0.bits IBin.and .u64 (s : Int) ((s : Int) - 1) = ((low s : Nat) : Int) := by
  have := all_lt (n := 64) (p := fun s => s == 0 || ar0.bits IBin.and .u64 (s : Int) ((s : Int) - 1) == ((low s : Nat) : Int)) (by kernel_rfl) hs
  simpa [h] using this
theorem i_has {s i : Nat} (hs : s < 64) (hi : i < 6) : (ar0.bits IBin.and .i64 (ar0.shr (s : Int) (i : Int)) (1 : Int) == (1 : Int)) = s.testBit i := by
  have := all_lt2 (n := 64) (m := 6) (p := fun s i => (ar0.bits IBin.and .i64 (ar0.shr (s : Int) (i : Int)) (1 : Int) == (1 : Int)) == s.testBit i) (by kernel_rfl) hs hi
  simpa using this
theorem i_with {s i : Nat} (hs : s < 64) (hi : i < 6) : ar0.bits IBin.or .i64 (s : Int) (ar0.shl (1 : Int) (i : Int)) = ((s ||| 2 ^ i : Nat) : Int) := by
  have := all_lt2 (n := 64) (m := 6) (p := fun s i => ar0.bits IBin.or .i64 (s : Int) (ar0.shl (1 : Int) (i : Int)) == ((s ||| 2 ^ i : Nat) : Int)) (by kernel_rfl) hs hi
  simpa using this
theorem shl_one {i : Nat} (hi : i < 12) : ar0.shl (1 : Int) (i : Int) = ((2 ^ i : Nat) : Int) := by
  have := all_lt (n := 12) (p := fun i => ar0.shl (1 : Int) (i : Int) == ((2 ^ i : Nat) : Int)) (by kernel_rfl) hi
  simpa using this
theorem wo_lt {s i n : Nat} (hs : s < n) : wo s i < n := by
  have := Nat.sub_le s (2 ^ i)
  unfold wo; split <;> omega
theorem or_lt {s i n : Nat} (hn : n ≤ 6) (hs : s < 2 ^ n) (hi : i < n) : s ||| 2 ^ i < 2 ^ n := Nat.or_lt_two_pow hs (Nat.pow_lt_pow_right (by omega) hi)
end Go.Cn
end
section
namespace Go.Proofs.Tryd
open Go.AM Go.Cn
set_option maxRecDepth 100000
abbrev Ch := Int × List Int
def gro (c : List Ch) : Nat := (c.getD 0 ((0 : Int), [])).2.length
def badW (z : Int) : Bool := !decide (0 ≤ z ∧ z ≤ 1000000)
def okCh (n : Nat) (x : Ch) : Int := if x.2.length ≠ n then 3 else if ¬ (1 ≤ x.1 ∧ x.1 ≤ 10000000) then 2 else if x.2.any badW = true then 2 else 0
def chkL (n : Nat) : List Ch → Int
 | [] => 0
 | x :: r => if okCh n x ≠ 0 then okCh n x else chkL n r
def chk (c : List Ch) : Int := if c.length = 0 then 4 else if 3 < c.length then 1 else if gro c = 0 then 4 else if 9 < gro c then 1 else chkL (gro c) c
def largeOne (x : Ch) : Bool := (decide (6 < x.2.length) && decide (x.2.length ≤ 9)) || decide (40 < x.2.length)
def largeC (c : List Ch) : Bool := decide (20 < c.length) || c.any largeOne
theorem k67 (a b c : Int) : run0 (F67 a b c) = some (decide (a ≤ b ∧ b ≤ c), ()) := by
 simp only [F67, run_br, run_ret, br_d]
 by_cases h : a ≤ b
 ·rw [if_pos h]; simp [h]
 ·rw [if_neg h]; simp [h]
theorem k69 (a b c : Int) : run0 (F69 a b c) = some (decide (b ≤ a ∧ a ≤ c), ()) := by
 simp only [F69, run_br, run_ret, br_d]
 by_cases h : b ≤ a
 ·rw [if_pos h]; simp [h]
 ·rw [if_neg h]; simp [h]
theorem k91 {c : List Ch} (h : 0 < c.length) : run0 (F91 c) = some (((gro c : Nat) : Int), ()) := by
 simp only [F91, run_nb, run_ret]
 rw [need_inb (by omega) (by omega)]; rfl
theorem k60 {c : List Ch} (h : 0 < c.length) : run0 (F60 c) = some (((gro c : Nat) : Int), ()) := by
 simp only [F60, run_nb, run_ret]
 rw [need_inb (by omega) (by omega)]; rfl
theorem k92 (z : Int) : run0 (F92 z) = some (badW z, ()) := by
 simp only [F92, run_bd, k67, bindO_s, run_ret, badW]
theorem k15 {c : List Ch} (hc : c.length < 9223372036854775808) : run0 (F15 c) = some (largeC c, ()) := by
 simp only [F15, run_bd, run_it]
 refine bind_eq (iter_list c (fun k (s : Bool) => (s, (k : Int), c, ())) (fun s r => (s || r.any largeOne, ())) (fun _ _ => True) ?_ ?_ (s := decide ((20 : Int) < ((c.length : Nat) : Int))) trivial) ?_
 ·rintro pre x post s hx -
  left
  have hlen : c.length = pre.length + (post.length + 1) := by rw [hx]; simp
  have hd : c.getD pre.length ((0 : Int), []) = x := by rw [hx]; exact getD_mid rfl
  refine ⟨s || largeOne x, ?_, trivial, by simp [Bool.or_assoc]⟩
  have hin : inb (pre.length : Int) ((c.length : Nat) : Int) = true := inb_t (by omega) (by omega)
  have hni : rng .i64 ((pre.length : Int) + 1) = true := rng_i64 (by omega) (by omega)
  simp only [g15_0, run_br, run_nb, run_ni, run_ret, Int.toNat_natCast, hd, br_d, hin, hni, need_true]
  rw [if_pos (by omega)]
  cases s
  ·simp only [brO_false, largeOne, Bool.false_or]
   by_cases h1 : 6 < x.2.length
   ·rw [if_pos (by omega)]
    by_cases h2 : x.2.length ≤ 9
    ·rw [if_pos (by omega)]; simp [h1, h2]
    ·rw [if_neg (by omega)]; simp [h1, h2]
     omega
   ·rw [if_neg (by omega)]; simp [h1]
    omega
  ·simp
 ·intro s _
  simp only [g15_0, run_br, run_ret, br_d]
  rw [if_neg (by omega)]; simp
 ·simp only [run_ret, largeC]
  congr 3
  have e : decide ((20 : Int) < ((c.length : Nat) : Int)) = decide (20 < c.length) := by
   apply decide_eq_decide.2; omega
  rw [e]
theorem k105 {l : List Int} (hl : l.length < 1000) : ∃ k : Int, run0 (F105 l) = some (k, ()) ∧ (0 ≤ k ↔ l.any badW = true) := by
 simp only [F105, run_bd, run_it]
 have := iter_list l (f := fun a => run (fun _ => none) (g105_0 a)) (fun k (s : Nat) => (l, ((l.length : Nat) : Int), (k : Int), ())) (fun s r => match r.findIdx? badW with | some k => .inl (((s + k : Nat) : Int), ()) | none => .inr ()) (fun pre s => s = pre.length) ?_ ?_ (s := 0) rfl
 ·replace this : iter (fun a => run (fun _ => none) (g105_0 a)) (l, ((l.length : Nat) : Int), (0 : Int), ()) = _ := this
  rw [bind_of this]
  cases hf : l.findIdx? badW with
  | none =>
   simp only [run_sr, run_ret]
   exact ⟨-1, rfl, by simp only [show ¬ ((0 : Int) ≤ -1) by omega, false_iff]; simpa using List.findIdx?_eq_none_iff.1 hf⟩
  | some k =>
   simp only [run_sl, run_ret]
   refine ⟨_, rfl, by
    simp only [show (0 : Int) ≤ ((0 + k : Nat) : Int) by omega, true_iff]
    obtain ⟨hk, h1, _⟩ := List.findIdx?_eq_some_iff_getElem.1 hf
    exact List.any_eq_true.2 ⟨_, List.getElem_mem hk, h1⟩⟩
 ·rintro pre x post s hx rfl
  have hlen : l.length = pre.length + (post.length + 1) := by rw [hx]; simp
  have hd : l.getD pre.length (0 : Int) = x := by rw [hx]; exact getD_mid rfl
  have hin : inb (pre.length : Int) ((l.length : Nat) : Int) = true := inb_t (by omega) (by omega)
  have hni : rng .i64 ((pre.length : Int) + 1) = true := rng_i64 (by omega) (by omega)
  simp only [g105_0, run_br, run_bd, run_nb, run_ni, run_ret, Int.toNat_natCast, hd, br_d, hin, hni, need_true, k92, bindO_s]
  rw [if_pos (by omega)]
  cases hb : badW x
  ·left
   refine ⟨pre.length + 1, by simp, by simp, ?_⟩
   rw [List.findIdx?_cons, hb]
   cases post.findIdx? badW with
   | none => rfl
   | some k => simp; omega
  ·right
   rw [List.findIdx?_cons, hb]; simp
 ·rintro s rfl
  simp only [g105_0, run_br, run_ret, br_d]
  rw [if_neg (by omega)]; rfl
theorem k93 {l : List Int} (hl : l.length < 1000) : run0 (F93 l) = some (l.any badW, ()) := by
 obtain ⟨k, h1, h2⟩ := k105 hl
 simp only [F93, run_bd, run_ret]
 rw [bind_of h1]
 congr 2
 cases h : l.any badW
 ·rw [h] at h2; simp only [decide_eq_false_iff_not]; intro e; exact absurd (h2.1 e) (by simp)
 ·rw [h] at h2; simp only [decide_eq_true_eq]; exact h2.2 rfl
theorem k41 (c : List Ch) : run0 (F41 c) = some (chk c, ()) := by
 simp only [F41, run_br, run_ret, br_eq, br_d, chk]
 by_cases h0 : c.length = 0
 ·rw [if_pos (by omega), if_pos h0]
 rw [if_neg (by omega), if_neg h0]
 by_cases h1 : 3 < c.length
 ·rw [if_pos (by omega), if_pos h1]
 rw [if_neg (by omega), if_neg h1]
 simp only [run_bd, k91 (show 0 < c.length by omega), bindO_s, run_br, br_eq, br_d, run_ret]
 by_cases h2 : gro c = 0
 ·rw [if_pos (by omega), if_pos h2]
 rw [if_neg (by omega), if_neg h2]
 by_cases h3 : 9 < gro c
 ·rw [if_pos (by omega), if_pos h3]
 rw [if_neg (by omega), if_neg h3]
 simp only [run_it]
 refine bind_eq (iter_list c (fun k (s : Unit) => (c, ((c.length : Nat) : Int), (k : Int), c, ())) (fun _ r => if chkL (gro c) r = 0 then Sum.inr () else Sum.inl (chkL (gro c) r, ())) (fun _ _ => True) ?_ ?_ (s := ()) trivial) ?_
 ·rintro pre x post s hx -
  have hlen : c.length = pre.length + (post.length + 1) := by rw [hx]; simp
  have hd : c.getD pre.length ((0 : Int), []) = x := by rw [hx]; exact getD_mid rfl
  have hin : inb (pre.length : Int) ((c.length : Nat) : Int) = true := inb_t (by omega) (by omega)
  have hni : rng .i64 ((pre.length : Int) + 1) = true := rng_i64 (by omega) (by omega)
  simp only [g41_0, run_br, run_bd, run_nb, run_ni, run_ret, Int.toNat_natCast, hd, br_d, br_eq, br_not, hin, hni, need_true, k91 (show 0 < c.length by omega), k67, bindO_s]
  rw [if_pos (by omega)]
  by_cases h4 : x.2.length = gro c
  case neg =>
   right
   rw [if_neg (by omega)]
   simp [chkL, okCh, h4]
  rw [if_pos (by omega)]
  by_cases h5 : 1 ≤ x.1 ∧ x.1 ≤ 10000000
  case neg =>
   right
   rw [if_neg h5]
   simp only [chkL, okCh, if_neg (not_not_intro h4), if_pos h5]; simp
  rw [if_pos h5, bind_of (k93 (show x.2.length < 1000 by omega))]
  cases h6 : x.2.any badW
  ·left
   refine ⟨(), by simp, trivial, ?_⟩
   simp [chkL, okCh, h4, h5, h6]
  ·right
   simp [chkL, okCh, h4, h5, h6]
 ·intro s _
  simp only [g41_0, run_br, run_ret, br_d]
  rw [if_neg (by omega)]; simp [chkL]
 ·cases h : decide (chkL (gro c) c = 0)
  ·have h' := of_decide_eq_false h
   simp only [if_neg h', run_sl, run_ret]
  ·have h' := of_decide_eq_true h
   simp only [if_pos h', run_sr, run_ret]; rw [h']
theorem k50_1 {l : List Int} (hl : l.length < 1000) (c : List Ch) (q v : Int) : iter (fun a => run (fun _ => none) (g50_1 a)) (v, (0 : Int), c, q, l, ()) = some (if l.any badW = true then .inl (2, ()) else .inr (v, c, ())) := by
 refine iter_list l (fun k (s : Unit) => (v, (k : Int), c, q, l, ())) (fun _ r => if r.any badW = true then Sum.inl (2, ()) else Sum.inr (v, c, ())) (fun _ _ => True) ?_ ?_ (s := ()) trivial
 ·rintro pre x post s hx -
  have hlen : l.length = pre.length + (post.length + 1) := by rw [hx]; simp
  have hd : l.getD pre.length (0 : Int) = x := by rw [hx]; exact getD_mid rfl
  have hin : inb (pre.length : Int) ((l.length : Nat) : Int) = true := inb_t (by omega) (by omega)
  have hni : rng .i64 ((pre.length : Int) + 1) = true := rng_i64 (by omega) (by omega)
  simp only [g50_1, run_br, run_bd, run_nb, run_ni, run_ret, Int.toNat_natCast, hd, br_d, br_not, hin, hni, need_true, k69, bindO_s]
  rw [if_pos (by omega)]
  by_cases h : 0 ≤ x ∧ x ≤ 1000000
  ·left
   refine ⟨(), by rw [if_pos h]; rfl, trivial, by simp [badW, h]⟩
  ·right
   rw [if_neg h]
   have : badW x = true := by unfold badW; rw [decide_eq_false h]; rfl
   simp [this]
 ·intro s _
  simp only [g50_1, run_br, run_ret, br_d]
  rw [if_neg (by omega)]; simp
theorem k50 (c : List Ch) : run0 (F50 c) = some (chk c, ()) := by
 simp only [F50, run_br, run_ret, br_eq, br_d, chk]
 by_cases h0 : c.length = 0
 ·rw [if_pos (by omega), if_pos h0]
 rw [if_neg (by omega), if_neg h0]
 by_cases h1 : 3 < c.length
 ·rw [if_pos (by omega), if_pos h1]
 rw [if_neg (by omega), if_neg h1]
 simp only [run_bd, k60 (show 0 < c.length by omega), bindO_s, run_br, br_eq, br_d, run_ret]
 by_cases h2 : gro c = 0
 ·rw [if_pos (by omega), if_pos h2]
 rw [if_neg (by omega), if_neg h2]
 by_cases h3 : 9 < gro c
 ·rw [if_pos (by omega), if_pos h3]
 rw [if_neg (by omega), if_neg h3]
 simp only [run_it]
 refine bind_eq (iter_list c (fun k (s : Unit) => ((k : Int), c, ())) (fun _ r => if chkL (gro c) r = 0 then Sum.inr () else Sum.inl (chkL (gro c) r, ())) (fun _ _ => True) ?_ ?_ (s := ()) trivial) ?_
 ·rintro pre x post s hx -
  have hlen : c.length = pre.length + (post.length + 1) := by rw [hx]; simp
  have hd : c.getD pre.length ((0 : Int), []) = x := by rw [hx]; exact getD_mid rfl
  have hin : inb (pre.length : Int) ((c.length : Nat) : Int) = true := inb_t (by omega) (by omega)
  have hni : rng .i64 ((pre.length : Int) + 1) = true := rng_i64 (by omega) (by omega)
  simp only [g50_0, run_br, run_bd, run_it, run_nb, run_ret, Int.toNat_natCast, hd, br_d, br_eq, br_not, hin, need_true, k60 (show 0 < c.length by omega), k69, bindO_s]
  rw [if_pos (by omega)]
  by_cases h4 : x.2.length = gro c
  case neg =>
   right
   rw [if_neg (by omega)]
   simp [chkL, okCh, h4]
  rw [if_pos (by omega)]
  by_cases h5 : 1 ≤ x.1 ∧ x.1 ≤ 10000000
  case neg =>
   right
   rw [if_neg h5]
   simp only [chkL, okCh, if_neg (not_not_intro h4), if_pos h5]; simp
  rw [if_pos h5, bind_of (k50_1 (show x.2.length < 1000 by omega) c x.1 _)]
  cases h6 : x.2.any badW
  ·left
   refine ⟨(), ?_, trivial, ?_⟩
   ·simp only [Bool.false_eq_true, if_false, run_sr, run_ni, run_ret, hni, need_true]; simp
   ·simp [chkL, okCh, h4, h5, h6]
  ·right
   simp [chkL, okCh, h4, h5, h6, run_sl, run_ret]
 ·intro s _
  simp only [g50_0, run_br, run_ret, br_d]
  rw [if_neg (by omega)]; simp [chkL]
 ·cases h : decide (chkL (gro c) c = 0)
  ·have h' := of_decide_eq_false h
   simp only [if_neg h', run_sl, run_ret]
  ·have h' := of_decide_eq_true h
   simp only [if_pos h', run_sr, run_ret]; rw [h']
end Go.Proofs.Tryd
end
section
namespace Go.Proofs.Tryd
open Go.AM Go.Cn
set_option maxRecDepth 100000
/-- The weight of a set. -/
def wt (ws : List Int) (s : Nat) : Int := ((els s).map fun i => ws.getD i 0).sum
/-- A set wins in a chamber; in all. -/
def win1 (s : Nat) (x : Ch) : Bool := decide (x.1 ≤ wt x.2 s)
def winB (c : List Ch) (s : Nat) : Bool := c.all (win1 s)
/-- A chamber of n growers. -/
structure OkX (n : Nat) (x : Ch) : Prop where
 len : x.2.length = n
 q1 : 1 ≤ x.1
 q2 : x.1 ≤ 10000000
 w : ∀ z ∈ x.2, 0 ≤ z ∧ z ≤ 1000000
/-- A council of n growers, not too large. -/
structure OkC (n : Nat) (c : List Ch) : Prop where
 c1 : 1 ≤ c.length
 c3 : c.length ≤ 3
 n1 : 1 ≤ n
 n6 : n ≤ 6
 gro : gro c = n
 ch : ∀ x ∈ c, OkX n x
theorem OkX.get {n : Nat} {x : Ch} (h : OkX n x) (i : Nat) : 0 ≤ x.2.getD i 0 ∧ x.2.getD i 0 ≤ 1000000 := by
 by_cases hi : i < x.2.length
 ·rw [show x.2.getD i 0 = x.2[i] by simp [List.getD, hi]]; exact h.w _ (List.getElem_mem hi)
 ·rw [show x.2.getD i 0 = 0 by simp [List.getD, hi]]; omega
theorem k101 {s : Nat} (hs : s < 64) (h : s ≠ 0) : run0 (F101 (s : Int)) = some (((tzN s : Nat) : Int), ()) := by
 have := all_lt (n := 64) (p := fun s => s == 0 || decide (cmp 40 (fun _ => none) (F101 ((s : Nat) : Int)) = some (((tzN s : Nat) : Int), ()))) (by kernel_rfl) hs
 simp only [Bool.or_eq_true, beq_iff_eq, h, false_or, decide_eq_true_eq] at this
 exact cmp_done 40 this
theorem els_len {s : Nat} : (els s).length ≤ 6 := by
 have := List.length_filter_le s.testBit (List.range 6)
 simpa [els] using this
theorem k78 {n s : Nat} {x : Ch} (hx : OkX n x) (hn : n ≤ 6) (hs : s < 2 ^ n) : run0 (F78 x (s : Int)) = some (wt x.2 s, ()) := by
 have h64 : s < 64 := Nat.lt_of_lt_of_le hs (pow6 hn)
 simp only [F78, FH77, g78_0, run_bd, run_it, run_ret, bindO_s]
 refine bind_eq (a := (wt x.2 s, ())) (bind_eq (iter_els (fun s' (st : Int) => ((0 : Int), (s' : Int), x.1, x.2, st, ())) (fun st r => (x.1, x.2, st + (r.map fun i => x.2.getD i 0).sum, (0 : Int), (0 : Int), ()))
  (fun s' st => s' < 2 ^ n ∧ 0 ≤ st ∧ st + 1000000 * ((els s').length : Int) ≤ 6000000) ?_ ?_ (s := s) (st := 0) h64 ⟨hs, by omega, by have := els_len (s := s); omega⟩) ?_) rfl
 ·rintro s' st h64 h0 ⟨hs', b1, b2⟩
  left
  have ht := tz_lt hn hs' h0
  have hl := low_lt h64 h0
  have hw := hx.get (tzN s')
  have e := congrArg List.length (els_cons h64 h0)
  rw [List.length_cons] at e
  refine ⟨st + x.2.getD (tzN s') 0, ?_, ⟨by omega, by omega, by omega⟩, ?_⟩
  ·have hin : inb ((tzN s' : Nat) : Int) ((x.2.length : Nat) : Int) = true := inb_t (by omega) (by have := hx.len; omega)
   have hni : rng .i64 (st + x.2.getD (tzN s') 0) = true := rng_i64 (by omega) (by omega)
   have hnu : rng .u64 ((s' : Int) - 1) = true := rng_u64 (by omega) (by omega)
   simp only [g78_0i_0, run_br, run_bd, run_nb, run_ni, run_nd, run_ret, br_not, br_eq, k101 h64 h0, bindO_s, Int.toNat_natCast, hin, hni, hnu, need_true, u_low h64 h0]
   rw [if_neg (by omega)]
  ·simp only [List.map_cons, List.sum_cons, Int.add_assoc]
 ·rintro st -
  simp only [g78_0i_0, run_br, run_ret, br_not, br_eq]
  simp
 ·simp only [wt, Int.zero_add]
theorem k84 {n s : Nat} {x : Ch} (hx : OkX n x) (hn : n ≤ 6) (hs : s < 2 ^ n) : run0 (F84 x (s : Int)) = some (win1 s x, ()) := by
 simp only [F84, run_bd, run_ret]
 rw [bind_of (k78 hx hn hs)]; rfl
theorem k104 {n s : Nat} {x : Ch} (hx : OkX n x) (hn : n ≤ 6) (hs : s < 2 ^ n) : run0 (F104 x.1 x.2 (s : Int)) = some (!win1 s x, ()) := by
 simp only [F104, run_bd, run_ret]
 rw [bind_of (k84 (x := x) hx hn hs)]
theorem k113 {n s : Nat} {c : List Ch} (hc : ∀ x ∈ c, OkX n x) (hl : c.length < 1000) (hn : n ≤ 6) (hs : s < 2 ^ n) : ∃ k : Int, run0 (F113 c (s : Int)) = some (k, ()) ∧ (0 ≤ k ↔ winB c s = false) := by
 simp only [F113, run_bd, run_it]
 have := iter_list c (f := fun a => run (fun _ => none) (g113_0 a)) (fun k (_ : Unit) => (c, (s : Int), ((c.length : Nat) : Int), (k : Int), ())) (fun _ r => match r.findIdx? (fun x => !win1 s x) with | some k => .inl (((c.length - r.length + k : Nat) : Int), ()) | none => .inr ()) (fun _ _ => True) ?_ ?_ (s := ()) trivial
 ·replace this : iter (fun a => run (fun _ => none) (g113_0 a)) (c, (s : Int), ((c.length : Nat) : Int), (0 : Int), ()) = _ := this
  rw [bind_of this]
  cases hf : c.findIdx? (fun x => !win1 s x) with
  | none =>
   simp only [run_sr, run_ret]
   refine ⟨-1, rfl, ?_⟩
   have h := List.findIdx?_eq_none_iff.1 hf
   have : winB c s = true := List.all_eq_true.2 fun x hx => by simpa using h x hx
   simp [this]
  | some k =>
   simp only [run_sl, run_ret]
   obtain ⟨hk, h1, _⟩ := List.findIdx?_eq_some_iff_getElem.1 hf
   refine ⟨_, rfl, ?_⟩
   have : winB c s = false := by
    rw [Bool.eq_false_iff]
    intro h
    have := List.all_eq_true.1 h _ (List.getElem_mem hk)
    rw [this] at h1; cases h1
   rw [this]
   simp only [iff_true]
   omega
 ·rintro pre x post _ hxx -
  have hlen : c.length = pre.length + (post.length + 1) := by rw [hxx]; simp
  have hd : c.getD pre.length ((0 : Int), []) = x := by rw [hxx]; exact getD_mid rfl
  have hx : OkX n x := hc x (by rw [hxx]; simp)
  have hin : inb (pre.length : Int) ((c.length : Nat) : Int) = true := inb_t (by omega) (by omega)
  have hni : rng .i64 ((pre.length : Int) + 1) = true := rng_i64 (by omega) (by omega)
  simp only [g113_0, run_br, run_bd, run_nb, run_ni, run_ret, Int.toNat_natCast, hd, br_d, hin, hni, need_true, k104 hx hn hs, bindO_s]
  rw [if_pos (by omega)]
  cases hb : win1 s x
  ·right
   rw [List.findIdx?_cons]
   have e : c.length - (x :: post).length = pre.length := by rw [List.length_cons]; omega
   simp only [hb, Bool.not_false, if_true, brO_true, e, Nat.add_zero]
  ·left
   refine ⟨(), by simp, trivial, ?_⟩
   rw [List.findIdx?_cons]
   simp only [hb, Bool.not_true, Bool.false_eq_true, if_false]
   cases post.findIdx? (fun x => !win1 s x) with
   | none => rfl
   | some k => simp; omega
 ·rintro _ -
  simp only [g113_0, run_br, run_ret, br_d]
  rw [if_neg (by omega)]; rfl
theorem k103 {n s : Nat} {c : List Ch} (hc : OkC n c) (hs : s < 2 ^ n) : run0 (F103 c (s : Int)) = some (!winB c s, ()) := by
 obtain ⟨k, h1, h2⟩ := k113 hc.ch (by have := hc.c3; omega) hc.n6 hs
 simp only [F103, run_bd, run_ret]
 rw [bind_of h1]
 congr 2
 cases h : winB c s
 ·rw [h] at h2; simp only [Bool.not_false, decide_eq_true_eq]; exact h2.2 rfl
 ·rw [h] at h2; simp only [Bool.not_true, decide_eq_false_iff_not]; intro e; exact absurd (h2.1 e) (by simp)
theorem k83 {n s : Nat} {c : List Ch} (hc : OkC n c) (hs : s < 2 ^ n) : run0 (F83 c (s : Int)) = some (winB c s, ()) := by
 simp only [F83, run_bd, run_ret]
 rw [bind_of (k103 hc hs), Bool.not_not]
end Go.Proofs.Tryd
end
section
namespace Go.Proofs.Tryd
open Go.AM Go.Cn
set_option maxRecDepth 100000
theorem wt_range {n s : Nat} {ws : List Int} (hn : n ≤ 6) (hs : s < 2 ^ n) : wt ws s = (((List.range n).filter s.testBit).map fun i => ws.getD i 0).sum := by
 rw [wt, els_upto hn hs]
theorem k79 {n s : Nat} {x : Ch} (hx : OkX n x) (hn : n ≤ 6) (hs : s < 2 ^ n) : run0 (F79 x (s : Int)) = some (wt x.2 s, ()) := by
 have h64 : s < 64 := Nat.lt_of_lt_of_le hs (pow6 hn)
 simp only [F79, run_bd, run_it, run_ret]
 refine bind_eq (iter_upto n (fun k (st : Int) => ((s : Int), st, (k : Int), x.1, x.2, ())) (fun st k => (st + (((List.range' k (n - k)).filter s.testBit).map fun i => x.2.getD i 0).sum, ()))
  (fun k st => 0 ≤ st ∧ st ≤ 1000000 * (k : Int)) ?_ ?_ (s := 0) ⟨by omega, by omega⟩) ?_
 ·rintro k st hk ⟨b1, b2⟩
  left
  have hw := hx.get k
  have hl := hx.len
  have hin : inb (k : Int) ((x.2.length : Nat) : Int) = true := inb_t (by omega) (by omega)
  have hi6 : inb (k : Int) 64 = true := inb_t (by omega) (by omega)
  have hni : rng .i64 ((k : Int) + 1) = true := rng_i64 (by omega) (by omega)
  have hni2 : rng .i64 (st + x.2.getD k 0) = true := rng_i64 (by omega) (by omega)
  have e : n - k = (n - (k + 1)) + 1 := by omega
  simp only [g79_0, run_br, run_nb, run_ni, run_ret, Int.toNat_natCast, br_d, hin, hi6, hni, hni2, need_true, i_has h64 (show k < 6 by omega)]
  rw [if_pos (by omega), e, List.range'_succ, List.filter_cons]
  cases hb : s.testBit k
  ·exact ⟨st, by simp, ⟨by omega, by omega⟩, by simp⟩
  ·exact ⟨st + x.2.getD k 0, by simp, ⟨by omega, by omega⟩, by simp only [if_true, List.map_cons, List.sum_cons, Int.add_assoc]⟩
 ·rintro st -
  have hl := hx.len
  simp only [g79_0, run_br, run_ret, br_d]
  rw [if_neg (by omega)]; simp
 ·rw [wt_range hn hs, List.range_eq_range']; simp
/-- All chambers but one. -/
def passL (s : Nat) (but : Int) : Nat → List Ch → Bool
 | _, [] => true
 | k, x :: r => (decide ((k : Int) = but) || win1 s x) && passL s but (k + 1) r
def dropL (but : Int) : Nat → List Ch → List Ch
 | _, [] => []
 | k, x :: r => if (k : Int) = but then dropL but (k + 1) r else x :: dropL but (k + 1) r
theorem pass_drop (s : Nat) (but : Int) : ∀ (k : Nat) (c : List Ch), passL s but k c = winB (dropL but k c) s
 | _, [] => rfl
 | k, x :: r => by
  simp only [passL, dropL, pass_drop s but (k + 1) r]
  by_cases h : (k : Int) = but
  ·simp [h]
  ·simp [h, winB]
theorem drop_none : ∀ (k : Nat) (c : List Ch), dropL (-1) k c = c
 | _, [] => rfl
 | k, x :: r => by
  simp only [dropL, drop_none (k + 1) r]
  rw [if_neg (by omega)]
theorem k86 {n s : Nat} {c : List Ch} (hc : OkC n c) (hs : s < 2 ^ n) (but : Int) : run0 (F86 c (s : Int) but) = some (passL s but 0 c, ()) := by
 simp only [F86, run_bd, run_it]
 refine bind_eq (iter_list c (fun k (_ : Unit) => ((s : Int), but, (k : Int), c, ())) (fun _ r => if passL s but (c.length - r.length) r = true then .inr () else .inl ()) (fun _ _ => True) ?_ ?_ (s := ()) trivial) ?_
 ·rintro pre x post _ hxx -
  have hlen : c.length = pre.length + (post.length + 1) := by rw [hxx]; simp
  have hd : c.getD pre.length ((0 : Int), []) = x := by rw [hxx]; exact getD_mid rfl
  have hx : OkX n x := hc.ch x (by rw [hxx]; simp)
  have h3 := hc.c3
  have hin : inb (pre.length : Int) ((c.length : Nat) : Int) = true := inb_t (by omega) (by omega)
  have hni : rng .i64 ((pre.length : Int) + 1) = true := rng_i64 (by omega) (by omega)
  have e1 : c.length - (x :: post).length = pre.length := by simp; omega
  have e2 : c.length - post.length = pre.length + 1 := by omega
  simp only [g86_0, run_br, run_bd, run_nb, run_ni, run_ret, Int.toNat_natCast, hd, br_d, br_eq, br_not, hin, hni, need_true, k79 hx hc.n6 hs, bindO_s]
  rw [if_pos (by omega)]
  simp only [e1, e2, passL]
  by_cases hb : (pre.length : Int) = but
  ·left
   rw [if_pos hb]
   exact ⟨(), rfl, trivial, by simp [hb]⟩
  rw [if_neg hb]
  by_cases hw : wt x.2 s < x.1
  ·right
   rw [if_pos hw]
   have : win1 s x = false := by simp only [win1, decide_eq_false_iff_not]; omega
   simp [hb, this]
  ·left
   rw [if_neg hw]
   have : win1 s x = true := by simp only [win1, decide_eq_true_eq]; omega
   exact ⟨(), rfl, trivial, by simp [hb, this]⟩
 ·rintro _ -
  simp only [g86_0, run_br, run_ret, br_d]
  rw [if_neg (by omega)]; simp [passL]
 ·have e : c.length - c.length = 0 := by omega
  rw [e]
  cases h : passL s but 0 c <;> simp [run_sl, run_sr, run_ret]
theorem k76 {n s : Nat} {c : List Ch} (hc : OkC n c) (hs : s < 2 ^ n) : run0 (F76 c (s : Int)) = some (winB c s, ()) := by
 simp only [F76, run_bd, run_ret]
 rw [bind_of (k86 hc hs _), pass_drop, drop_none]
theorem k81 (c : List Ch) (hl : c.length < 1000) (but : Int) : run0 (F81 c but) = some (dropL but 0 c, ()) := by
 simp only [F81, run_bd, run_it]
 refine bind_eq (iter_list c (fun k (st : List Ch) => (but, st.length, c, ((c.length : Nat) : Int), (k : Int), st, ())) (fun st r => ((st ++ dropL but (c.length - r.length) r).length, st ++ dropL but (c.length - r.length) r, ())) (fun pre st => st.length ≤ pre.length) ?_ ?_ (s := []) (by simp)) ?_
 ·rintro pre x post st hxx hst
  left
  have hlen : c.length = pre.length + (post.length + 1) := by rw [hxx]; simp
  have hd : c.getD pre.length ((0 : Int), []) = x := by rw [hxx]; exact getD_mid rfl
  have hin : inb (pre.length : Int) ((c.length : Nat) : Int) = true := inb_t (by omega) (by omega)
  have hni : rng .i64 ((pre.length : Int) + 1) = true := rng_i64 (by omega) (by omega)
  have e1 : c.length - (x :: post).length = pre.length := by simp; omega
  have e2 : c.length - post.length = pre.length + 1 := by omega
  simp only [g81_0, run_br, run_bd, run_nb, run_nd, run_ni, run_ret, Int.toNat_natCast, hd, br_d, br_eq, br_not, hin, hni, need_true]
  rw [if_pos (by omega)]
  simp only [e1, e2, dropL]
  by_cases hb : (pre.length : Int) = but
  ·rw [if_pos hb]
   exact ⟨st, rfl, by simp; omega, by simp [hb]⟩
  ·rw [if_neg hb]
   refine ⟨st ++ [x], ?_, by simp; omega, by simp [hb]⟩
   rw [need_lenbig (by simp; omega)]
   simp
 ·rintro st -
  simp only [g81_0, run_br, run_ret, br_d]
  rw [if_neg (by omega)]; simp [dropL]
 ·have e : c.length - c.length = 0 := by omega
  simp only [e, run_ret]; simp
theorem k66_no {c : List Ch} (h : chk c ≠ 0) : run0 (F66 c) = some (.inl ([], 0, 0, chk c, ())) := by
 simp only [F66, run_bd, run_br, run_ret, k41, bindO_s, br_not, br_eq]
 rw [if_neg h]
theorem k66 {n : Nat} {c : List Ch} (hc : OkC n c) (h : chk c = 0) : run0 (F66 c) = some (.inr (c, c, (n : Int), ((2 ^ n - 1 : Nat) : Int), 0, ())) := by
 have h1 := hc.c1
 have h3 := hc.c3
 have hn := hc.n6
 simp only [F66, run_bd, run_br, run_ret, k41, bindO_s, br_not, br_eq]
 rw [if_pos h, bind_of (k81 c (by omega) _), drop_none]
 have hp : 0 < 2 ^ n := Nat.pow_pos (by omega)
 have hp2 := pow6 hn
 have e : (((2 ^ n : Nat) : Int) - 1) = ((2 ^ n - 1 : Nat) : Int) := by omega
 simp only [k91 (show 0 < c.length by omega), hc.gro, bindO_s, run_nb, run_nd, run_ret, shl_one (show n < 12 by omega)]
 rw [need_inb (by omega) (by omega), need_t (rng_u64 (by omega) (by omega)), need_t (rng_u64 (by omega) (by omega)), e]
theorem k17 {c : List Ch} (hl : c.length ≤ 1000) : run0 (F17 c) = some ((c, ()), ()) := by
 simp only [F17, run_bd, run_it]
 refine bind_eq (iter_list c (fun k (st : List Ch) => ((k : Int), c, st.length, st, ())) (fun st r => ((st ++ r).length, st ++ r, ())) (fun pre st => st = pre) ?_ ?_ (s := []) rfl) ?_
 ·rintro pre x post st hxx rfl
  left
  have hlen : c.length = st.length + (post.length + 1) := by rw [hxx]; simp
  have hd : c.getD st.length ((0 : Int), []) = x := by rw [hxx]; exact getD_mid rfl
  have hin : inb (st.length : Int) ((c.length : Nat) : Int) = true := inb_t (by omega) (by omega)
  have hni : rng .i64 ((st.length : Int) + 1) = true := rng_i64 (by omega) (by omega)
  refine ⟨st ++ [x], ?_, rfl, by simp⟩
  simp only [g17_0, run_br, run_bd, run_nb, run_nd, run_ni, run_ret, Int.toNat_natCast, hd, br_d, hin, hni, need_true]
  rw [if_pos (by omega), need_lenbig (by simp; omega)]
  simp
 ·rintro st rfl
  simp only [g17_0, run_br, run_ret, br_d]
  rw [if_neg (by omega)]; simp
 ·simp only [run_ret]; simp
end Go.Proofs.Tryd
end
section
namespace Go.Proofs.Tryd
open Go.AM Go.Cn
set_option maxRecDepth 100000
theorem u_rng {i : Nat} (hi : i < 6) : rng .u64 (ar0.shl (1 : Int) (i : Int)) = true := by
 have := all_lt (n := 6) (p := fun i => rng .u64 (ar0.shl (1 : Int) (i : Int))) (by kernel_rfl) hi
 exact this
theorem i_rng {i : Nat} (hi : i < 6) : rng .i64 (ar0.shl (1 : Int) (i : Int)) = true := by
 have := all_lt (n := 6) (p := fun i => rng .i64 (ar0.shl (1 : Int) (i : Int))) (by kernel_rfl) hi
 exact this
theorem wo_eq {s i : Nat} (hs : s < 64) (hi : i < 6) : (((s : Nat) : Int) = ((wo s i : Nat) : Int)) ↔ s.testBit i = false := by
 have := all_lt2 (n := 64) (m := 6) (p := fun s i => decide ((((s : Nat) : Int) = ((wo s i : Nat) : Int)) ↔ s.testBit i = false)) (by kernel_rfl) hs hi
 exact of_decide_eq_true this
/-- A set without those of a list. -/
def woL (s : Nat) (l : List Nat) : Nat := l.foldl wo s
abbrev ints (l : List Nat) : List Int := l.map fun i : Nat => (i : Int)
theorem k90 {s : Nat} {l : List Nat} (hs : s < 64) (hl : ∀ i ∈ l, i < 6) (hn : l.length < 1000) : run0 (F90 (s : Int) (ints l)) = some (((woL s l : Nat) : Int), ()) := by
 simp only [F90, run_bd, run_it]
 refine bind_eq (iter_list l (fun k (st : Nat) => ((st : Int), ints l, (((ints l).length : Nat) : Int), (k : Int), ())) (fun st r => (((woL st r : Nat) : Int), ())) (fun _ st => st < 64) ?_ ?_ (s := s) hs) ?_
 ·rintro pre x post st hx hst
  left
  have hlen : l.length = pre.length + (post.length + 1) := by rw [hx]; simp
  have hd : (ints l).getD pre.length (0 : Int) = (x : Int) := by
   rw [hx]; simp only [ints, List.map_append, List.map_cons]
   exact getD_mid (by simp)
  have hx6 : x < 6 := hl x (by rw [hx]; simp)
  have hin : inb (pre.length : Int) (((ints l).length : Nat) : Int) = true := inb_t (by omega) (by simp; omega)
  have hni : rng .i64 ((pre.length : Int) + 1) = true := rng_i64 (by omega) (by omega)
  have hi6 : inb (x : Int) 64 = true := inb_t (by omega) (by omega)
  refine ⟨wo st x, ?_, wo_lt hst, rfl⟩
  simp only [g90_0, run_br, run_nb, run_ni, run_nd, run_ret, Int.toNat_natCast, hd, br_d, hin, hni, hi6, need_true, u_rng hx6, u_wo hst hx6]
  rw [if_pos (by simp; omega)]; rfl
 ·rintro st -
  simp only [g90_0, run_br, run_ret, br_d]
  rw [if_neg (by simp)]; rfl
 ·rfl
/-- A sum over some of the numbers from k on. -/
def sumF (p : Nat → Bool) (f : Nat → Int) (k m : Nat) : Int := (((List.range' k m).filter p).map f).sum
theorem sumF_zero {p : Nat → Bool} {f : Nat → Int} {k : Nat} : sumF p f k 0 = 0 := rfl
theorem sumF_yes {p : Nat → Bool} {f : Nat → Int} {k m : Nat} (h : p k = true) : sumF p f k (m + 1) = f k + sumF p f (k + 1) m := by
 simp [sumF, List.range'_succ, h]
theorem sumF_no {p : Nat → Bool} {f : Nat → Int} {k m : Nat} (h : p k = false) : sumF p f k (m + 1) = sumF p f (k + 1) m := by
 simp [sumF, List.range'_succ, h]
/-- A grower swings a set. -/
def swingB (c : List Ch) (i s : Nat) : Bool := !s.testBit i && (!winB c s && winB c (s ||| 2 ^ i))
def pw (c : List Ch) (n : Nat) (f : Nat → Int) (i : Nat) : Int := sumF (swingB c i) f 0 (2 ^ n)
def pws (c : List Ch) (n : Nat) (f : Nat → Int) : List Int := (List.range n).map (pw c n f)
theorem k74 {s i n : Nat} (hn : n ≤ 6) (hs : s < 2 ^ n) (hi : i < n) : run0 (F74 (s : Int) (i : Int)) = some (((s ||| 2 ^ i : Nat) : Int), ()) := by
 have h64 : s < 64 := Nat.lt_of_lt_of_le hs (pow6 hn)
 simp only [F74, run_nb, run_nd, run_ret, u_rng (show i < 6 by omega), need_true, u_with h64 (show i < 6 by omega)]
 rw [need_inb (by omega) (by omega)]
theorem k59 {a b : List Ch} {x y z : Int} : run0 (F59 a b x y z) = some (1, ()) := rfl
theorem inc_u {k n : Nat} (hn : n ≤ 6) (hk : k < 2 ^ n) : rng .u64 ((k : Int) + 1) = true := by
 have := pow6 hn
 exact rng_u64 (by omega) (by omega)
theorem k98s {c : List Ch} {n i : Nat} (hc : OkC n c) (hi : i < n) : run0 (F98_v1 (i : Int) c c (n : Int) ((2 ^ n - 1 : Nat) : Int)) = some (pw c n (fun _ => 1) i, ()) := by
 have hn := hc.n6
 have hp : 0 < 2 ^ n := Nat.pow_pos (by omega)
 have h64 := pow6 hn
 simp only [F98_v1, F82_v1, g98_v1_0, run_bd, run_it, run_ret, bindO_s, List.drop_zero, List.take_succ_cons, List.take_zero]
 refine bind_eq (a := (pw c n (fun _ => 1) i, ())) (bind_eq (iter_upto (2 ^ n) (fun k (st : Int) => (c, c, (n : Int), ((2 ^ n - 1 : Nat) : Int), [(i : Int)], (k : Int), c, c, (n : Int), ((2 ^ n - 1 : Nat) : Int), (0 : Int), c, c, (n : Int), ((2 ^ n - 1 : Nat) : Int), [(i : Int)], (i : Int), st, ()))
  (fun st k => ((i : Int), st + sumF (swingB c i) (fun _ => 1) k (2 ^ n - k), c, c, (n : Int), ((2 ^ n - 1 : Nat) : Int), (0 : Int), c, c, (n : Int), ((2 ^ n - 1 : Nat) : Int), [(i : Int)], ()))
  (fun k st => 0 ≤ st ∧ st ≤ (k : Int)) ?_ ?_ (s := 0) ⟨by omega, by omega⟩) ?_) rfl
 ·rintro k st hk ⟨b1, b2⟩
  left
  have hb : run (fun _ => none) (F90 (k : Int) [(i : Int)]) = _ := k90 (s := k) (l := [i]) (by omega) (by simp; omega) (by simp)
  have e : 2 ^ n - k = (2 ^ n - (k + 1)) + 1 := by omega
  have hw : run (fun _ => none) (F83 c (k : Int)) = _ := k83 hc hk
  have hw2 : run (fun _ => none) (F83 c ((k ||| 2 ^ i : Nat) : Int)) = _ := k83 hc (or_lt hn hk hi)
  have hni : rng .i64 (st + 1) = true := rng_i64 (by omega) (by omega)
  simp only [g98_v1_0i_0, run_br, run_bd, run_ni, run_nd, run_ret, br_d, br_eq, br_not, inc_u hn hk, need_true]
  rw [if_pos (by omega), bind_of hb]
  simp only [woL, List.foldl_cons, List.foldl_nil, wo_eq (show k < 64 by omega) (show i < 6 by omega), hw, k74 hn hk hi, hw2, bindO_s, k59, hni, need_true]
  rw [e]
  cases h1 : k.testBit i
  case true =>
   refine ⟨st, by simp, ⟨by omega, by omega⟩, ?_⟩
   rw [sumF_no (by simp [swingB, h1])]
  cases h2 : winB c k
  case true =>
   refine ⟨st, by simp, ⟨by omega, by omega⟩, ?_⟩
   rw [sumF_no (by simp [swingB, h1, h2])]
  cases h3 : winB c (k ||| 2 ^ i)
  case false =>
   refine ⟨st, by simp, ⟨by omega, by omega⟩, ?_⟩
   rw [sumF_no (by simp [swingB, h1, h2, h3])]
  ·refine ⟨st + 1, by simp, ⟨by omega, by omega⟩, ?_⟩
   rw [sumF_yes (by simp [swingB, h1, h2, h3])]
   simp only [Int.add_assoc]
 ·rintro st -
  simp only [g98_v1_0i_0, run_br, run_ret, br_d]
  rw [if_neg (by omega)]
  simp [sumF_zero]
 ·simp only [run_ret, pw, Nat.sub_zero, Int.zero_add]
end Go.Proofs.Tryd
end
section
namespace Go.Proofs.Tryd
open Go.AM Go.Cn
set_option maxRecDepth 100000
theorem dt1 {α : Type} (x : α) : List.take 1 (List.drop 0 [x]) = [x] := rfl
theorem tk1 {α : Type} (x : α) : List.take 1 [x] = [x] := rfl
theorem map_range' {α : Type} (f : Nat → α) {k n : Nat} (h : k < n) : (List.range' k (n - k)).map f = f k :: (List.range' (k + 1) (n - (k + 1))).map f := by
 have e : n - k = (n - (k + 1)) + 1 := by omega
 rw [e, List.range'_succ, List.map_cons]
/-- 'each' of a council: rounds that put one number more behind a list. -/
theorem each_ok {A B : Type} {f : A → Option (A ⊕ B)} {n : Nat} (mk : Nat → List Int → A) (fin : List Int → B) (p : Nat → Int)
  (hs : ∀ k st, k < n → st.length = k → f (mk k st) = some (.inl (mk (k + 1) (st ++ [p k])))) (he : ∀ st, st.length = n → f (mk n st) = some (.inr (fin st))) :
  iter f (mk 0 []) = some (fin ((List.range n).map p)) := by
 have := iter_upto (f := f) n mk (fun st k => fin (st ++ (List.range' k (n - k)).map p)) (fun k st => st.length = k) (fun k st hk hi => .inl ⟨st ++ [p k], hs k st hk hi, by simp [hi], by
  rw [map_range' p hk]; simp⟩) (fun st hi => by rw [he st hi]; simp) (s := []) rfl
 rw [this]; simp [List.range_eq_range']
theorem k87_v3 {c : List Ch} {n : Nat} (hc : OkC n c) : run0 (F87_v3 c c (n : Int) ((2 ^ n - 1 : Nat) : Int) c c (n : Int) ((2 ^ n - 1 : Nat) : Int)) = some (pws c n (fun _ => 1), ()) := by
 have hn := hc.n6
 simp only [F87_v3, run_bd, run_it]
 refine bind_eq (each_ok (n := n) (fun k st => (c, c, (n : Int), ((2 ^ n - 1 : Nat) : Int), st.length, (n : Int), (k : Int), st, ())) (fun st => (st.length, st, ())) (pw c n fun _ => 1) (fun k st hk hi => ?_) (fun st hi => ?_)) ?_
 ·have hni : rng .i64 ((k : Int) + 1) = true := rng_i64 (by omega) (by omega)
  simp only [g87_v3_0, run_br, run_bd, run_nd, run_ni, run_ret, br_d, hni, need_true]
  rw [if_pos (by omega), bind_of (k98s hc hk)]
  simp only [dt1, tk1, List.length_cons, List.length_nil, List.drop_zero, List.take_length]
  rw [need_lenbig (by omega)]
  simp
 ·simp only [g87_v3_0, run_br, run_ret, br_d]
  rw [if_neg (by omega)]
 ·simp only [run_ret, List.drop_zero, List.take_length, pws]
theorem k58 {c : List Ch} {n : Nat} (hc : OkC n c) (h : chk c = 0) : run0 (F58 c) = some (pws c n (fun _ => 1), 0, ()) := by
 simp only [F58, run_bd]
 rw [bind_of (k66 hc h)]
 simp only [run_sr, run_br, run_bd, run_ret, br_not, br_eq]
 rw [if_pos trivial, bind_of (k87_v3 hc)]
theorem k58_no {c : List Ch} (h : chk c ≠ 0) : run0 (F58 c) = some ([], chk c, ()) := by
 simp only [F58, run_bd]
 rw [bind_of (k66_no h)]
 simp only [run_sl, run_br, run_bd, run_ret, br_not, br_eq]
 rw [if_neg h]
theorem k18 {c : List Ch} {n : Nat} (hc : OkC n c) (h : chk c = 0) : run0 (F18 c) = some (pws c n (fun _ => 1), 0, ()) := by
 simp only [F18, run_bd, run_ret]; rw [bind_of (k58 hc h)]
theorem k18_no {c : List Ch} (h : chk c ≠ 0) : run0 (F18 c) = some ([], chk c, ()) := by
 simp only [F18, run_bd, run_ret]; rw [bind_of (k58_no h)]
/-! Turns: how many orders. -/
def cnt (s : Nat) : Nat := (els s).length
def fct : Nat → Int
 | 0 => 1
 | n + 1 => ((n + 1 : Nat) : Int) * fct n
def ords (n s : Nat) : Int := fct (cnt s) * fct (n - 1 - cnt s)
def tabF : List Int := [1, 1, 2, 6, 24, 120, 720, 5040, 40320, 362880]
theorem k63 {s : Nat} (hs : s < 64) : run0 (F63 (s : Int)) = some (((cnt s : Nat) : Int), ()) := by
 have := all_lt (n := 64) (p := fun s => decide (cmp 40 (fun _ => none) (F63 ((s : Nat) : Int)) = some (((cnt s : Nat) : Int), ()))) (by kernel_rfl) hs
 exact cmp_done 40 (of_decide_eq_true this)
theorem k64 {s : Nat} (hs : s < 64) : run0 (F64 (s : Int)) = some (ints (els s), ()) := by
 have := all_lt (n := 64) (p := fun s => decide (cmp 40 (fun _ => none) (F64 ((s : Nat) : Int)) = some (ints (els s), ()))) (by kernel_rfl) hs
 exact cmp_done 40 (of_decide_eq_true this)
theorem k65 {k : Nat} (hk : k < 10) : run0 (F65 (k : Int)) = some (fct k, ()) := by
 have := all_lt (n := 10) (p := fun k => decide (cmp 40 (fun _ => none) (F65 ((k : Nat) : Int)) = some (fct k, ()))) (by kernel_rfl) hk
 exact cmp_done 40 (of_decide_eq_true this)
theorem tab_fct {k : Nat} (hk : k < 10) : tabF.getD k 0 = fct k := by
 have := all_lt (n := 10) (p := fun k => decide (tabF.getD k 0 = fct k)) (by kernel_rfl) hk
 exact of_decide_eq_true this
theorem fct_le {k : Nat} (hk : k < 6) : 1 ≤ fct k ∧ fct k ≤ 120 := by
 have := all_lt (n := 6) (p := fun k => decide (1 ≤ fct k ∧ fct k ≤ 120)) (by kernel_rfl) hk
 exact of_decide_eq_true this
theorem cnt_lt {n s i : Nat} (hn : n ≤ 6) (hs : s < 2 ^ n) (hi : i < n) (h : s.testBit i = false) : cnt s < n := by
 have := all_lt2 (n := 7) (m := 64) (p := fun n s => (List.range n).all fun i => !(decide (s < 2 ^ n)) || s.testBit i || decide (cnt s < n)) (by decide +kernel) (s := n) (i := s) (by omega) (Nat.lt_of_lt_of_le hs (pow6 hn))
 have := List.all_eq_true.1 this i (List.mem_range.2 hi)
 simpa [hs, h] using this
theorem ords_le {n s : Nat} (hn : n ≤ 6) (h : cnt s < n) : 1 ≤ ords n s ∧ ords n s ≤ 14400 := by
 have h1 := fct_le (k := cnt s) (by omega)
 have h2 := fct_le (k := n - 1 - cnt s) (by omega)
 refine ⟨?_, ?_⟩
 ·have := Int.mul_le_mul h1.1 h2.1 (by omega) (by omega)
  simpa [ords] using this
 ·have := Int.mul_le_mul h1.2 h2.2 (by omega) (by omega)
  simpa [ords] using this
theorem k62 {c d : List Ch} {z : Int} {n s : Nat} (hn : n ≤ 6) (hs : s < 64) (h : cnt s < n) : run0 (F62 c d (n : Int) z (s : Int) tabF) = some (ords n s, ()) := by
 have e1 : ((n : Int) - 1) - ((cnt s : Nat) : Int) = ((n - 1 - cnt s : Nat) : Int) := by omega
 have b := ords_le hn h
 simp only [ords] at b
 simp only [F62, run_bd, run_nb, run_ni, run_ret]
 rw [bind_of (k63 hs), need_inb (by omega) (by omega), need_inb (by omega) (by simp [tabF]; omega), need_t (rng_i64 (by omega) (by omega)), bind_of (k63 hs)]
 simp only [e1, Int.toNat_natCast, tab_fct (show cnt s < 10 by omega), tab_fct (show n - 1 - cnt s < 10 by omega)]
 rw [need_t (rng_i64 (by omega) (by omega)), need_inb (by omega) (by omega), need_inb (by omega) (by simp [tabF]; omega), need_t (rng_i64 (by omega) (by omega))]
 rfl
theorem k98t {c : List Ch} {n i : Nat} (hc : OkC n c) (hi : i < n) : run0 (F98_v3 (i : Int) c c (n : Int) ((2 ^ n - 1 : Nat) : Int) tabF) = some (pw c n (ords n) i, ()) := by
 have hn := hc.n6
 have hp : 0 < 2 ^ n := Nat.pow_pos (by omega)
 have h64 := pow6 hn
 simp only [F98_v3, F82_v1, g98_v3_0, run_bd, run_it, run_ret, bindO_s, dt1]
 refine bind_eq (a := (pw c n (ords n) i, ())) (bind_eq (iter_upto (2 ^ n) (fun k (st : Int) => (c, c, (n : Int), ((2 ^ n - 1 : Nat) : Int), [(i : Int)], (k : Int), c, c, (n : Int), ((2 ^ n - 1 : Nat) : Int), tabF, (0 : Int), c, c, (n : Int), ((2 ^ n - 1 : Nat) : Int), [(i : Int)], (i : Int), st, ()))
  (fun st k => ((i : Int), st + sumF (swingB c i) (ords n) k (2 ^ n - k), c, c, (n : Int), ((2 ^ n - 1 : Nat) : Int), tabF, (0 : Int), c, c, (n : Int), ((2 ^ n - 1 : Nat) : Int), [(i : Int)], ()))
  (fun k st => 0 ≤ st ∧ st ≤ 14400 * (k : Int)) ?_ ?_ (s := 0) ⟨by omega, by omega⟩) ?_) rfl
 ·rintro k st hk ⟨b1, b2⟩
  left
  have hb : run (fun _ => none) (F90 (k : Int) [(i : Int)]) = _ := k90 (s := k) (l := [i]) (by omega) (by simp; omega) (by simp)
  have e : 2 ^ n - k = (2 ^ n - (k + 1)) + 1 := by omega
  have hw : run (fun _ => none) (F83 c (k : Int)) = _ := k83 hc hk
  have hw2 : run (fun _ => none) (F83 c ((k ||| 2 ^ i : Nat) : Int)) = _ := k83 hc (or_lt hn hk hi)
  simp only [g98_v3_0i_0, run_br, run_bd, run_ni, run_nd, run_ret, br_d, br_eq, br_not, inc_u hn hk, need_true]
  rw [if_pos (by omega), bind_of hb]
  simp only [woL, List.foldl_cons, List.foldl_nil, wo_eq (show k < 64 by omega) (show i < 6 by omega), hw, k74 hn hk hi, hw2, bindO_s]
  rw [e]
  cases h1 : k.testBit i
  case true =>
   refine ⟨st, by simp, ⟨by omega, by omega⟩, ?_⟩
   rw [sumF_no (by simp [swingB, h1])]
  cases h2 : winB c k
  case true =>
   refine ⟨st, by simp, ⟨by omega, by omega⟩, ?_⟩
   rw [sumF_no (by simp [swingB, h1, h2])]
  cases h3 : winB c (k ||| 2 ^ i)
  case false =>
   refine ⟨st, by simp, ⟨by omega, by omega⟩, ?_⟩
   rw [sumF_no (by simp [swingB, h1, h2, h3])]
  ·have hcl := cnt_lt hn hk hi h1
   have ho := ords_le hn hcl
   refine ⟨st + ords n k, ?_, ⟨by omega, by omega⟩, ?_⟩
   ·simp only [brO_true, brO_false, if_true]
    rw [bind_of (k62 hn (by omega) hcl), need_t (rng_i64 (by omega) (by omega))]
    rfl
   ·rw [sumF_yes (by simp [swingB, h1, h2, h3])]
    simp only [Int.add_assoc]
 ·rintro st -
  simp only [g98_v3_0i_0, run_br, run_ret, br_d]
  rw [if_neg (by omega)]
  simp [sumF_zero]
 ·simp only [run_ret, pw, Nat.sub_zero, Int.zero_add]
theorem k87_v5 {c : List Ch} {n : Nat} (hc : OkC n c) : run0 (F87_v5 c c (n : Int) ((2 ^ n - 1 : Nat) : Int) c c (n : Int) ((2 ^ n - 1 : Nat) : Int) tabF) = some (pws c n (ords n), ()) := by
 have hn := hc.n6
 simp only [F87_v5, run_bd, run_it]
 refine bind_eq (each_ok (n := n) (fun k st => (c, c, (n : Int), ((2 ^ n - 1 : Nat) : Int), tabF, st.length, (n : Int), (k : Int), st, ())) (fun st => (st.length, st, ())) (pw c n (ords n)) (fun k st hk hi => ?_) (fun st hi => ?_)) ?_
 ·have hni : rng .i64 ((k : Int) + 1) = true := rng_i64 (by omega) (by omega)
  simp only [g87_v5_0, run_br, run_bd, run_nd, run_ni, run_ret, br_d, hni, need_true]
  rw [if_pos (by omega), bind_of (k98t hc hk)]
  simp only [dt1, tk1, List.length_cons, List.length_nil, List.drop_zero, List.take_length]
  rw [need_lenbig (by omega)]
  simp
 ·simp only [g87_v5_0, run_br, run_ret, br_d]
  rw [if_neg (by omega)]
 ·simp only [run_ret, List.drop_zero, List.take_length, pws]
theorem k58_v1 {c : List Ch} {n : Nat} (hc : OkC n c) (h : chk c = 0) : run0 (F58_v1 c tabF) = some (pws c n (ords n), 0, ()) := by
 simp only [F58_v1, run_bd]
 rw [bind_of (k66 hc h)]
 simp only [run_sr, run_br, run_bd, run_ret, br_not, br_eq]
 rw [if_pos trivial, bind_of (k87_v5 hc)]
theorem k58_v1_no {c : List Ch} (h : chk c ≠ 0) (l : List Int) : run0 (F58_v1 c l) = some ([], chk c, ()) := by
 simp only [F58_v1, run_bd]
 rw [bind_of (k66_no h)]
 simp only [run_sl, run_br, run_bd, run_ret, br_not, br_eq]
 rw [if_neg h]
theorem k20_0 (c : List Ch) : iter (fun a => run (fun _ => none) (g20_0 a)) ((1 : Int), (c, (((List.replicate 10 (0 : Int))).set 0 1, ()))) = some (c, tabF, ()) :=
 cmp_done (t := .it g20_0 ((1 : Int), (c, (((List.replicate 10 (0 : Int))).set 0 1, ())))) 40 (by kernel_rfl)
theorem k20 {c : List Ch} {n : Nat} (hc : OkC n c) (h : chk c = 0) : run0 (F20 c) = some (pws c n (ords n), 0, ()) := by
 simp only [F20, run_bd, run_nd, run_it, run_ret]
 rw [need_d (by decide), bind_of (k20_0 c), bind_of (k58_v1 hc h)]
theorem k20_no {c : List Ch} (h : chk c ≠ 0) : run0 (F20 c) = some ([], chk c, ()) := by
 simp only [F20, run_bd, run_nd, run_it, run_ret]
 rw [need_d (by decide), bind_of (k20_0 c), bind_of (k58_v1_no h _)]
end Go.Proofs.Tryd
end
section
namespace Go.Proofs.Tryd
open Go.AM Go.Cn
set_option maxRecDepth 100000
theorem ok_of {c : List Ch} (hl : largeC c = false) (h : chk c = 0) : OkC (gro c) c := by
 unfold chk at h
 split at h
 ·cases h
 rename_i h1
 split at h
 ·cases h
 rename_i h2
 split at h
 ·cases h
 rename_i h3
 split at h
 ·cases h
 rename_i h4
 have hall : ∀ (n : Nat) (l : List Ch), chkL n l = 0 → ∀ x ∈ l, okCh n x = 0 := by
  intro n l
  induction l with
  | nil => intro _ x hx; cases hx
  | cons y r ih =>
   intro h x hx
   simp only [chkL] at h
   by_cases hy : okCh n y = 0
   ·rw [if_neg (by simpa using hy)] at h
    rcases List.mem_cons.1 hx with rfl | hx
    ·exact hy
    ·exact ih h x hx
   ·rw [if_pos hy] at h; exact absurd h hy
 have hx : ∀ x ∈ c, OkX (gro c) x := fun x hx => by
  have := hall _ _ h x hx
  unfold okCh at this
  split at this
  ·cases this
  rename_i e1
  split at this
  ·cases this
  rename_i e2
  split at this
  ·cases this
  rename_i e3
  refine ⟨Decidable.not_not.1 e1, (Decidable.not_not.1 e2).1, (Decidable.not_not.1 e2).2, fun z hz => ?_⟩
  have hb : badW z = false := by
   rw [Bool.eq_false_iff]
   intro hb
   exact e3 (List.any_eq_true.2 ⟨z, hz, hb⟩)
  unfold badW at hb
  simpa using hb
 refine ⟨by omega, by omega, by omega, ?_, rfl, hx⟩
 unfold largeC at hl
 rw [Bool.or_eq_false_iff] at hl
 have hmem : c.getD 0 ((0 : Int), []) ∈ c := by
  cases c with
  | nil => exact absurd rfl h1
  | cons x r => exact List.mem_cons_self ..
 have h5 := List.any_eq_false.1 hl.2 _ hmem
 unfold largeOne at h5
 have h6 : (c.getD 0 ((0 : Int), [])).2.length = gro c := rfl
 rw [h6] at h5
 simp at h5
 omega
theorem k22 {a b : List Int} (ha : a.length ≤ 1000) : run0 (F22 a b) = some (decide (a = b), ()) := by
 simp only [F22, run_br, run_bd, run_it, run_ret, br_not, br_eq]
 by_cases hl : a.length = b.length
 case neg =>
  rw [if_neg (by omega)]
  have : a ≠ b := fun e => hl (by rw [e])
  simp [this]
 rw [if_pos (by omega)]
 refine bind_eq (iter_list a (fun k (_ : Unit) => (a, b, (k : Int), ())) (fun _ r => if r = b.drop (a.length - r.length) then Sum.inr () else Sum.inl ()) (fun _ _ => True) ?_ ?_ (s := ()) trivial) ?_
 ·rintro pre x post _ hx -
  have hlen : a.length = pre.length + (post.length + 1) := by rw [hx]; simp
  have hd : a.getD pre.length (0 : Int) = x := by rw [hx]; exact getD_mid rfl
  have hin : inb (pre.length : Int) ((a.length : Nat) : Int) = true := inb_t (by omega) (by omega)
  have hin2 : inb (pre.length : Int) ((b.length : Nat) : Int) = true := inb_t (by omega) (by omega)
  have hni : rng .i64 ((pre.length : Int) + 1) = true := rng_i64 (by omega) (by omega)
  have e1 : a.length - (x :: post).length = pre.length := by rw [List.length_cons]; omega
  have e2 : a.length - post.length = pre.length + 1 := by omega
  have e3 : b.drop pre.length = b.getD pre.length 0 :: b.drop (pre.length + 1) := by
   rw [List.drop_eq_getElem_cons (by omega)]
   simp [List.getD, show pre.length < b.length by omega]
  simp only [g22_0, run_br, run_nb, run_ni, run_ret, Int.toNat_natCast, hd, br_d, br_not, br_eq, hin, hin2, hni, need_true]
  rw [if_pos (by omega)]
  rw [e1, e2, e3]
  by_cases hxy : x = b.getD pre.length 0
  ·left
   rw [if_pos hxy]
   refine ⟨(), rfl, trivial, ?_⟩
   rw [← hxy]
   simp
  ·right
   rw [if_neg hxy, if_neg (fun e => hxy (List.cons.inj e).1)]
 ·rintro _ -
  simp only [g22_0, run_br, run_ret, br_d]
  rw [if_neg (by omega)]
  simp
  omega
 ·have e : a.length - a.length = 0 := by omega
  simp only [e, List.drop_zero]
  by_cases h : a = b
  ·rw [if_pos h, decide_eq_true h]; rfl
  ·rw [if_neg h, decide_eq_false h]; rfl
theorem k61 {c : List Ch} {n i s : Nat} (hc : OkC n c) (hi : i < n) (hs : s < 2 ^ n) : run0 (F61 c (i : Int) (s : Int)) = some (swingB c i s, ()) := by
 have hn := hc.n6
 have h64 : s < 64 := Nat.lt_of_lt_of_le hs (pow6 hn)
 have h1 : (ar0.bits IBin.and .i64 (ar0.shr (s : Int) (i : Int)) (1 : Int) == (0 : Int)) = !s.testBit i := by
  have := all_lt2 (n := 64) (m := 6) (p := fun s i => (ar0.bits IBin.and .i64 (ar0.shr (s : Int) (i : Int)) (1 : Int) == (0 : Int)) == !s.testBit i) (by kernel_rfl) h64 (show i < 6 by omega)
  simpa using this
 simp only [F61, run_nb, run_br, run_bd, run_ni, run_ret, h1, br_not]
 rw [need_inb (by omega) (by omega)]
 cases hb : s.testBit i
 ·simp only [brO_false]
  rw [bind_of (k76 hc hs)]
  cases hw : winB c s
  ·simp only [brO_false]
   rw [need_inb (by omega) (by omega), need_t (i_rng (show i < 6 by omega)), i_with h64 (show i < 6 by omega), bind_of (k76 hc (or_lt hn hs hi))]
   simp [swingB, hb, hw]
  ·simp [swingB, hb, hw]
 ·simp [swingB, hb]
theorem shl_n {n : Nat} (hn : n ≤ 6) : ar0.shl (1 : Int) (n : Int) = ((2 ^ n : Nat) : Int) := shl_one (by omega)
theorem k19_1 {c : List Ch} {n i : Nat} (hc : OkC n c) (hi : i < n) (m : Nat) (l : List Int) : iter (fun a => run (fun _ => none) (g19_1 a)) (m, (i : Int), (0 : Int), (0 : Int), c, l, ()) = some (m, (i : Int), pw c n (fun _ => 1) i, c, l, ()) := by
 have hn := hc.n6
 have hp := pow6 hn
 have hp0 : 0 < 2 ^ n := Nat.pow_pos (by omega)
 have := iter_upto (f := fun a => run (fun _ => none) (g19_1 a)) (2 ^ n) (fun k (st : Int) => (m, (i : Int), st, (k : Int), c, l, ())) (fun st k => (m, (i : Int), st + sumF (swingB c i) (fun _ => 1) k (2 ^ n - k), c, l, ())) (fun k st => 0 ≤ st ∧ st ≤ (k : Int)) ?_ ?_ (s := 0) ⟨by omega, by omega⟩
 ·refine Eq.trans this ?_
  simp [pw]
 ·rintro k st hk ⟨b1, b2⟩
  left
  have e : 2 ^ n - k = (2 ^ n - (k + 1)) + 1 := by omega
  have hni : rng .i64 ((k : Int) + 1) = true := rng_i64 (by omega) (by omega)
  have hni2 : rng .i64 (st + 1) = true := rng_i64 (by omega) (by omega)
  simp only [g19_1, run_br, run_bd, run_nb, run_ni, run_ret, k60 (show 0 < c.length by have := hc.c1; omega), hc.gro, bindO_s, br_d, hni, hni2, need_true, shl_n hn]
  rw [need_inb (by omega) (by omega), need_t (rng_i64 (by omega) (by omega)), if_pos (by omega), bind_of (k61 hc hi hk), e]
  cases h : swingB c i k
  ·refine ⟨st, by simp, ⟨by omega, by omega⟩, ?_⟩
   rw [sumF_no h]
  ·refine ⟨st + 1, by simp, ⟨by omega, by omega⟩, ?_⟩
   rw [sumF_yes h]
   simp only [Int.add_assoc]
 ·rintro st -
  simp only [g19_1, run_br, run_bd, run_nb, run_ni, run_ret, k60 (show 0 < c.length by have := hc.c1; omega), hc.gro, bindO_s, br_d, shl_n hn]
  rw [need_inb (by omega) (by omega), need_t (rng_i64 (by omega) (by omega)), if_neg (by omega)]
  simp [sumF_zero]
theorem k19 {c : List Ch} {n : Nat} (hc : OkC n c) (h : chk c = 0) : run0 (F19 c) = some (pws c n (fun _ => 1), 0, ()) := by
 have hn := hc.n6
 have h0 : 0 < c.length := by have := hc.c1; omega
 simp only [F19, run_bd, run_br, run_it, run_ret, br_not, br_eq]
 rw [bind_of (k50 c), if_pos h]
 refine bind_eq (each_ok (n := n) (fun k st => (st.length, (k : Int), c, st, ())) (fun st => (st.length, st, ())) (pw c n fun _ => 1) (fun k st hk hi => ?_) (fun st hi => ?_)) ?_
 ·have hni : rng .i64 ((k : Int) + 1) = true := rng_i64 (by omega) (by omega)
  simp only [g19_0, run_br, run_bd, run_it, run_nd, run_ni, run_ret, k60 h0, hc.gro, bindO_s, br_d]
  rw [if_pos (by omega), bind_of (k19_1 hc hk _ _)]
  simp only [dt1, tk1, List.length_cons, List.length_nil, List.drop_zero, List.take_length, hni, need_true]
  rw [need_lenbig (by omega)]
  simp
 ·simp only [g19_0, run_br, run_bd, run_ret, k60 h0, hc.gro, bindO_s, br_d]
  rw [if_neg (by omega)]
 ·simp only [List.drop_zero, List.take_length, pws]
theorem k19_no {c : List Ch} (h : chk c ≠ 0) : run0 (F19 c) = some ([], chk c, ()) := by
 simp only [F19, run_bd, run_br, run_ret, br_not, br_eq]
 rw [bind_of (k50 c), if_neg h]
theorem ints_len (l : List Nat) : (ints l).length = l.length := by simp [ints]
theorem k21_1 {c : List Ch} {n i : Nat} (hc : OkC n c) (hi : i < n) (m : Nat) (l : List Int) : iter (fun a => run (fun _ => none) (g21_1 a)) (m, (i : Int), (0 : Int), (0 : Int), c, l, ()) = some (m, (i : Int), pw c n (ords n) i, c, l, ()) := by
 have hn := hc.n6
 have hp := pow6 hn
 have hp0 : 0 < 2 ^ n := Nat.pow_pos (by omega)
 have := iter_upto (f := fun a => run (fun _ => none) (g21_1 a)) (2 ^ n) (fun k (st : Int) => (m, (i : Int), st, (k : Int), c, l, ())) (fun st k => (m, (i : Int), st + sumF (swingB c i) (ords n) k (2 ^ n - k), c, l, ())) (fun k st => 0 ≤ st ∧ st ≤ 14400 * (k : Int)) ?_ ?_ (s := 0) ⟨by omega, by omega⟩
 ·refine Eq.trans this ?_
  simp [pw]
 ·rintro k st hk ⟨b1, b2⟩
  left
  have e : 2 ^ n - k = (2 ^ n - (k + 1)) + 1 := by omega
  have hni : rng .i64 ((k : Int) + 1) = true := rng_i64 (by omega) (by omega)
  simp only [g21_1, run_br, run_bd, run_nb, run_ni, run_ret, k60 (show 0 < c.length by have := hc.c1; omega), hc.gro, bindO_s, br_d, hni, need_true, shl_n hn]
  rw [need_inb (by omega) (by omega), need_t (rng_i64 (by omega) (by omega)), if_pos (by omega), bind_of (k61 hc hi hk), e]
  cases h : swingB c i k
  ·refine ⟨st, by simp, ⟨by omega, by omega⟩, ?_⟩
   rw [sumF_no h]
  ·have hb : k.testBit i = false := by
    unfold swingB at h
    cases hb : k.testBit i
    ·rfl
    ·rw [hb] at h; simp at h
   have hcl := cnt_lt hn hk hi hb
   have ho := ords_le hn hcl
   refine ⟨st + ords n k, ?_, ⟨by omega, by omega⟩, ?_⟩
   ·have e1 : ((n : Int) - 1) - ((cnt k : Nat) : Int) = ((n - 1 - cnt k : Nat) : Int) := by omega
    have ho' := ho
    simp only [ords] at ho'
    simp only [brO_true]
    rw [bind_of (k64 (by omega))]
    simp only [ints_len]
    rw [bind_of (k65 (k := (els k).length) (show cnt k < 10 by omega)), need_t (rng_i64 (by omega) (by omega))]
    have e1' : ((n : Int) - 1) - (((els k).length : Nat) : Int) = ((n - 1 - cnt k : Nat) : Int) := e1
    rw [e1', need_t (rng_i64 (by omega) (by omega)), bind_of (k65 (by omega))]
    simp only [show fct (els k).length = fct (cnt k) from rfl]
    rw [need_t (rng_i64 (by omega) (by omega)), need_t (rng_i64 (by omega) (by omega))]
    rfl
   ·rw [sumF_yes h]
    simp only [Int.add_assoc]
 ·rintro st -
  simp only [g21_1, run_br, run_bd, run_nb, run_ni, run_ret, k60 (show 0 < c.length by have := hc.c1; omega), hc.gro, bindO_s, br_d, shl_n hn]
  rw [need_inb (by omega) (by omega), need_t (rng_i64 (by omega) (by omega)), if_neg (by omega)]
  simp [sumF_zero]
theorem k21 {c : List Ch} {n : Nat} (hc : OkC n c) (h : chk c = 0) : run0 (F21 c) = some (pws c n (ords n), 0, ()) := by
 have hn := hc.n6
 have h0 : 0 < c.length := by have := hc.c1; omega
 simp only [F21, run_bd, run_br, run_it, run_ret, br_not, br_eq]
 rw [bind_of (k50 c), if_pos h]
 refine bind_eq (each_ok (n := n) (fun k st => (st.length, (k : Int), c, st, ())) (fun st => (st.length, st, ())) (pw c n (ords n)) (fun k st hk hi => ?_) (fun st hi => ?_)) ?_
 ·have hni : rng .i64 ((k : Int) + 1) = true := rng_i64 (by omega) (by omega)
  simp only [g21_0, run_br, run_bd, run_it, run_nd, run_ni, run_ret, k60 h0, hc.gro, bindO_s, br_d]
  rw [if_pos (by omega), bind_of (k21_1 hc hk _ _)]
  simp only [dt1, tk1, List.length_cons, List.length_nil, List.drop_zero, List.take_length, hni, need_true]
  rw [need_lenbig (by omega)]
  simp
 ·simp only [g21_0, run_br, run_bd, run_ret, k60 h0, hc.gro, bindO_s, br_d]
  rw [if_neg (by omega)]
 ·simp only [List.drop_zero, List.take_length, pws]
theorem k21_no {c : List Ch} (h : chk c ≠ 0) : run0 (F21 c) = some ([], chk c, ()) := by
 simp only [F21, run_bd, run_br, run_ret, br_not, br_eq]
 rw [bind_of (k50 c), if_neg h]
theorem works_ok : run0 F16 = some (true, ()) := cmp_done 200 (by kernel_rfl)
end Go.Proofs.Tryd
end
section
namespace Go.Proofs.Tryd
open Go.AM Go.Cn
set_option maxRecDepth 100000
theorem pw_len (c : List Ch) (n : Nat) (f : Nat → Int) : (pws c n f).length = n := by simp [pws]
theorem len_ok {c : List Ch} (h : Wf (.prod (.list (.prod (.int .i64) (.list (.int .i64)))) .unit) (c, ())) : c.length < 9223372036854775808 := by
 have := h.1.1
 have e : maxLen < 9223372036854775808 := by decide
 exact Nat.lt_of_le_of_lt this e
theorem large_len {c : List Ch} (h : largeC c = false) : c.length ≤ 20 := by
 unfold largeC at h
 rw [Bool.or_eq_false_iff] at h
 have := of_decide_eq_false h.1
 omega
theorem law3 (a0 : List Ch × Unit) (hW : WfAll [.prod (.list (.prod (.int .i64) (.list (.int .i64)))) .unit] (a0, ())) : run0 (F3 a0) = some (true, ()) := by
 obtain ⟨c, u⟩ := a0
 have hl := len_ok hW.1
 simp only [F3, run_bd, run_br, run_ret]
 rw [bind_of (k15 hl)]
 cases hL : largeC c
 case true => rw [br_true, bind_of works_ok]
 have h20 := large_len hL
 rw [br_false, bind_of (k17 (by omega))]
 by_cases h : chk c = 0
 ·have hc := ok_of hL h
  have h6 := hc.n6
  rw [bind_of (k18 hc h), bind_of (k19 hc h), bind_of (k20 hc h), bind_of (k21 hc h), bind_of (k22 (by rw [pw_len]; omega)), decide_eq_true rfl, br_true, beq_self_eq_true, br_true,
   bind_of (k22 (by rw [pw_len]; omega)), decide_eq_true rfl, br_true, br_true, bind_of works_ok]
 ·rw [bind_of (k18_no h), bind_of (k19_no h), bind_of (k20_no h), bind_of (k21_no h), bind_of (k22 (by simp)), decide_eq_true rfl, br_true, beq_self_eq_true, br_true,
   bind_of (k22 (by simp)), decide_eq_true rfl, br_true, br_true, bind_of works_ok]
end Go.Proofs.Tryd
end
