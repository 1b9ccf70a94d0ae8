/- Tools for laws: rounds that count, find or keep something; needs. Rounds over a list, with a function that says what comes out. Plain Lean. Sets as numbers below 64: their growers, one after the other. Plain Lean. A council is valid: program and reference say the same. A set's weight, and whether it wins: the program's. The reference's sums and wins; councils out of parts; what is known of a council. Sets without some; swings and turns of the program. Swings and turns: the program's and the reference's. Swings and turns of the reference; the law of powers. Swings and turns are as stated. Which of two growers is stronger: the program and the reference. Lists of growers as sets; wins; exchanges: the program and the reference. Exchanges: what is accepted; where there is one. Growers are compared, and exchanges found and accepted, as stated. Councils by numbers; sets that win, without the reference. Sums over sets; sets that win, and lists of sets, without the reference. What is accepted as an exchange shows that no single chamber decides alike: CouncilExchange, as a plain law. -/
import Derived.Test.YtdbjdjjcijgdfaaDoorG9
set_option linter.unusedSectionVars false
set_option linter.unusedVariables false
set_option linter.unusedSimpArgs false
section
namespace Go.AM
theorem need_u64 {X : Type} {z : Int} {x : Option X} (h1 : 0 ≤ z) (h2 : z ≤ 18446744073709551615) : need (rng .u64 z) x = x := need_t (rng_u64 h1 h2)
theorem bigL_eq : bigL = 1073741824 := by decide
theorem need_big {X : Type} {n : Nat} {x : Option X} (h : n < 1000000000) : need (decide (n < bigL)) x = x := need_d (by rw [bigL_eq]; omega)
theorem need_inbL {X : Type} {i : Int} {x : Option X} (h : 0 ≤ i) (h2 : i < 1000000000) : need (inb i ((bigL : Nat) : Int)) x = x := need_inb h (by rw [bigL_eq]; omega)
/-- Rounds that count, or end early with what was found. -/
theorem iter_find {α β γ : Type} {step : α → Option (α ⊕ β)} (n : Nat) (g : Nat → α) (stop : Nat → Option γ) (inj : γ → β) {b : β}
  (hr : ∀ k, k < n → (∀ j, j < k → stop j = none) → step (g k) = match stop k with | none => some (.inl (g (k + 1))) | some c => some (.inr (inj c))) (he : (∀ j, j < n → stop j = none) → step (g n) = some (.inr b)) :
  iter step (g 0) = some (((List.range n).findSome? stop).elim b inj) := by
 have key : ∀ m k, k + m = n → (∀ j, j < k → stop j = none) → iter step (g k) = some (((List.range' k m).findSome? stop).elim b inj) := by
  intro m
  induction m with
  | zero =>
   intro k hk hs
   have : k = n := by omega
   subst this
   simpa using iter_inr (he hs)
  | succ m ih =>
   intro k hk hs0
   have h := hr k (by omega) hs0
   rw [List.range'_succ, List.findSome?_cons]
   cases hs : stop k with
   | none =>
    rw [hs] at h
    refine iter_inl h (ih (k + 1) (by omega) fun j hj => ?_)
    by_cases e : j = k
    ·rw [e, hs]
    ·exact hs0 j (by omega)
   | some c => rw [hs] at h; exact iter_inr h
 rw [List.range_eq_range']
 exact key n 0 (by omega) (fun j hj => by omega)
/-- Rounds that count and keep something. -/
theorem iter_ex {α β : Type} {step : α → Option (α ⊕ β)} (n : Nat) (I : Nat → α → Prop) (Q : β → Prop) (hr : ∀ k x, k < n → I k x → ∃ y, step x = some (.inl y) ∧ I (k + 1) y) (he : ∀ x, I n x → ∃ b, step x = some (.inr b) ∧ Q b)
  {x : α} (h0 : I 0 x) : ∃ b, iter step x = some b ∧ Q b := by
 have key : ∀ m k x, k + m = n → I k x → ∃ b, iter step x = some b ∧ Q b := by
  intro m
  induction m with
  | zero =>
   intro k x hk hx
   have : k = n := by omega
   subst this
   obtain ⟨b, h1, h2⟩ := he x hx
   exact ⟨b, iter_inr h1, h2⟩
  | succ m ih =>
   intro k x hk hx
   obtain ⟨y, h1, h2⟩ := hr k x (by omega) hx
   obtain ⟨b, h3, h4⟩ := ih (k + 1) y (by omega) h2
   exact ⟨b, iter_inl h1 h3, h4⟩
 exact key n 0 x (by omega) h0
/-- Rounds over the items of a list: the state is what the items so far came to. -/
theorem iter_fold {α β γ σ : Type} {step : α → Option (α ⊕ β)} (l : List γ) (d : γ) (f : σ → γ → σ) (g : Nat → σ → α) (s0 : σ) (I : σ → Prop) {out : σ → β} (h0 : I s0)
  (hr : ∀ k s, k < l.length → I s → I (f s (l.getD k d)) ∧ step (g k s) = some (.inl (g (k + 1) (f s (l.getD k d))))) (he : ∀ s, I s → step (g l.length s) = some (.inr (out s))) :
  iter step (g 0 s0) = some (out (l.foldl f s0)) ∧ I (l.foldl f s0) := by
 have key : ∀ m k s, k + m = l.length → I s → iter step (g k s) = some (out ((l.drop k).foldl f s)) ∧ I ((l.drop k).foldl f s) := by
  intro m
  induction m with
  | zero =>
   intro k s hk hs
   rw [show k = l.length by omega, List.drop_length]
   exact ⟨iter_inr (he s hs), hs⟩
  | succ m ih =>
   intro k s hk hs
   obtain ⟨h1, h2⟩ := hr k s (by omega) hs
   obtain ⟨h3, h4⟩ := ih (k + 1) _ (by omega) h1
   have e : l.drop k = l.getD k d :: l.drop (k + 1) := by
    rw [List.drop_eq_getElem_cons (by omega)]; simp [List.getD_eq_getElem?_getD, List.getElem?_eq_getElem (show k < l.length by omega)]
   rw [e, List.foldl_cons]
   exact ⟨iter_inl h2 h3, h4⟩
 have := key l.length 0 s0 (by omega) h0
 simpa using this
theorem getD_take {α : Type} {l : List α} {k n : Nat} {d : α} (h : k < n) : (l.take n).getD k d = l.getD k d := by
 simp [List.getD_eq_getElem?_getD, List.getElem?_take, h]
theorem getD_mem {α : Type} {l : List α} {k : Nat} {d : α} (h : k < l.length) : l.getD k d ∈ l := by
 simp [List.getD_eq_getElem?_getD, List.getElem?_eq_getElem h]
theorem take_succ_getD {α : Type} {l : List α} {k : Nat} (d : α) (h : k < l.length) : l.take (k + 1) = l.take k ++ [l.getD k d] := by
 rw [List.take_succ_eq_append_getElem h]; simp [List.getD_eq_getElem?_getD, List.getElem?_eq_getElem h]
theorem getD_el {α : Type} {l : List α} {k : Nat} (d : α) (h : k < l.length) : l.getD k d = l[k] := by
 simp [List.getD_eq_getElem?_getD, List.getElem?_eq_getElem h]
theorem getD_out {α : Type} {l : List α} {k : Nat} (d : α) (h : l.length ≤ k) : l.getD k d = d := by
 simp [List.getD_eq_getElem?_getD, List.getElem?_eq_none h]
end Go.AM
end
section
namespace Go.AM
theorem getD_mid {α : Type} {A B : List α} {x d : α} {n : Nat} (h : n = A.length) : (A ++ x :: B).getD n d = x := by
 subst h; simp [List.getD_eq_getElem?_getD]
/-- Rounds over the items of a list: 'G' says what comes out of a state and the items that are left. -/
theorem iter_list {A B S X : Type} {f : A → Option (A ⊕ B)} (xs : List X) (mk : Nat → S → A) (G : S → List X → B) (Inv : List X → S → Prop)
  (hs : ∀ pre x post s, xs = pre ++ x :: post → Inv pre s →
   (∃ s', f (mk pre.length s) = some (.inl (mk (pre.length + 1) s')) ∧ Inv (pre ++ [x]) s' ∧ G s (x :: post) = G s' post) ∨ f (mk pre.length s) = some (.inr (G s (x :: post))))
  (he : ∀ s, Inv xs s → f (mk xs.length s) = some (.inr (G s []))) {s : S} (h0 : Inv [] s) : iter f (mk 0 s) = some (G s xs) := by
 have key : ∀ (post pre : List X) (s : S), xs = pre ++ post → Inv pre s → iter f (mk pre.length s) = some (G s post) := by
  intro post
  induction post with
  | nil =>
   intro pre s hx hi
   have : pre = xs := by rw [hx]; simp
   subst this
   exact iter_inr (he s hi)
  | cons x post ih =>
   intro pre s hx hi
   rcases hs pre x post s hx hi with ⟨s', h1, h2, h3⟩ | h1
   ·refine iter_inl h1 ?_
    rw [h3]
    have := ih (pre ++ [x]) s' (by rw [hx]; simp) h2
    simpa using this
   ·exact iter_inr h1
 exact key xs [] s (by simp) h0
theorem bind_eq {A X : Type} {o : Option A} {a : A} {f : A → Option X} {y : Option X} (h : o = some a) (e : f a = y) : bindO o f = y := by rw [h, bindO_s, e]
theorem bigL_val : ((bigL : Nat) : Int) = 1073741824 := by decide
theorem need_lenbig {X : Type} {n : Nat} {x : Option X} (h : n < 1000000000) : need (decide (n < bigL)) x = x := need_d (by have := bigL_val; omega)
end Go.AM
end
section
namespace Go.Cn
open Go.AM
/-- The growers of a set. -/
def els (s : Nat) : List Nat := (List.range 6).filter s.testBit
/-- The first of them. -/
def tzN (s : Nat) : Nat := ((List.range 6).find? s.testBit).getD 64
def low (s : Nat) : Nat := s &&& (s - 1)
/-- What is so of all small numbers is seen by trying them. -/
theorem all_lt {n : Nat} {p : Nat → Bool} (h : (List.range n).all p = true) {s : Nat} (hs : s < n) : p s = true := List.all_eq_true.1 h s (List.mem_range.2 hs)
theorem all_lt2 {n m : Nat} {p : Nat → Nat → Bool} (h : (List.range n).all (fun s => (List.range m).all (p s)) = true) {s i : Nat} (hs : s < n) (hi : i < m) : p s i = true := all_lt (all_lt h hs) hi
theorem els_zero : els 0 = [] := by decide
theorem els_cons {s : Nat} (hs : s < 64) (h : s ≠ 0) : els s = tzN s :: els (low s) := by
  have := all_lt (n := 64) (p := fun s => s == 0 || decide (els s = tzN s :: els (low s))) (by decide +kernel) hs
  simpa [h] using this
theorem low_lt {s : Nat} (hs : s < 64) (h : s ≠ 0) : low s < s := by
  have := all_lt (n := 64) (p := fun s => s == 0 || decide (low s < s)) (by decide +kernel) hs
  simpa [h] using this
/-- Below 2^n there are only the first n. -/
theorem els_upto {s n : Nat} (hn : n ≤ 6) (hs : s < 2 ^ n) : els s = (List.range n).filter s.testBit := by
  have := all_lt2 (n := 7) (m := 64) (p := fun n s => !(decide (s < 2 ^ n)) || decide (els s = (List.range n).filter s.testBit)) (by decide +kernel) (s := n) (i := s) (by omega) (by
    have : 2 ^ n ≤ 2 ^ 6 := Nat.pow_le_pow_right (by omega) hn
    omega)
  simpa [hs] using this
theorem tz_lt {s n : Nat} (hn : n ≤ 6) (hs : s < 2 ^ n) (h : s ≠ 0) : tzN s < n := by
  have h64 : s < 64 := by
    have : 2 ^ n ≤ 2 ^ 6 := Nat.pow_le_pow_right (by omega) hn
    omega
  have e := els_upto hn hs
  rw [els_cons h64 h] at e
  have : tzN s ∈ (List.range n).filter s.testBit := by rw [← e]; exact List.mem_cons_self ..
  exact List.mem_range.1 (List.mem_filter.1 this).1
theorem pow6 {n : Nat} (hn : n ≤ 6) : 2 ^ n ≤ 64 := Nat.pow_le_pow_right (by omega) hn
/-- Rounds over the growers of a set. -/
theorem iter_els {A B S : Type} {f : A → Option (A ⊕ B)} (mk : Nat → S → A) (G : S → List Nat → B) (Inv : Nat → S → Prop)
    (hs : ∀ s st, s < 64 → s ≠ 0 → Inv s st → (∃ st', f (mk s st) = some (.inl (mk (low s) st')) ∧ Inv (low s) st' ∧ G st (tzN s :: els (low s)) = G st' (els (low s))) ∨ f (mk s st) = some (.inr (G st (tzN s :: els (low s)))))
    (he : ∀ st, Inv 0 st → f (mk 0 st) = some (.inr (G st []))) : ∀ {s : Nat} {st : S}, s < 64 → Inv s st → iter f (mk s st) = some (G st (els s)) := by
  intro s
  induction s using Nat.strongRecOn with
  | ind s ih =>
    intro st h64 hi
    by_cases h0 : s = 0
    · subst h0; rw [els_zero]; exact iter_inr (he st hi)
    · rw [els_cons h64 h0]
      rcases hs s st h64 h0 hi with ⟨st', h1, h2, h3⟩ | h1
      · rw [h3]
        exact iter_inl h1 (ih _ (low_lt h64 h0) (by have := low_lt h64 h0; omega) h2)
      · exact iter_inr h1
/-- Rounds that count up, and carry something. -/
theorem iter_upto {A B S : Type} {f : A → Option (A ⊕ B)} (N : Nat) (mk : Nat → S → A) (G : S → Nat → B) (Inv : Nat → S → Prop)
    (hs : ∀ k st, k < N → Inv k st → (∃ st', f (mk k st) = some (.inl (mk (k + 1) st')) ∧ Inv (k + 1) st' ∧ G st k = G st' (k + 1)) ∨ f (mk k st) = some (.inr (G st k)))
    (he : ∀ st, Inv N st → f (mk N st) = some (.inr (G st N))) {s : S} (h0 : Inv 0 s) : iter f (mk 0 s) = some (G s 0) := by
  have key : ∀ m k s, k + m = N → Inv k s → iter f (mk k s) = some (G s k) := by
    intro m
    induction m with
    | zero => intro k s hk hi; have e : k = N := by omega
              subst e; exact iter_inr (he s hi)
    | succ m ih =>
      intro k s hk hi
      rcases hs k s (by omega) hi with ⟨s', h1, h2, h3⟩ | h1
      · rw [h3]; exact iter_inl h1 (ih (k + 1) s' (by omega) h2)
      · exact iter_inr h1
  exact key N 0 s (by omega) h0
/-! Operations on 64 els, on small numbers. -/
theorem u_has {s i : Nat} (hs : s < 64) (hi : i < 6) : (ar0.bits IBin.and .u64 (ar0.shr (s : Int) (i : Int)) (1 : Int) == (1 : Int)) = s.testBit i := by
  have := all_lt2 (n := 64) (m := 6) (p := fun s i => (ar0.bits IBin.and .u64 (ar0.shr (s : Int) (i : Int)) (1 : Int) == (1 : Int)) == s.testBit i) (by kernel_rfl) hs hi
  simpa using this
theorem u_with {s i : Nat} (hs : s < 64) (hi : i < 6) : ar0.bits IBin.or .u64 (s : Int) (ar0.shl (1 : Int) (i : Int)) = ((s ||| 2 ^ i : Nat) : Int) := by
  have := all_lt2 (n := 64) (m := 6) (p := fun s i => ar0.bits IBin.or .u64 (s : Int) (ar0.shl (1 : Int) (i : Int)) == ((s ||| 2 ^ i : Nat) : Int)) (by kernel_rfl) hs hi
  simpa using this
/-- A set without one. -/
def wo (s i : Nat) : Nat := if s.testBit i then s - 2 ^ i else s
theorem u_wo {s i : Nat} (hs : s < 64) (hi : i < 6) : ar0.bits IBin.andNot .u64 (s : Int) (ar0.shl (1 : Int) (i : Int)) = ((wo s i : Nat) : Int) := by
  have := all_lt2 (n := 64) (m := 6) (p := fun s i => ar0.bits IBin.andNot .u64 (s : Int) (ar0.shl (1 : Int) (i : Int)) == ((wo s i : Nat) : Int)) (by kernel_rfl) hs hi
  simpa using this
theorem u_low {s : Nat} (hs : s < 64) (h : s ≠ 0) : ar0.bits IBin.and .u64 (s : Int) ((s : Int) - 1) = ((low s : Nat) : Int) := by
  have := all_lt (n := 64) (p := fun s => s == 0 || ar0.bits IBin.and .u64 (s : Int) ((s : Int) - 1) == ((low s : Nat) : Int)) (by kernel_rfl) hs
  simpa [h] using this
theorem shl_one {i : Nat} (hi : i < 12) : ar0.shl (1 : Int) (i : Int) = ((2 ^ i : Nat) : Int) := by
  have := all_lt (n := 12) (p := fun i => ar0.shl (1 : Int) (i : Int) == ((2 ^ i : Nat) : Int)) (by kernel_rfl) hi
  simpa using this
theorem wo_lt {s i n : Nat} (hs : s < n) : wo s i < n := by
  have := Nat.sub_le s (2 ^ i)
  unfold wo; split <;> omega
theorem or_lt {s i n : Nat} (hn : n ≤ 6) (hs : s < 2 ^ n) (hi : i < n) : s ||| 2 ^ i < 2 ^ n := Nat.or_lt_two_pow hs (Nat.pow_lt_pow_right (by omega) hi)
end Go.Cn
end
section
namespace Go.Proofs.Tryd
open Go.AM Go.Cn
set_option maxRecDepth 100000
abbrev Ch := Int × List Int
def gro (c : List Ch) : Nat := (c.getD 0 ((0 : Int), [])).2.length
def badW (z : Int) : Bool := !decide (0 ≤ z ∧ z ≤ 1000000)
def okCh (n : Nat) (x : Ch) : Int := if x.2.length ≠ n then 3 else if ¬ (1 ≤ x.1 ∧ x.1 ≤ 10000000) then 2 else if x.2.any badW = true then 2 else 0
def chkL (n : Nat) : List Ch → Int
 | [] => 0
 | x :: r => if okCh n x ≠ 0 then okCh n x else chkL n r
def chk (c : List Ch) : Int := if c.length = 0 then 4 else if 3 < c.length then 1 else if gro c = 0 then 4 else if 9 < gro c then 1 else chkL (gro c) c
def largeOne (x : Ch) : Bool := (decide (6 < x.2.length) && decide (x.2.length ≤ 9)) || decide (40 < x.2.length)
def largeC (c : List Ch) : Bool := decide (20 < c.length) || c.any largeOne
theorem k67 (a b c : Int) : run0 (F67 a b c) = some (decide (a ≤ b ∧ b ≤ c), ()) := by
 simp only [F67, run_br, run_ret, br_d]
 by_cases h : a ≤ b
 ·rw [if_pos h]; simp [h]
 ·rw [if_neg h]; simp [h]
theorem k91 {c : List Ch} (h : 0 < c.length) : run0 (F91 c) = some (((gro c : Nat) : Int), ()) := by
 simp only [F91, run_nb, run_ret]
 rw [need_inb (by omega) (by omega)]; rfl
theorem k92 (z : Int) : run0 (F92 z) = some (badW z, ()) := by
 simp only [F92, run_bd, k67, bindO_s, run_ret, badW]
theorem k15 {c : List Ch} (hc : c.length < 9223372036854775808) : run0 (F15 c) = some (largeC c, ()) := by
 simp only [F15, run_bd, run_it]
 refine bind_eq (iter_list c (fun k (s : Bool) => (s, (k : Int), c, ())) (fun s r => (s || r.any largeOne, ())) (fun _ _ => True) ?_ ?_ (s := decide ((20 : Int) < ((c.length : Nat) : Int))) trivial) ?_
 ·rintro pre x post s hx -
  left
  have hlen : c.length = pre.length + (post.length + 1) := by rw [hx]; simp
  have hd : c.getD pre.length ((0 : Int), []) = x := by rw [hx]; exact getD_mid rfl
  refine ⟨s || largeOne x, ?_, trivial, by simp [Bool.or_assoc]⟩
  have hin : inb (pre.length : Int) ((c.length : Nat) : Int) = true := inb_t (by omega) (by omega)
  have hni : rng .i64 ((pre.length : Int) + 1) = true := rng_i64 (by omega) (by omega)
  simp only [g15_0, run_br, run_nb, run_ni, run_ret, Int.toNat_natCast, hd, br_d, hin, hni, need_true]
  rw [if_pos (by omega)]
  cases s
  ·simp only [brO_false, largeOne, Bool.false_or]
   by_cases h1 : 6 < x.2.length
   ·rw [if_pos (by omega)]
    by_cases h2 : x.2.length ≤ 9
    ·rw [if_pos (by omega)]; simp [h1, h2]
    ·rw [if_neg (by omega)]; simp [h1, h2]
     omega
   ·rw [if_neg (by omega)]; simp [h1]
    omega
  ·simp
 ·intro s _
  simp only [g15_0, run_br, run_ret, br_d]
  rw [if_neg (by omega)]; simp
 ·simp only [run_ret, largeC]
  congr 3
  have e : decide ((20 : Int) < ((c.length : Nat) : Int)) = decide (20 < c.length) := by
   apply decide_eq_decide.2; omega
  rw [e]
theorem k105 {l : List Int} (hl : l.length < 1000) : ∃ k : Int, run0 (F105 l) = some (k, ()) ∧ (0 ≤ k ↔ l.any badW = true) := by
 simp only [F105, run_bd, run_it]
 have := iter_list l (f := fun a => run (fun _ => none) (g105_0 a)) (fun k (s : Nat) => (l, ((l.length : Nat) : Int), (k : Int), ())) (fun s r => match r.findIdx? badW with | some k => .inl (((s + k : Nat) : Int), ()) | none => .inr ()) (fun pre s => s = pre.length) ?_ ?_ (s := 0) rfl
 ·replace this : iter (fun a => run (fun _ => none) (g105_0 a)) (l, ((l.length : Nat) : Int), (0 : Int), ()) = _ := this
  rw [bind_of this]
  cases hf : l.findIdx? badW with
  | none =>
   simp only [run_sr, run_ret]
   exact ⟨-1, rfl, by simp only [show ¬ ((0 : Int) ≤ -1) by omega, false_iff]; simpa using List.findIdx?_eq_none_iff.1 hf⟩
  | some k =>
   simp only [run_sl, run_ret]
   refine ⟨_, rfl, by
    simp only [show (0 : Int) ≤ ((0 + k : Nat) : Int) by omega, true_iff]
    obtain ⟨hk, h1, _⟩ := List.findIdx?_eq_some_iff_getElem.1 hf
    exact List.any_eq_true.2 ⟨_, List.getElem_mem hk, h1⟩⟩
 ·rintro pre x post s hx rfl
  have hlen : l.length = pre.length + (post.length + 1) := by rw [hx]; simp
  have hd : l.getD pre.length (0 : Int) = x := by rw [hx]; exact getD_mid rfl
  have hin : inb (pre.length : Int) ((l.length : Nat) : Int) = true := inb_t (by omega) (by omega)
  have hni : rng .i64 ((pre.length : Int) + 1) = true := rng_i64 (by omega) (by omega)
  simp only [g105_0, run_br, run_bd, run_nb, run_ni, run_ret, Int.toNat_natCast, hd, br_d, hin, hni, need_true, k92, bindO_s]
  rw [if_pos (by omega)]
  cases hb : badW x
  ·left
   refine ⟨pre.length + 1, by simp, by simp, ?_⟩
   rw [List.findIdx?_cons, hb]
   cases post.findIdx? badW with
   | none => rfl
   | some k => simp; omega
  ·right
   rw [List.findIdx?_cons, hb]; simp
 ·rintro s rfl
  simp only [g105_0, run_br, run_ret, br_d]
  rw [if_neg (by omega)]; rfl
theorem k93 {l : List Int} (hl : l.length < 1000) : run0 (F93 l) = some (l.any badW, ()) := by
 obtain ⟨k, h1, h2⟩ := k105 hl
 simp only [F93, run_bd, run_ret]
 rw [bind_of h1]
 congr 2
 cases h : l.any badW
 ·rw [h] at h2; simp only [decide_eq_false_iff_not]; intro e; exact absurd (h2.1 e) (by simp)
 ·rw [h] at h2; simp only [decide_eq_true_eq]; exact h2.2 rfl
theorem k41 (c : List Ch) : run0 (F41 c) = some (chk c, ()) := by
 simp only [F41, run_br, run_ret, br_eq, br_d, chk]
 by_cases h0 : c.length = 0
 ·rw [if_pos (by omega), if_pos h0]
 rw [if_neg (by omega), if_neg h0]
 by_cases h1 : 3 < c.length
 ·rw [if_pos (by omega), if_pos h1]
 rw [if_neg (by omega), if_neg h1]
 simp only [run_bd, k91 (show 0 < c.length by omega), bindO_s, run_br, br_eq, br_d, run_ret]
 by_cases h2 : gro c = 0
 ·rw [if_pos (by omega), if_pos h2]
 rw [if_neg (by omega), if_neg h2]
 by_cases h3 : 9 < gro c
 ·rw [if_pos (by omega), if_pos h3]
 rw [if_neg (by omega), if_neg h3]
 simp only [run_it]
 refine bind_eq (iter_list c (fun k (s : Unit) => (c, ((c.length : Nat) : Int), (k : Int), c, ())) (fun _ r => if chkL (gro c) r = 0 then Sum.inr () else Sum.inl (chkL (gro c) r, ())) (fun _ _ => True) ?_ ?_ (s := ()) trivial) ?_
 ·rintro pre x post s hx -
  have hlen : c.length = pre.length + (post.length + 1) := by rw [hx]; simp
  have hd : c.getD pre.length ((0 : Int), []) = x := by rw [hx]; exact getD_mid rfl
  have hin : inb (pre.length : Int) ((c.length : Nat) : Int) = true := inb_t (by omega) (by omega)
  have hni : rng .i64 ((pre.length : Int) + 1) = true := rng_i64 (by omega) (by omega)
  simp only [g41_0, run_br, run_bd, run_nb, run_ni, run_ret, Int.toNat_natCast, hd, br_d, br_eq, br_not, hin, hni, need_true, k91 (show 0 < c.length by omega), k67, bindO_s]
  rw [if_pos (by omega)]
  by_cases h4 : x.2.length = gro c
  case neg =>
   right
   rw [if_neg (by omega)]
   simp [chkL, okCh, h4]
  rw [if_pos (by omega)]
  by_cases h5 : 1 ≤ x.1 ∧ x.1 ≤ 10000000
  case neg =>
   right
   rw [if_neg h5]
   simp only [chkL, okCh, if_neg (not_not_intro h4), if_pos h5]; simp
  rw [if_pos h5, bind_of (k93 (show x.2.length < 1000 by omega))]
  cases h6 : x.2.any badW
  ·left
   refine ⟨(), by simp, trivial, ?_⟩
   simp [chkL, okCh, h4, h5, h6]
  ·right
   simp [chkL, okCh, h4, h5, h6]
 ·intro s _
  simp only [g41_0, run_br, run_ret, br_d]
  rw [if_neg (by omega)]; simp [chkL]
 ·cases h : decide (chkL (gro c) c = 0)
  ·have h' := of_decide_eq_false h
   simp only [if_neg h', run_sl, run_ret]
  ·have h' := of_decide_eq_true h
   simp only [if_pos h', run_sr, run_ret]; rw [h']
end Go.Proofs.Tryd
end
section
namespace Go.Proofs.Tryd
open Go.AM Go.Cn
set_option maxRecDepth 100000
/-- The weight of a set. -/
def wt (ws : List Int) (s : Nat) : Int := ((els s).map fun i => ws.getD i 0).sum
/-- A set wins in a chamber; in all. -/
def win1 (s : Nat) (x : Ch) : Bool := decide (x.1 ≤ wt x.2 s)
def winB (c : List Ch) (s : Nat) : Bool := c.all (win1 s)
/-- A chamber of n growers. -/
structure OkX (n : Nat) (x : Ch) : Prop where
 len : x.2.length = n
 q1 : 1 ≤ x.1
 q2 : x.1 ≤ 10000000
 w : ∀ z ∈ x.2, 0 ≤ z ∧ z ≤ 1000000
/-- A council of n growers, not too large. -/
structure OkC (n : Nat) (c : List Ch) : Prop where
 c1 : 1 ≤ c.length
 c3 : c.length ≤ 3
 n1 : 1 ≤ n
 n6 : n ≤ 6
 gro : gro c = n
 ch : ∀ x ∈ c, OkX n x
theorem OkX.get {n : Nat} {x : Ch} (h : OkX n x) (i : Nat) : 0 ≤ x.2.getD i 0 ∧ x.2.getD i 0 ≤ 1000000 := by
 by_cases hi : i < x.2.length
 ·rw [show x.2.getD i 0 = x.2[i] by simp [List.getD, hi]]; exact h.w _ (List.getElem_mem hi)
 ·rw [show x.2.getD i 0 = 0 by simp [List.getD, hi]]; omega
theorem k101 {s : Nat} (hs : s < 64) (h : s ≠ 0) : run0 (F101 (s : Int)) = some (((tzN s : Nat) : Int), ()) := by
 have := all_lt (n := 64) (p := fun s => s == 0 || decide (cmp 40 (fun _ => none) (F101 ((s : Nat) : Int)) = some (((tzN s : Nat) : Int), ()))) (by kernel_rfl) hs
 simp only [Bool.or_eq_true, beq_iff_eq, h, false_or, decide_eq_true_eq] at this
 exact cmp_done 40 this
theorem els_len {s : Nat} : (els s).length ≤ 6 := by
 have := List.length_filter_le s.testBit (List.range 6)
 simpa [els] using this
theorem k78 {n s : Nat} {x : Ch} (hx : OkX n x) (hn : n ≤ 6) (hs : s < 2 ^ n) : run0 (F78 x (s : Int)) = some (wt x.2 s, ()) := by
 have h64 : s < 64 := Nat.lt_of_lt_of_le hs (pow6 hn)
 simp only [F78, FH77, g78_0, run_bd, run_it, run_ret, bindO_s]
 refine bind_eq (a := (wt x.2 s, ())) (bind_eq (iter_els (fun s' (st : Int) => ((0 : Int), (s' : Int), x.1, x.2, st, ())) (fun st r => (x.1, x.2, st + (r.map fun i => x.2.getD i 0).sum, (0 : Int), (0 : Int), ()))
  (fun s' st => s' < 2 ^ n ∧ 0 ≤ st ∧ st + 1000000 * ((els s').length : Int) ≤ 6000000) ?_ ?_ (s := s) (st := 0) h64 ⟨hs, by omega, by have := els_len (s := s); omega⟩) ?_) rfl
 ·rintro s' st h64 h0 ⟨hs', b1, b2⟩
  left
  have ht := tz_lt hn hs' h0
  have hl := low_lt h64 h0
  have hw := hx.get (tzN s')
  have e := congrArg List.length (els_cons h64 h0)
  rw [List.length_cons] at e
  refine ⟨st + x.2.getD (tzN s') 0, ?_, ⟨by omega, by omega, by omega⟩, ?_⟩
  ·have hin : inb ((tzN s' : Nat) : Int) ((x.2.length : Nat) : Int) = true := inb_t (by omega) (by have := hx.len; omega)
   have hni : rng .i64 (st + x.2.getD (tzN s') 0) = true := rng_i64 (by omega) (by omega)
   have hnu : rng .u64 ((s' : Int) - 1) = true := rng_u64 (by omega) (by omega)
   simp only [g78_0i_0, run_br, run_bd, run_nb, run_ni, run_nd, run_ret, br_not, br_eq, k101 h64 h0, bindO_s, Int.toNat_natCast, hin, hni, hnu, need_true, u_low h64 h0]
   rw [if_neg (by omega)]
  ·simp only [List.map_cons, List.sum_cons, Int.add_assoc]
 ·rintro st -
  simp only [g78_0i_0, run_br, run_ret, br_not, br_eq]
  simp
 ·simp only [wt, Int.zero_add]
theorem k84 {n s : Nat} {x : Ch} (hx : OkX n x) (hn : n ≤ 6) (hs : s < 2 ^ n) : run0 (F84 x (s : Int)) = some (win1 s x, ()) := by
 simp only [F84, run_bd, run_ret]
 rw [bind_of (k78 hx hn hs)]; rfl
theorem k104 {n s : Nat} {x : Ch} (hx : OkX n x) (hn : n ≤ 6) (hs : s < 2 ^ n) : run0 (F104 x.1 x.2 (s : Int)) = some (!win1 s x, ()) := by
 simp only [F104, run_bd, run_ret]
 rw [bind_of (k84 (x := x) hx hn hs)]
theorem k113 {n s : Nat} {c : List Ch} (hc : ∀ x ∈ c, OkX n x) (hl : c.length < 1000) (hn : n ≤ 6) (hs : s < 2 ^ n) : ∃ k : Int, run0 (F113 c (s : Int)) = some (k, ()) ∧ (0 ≤ k ↔ winB c s = false) := by
 simp only [F113, run_bd, run_it]
 have := iter_list c (f := fun a => run (fun _ => none) (g113_0 a)) (fun k (_ : Unit) => (c, (s : Int), ((c.length : Nat) : Int), (k : Int), ())) (fun _ r => match r.findIdx? (fun x => !win1 s x) with | some k => .inl (((c.length - r.length + k : Nat) : Int), ()) | none => .inr ()) (fun _ _ => True) ?_ ?_ (s := ()) trivial
 ·replace this : iter (fun a => run (fun _ => none) (g113_0 a)) (c, (s : Int), ((c.length : Nat) : Int), (0 : Int), ()) = _ := this
  rw [bind_of this]
  cases hf : c.findIdx? (fun x => !win1 s x) with
  | none =>
   simp only [run_sr, run_ret]
   refine ⟨-1, rfl, ?_⟩
   have h := List.findIdx?_eq_none_iff.1 hf
   have : winB c s = true := List.all_eq_true.2 fun x hx => by simpa using h x hx
   simp [this]
  | some k =>
   simp only [run_sl, run_ret]
   obtain ⟨hk, h1, _⟩ := List.findIdx?_eq_some_iff_getElem.1 hf
   refine ⟨_, rfl, ?_⟩
   have : winB c s = false := by
    rw [Bool.eq_false_iff]
    intro h
    have := List.all_eq_true.1 h _ (List.getElem_mem hk)
    rw [this] at h1; cases h1
   rw [this]
   simp only [iff_true]
   omega
 ·rintro pre x post _ hxx -
  have hlen : c.length = pre.length + (post.length + 1) := by rw [hxx]; simp
  have hd : c.getD pre.length ((0 : Int), []) = x := by rw [hxx]; exact getD_mid rfl
  have hx : OkX n x := hc x (by rw [hxx]; simp)
  have hin : inb (pre.length : Int) ((c.length : Nat) : Int) = true := inb_t (by omega) (by omega)
  have hni : rng .i64 ((pre.length : Int) + 1) = true := rng_i64 (by omega) (by omega)
  simp only [g113_0, run_br, run_bd, run_nb, run_ni, run_ret, Int.toNat_natCast, hd, br_d, hin, hni, need_true, k104 hx hn hs, bindO_s]
  rw [if_pos (by omega)]
  cases hb : win1 s x
  ·right
   rw [List.findIdx?_cons]
   have e : c.length - (x :: post).length = pre.length := by rw [List.length_cons]; omega
   simp only [hb, Bool.not_false, if_true, brO_true, e, Nat.add_zero]
  ·left
   refine ⟨(), by simp, trivial, ?_⟩
   rw [List.findIdx?_cons]
   simp only [hb, Bool.not_true, Bool.false_eq_true, if_false]
   cases post.findIdx? (fun x => !win1 s x) with
   | none => rfl
   | some k => simp; omega
 ·rintro _ -
  simp only [g113_0, run_br, run_ret, br_d]
  rw [if_neg (by omega)]; rfl
theorem k103 {n s : Nat} {c : List Ch} (hc : OkC n c) (hs : s < 2 ^ n) : run0 (F103 c (s : Int)) = some (!winB c s, ()) := by
 obtain ⟨k, h1, h2⟩ := k113 hc.ch (by have := hc.c3; omega) hc.n6 hs
 simp only [F103, run_bd, run_ret]
 rw [bind_of h1]
 congr 2
 cases h : winB c s
 ·rw [h] at h2; simp only [Bool.not_false, decide_eq_true_eq]; exact h2.2 rfl
 ·rw [h] at h2; simp only [Bool.not_true, decide_eq_false_iff_not]; intro e; exact absurd (h2.1 e) (by simp)
theorem k83 {n s : Nat} {c : List Ch} (hc : OkC n c) (hs : s < 2 ^ n) : run0 (F83 c (s : Int)) = some (winB c s, ()) := by
 simp only [F83, run_bd, run_ret]
 rw [bind_of (k103 hc hs), Bool.not_not]
end Go.Proofs.Tryd
end
section
namespace Go.Proofs.Tryd
open Go.AM Go.Cn
set_option maxRecDepth 100000
theorem wt_range {n s : Nat} {ws : List Int} (hn : n ≤ 6) (hs : s < 2 ^ n) : wt ws s = (((List.range n).filter s.testBit).map fun i => ws.getD i 0).sum := by
 rw [wt, els_upto hn hs]
def dropL (but : Int) : Nat → List Ch → List Ch
 | _, [] => []
 | k, x :: r => if (k : Int) = but then dropL but (k + 1) r else x :: dropL but (k + 1) r
theorem drop_none : ∀ (k : Nat) (c : List Ch), dropL (-1) k c = c
 | _, [] => rfl
 | k, x :: r => by
  simp only [dropL, drop_none (k + 1) r]
  rw [if_neg (by omega)]
theorem k81 (c : List Ch) (hl : c.length < 1000) (but : Int) : run0 (F81 c but) = some (dropL but 0 c, ()) := by
 simp only [F81, run_bd, run_it]
 refine bind_eq (iter_list c (fun k (st : List Ch) => (but, st.length, c, ((c.length : Nat) : Int), (k : Int), st, ())) (fun st r => ((st ++ dropL but (c.length - r.length) r).length, st ++ dropL but (c.length - r.length) r, ())) (fun pre st => st.length ≤ pre.length) ?_ ?_ (s := []) (by simp)) ?_
 ·rintro pre x post st hxx hst
  left
  have hlen : c.length = pre.length + (post.length + 1) := by rw [hxx]; simp
  have hd : c.getD pre.length ((0 : Int), []) = x := by rw [hxx]; exact getD_mid rfl
  have hin : inb (pre.length : Int) ((c.length : Nat) : Int) = true := inb_t (by omega) (by omega)
  have hni : rng .i64 ((pre.length : Int) + 1) = true := rng_i64 (by omega) (by omega)
  have e1 : c.length - (x :: post).length = pre.length := by simp; omega
  have e2 : c.length - post.length = pre.length + 1 := by omega
  simp only [g81_0, run_br, run_bd, run_nb, run_nd, run_ni, run_ret, Int.toNat_natCast, hd, br_d, br_eq, br_not, hin, hni, need_true]
  rw [if_pos (by omega)]
  simp only [e1, e2, dropL]
  by_cases hb : (pre.length : Int) = but
  ·rw [if_pos hb]
   exact ⟨st, rfl, by simp; omega, by simp [hb]⟩
  ·rw [if_neg hb]
   refine ⟨st ++ [x], ?_, by simp; omega, by simp [hb]⟩
   rw [need_lenbig (by simp; omega)]
   simp
 ·rintro st -
  simp only [g81_0, run_br, run_ret, br_d]
  rw [if_neg (by omega)]; simp [dropL]
 ·have e : c.length - c.length = 0 := by omega
  simp only [e, run_ret]; simp
theorem k66 {n : Nat} {c : List Ch} (hc : OkC n c) (h : chk c = 0) : run0 (F66 c) = some (.inr (c, c, (n : Int), ((2 ^ n - 1 : Nat) : Int), 0, ())) := by
 have h1 := hc.c1
 have h3 := hc.c3
 have hn := hc.n6
 simp only [F66, run_bd, run_br, run_ret, k41, bindO_s, br_not, br_eq]
 rw [if_pos h, bind_of (k81 c (by omega) _), drop_none]
 have hp : 0 < 2 ^ n := Nat.pow_pos (by omega)
 have hp2 := pow6 hn
 have e : (((2 ^ n : Nat) : Int) - 1) = ((2 ^ n - 1 : Nat) : Int) := by omega
 simp only [k91 (show 0 < c.length by omega), hc.gro, bindO_s, run_nb, run_nd, run_ret, shl_one (show n < 12 by omega)]
 rw [need_inb (by omega) (by omega), need_t (rng_u64 (by omega) (by omega)), need_t (rng_u64 (by omega) (by omega)), e]
end Go.Proofs.Tryd
end
section
namespace Go.Proofs.Tryd
open Go.AM Go.Cn
set_option maxRecDepth 100000
theorem u_rng {i : Nat} (hi : i < 6) : rng .u64 (ar0.shl (1 : Int) (i : Int)) = true := by
 have := all_lt (n := 6) (p := fun i => rng .u64 (ar0.shl (1 : Int) (i : Int))) (by kernel_rfl) hi
 exact this
/-- A set without those of a list. -/
def woL (s : Nat) (l : List Nat) : Nat := l.foldl wo s
abbrev ints (l : List Nat) : List Int := l.map fun i : Nat => (i : Int)
theorem k90 {s : Nat} {l : List Nat} (hs : s < 64) (hl : ∀ i ∈ l, i < 6) (hn : l.length < 1000) : run0 (F90 (s : Int) (ints l)) = some (((woL s l : Nat) : Int), ()) := by
 simp only [F90, run_bd, run_it]
 refine bind_eq (iter_list l (fun k (st : Nat) => ((st : Int), ints l, (((ints l).length : Nat) : Int), (k : Int), ())) (fun st r => (((woL st r : Nat) : Int), ())) (fun _ st => st < 64) ?_ ?_ (s := s) hs) ?_
 ·rintro pre x post st hx hst
  left
  have hlen : l.length = pre.length + (post.length + 1) := by rw [hx]; simp
  have hd : (ints l).getD pre.length (0 : Int) = (x : Int) := by
   rw [hx]; simp only [ints, List.map_append, List.map_cons]
   exact getD_mid (by simp)
  have hx6 : x < 6 := hl x (by rw [hx]; simp)
  have hin : inb (pre.length : Int) (((ints l).length : Nat) : Int) = true := inb_t (by omega) (by simp; omega)
  have hni : rng .i64 ((pre.length : Int) + 1) = true := rng_i64 (by omega) (by omega)
  have hi6 : inb (x : Int) 64 = true := inb_t (by omega) (by omega)
  refine ⟨wo st x, ?_, wo_lt hst, rfl⟩
  simp only [g90_0, run_br, run_nb, run_ni, run_nd, run_ret, Int.toNat_natCast, hd, br_d, hin, hni, hi6, need_true, u_rng hx6, u_wo hst hx6]
  rw [if_pos (by simp; omega)]; rfl
 ·rintro st -
  simp only [g90_0, run_br, run_ret, br_d]
  rw [if_neg (by simp)]; rfl
 ·rfl
theorem k74 {s i n : Nat} (hn : n ≤ 6) (hs : s < 2 ^ n) (hi : i < n) : run0 (F74 (s : Int) (i : Int)) = some (((s ||| 2 ^ i : Nat) : Int), ()) := by
 have h64 : s < 64 := Nat.lt_of_lt_of_le hs (pow6 hn)
 simp only [F74, run_nb, run_nd, run_ret, u_rng (show i < 6 by omega), need_true, u_with h64 (show i < 6 by omega)]
 rw [need_inb (by omega) (by omega)]
theorem inc_u {k n : Nat} (hn : n ≤ 6) (hk : k < 2 ^ n) : rng .u64 ((k : Int) + 1) = true := by
 have := pow6 hn
 exact rng_u64 (by omega) (by omega)
end Go.Proofs.Tryd
end
section
namespace Go.Proofs.Tryd
open Go.AM Go.Cn
set_option maxRecDepth 100000
theorem dt1 {α : Type} (x : α) : List.take 1 (List.drop 0 [x]) = [x] := rfl
theorem tk1 {α : Type} (x : α) : List.take 1 [x] = [x] := rfl
/-! Turns: how many orders. -/
end Go.Proofs.Tryd
end
section
namespace Go.Proofs.Tryd
open Go.AM Go.Cn
set_option maxRecDepth 100000
theorem shl_n {n : Nat} (hn : n ≤ 6) : ar0.shl (1 : Int) (n : Int) = ((2 ^ n : Nat) : Int) := shl_one (by omega)
theorem works_ok : run0 F16 = some (true, ()) := cmp_done 200 (by kernel_rfl)
end Go.Proofs.Tryd
end
section
namespace Go.Proofs.Tryd
open Go.AM Go.Cn
set_option maxRecDepth 100000
end Go.Proofs.Tryd
end
section
namespace Go.Proofs.Tryd
open Go.AM Go.Cn
set_option maxRecDepth 100000
/-- The first number from k on, of m. -/
def findF (p : Nat → Bool) (k m : Nat) : Option Nat := (List.range' k m).find? p
theorem findF_zero {p : Nat → Bool} {k : Nat} : findF p k 0 = none := rfl
theorem findF_yes {p : Nat → Bool} {k m : Nat} (h : p k = true) : findF p k (m + 1) = some k := by simp [findF, List.range'_succ, h]
theorem findF_no {p : Nat → Bool} {k m : Nat} (h : p k = false) : findF p k (m + 1) = findF p (k + 1) m := by simp [findF, List.range'_succ, h]
theorem findF_some {p : Nat → Bool} {k m s : Nat} (h : findF p k m = some s) : k ≤ s ∧ s < k + m ∧ p s = true := by
 have h1 := List.mem_of_find?_eq_some h
 have h2 := List.find?_some h
 rw [List.mem_range'_1] at h1
 exact ⟨h1.1, h1.2, h2⟩
theorem findF_none {p : Nat → Bool} {k m : Nat} : findF p k m = none ↔ ∀ s, k ≤ s → s < k + m → p s = false := by
 unfold findF
 rw [List.find?_eq_none]
 simp only [List.mem_range'_1, Bool.not_eq_true]
 exact ⟨fun h s h1 h2 => h s ⟨h1, h2⟩, fun h s h1 => h s h1.1 h1.2⟩
/-- A set with which one wins, and the other one does not. -/
def strB (c : List Ch) (i j s : Nat) : Bool := !s.testBit i && !s.testBit j && (winB c (s ||| 2 ^ i) && !winB c (s ||| 2 ^ j))
def strF (c : List Ch) (n i j : Nat) : Option Nat := findF (strB c i j) 0 (2 ^ n)
theorem wo2_eq {s i j : Nat} (hs : s < 64) (hi : i < 6) (hj : j < 6) : (((s : Nat) : Int) = ((woL s [i, j] : Nat) : Int)) ↔ (s.testBit i = false ∧ s.testBit j = false) := by
 have := all_lt2 (n := 64) (m := 6) (p := fun s i => (List.range 6).all fun j => decide ((((s : Nat) : Int) = ((woL s [i, j] : Nat) : Int)) ↔ (s.testBit i = false ∧ s.testBit j = false))) (by kernel_rfl) hs hi
 exact of_decide_eq_true (List.all_eq_true.1 this j (List.mem_range.2 hj))
theorem k68 {c : List Ch} {n i j : Nat} (hc : OkC n c) (hi : i < n) (hj : j < n) : run0 (F68_v1 c c (n : Int) ((2 ^ n - 1 : Nat) : Int) (i : Int) (j : Int)) = some (match strF c n i j with | some s => ((s : Int), true, ()) | none => ((0 : Int), false, ())) := by
 have hn := hc.n6
 have hp : 0 < 2 ^ n := Nat.pow_pos (by omega)
 have h64 := pow6 hn
 simp only [F68_v1, F82_v1, g68_v1_0, run_bd, run_it, run_ret, bindO_s, show List.take 2 (List.drop 0 [(i : Int), (j : Int)]) = [(i : Int), (j : Int)] from rfl]
 have key := iter_upto (f := fun a => run (fun _ => none) (g68_v1_0i_0 a)) (2 ^ n) (fun k (_ : Unit) => (c, c, (n : Int), ((2 ^ n - 1 : Nat) : Int), [(i : Int), (j : Int)], (k : Int), c, c, (n : Int), ((2 ^ n - 1 : Nat) : Int), [(i : Int), (j : Int)], c, c, (n : Int), ((2 ^ n - 1 : Nat) : Int), (i : Int), (j : Int), (0 : Int), ()))
  (fun _ k => match findF (strB c i j) k (2 ^ n - k) with
   | some s => Sum.inl (c, c, (n : Int), ((2 ^ n - 1 : Nat) : Int), (i : Int), (j : Int), (s : Int), c, c, (n : Int), ((2 ^ n - 1 : Nat) : Int), [(i : Int), (j : Int)], ())
   | none => Sum.inr (c, c, (n : Int), ((2 ^ n - 1 : Nat) : Int), (i : Int), (j : Int), (0 : Int), c, c, (n : Int), ((2 ^ n - 1 : Nat) : Int), [(i : Int), (j : Int)], ())) (fun _ _ => True) ?_ ?_ (s := ()) trivial
 ·replace key : iter (fun a => run (fun _ => none) (g68_v1_0i_0 a)) (c, c, (n : Int), ((2 ^ n - 1 : Nat) : Int), [(i : Int), (j : Int)], (0 : Int), c, c, (n : Int), ((2 ^ n - 1 : Nat) : Int), [(i : Int), (j : Int)], c, c, (n : Int), ((2 ^ n - 1 : Nat) : Int), (i : Int), (j : Int), (0 : Int), ()) = _ := key
  rw [bind_of key, Nat.sub_zero]
  show _ = some (match findF (strB c i j) 0 (2 ^ n) with | some s => ((s : Int), true, ()) | none => ((0 : Int), false, ()))
  cases findF (strB c i j) 0 (2 ^ n) <;> simp [run_sl, run_sr, run_ret]
 ·rintro k _ hk -
  have hb : run (fun _ => none) (F90 (k : Int) [(i : Int), (j : Int)]) = _ := k90 (s := k) (l := [i, j]) (by omega) (by simp; omega) (by simp)
  have e : 2 ^ n - k = (2 ^ n - (k + 1)) + 1 := by omega
  have hw1 : run (fun _ => none) (F83 c ((k ||| 2 ^ i : Nat) : Int)) = _ := k83 hc (or_lt hn hk hi)
  have hw2 : run (fun _ => none) (F83 c ((k ||| 2 ^ j : Nat) : Int)) = _ := k83 hc (or_lt hn hk hj)
  simp only [g68_v1_0i_0, run_br, run_bd, run_ni, run_nd, run_ret, br_d, br_eq, br_not, inc_u hn hk, need_true]
  rw [if_pos (by omega), bind_of hb]
  simp only [wo2_eq (show k < 64 by omega) (show i < 6 by omega) (show j < 6 by omega), k74 hn hk hi, k74 hn hk hj, hw1, hw2, bindO_s]
  rw [e]
  by_cases h1 : k.testBit i = false ∧ k.testBit j = false
  case neg =>
   left
   rw [if_neg h1, findF_no (by
    unfold strB
    cases ha : k.testBit i
    ·cases hb : k.testBit j
     ·exact absurd ⟨ha, hb⟩ h1
     ·rfl
    ·rfl)]
   exact ⟨(), rfl, trivial, rfl⟩
  rw [if_pos h1]
  cases h2 : winB c (k ||| 2 ^ i)
  case false =>
   left
   rw [findF_no (by simp [strB, h2])]
   exact ⟨(), by simp, trivial, rfl⟩
  cases h3 : winB c (k ||| 2 ^ j)
  case true =>
   left
   rw [findF_no (by simp [strB, h3])]
   exact ⟨(), by simp, trivial, rfl⟩
  ·right
   rw [findF_yes (by simp [strB, h1, h2, h3])]
   simp
 ·rintro _ -
  simp only [g68_v1_0i_0, run_br, run_ret, br_d]
  rw [if_neg (by omega)]
  simp [findF_zero]
/-- A number names a grower. -/
def inG (n : Nat) (z : Int) : Bool := decide (0 ≤ z ∧ z ≤ (n : Int) - 1)
theorem inG_nat {n : Nat} {z : Int} (h : inG n z = true) : ∃ i : Nat, i < n ∧ z = (i : Int) := by
 have := of_decide_eq_true h
 exact ⟨z.toNat, by omega, by omega⟩
def cmpV (c : List Ch) (n i j : Nat) : Int := if (strF c n i j).isSome then (if (strF c n j i).isSome then 2 else 1) else if (strF c n j i).isSome then -1 else 0
/-- What Compare answers. -/
def cmpR (c : List Ch) (n : Nat) (a b : Int) : Int × Int × Unit := if inG n a = false ∨ inG n b = false then (0, 5, ()) else (cmpV c n a.toNat b.toNat, 0, ())
theorem n_rng {n : Nat} (h : n ≤ 6) : rng .i64 ((n : Int) - 1) = true := rng_i64 (by omega) (by omega)
theorem k23 {c : List Ch} {n : Nat} (hc : OkC n c) (h : chk c = 0) (a b : Int) : run0 (F23 c a b) = some (cmpR c n a b) := by
 have hn := hc.n6
 simp only [F23, run_bd]
 rw [bind_of (k66 hc h)]
 simp only [run_sr, run_br, run_bd, run_ni, run_ret, br_not, br_eq, n_rng hn, need_true, k67, bindO_s]
 rw [if_pos trivial]
 have e : ∀ z : Int, decide (0 ≤ z ∧ z ≤ (n : Int) - 1) = inG n z := fun _ => rfl
 simp only [e]
 cases ha : inG n a
 ·simp [cmpR, ha]
 cases hb : inG n b
 ·simp [cmpR, hb]
 obtain ⟨i, hi, rfl⟩ := inG_nat ha
 obtain ⟨j, hj, rfl⟩ := inG_nat hb
 simp only [brO_true]
 rw [bind_of (k68 hc hi hj), bind_of (k68 hc hj hi)]
 have h1 : ∀ o : Option Nat, (match o with | some s => ((s : Int), true, ()) | none => ((0 : Int), false, ())).2.1 = o.isSome := fun o => by cases o <;> simp
 simp only [cmpR, ha, hb, cmpV, Int.toNat_natCast, h1]
 rcases Bool.eq_false_or_eq_true (strF c n i j).isSome with hA | hA <;> rcases Bool.eq_false_or_eq_true (strF c n j i).isSome with hB | hB <;> simp [hA, hB]
end Go.Proofs.Tryd
end
section
namespace Go.Proofs.Tryd
open Go.AM Go.Cn
set_option maxRecDepth 100000
/-- A list of growers, read: its set, or an error. -/
def rdL (n : Nat) : Int → Nat → List Int → Nat × Int
 | _, s, [] => (s, 0)
 | last, s, x :: r => if inG n x = false then (0, 5) else if x ≤ last then (0, 7) else rdL n x (s ||| 2 ^ x.toNat) r
def rd (n : Nat) (l : List Int) : Nat × Int := rdL n (-1) 0 l
theorem rdL_lt {n : Nat} (hn : n ≤ 6) : ∀ {l : List Int} {last : Int} {s : Nat}, s < 2 ^ n → (rdL n last s l).1 < 2 ^ n
 | [], _, _, h => h
 | x :: r, last, s, h => by
  have hp : 0 < 2 ^ n := Nat.pow_pos (by omega)
  simp only [rdL]
  split
  ·exact hp
  split
  ·exact hp
  ·rename_i h1 _
   have h1' : inG n x = true := by simpa using h1
   obtain ⟨i, hi, rfl⟩ := inG_nat h1'
   exact rdL_lt hn (by rw [Int.toNat_natCast]; exact or_lt hn h hi)
theorem rd_lt {n : Nat} (hn : n ≤ 6) (l : List Int) : (rd n l).1 < 2 ^ n := rdL_lt hn (Nat.pow_pos (by omega))
theorem k72 {c : List Ch} {n : Nat} (hn : n ≤ 6) {l : List Int} (hl : l.length < 1000) : run0 (F72_v1 c c (n : Int) ((2 ^ n - 1 : Nat) : Int) l) = some (((rd n l).1 : Int), (rd n l).2, ()) := by
 have hp : 0 < 2 ^ n := Nat.pow_pos (by omega)
 have h64 := pow6 hn
 simp only [F72_v1, run_bd, run_it]
 have key := iter_list l (f := fun a => run (fun _ => none) (g72_v1_0 a)) (fun k (st : Nat × Int) => ((st.1 : Int), st.2, l, ((l.length : Nat) : Int), (k : Int), c, c, (n : Int), ((2 ^ n - 1 : Nat) : Int), ()))
  (fun st r => if (rdL n st.2 st.1 r).2 = 0 then Sum.inr (((rdL n st.2 st.1 r).1 : Int), ()) else Sum.inl (((rdL n st.2 st.1 r).1 : Int), (rdL n st.2 st.1 r).2, ())) (fun _ st => st.1 < 2 ^ n) ?_ ?_ (s := (0, -1)) hp
 ·replace key : iter (fun a => run (fun _ => none) (g72_v1_0 a)) ((0 : Int), (-1 : Int), l, ((l.length : Nat) : Int), (0 : Int), c, c, (n : Int), ((2 ^ n - 1 : Nat) : Int), ()) = _ := key
  rw [bind_of key]
  simp only [rd]
  by_cases h : (rdL n (-1) 0 l).2 = 0
  ·rw [if_pos h]; simp [run_sr, run_ret, h]
  ·rw [if_neg h]; simp [run_sl, run_ret]
 ·rintro pre x post ⟨s, last⟩ hx hs
  simp only at hs
  have hlen : l.length = pre.length + (post.length + 1) := by rw [hx]; simp
  have hd : l.getD pre.length (0 : Int) = x := by rw [hx]; exact getD_mid rfl
  have hin : inb (pre.length : Int) ((l.length : Nat) : Int) = true := inb_t (by omega) (by omega)
  have hni : rng .i64 ((pre.length : Int) + 1) = true := rng_i64 (by omega) (by omega)
  have e : ∀ z : Int, decide (0 ≤ z ∧ z ≤ (n : Int) - 1) = inG n z := fun _ => rfl
  simp only [g72_v1_0, run_br, run_bd, run_nb, run_ni, run_ret, Int.toNat_natCast, hd, br_d, br_not, hin, hni, n_rng hn, need_true, k67, bindO_s, e]
  rw [if_pos (by omega)]
  simp only [rdL]
  by_cases h1 : inG n x = false
  ·right
   simp [h1]
  replace h1 : inG n x = true := by simpa using h1
  obtain ⟨i, hi, rfl⟩ := inG_nat h1
  simp only [h1, brO_true]
  by_cases h2 : (i : Int) ≤ last
  ·right
   rw [if_pos h2]; simp [h2]
  ·left
   rw [if_neg h2]
   refine ⟨(s ||| 2 ^ i, (i : Int)), ?_, or_lt hn hs hi, by simp [h2]⟩
   rw [bind_of (k74 hn hs hi)]
   rfl
 ·rintro ⟨s, last⟩ hs
  simp only [g72_v1_0, run_br, run_ret, br_d]
  rw [if_neg (by omega)]
  simp [rdL]
end Go.Proofs.Tryd
end
section
namespace Go.Proofs.Tryd
open Go.AM Go.Cn
set_option maxRecDepth 100000
theorem u_or {s t : Nat} (hs : s < 64) (ht : t < 64) : ar0.bits IBin.or .u64 (s : Int) (t : Int) = ((s ||| t : Nat) : Int) := by
 have := all_lt2 (n := 64) (m := 64) (p := fun s t => ar0.bits IBin.or .u64 (s : Int) (t : Int) == ((s ||| t : Nat) : Int)) (by kernel_rfl) hs ht
 simpa using this
theorem i_or {s t : Nat} (hs : s < 64) (ht : t < 64) : ar0.bits IBin.or .i64 (s : Int) (t : Int) = ((s ||| t : Nat) : Int) := by
 have := all_lt2 (n := 64) (m := 64) (p := fun s t => ar0.bits IBin.or .i64 (s : Int) (t : Int) == ((s ||| t : Nat) : Int)) (by kernel_rfl) hs ht
 simpa using this
theorem or64 {s t : Nat} (hs : s < 64) (ht : t < 64) : s ||| t < 64 := Nat.or_lt_two_pow (n := 6) hs ht
theorem two_lt {i : Nat} (hi : i < 6) : 2 ^ i < 64 := by
 have : 2 ^ i < 2 ^ 6 := Nat.pow_lt_pow_right (by omega) hi
 omega
theorem i_and2 {s i j : Nat} (hs : s < 64) (hi : i < 6) (hj : j < 6) : (ar0.bits IBin.and .i64 (s : Int) ((2 ^ i ||| 2 ^ j : Nat) : Int) = 0) ↔ (s.testBit i = false ∧ s.testBit j = false) := by
 have := all_lt2 (n := 64) (m := 6) (p := fun s i => (List.range 6).all fun j => decide ((ar0.bits IBin.and .i64 (s : Int) ((2 ^ i ||| 2 ^ j : Nat) : Int) = 0) ↔ (s.testBit i = false ∧ s.testBit j = false))) (by kernel_rfl) hs hi
 exact of_decide_eq_true (List.all_eq_true.1 this j (List.mem_range.2 hj))
theorem k73 {s i : Nat} (hs : s < 64) (hi : i < 6) : run0 (F73 (s : Int) (i : Int)) = some (s.testBit i, ()) := by
 simp only [F73, run_nb, run_ret, u_has hs hi]
 rw [need_inb (by omega) (by omega)]
theorem k71 {s : Nat} (hs : s < 64) : run0 (F71 (s : Int)) = some (ints (els s), ()) := by
 have := all_lt (n := 64) (p := fun s => decide (cmp 40 (fun _ => none) (F71 ((s : Nat) : Int)) = some (ints (els s), ()))) (by kernel_rfl) hs
 exact cmp_done 40 (of_decide_eq_true this)
def verOk (c : List Ch) (A B i j : Nat) : Bool := winB c (A ||| 2 ^ i) && (winB c (B ||| 2 ^ j) && (!winB c (A ||| 2 ^ j) && !winB c (B ||| 2 ^ i)))
/-- What Verify answers. -/
def verS (c : List Ch) (i j A B : Nat) : Int := if (A ||| B).testBit i = true ∨ (A ||| B).testBit j = true then 3 else if verOk c A B i j = true then 0 else 11
def verR (c : List Ch) (n : Nat) (x : Int × Int × List Int × List Int) : Int :=
 if inG n x.1 = false ∨ inG n x.2.1 = false then 5 else if x.1 = x.2.1 then 6 else if (rd n x.2.2.1).2 ≠ 0 then (rd n x.2.2.1).2 else if (rd n x.2.2.2).2 ≠ 0 then (rd n x.2.2.2).2 else
 verS c x.1.toNat x.2.1.toNat (rd n x.2.2.1).1 (rd n x.2.2.2).1
theorem k27_0 {c : List Ch} {n : Nat} (hn : n ≤ 6) (a b : Int) {l m : List Int} (hl : l.length < 1000) (hm : m.length < 1000) :
  iter (fun a => run (fun _ => none) (g27_0 a)) (2, (2 : Int), (0 : Int), a, b, l, m, c, c, (n : Int), ((2 ^ n - 1 : Nat) : Int), List.replicate 2 (0 : Int), [l, m], ()) =
   some (if (rd n l).2 ≠ 0 then Sum.inl ((rd n l).2, ()) else if (rd n m).2 ≠ 0 then Sum.inl ((rd n m).2, ()) else Sum.inr (a, b, l, m, c, c, (n : Int), ((2 ^ n - 1 : Nat) : Int), [((rd n l).1 : Int), ((rd n m).1 : Int)], ())) := by
 have s1 : run (fun _ => none) (g27_0 (2, (2 : Int), (0 : Int), a, b, l, m, c, c, (n : Int), ((2 ^ n - 1 : Nat) : Int), List.replicate 2 (0 : Int), [l, m], ())) =
   some (if (rd n l).2 ≠ 0 then .inr (.inl ((rd n l).2, ())) else .inl (2, (2 : Int), (1 : Int), a, b, l, m, c, c, (n : Int), ((2 ^ n - 1 : Nat) : Int), [((rd n l).1 : Int), (0 : Int)], [l, m], ())) := by
  simp only [g27_0, run_br, run_bd, run_nb, run_nd, run_ni, run_ret, br_d, br_not, br_eq]
  rw [if_pos (by omega), need_inb (by omega) (by omega), need_d (by simp)]
  have e : [l, m].getD (0 + Int.toNat 0) [] = l := rfl
  rw [e, bind_of (k72 hn hl)]
  by_cases h : (rd n l).2 = 0
  ·rw [if_pos h, if_neg (by simpa using h), need_inb (by omega) (by omega), need_d (by simp), need_t (rng_i64 (by omega) (by omega))]
   rfl
  ·rw [if_neg h, if_pos h]
 have s2 : run (fun _ => none) (g27_0 (2, (2 : Int), (1 : Int), a, b, l, m, c, c, (n : Int), ((2 ^ n - 1 : Nat) : Int), [((rd n l).1 : Int), (0 : Int)], [l, m], ())) =
   some (if (rd n m).2 ≠ 0 then .inr (.inl ((rd n m).2, ())) else .inl (2, (2 : Int), (2 : Int), a, b, l, m, c, c, (n : Int), ((2 ^ n - 1 : Nat) : Int), [((rd n l).1 : Int), ((rd n m).1 : Int)], [l, m], ())) := by
  simp only [g27_0, run_br, run_bd, run_nb, run_nd, run_ni, run_ret, br_d, br_not, br_eq]
  rw [if_pos (by omega), need_inb (by omega) (by omega), need_d (by simp)]
  have e : [l, m].getD (0 + Int.toNat 1) [] = m := rfl
  rw [e, bind_of (k72 hn hm)]
  by_cases h : (rd n m).2 = 0
  ·rw [if_pos h, if_neg (by simpa using h), need_inb (by omega) (by omega), need_d (by simp), need_t (rng_i64 (by omega) (by omega))]
   rfl
  ·rw [if_neg h, if_pos h]
 have s3 : run (fun _ => none) (g27_0 (2, (2 : Int), (2 : Int), a, b, l, m, c, c, (n : Int), ((2 ^ n - 1 : Nat) : Int), [((rd n l).1 : Int), ((rd n m).1 : Int)], [l, m], ())) =
   some (.inr (.inr (a, b, l, m, c, c, (n : Int), ((2 ^ n - 1 : Nat) : Int), [((rd n l).1 : Int), ((rd n m).1 : Int)], ()))) := by
  simp only [g27_0, run_br, run_ret, br_d]
  rw [if_neg (by omega)]
 by_cases h1 : (rd n l).2 = 0
 ·rw [if_neg (by simpa using h1)] at s1
  refine iter_inl s1 ?_
  rw [if_neg (by simpa using h1)]
  by_cases h2 : (rd n m).2 = 0
  ·rw [if_neg (by simpa using h2)] at s2
   refine iter_inl s2 ?_
   rw [if_neg (by simpa using h2)]
   exact iter_inr s3
  ·rw [if_pos h2] at s2
   rw [if_pos h2]
   exact iter_inr s2
 ·rw [if_pos h1] at s1
  rw [if_pos h1]
  exact iter_inr s1
theorem k27 {c : List Ch} {n : Nat} (hc : OkC n c) (h : chk c = 0) (a b : Int) {l m : List Int} (hl : l.length < 1000) (hm : m.length < 1000) : run0 (F27 c (a, b, l, m)) = some (verR c n (a, b, l, m), ()) := by
 have hn := hc.n6
 have hp := pow6 hn
 simp only [F27, run_bd]
 rw [bind_of (k66 hc h)]
 have k67' : ∀ z : Int, run (fun _ => none) (F67 0 z ((n : Int) - 1)) = some (inG n z, ()) := fun z => k67 _ _ _
 simp only [run_sr, run_br, run_bd, run_ni, run_it, run_ret, br_not, br_eq, n_rng hn, need_true, k67', bindO_s]
 rw [if_pos trivial]
 by_cases ha : inG n a = false
 ·simp [verR, ha]
 replace ha : inG n a = true := by simpa using ha
 by_cases hb : inG n b = false
 ·simp [verR, ha, hb]
 replace hb : inG n b = true := by simpa using hb
 simp only [ha, hb, brO_true]
 by_cases hab : a = b
 ·subst hab; rw [if_pos rfl]; simp [verR, ha]
 rw [if_neg hab]
 obtain ⟨i, hi, rfl⟩ := inG_nat ha
 obtain ⟨j, hj, rfl⟩ := inG_nat hb
 rw [bind_of (k27_0 hn _ _ hl hm)]
 by_cases h1 : (rd n l).2 = 0
 case neg =>
  rw [if_pos h1]; simp [verR, ha, hb, hab, h1, run_sl, run_ret]
 by_cases h2 : (rd n m).2 = 0
 case neg =>
  rw [if_neg (by simpa using h1), if_pos h2]; simp [verR, ha, hb, hab, h1, h2, run_sl, run_ret]
 rw [if_neg (by simpa using h1), if_neg (by simpa using h2)]
 have hA := rd_lt hn l
 have hB := rd_lt hn m
 have hv : verR c n ((i : Int), (j : Int), l, m) = verS c i j (rd n l).1 (rd n m).1 := by
  unfold verR
  simp only [ha, hb, hab, h1, h2, Bool.true_eq_false, or_self, if_false, ne_eq, not_true, Int.toNat_natCast]
 rw [hv]
 generalize (rd n l).1 = A at *
 generalize (rd n m).1 = B at *
 simp only [run_sr, run_nd, run_bd, run_br, run_ret]
 have hA64 : A < 64 := by omega
 have hB64 : B < 64 := by omega
 simp only [show [(A : Int), (B : Int)].getD 0 0 = (A : Int) from rfl, show [(A : Int), (B : Int)].getD 1 0 = (B : Int) from rfl, u_or hA64 hB64]
 have hd0 : decide (0 < [(A : Int), (B : Int)].length) = true := rfl
 have hd1 : decide (1 < [(A : Int), (B : Int)].length) = true := rfl
 have q1 : run (fun _ => none) (F83 c ((A ||| 2 ^ i : Nat) : Int)) = _ := k83 hc (or_lt hn hA hi)
 have q2 : run (fun _ => none) (F83 c ((B ||| 2 ^ j : Nat) : Int)) = _ := k83 hc (or_lt hn hB hj)
 have q3 : run (fun _ => none) (F83 c ((A ||| 2 ^ j : Nat) : Int)) = _ := k83 hc (or_lt hn hA hj)
 have q4 : run (fun _ => none) (F83 c ((B ||| 2 ^ i : Nat) : Int)) = _ := k83 hc (or_lt hn hB hi)
 have q5 : run (fun _ => none) (F73 ((A ||| B : Nat) : Int) (i : Int)) = _ := k73 (or64 hA64 hB64) (show i < 6 by omega)
 have q6 : run (fun _ => none) (F73 ((A ||| B : Nat) : Int) (j : Int)) = _ := k73 (or64 hA64 hB64) (show j < 6 by omega)
 simp only [hd0, hd1, need_true, q5, q6, bindO_s, k74 hn hA hi, k74 hn hB hj, k74 hn hA hj, k74 hn hB hi, q1, q2, q3, q4, br_not]
 unfold verS verOk
 cases h5 : (A ||| B).testBit i
 case true => simp
 cases h6 : (A ||| B).testBit j
 case true => simp
 cases h7 : winB c (A ||| 2 ^ i) <;> cases h8 : winB c (B ||| 2 ^ j) <;> cases h9 : winB c (A ||| 2 ^ j) <;> cases h10 : winB c (B ||| 2 ^ i) <;> simp
end Go.Proofs.Tryd
end
section
namespace Go.Proofs.Tryd
open Go.AM Go.Cn
set_option maxRecDepth 100000
/-- Two growers of whom neither is at least as strong. -/
def mixB (c : List Ch) (n i k : Nat) : Bool := (strF c n i k).isSome && (strF c n k i).isSome
theorem k68' {c : List Ch} {n i j : Nat} (hc : OkC n c) (hi : i < n) (hj : j < n) : run (fun _ => none) (F68_v1 c c (n : Int) ((2 ^ n - 1 : Nat) : Int) (i : Int) (j : Int)) = some ((((strF c n i j).getD 0 : Nat) : Int), (strF c n i j).isSome, ()) := by
 refine (k68 hc hi hj).trans ?_
 cases strF c n i j <;> rfl
theorem strF_lt {c : List Ch} {n i j s : Nat} (h : strF c n i j = some s) : s < 2 ^ n := by
 have := (findF_some h).2.1
 omega
theorem strF_getD_lt {c : List Ch} {n i j : Nat} (hc : OkC n c) : (strF c n i j).getD 0 < 64 := by
 have hp := pow6 hc.n6
 cases h : strF c n i j with
 | none => simp
 | some s => have := strF_lt h; simp; omega
theorem k25_1 {c : List Ch} {n i : Nat} (hc : OkC n c) (hi : i < n) : iter (fun a => run (fun _ => none) (g25_1 a)) ((i : Int), (n : Int), (i : Int), (i : Int), (0 : Int), (0 : Int), (0 : Int), c, c, (n : Int), ((2 ^ n - 1 : Nat) : Int), ()) =
  some (match findF (mixB c n i) 0 i with
   | some k => .inl ((0 : Int), (i : Int), (k : Int), ints (els ((strF c n i k).getD 0)), ints (els ((strF c n k i).getD 0)), ())
   | none => .inr ((n : Int), (i : Int), (0 : Int), (0 : Int), c, c, (n : Int), ((2 ^ n - 1 : Nat) : Int), ())) := by
 have hn := hc.n6
 have key := iter_upto (f := fun a => run (fun _ => none) (g25_1 a)) i (fun k (_ : Unit) => ((i : Int), (n : Int), (i : Int), (i : Int), (k : Int), (0 : Int), (0 : Int), c, c, (n : Int), ((2 ^ n - 1 : Nat) : Int), ()))
  (fun _ k0 => match findF (mixB c n i) k0 (i - k0) with
   | some k => Sum.inl ((0 : Int), (i : Int), (k : Int), ints (els ((strF c n i k).getD 0)), ints (els ((strF c n k i).getD 0)), ())
   | none => Sum.inr ((n : Int), (i : Int), (0 : Int), (0 : Int), c, c, (n : Int), ((2 ^ n - 1 : Nat) : Int), ())) (fun _ _ => True) ?_ ?_ (s := ()) trivial
 ·rw [Nat.sub_zero] at key; exact key
 ·rintro k _ hk -
  have e : i - k = (i - (k + 1)) + 1 := by omega
  have hni : rng .i64 ((k : Int) + 1) = true := rng_i64 (by omega) (by omega)
  simp only [g25_1, run_br, run_bd, run_ni, run_ret, br_d, hni, need_true]
  rw [if_pos (by omega), bind_of (k68' hc hi (show k < n by omega)), bind_of (k68' hc (show k < n by omega) hi), e]
  rcases Bool.eq_false_or_eq_true (strF c n i k).isSome with h1 | h1
  ·rcases Bool.eq_false_or_eq_true (strF c n k i).isSome with h2 | h2
   ·right
    rw [findF_yes (by simp [mixB, h1, h2])]
    simp only [h1, h2, brO_true]
    rw [bind_of (k71 (strF_getD_lt hc)), bind_of (k71 (strF_getD_lt hc))]
   ·left
    rw [findF_no (by simp [mixB, h1, h2])]
    exact ⟨(), by simp [h1, h2], trivial, rfl⟩
  ·left
   rw [findF_no (by simp [mixB, h1])]
   exact ⟨(), by simp [h1], trivial, rfl⟩
 ·rintro _ -
  simp only [g25_1, run_br, run_ret, br_d]
  rw [if_neg (by omega)]
  simp [findF_zero]
def trdB (c : List Ch) (n i : Nat) : Bool := (findF (mixB c n i) 0 i).isSome
def trdV (c : List Ch) (n : Nat) : (Int × Int × List Int × List Int) × Int × Unit := match findF (trdB c n) 0 n with
 | some i => match findF (mixB c n i) 0 i with
  | some k => (((i : Int), (k : Int), ints (els ((strF c n i k).getD 0)), ints (els ((strF c n k i).getD 0))), 0, ())
  | none => ((0, 0, [], []), 5, ())
 | none => ((0, 0, [], []), 5, ())
theorem k25 {c : List Ch} {n : Nat} (hc : OkC n c) (h : chk c = 0) : run0 (F25 c) = some (trdV c n) := by
 have hn := hc.n6
 simp only [F25, run_bd]
 rw [bind_of (k66 hc h)]
 simp only [run_sr, run_br, run_bd, run_it, run_ret, br_not, br_eq]
 rw [if_pos trivial]
 have key := iter_upto (f := fun a => run (fun _ => none) (g25_0 a)) n (fun i (_ : Unit) => ((n : Int), (i : Int), (0 : Int), (0 : Int), c, c, (n : Int), ((2 ^ n - 1 : Nat) : Int), ()))
  (fun _ i0 => match findF (trdB c n) i0 (n - i0) with
   | some i => match findF (mixB c n i) 0 i with
    | some k => Sum.inl ((0 : Int), (i : Int), (k : Int), ints (els ((strF c n i k).getD 0)), ints (els ((strF c n k i).getD 0)), ())
    | none => Sum.inr ((0 : Int), (0 : Int), ())
   | none => Sum.inr ((0 : Int), (0 : Int), ())) (fun _ _ => True) ?_ ?_ (s := ()) trivial
 ·rw [Nat.sub_zero] at key
  refine bind_eq key ?_
  unfold trdV
  cases findF (trdB c n) 0 n with
  | none => simp [run_sr, run_ret]
  | some i =>
   simp only
   cases findF (mixB c n i) 0 i <;> simp [run_sl, run_sr, run_ret]
 ·rintro i _ hi -
  have e : n - i = (n - (i + 1)) + 1 := by omega
  have hni : rng .i64 ((i : Int) + 1) = true := rng_i64 (by omega) (by omega)
  simp only [g25_0, run_br, run_bd, run_it, run_ret, br_d]
  rw [if_pos (by omega), bind_of (k25_1 hc hi), e]
  cases hf : findF (mixB c n i) 0 i with
  | some k =>
   right
   rw [findF_yes (by simp [trdB, hf])]
   simp [hf, run_sl, run_ret]
  | none =>
   left
   rw [findF_no (by simp [trdB, hf])]
   refine ⟨(), ?_, trivial, rfl⟩
   simp only [run_sr, run_ni, run_ret, hni, need_true]
   rfl
 ·rintro _ -
  simp only [g25_0, run_br, run_ret, br_d]
  rw [if_neg (by omega)]
  simp [findF_zero]
/-! The reference's. -/
theorem rd_els {n s : Nat} (hn : n ≤ 6) (hs : s < 2 ^ n) : rd n (ints (els s)) = (s, 0) := by
 have := all_lt2 (n := 7) (m := 64) (p := fun n s => !(decide (s < 2 ^ n)) || decide (rd n (ints (els s)) = (s, 0))) (by decide +kernel) (s := n) (i := s) (by omega) (by have := pow6 hn; omega)
 simpa [hs] using this
/-- What Trade returns is accepted. -/
theorem trd_ok {c : List Ch} {n : Nat} (hc : OkC n c) : (trdV c n = ((0, 0, [], []), 5, ()) ∧ ∀ i k, k < i → i < n → mixB c n i k = false) ∨
  ∃ (i k a b : Nat), k < i ∧ i < n ∧ mixB c n i k = true ∧ trdV c n = (((i : Int), (k : Int), ints (els a), ints (els b)), 0, ()) ∧ verR c n ((i : Int), (k : Int), ints (els a), ints (els b)) = 0 := by
 have hn := hc.n6
 unfold trdV
 cases h1 : findF (trdB c n) 0 n with
 | none =>
  left
  refine ⟨rfl, fun i k hk hi => ?_⟩
  have := findF_none.1 h1 i (by omega) (by omega)
  unfold trdB at this
  have h2 : findF (mixB c n i) 0 i = none := by simpa using this
  exact findF_none.1 h2 k (by omega) (by omega)
 | some i =>
  right
  obtain ⟨_, hi, hb⟩ := findF_some h1
  unfold trdB at hb
  obtain ⟨k, hk⟩ := Option.isSome_iff_exists.1 hb
  obtain ⟨_, hki, hm⟩ := findF_some hk
  simp only [hk]
  have hm' := hm
  unfold mixB at hm'
  rw [Bool.and_eq_true] at hm'
  obtain ⟨a, ha⟩ := Option.isSome_iff_exists.1 hm'.1
  obtain ⟨b, hb⟩ := Option.isSome_iff_exists.1 hm'.2
  rw [ha, hb]
  refine ⟨i, k, a, b, by omega, by omega, hm, rfl, ?_⟩
  have la := strF_lt ha
  have lb := strF_lt hb
  have pa := (findF_some ha).2.2
  have pb := (findF_some hb).2.2
  have ii : inG n (i : Int) = true := decide_eq_true (by omega)
  have ik : inG n (k : Int) = true := decide_eq_true (by omega)
  have hne : ¬ ((i : Int) = (k : Int)) := by omega
  unfold verR
  simp only [rd_els hn la, rd_els hn lb, ii, ik, hne, Bool.true_eq_false, or_self, if_false, ne_eq, not_true, Int.toNat_natCast]
  unfold strB at pa pb
  simp only [Bool.and_eq_true, Bool.not_eq_true'] at pa pb
  unfold verS verOk
  rw [if_neg (by simp [Nat.testBit_or, pa.1.1, pa.1.2, pb.1.1, pb.1.2]), if_pos (by simp [pa.2.1, pa.2.2, pb.2.1, pb.2.2])]
end Go.Proofs.Tryd
end
section
namespace Go.Proofs.Tryd
open Go.AM Go.Cn
set_option maxRecDepth 100000
/-- Rounds that count up and keep something. -/
theorem iter_inv {A B S : Type} {f : A → Option (A ⊕ B)} (N : Nat) (mk : Nat → S → A) (fin : S → B) (Inv : Nat → S → Prop)
    (hs : ∀ k st, k < N → Inv k st → ∃ st', f (mk k st) = some (.inl (mk (k + 1) st')) ∧ Inv (k + 1) st') (he : ∀ st, Inv N st → f (mk N st) = some (.inr (fin st))) {s : S} (h0 : Inv 0 s) :
    ∃ st, iter f (mk 0 s) = some (fin st) ∧ Inv N st := by
  have key : ∀ m k s, k + m = N → Inv k s → ∃ st, iter f (mk k s) = some (fin st) ∧ Inv N st := by
    intro m
    induction m with
    | zero => intro k s hk hi; have e : k = N := by omega
              subst e; exact ⟨s, iter_inr (he s hi), hi⟩
    | succ m ih =>
      intro k s hk hi
      obtain ⟨s', h1, h2⟩ := hs k s (by omega) hi
      obtain ⟨st, h3, h4⟩ := ih (k + 1) s' (by omega) h2
      exact ⟨st, iter_inl h1 h3, h4⟩
  exact key N 0 s (by omega) h0
abbrev Hl := Int × List Int × (Int × Int × Int × Int × Int) × (Int × Int × Int × Int × Int) × (Int × Int × Int × Int × Int)
abbrev u8T : Ty := .int .u8
abbrev rowT : Ty := .prod u8T (.prod u8T (.prod u8T (.prod u8T u8T)))
abbrev hlT : Ty := .prod u8T (.prod (.list u8T) (.prod rowT (.prod rowT rowT)))
def isU8 (z : Int) : Prop := 0 ≤ z ∧ z ≤ 255
theorem u8_min : IntKind.u8.min = 0 := by decide
theorem u8_max : IntKind.u8.max = 255 := by decide
theorem isU8_of {z : Int} (h : Wf u8T z) : isU8 z := by
  simp only [Wf, u8_min, u8_max] at h; exact h
theorem getD_u8 {l : List Int} (h : ∀ z ∈ l, isU8 z) (i : Nat) : isU8 (l.getD i 0) := by
  by_cases hi : i < l.length
  · rw [show l.getD i 0 = l[i] by simp [List.getD, hi]]; exact h _ (List.getElem_mem hi)
  · rw [show l.getD i 0 = 0 by simp [List.getD, hi]]; exact ⟨by omega, by omega⟩
/-- A council by numbers: what is known of it. -/
structure OkH (n : Nat) (c : List Ch) : Prop where
  ok : OkC n c
  n5 : n ≤ 5
  chk0 : chk c = 0
  w7 : ∀ x ∈ c, ∀ z ∈ x.2, 0 ≤ z ∧ z ≤ 7
  q16 : ∀ x ∈ c, 1 ≤ x.1 ∧ x.1 ≤ 16
theorem k36 {c : List Ch} (h : 0 < c.length) : run0 (F36 c) = some (((gro c : Nat) : Int), ()) := by
  simp only [F36, run_nb, run_ret]
  rw [need_inb (by omega) (by omega)]; rfl
theorem tmod8 {z : Int} (h : isU8 z) : 0 ≤ Int.tmod z 8 ∧ Int.tmod z 8 ≤ 7 := by
  have h1 := Int.tmod_nonneg 8 h.1
  have h2 := Int.tmod_lt_of_pos z (show (0 : Int) < 8 by omega)
  omega
theorem tmod16 {z : Int} (h : isU8 z) : 0 ≤ Int.tmod z 16 ∧ Int.tmod z 16 ≤ 15 := by
  have h1 := Int.tmod_nonneg 16 h.1
  have h2 := Int.tmod_lt_of_pos z (show (0 : Int) < 16 by omega)
  omega
theorem tmod5 {z : Int} (h : isU8 z) : 0 ≤ Int.tmod z 5 ∧ Int.tmod z 5 ≤ 4 := by
  have h1 := Int.tmod_nonneg 5 h.1
  have h2 := Int.tmod_lt_of_pos z (show (0 : Int) < 5 by omega)
  omega
section
variable {g : Int} {q : List Int} {a0 a1 a2 a3 a4 b0 b1 b2 b3 b4 d0 d1 d2 d3 d4 : Int}
theorem k35_1 {n m k : Nat} {B : List Ch} {qq : Int} (hn : n ≤ 5) (hm : m < 3) (ha : ∀ z ∈ [a0, a1, a2, a3, a4, b0, b1, b2, b3, b4, d0, d1, d2, d3, d4], isU8 z) :
    ∃ ws : List Int, iter (fun a => run (fun _ => none) (g35_1 a)) ((n : Int), (k : Int), (m : Int), (0 : Int), g, q, a0, a1, a2, a3, a4, b0, b1, b2, b3, b4, d0, d1, d2, d3, d4, m, qq, 0, B, [], ()) =
      some ((n : Int), (k : Int), (m : Int), g, q, a0, a1, a2, a3, a4, b0, b1, b2, b3, b4, d0, d1, d2, d3, d4, m, qq, ws.length, B, ws, ()) ∧ ws.length = n ∧ ∀ z ∈ ws, 0 ≤ z ∧ z ≤ 7 := by
  have := iter_inv (f := fun a => run (fun _ => none) (g35_1 a)) n (fun i (st : List Int) => ((n : Int), (k : Int), (m : Int), (i : Int), g, q, a0, a1, a2, a3, a4, b0, b1, b2, b3, b4, d0, d1, d2, d3, d4, m, qq, st.length, B, st, ()))
    (fun ws => ((n : Int), (k : Int), (m : Int), g, q, a0, a1, a2, a3, a4, b0, b1, b2, b3, b4, d0, d1, d2, d3, d4, m, qq, ws.length, B, ws, ())) (fun i ws => ws.length = i ∧ ∀ z ∈ ws, 0 ≤ z ∧ z ≤ 7) ?_ ?_ (s := []) ⟨rfl, by simp⟩
  · exact this
  · rintro i st hi ⟨h1, h2⟩
    have hv : isU8 ([[a0, b0, d0].getD m 0, [a1, b1, d1].getD m 0, [a2, b2, d2].getD m 0, [a3, b3, d3].getD m 0, [a4, b4, d4].getD m 0].getD i 0) := by
      refine getD_u8 (fun z hz => ?_) i
      simp only [List.mem_cons, List.not_mem_nil, or_false] at hz
      rcases hz with rfl | rfl | rfl | rfl | rfl <;> refine getD_u8 (fun z hz => ?_) m <;>
        (simp only [List.mem_cons, List.not_mem_nil, or_false] at hz; rcases hz with rfl | rfl | rfl <;> exact ha _ (by simp))
    have ht := tmod8 hv
    have hin1 : inb (m : Int) 3 = true := inb_t (by omega) (by omega)
    have hin2 : inb (i : Int) 5 = true := inb_t (by omega) (by omega)
    have hni : rng .i64 ((i : Int) + 1) = true := rng_i64 (by omega) (by omega)
    refine ⟨st ++ [Int.tmod ([[a0, b0, d0].getD m 0, [a1, b1, d1].getD m 0, [a2, b2, d2].getD m 0, [a3, b3, d3].getD m 0, [a4, b4, d4].getD m 0].getD i 0) 8], ?_, by simp [h1], fun z hz => ?_⟩
    · simp only [g35_1, run_br, run_nb, run_ni, run_nd, run_ret, br_d, hin1, hin2, hni, need_true, Int.toNat_natCast, dt1, tk1, List.drop_zero, List.take_length]
      rw [if_pos (by omega), need_t (rng_i64 (by have := hv.1; omega) (by have := hv.2; omega)), need_t (by decide), need_lenbig (by simp; omega)]
      simp
    · rcases List.mem_append.1 hz with hz | hz
      · exact h2 z hz
      · rcases List.mem_singleton.1 hz with rfl; exact ht
  · rintro st ⟨h1, h2⟩
    simp only [g35_1, run_br, run_ret, br_d]
    rw [if_neg (by omega)]
theorem k35_0 {n k : Nat} (hn : n ≤ 5) (hk : k ≤ 3) (ha : ∀ z ∈ [a0, a1, a2, a3, a4, b0, b1, b2, b3, b4, d0, d1, d2, d3, d4], isU8 z) (hq : ∀ z ∈ q, isU8 z) :
    ∃ c : List Ch, iter (fun a => run (fun _ => none) (g35_0 a)) ((n : Int), (k : Int), (0 : Int), g, q, a0, a1, a2, a3, a4, b0, b1, b2, b3, b4, d0, d1, d2, d3, d4, 0, [], ()) = some (c.length, c, ()) ∧
      c.length = k ∧ ∀ x ∈ c, x.2.length = n ∧ (∀ z ∈ x.2, 0 ≤ z ∧ z ≤ 7) ∧ 1 ≤ x.1 ∧ x.1 ≤ 16 := by
  have := iter_inv (f := fun a => run (fun _ => none) (g35_0 a)) k (fun i (st : List Ch) => ((n : Int), (k : Int), (i : Int), g, q, a0, a1, a2, a3, a4, b0, b1, b2, b3, b4, d0, d1, d2, d3, d4, st.length, st, ()))
    (fun c => (c.length, c, ())) (fun i c => c.length = i ∧ ∀ x ∈ c, x.2.length = n ∧ (∀ z ∈ x.2, 0 ≤ z ∧ z ≤ 7) ∧ 1 ≤ x.1 ∧ x.1 ≤ 16) ?_ ?_ (s := []) ⟨rfl, by simp⟩
  · exact this
  · rintro i st hi ⟨h1, h2⟩
    have hni : rng .i64 ((i : Int) + 1) = true := rng_i64 (by omega) (by omega)
    have main : ∀ qq : Int, 1 ≤ qq → qq ≤ 16 → ∃ st' : List Ch, bindO (iter (fun a => run (fun _ => none) (g35_1 a)) ((n : Int), (k : Int), (i : Int), (0 : Int), g, q, a0, a1, a2, a3, a4, b0, b1, b2, b3, b4, d0, d1, d2, d3, d4, st.length, qq, 0, st, [], ())) (fun z1 =>
        need (decide ((z1.2.2.2.2.2.2.2.2.2.2.2.2.2.2.2.2.2.2.2.2.1 + (List.take 1 (List.drop 0 [(z1.2.2.2.2.2.2.2.2.2.2.2.2.2.2.2.2.2.2.2.2.2.1, List.take z1.2.2.2.2.2.2.2.2.2.2.2.2.2.2.2.2.2.2.2.2.2.2.1 (List.drop 0 z1.2.2.2.2.2.2.2.2.2.2.2.2.2.2.2.2.2.2.2.2.2.2.2.2.1))])).length) < bigL)) (need (rng .i64 (z1.2.2.1 + 1)) (some (Sum.inl (z1.1, z1.2.1, z1.2.2.1 + 1, z1.2.2.2.1, z1.2.2.2.2.1, z1.2.2.2.2.2.1, z1.2.2.2.2.2.2.1, z1.2.2.2.2.2.2.2.1, z1.2.2.2.2.2.2.2.2.1, z1.2.2.2.2.2.2.2.2.2.1, z1.2.2.2.2.2.2.2.2.2.2.1, z1.2.2.2.2.2.2.2.2.2.2.2.1, z1.2.2.2.2.2.2.2.2.2.2.2.2.1, z1.2.2.2.2.2.2.2.2.2.2.2.2.2.1, z1.2.2.2.2.2.2.2.2.2.2.2.2.2.2.1, z1.2.2.2.2.2.2.2.2.2.2.2.2.2.2.2.1, z1.2.2.2.2.2.2.2.2.2.2.2.2.2.2.2.2.1, z1.2.2.2.2.2.2.2.2.2.2.2.2.2.2.2.2.2.1, z1.2.2.2.2.2.2.2.2.2.2.2.2.2.2.2.2.2.2.1, z1.2.2.2.2.2.2.2.2.2.2.2.2.2.2.2.2.2.2.2.1, z1.2.2.2.2.2.2.2.2.2.2.2.2.2.2.2.2.2.2.2.2.1 + (List.take 1 (List.drop 0 [(z1.2.2.2.2.2.2.2.2.2.2.2.2.2.2.2.2.2.2.2.2.2.1, List.take z1.2.2.2.2.2.2.2.2.2.2.2.2.2.2.2.2.2.2.2.2.2.2.1 (List.drop 0 z1.2.2.2.2.2.2.2.2.2.2.2.2.2.2.2.2.2.2.2.2.2.2.2.2.1))])).length, List.take z1.2.2.2.2.2.2.2.2.2.2.2.2.2.2.2.2.2.2.2.2.1 (List.drop 0 z1.2.2.2.2.2.2.2.2.2.2.2.2.2.2.2.2.2.2.2.2.2.2.2.1) ++ List.take 1 (List.drop 0 [(z1.2.2.2.2.2.2.2.2.2.2.2.2.2.2.2.2.2.2.2.2.2.1, List.take z1.2.2.2.2.2.2.2.2.2.2.2.2.2.2.2.2.2.2.2.2.2.2.1 (List.drop 0 z1.2.2.2.2.2.2.2.2.2.2.2.2.2.2.2.2.2.2.2.2.2.2.2.2.1))]), ()))) : Option (_ ⊕ (Nat × List Ch × Unit)))) =
          some (.inl ((n : Int), (k : Int), ((i + 1 : Nat) : Int), g, q, a0, a1, a2, a3, a4, b0, b1, b2, b3, b4, d0, d1, d2, d3, d4, st'.length, st', ())) ∧ st'.length = i + 1 ∧ ∀ x ∈ st', x.2.length = n ∧ (∀ z ∈ x.2, 0 ≤ z ∧ z ≤ 7) ∧ 1 ≤ x.1 ∧ x.1 ≤ 16 := by
      intro qq hq1 hq2
      obtain ⟨ws, w1, w2, w3⟩ := k35_1 (g := g) (q := q) (n := n) (m := i) (k := k) (B := st) (qq := qq) hn (by omega) ha
      rw [h1, bind_of w1]
      refine ⟨st ++ [(qq, ws)], ?_, by simp [h1], fun x hx => ?_⟩
      · simp only [List.drop_zero, List.take_length, tk1]
        rw [need_lenbig (by simp; omega), need_t hni]
        simp [h1, List.take_of_length_le (Nat.le_of_eq h1)]
      · rcases List.mem_append.1 hx with hx | hx
        · exact h2 x hx
        · rcases List.mem_singleton.1 hx with rfl
          exact ⟨w2, w3, hq1, hq2⟩
    simp only [g35_0, run_br, run_jx, run_nb, run_ni, run_nd, run_bd, run_it, run_ret, br_d]
    rw [if_pos (by omega)]
    by_cases hq0 : i < q.length
    · have hu := getD_u8 hq i
      have ht := tmod16 hu
      rw [if_pos (by omega), need_inb (by omega) (by omega)]
      simp only [Int.toNat_natCast]
      rw [need_t (rng_i64 (by have := hu.1; omega) (by have := hu.2; omega)), need_t (by decide), need_t (rng_i64 (by omega) (by omega))]
      simp only [bindO_s, onS]
      exact main _ (by omega) (by omega)
    · rw [if_neg (by omega)]
      simp only [bindO_s, onS]
      exact main 4 (by omega) (by omega)
  · rintro st ⟨h1, h2⟩
    simp only [g35_0, run_br, run_ret, br_d]
    rw [if_neg (by omega)]
end
theorem made_ok {h : Hl} (hW : Wf hlT h) : ∃ c n, run0 (F35 (h.1, h.2.1, h.2.2.1.1, h.2.2.1.2.1, h.2.2.1.2.2.1, h.2.2.1.2.2.2.1, h.2.2.1.2.2.2.2, h.2.2.2.1.1, h.2.2.2.1.2.1, h.2.2.2.1.2.2.1, h.2.2.2.1.2.2.2.1, h.2.2.2.1.2.2.2.2, h.2.2.2.2.1, h.2.2.2.2.2.1, h.2.2.2.2.2.2.1, h.2.2.2.2.2.2.2.1, h.2.2.2.2.2.2.2.2)) = some ((c, ()), ()) ∧ OkH n c := by
  obtain ⟨g, q, ⟨a0, a1, a2, a3, a4⟩, ⟨b0, b1, b2, b3, b4⟩, ⟨d0, d1, d2, d3, d4⟩⟩ := h
  obtain ⟨w1, w2, ⟨w3, w4, w5, w6, w7⟩, ⟨v3, v4, v5, v6, v7⟩, ⟨u3, u4, u5, u6, u7⟩⟩ := hW
  replace w1 : Wf u8T g := w1
  have hg := tmod5 (isU8_of w1)
  have hg' := isU8_of w1
  have hq : ∀ z ∈ q, isU8 z := fun z hz => isU8_of (w2.2 z hz)
  have ha : ∀ z ∈ [a0, a1, a2, a3, a4, b0, b1, b2, b3, b4, d0, d1, d2, d3, d4], isU8 z := by
    intro z hz
    simp only [List.mem_cons, List.not_mem_nil, or_false] at hz
    rcases hz with rfl | rfl | rfl | rfl | rfl | rfl | rfl | rfl | rfl | rfl | rfl | rfl | rfl | rfl | rfl
    · exact isU8_of w3
    · exact isU8_of w4
    · exact isU8_of w5
    · exact isU8_of w6
    · exact isU8_of w7
    · exact isU8_of v3
    · exact isU8_of v4
    · exact isU8_of v5
    · exact isU8_of v6
    · exact isU8_of v7
    · exact isU8_of u3
    · exact isU8_of u4
    · exact isU8_of u5
    · exact isU8_of u6
    · exact isU8_of u7
  obtain ⟨n, hn, hn1, hn5⟩ : ∃ n : Nat, 1 + Int.tmod g 5 = (n : Int) ∧ 1 ≤ n ∧ n ≤ 5 := ⟨(1 + Int.tmod g 5).toNat, by omega, by omega, by omega⟩
  obtain ⟨k, hk, hk1, hk3⟩ : ∃ k : Nat, imin 3 (imax 1 ((q.length : Nat) : Int)) = (k : Int) ∧ 1 ≤ k ∧ k ≤ 3 := by
    refine ⟨(imin 3 (imax 1 ((q.length : Nat) : Int))).toNat, ?_, ?_, ?_⟩ <;> (unfold imin imax; split <;> split <;> omega)
  obtain ⟨c, c1, c2, c3⟩ := k35_0 (g := g) (n := n) (k := k) hn5 hk3 ha hq
  have hgc : gro c = n := by
    cases c with
    | nil => simp at c2; omega
    | cons x r => exact (c3 x (List.mem_cons_self ..)).1
  have hx : ∀ x ∈ c, OkX n x := fun x hx => by
    obtain ⟨e1, e2, e3, e4⟩ := c3 x hx
    exact ⟨e1, e3, by omega, fun z hz => by have := e2 z hz; omega⟩
  refine ⟨c, n, ?_, ⟨⟨by omega, by omega, hn1, by omega, hgc, hx⟩, hn5, ?_, fun x hx => (c3 x hx).2.1, fun x hx => (c3 x hx).2.2⟩⟩
  · simp only [F35, run_ni, run_nd, run_bd, run_it, run_ret]
    rw [need_t (rng_i64 (by have := hg'.1; omega) (by have := hg'.2; omega)), need_t (by decide), need_t (rng_i64 (by omega) (by omega)), hn, hk, bind_of c1]
    simp
  · unfold chk
    rw [if_neg (by omega), if_neg (by omega), hgc, if_neg (by omega), if_neg (by omega)]
    have : ∀ l : List Ch, (∀ x ∈ l, OkX n x) → chkL n l = 0 := by
      intro l
      induction l with
      | nil => intro _; rfl
      | cons x r ih =>
        intro h
        have ox := h x (List.mem_cons_self ..)
        have e : okCh n x = 0 := by
          unfold okCh
          rw [if_neg (not_not_intro ox.len), if_neg (not_not_intro ⟨ox.q1, ox.q2⟩), if_neg ?_]
          intro hb
          obtain ⟨z, hz, hbz⟩ := List.any_eq_true.1 hb
          have := ox.w z hz
          unfold badW at hbz
          simp at hbz
          omega
        simp only [chkL]
        rw [if_neg (not_not_intro e)]
        exact ih fun y hy => h y (List.mem_cons_of_mem _ hy)
    exact this c hx
end Go.Proofs.Tryd
end
section
namespace Go.Proofs.Tryd
open Go.AM Go.Cn
set_option maxRecDepth 100000
theorem i_bit {s i : Nat} (hs : s < 64) (hi : i < 6) : ar0.bits IBin.and .i64 (ar0.shr (s : Int) (i : Int)) (1 : Int) = if s.testBit i then 1 else 0 := by
 have := all_lt2 (n := 64) (m := 6) (p := fun s i => decide (ar0.bits IBin.and .i64 (ar0.shr (s : Int) (i : Int)) (1 : Int) = if s.testBit i then 1 else 0)) (by kernel_rfl) hs hi
 exact of_decide_eq_true this
theorem k40 {s : Nat} (hs : s < 64) : run0 (F40 (s : Int)) = some (ints (els s), ()) := by
 have := all_lt (n := 64) (p := fun s => decide (cmp 40 (fun _ => none) (F40 ((s : Nat) : Int)) = some (ints (els s), ()))) (by kernel_rfl) hs
 exact cmp_done 40 (of_decide_eq_true this)
theorem k39_1 {n s : Nat} {x : Ch} {c : List Ch} {len idx : Int} (hx : OkX n x) (hn : n ≤ 6) (hs : s < 2 ^ n) :
  iter (fun a => run (fun _ => none) (g39_1 a)) ((s : Int), (0 : Int), c, len, idx, x.2, ((x.2.length : Nat) : Int), (0 : Int), x.1, x.2, ()) = some ((s : Int), wt x.2 s, c, len, idx, x.1, x.2, ()) := by
 have h64 : s < 64 := Nat.lt_of_lt_of_le hs (pow6 hn)
 have key := iter_upto (f := fun a => run (fun _ => none) (g39_1 a)) n (fun k (st : Int) => ((s : Int), st, c, len, idx, x.2, ((x.2.length : Nat) : Int), (k : Int), x.1, x.2, ()))
  (fun st k => ((s : Int), st + (((List.range' k (n - k)).filter s.testBit).map fun i => x.2.getD i 0).sum, c, len, idx, x.1, x.2, ())) (fun k st => 0 ≤ st ∧ st ≤ 1000000 * (k : Int)) ?_ ?_ (s := 0) ⟨by omega, by omega⟩
 ·refine Eq.trans key ?_
  rw [wt_range hn hs]; simp [List.range_eq_range']
 ·rintro k st hk ⟨b1, b2⟩
  left
  have hw := hx.get k
  have hl := hx.len
  have hin : inb (k : Int) ((x.2.length : Nat) : Int) = true := inb_t (by omega) (by omega)
  have hi6 : inb (k : Int) 64 = true := inb_t (by omega) (by omega)
  have hni : rng .i64 ((k : Int) + 1) = true := rng_i64 (by omega) (by omega)
  have e : n - k = (n - (k + 1)) + 1 := by omega
  simp only [g39_1, run_br, run_nb, run_ni, run_ret, Int.toNat_natCast, br_d, hin, hi6, hni, need_true, i_bit h64 (show k < 6 by omega)]
  rw [if_pos (by omega), e, List.range'_succ, List.filter_cons]
  cases hb : s.testBit k
  ·refine ⟨st, ?_, ⟨by omega, by omega⟩, by simp⟩
   simp only [Bool.false_eq_true, if_false, Int.zero_mul, Int.add_zero]
   rw [need_t (rng_i64 (by omega) (by omega)), need_t (rng_i64 (by omega) (by omega))]
   rfl
  ·refine ⟨st + x.2.getD k 0, ?_, ⟨by omega, by omega⟩, by simp only [if_true, List.map_cons, List.sum_cons, Int.add_assoc]⟩
   simp only [if_true, Int.one_mul]
   rw [need_t (rng_i64 (by omega) (by omega)), need_t (rng_i64 (by omega) (by omega))]
   rfl
 ·rintro st -
  have hl := hx.len
  simp only [g39_1, run_br, run_ret, br_d]
  rw [if_neg (by omega)]; simp
theorem k39 {n s : Nat} {c : List Ch} (hc : OkC n c) (hs : s < 2 ^ n) : run0 (F39 c (s : Int)) = some (winB c s, ()) := by
 have h3 := hc.c3
 simp only [F39, run_bd, run_it]
 have key := iter_list c (f := fun a => run (fun _ => none) (g39_0 a)) (fun k (_ : Unit) => ((s : Int), c, ((c.length : Nat) : Int), (k : Int), ())) (fun _ r => if winB r s = true then Sum.inr () else Sum.inl ()) (fun _ _ => True) ?_ ?_ (s := ()) trivial
 ·replace key : iter (fun a => run (fun _ => none) (g39_0 a)) ((s : Int), c, ((c.length : Nat) : Int), (0 : Int), ()) = _ := key
  rw [bind_of key]
  cases h : winB c s <;> simp [run_sl, run_sr, run_ret]
 ·rintro pre x post _ hxx -
  have hlen : c.length = pre.length + (post.length + 1) := by rw [hxx]; simp
  have hd : c.getD pre.length ((0 : Int), []) = x := by rw [hxx]; exact getD_mid rfl
  have hx : OkX n x := hc.ch x (by rw [hxx]; simp)
  have hin : inb (pre.length : Int) ((c.length : Nat) : Int) = true := inb_t (by omega) (by omega)
  have hni : rng .i64 ((pre.length : Int) + 1) = true := rng_i64 (by omega) (by omega)
  simp only [g39_0, run_br, run_bd, run_nb, run_ni, run_it, run_ret, Int.toNat_natCast, hd, br_d, hin, hni, need_true]
  rw [if_pos (by omega), bind_of (k39_1 hx hc.n6 hs)]
  have e : winB (x :: post) s = (win1 s x && winB post s) := rfl
  rw [e]
  by_cases hw : wt x.2 s < x.1
  ·right
   rw [if_pos hw]
   have : win1 s x = false := by simp only [win1, decide_eq_false_iff_not]; omega
   simp [this]
  ·left
   rw [if_neg hw]
   have : win1 s x = true := by simp only [win1, decide_eq_true_eq]; omega
   exact ⟨(), by simp [need_t hni], trivial, by simp [this]⟩
 ·rintro _ -
  simp only [g39_0, run_br, run_ret, br_d]
  rw [if_neg (by omega)]; simp [winB]
/-! Sums. -/
theorem sum_perm {α : Type} {l l' : List α} (h : l.Perm l') (f : α → Int) : (l.map f).sum = (l'.map f).sum := by
 induction h with
 | nil => rfl
 | cons x _ ih => simp [ih]
 | swap x y l => simp; omega
 | trans _ _ ih1 ih2 => exact ih1.trans ih2
theorem els_with {s i : Nat} (hs : s < 64) (hi : i < 6) (h : s.testBit i = false) : (els (s ||| 2 ^ i)).Perm (i :: els s) := by
 have := all_lt2 (n := 64) (m := 6) (p := fun s i => s.testBit i || decide ((els (s ||| 2 ^ i)).Perm (i :: els s))) (by decide +kernel) hs hi
 simpa [h] using this
theorem wt_with {ws : List Int} {s i : Nat} (hs : s < 64) (hi : i < 6) (h : s.testBit i = false) : wt ws (s ||| 2 ^ i) = wt ws s + ws.getD i 0 := by
 unfold wt
 rw [sum_perm (els_with hs hi h)]
 simp only [List.map_cons, List.sum_cons]; omega
end Go.Proofs.Tryd
end
section
namespace Go.Proofs.Tryd
open Go.AM Go.Cn
set_option maxRecDepth 100000
section
variable {c : List Ch} {n : Nat}
theorem cmpR_in {i j : Nat} (hi : i < n) (hj : j < n) : cmpR c n (i : Int) (j : Int) = (cmpV c n i j, 0, ()) := by
 unfold cmpR
 rw [if_neg (by simp [inG]; omega)]
 simp
theorem cmpV_mix (i j : Nat) : (cmpV c n i j == (2 : Int)) = mixB c n i j := by
 unfold cmpV mixB
 cases (strF c n i j).isSome <;> cases (strF c n j i).isSome <;> simp
theorem k9_1 (hc : OkC n c) (h : chk c = 0) {i : Nat} (hi : i < n) (m : Bool) (q nn : Int) (b0 b1 : List Int) :
  iter (fun a => run (fun _ => none) (g9_1 a)) (q, nn, m, (i : Int), (0 : Int), b0, b1, c, ()) = some (.inr (q, nn, (m || (List.range i).any fun j => mixB c n i j), (i : Int), b0, b1, c, ())) := by
 have hn := hc.n6
 have key := iter_count (step := fun a => run (fun _ => none) (g9_1 a)) i (fun k => (q, nn, (m || (List.range k).any fun j => mixB c n i j), (i : Int), (k : Int), b0, b1, c, ()))
  (b := .inr (q, nn, (m || (List.range i).any fun j => mixB c n i j), (i : Int), b0, b1, c, ()))
  (fun k hk => by
   have hni : rng .i64 ((k : Int) + 1) = true := rng_i64 (by omega) (by omega)
   have hR : ∀ f : Nat → Bool, (List.range (k + 1)).any f = ((List.range k).any f || f k) := fun f => by simp [List.range_succ]
   simp only [g9_1, run_br, run_bd, run_ni, run_ret, br_d]
   rw [if_pos (by omega), bind_of (k23 hc h _ _), cmpR_in hi (by omega)]
   dsimp only
   rw [br_not, br_t (by decide), hR, cmpV_mix]
   generalize (List.range k).any (fun j => mixB c n i j) = u
   generalize mixB c n i k = w
   simp only [hni, need_true]
   cases m <;> cases u <;> cases w <;> simp)
  (by
   simp only [g9_1, run_br, run_bd, run_ni, run_ret, br_d]
   rw [if_neg (by omega)])
 simpa using key
/-- Some two can not be compared. -/
def mixA (c : List Ch) (n : Nat) : Bool := (List.range n).any fun i => (List.range i).any fun j => mixB c n i j
theorem mixA_iff : mixA c n = true ↔ ∃ i k, k < i ∧ i < n ∧ mixB c n i k = true := by
 simp only [mixA, List.any_eq_true, List.mem_range]
 constructor
 ·rintro ⟨i, hi, k, hk, h⟩; exact ⟨i, k, hk, hi, h⟩
 ·rintro ⟨i, k, hk, hi, h⟩; exact ⟨i, hi, k, hk, h⟩
theorem k9_0 (hc : OkC n c) (h : chk c = 0) (q : Int) (b0 b1 : List Int) :
  iter (fun a => run (fun _ => none) (g9_0 a)) (q, (n : Int), false, (0 : Int), b0, b1, c, ()) = some (.inr (q, (n : Int), mixA c n, b0, b1, c, ())) := by
 have hn := hc.n6
 have key := iter_count (step := fun a => run (fun _ => none) (g9_0 a)) n (fun k => (q, (n : Int), ((List.range k).any fun i => (List.range i).any fun j => mixB c n i j), (k : Int), b0, b1, c, ()))
  (b := .inr (q, (n : Int), mixA c n, b0, b1, c, ()))
  (fun k hk => by
   have hni : rng .i64 ((k : Int) + 1) = true := rng_i64 (by omega) (by omega)
   have hR : ∀ f : Nat → Bool, (List.range (k + 1)).any f = ((List.range k).any f || f k) := fun f => by simp [List.range_succ]
   simp only [g9_0, run_br, run_bd, run_it, run_ni, run_ret, br_d]
   rw [if_pos (by omega), bind_of (k9_1 hc h hk _ _ _ _ _)]
   simp only [run_sr, run_ni, run_ret, hni, need_true, hR]
   simp)
  (by
   simp only [g9_0, run_br, run_bd, run_ni, run_ret, br_d]
   rw [if_neg (by omega)]
   rfl)
 simpa using key
theorem verR_in (hn : n ≤ 6) {i j A B : Nat} (hi : i < n) (hj : j < n) (hA : A < 2 ^ n) (hB : B < 2 ^ n) :
  verR c n ((i : Int), (j : Int), ints (els A), ints (els B)) = if i = j then 6 else verS c i j A B := by
 unfold verR
 rw [if_neg (by simp [inG]; omega)]
 dsimp only
 rw [rd_els hn hA, rd_els hn hB]
 by_cases e : i = j
 ·rw [if_pos (by omega), if_pos e]
 ·rw [if_neg (by omega), if_neg e, if_neg (by simp), if_neg (by simp)]
  simp
/-- A chamber of one's own does not leave two apart in both ways. -/
theorem mixed_no (hn : n ≤ 6) {y : Ch} (h : ∀ s, s < 2 ^ n → winB c s = winB [y] s) {i j : Nat} (hi : i < n) (hj : j < n) : mixB c n i j = false := by
 have h64 := pow6 hn
 have e1 : ∀ s, winB [y] s = decide (y.1 ≤ wt y.2 s) := fun s => by simp [winB, win1]
 have one : ∀ i j : Nat, i < n → j < n → (strF c n i j).isSome = true → y.2.getD j 0 < y.2.getD i 0 := fun i j hi hj hs => by
  obtain ⟨s, hs⟩ := Option.isSome_iff_exists.1 hs
  have hlt := strF_lt hs
  have hp := (findF_some hs).2.2
  unfold strB at hp
  simp only [Bool.and_eq_true, Bool.not_eq_true'] at hp
  obtain ⟨⟨b1, b2⟩, b3, b4⟩ := hp
  rw [h _ (or_lt hn hlt hi), e1, wt_with (by omega) (by omega) b1] at b3
  rw [h _ (or_lt hn hlt hj), e1, wt_with (by omega) (by omega) b2] at b4
  simp only [decide_eq_true_eq] at b3
  simp only [decide_eq_false_iff_not] at b4
  omega
 unfold mixB
 rw [Bool.and_eq_false_iff]
 cases h1 : (strF c n i j).isSome
 ·exact .inl rfl
 ·refine .inr ?_
  cases h2 : (strF c n j i).isSome
  ·rfl
  ·have a := one i j hi hj h1
   have b := one j i hj hi h2
   omega
theorem k9_2 {w0 w1 w2 w3 w4 Q : Int} (hw : ∀ z ∈ [w0, w1, w2, w3, w4], isU8 z) (hn : n ≤ 5) :
  iter (fun a => run (fun _ => none) (g9_2 a)) ((n : Int), (0 : Int), [w0, w1, w2, w3, w4], c, 1, [(Q, [])], 0, [], ()) =
   some ((n : Int), c, 1, [(Q, [])], n, (List.range n).map (fun i => Int.tmod ([w0, w1, w2, w3, w4].getD i 0) 9), ()) := by
 have hkb : bigL = 1073741824 := by decide
 generalize hws : [w0, w1, w2, w3, w4] = ws at *
 have hl : ws.length = 5 := by rw [← hws]; rfl
 have key := iter_count (step := fun a => run (fun _ => none) (g9_2 a)) n (fun k => ((n : Int), (k : Int), ws, c, 1, [(Q, [])], k, (List.range k).map (fun i => Int.tmod (ws.getD i 0) 9), ()))
  (b := ((n : Int), c, 1, [(Q, [])], n, (List.range n).map (fun i => Int.tmod (ws.getD i 0) 9), ()))
  (fun k hk => by
   have hu := getD_u8 hw k
   have h1 := hu.1
   have h2 := hu.2
   simp only [g9_2, run_br, run_nb, run_nd, run_ni, run_ret, br_d, Int.toNat_natCast]
   rw [if_pos (by omega), need_inb (by omega) (by omega), need_t (by rfl), need_inb (by omega) (by omega), need_d (by omega), need_i64 (by omega) (by omega), need_t (by rfl), need_d (by simp; omega), need_inb (by omega) (by omega), need_t (by rfl), need_i64 (by omega) (by omega)]
   have : (List.range k).map (fun i => Int.tmod (ws.getD i 0) 9) = ((List.range k).map (fun i => Int.tmod (ws.getD i 0) 9)).take k := by rw [List.take_of_length_le (by simp)]
   simp only [List.drop_zero, ← this]
   simp [List.range_succ])
  (by
   simp only [g9_2, run_br, run_nb, run_nd, run_ni, run_ret, br_d]
   rw [if_neg (by omega)])
 exact key
theorem k9_3 {o : List Ch} (hc : OkC n c) (ho : OkC n o) (hl : o.length = 1) :
  iter (fun a => run (fun _ => none) (g9_3 a)) ((n : Int), (0 : Int), c, 1, o, ()) = some (if ∀ s, s < 2 ^ n → winB c s = winB o s then .inl () else .inr (true, ())) := by
 have hn := hc.n6
 have h64 := pow6 hn
 have hp : 0 < 2 ^ n := Nat.pow_pos (by omega)
 have hi1 : inb (n : Int) 64 = true := inb_t (by omega) (by omega)
 have hi2 : rng .i64 ((2 ^ n : Nat) : Int) = true := rng_i64 (by omega) (by omega)
 have hsh : ar0.shl (1 : Int) (n : Int) = ((2 ^ n : Nat) : Int) := shl_n hn
 have htk : o.take 1 = o := List.take_of_length_le (by omega)
 have key := iter_until (step := fun a => run (fun _ => none) (g9_3 a)) (2 ^ n) (fun s => ((n : Int), (s : Int), c, 1, o, ())) (fun s => if winB c s = winB o s then none else some (.inr (true, ()))) (b := .inl ())
  (fun s hs => by
   have hni : rng .i64 ((s : Int) + 1) = true := rng_i64 (by omega) (by omega)
   have step : run (fun _ => none) (g9_3 ((n : Int), (s : Int), c, 1, o, ())) = brO (!(winB c s == winB o s)) (some (.inr (.inr (true, ())))) (some (.inl ((n : Int), ((s + 1 : Nat) : Int), c, 1, o, ()))) := by
    simp only [g9_3, run_bd, run_nb, run_ni, run_br, run_ret, hsh, hi1, hi2, need_true, br_d, List.drop_zero, htk]
    rw [if_pos (by omega), bind_of (k39 hc hs), bind_of (k39 ho hs), bind_of works_ok]
    simp only [hni, need_true]
    rfl
   rw [step]
   by_cases he : winB c s = winB o s
   ·simp only [he, if_true, beq_self_eq_true, Bool.not_true, brO_false]
   ·simp only [he, if_false]
    rw [show (winB c s == winB o s) = false by simpa using he]
    simp)
  (by
   simp only [g9_3, run_bd, run_nb, run_ni, run_br, run_ret, hsh, hi1, hi2, need_true, br_d]
   rw [if_neg (by simp)])
 rw [show ((0 : Int)) = ((0 : Nat) : Int) from rfl, key]
 congr 1
 by_cases h : ∀ s, s < 2 ^ n → winB c s = winB o s
 ·rw [if_pos h, List.findSome?_eq_none_iff.2 (fun s hs => by rw [if_pos (h s (List.mem_range.1 hs))])]
  rfl
 ·rw [if_neg h]
  cases hf : (List.range (2 ^ n)).findSome? (fun s => if winB c s = winB o s then none else some (Sum.inr (α := Unit) (true, ()))) with
  | none =>
   exfalso
   refine h fun s hs => ?_
   have := List.findSome?_eq_none_iff.1 hf s (List.mem_range.2 hs)
   by_cases he : winB c s = winB o s
   ·exact he
   ·rw [if_neg he] at this; cases this
  | some y =>
   obtain ⟨s, _, hy⟩ := List.exists_of_findSome?_eq_some hf
   split at hy
   ·cases hy
   ·cases hy; rfl
end
theorem pow_inj {i j : Nat} (h : i ≠ j) : (2 : Nat) ^ i ≠ 2 ^ j := fun e => h ((Nat.pow_right_inj (by omega)).1 e)
theorem law9 (h : Hl) (x : Int × Int × Int × Int) (a2 : Int) (w : Int × Int × Int × Int × Int) (hW : WfAll [hlT, .prod u8T (.prod u8T (.prod u8T u8T)), u8T, .prod u8T (.prod u8T (.prod u8T (.prod u8T u8T)))] (h, x, a2, w, ())) : run0 (F9 h x a2 w) = some (true, ()) := by
 obtain ⟨c, n, hm, ho⟩ := made_ok hW.1
 obtain ⟨x0, x1, x2, x3⟩ := x
 obtain ⟨w0, w1, w2, w3, w4⟩ := w
 have ux0 : isU8 x0 := isU8_of hW.2.1.1
 have ux1 : isU8 x1 := isU8_of hW.2.1.2.1
 have ux2 : isU8 x2 := isU8_of hW.2.1.2.2.1
 have ux3 : isU8 x3 := isU8_of hW.2.1.2.2.2
 have u2 : isU8 a2 := isU8_of hW.2.2.1
 have uw : ∀ z ∈ [w0, w1, w2, w3, w4], isU8 z := by
  have q := hW.2.2.2.1
  intro z hz
  simp only [List.mem_cons, List.not_mem_nil, or_false] at hz
  rcases hz with rfl | rfl | rfl | rfl | rfl
  ·exact isU8_of q.1
  ·exact isU8_of q.2.1
  ·exact isU8_of q.2.2.1
  ·exact isU8_of q.2.2.2.1
  ·exact isU8_of q.2.2.2.2
 have hc := ho.ok
 have hn := hc.n6
 have hn5 := ho.n5
 have hn1 := hc.n1
 have hp : 0 < 2 ^ n := Nat.pow_pos (by omega)
 have h64 := pow6 hn
 have h0 : 0 < c.length := by have := hc.c1; omega
 have red : ∀ {z : Int} {m : Nat}, isU8 z → 0 < m → ∃ i : Nat, i < m ∧ Int.tmod z (m : Int) = (i : Int) := fun {z m} hz hm => by
  have h1 := Int.tmod_nonneg (m : Int) hz.1
  have h2 := Int.tmod_lt_of_pos z (show (0 : Int) < (m : Int) by omega)
  exact ⟨(Int.tmod z (m : Int)).toNat, by omega, by omega⟩
 obtain ⟨i, hi, ei⟩ := red ux0 (show 0 < n by omega)
 obtain ⟨j, hj, ej⟩ := red ux1 (show 0 < n by omega)
 obtain ⟨A, hA, eA⟩ := red ux2 hp
 obtain ⟨B, hB, eB⟩ := red ux3 hp
 have rr : ∀ {z : Int}, isU8 z → rng .i64 z = true := fun hz => rng_i64 (by have := hz.1; omega) (by have := hz.2; omega)
 have hnb : inb (n : Int) 64 = true := inb_t (by omega) (by omega)
 have r2 : rng .i64 ((2 ^ n : Nat) : Int) = true := rng_i64 (by omega) (by omega)
 have nzn : (!((n : Int) == 0)) = true := by rw [Bool.not_eq_true', beq_eq_false_iff_ne]; omega
 have nz2 : (!(((2 ^ n : Nat) : Int) == 0)) = true := by rw [Bool.not_eq_true', beq_eq_false_iff_ne]; omega
 have hib : inb (i : Int) 64 = true := inb_t (by omega) (by omega)
 have hjb : inb (j : Int) 64 = true := inb_t (by omega) (by omega)
 have hpi := two_lt (show i < 6 by omega)
 have hpj := two_lt (show j < 6 by omega)
 have ppi : 0 < 2 ^ i := Nat.pow_pos (by omega)
 have ppj : 0 < 2 ^ j := Nat.pow_pos (by omega)
 have hri : rng .i64 ((2 ^ i : Nat) : Int) = true := rng_i64 (by omega) (by omega)
 have hrj : rng .i64 ((2 ^ j : Nat) : Int) = true := rng_i64 (by omega) (by omega)
 have si : ar0.shl (1 : Int) (i : Int) = ((2 ^ i : Nat) : Int) := shl_one (by omega)
 have sj : ar0.shl (1 : Int) (j : Int) = ((2 ^ j : Nat) : Int) := shl_one (by omega)
 have lA : (ints (els A)).length < 1000 := by simp [ints]; have := els_len (s := A); omega
 have lB : (ints (els B)).length < 1000 := by simp [ints]; have := els_len (s := B); omega
 have g0 : ([x0, x1, x2, x3] : List Int).getD 0 0 = x0 := rfl
 have g1 : ([x0, x1, x2, x3] : List Int).getD 1 0 = x1 := rfl
 have g2 : ([x0, x1, x2, x3] : List Int).getD 2 0 = x2 := rfl
 have g3 : ([x0, x1, x2, x3] : List Int).getD 3 0 = x3 := rfl
 have q0 : (decide ((0 : Nat) < ([x0, x1, x2, x3] : List Int).length)) = true := rfl
 have q1 : (decide ((1 : Nat) < ([x0, x1, x2, x3] : List Int).length)) = true := rfl
 have q2 : (decide ((2 : Nat) < ([x0, x1, x2, x3] : List Int).length)) = true := rfl
 have q3 : (decide ((3 : Nat) < ([x0, x1, x2, x3] : List Int).length)) = true := rfl
 have kA : run (fun _ => none) (F40 (A : Int)) = some (ints (els A), ()) := k40 (by omega)
 have kB : run (fun _ => none) (F40 (B : Int)) = some (ints (els B), ()) := k40 (by omega)
 have kV : run (fun _ => none) (F27 c ((i : Int), (j : Int), ints (els A), ints (els B))) = some (if i = j then 6 else verS c i j A B, ()) := by
  have := k27 hc ho.chk0 (i : Int) (j : Int) lA lB
  rw [verR_in hn hi hj hA hB] at this
  exact this
 have k39' : ∀ S k, S < 2 ^ n → k < n → run (fun _ => none) (F39 c ((S ||| 2 ^ k : Nat) : Int)) = some (winB c (S ||| 2 ^ k), ()) := fun S k hS hk => k39 hc (or_lt hn hS hk)
 have oAB : ar0.bits IBin.or .i64 (A : Int) (B : Int) = ((A ||| B : Nat) : Int) := i_or (by omega) (by omega)
 have oij : ar0.bits IBin.or .i64 ((2 ^ i : Nat) : Int) ((2 ^ j : Nat) : Int) = ((2 ^ i ||| 2 ^ j : Nat) : Int) := i_or hpi hpj
 have oAi : ar0.bits IBin.or .i64 (A : Int) ((2 ^ i : Nat) : Int) = ((A ||| 2 ^ i : Nat) : Int) := i_or (by omega) hpi
 have oAj : ar0.bits IBin.or .i64 (A : Int) ((2 ^ j : Nat) : Int) = ((A ||| 2 ^ j : Nat) : Int) := i_or (by omega) hpj
 have oBi : ar0.bits IBin.or .i64 (B : Int) ((2 ^ i : Nat) : Int) = ((B ||| 2 ^ i : Nat) : Int) := i_or (by omega) hpi
 have oBj : ar0.bits IBin.or .i64 (B : Int) ((2 ^ j : Nat) : Int) = ((B ||| 2 ^ j : Nat) : Int) := i_or (by omega) hpj
 have hand := i_and2 (s := A ||| B) (or64 (show A < 64 by omega) (show B < 64 by omega)) (show i < 6 by omega) (show j < 6 by omega)
 -- what is wanted
 have want : ∀ {Z : Type} (f : Int) (K : Int → Z), (brO (((2 ^ i : Nat) : Int) == ((2 ^ j : Nat) : Int)) (some (K 6))
   (brO (!(ar0.bits IBin.and .i64 ((A ||| B : Nat) : Int) ((2 ^ i ||| 2 ^ j : Nat) : Int) == (0 : Int))) (some (K 3))
    (bindO (run (fun _ => none) (F39 c ((A ||| 2 ^ i : Nat) : Int))) fun y => brO (!y.1) (some (K 11))
     (bindO (run (fun _ => none) (F39 c ((A ||| 2 ^ j : Nat) : Int))) fun y => brO y.1 (some (K 11))
      (bindO (run (fun _ => none) (F39 c ((B ||| 2 ^ j : Nat) : Int))) fun y => brO (!y.1) (some (K 11))
       (bindO (run (fun _ => none) (F39 c ((B ||| 2 ^ i : Nat) : Int))) fun y => brO y.1 (some (K 11)) (some (K 0)))))))) = some (K (if i = j then 6 else verS c i j A B)) := by
  intro Z f K
  by_cases hij : i = j
  ·subst hij
   rw [br_t (by simp), if_pos rfl]
  ·rw [if_neg hij, br_eq, if_neg (by have := pow_inj hij; omega), br_not, br_eq]
   unfold verS
   by_cases hb : (A ||| B).testBit i = false ∧ (A ||| B).testBit j = false
   ·rw [if_pos (hand.2 hb), if_neg (by rw [hb.1, hb.2]; simp), bind_of (k39' A i hA hi), bind_of (k39' A j hA hj), bind_of (k39' B j hB hj), bind_of (k39' B i hB hi)]
    unfold verOk
    generalize winB c (A ||| 2 ^ i) = p1
    generalize winB c (A ||| 2 ^ j) = p2
    generalize winB c (B ||| 2 ^ j) = p3
    generalize winB c (B ||| 2 ^ i) = p4
    cases p1 <;> cases p2 <;> cases p3 <;> cases p4 <;> simp
   ·rw [if_neg (fun e => hb (hand.1 e)), if_pos (by
     cases h1 : (A ||| B).testBit i
     ·cases h2 : (A ||| B).testBit j
      ·exact absurd ⟨h1, h2⟩ hb
      ·exact .inr rfl
     ·exact .inl rfl)]
 -- a chamber of one's own
 have u20 := Int.tmod_nonneg 20 u2.1
 have u21 := Int.tmod_lt_of_pos a2 (show (0 : Int) < 20 by omega)
 have single : mixA c n = true → ∀ Q : Int, Q = 1 + Int.tmod a2 20 →
   iter (fun a => run (fun _ => none) (g9_3 a)) ((n : Int), (0 : Int), c, 1, [(Q, (List.range n).map (fun i => Int.tmod ([w0, w1, w2, w3, w4].getD i 0) 9))], ()) = some (.inr (true, ())) := fun hmx Q hQ => by
  have hy : OkX n (Q, (List.range n).map (fun i => Int.tmod ([w0, w1, w2, w3, w4].getD i 0) 9)) := by
   refine ⟨by simp, by dsimp only; omega, by dsimp only; omega, fun z hz => ?_⟩
   obtain ⟨k, _, rfl⟩ := List.mem_map.1 hz
   have hu := getD_u8 uw k
   have h1 := Int.tmod_nonneg 9 hu.1
   have h2 := Int.tmod_lt_of_pos ([w0, w1, w2, w3, w4].getD k 0) (show (0 : Int) < 9 by omega)
   omega
  have hoc : OkC n [(Q, (List.range n).map (fun i => Int.tmod ([w0, w1, w2, w3, w4].getD i 0) 9))] := ⟨by simp, by simp, hn1, hn, by simp [gro], fun y hy' => by rw [List.mem_singleton.1 hy']; exact hy⟩
  rw [k9_3 hc hoc rfl, if_neg]
  intro hall
  obtain ⟨a, b, hba, han, hmb⟩ := mixA_iff.1 hmx
  rw [mixed_no hn hall han (by omega)] at hmb
  cases hmb
 have hQr : rng .i64 (1 + Int.tmod a2 20) = true := rng_i64 (by omega) (by omega)
 have nz20 : (!((20 : Int) == (0 : Int))) = true := rfl
 have wk : ∀ {Z : Type} (K : Bool × Unit → Option Z), bindO (run (fun _ => none) F16) K = K (true, ()) := fun K => by rw [bind_of works_ok]
 simp only [F9, run_bd]
 rw [bind_of hm]
 dsimp only
 rw [bind_of (k36 h0), hc.gro]
 dsimp only
 simp only [run_it]
 rw [bind_of (k9_0 hc ho.chk0 _ _ _)]
 simp only [run_sr, run_bd]
 have hT := k25 hc ho.chk0
 rcases trd_ok hc with ⟨e, hno⟩ | ⟨i', k', a, b, hki, hin, hmx, e, hv⟩
 ·have hmx : mixA c n = false := by
   cases hx : mixA c n
   ·rfl
   ·obtain ⟨a, b, h1, h2, h3⟩ := mixA_iff.1 hx
    rw [hno a b h1 h2] at h3; cases h3
  rw [e] at hT
  rw [bind_of hT, hmx]
  simp only [run_br, run_bd, run_nd, run_ni, run_nb, run_jx, run_ret, run_it, brO_false, brO_true, Bool.not_false, Bool.not_true, g0, g1, g2, g3, q0, q1, q2, q3, rr ux0, rr ux1, rr ux2, rr ux3, rr u2, need_true, nzn, hnb, shl_n hn, r2, nz2, ei, ej, eA, eB, hib, hjb, si, sj, hri, hrj, oAB, oij, oAi, oAj, oBi, oBj]
  rw [br_f (show (!(false == ((5 : Int) == 0))) = false from rfl), br_f (show (!((5 : Int) == 5)) = false from rfl), bind_of kA, bind_of kB, bind_of kV]
  dsimp only
  rw [want 0 (fun z => (Sum.inl (a2, (n : Int), false, (if i = j then 6 else verS c i j A B), z, [w0, w1, w2, w3, w4], c, ()) : (Int × Int × Bool × Int × Int × List Int × List Ch × Unit) ⊕ (Bool × Unit)))]
  simp only [bindO_s, onS]
  rw [br_f (by simp), wk, br_t (show (!false) = true from rfl)]
 ·have hmA : mixA c n = true := mixA_iff.2 ⟨i', k', hki, hin, hmx⟩
  rw [e] at hT
  have hva : run (fun _ => none) (F27 c ((i' : Int), (k' : Int), ints (els a), ints (els b))) = some (0, ()) := by
   have := k27 hc ho.chk0 (i' : Int) (k' : Int) (l := ints (els a)) (m := ints (els b)) (by simp [ints]; have := els_len (s := a); omega) (by simp [ints]; have := els_len (s := b); omega)
   rw [hv] at this
   exact this
  rw [bind_of hT, hmA]
  simp only [run_br, run_bd, run_nd, run_ni, run_nb, run_jx, run_ret, run_it, brO_false, brO_true, Bool.not_false, Bool.not_true, g0, g1, g2, g3, q0, q1, q2, q3, rr ux0, rr ux1, rr ux2, rr ux3, rr u2, need_true, nzn, hnb, shl_n hn, r2, nz2, ei, ej, eA, eB, hib, hjb, si, sj, hri, hrj, oAB, oij, oAi, oAj, oBi, oBj, nz20, hQr]
  rw [br_f (show (!(true == ((0 : Int) == 0))) = false from rfl), bind_of hva]
  dsimp only
  rw [br_f (show (!((0 : Int) == 0)) = false from rfl), bind_of kA, bind_of kB, bind_of kV]
  dsimp only
  rw [want 0 (fun z => (Sum.inl (a2, (n : Int), true, (if i = j then 6 else verS c i j A B), z, [w0, w1, w2, w3, w4], c, ()) : (Int × Int × Bool × Int × Int × List Int × List Ch × Unit) ⊕ (Bool × Unit)))]
  simp only [bindO_s, onS]
  rw [br_f (by simp)]
  simp only [run_br, run_bd, run_ni, run_nd, run_it, run_ret, brO_false, brO_true, Bool.not_true, rr u2, nz20, hQr, need_true]
  rw [bind_of (k9_2 uw hn5)]
  dsimp only
  have et : (List.drop 0 ((List.range n).map (fun i => Int.tmod ([w0, w1, w2, w3, w4].getD i 0) 9))).take n = (List.range n).map (fun i => Int.tmod ([w0, w1, w2, w3, w4].getD i 0) 9) := by
   rw [List.drop_zero, List.take_of_length_le (by simp)]
  have es : ∀ l : List Int, ([(1 + Int.tmod a2 20, ([] : List Int))] : List Ch).set 0 ((([(1 + Int.tmod a2 20, ([] : List Int))] : List Ch).getD 0 ((0 : Int), [])).1, l) = [(1 + Int.tmod a2 20, l)] := fun l => rfl
  rw [et, es, bind_of (single hmA _ rfl)]
  rfl
end Go.Proofs.Tryd
end
