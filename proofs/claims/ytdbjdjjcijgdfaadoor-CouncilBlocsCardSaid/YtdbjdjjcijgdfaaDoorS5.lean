/- Tools for laws: rounds that count, find or keep something; needs. Rounds over a list, with a function that says what comes out. Plain Lean. Sets as numbers below 64: their growers, one after the other. Plain Lean. A council is valid: program and reference say the same. A set's weight, and whether it wins: the program's. The reference's sums and wins; councils out of parts; what is known of a council. Sets without some; swings and turns of the program. Swings and turns: the program's and the reference's. Swings and turns of the reference; the law of powers. Swings and turns are as stated. Which of two growers is stronger: the program and the reference. Lists of growers as sets; wins; exchanges: the program and the reference. Councils with blocs: the program and the reference. Councils with blocs are as stated. -/
import Derived.Test.YtdbjdjjcijgdfaaDoorG5
set_option linter.unusedSectionVars false
set_option linter.unusedVariables false
set_option linter.unusedSimpArgs false
section
namespace Go.AM
theorem need_u64 {X : Type} {z : Int} {x : Option X} (h1 : 0 ≤ z) (h2 : z ≤ 18446744073709551615) : need (rng .u64 z) x = x := need_t (rng_u64 h1 h2)
theorem bigL_eq : bigL = 1073741824 := by decide
theorem need_big {X : Type} {n : Nat} {x : Option X} (h : n < 1000000000) : need (decide (n < bigL)) x = x := need_d (by rw [bigL_eq]; omega)
theorem need_inbL {X : Type} {i : Int} {x : Option X} (h : 0 ≤ i) (h2 : i < 1000000000) : need (inb i ((bigL : Nat) : Int)) x = x := need_inb h (by rw [bigL_eq]; omega)
/-- Rounds that count, or end early with what was found. -/
theorem iter_find {α β γ : Type} {step : α → Option (α ⊕ β)} (n : Nat) (g : Nat → α) (stop : Nat → Option γ) (inj : γ → β) {b : β}
  (hr : ∀ k, k < n → (∀ j, j < k → stop j = none) → step (g k) = match stop k with | none => some (.inl (g (k + 1))) | some c => some (.inr (inj c))) (he : (∀ j, j < n → stop j = none) → step (g n) = some (.inr b)) :
  iter step (g 0) = some (((List.range n).findSome? stop).elim b inj) := by
 have key : ∀ m k, k + m = n → (∀ j, j < k → stop j = none) → iter step (g k) = some (((List.range' k m).findSome? stop).elim b inj) := by
  intro m
  induction m with
  | zero =>
   intro k hk hs
   have : k = n := by omega
   subst this
   simpa using iter_inr (he hs)
  | succ m ih =>
   intro k hk hs0
   have h := hr k (by omega) hs0
   rw [List.range'_succ, List.findSome?_cons]
   cases hs : stop k with
   | none =>
    rw [hs] at h
    refine iter_inl h (ih (k + 1) (by omega) fun j hj => ?_)
    by_cases e : j = k
    ·rw [e, hs]
    ·exact hs0 j (by omega)
   | some c => rw [hs] at h; exact iter_inr h
 rw [List.range_eq_range']
 exact key n 0 (by omega) (fun j hj => by omega)
/-- Rounds that count and keep something. -/
theorem iter_ex {α β : Type} {step : α → Option (α ⊕ β)} (n : Nat) (I : Nat → α → Prop) (Q : β → Prop) (hr : ∀ k x, k < n → I k x → ∃ y, step x = some (.inl y) ∧ I (k + 1) y) (he : ∀ x, I n x → ∃ b, step x = some (.inr b) ∧ Q b)
  {x : α} (h0 : I 0 x) : ∃ b, iter step x = some b ∧ Q b := by
 have key : ∀ m k x, k + m = n → I k x → ∃ b, iter step x = some b ∧ Q b := by
  intro m
  induction m with
  | zero =>
   intro k x hk hx
   have : k = n := by omega
   subst this
   obtain ⟨b, h1, h2⟩ := he x hx
   exact ⟨b, iter_inr h1, h2⟩
  | succ m ih =>
   intro k x hk hx
   obtain ⟨y, h1, h2⟩ := hr k x (by omega) hx
   obtain ⟨b, h3, h4⟩ := ih (k + 1) y (by omega) h2
   exact ⟨b, iter_inl h1 h3, h4⟩
 exact key n 0 x (by omega) h0
/-- Rounds over the items of a list: the state is what the items so far came to. -/
theorem iter_fold {α β γ σ : Type} {step : α → Option (α ⊕ β)} (l : List γ) (d : γ) (f : σ → γ → σ) (g : Nat → σ → α) (s0 : σ) (I : σ → Prop) {out : σ → β} (h0 : I s0)
  (hr : ∀ k s, k < l.length → I s → I (f s (l.getD k d)) ∧ step (g k s) = some (.inl (g (k + 1) (f s (l.getD k d))))) (he : ∀ s, I s → step (g l.length s) = some (.inr (out s))) :
  iter step (g 0 s0) = some (out (l.foldl f s0)) ∧ I (l.foldl f s0) := by
 have key : ∀ m k s, k + m = l.length → I s → iter step (g k s) = some (out ((l.drop k).foldl f s)) ∧ I ((l.drop k).foldl f s) := by
  intro m
  induction m with
  | zero =>
   intro k s hk hs
   rw [show k = l.length by omega, List.drop_length]
   exact ⟨iter_inr (he s hs), hs⟩
  | succ m ih =>
   intro k s hk hs
   obtain ⟨h1, h2⟩ := hr k s (by omega) hs
   obtain ⟨h3, h4⟩ := ih (k + 1) _ (by omega) h1
   have e : l.drop k = l.getD k d :: l.drop (k + 1) := by
    rw [List.drop_eq_getElem_cons (by omega)]; simp [List.getD_eq_getElem?_getD, List.getElem?_eq_getElem (show k < l.length by omega)]
   rw [e, List.foldl_cons]
   exact ⟨iter_inl h2 h3, h4⟩
 have := key l.length 0 s0 (by omega) h0
 simpa using this
theorem getD_take {α : Type} {l : List α} {k n : Nat} {d : α} (h : k < n) : (l.take n).getD k d = l.getD k d := by
 simp [List.getD_eq_getElem?_getD, List.getElem?_take, h]
theorem getD_mem {α : Type} {l : List α} {k : Nat} {d : α} (h : k < l.length) : l.getD k d ∈ l := by
 simp [List.getD_eq_getElem?_getD, List.getElem?_eq_getElem h]
theorem take_succ_getD {α : Type} {l : List α} {k : Nat} (d : α) (h : k < l.length) : l.take (k + 1) = l.take k ++ [l.getD k d] := by
 rw [List.take_succ_eq_append_getElem h]; simp [List.getD_eq_getElem?_getD, List.getElem?_eq_getElem h]
theorem getD_el {α : Type} {l : List α} {k : Nat} (d : α) (h : k < l.length) : l.getD k d = l[k] := by
 simp [List.getD_eq_getElem?_getD, List.getElem?_eq_getElem h]
theorem getD_out {α : Type} {l : List α} {k : Nat} (d : α) (h : l.length ≤ k) : l.getD k d = d := by
 simp [List.getD_eq_getElem?_getD, List.getElem?_eq_none h]
end Go.AM
end
section
namespace Go.AM
theorem getD_mid {α : Type} {A B : List α} {x d : α} {n : Nat} (h : n = A.length) : (A ++ x :: B).getD n d = x := by
 subst h; simp [List.getD_eq_getElem?_getD]
/-- Rounds over the items of a list: 'G' says what comes out of a state and the items that are left. -/
theorem iter_list {A B S X : Type} {f : A → Option (A ⊕ B)} (xs : List X) (mk : Nat → S → A) (G : S → List X → B) (Inv : List X → S → Prop)
  (hs : ∀ pre x post s, xs = pre ++ x :: post → Inv pre s →
   (∃ s', f (mk pre.length s) = some (.inl (mk (pre.length + 1) s')) ∧ Inv (pre ++ [x]) s' ∧ G s (x :: post) = G s' post) ∨ f (mk pre.length s) = some (.inr (G s (x :: post))))
  (he : ∀ s, Inv xs s → f (mk xs.length s) = some (.inr (G s []))) {s : S} (h0 : Inv [] s) : iter f (mk 0 s) = some (G s xs) := by
 have key : ∀ (post pre : List X) (s : S), xs = pre ++ post → Inv pre s → iter f (mk pre.length s) = some (G s post) := by
  intro post
  induction post with
  | nil =>
   intro pre s hx hi
   have : pre = xs := by rw [hx]; simp
   subst this
   exact iter_inr (he s hi)
  | cons x post ih =>
   intro pre s hx hi
   rcases hs pre x post s hx hi with ⟨s', h1, h2, h3⟩ | h1
   ·refine iter_inl h1 ?_
    rw [h3]
    have := ih (pre ++ [x]) s' (by rw [hx]; simp) h2
    simpa using this
   ·exact iter_inr h1
 exact key xs [] s (by simp) h0
theorem bind_eq {A X : Type} {o : Option A} {a : A} {f : A → Option X} {y : Option X} (h : o = some a) (e : f a = y) : bindO o f = y := by rw [h, bindO_s, e]
theorem bigL_val : ((bigL : Nat) : Int) = 1073741824 := by decide
theorem need_lenbig {X : Type} {n : Nat} {x : Option X} (h : n < 1000000000) : need (decide (n < bigL)) x = x := need_d (by have := bigL_val; omega)
theorem br_true {X : Type} {x y : Option X} : brO true x y = x := by simp
theorem br_false {X : Type} {x y : Option X} : brO false x y = y := by simp
end Go.AM
end
section
namespace Go.Cn
open Go.AM
/-- The growers of a set. -/
def els (s : Nat) : List Nat := (List.range 6).filter s.testBit
/-- The first of them. -/
def tzN (s : Nat) : Nat := ((List.range 6).find? s.testBit).getD 64
def low (s : Nat) : Nat := s &&& (s - 1)
/-- What is so of all small numbers is seen by trying them. -/
theorem all_lt {n : Nat} {p : Nat → Bool} (h : (List.range n).all p = true) {s : Nat} (hs : s < n) : p s = true := List.all_eq_true.1 h s (List.mem_range.2 hs)
theorem all_lt2 {n m : Nat} {p : Nat → Nat → Bool} (h : (List.range n).all (fun s => (List.range m).all (p s)) = true) {s i : Nat} (hs : s < n) (hi : i < m) : p s i = true := all_lt (all_lt h hs) hi
theorem els_zero : els 0 = [] := by decide
theorem els_cons {s : Nat} (hs : s < 64) (h : s ≠ 0) : els s = tzN s :: els (low s) := by
  have := all_lt (n := 64) (p := fun s => s == 0 || decide (els s = tzN s :: els (low s))) (by decide +kernel) hs
  simpa [h] using this
theorem low_lt {s : Nat} (hs : s < 64) (h : s ≠ 0) : low s < s := by
  have := all_lt (n := 64) (p := fun s => s == 0 || decide (low s < s)) (by decide +kernel) hs
  simpa [h] using this
/-- Below 2^n there are only the first n. -/
theorem els_upto {s n : Nat} (hn : n ≤ 6) (hs : s < 2 ^ n) : els s = (List.range n).filter s.testBit := by
  have := all_lt2 (n := 7) (m := 64) (p := fun n s => !(decide (s < 2 ^ n)) || decide (els s = (List.range n).filter s.testBit)) (by decide +kernel) (s := n) (i := s) (by omega) (by
    have : 2 ^ n ≤ 2 ^ 6 := Nat.pow_le_pow_right (by omega) hn
    omega)
  simpa [hs] using this
theorem tz_lt {s n : Nat} (hn : n ≤ 6) (hs : s < 2 ^ n) (h : s ≠ 0) : tzN s < n := by
  have h64 : s < 64 := by
    have : 2 ^ n ≤ 2 ^ 6 := Nat.pow_le_pow_right (by omega) hn
    omega
  have e := els_upto hn hs
  rw [els_cons h64 h] at e
  have : tzN s ∈ (List.range n).filter s.testBit := by rw [← e]; exact List.mem_cons_self ..
  exact List.mem_range.1 (List.mem_filter.1 this).1
theorem pow6 {n : Nat} (hn : n ≤ 6) : 2 ^ n ≤ 64 := Nat.pow_le_pow_right (by omega) hn
/-- Rounds over the growers of a set. -/
theorem iter_els {A B S : Type} {f : A → Option (A ⊕ B)} (mk : Nat → S → A) (G : S → List Nat → B) (Inv : Nat → S → Prop)
    (hs : ∀ s st, s < 64 → s ≠ 0 → Inv s st → (∃ st', f (mk s st) = some (.inl (mk (low s) st')) ∧ Inv (low s) st' ∧ G st (tzN s :: els (low s)) = G st' (els (low s))) ∨ f (mk s st) = some (.inr (G st (tzN s :: els (low s)))))
    (he : ∀ st, Inv 0 st → f (mk 0 st) = some (.inr (G st []))) : ∀ {s : Nat} {st : S}, s < 64 → Inv s st → iter f (mk s st) = some (G st (els s)) := by
  intro s
  induction s using Nat.strongRecOn with
  | ind s ih =>
    intro st h64 hi
    by_cases h0 : s = 0
    · subst h0; rw [els_zero]; exact iter_inr (he st hi)
    · rw [els_cons h64 h0]
      rcases hs s st h64 h0 hi with ⟨st', h1, h2, h3⟩ | h1
      · rw [h3]
        exact iter_inl h1 (ih _ (low_lt h64 h0) (by have := low_lt h64 h0; omega) h2)
      · exact iter_inr h1
/-- Rounds that count up, and carry something. -/
theorem iter_upto {A B S : Type} {f : A → Option (A ⊕ B)} (N : Nat) (mk : Nat → S → A) (G : S → Nat → B) (Inv : Nat → S → Prop)
    (hs : ∀ k st, k < N → Inv k st → (∃ st', f (mk k st) = some (.inl (mk (k + 1) st')) ∧ Inv (k + 1) st' ∧ G st k = G st' (k + 1)) ∨ f (mk k st) = some (.inr (G st k)))
    (he : ∀ st, Inv N st → f (mk N st) = some (.inr (G st N))) {s : S} (h0 : Inv 0 s) : iter f (mk 0 s) = some (G s 0) := by
  have key : ∀ m k s, k + m = N → Inv k s → iter f (mk k s) = some (G s k) := by
    intro m
    induction m with
    | zero => intro k s hk hi; have e : k = N := by omega
              subst e; exact iter_inr (he s hi)
    | succ m ih =>
      intro k s hk hi
      rcases hs k s (by omega) hi with ⟨s', h1, h2, h3⟩ | h1
      · rw [h3]; exact iter_inl h1 (ih (k + 1) s' (by omega) h2)
      · exact iter_inr h1
  exact key N 0 s (by omega) h0
/-! Operations on 64 els, on small numbers. -/
theorem u_with {s i : Nat} (hs : s < 64) (hi : i < 6) : ar0.bits IBin.or .u64 (s : Int) (ar0.shl (1 : Int) (i : Int)) = ((s ||| 2 ^ i : Nat) : Int) := by
  have := all_lt2 (n := 64) (m := 6) (p := fun s i => ar0.bits IBin.or .u64 (s : Int) (ar0.shl (1 : Int) (i : Int)) == ((s ||| 2 ^ i : Nat) : Int)) (by kernel_rfl) hs hi
  simpa using this
theorem u_low {s : Nat} (hs : s < 64) (h : s ≠ 0) : ar0.bits IBin.and .u64 (s : Int) ((s : Int) - 1) = ((low s : Nat) : Int) := by
  have := all_lt (n := 64) (p := fun s => s == 0 || ar0.bits IBin.and .u64 (s : Int) ((s : Int) - 1) == ((low s : Nat) : Int)) (by kernel_rfl) hs
  simpa [h] using this
theorem i_has {s i : Nat} (hs : s < 64) (hi : i < 6) : (ar0.bits IBin.and .i64 (ar0.shr (s : Int) (i : Int)) (1 : Int) == (1 : Int)) = s.testBit i := by
  have := all_lt2 (n := 64) (m := 6) (p := fun s i => (ar0.bits IBin.and .i64 (ar0.shr (s : Int) (i : Int)) (1 : Int) == (1 : Int)) == s.testBit i) (by kernel_rfl) hs hi
  simpa using this
theorem i_with {s i : Nat} (hs : s < 64) (hi : i < 6) : ar0.bits IBin.or .i64 (s : Int) (ar0.shl (1 : Int) (i : Int)) = ((s ||| 2 ^ i : Nat) : Int) := by
  have := all_lt2 (n := 64) (m := 6) (p := fun s i => ar0.bits IBin.or .i64 (s : Int) (ar0.shl (1 : Int) (i : Int)) == ((s ||| 2 ^ i : Nat) : Int)) (by kernel_rfl) hs hi
  simpa using this
theorem shl_one {i : Nat} (hi : i < 12) : ar0.shl (1 : Int) (i : Int) = ((2 ^ i : Nat) : Int) := by
  have := all_lt (n := 12) (p := fun i => ar0.shl (1 : Int) (i : Int) == ((2 ^ i : Nat) : Int)) (by kernel_rfl) hi
  simpa using this
theorem or_lt {s i n : Nat} (hn : n ≤ 6) (hs : s < 2 ^ n) (hi : i < n) : s ||| 2 ^ i < 2 ^ n := Nat.or_lt_two_pow hs (Nat.pow_lt_pow_right (by omega) hi)
end Go.Cn
end
section
namespace Go.Proofs.Tryd
open Go.AM Go.Cn
set_option maxRecDepth 100000
abbrev Ch := Int × List Int
def gro (c : List Ch) : Nat := (c.getD 0 ((0 : Int), [])).2.length
def badW (z : Int) : Bool := !decide (0 ≤ z ∧ z ≤ 1000000)
def okCh (n : Nat) (x : Ch) : Int := if x.2.length ≠ n then 3 else if ¬ (1 ≤ x.1 ∧ x.1 ≤ 10000000) then 2 else if x.2.any badW = true then 2 else 0
def chkL (n : Nat) : List Ch → Int
 | [] => 0
 | x :: r => if okCh n x ≠ 0 then okCh n x else chkL n r
def chk (c : List Ch) : Int := if c.length = 0 then 4 else if 3 < c.length then 1 else if gro c = 0 then 4 else if 9 < gro c then 1 else chkL (gro c) c
def largeOne (x : Ch) : Bool := (decide (6 < x.2.length) && decide (x.2.length ≤ 9)) || decide (40 < x.2.length)
def largeC (c : List Ch) : Bool := decide (20 < c.length) || c.any largeOne
theorem k67 (a b c : Int) : run0 (F67 a b c) = some (decide (a ≤ b ∧ b ≤ c), ()) := by
 simp only [F67, run_br, run_ret, br_d]
 by_cases h : a ≤ b
 ·rw [if_pos h]; simp [h]
 ·rw [if_neg h]; simp [h]
theorem k69 (a b c : Int) : run0 (F69 a b c) = some (decide (b ≤ a ∧ a ≤ c), ()) := by
 simp only [F69, run_br, run_ret, br_d]
 by_cases h : b ≤ a
 ·rw [if_pos h]; simp [h]
 ·rw [if_neg h]; simp [h]
theorem k91 {c : List Ch} (h : 0 < c.length) : run0 (F91 c) = some (((gro c : Nat) : Int), ()) := by
 simp only [F91, run_nb, run_ret]
 rw [need_inb (by omega) (by omega)]; rfl
theorem k60 {c : List Ch} (h : 0 < c.length) : run0 (F60 c) = some (((gro c : Nat) : Int), ()) := by
 simp only [F60, run_nb, run_ret]
 rw [need_inb (by omega) (by omega)]; rfl
theorem k92 (z : Int) : run0 (F92 z) = some (badW z, ()) := by
 simp only [F92, run_bd, k67, bindO_s, run_ret, badW]
theorem k15 {c : List Ch} (hc : c.length < 9223372036854775808) : run0 (F15 c) = some (largeC c, ()) := by
 simp only [F15, run_bd, run_it]
 refine bind_eq (iter_list c (fun k (s : Bool) => (s, (k : Int), c, ())) (fun s r => (s || r.any largeOne, ())) (fun _ _ => True) ?_ ?_ (s := decide ((20 : Int) < ((c.length : Nat) : Int))) trivial) ?_
 ·rintro pre x post s hx -
  left
  have hlen : c.length = pre.length + (post.length + 1) := by rw [hx]; simp
  have hd : c.getD pre.length ((0 : Int), []) = x := by rw [hx]; exact getD_mid rfl
  refine ⟨s || largeOne x, ?_, trivial, by simp [Bool.or_assoc]⟩
  have hin : inb (pre.length : Int) ((c.length : Nat) : Int) = true := inb_t (by omega) (by omega)
  have hni : rng .i64 ((pre.length : Int) + 1) = true := rng_i64 (by omega) (by omega)
  simp only [g15_0, run_br, run_nb, run_ni, run_ret, Int.toNat_natCast, hd, br_d, hin, hni, need_true]
  rw [if_pos (by omega)]
  cases s
  ·simp only [brO_false, largeOne, Bool.false_or]
   by_cases h1 : 6 < x.2.length
   ·rw [if_pos (by omega)]
    by_cases h2 : x.2.length ≤ 9
    ·rw [if_pos (by omega)]; simp [h1, h2]
    ·rw [if_neg (by omega)]; simp [h1, h2]
     omega
   ·rw [if_neg (by omega)]; simp [h1]
    omega
  ·simp
 ·intro s _
  simp only [g15_0, run_br, run_ret, br_d]
  rw [if_neg (by omega)]; simp
 ·simp only [run_ret, largeC]
  congr 3
  have e : decide ((20 : Int) < ((c.length : Nat) : Int)) = decide (20 < c.length) := by
   apply decide_eq_decide.2; omega
  rw [e]
theorem k105 {l : List Int} (hl : l.length < 1000) : ∃ k : Int, run0 (F105 l) = some (k, ()) ∧ (0 ≤ k ↔ l.any badW = true) := by
 simp only [F105, run_bd, run_it]
 have := iter_list l (f := fun a => run (fun _ => none) (g105_0 a)) (fun k (s : Nat) => (l, ((l.length : Nat) : Int), (k : Int), ())) (fun s r => match r.findIdx? badW with | some k => .inl (((s + k : Nat) : Int), ()) | none => .inr ()) (fun pre s => s = pre.length) ?_ ?_ (s := 0) rfl
 ·replace this : iter (fun a => run (fun _ => none) (g105_0 a)) (l, ((l.length : Nat) : Int), (0 : Int), ()) = _ := this
  rw [bind_of this]
  cases hf : l.findIdx? badW with
  | none =>
   simp only [run_sr, run_ret]
   exact ⟨-1, rfl, by simp only [show ¬ ((0 : Int) ≤ -1) by omega, false_iff]; simpa using List.findIdx?_eq_none_iff.1 hf⟩
  | some k =>
   simp only [run_sl, run_ret]
   refine ⟨_, rfl, by
    simp only [show (0 : Int) ≤ ((0 + k : Nat) : Int) by omega, true_iff]
    obtain ⟨hk, h1, _⟩ := List.findIdx?_eq_some_iff_getElem.1 hf
    exact List.any_eq_true.2 ⟨_, List.getElem_mem hk, h1⟩⟩
 ·rintro pre x post s hx rfl
  have hlen : l.length = pre.length + (post.length + 1) := by rw [hx]; simp
  have hd : l.getD pre.length (0 : Int) = x := by rw [hx]; exact getD_mid rfl
  have hin : inb (pre.length : Int) ((l.length : Nat) : Int) = true := inb_t (by omega) (by omega)
  have hni : rng .i64 ((pre.length : Int) + 1) = true := rng_i64 (by omega) (by omega)
  simp only [g105_0, run_br, run_bd, run_nb, run_ni, run_ret, Int.toNat_natCast, hd, br_d, hin, hni, need_true, k92, bindO_s]
  rw [if_pos (by omega)]
  cases hb : badW x
  ·left
   refine ⟨pre.length + 1, by simp, by simp, ?_⟩
   rw [List.findIdx?_cons, hb]
   cases post.findIdx? badW with
   | none => rfl
   | some k => simp; omega
  ·right
   rw [List.findIdx?_cons, hb]; simp
 ·rintro s rfl
  simp only [g105_0, run_br, run_ret, br_d]
  rw [if_neg (by omega)]; rfl
theorem k93 {l : List Int} (hl : l.length < 1000) : run0 (F93 l) = some (l.any badW, ()) := by
 obtain ⟨k, h1, h2⟩ := k105 hl
 simp only [F93, run_bd, run_ret]
 rw [bind_of h1]
 congr 2
 cases h : l.any badW
 ·rw [h] at h2; simp only [decide_eq_false_iff_not]; intro e; exact absurd (h2.1 e) (by simp)
 ·rw [h] at h2; simp only [decide_eq_true_eq]; exact h2.2 rfl
theorem k41 (c : List Ch) : run0 (F41 c) = some (chk c, ()) := by
 simp only [F41, run_br, run_ret, br_eq, br_d, chk]
 by_cases h0 : c.length = 0
 ·rw [if_pos (by omega), if_pos h0]
 rw [if_neg (by omega), if_neg h0]
 by_cases h1 : 3 < c.length
 ·rw [if_pos (by omega), if_pos h1]
 rw [if_neg (by omega), if_neg h1]
 simp only [run_bd, k91 (show 0 < c.length by omega), bindO_s, run_br, br_eq, br_d, run_ret]
 by_cases h2 : gro c = 0
 ·rw [if_pos (by omega), if_pos h2]
 rw [if_neg (by omega), if_neg h2]
 by_cases h3 : 9 < gro c
 ·rw [if_pos (by omega), if_pos h3]
 rw [if_neg (by omega), if_neg h3]
 simp only [run_it]
 refine bind_eq (iter_list c (fun k (s : Unit) => (c, ((c.length : Nat) : Int), (k : Int), c, ())) (fun _ r => if chkL (gro c) r = 0 then Sum.inr () else Sum.inl (chkL (gro c) r, ())) (fun _ _ => True) ?_ ?_ (s := ()) trivial) ?_
 ·rintro pre x post s hx -
  have hlen : c.length = pre.length + (post.length + 1) := by rw [hx]; simp
  have hd : c.getD pre.length ((0 : Int), []) = x := by rw [hx]; exact getD_mid rfl
  have hin : inb (pre.length : Int) ((c.length : Nat) : Int) = true := inb_t (by omega) (by omega)
  have hni : rng .i64 ((pre.length : Int) + 1) = true := rng_i64 (by omega) (by omega)
  simp only [g41_0, run_br, run_bd, run_nb, run_ni, run_ret, Int.toNat_natCast, hd, br_d, br_eq, br_not, hin, hni, need_true, k91 (show 0 < c.length by omega), k67, bindO_s]
  rw [if_pos (by omega)]
  by_cases h4 : x.2.length = gro c
  case neg =>
   right
   rw [if_neg (by omega)]
   simp [chkL, okCh, h4]
  rw [if_pos (by omega)]
  by_cases h5 : 1 ≤ x.1 ∧ x.1 ≤ 10000000
  case neg =>
   right
   rw [if_neg h5]
   simp only [chkL, okCh, if_neg (not_not_intro h4), if_pos h5]; simp
  rw [if_pos h5, bind_of (k93 (show x.2.length < 1000 by omega))]
  cases h6 : x.2.any badW
  ·left
   refine ⟨(), by simp, trivial, ?_⟩
   simp [chkL, okCh, h4, h5, h6]
  ·right
   simp [chkL, okCh, h4, h5, h6]
 ·intro s _
  simp only [g41_0, run_br, run_ret, br_d]
  rw [if_neg (by omega)]; simp [chkL]
 ·cases h : decide (chkL (gro c) c = 0)
  ·have h' := of_decide_eq_false h
   simp only [if_neg h', run_sl, run_ret]
  ·have h' := of_decide_eq_true h
   simp only [if_pos h', run_sr, run_ret]; rw [h']
theorem k50_1 {l : List Int} (hl : l.length < 1000) (c : List Ch) (q v : Int) : iter (fun a => run (fun _ => none) (g50_1 a)) (v, (0 : Int), c, q, l, ()) = some (if l.any badW = true then .inl (2, ()) else .inr (v, c, ())) := by
 refine iter_list l (fun k (s : Unit) => (v, (k : Int), c, q, l, ())) (fun _ r => if r.any badW = true then Sum.inl (2, ()) else Sum.inr (v, c, ())) (fun _ _ => True) ?_ ?_ (s := ()) trivial
 ·rintro pre x post s hx -
  have hlen : l.length = pre.length + (post.length + 1) := by rw [hx]; simp
  have hd : l.getD pre.length (0 : Int) = x := by rw [hx]; exact getD_mid rfl
  have hin : inb (pre.length : Int) ((l.length : Nat) : Int) = true := inb_t (by omega) (by omega)
  have hni : rng .i64 ((pre.length : Int) + 1) = true := rng_i64 (by omega) (by omega)
  simp only [g50_1, run_br, run_bd, run_nb, run_ni, run_ret, Int.toNat_natCast, hd, br_d, br_not, hin, hni, need_true, k69, bindO_s]
  rw [if_pos (by omega)]
  by_cases h : 0 ≤ x ∧ x ≤ 1000000
  ·left
   refine ⟨(), by rw [if_pos h]; rfl, trivial, by simp [badW, h]⟩
  ·right
   rw [if_neg h]
   have : badW x = true := by unfold badW; rw [decide_eq_false h]; rfl
   simp [this]
 ·intro s _
  simp only [g50_1, run_br, run_ret, br_d]
  rw [if_neg (by omega)]; simp
theorem k50 (c : List Ch) : run0 (F50 c) = some (chk c, ()) := by
 simp only [F50, run_br, run_ret, br_eq, br_d, chk]
 by_cases h0 : c.length = 0
 ·rw [if_pos (by omega), if_pos h0]
 rw [if_neg (by omega), if_neg h0]
 by_cases h1 : 3 < c.length
 ·rw [if_pos (by omega), if_pos h1]
 rw [if_neg (by omega), if_neg h1]
 simp only [run_bd, k60 (show 0 < c.length by omega), bindO_s, run_br, br_eq, br_d, run_ret]
 by_cases h2 : gro c = 0
 ·rw [if_pos (by omega), if_pos h2]
 rw [if_neg (by omega), if_neg h2]
 by_cases h3 : 9 < gro c
 ·rw [if_pos (by omega), if_pos h3]
 rw [if_neg (by omega), if_neg h3]
 simp only [run_it]
 refine bind_eq (iter_list c (fun k (s : Unit) => ((k : Int), c, ())) (fun _ r => if chkL (gro c) r = 0 then Sum.inr () else Sum.inl (chkL (gro c) r, ())) (fun _ _ => True) ?_ ?_ (s := ()) trivial) ?_
 ·rintro pre x post s hx -
  have hlen : c.length = pre.length + (post.length + 1) := by rw [hx]; simp
  have hd : c.getD pre.length ((0 : Int), []) = x := by rw [hx]; exact getD_mid rfl
  have hin : inb (pre.length : Int) ((c.length : Nat) : Int) = true := inb_t (by omega) (by omega)
  have hni : rng .i64 ((pre.length : Int) + 1) = true := rng_i64 (by omega) (by omega)
  simp only [g50_0, run_br, run_bd, run_it, run_nb, run_ret, Int.toNat_natCast, hd, br_d, br_eq, br_not, hin, need_true, k60 (show 0 < c.length by omega), k69, bindO_s]
  rw [if_pos (by omega)]
  by_cases h4 : x.2.length = gro c
  case neg =>
   right
   rw [if_neg (by omega)]
   simp [chkL, okCh, h4]
  rw [if_pos (by omega)]
  by_cases h5 : 1 ≤ x.1 ∧ x.1 ≤ 10000000
  case neg =>
   right
   rw [if_neg h5]
   simp only [chkL, okCh, if_neg (not_not_intro h4), if_pos h5]; simp
  rw [if_pos h5, bind_of (k50_1 (show x.2.length < 1000 by omega) c x.1 _)]
  cases h6 : x.2.any badW
  ·left
   refine ⟨(), ?_, trivial, ?_⟩
   ·simp only [Bool.false_eq_true, if_false, run_sr, run_ni, run_ret, hni, need_true]; simp
   ·simp [chkL, okCh, h4, h5, h6]
  ·right
   simp [chkL, okCh, h4, h5, h6, run_sl, run_ret]
 ·intro s _
  simp only [g50_0, run_br, run_ret, br_d]
  rw [if_neg (by omega)]; simp [chkL]
 ·cases h : decide (chkL (gro c) c = 0)
  ·have h' := of_decide_eq_false h
   simp only [if_neg h', run_sl, run_ret]
  ·have h' := of_decide_eq_true h
   simp only [if_pos h', run_sr, run_ret]; rw [h']
end Go.Proofs.Tryd
end
section
namespace Go.Proofs.Tryd
open Go.AM Go.Cn
set_option maxRecDepth 100000
/-- The weight of a set. -/
def wt (ws : List Int) (s : Nat) : Int := ((els s).map fun i => ws.getD i 0).sum
/-- A chamber of n growers. -/
structure OkX (n : Nat) (x : Ch) : Prop where
 len : x.2.length = n
 q1 : 1 ≤ x.1
 q2 : x.1 ≤ 10000000
 w : ∀ z ∈ x.2, 0 ≤ z ∧ z ≤ 1000000
/-- A council of n growers, not too large. -/
structure OkC (n : Nat) (c : List Ch) : Prop where
 c1 : 1 ≤ c.length
 c3 : c.length ≤ 3
 n1 : 1 ≤ n
 n6 : n ≤ 6
 gro : gro c = n
 ch : ∀ x ∈ c, OkX n x
theorem OkX.get {n : Nat} {x : Ch} (h : OkX n x) (i : Nat) : 0 ≤ x.2.getD i 0 ∧ x.2.getD i 0 ≤ 1000000 := by
 by_cases hi : i < x.2.length
 ·rw [show x.2.getD i 0 = x.2[i] by simp [List.getD, hi]]; exact h.w _ (List.getElem_mem hi)
 ·rw [show x.2.getD i 0 = 0 by simp [List.getD, hi]]; omega
theorem k101 {s : Nat} (hs : s < 64) (h : s ≠ 0) : run0 (F101 (s : Int)) = some (((tzN s : Nat) : Int), ()) := by
 have := all_lt (n := 64) (p := fun s => s == 0 || decide (cmp 40 (fun _ => none) (F101 ((s : Nat) : Int)) = some (((tzN s : Nat) : Int), ()))) (by kernel_rfl) hs
 simp only [Bool.or_eq_true, beq_iff_eq, h, false_or, decide_eq_true_eq] at this
 exact cmp_done 40 this
theorem els_len {s : Nat} : (els s).length ≤ 6 := by
 have := List.length_filter_le s.testBit (List.range 6)
 simpa [els] using this
theorem k78 {n s : Nat} {x : Ch} (hx : OkX n x) (hn : n ≤ 6) (hs : s < 2 ^ n) : run0 (F78 x (s : Int)) = some (wt x.2 s, ()) := by
 have h64 : s < 64 := Nat.lt_of_lt_of_le hs (pow6 hn)
 simp only [F78, FH77, g78_0, run_bd, run_it, run_ret, bindO_s]
 refine bind_eq (a := (wt x.2 s, ())) (bind_eq (iter_els (fun s' (st : Int) => ((0 : Int), (s' : Int), x.1, x.2, st, ())) (fun st r => (x.1, x.2, st + (r.map fun i => x.2.getD i 0).sum, (0 : Int), (0 : Int), ()))
  (fun s' st => s' < 2 ^ n ∧ 0 ≤ st ∧ st + 1000000 * ((els s').length : Int) ≤ 6000000) ?_ ?_ (s := s) (st := 0) h64 ⟨hs, by omega, by have := els_len (s := s); omega⟩) ?_) rfl
 ·rintro s' st h64 h0 ⟨hs', b1, b2⟩
  left
  have ht := tz_lt hn hs' h0
  have hl := low_lt h64 h0
  have hw := hx.get (tzN s')
  have e := congrArg List.length (els_cons h64 h0)
  rw [List.length_cons] at e
  refine ⟨st + x.2.getD (tzN s') 0, ?_, ⟨by omega, by omega, by omega⟩, ?_⟩
  ·have hin : inb ((tzN s' : Nat) : Int) ((x.2.length : Nat) : Int) = true := inb_t (by omega) (by have := hx.len; omega)
   have hni : rng .i64 (st + x.2.getD (tzN s') 0) = true := rng_i64 (by omega) (by omega)
   have hnu : rng .u64 ((s' : Int) - 1) = true := rng_u64 (by omega) (by omega)
   simp only [g78_0i_0, run_br, run_bd, run_nb, run_ni, run_nd, run_ret, br_not, br_eq, k101 h64 h0, bindO_s, Int.toNat_natCast, hin, hni, hnu, need_true, u_low h64 h0]
   rw [if_neg (by omega)]
  ·simp only [List.map_cons, List.sum_cons, Int.add_assoc]
 ·rintro st -
  simp only [g78_0i_0, run_br, run_ret, br_not, br_eq]
  simp
 ·simp only [wt, Int.zero_add]
end Go.Proofs.Tryd
end
section
namespace Go.Proofs.Tryd
open Go.AM Go.Cn
set_option maxRecDepth 100000
theorem wt_range {n s : Nat} {ws : List Int} (hn : n ≤ 6) (hs : s < 2 ^ n) : wt ws s = (((List.range n).filter s.testBit).map fun i => ws.getD i 0).sum := by
 rw [wt, els_upto hn hs]
theorem k79 {n s : Nat} {x : Ch} (hx : OkX n x) (hn : n ≤ 6) (hs : s < 2 ^ n) : run0 (F79 x (s : Int)) = some (wt x.2 s, ()) := by
 have h64 : s < 64 := Nat.lt_of_lt_of_le hs (pow6 hn)
 simp only [F79, run_bd, run_it, run_ret]
 refine bind_eq (iter_upto n (fun k (st : Int) => ((s : Int), st, (k : Int), x.1, x.2, ())) (fun st k => (st + (((List.range' k (n - k)).filter s.testBit).map fun i => x.2.getD i 0).sum, ()))
  (fun k st => 0 ≤ st ∧ st ≤ 1000000 * (k : Int)) ?_ ?_ (s := 0) ⟨by omega, by omega⟩) ?_
 ·rintro k st hk ⟨b1, b2⟩
  left
  have hw := hx.get k
  have hl := hx.len
  have hin : inb (k : Int) ((x.2.length : Nat) : Int) = true := inb_t (by omega) (by omega)
  have hi6 : inb (k : Int) 64 = true := inb_t (by omega) (by omega)
  have hni : rng .i64 ((k : Int) + 1) = true := rng_i64 (by omega) (by omega)
  have hni2 : rng .i64 (st + x.2.getD k 0) = true := rng_i64 (by omega) (by omega)
  have e : n - k = (n - (k + 1)) + 1 := by omega
  simp only [g79_0, run_br, run_nb, run_ni, run_ret, Int.toNat_natCast, br_d, hin, hi6, hni, hni2, need_true, i_has h64 (show k < 6 by omega)]
  rw [if_pos (by omega), e, List.range'_succ, List.filter_cons]
  cases hb : s.testBit k
  ·exact ⟨st, by simp, ⟨by omega, by omega⟩, by simp⟩
  ·exact ⟨st + x.2.getD k 0, by simp, ⟨by omega, by omega⟩, by simp only [if_true, List.map_cons, List.sum_cons, Int.add_assoc]⟩
 ·rintro st -
  have hl := hx.len
  simp only [g79_0, run_br, run_ret, br_d]
  rw [if_neg (by omega)]; simp
 ·rw [wt_range hn hs, List.range_eq_range']; simp
def dropL (but : Int) : Nat → List Ch → List Ch
 | _, [] => []
 | k, x :: r => if (k : Int) = but then dropL but (k + 1) r else x :: dropL but (k + 1) r
theorem drop_none : ∀ (k : Nat) (c : List Ch), dropL (-1) k c = c
 | _, [] => rfl
 | k, x :: r => by
  simp only [dropL, drop_none (k + 1) r]
  rw [if_neg (by omega)]
theorem k81 (c : List Ch) (hl : c.length < 1000) (but : Int) : run0 (F81 c but) = some (dropL but 0 c, ()) := by
 simp only [F81, run_bd, run_it]
 refine bind_eq (iter_list c (fun k (st : List Ch) => (but, st.length, c, ((c.length : Nat) : Int), (k : Int), st, ())) (fun st r => ((st ++ dropL but (c.length - r.length) r).length, st ++ dropL but (c.length - r.length) r, ())) (fun pre st => st.length ≤ pre.length) ?_ ?_ (s := []) (by simp)) ?_
 ·rintro pre x post st hxx hst
  left
  have hlen : c.length = pre.length + (post.length + 1) := by rw [hxx]; simp
  have hd : c.getD pre.length ((0 : Int), []) = x := by rw [hxx]; exact getD_mid rfl
  have hin : inb (pre.length : Int) ((c.length : Nat) : Int) = true := inb_t (by omega) (by omega)
  have hni : rng .i64 ((pre.length : Int) + 1) = true := rng_i64 (by omega) (by omega)
  have e1 : c.length - (x :: post).length = pre.length := by simp; omega
  have e2 : c.length - post.length = pre.length + 1 := by omega
  simp only [g81_0, run_br, run_bd, run_nb, run_nd, run_ni, run_ret, Int.toNat_natCast, hd, br_d, br_eq, br_not, hin, hni, need_true]
  rw [if_pos (by omega)]
  simp only [e1, e2, dropL]
  by_cases hb : (pre.length : Int) = but
  ·rw [if_pos hb]
   exact ⟨st, rfl, by simp; omega, by simp [hb]⟩
  ·rw [if_neg hb]
   refine ⟨st ++ [x], ?_, by simp; omega, by simp [hb]⟩
   rw [need_lenbig (by simp; omega)]
   simp
 ·rintro st -
  simp only [g81_0, run_br, run_ret, br_d]
  rw [if_neg (by omega)]; simp [dropL]
 ·have e : c.length - c.length = 0 := by omega
  simp only [e, run_ret]; simp
theorem k66_no {c : List Ch} (h : chk c ≠ 0) : run0 (F66 c) = some (.inl ([], 0, 0, chk c, ())) := by
 simp only [F66, run_bd, run_br, run_ret, k41, bindO_s, br_not, br_eq]
 rw [if_neg h]
theorem k66 {n : Nat} {c : List Ch} (hc : OkC n c) (h : chk c = 0) : run0 (F66 c) = some (.inr (c, c, (n : Int), ((2 ^ n - 1 : Nat) : Int), 0, ())) := by
 have h1 := hc.c1
 have h3 := hc.c3
 have hn := hc.n6
 simp only [F66, run_bd, run_br, run_ret, k41, bindO_s, br_not, br_eq]
 rw [if_pos h, bind_of (k81 c (by omega) _), drop_none]
 have hp : 0 < 2 ^ n := Nat.pow_pos (by omega)
 have hp2 := pow6 hn
 have e : (((2 ^ n : Nat) : Int) - 1) = ((2 ^ n - 1 : Nat) : Int) := by omega
 simp only [k91 (show 0 < c.length by omega), hc.gro, bindO_s, run_nb, run_nd, run_ret, shl_one (show n < 12 by omega)]
 rw [need_inb (by omega) (by omega), need_t (rng_u64 (by omega) (by omega)), need_t (rng_u64 (by omega) (by omega)), e]
theorem k17 {c : List Ch} (hl : c.length ≤ 1000) : run0 (F17 c) = some ((c, ()), ()) := by
 simp only [F17, run_bd, run_it]
 refine bind_eq (iter_list c (fun k (st : List Ch) => ((k : Int), c, st.length, st, ())) (fun st r => ((st ++ r).length, st ++ r, ())) (fun pre st => st = pre) ?_ ?_ (s := []) rfl) ?_
 ·rintro pre x post st hxx rfl
  left
  have hlen : c.length = st.length + (post.length + 1) := by rw [hxx]; simp
  have hd : c.getD st.length ((0 : Int), []) = x := by rw [hxx]; exact getD_mid rfl
  have hin : inb (st.length : Int) ((c.length : Nat) : Int) = true := inb_t (by omega) (by omega)
  have hni : rng .i64 ((st.length : Int) + 1) = true := rng_i64 (by omega) (by omega)
  refine ⟨st ++ [x], ?_, rfl, by simp⟩
  simp only [g17_0, run_br, run_bd, run_nb, run_nd, run_ni, run_ret, Int.toNat_natCast, hd, br_d, hin, hni, need_true]
  rw [if_pos (by omega), need_lenbig (by simp; omega)]
  simp
 ·rintro st rfl
  simp only [g17_0, run_br, run_ret, br_d]
  rw [if_neg (by omega)]; simp
 ·simp only [run_ret]; simp
end Go.Proofs.Tryd
end
section
namespace Go.Proofs.Tryd
open Go.AM Go.Cn
set_option maxRecDepth 100000
theorem u_rng {i : Nat} (hi : i < 6) : rng .u64 (ar0.shl (1 : Int) (i : Int)) = true := by
 have := all_lt (n := 6) (p := fun i => rng .u64 (ar0.shl (1 : Int) (i : Int))) (by kernel_rfl) hi
 exact this
theorem i_rng {i : Nat} (hi : i < 6) : rng .i64 (ar0.shl (1 : Int) (i : Int)) = true := by
 have := all_lt (n := 6) (p := fun i => rng .i64 (ar0.shl (1 : Int) (i : Int))) (by kernel_rfl) hi
 exact this
theorem k74 {s i n : Nat} (hn : n ≤ 6) (hs : s < 2 ^ n) (hi : i < n) : run0 (F74 (s : Int) (i : Int)) = some (((s ||| 2 ^ i : Nat) : Int), ()) := by
 have h64 : s < 64 := Nat.lt_of_lt_of_le hs (pow6 hn)
 simp only [F74, run_nb, run_nd, run_ret, u_rng (show i < 6 by omega), need_true, u_with h64 (show i < 6 by omega)]
 rw [need_inb (by omega) (by omega)]
end Go.Proofs.Tryd
end
section
namespace Go.Proofs.Tryd
open Go.AM Go.Cn
set_option maxRecDepth 100000
theorem dt1 {α : Type} (x : α) : List.take 1 (List.drop 0 [x]) = [x] := rfl
theorem tk1 {α : Type} (x : α) : List.take 1 [x] = [x] := rfl
/-! Turns: how many orders. -/
end Go.Proofs.Tryd
end
section
namespace Go.Proofs.Tryd
open Go.AM Go.Cn
set_option maxRecDepth 100000
theorem ok_of {c : List Ch} (hl : largeC c = false) (h : chk c = 0) : OkC (gro c) c := by
 unfold chk at h
 split at h
 ·cases h
 rename_i h1
 split at h
 ·cases h
 rename_i h2
 split at h
 ·cases h
 rename_i h3
 split at h
 ·cases h
 rename_i h4
 have hall : ∀ (n : Nat) (l : List Ch), chkL n l = 0 → ∀ x ∈ l, okCh n x = 0 := by
  intro n l
  induction l with
  | nil => intro _ x hx; cases hx
  | cons y r ih =>
   intro h x hx
   simp only [chkL] at h
   by_cases hy : okCh n y = 0
   ·rw [if_neg (by simpa using hy)] at h
    rcases List.mem_cons.1 hx with rfl | hx
    ·exact hy
    ·exact ih h x hx
   ·rw [if_pos hy] at h; exact absurd h hy
 have hx : ∀ x ∈ c, OkX (gro c) x := fun x hx => by
  have := hall _ _ h x hx
  unfold okCh at this
  split at this
  ·cases this
  rename_i e1
  split at this
  ·cases this
  rename_i e2
  split at this
  ·cases this
  rename_i e3
  refine ⟨Decidable.not_not.1 e1, (Decidable.not_not.1 e2).1, (Decidable.not_not.1 e2).2, fun z hz => ?_⟩
  have hb : badW z = false := by
   rw [Bool.eq_false_iff]
   intro hb
   exact e3 (List.any_eq_true.2 ⟨z, hz, hb⟩)
  unfold badW at hb
  simpa using hb
 refine ⟨by omega, by omega, by omega, ?_, rfl, hx⟩
 unfold largeC at hl
 rw [Bool.or_eq_false_iff] at hl
 have hmem : c.getD 0 ((0 : Int), []) ∈ c := by
  cases c with
  | nil => exact absurd rfl h1
  | cons x r => exact List.mem_cons_self ..
 have h5 := List.any_eq_false.1 hl.2 _ hmem
 unfold largeOne at h5
 have h6 : (c.getD 0 ((0 : Int), [])).2.length = gro c := rfl
 rw [h6] at h5
 simp at h5
 omega
theorem k22 {a b : List Int} (ha : a.length ≤ 1000) : run0 (F22 a b) = some (decide (a = b), ()) := by
 simp only [F22, run_br, run_bd, run_it, run_ret, br_not, br_eq]
 by_cases hl : a.length = b.length
 case neg =>
  rw [if_neg (by omega)]
  have : a ≠ b := fun e => hl (by rw [e])
  simp [this]
 rw [if_pos (by omega)]
 refine bind_eq (iter_list a (fun k (_ : Unit) => (a, b, (k : Int), ())) (fun _ r => if r = b.drop (a.length - r.length) then Sum.inr () else Sum.inl ()) (fun _ _ => True) ?_ ?_ (s := ()) trivial) ?_
 ·rintro pre x post _ hx -
  have hlen : a.length = pre.length + (post.length + 1) := by rw [hx]; simp
  have hd : a.getD pre.length (0 : Int) = x := by rw [hx]; exact getD_mid rfl
  have hin : inb (pre.length : Int) ((a.length : Nat) : Int) = true := inb_t (by omega) (by omega)
  have hin2 : inb (pre.length : Int) ((b.length : Nat) : Int) = true := inb_t (by omega) (by omega)
  have hni : rng .i64 ((pre.length : Int) + 1) = true := rng_i64 (by omega) (by omega)
  have e1 : a.length - (x :: post).length = pre.length := by rw [List.length_cons]; omega
  have e2 : a.length - post.length = pre.length + 1 := by omega
  have e3 : b.drop pre.length = b.getD pre.length 0 :: b.drop (pre.length + 1) := by
   rw [List.drop_eq_getElem_cons (by omega)]
   simp [List.getD, show pre.length < b.length by omega]
  simp only [g22_0, run_br, run_nb, run_ni, run_ret, Int.toNat_natCast, hd, br_d, br_not, br_eq, hin, hin2, hni, need_true]
  rw [if_pos (by omega)]
  rw [e1, e2, e3]
  by_cases hxy : x = b.getD pre.length 0
  ·left
   rw [if_pos hxy]
   refine ⟨(), rfl, trivial, ?_⟩
   rw [← hxy]
   simp
  ·right
   rw [if_neg hxy, if_neg (fun e => hxy (List.cons.inj e).1)]
 ·rintro _ -
  simp only [g22_0, run_br, run_ret, br_d]
  rw [if_neg (by omega)]
  simp
  omega
 ·have e : a.length - a.length = 0 := by omega
  simp only [e, List.drop_zero]
  by_cases h : a = b
  ·rw [if_pos h, decide_eq_true h]; rfl
  ·rw [if_neg h, decide_eq_false h]; rfl
theorem works_ok : run0 F16 = some (true, ()) := cmp_done 200 (by kernel_rfl)
end Go.Proofs.Tryd
end
section
namespace Go.Proofs.Tryd
open Go.AM Go.Cn
set_option maxRecDepth 100000
theorem len_ok {c : List Ch} (h : Wf (.prod (.list (.prod (.int .i64) (.list (.int .i64)))) .unit) (c, ())) : c.length < 9223372036854775808 := by
 have := h.1.1
 have e : maxLen < 9223372036854775808 := by decide
 exact Nat.lt_of_le_of_lt this e
theorem large_len {c : List Ch} (h : largeC c = false) : c.length ≤ 20 := by
 unfold largeC at h
 rw [Bool.or_eq_false_iff] at h
 have := of_decide_eq_false h.1
 omega
end Go.Proofs.Tryd
end
section
namespace Go.Proofs.Tryd
open Go.AM Go.Cn
set_option maxRecDepth 100000
/-- A number names a grower. -/
def inG (n : Nat) (z : Int) : Bool := decide (0 ≤ z ∧ z ≤ (n : Int) - 1)
theorem inG_nat {n : Nat} {z : Int} (h : inG n z = true) : ∃ i : Nat, i < n ∧ z = (i : Int) := by
 have := of_decide_eq_true h
 exact ⟨z.toNat, by omega, by omega⟩
theorem n_rng {n : Nat} (h : n ≤ 6) : rng .i64 ((n : Int) - 1) = true := rng_i64 (by omega) (by omega)
end Go.Proofs.Tryd
end
section
namespace Go.Proofs.Tryd
open Go.AM Go.Cn
set_option maxRecDepth 100000
/-- A list of growers, read: its set, or an error. -/
def rdL (n : Nat) : Int → Nat → List Int → Nat × Int
 | _, s, [] => (s, 0)
 | last, s, x :: r => if inG n x = false then (0, 5) else if x ≤ last then (0, 7) else rdL n x (s ||| 2 ^ x.toNat) r
def rd (n : Nat) (l : List Int) : Nat × Int := rdL n (-1) 0 l
theorem rdL_lt {n : Nat} (hn : n ≤ 6) : ∀ {l : List Int} {last : Int} {s : Nat}, s < 2 ^ n → (rdL n last s l).1 < 2 ^ n
 | [], _, _, h => h
 | x :: r, last, s, h => by
  have hp : 0 < 2 ^ n := Nat.pow_pos (by omega)
  simp only [rdL]
  split
  ·exact hp
  split
  ·exact hp
  ·rename_i h1 _
   have h1' : inG n x = true := by simpa using h1
   obtain ⟨i, hi, rfl⟩ := inG_nat h1'
   exact rdL_lt hn (by rw [Int.toNat_natCast]; exact or_lt hn h hi)
theorem rd_lt {n : Nat} (hn : n ≤ 6) (l : List Int) : (rd n l).1 < 2 ^ n := rdL_lt hn (Nat.pow_pos (by omega))
theorem k72 {c : List Ch} {n : Nat} (hn : n ≤ 6) {l : List Int} (hl : l.length < 1000) : run0 (F72_v1 c c (n : Int) ((2 ^ n - 1 : Nat) : Int) l) = some (((rd n l).1 : Int), (rd n l).2, ()) := by
 have hp : 0 < 2 ^ n := Nat.pow_pos (by omega)
 have h64 := pow6 hn
 simp only [F72_v1, run_bd, run_it]
 have key := iter_list l (f := fun a => run (fun _ => none) (g72_v1_0 a)) (fun k (st : Nat × Int) => ((st.1 : Int), st.2, l, ((l.length : Nat) : Int), (k : Int), c, c, (n : Int), ((2 ^ n - 1 : Nat) : Int), ()))
  (fun st r => if (rdL n st.2 st.1 r).2 = 0 then Sum.inr (((rdL n st.2 st.1 r).1 : Int), ()) else Sum.inl (((rdL n st.2 st.1 r).1 : Int), (rdL n st.2 st.1 r).2, ())) (fun _ st => st.1 < 2 ^ n) ?_ ?_ (s := (0, -1)) hp
 ·replace key : iter (fun a => run (fun _ => none) (g72_v1_0 a)) ((0 : Int), (-1 : Int), l, ((l.length : Nat) : Int), (0 : Int), c, c, (n : Int), ((2 ^ n - 1 : Nat) : Int), ()) = _ := key
  rw [bind_of key]
  simp only [rd]
  by_cases h : (rdL n (-1) 0 l).2 = 0
  ·rw [if_pos h]; simp [run_sr, run_ret, h]
  ·rw [if_neg h]; simp [run_sl, run_ret]
 ·rintro pre x post ⟨s, last⟩ hx hs
  simp only at hs
  have hlen : l.length = pre.length + (post.length + 1) := by rw [hx]; simp
  have hd : l.getD pre.length (0 : Int) = x := by rw [hx]; exact getD_mid rfl
  have hin : inb (pre.length : Int) ((l.length : Nat) : Int) = true := inb_t (by omega) (by omega)
  have hni : rng .i64 ((pre.length : Int) + 1) = true := rng_i64 (by omega) (by omega)
  have e : ∀ z : Int, decide (0 ≤ z ∧ z ≤ (n : Int) - 1) = inG n z := fun _ => rfl
  simp only [g72_v1_0, run_br, run_bd, run_nb, run_ni, run_ret, Int.toNat_natCast, hd, br_d, br_not, hin, hni, n_rng hn, need_true, k67, bindO_s, e]
  rw [if_pos (by omega)]
  simp only [rdL]
  by_cases h1 : inG n x = false
  ·right
   simp [h1]
  replace h1 : inG n x = true := by simpa using h1
  obtain ⟨i, hi, rfl⟩ := inG_nat h1
  simp only [h1, brO_true]
  by_cases h2 : (i : Int) ≤ last
  ·right
   rw [if_pos h2]; simp [h2]
  ·left
   rw [if_neg h2]
   refine ⟨(s ||| 2 ^ i, (i : Int)), ?_, or_lt hn hs hi, by simp [h2]⟩
   rw [bind_of (k74 hn hs hi)]
   rfl
 ·rintro ⟨s, last⟩ hs
  simp only [g72_v1_0, run_br, run_ret, br_d]
  rw [if_neg (by omega)]
  simp [rdL]
theorem k69' {n : Nat} (z : Int) : run (fun _ => none) (F69 z 0 ((n : Int) - 1)) = some (inG n z, ()) := k69 _ _ _
theorem k75 {c : List Ch} {n : Nat} (hc : OkC n c) {l : List Int} (hl : l.length < 1000) : run0 (F75 c l) = some (((rd n l).1 : Int), (rd n l).2, ()) := by
 have hn := hc.n6
 have hp : 0 < 2 ^ n := Nat.pow_pos (by omega)
 have h64 := pow6 hn
 have h0 : 0 < c.length := by have := hc.c1; omega
 simp only [F75, run_bd, run_it]
 have key := iter_list l (f := fun a => run (fun _ => none) (g75_0 a)) (fun k (st : Nat × Int) => (l, (st.1 : Int), (k : Int), c, ()))
  (fun st r => if (rdL n st.2 st.1 r).2 = 0 then Sum.inr (((rdL n st.2 st.1 r).1 : Int), ()) else Sum.inl (((rdL n st.2 st.1 r).1 : Int), (rdL n st.2 st.1 r).2, ())) (fun pre st => st.1 < 2 ^ n ∧ st.2 = (pre.getLast?).getD (-1)) ?_ ?_ (s := (0, -1)) ⟨hp, rfl⟩
 ·replace key : iter (fun a => run (fun _ => none) (g75_0 a)) (l, (0 : Int), (0 : Int), c, ()) = _ := key
  rw [bind_of key]
  simp only [rd]
  by_cases h : (rdL n (-1) 0 l).2 = 0
  ·rw [if_pos h]; simp [run_sr, run_ret, h]
  ·rw [if_neg h]; simp [run_sl, run_ret]
 ·rintro pre x post ⟨s, last⟩ hx ⟨hs, hla⟩
  simp only at hs hla
  have hlen : l.length = pre.length + (post.length + 1) := by rw [hx]; simp
  have hd : l.getD pre.length (0 : Int) = x := by rw [hx]; exact getD_mid rfl
  have hin : inb (pre.length : Int) ((l.length : Nat) : Int) = true := inb_t (by omega) (by omega)
  have hni : rng .i64 ((pre.length : Int) + 1) = true := rng_i64 (by omega) (by omega)
  have e : ∀ z : Int, decide (0 ≤ z ∧ z ≤ (n : Int) - 1) = inG n z := fun _ => rfl
  simp only [g75_0, run_br, run_bd, run_nb, run_ni, run_ret, Int.toNat_natCast, hd, br_d, br_not, hin, hni, k60 h0, hc.gro, n_rng hn, need_true, k69' (n := n), bindO_s]
  rw [if_pos (by omega)]
  simp only [rdL]
  by_cases h1 : inG n x = false
  ·right
   simp [h1]
  replace h1 : inG n x = true := by simpa using h1
  obtain ⟨i, hi, rfl⟩ := inG_nat h1
  have hi6 : inb (i : Int) 64 = true := inb_t (by omega) (by omega)
  simp only [h1, brO_true, hi6, need_true, i_rng (show i < 6 by omega), i_with (show s < 64 by omega) (show i < 6 by omega)]
  rcases List.eq_nil_or_concat pre with rfl | ⟨p0, y, rfl⟩
  ·have hl1 : last = -1 := by simpa using hla
   left
   rw [if_neg (by simp)]
   refine ⟨(s ||| 2 ^ i, (i : Int)), rfl, ⟨or_lt hn hs hi, by simp⟩, ?_⟩
   subst hl1
   simp only [h1, Bool.true_eq_false, if_false, if_neg (show ¬ ((i : Int) ≤ -1) by omega), Int.toNat_natCast]
  ·have hl1 : last = y := by simpa using hla
   subst hl1
   have hd2 : l.getD p0.length (0 : Int) = last := by rw [hx]; simp [List.getD]
   have e2 : (((p0 ++ [last]).length : Nat) : Int) - 1 = (p0.length : Int) := by simp
   simp only [List.concat_eq_append] at *
   rw [if_pos (by simp), e2, need_t (rng_i64 (by omega) (by omega)), need_inb (by omega) (by simp at hlen; omega)]
   simp only [Int.toNat_natCast, hd2]
   by_cases h2 : (i : Int) ≤ last
   ·right
    rw [if_pos h2]
    simp [h1, h2]
   ·left
    rw [if_neg h2]
    refine ⟨(s ||| 2 ^ i, (i : Int)), rfl, ⟨or_lt hn hs hi, by simp⟩, ?_⟩
    simp only [h1, Bool.true_eq_false, if_false, if_neg h2, Int.toNat_natCast]
 ·rintro ⟨s, last⟩ ⟨hs, _⟩
  simp only [g75_0, run_br, run_ret, br_d]
  rw [if_neg (by omega)]
  simp [rdL]
end Go.Proofs.Tryd
end
section
namespace Go.Proofs.Tryd
open Go.AM Go.Cn
set_option maxRecDepth 100000
/-- Those who are not in a set. -/
def cpl (n s : Nat) : Nat := 2 ^ n - 1 - s
theorem u_cpl {n s : Nat} (hn : n ≤ 6) (hs : s < 2 ^ n) : ar0.bits IBin.andNot .u64 ((2 ^ n - 1 : Nat) : Int) (s : Int) = ((cpl n s : Nat) : Int) := by
 have := all_lt2 (n := 7) (m := 64) (p := fun n s => !(decide (s < 2 ^ n)) || ar0.bits IBin.andNot .u64 ((2 ^ n - 1 : Nat) : Int) (s : Int) == ((cpl n s : Nat) : Int)) (by kernel_rfl) (s := n) (i := s) (by omega) (by have := pow6 hn; omega)
 simpa [hs] using this
theorem cpl_lt {n s : Nat} (hn : n ≤ 6) : cpl n s < 2 ^ n := by
 have hp : 0 < 2 ^ n := Nat.pow_pos (by omega)
 unfold cpl; omega
theorem els_cpl {n s : Nat} (hn : n ≤ 6) (hs : s < 2 ^ n) : els (cpl n s) = (List.range n).filter fun i => !s.testBit i := by
 have := all_lt2 (n := 7) (m := 64) (p := fun n s => !(decide (s < 2 ^ n)) || decide (els (cpl n s) = (List.range n).filter fun i => !s.testBit i)) (by decide +kernel) (s := n) (i := s) (by omega) (by have := pow6 hn; omega)
 simpa [hs] using this
/-- The weights of those who are not in the bloc. -/
def rest (ws : List Int) (n s : Nat) : List Int := (els (cpl n s)).map fun i => ws.getD i 0
def blW (ws : List Int) (n s : Nat) : List Int := rest ws n s ++ [wt ws s]
def blF (n s : Nat) : List Ch → Option (List Ch)
 | [] => some []
 | x :: r => if 1000000 < wt x.2 s then none else (blF n s r).map fun l => (x.1, blW x.2 n s) :: l
theorem rest_len {ws : List Int} {n s : Nat} : (rest ws n s).length ≤ 6 := by
 have := els_len (s := cpl n s)
 simpa [rest] using this
theorem k29m0 {c : List Ch} {n s t : Nat} {len idx q : Int} {ws : List Int} (hn : n ≤ 6) (hw : ws.length = n) (ht : t < 2 ^ n) :
  run0 (g29_1m0 ((0 : Int), (s : Int), c, len, idx, c, c, (n : Int), ((2 ^ n - 1 : Nat) : Int), q, ws, q, (t : Int), ())) =
   some ((0 : Int), (s : Int), c, len, idx, c, c, (n : Int), ((2 ^ n - 1 : Nat) : Int), q, ws, q, ((els t).map fun i => ws.getD i 0).length, ((els t).map fun i => ws.getD i 0), ()) := by
 have h64 : t < 64 := by have := pow6 hn; omega
 simp only [g29_1m0, run_bd, run_it, run_ret]
 refine bind_eq (iter_els (fun t (st : List Int) => ((0 : Int), (s : Int), c, len, idx, (t : Int), c, c, (n : Int), ((2 ^ n - 1 : Nat) : Int), q, ws, q, st.length, st, ()))
  (fun st r => (c, c, (n : Int), ((2 ^ n - 1 : Nat) : Int), q, ws, q, (st ++ r.map fun i => ws.getD i 0).length, (0 : Int), (0 : Int), (s : Int), c, len, idx, st ++ r.map fun i => ws.getD i 0, ()))
  (fun t' st => t' < 2 ^ n ∧ st.length + (els t').length ≤ 6) ?_ ?_ (s := t) (st := []) h64 ⟨ht, by simpa using els_len⟩) (by simp)
 ·rintro t' st h64 h0 ⟨ht', hl⟩
  left
  have e := congrArg List.length (els_cons h64 h0)
  rw [List.length_cons] at e
  have hz := tz_lt hn ht' h0
  have hlo := low_lt h64 h0
  refine ⟨st ++ [ws.getD (tzN t') 0], ?_, ⟨by omega, by simp; omega⟩, by simp⟩
  have hnu : rng .u64 ((t' : Int) - 1) = true := rng_u64 (by omega) (by omega)
  simp only [g29_1m0i_0, run_br, run_bd, run_nb, run_nd, run_ret, br_not, br_eq, k101 h64 h0, bindO_s, Int.toNat_natCast, hnu, need_true, u_low h64 h0, dt1, tk1, List.drop_zero, List.take_length]
  rw [if_neg (by omega), need_inb (by omega) (by omega), need_lenbig (by simp; omega)]
  simp
 ·rintro st -
  simp only [g29_1m0i_0, run_br, run_ret, br_not, br_eq]
  simp
theorem k29m1 {c : List Ch} {n s t m : Nat} {z len idx q : Int} {ws : List Int} {B : List Ch} (hn : n ≤ 6) (hw : ws.length = n) (ht : t < 2 ^ n) :
  run0 (g29_1m1 (z, (s : Int), c, len, idx, c, c, (n : Int), ((2 ^ n - 1 : Nat) : Int), m, q, ws, q, (t : Int), B, ())) =
   some (z, (s : Int), c, len, idx, c, c, (n : Int), ((2 ^ n - 1 : Nat) : Int), m, q, ws, q, ((els t).map fun i => ws.getD i 0).length, B, ((els t).map fun i => ws.getD i 0), ()) := by
 have h64 : t < 64 := by have := pow6 hn; omega
 simp only [g29_1m1, run_bd, run_it, run_ret]
 refine bind_eq (iter_els (fun t (st : List Int) => (z, (s : Int), c, len, idx, (t : Int), c, c, (n : Int), ((2 ^ n - 1 : Nat) : Int), m, q, ws, q, st.length, B, st, ()))
  (fun st r => (c, c, (n : Int), ((2 ^ n - 1 : Nat) : Int), m, q, ws, q, (st ++ r.map fun i => ws.getD i 0).length, (0 : Int), z, (s : Int), c, len, idx, B, st ++ r.map fun i => ws.getD i 0, ()))
  (fun t' st => t' < 2 ^ n ∧ st.length + (els t').length ≤ 6) ?_ ?_ (s := t) (st := []) h64 ⟨ht, by simpa using els_len⟩) (by simp)
 ·rintro t' st h64 h0 ⟨ht', hl⟩
  left
  have e := congrArg List.length (els_cons h64 h0)
  rw [List.length_cons] at e
  have hz := tz_lt hn ht' h0
  have hlo := low_lt h64 h0
  refine ⟨st ++ [ws.getD (tzN t') 0], ?_, ⟨by omega, by simp; omega⟩, by simp⟩
  have hnu : rng .u64 ((t' : Int) - 1) = true := rng_u64 (by omega) (by omega)
  simp only [g29_1m1i_0, run_br, run_bd, run_nb, run_nd, run_ret, br_not, br_eq, k101 h64 h0, bindO_s, Int.toNat_natCast, hnu, need_true, u_low h64 h0, dt1, tk1, List.drop_zero, List.take_length]
  rw [if_neg (by omega), need_inb (by omega) (by omega), need_lenbig (by simp; omega)]
  simp
 ·rintro st -
  simp only [g29_1m1i_0, run_br, run_ret, br_not, br_eq]
  simp
theorem k29m2 {c : List Ch} {n s t m : Nat} {z len idx q : Int} {ws : List Int} {B : List Ch} (hn : n ≤ 6) (hw : ws.length = n) (ht : t < 2 ^ n) :
  run0 (g29_1m2 (z, (s : Int), c, len, idx, c, c, (n : Int), ((2 ^ n - 1 : Nat) : Int), m, q, ws, q, (t : Int), B, ())) =
   some (z, (s : Int), c, len, idx, c, c, (n : Int), ((2 ^ n - 1 : Nat) : Int), m, q, ws, q, ((els t).map fun i => ws.getD i 0).length, B, ((els t).map fun i => ws.getD i 0), ()) := by
 have h64 : t < 64 := by have := pow6 hn; omega
 simp only [g29_1m2, run_bd, run_it, run_ret]
 refine bind_eq (iter_els (fun t (st : List Int) => (z, (s : Int), c, len, idx, (t : Int), c, c, (n : Int), ((2 ^ n - 1 : Nat) : Int), m, q, ws, q, st.length, B, st, ()))
  (fun st r => (c, c, (n : Int), ((2 ^ n - 1 : Nat) : Int), m, q, ws, q, (st ++ r.map fun i => ws.getD i 0).length, (0 : Int), z, (s : Int), c, len, idx, B, st ++ r.map fun i => ws.getD i 0, ()))
  (fun t' st => t' < 2 ^ n ∧ st.length + (els t').length ≤ 6) ?_ ?_ (s := t) (st := []) h64 ⟨ht, by simpa using els_len⟩) (by simp)
 ·rintro t' st h64 h0 ⟨ht', hl⟩
  left
  have e := congrArg List.length (els_cons h64 h0)
  rw [List.length_cons] at e
  have hz := tz_lt hn ht' h0
  have hlo := low_lt h64 h0
  refine ⟨st ++ [ws.getD (tzN t') 0], ?_, ⟨by omega, by simp; omega⟩, by simp⟩
  have hnu : rng .u64 ((t' : Int) - 1) = true := rng_u64 (by omega) (by omega)
  simp only [g29_1m2i_0, run_br, run_bd, run_nb, run_nd, run_ret, br_not, br_eq, k101 h64 h0, bindO_s, Int.toNat_natCast, hnu, need_true, u_low h64 h0, dt1, tk1, List.drop_zero, List.take_length]
  rw [if_neg (by omega), need_inb (by omega) (by omega), need_lenbig (by simp; omega)]
  simp
 ·rintro st -
  simp only [g29_1m2i_0, run_br, run_ret, br_not, br_eq]
  simp
theorem take_all {α β : Type} (xs : List α) (f : α → β) (z : β) : List.take (xs.length + 1) (List.take xs.length (xs.map f) ++ [z]) = xs.map f ++ [z] := by
 rw [List.take_of_length_le (by simp), List.take_of_length_le (by simp)]
/-- What Bloc answers. -/
def blR (c : List Ch) (n : Nat) (l : List Int) : (List Ch × Unit) × Int × Unit := if (rd n l).2 ≠ 0 then (([], ()), (rd n l).2, ()) else if (rd n l).1 = 0 then (([], ()), 4, ()) else match blF n (rd n l).1 c with
 | some o => ((o, ()), 0, ())
 | none => (([], ()), 10, ())
theorem k29_no {c : List Ch} (h : chk c ≠ 0) (l : List Int) : run0 (F29 c l) = some (([], ()), chk c, ()) := by
 simp only [F29, run_bd]
 rw [bind_of (k66_no h)]
 simp only [run_sl, run_br, run_bd, run_ret, br_not, br_eq]
 rw [if_neg h]
theorem k29 {c : List Ch} {n : Nat} (hc : OkC n c) (h : chk c = 0) {l : List Int} (hl : l.length < 1000) : run0 (F29 c l) = some (blR c n l) := by
 have hn := hc.n6
 simp only [F29, run_bd]
 rw [bind_of (k66 hc h)]
 simp only [run_sr, run_br, run_bd, run_ret, br_not, br_eq]
 rw [if_pos trivial, bind_of (k72 hn hl)]
 unfold blR
 by_cases h1 : (rd n l).2 = 0
 case neg => rw [if_neg h1, if_pos h1]
 rw [if_pos h1, if_neg (not_not_intro h1)]
 by_cases h2 : (rd n l).1 = 0
 ·rw [if_pos (show (((rd n l).1 : Nat) : Int) = 0 by omega), if_pos h2]
 rw [if_neg (show ¬ ((((rd n l).1 : Nat) : Int) = 0) by omega), if_neg h2]
 have hS := rd_lt hn l
 generalize (rd n l).1 = s at *
 have hK := cpl_lt (s := s) hn
 have c1 := hc.c1
 have c3 := hc.c3
 have hx : ∀ x ∈ c, OkX n x := hc.ch
 have kH : ∀ z : Int, run (fun _ => none) (FH77 z) = some (z, ()) := fun _ => rfl
 simp only [FH77, run_ret, bindO_s, u_cpl hn hS, br_d, run_nb, run_nd, run_ni, run_br, run_bd]
 match c, c1, c3, hx with
 | [x], _, _, hx =>
  have ox := hx x (by simp)
  have hw := (OkX.len ox)
  rw [if_pos (by simp), need_inb (by omega) (by simp)]
  simp only [show Int.toNat (0 : Int) = 0 from rfl, List.getD_cons_zero]
  refine bind_eq (k29m0 hn hw hK) ?_
  refine bind_eq (k78 ox hn hS) ?_
  dsimp only
  simp only [blF]
  by_cases b1 : 1000000 < wt x.2 s
  ·rw [if_pos b1, if_pos b1]
  rw [if_neg b1, if_neg b1]
  have hr := rest_len (ws := x.2) (n := n) (s := s)
  unfold rest at hr
  rw [need_lenbig (by simp at hr ⊢; omega), need_lenbig (by simp), need_t (rng_i64 (by omega) (by omega)), if_neg (by simp)]
  simp [blW, rest, take_all]
 | [x, y], _, _, hx =>
  have ox := hx x (by simp)
  have oy := hx y (by simp)
  have hw := (OkX.len ox)
  have hwy := (OkX.len oy)
  rw [if_pos (by simp), need_inb (by omega) (by simp)]
  simp only [show Int.toNat (0 : Int) = 0 from rfl, List.getD_cons_zero]
  refine bind_eq (k29m0 hn hw hK) ?_
  refine bind_eq (k78 ox hn hS) ?_
  dsimp only
  simp only [blF]
  by_cases b1 : 1000000 < wt x.2 s
  ·rw [if_pos b1, if_pos b1]
  rw [if_neg b1, if_neg b1]
  have hr := rest_len (ws := x.2) (n := n) (s := s)
  unfold rest at hr
  rw [need_lenbig (by simp at hr ⊢; omega), need_lenbig (by simp), need_t (rng_i64 (by omega) (by omega)), if_pos (by simp), need_inb (by omega) (by simp), u_cpl hn hS]
  simp only [show Int.toNat ((0 : Int) + 1) = 1 from rfl, show ([x, y] : List Ch).getD 1 ((0 : Int), []) = y from rfl]
  refine bind_eq (k29m1 hn hwy hK) ?_
  refine bind_eq (k78 oy hn hS) ?_
  dsimp only
  by_cases b2 : 1000000 < wt y.2 s
  ·rw [if_pos b2, if_pos b2]; rfl
  rw [if_neg b2, if_neg b2]
  have hr2 := rest_len (ws := y.2) (n := n) (s := s)
  unfold rest at hr2
  rw [need_lenbig (by simp at hr2 ⊢; omega), need_lenbig (by simp), need_t (rng_i64 (by omega) (by omega)), if_neg (by simp)]
  simp [blW, rest, take_all]
 | [x, y, w], _, _, hx =>
  have ox := hx x (by simp)
  have oy := hx y (by simp)
  have ow := hx w (by simp)
  have hw := (OkX.len ox)
  have hwy := (OkX.len oy)
  have hww := (OkX.len ow)
  rw [if_pos (by simp), need_inb (by omega) (by simp)]
  simp only [show Int.toNat (0 : Int) = 0 from rfl, List.getD_cons_zero]
  refine bind_eq (k29m0 hn hw hK) ?_
  refine bind_eq (k78 ox hn hS) ?_
  dsimp only
  simp only [blF]
  by_cases b1 : 1000000 < wt x.2 s
  ·rw [if_pos b1, if_pos b1]
  rw [if_neg b1, if_neg b1]
  have hr := rest_len (ws := x.2) (n := n) (s := s)
  unfold rest at hr
  rw [need_lenbig (by simp at hr ⊢; omega), need_lenbig (by simp), need_t (rng_i64 (by omega) (by omega)), if_pos (by simp), need_inb (by omega) (by simp), u_cpl hn hS]
  simp only [show Int.toNat ((0 : Int) + 1) = 1 from rfl, show ([x, y, w] : List Ch).getD 1 ((0 : Int), []) = y from rfl]
  refine bind_eq (k29m1 hn hwy hK) ?_
  refine bind_eq (k78 oy hn hS) ?_
  dsimp only
  by_cases b2 : 1000000 < wt y.2 s
  ·rw [if_pos b2, if_pos b2]; rfl
  rw [if_neg b2, if_neg b2]
  have hr2 := rest_len (ws := y.2) (n := n) (s := s)
  unfold rest at hr2
  rw [need_lenbig (by simp at hr2 ⊢; omega), need_lenbig (by simp), need_t (rng_i64 (by omega) (by omega)), if_pos (by simp), need_inb (by omega) (by simp), u_cpl hn hS]
  simp only [show Int.toNat ((0 : Int) + 1 + 1) = 2 from rfl, show ([x, y, w] : List Ch).getD 2 ((0 : Int), []) = w from rfl]
  refine bind_eq (k29m2 hn hww hK) ?_
  refine bind_eq (k78 ow hn hS) ?_
  dsimp only
  by_cases b3 : 1000000 < wt w.2 s
  ·rw [if_pos b3, if_pos b3]; rfl
  rw [if_neg b3, if_neg b3]
  have hr3 := rest_len (ws := w.2) (n := n) (s := s)
  unfold rest at hr3
  rw [need_lenbig (by simp at hr3 ⊢; omega), need_lenbig (by simp), need_t (rng_i64 (by omega) (by omega)), if_neg (by simp)]
  simp [blW, rest, take_all]
 | _ :: _ :: _ :: _ :: _, _, c3, _ => simp at c3
end Go.Proofs.Tryd
end
section
namespace Go.Proofs.Tryd
open Go.AM Go.Cn
set_option maxRecDepth 100000
theorem k30_1 {c : List Ch} {n s k m : Nat} {x : Ch} {B : List Ch} (hc : OkC n c) (hx : c.getD k ((0 : Int), []) = x) (hk : k < c.length) (hs : s < 2 ^ n) :
  iter (fun a => run (fun _ => none) (g30_1 a)) ((s : Int), (k : Int), (0 : Int), c, m, x.1, 0, B, [], ()) = some ((s : Int), (k : Int), c, m, x.1, (rest x.2 n s).length, B, rest x.2 n s, ()) := by
 have hn := hc.n6
 have h64 : s < 64 := by have := pow6 hn; omega
 have h0 : 0 < c.length := by omega
 have hxo : OkX n x := hc.ch x (by rw [← hx]; simp [List.getD, hk])
 have hbit : ∀ {i : Nat}, i < 6 → (ar0.bits IBin.and .i64 (ar0.shr (s : Int) (i : Int)) (1 : Int) == (0 : Int)) = !s.testBit i := fun hi => by
  have := all_lt2 (n := 64) (m := 6) (p := fun s i => (ar0.bits IBin.and .i64 (ar0.shr (s : Int) (i : Int)) (1 : Int) == (0 : Int)) == !s.testBit i) (by kernel_rfl) h64 hi
  simpa using this
 have hc3 := hc.c3
 have key := iter_upto (f := fun a => run (fun _ => none) (g30_1 a)) n (fun i (st : List Int) => ((s : Int), (k : Int), (i : Int), c, m, x.1, st.length, B, st, ()))
  (fun st i => ((s : Int), (k : Int), c, m, x.1, (st ++ ((List.range' i (n - i)).filter fun i => !s.testBit i).map fun i => x.2.getD i 0).length, B, st ++ ((List.range' i (n - i)).filter fun i => !s.testBit i).map fun i => x.2.getD i 0, ()))
  (fun i st => st.length ≤ i) ?_ ?_ (s := []) (Nat.le_refl _)
 ·refine Eq.trans key ?_
  have e : (List.range' 0 (n - 0)).filter (fun i => !s.testBit i) = els (cpl n s) := by rw [els_cpl hn hs, List.range_eq_range', Nat.sub_zero]
  simp only [List.nil_append]
  rw [e]; rfl
 ·rintro i st hi hst
  left
  have e : n - i = (n - (i + 1)) + 1 := by omega
  have hni : rng .i64 ((i : Int) + 1) = true := rng_i64 (by omega) (by omega)
  simp only [g30_1, run_br, run_bd, run_nb, run_nd, run_ni, run_ret, k60 h0, hc.gro, bindO_s, br_d, hbit (show i < 6 by omega), Int.toNat_natCast, hx, hni, need_true, dt1, tk1, List.drop_zero, List.take_length]
  rw [if_pos (by omega), need_inb (by omega) (by omega), e, List.range'_succ]
  cases hb : s.testBit i
  ·refine ⟨st ++ [x.2.getD i 0], ?_, by simp; omega, by simp [hb]⟩
   simp only [Bool.not_false, brO_true]
   rw [need_inb (by omega) (by omega), need_inb (by omega) (by rw [hxo.len]; omega), need_lenbig (by simp; omega)]
   simp
  ·refine ⟨st, by simp, by omega, by simp [hb]⟩
 ·rintro st -
  simp only [g30_1, run_br, run_bd, run_ret, k60 h0, hc.gro, bindO_s, br_d]
  rw [if_neg (by omega)]
  simp
theorem k30_no {c : List Ch} (h : chk c ≠ 0) (l : List Int) : run0 (F30 c l) = some (([], ()), chk c, ()) := by
 simp only [F30, run_bd, run_br, run_ret, br_not, br_eq]
 rw [bind_of (k50 c), if_neg h]
theorem k30 {c : List Ch} {n : Nat} (hc : OkC n c) (h : chk c = 0) {l : List Int} (hl : l.length < 1000) : run0 (F30 c l) = some (blR c n l) := by
 have hn := hc.n6
 have hc3 := hc.c3
 simp only [F30, run_bd, run_br, run_it, run_ret, br_not, br_eq]
 rw [bind_of (k50 c), if_pos h, bind_of (k75 hc hl)]
 unfold blR
 by_cases h1 : (rd n l).2 = 0
 case neg => rw [if_neg h1, if_pos h1]
 rw [if_pos h1, if_neg (not_not_intro h1)]
 by_cases h2 : (rd n l).1 = 0
 ·rw [if_pos (show (((rd n l).1 : Nat) : Int) = 0 by omega), if_pos h2]
 rw [if_neg (show ¬ ((((rd n l).1 : Nat) : Int) = 0) by omega), if_neg h2]
 have hS := rd_lt hn l
 generalize (rd n l).1 = s at *
 have key := iter_list c (f := fun a => run (fun _ => none) (g30_0 a)) (fun k (st : List Ch) => ((s : Int), (k : Int), c, st.length, st, ()))
  (fun st r => match blF n s r with | some o => Sum.inr ((st ++ o).length, st ++ o, ()) | none => Sum.inl ((10 : Int), ())) (fun pre st => st.length = pre.length) ?_ ?_ (s := []) rfl
 ·refine bind_eq key ?_
  cases blF n s c <;> simp [run_sl, run_sr, run_ret]
 ·rintro pre x post st hxx hst
  have hlen : c.length = pre.length + (post.length + 1) := by rw [hxx]; simp
  have hd : c.getD pre.length ((0 : Int), []) = x := by rw [hxx]; exact getD_mid rfl
  have hxo : OkX n x := hc.ch x (by rw [hxx]; simp)
  have hin : inb (pre.length : Int) ((c.length : Nat) : Int) = true := inb_t (by omega) (by omega)
  have hni : rng .i64 ((pre.length : Int) + 1) = true := rng_i64 (by omega) (by omega)
  have hr := rest_len (ws := x.2) (n := n) (s := s)
  simp only [g30_0, run_br, run_bd, run_nb, run_nd, run_ni, run_it, run_ret, br_d, hin, need_true, Int.toNat_natCast, hd]
  rw [if_pos (by omega), bind_of (k30_1 hc hd (by omega) hS)]
  simp only [hin, need_true, Int.toNat_natCast, hd, dt1, tk1, List.drop_zero, List.take_length, Prod.eta]
  rw [bind_of (k79 hxo hn hS)]
  simp only [blF]
  by_cases b1 : 1000000 < wt x.2 s
  ·right
   rw [if_pos b1, if_pos b1]
  ·left
   rw [if_neg b1, if_neg b1]
   refine ⟨st ++ [(x.1, blW x.2 n s)], ?_, by simp [hst], ?_⟩
   ·rw [need_lenbig (by simp; omega), need_lenbig (by simp; omega)]
    simp only [hni, need_true, List.length_append, List.length_cons, List.length_nil]
    have et : List.take ((rest x.2 n s).length + (0 + 1)) (rest x.2 n s ++ [wt x.2 s]) = blW x.2 n s := List.take_of_length_le (by simp)
    rw [et]
    simp
   ·cases blF n s post <;> simp
 ·rintro st hst
  simp only [g30_0, run_br, run_ret, br_d]
  rw [if_neg (by omega)]
  simp [blF]
theorem k5_0 (c : List Ch) (hl : c.length ≤ 1000) (hw : ∀ x ∈ c, x.2.length ≤ 1000) : iter (fun a => run (fun _ => none) (g5_0 a)) ((0 : Int), c, c, ()) = some (.inr ()) := by
 refine iter_list c (f := fun a => run (fun _ => none) (g5_0 a)) (fun k (_ : Unit) => ((k : Int), c, c, ())) (fun _ _ => Sum.inr ()) (fun _ _ => True) ?_ ?_ (s := ()) trivial
 ·rintro pre x post _ hxx -
  left
  have hlen : c.length = pre.length + (post.length + 1) := by rw [hxx]; simp
  have hd : c.getD pre.length ((0 : Int), []) = x := by rw [hxx]; exact getD_mid rfl
  have hin : inb (pre.length : Int) ((c.length : Nat) : Int) = true := inb_t (by omega) (by omega)
  have hni : rng .i64 ((pre.length : Int) + 1) = true := rng_i64 (by omega) (by omega)
  refine ⟨(), ?_, trivial, rfl⟩
  simp only [g5_0, run_br, run_bd, run_nb, run_ni, run_ret, br_d, br_not, br_eq, hin, hni, need_true, Int.toNat_natCast, hd]
  rw [if_pos (by omega), if_pos trivial, bind_of (k22 (hw x (by rw [hxx]; simp))), decide_eq_true rfl, br_true]
  simp
 ·rintro _ -
  simp only [g5_0, run_br, run_ret, br_d]
  rw [if_neg (by omega)]
theorem blF_mem {n s : Nat} : ∀ {c o : List Ch}, blF n s c = some o → o.length = c.length ∧ ∀ x ∈ o, x.2.length ≤ 7
 | [], o, h => by cases h; exact ⟨rfl, by simp⟩
 | y :: r, o, h => by
  simp only [blF] at h
  split at h
  ·cases h
  ·cases hr : blF n s r with
   | none => rw [hr] at h; cases h
   | some l =>
    rw [hr] at h; cases h
    obtain ⟨h1, h2⟩ := blF_mem hr
    refine ⟨by simp [h1], fun x hx => ?_⟩
    rcases List.mem_cons.1 hx with rfl | hx
    ·have := rest_len (ws := y.2) (n := n) (s := s)
     simp [blW]; omega
    ·exact h2 x hx
theorem law5 (a0 : List Ch × Unit) (l : List Int) (hW : WfAll [.prod (.list (.prod (.int .i64) (.list (.int .i64)))) .unit, .list (.int .i64)] (a0, l, ())) : run0 (F5 a0 l) = some (true, ()) := by
 obtain ⟨c, u⟩ := a0
 have hl := len_ok hW.1
 simp only [F5, run_bd, run_br, run_it, run_ret]
 rw [bind_of (k15 hl)]
 cases hL : largeC c
 case true => rw [br_true, bind_of works_ok]
 have h20 := large_len hL
 rw [br_false]
 by_cases h1 : 40 < l.length
 ·rw [decide_eq_true (by omega), br_true, bind_of works_ok]
 rw [decide_eq_false (by omega), br_false]
 simp only [br_not, br_eq]
 by_cases h : chk c = 0
 case neg =>
  rw [bind_of (k29_no h _), bind_of (k17 (by omega)), bind_of (k30_no h _), if_pos rfl, if_pos rfl, bind_of (k5_0 [] (by simp) (by simp))]
  simp only [run_sr, run_bd, run_ret]
  rw [bind_of works_ok]
 have hc := ok_of hL h
 generalize gro c = n at hc
 rw [bind_of (k29 hc h (by omega)), bind_of (k17 (by omega)), bind_of (k30 hc h (by omega)), if_pos rfl, if_pos rfl]
 have hb : (blR c n l).1.1.length ≤ 1000 ∧ ∀ x ∈ (blR c n l).1.1, x.2.length ≤ 1000 := by
  unfold blR
  split
  ·simp
  split
  ·simp
  cases hf : blF n (rd n l).1 c with
  | none => simp
  | some o =>
   obtain ⟨q1, q2⟩ := blF_mem hf
   exact ⟨by simp only; omega, fun x hx => by have := q2 x hx; omega⟩
 rw [bind_of (k5_0 _ hb.1 hb.2)]
 simp only [run_sr, run_bd, run_ret]
 rw [bind_of works_ok]
end Go.Proofs.Tryd
end
