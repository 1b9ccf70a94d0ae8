/- Tools for laws: rounds that count, find or keep something; needs. Rounds over a list, with a function that says what comes out. Plain Lean. Sets as numbers below 64: their growers, one after the other. Plain Lean. A council is valid: program and reference say the same. A set's weight, and whether it wins: the program's. The reference's sums and wins; councils out of parts; what is known of a council. Sets without some; swings and turns of the program. Swings and turns: the program's and the reference's. Swings and turns of the reference; the law of powers. Swings and turns are as stated. Which of two growers is stronger: the program and the reference. Lists of growers as sets; wins; exchanges: the program and the reference. Councils with blocs: the program and the reference. Councils by numbers; sets that win, without the reference. Sums over sets; sets that win, and lists of sets, without the reference. A bloc counts as one grower; a bloc of two has half of the swings of both. -/
import Derived.Test.YtdbjdjjcijgdfaaDoorG10
set_option linter.unusedSectionVars false
set_option linter.unusedVariables false
set_option linter.unusedSimpArgs false
section
namespace Go.AM
theorem need_u64 {X : Type} {z : Int} {x : Option X} (h1 : 0 ≤ z) (h2 : z ≤ 18446744073709551615) : need (rng .u64 z) x = x := need_t (rng_u64 h1 h2)
theorem bigL_eq : bigL = 1073741824 := by decide
theorem need_big {X : Type} {n : Nat} {x : Option X} (h : n < 1000000000) : need (decide (n < bigL)) x = x := need_d (by rw [bigL_eq]; omega)
theorem need_inbL {X : Type} {i : Int} {x : Option X} (h : 0 ≤ i) (h2 : i < 1000000000) : need (inb i ((bigL : Nat) : Int)) x = x := need_inb h (by rw [bigL_eq]; omega)
/-- Rounds that count, or end early with what was found. -/
theorem iter_find {α β γ : Type} {step : α → Option (α ⊕ β)} (n : Nat) (g : Nat → α) (stop : Nat → Option γ) (inj : γ → β) {b : β}
  (hr : ∀ k, k < n → (∀ j, j < k → stop j = none) → step (g k) = match stop k with | none => some (.inl (g (k + 1))) | some c => some (.inr (inj c))) (he : (∀ j, j < n → stop j = none) → step (g n) = some (.inr b)) :
  iter step (g 0) = some (((List.range n).findSome? stop).elim b inj) := by
 have key : ∀ m k, k + m = n → (∀ j, j < k → stop j = none) → iter step (g k) = some (((List.range' k m).findSome? stop).elim b inj) := by
  intro m
  induction m with
  | zero =>
   intro k hk hs
   have : k = n := by omega
   subst this
   simpa using iter_inr (he hs)
  | succ m ih =>
   intro k hk hs0
   have h := hr k (by omega) hs0
   rw [List.range'_succ, List.findSome?_cons]
   cases hs : stop k with
   | none =>
    rw [hs] at h
    refine iter_inl h (ih (k + 1) (by omega) fun j hj => ?_)
    by_cases e : j = k
    ·rw [e, hs]
    ·exact hs0 j (by omega)
   | some c => rw [hs] at h; exact iter_inr h
 rw [List.range_eq_range']
 exact key n 0 (by omega) (fun j hj => by omega)
/-- Rounds that count and keep something. -/
theorem iter_ex {α β : Type} {step : α → Option (α ⊕ β)} (n : Nat) (I : Nat → α → Prop) (Q : β → Prop) (hr : ∀ k x, k < n → I k x → ∃ y, step x = some (.inl y) ∧ I (k + 1) y) (he : ∀ x, I n x → ∃ b, step x = some (.inr b) ∧ Q b)
  {x : α} (h0 : I 0 x) : ∃ b, iter step x = some b ∧ Q b := by
 have key : ∀ m k x, k + m = n → I k x → ∃ b, iter step x = some b ∧ Q b := by
  intro m
  induction m with
  | zero =>
   intro k x hk hx
   have : k = n := by omega
   subst this
   obtain ⟨b, h1, h2⟩ := he x hx
   exact ⟨b, iter_inr h1, h2⟩
  | succ m ih =>
   intro k x hk hx
   obtain ⟨y, h1, h2⟩ := hr k x (by omega) hx
   obtain ⟨b, h3, h4⟩ := ih (k + 1) y (by omega) h2
   exact ⟨b, iter_inl h1 h3, h4⟩
 exact key n 0 x (by omega) h0
/-- Rounds over the items of a list: the state is what the items so far came to. -/
theorem iter_fold {α β γ σ : Type} {step : α → Option (α ⊕ β)} (l : List γ) (d : γ) (f : σ → γ → σ) (g : Nat → σ → α) (s0 : σ) (I : σ → Prop) {out : σ → β} (h0 : I s0)
  (hr : ∀ k s, k < l.length → I s → I (f s (l.getD k d)) ∧ step (g k s) = some (.inl (g (k + 1) (f s (l.getD k d))))) (he : ∀ s, I s → step (g l.length s) = some (.inr (out s))) :
  iter step (g 0 s0) = some (out (l.foldl f s0)) ∧ I (l.foldl f s0) := by
 have key : ∀ m k s, k + m = l.length → I s → iter step (g k s) = some (out ((l.drop k).foldl f s)) ∧ I ((l.drop k).foldl f s) := by
  intro m
  induction m with
  | zero =>
   intro k s hk hs
   rw [show k = l.length by omega, List.drop_length]
   exact ⟨iter_inr (he s hs), hs⟩
  | succ m ih =>
   intro k s hk hs
   obtain ⟨h1, h2⟩ := hr k s (by omega) hs
   obtain ⟨h3, h4⟩ := ih (k + 1) _ (by omega) h1
   have e : l.drop k = l.getD k d :: l.drop (k + 1) := by
    rw [List.drop_eq_getElem_cons (by omega)]; simp [List.getD_eq_getElem?_getD, List.getElem?_eq_getElem (show k < l.length by omega)]
   rw [e, List.foldl_cons]
   exact ⟨iter_inl h2 h3, h4⟩
 have := key l.length 0 s0 (by omega) h0
 simpa using this
theorem getD_take {α : Type} {l : List α} {k n : Nat} {d : α} (h : k < n) : (l.take n).getD k d = l.getD k d := by
 simp [List.getD_eq_getElem?_getD, List.getElem?_take, h]
theorem getD_mem {α : Type} {l : List α} {k : Nat} {d : α} (h : k < l.length) : l.getD k d ∈ l := by
 simp [List.getD_eq_getElem?_getD, List.getElem?_eq_getElem h]
theorem take_succ_getD {α : Type} {l : List α} {k : Nat} (d : α) (h : k < l.length) : l.take (k + 1) = l.take k ++ [l.getD k d] := by
 rw [List.take_succ_eq_append_getElem h]; simp [List.getD_eq_getElem?_getD, List.getElem?_eq_getElem h]
theorem getD_el {α : Type} {l : List α} {k : Nat} (d : α) (h : k < l.length) : l.getD k d = l[k] := by
 simp [List.getD_eq_getElem?_getD, List.getElem?_eq_getElem h]
theorem getD_out {α : Type} {l : List α} {k : Nat} (d : α) (h : l.length ≤ k) : l.getD k d = d := by
 simp [List.getD_eq_getElem?_getD, List.getElem?_eq_none h]
end Go.AM
end
section
namespace Go.AM
theorem getD_mid {α : Type} {A B : List α} {x d : α} {n : Nat} (h : n = A.length) : (A ++ x :: B).getD n d = x := by
 subst h; simp [List.getD_eq_getElem?_getD]
/-- Rounds over the items of a list: 'G' says what comes out of a state and the items that are left. -/
theorem iter_list {A B S X : Type} {f : A → Option (A ⊕ B)} (xs : List X) (mk : Nat → S → A) (G : S → List X → B) (Inv : List X → S → Prop)
  (hs : ∀ pre x post s, xs = pre ++ x :: post → Inv pre s →
   (∃ s', f (mk pre.length s) = some (.inl (mk (pre.length + 1) s')) ∧ Inv (pre ++ [x]) s' ∧ G s (x :: post) = G s' post) ∨ f (mk pre.length s) = some (.inr (G s (x :: post))))
  (he : ∀ s, Inv xs s → f (mk xs.length s) = some (.inr (G s []))) {s : S} (h0 : Inv [] s) : iter f (mk 0 s) = some (G s xs) := by
 have key : ∀ (post pre : List X) (s : S), xs = pre ++ post → Inv pre s → iter f (mk pre.length s) = some (G s post) := by
  intro post
  induction post with
  | nil =>
   intro pre s hx hi
   have : pre = xs := by rw [hx]; simp
   subst this
   exact iter_inr (he s hi)
  | cons x post ih =>
   intro pre s hx hi
   rcases hs pre x post s hx hi with ⟨s', h1, h2, h3⟩ | h1
   ·refine iter_inl h1 ?_
    rw [h3]
    have := ih (pre ++ [x]) s' (by rw [hx]; simp) h2
    simpa using this
   ·exact iter_inr h1
 exact key xs [] s (by simp) h0
theorem bind_eq {A X : Type} {o : Option A} {a : A} {f : A → Option X} {y : Option X} (h : o = some a) (e : f a = y) : bindO o f = y := by rw [h, bindO_s, e]
theorem bigL_val : ((bigL : Nat) : Int) = 1073741824 := by decide
theorem need_lenbig {X : Type} {n : Nat} {x : Option X} (h : n < 1000000000) : need (decide (n < bigL)) x = x := need_d (by have := bigL_val; omega)
end Go.AM
end
section
namespace Go.Cn
open Go.AM
/-- The growers of a set. -/
def els (s : Nat) : List Nat := (List.range 6).filter s.testBit
/-- The first of them. -/
def tzN (s : Nat) : Nat := ((List.range 6).find? s.testBit).getD 64
def low (s : Nat) : Nat := s &&& (s - 1)
/-- What is so of all small numbers is seen by trying them. -/
theorem all_lt {n : Nat} {p : Nat → Bool} (h : (List.range n).all p = true) {s : Nat} (hs : s < n) : p s = true := List.all_eq_true.1 h s (List.mem_range.2 hs)
theorem all_lt2 {n m : Nat} {p : Nat → Nat → Bool} (h : (List.range n).all (fun s => (List.range m).all (p s)) = true) {s i : Nat} (hs : s < n) (hi : i < m) : p s i = true := all_lt (all_lt h hs) hi
theorem els_zero : els 0 = [] := by decide
theorem els_cons {s : Nat} (hs : s < 64) (h : s ≠ 0) : els s = tzN s :: els (low s) := by
  have := all_lt (n := 64) (p := fun s => s == 0 || decide (els s = tzN s :: els (low s))) (by decide +kernel) hs
  simpa [h] using this
theorem low_lt {s : Nat} (hs : s < 64) (h : s ≠ 0) : low s < s := by
  have := all_lt (n := 64) (p := fun s => s == 0 || decide (low s < s)) (by decide +kernel) hs
  simpa [h] using this
theorem mem_els {s i : Nat} : i ∈ els s ↔ i < 6 ∧ s.testBit i = true := by simp [els]
/-- Below 2^n there are only the first n. -/
theorem els_upto {s n : Nat} (hn : n ≤ 6) (hs : s < 2 ^ n) : els s = (List.range n).filter s.testBit := by
  have := all_lt2 (n := 7) (m := 64) (p := fun n s => !(decide (s < 2 ^ n)) || decide (els s = (List.range n).filter s.testBit)) (by decide +kernel) (s := n) (i := s) (by omega) (by
    have : 2 ^ n ≤ 2 ^ 6 := Nat.pow_le_pow_right (by omega) hn
    omega)
  simpa [hs] using this
theorem tz_lt {s n : Nat} (hn : n ≤ 6) (hs : s < 2 ^ n) (h : s ≠ 0) : tzN s < n := by
  have h64 : s < 64 := by
    have : 2 ^ n ≤ 2 ^ 6 := Nat.pow_le_pow_right (by omega) hn
    omega
  have e := els_upto hn hs
  rw [els_cons h64 h] at e
  have : tzN s ∈ (List.range n).filter s.testBit := by rw [← e]; exact List.mem_cons_self ..
  exact List.mem_range.1 (List.mem_filter.1 this).1
theorem pow6 {n : Nat} (hn : n ≤ 6) : 2 ^ n ≤ 64 := Nat.pow_le_pow_right (by omega) hn
/-- Rounds over the growers of a set. -/
theorem iter_els {A B S : Type} {f : A → Option (A ⊕ B)} (mk : Nat → S → A) (G : S → List Nat → B) (Inv : Nat → S → Prop)
    (hs : ∀ s st, s < 64 → s ≠ 0 → Inv s st → (∃ st', f (mk s st) = some (.inl (mk (low s) st')) ∧ Inv (low s) st' ∧ G st (tzN s :: els (low s)) = G st' (els (low s))) ∨ f (mk s st) = some (.inr (G st (tzN s :: els (low s)))))
    (he : ∀ st, Inv 0 st → f (mk 0 st) = some (.inr (G st []))) : ∀ {s : Nat} {st : S}, s < 64 → Inv s st → iter f (mk s st) = some (G st (els s)) := by
  intro s
  induction s using Nat.strongRecOn with
  | ind s ih =>
    intro st h64 hi
    by_cases h0 : s = 0
    · subst h0; rw [els_zero]; exact iter_inr (he st hi)
    · rw [els_cons h64 h0]
      rcases hs s st h64 h0 hi with ⟨st', h1, h2, h3⟩ | h1
      · rw [h3]
        exact iter_inl h1 (ih _ (low_lt h64 h0) (by have := low_lt h64 h0; omega) h2)
      · exact iter_inr h1
/-- Rounds that count up, and carry something. -/
theorem iter_upto {A B S : Type} {f : A → Option (A ⊕ B)} (N : Nat) (mk : Nat → S → A) (G : S → Nat → B) (Inv : Nat → S → Prop)
    (hs : ∀ k st, k < N → Inv k st → (∃ st', f (mk k st) = some (.inl (mk (k + 1) st')) ∧ Inv (k + 1) st' ∧ G st k = G st' (k + 1)) ∨ f (mk k st) = some (.inr (G st k)))
    (he : ∀ st, Inv N st → f (mk N st) = some (.inr (G st N))) {s : S} (h0 : Inv 0 s) : iter f (mk 0 s) = some (G s 0) := by
  have key : ∀ m k s, k + m = N → Inv k s → iter f (mk k s) = some (G s k) := by
    intro m
    induction m with
    | zero => intro k s hk hi; have e : k = N := by omega
              subst e; exact iter_inr (he s hi)
    | succ m ih =>
      intro k s hk hi
      rcases hs k s (by omega) hi with ⟨s', h1, h2, h3⟩ | h1
      · rw [h3]; exact iter_inl h1 (ih (k + 1) s' (by omega) h2)
      · exact iter_inr h1
  exact key N 0 s (by omega) h0
/-! Operations on 64 els, on small numbers. -/
theorem u_with {s i : Nat} (hs : s < 64) (hi : i < 6) : ar0.bits IBin.or .u64 (s : Int) (ar0.shl (1 : Int) (i : Int)) = ((s ||| 2 ^ i : Nat) : Int) := by
  have := all_lt2 (n := 64) (m := 6) (p := fun s i => ar0.bits IBin.or .u64 (s : Int) (ar0.shl (1 : Int) (i : Int)) == ((s ||| 2 ^ i : Nat) : Int)) (by kernel_rfl) hs hi
  simpa using this
/-- A set without one. -/
def wo (s i : Nat) : Nat := if s.testBit i then s - 2 ^ i else s
theorem u_wo {s i : Nat} (hs : s < 64) (hi : i < 6) : ar0.bits IBin.andNot .u64 (s : Int) (ar0.shl (1 : Int) (i : Int)) = ((wo s i : Nat) : Int) := by
  have := all_lt2 (n := 64) (m := 6) (p := fun s i => ar0.bits IBin.andNot .u64 (s : Int) (ar0.shl (1 : Int) (i : Int)) == ((wo s i : Nat) : Int)) (by kernel_rfl) hs hi
  simpa using this
theorem u_low {s : Nat} (hs : s < 64) (h : s ≠ 0) : ar0.bits IBin.and .u64 (s : Int) ((s : Int) - 1) = ((low s : Nat) : Int) := by
  have := all_lt (n := 64) (p := fun s => s == 0 || ar0.bits IBin.and .u64 (s : Int) ((s : Int) - 1) == ((low s : Nat) : Int)) (by kernel_rfl) hs
  simpa [h] using this
theorem shl_one {i : Nat} (hi : i < 12) : ar0.shl (1 : Int) (i : Int) = ((2 ^ i : Nat) : Int) := by
  have := all_lt (n := 12) (p := fun i => ar0.shl (1 : Int) (i : Int) == ((2 ^ i : Nat) : Int)) (by kernel_rfl) hi
  simpa using this
theorem wo_lt {s i n : Nat} (hs : s < n) : wo s i < n := by
  have := Nat.sub_le s (2 ^ i)
  unfold wo; split <;> omega
theorem or_lt {s i n : Nat} (hn : n ≤ 6) (hs : s < 2 ^ n) (hi : i < n) : s ||| 2 ^ i < 2 ^ n := Nat.or_lt_two_pow hs (Nat.pow_lt_pow_right (by omega) hi)
end Go.Cn
end
section
namespace Go.Proofs.Tryd
open Go.AM Go.Cn
set_option maxRecDepth 100000
abbrev Ch := Int × List Int
def gro (c : List Ch) : Nat := (c.getD 0 ((0 : Int), [])).2.length
def badW (z : Int) : Bool := !decide (0 ≤ z ∧ z ≤ 1000000)
def okCh (n : Nat) (x : Ch) : Int := if x.2.length ≠ n then 3 else if ¬ (1 ≤ x.1 ∧ x.1 ≤ 10000000) then 2 else if x.2.any badW = true then 2 else 0
def chkL (n : Nat) : List Ch → Int
 | [] => 0
 | x :: r => if okCh n x ≠ 0 then okCh n x else chkL n r
def chk (c : List Ch) : Int := if c.length = 0 then 4 else if 3 < c.length then 1 else if gro c = 0 then 4 else if 9 < gro c then 1 else chkL (gro c) c
def largeOne (x : Ch) : Bool := (decide (6 < x.2.length) && decide (x.2.length ≤ 9)) || decide (40 < x.2.length)
def largeC (c : List Ch) : Bool := decide (20 < c.length) || c.any largeOne
theorem k67 (a b c : Int) : run0 (F67 a b c) = some (decide (a ≤ b ∧ b ≤ c), ()) := by
 simp only [F67, run_br, run_ret, br_d]
 by_cases h : a ≤ b
 ·rw [if_pos h]; simp [h]
 ·rw [if_neg h]; simp [h]
theorem k91 {c : List Ch} (h : 0 < c.length) : run0 (F91 c) = some (((gro c : Nat) : Int), ()) := by
 simp only [F91, run_nb, run_ret]
 rw [need_inb (by omega) (by omega)]; rfl
theorem k92 (z : Int) : run0 (F92 z) = some (badW z, ()) := by
 simp only [F92, run_bd, k67, bindO_s, run_ret, badW]
theorem k15 {c : List Ch} (hc : c.length < 9223372036854775808) : run0 (F15 c) = some (largeC c, ()) := by
 simp only [F15, run_bd, run_it]
 refine bind_eq (iter_list c (fun k (s : Bool) => (s, (k : Int), c, ())) (fun s r => (s || r.any largeOne, ())) (fun _ _ => True) ?_ ?_ (s := decide ((20 : Int) < ((c.length : Nat) : Int))) trivial) ?_
 ·rintro pre x post s hx -
  left
  have hlen : c.length = pre.length + (post.length + 1) := by rw [hx]; simp
  have hd : c.getD pre.length ((0 : Int), []) = x := by rw [hx]; exact getD_mid rfl
  refine ⟨s || largeOne x, ?_, trivial, by simp [Bool.or_assoc]⟩
  have hin : inb (pre.length : Int) ((c.length : Nat) : Int) = true := inb_t (by omega) (by omega)
  have hni : rng .i64 ((pre.length : Int) + 1) = true := rng_i64 (by omega) (by omega)
  simp only [g15_0, run_br, run_nb, run_ni, run_ret, Int.toNat_natCast, hd, br_d, hin, hni, need_true]
  rw [if_pos (by omega)]
  cases s
  ·simp only [brO_false, largeOne, Bool.false_or]
   by_cases h1 : 6 < x.2.length
   ·rw [if_pos (by omega)]
    by_cases h2 : x.2.length ≤ 9
    ·rw [if_pos (by omega)]; simp [h1, h2]
    ·rw [if_neg (by omega)]; simp [h1, h2]
     omega
   ·rw [if_neg (by omega)]; simp [h1]
    omega
  ·simp
 ·intro s _
  simp only [g15_0, run_br, run_ret, br_d]
  rw [if_neg (by omega)]; simp
 ·simp only [run_ret, largeC]
  congr 3
  have e : decide ((20 : Int) < ((c.length : Nat) : Int)) = decide (20 < c.length) := by
   apply decide_eq_decide.2; omega
  rw [e]
theorem k105 {l : List Int} (hl : l.length < 1000) : ∃ k : Int, run0 (F105 l) = some (k, ()) ∧ (0 ≤ k ↔ l.any badW = true) := by
 simp only [F105, run_bd, run_it]
 have := iter_list l (f := fun a => run (fun _ => none) (g105_0 a)) (fun k (s : Nat) => (l, ((l.length : Nat) : Int), (k : Int), ())) (fun s r => match r.findIdx? badW with | some k => .inl (((s + k : Nat) : Int), ()) | none => .inr ()) (fun pre s => s = pre.length) ?_ ?_ (s := 0) rfl
 ·replace this : iter (fun a => run (fun _ => none) (g105_0 a)) (l, ((l.length : Nat) : Int), (0 : Int), ()) = _ := this
  rw [bind_of this]
  cases hf : l.findIdx? badW with
  | none =>
   simp only [run_sr, run_ret]
   exact ⟨-1, rfl, by simp only [show ¬ ((0 : Int) ≤ -1) by omega, false_iff]; simpa using List.findIdx?_eq_none_iff.1 hf⟩
  | some k =>
   simp only [run_sl, run_ret]
   refine ⟨_, rfl, by
    simp only [show (0 : Int) ≤ ((0 + k : Nat) : Int) by omega, true_iff]
    obtain ⟨hk, h1, _⟩ := List.findIdx?_eq_some_iff_getElem.1 hf
    exact List.any_eq_true.2 ⟨_, List.getElem_mem hk, h1⟩⟩
 ·rintro pre x post s hx rfl
  have hlen : l.length = pre.length + (post.length + 1) := by rw [hx]; simp
  have hd : l.getD pre.length (0 : Int) = x := by rw [hx]; exact getD_mid rfl
  have hin : inb (pre.length : Int) ((l.length : Nat) : Int) = true := inb_t (by omega) (by omega)
  have hni : rng .i64 ((pre.length : Int) + 1) = true := rng_i64 (by omega) (by omega)
  simp only [g105_0, run_br, run_bd, run_nb, run_ni, run_ret, Int.toNat_natCast, hd, br_d, hin, hni, need_true, k92, bindO_s]
  rw [if_pos (by omega)]
  cases hb : badW x
  ·left
   refine ⟨pre.length + 1, by simp, by simp, ?_⟩
   rw [List.findIdx?_cons, hb]
   cases post.findIdx? badW with
   | none => rfl
   | some k => simp; omega
  ·right
   rw [List.findIdx?_cons, hb]; simp
 ·rintro s rfl
  simp only [g105_0, run_br, run_ret, br_d]
  rw [if_neg (by omega)]; rfl
theorem k93 {l : List Int} (hl : l.length < 1000) : run0 (F93 l) = some (l.any badW, ()) := by
 obtain ⟨k, h1, h2⟩ := k105 hl
 simp only [F93, run_bd, run_ret]
 rw [bind_of h1]
 congr 2
 cases h : l.any badW
 ·rw [h] at h2; simp only [decide_eq_false_iff_not]; intro e; exact absurd (h2.1 e) (by simp)
 ·rw [h] at h2; simp only [decide_eq_true_eq]; exact h2.2 rfl
theorem k41 (c : List Ch) : run0 (F41 c) = some (chk c, ()) := by
 simp only [F41, run_br, run_ret, br_eq, br_d, chk]
 by_cases h0 : c.length = 0
 ·rw [if_pos (by omega), if_pos h0]
 rw [if_neg (by omega), if_neg h0]
 by_cases h1 : 3 < c.length
 ·rw [if_pos (by omega), if_pos h1]
 rw [if_neg (by omega), if_neg h1]
 simp only [run_bd, k91 (show 0 < c.length by omega), bindO_s, run_br, br_eq, br_d, run_ret]
 by_cases h2 : gro c = 0
 ·rw [if_pos (by omega), if_pos h2]
 rw [if_neg (by omega), if_neg h2]
 by_cases h3 : 9 < gro c
 ·rw [if_pos (by omega), if_pos h3]
 rw [if_neg (by omega), if_neg h3]
 simp only [run_it]
 refine bind_eq (iter_list c (fun k (s : Unit) => (c, ((c.length : Nat) : Int), (k : Int), c, ())) (fun _ r => if chkL (gro c) r = 0 then Sum.inr () else Sum.inl (chkL (gro c) r, ())) (fun _ _ => True) ?_ ?_ (s := ()) trivial) ?_
 ·rintro pre x post s hx -
  have hlen : c.length = pre.length + (post.length + 1) := by rw [hx]; simp
  have hd : c.getD pre.length ((0 : Int), []) = x := by rw [hx]; exact getD_mid rfl
  have hin : inb (pre.length : Int) ((c.length : Nat) : Int) = true := inb_t (by omega) (by omega)
  have hni : rng .i64 ((pre.length : Int) + 1) = true := rng_i64 (by omega) (by omega)
  simp only [g41_0, run_br, run_bd, run_nb, run_ni, run_ret, Int.toNat_natCast, hd, br_d, br_eq, br_not, hin, hni, need_true, k91 (show 0 < c.length by omega), k67, bindO_s]
  rw [if_pos (by omega)]
  by_cases h4 : x.2.length = gro c
  case neg =>
   right
   rw [if_neg (by omega)]
   simp [chkL, okCh, h4]
  rw [if_pos (by omega)]
  by_cases h5 : 1 ≤ x.1 ∧ x.1 ≤ 10000000
  case neg =>
   right
   rw [if_neg h5]
   simp only [chkL, okCh, if_neg (not_not_intro h4), if_pos h5]; simp
  rw [if_pos h5, bind_of (k93 (show x.2.length < 1000 by omega))]
  cases h6 : x.2.any badW
  ·left
   refine ⟨(), by simp, trivial, ?_⟩
   simp [chkL, okCh, h4, h5, h6]
  ·right
   simp [chkL, okCh, h4, h5, h6]
 ·intro s _
  simp only [g41_0, run_br, run_ret, br_d]
  rw [if_neg (by omega)]; simp [chkL]
 ·cases h : decide (chkL (gro c) c = 0)
  ·have h' := of_decide_eq_false h
   simp only [if_neg h', run_sl, run_ret]
  ·have h' := of_decide_eq_true h
   simp only [if_pos h', run_sr, run_ret]; rw [h']
end Go.Proofs.Tryd
end
section
namespace Go.Proofs.Tryd
open Go.AM Go.Cn
set_option maxRecDepth 100000
/-- The weight of a set. -/
def wt (ws : List Int) (s : Nat) : Int := ((els s).map fun i => ws.getD i 0).sum
/-- A set wins in a chamber; in all. -/
def win1 (s : Nat) (x : Ch) : Bool := decide (x.1 ≤ wt x.2 s)
def winB (c : List Ch) (s : Nat) : Bool := c.all (win1 s)
/-- A chamber of n growers. -/
structure OkX (n : Nat) (x : Ch) : Prop where
 len : x.2.length = n
 q1 : 1 ≤ x.1
 q2 : x.1 ≤ 10000000
 w : ∀ z ∈ x.2, 0 ≤ z ∧ z ≤ 1000000
/-- A council of n growers, not too large. -/
structure OkC (n : Nat) (c : List Ch) : Prop where
 c1 : 1 ≤ c.length
 c3 : c.length ≤ 3
 n1 : 1 ≤ n
 n6 : n ≤ 6
 gro : gro c = n
 ch : ∀ x ∈ c, OkX n x
theorem OkX.get {n : Nat} {x : Ch} (h : OkX n x) (i : Nat) : 0 ≤ x.2.getD i 0 ∧ x.2.getD i 0 ≤ 1000000 := by
 by_cases hi : i < x.2.length
 ·rw [show x.2.getD i 0 = x.2[i] by simp [List.getD, hi]]; exact h.w _ (List.getElem_mem hi)
 ·rw [show x.2.getD i 0 = 0 by simp [List.getD, hi]]; omega
theorem k101 {s : Nat} (hs : s < 64) (h : s ≠ 0) : run0 (F101 (s : Int)) = some (((tzN s : Nat) : Int), ()) := by
 have := all_lt (n := 64) (p := fun s => s == 0 || decide (cmp 40 (fun _ => none) (F101 ((s : Nat) : Int)) = some (((tzN s : Nat) : Int), ()))) (by kernel_rfl) hs
 simp only [Bool.or_eq_true, beq_iff_eq, h, false_or, decide_eq_true_eq] at this
 exact cmp_done 40 this
theorem els_len {s : Nat} : (els s).length ≤ 6 := by
 have := List.length_filter_le s.testBit (List.range 6)
 simpa [els] using this
theorem k78 {n s : Nat} {x : Ch} (hx : OkX n x) (hn : n ≤ 6) (hs : s < 2 ^ n) : run0 (F78 x (s : Int)) = some (wt x.2 s, ()) := by
 have h64 : s < 64 := Nat.lt_of_lt_of_le hs (pow6 hn)
 simp only [F78, FH77, g78_0, run_bd, run_it, run_ret, bindO_s]
 refine bind_eq (a := (wt x.2 s, ())) (bind_eq (iter_els (fun s' (st : Int) => ((0 : Int), (s' : Int), x.1, x.2, st, ())) (fun st r => (x.1, x.2, st + (r.map fun i => x.2.getD i 0).sum, (0 : Int), (0 : Int), ()))
  (fun s' st => s' < 2 ^ n ∧ 0 ≤ st ∧ st + 1000000 * ((els s').length : Int) ≤ 6000000) ?_ ?_ (s := s) (st := 0) h64 ⟨hs, by omega, by have := els_len (s := s); omega⟩) ?_) rfl
 ·rintro s' st h64 h0 ⟨hs', b1, b2⟩
  left
  have ht := tz_lt hn hs' h0
  have hl := low_lt h64 h0
  have hw := hx.get (tzN s')
  have e := congrArg List.length (els_cons h64 h0)
  rw [List.length_cons] at e
  refine ⟨st + x.2.getD (tzN s') 0, ?_, ⟨by omega, by omega, by omega⟩, ?_⟩
  ·have hin : inb ((tzN s' : Nat) : Int) ((x.2.length : Nat) : Int) = true := inb_t (by omega) (by have := hx.len; omega)
   have hni : rng .i64 (st + x.2.getD (tzN s') 0) = true := rng_i64 (by omega) (by omega)
   have hnu : rng .u64 ((s' : Int) - 1) = true := rng_u64 (by omega) (by omega)
   simp only [g78_0i_0, run_br, run_bd, run_nb, run_ni, run_nd, run_ret, br_not, br_eq, k101 h64 h0, bindO_s, Int.toNat_natCast, hin, hni, hnu, need_true, u_low h64 h0]
   rw [if_neg (by omega)]
  ·simp only [List.map_cons, List.sum_cons, Int.add_assoc]
 ·rintro st -
  simp only [g78_0i_0, run_br, run_ret, br_not, br_eq]
  simp
 ·simp only [wt, Int.zero_add]
theorem k84 {n s : Nat} {x : Ch} (hx : OkX n x) (hn : n ≤ 6) (hs : s < 2 ^ n) : run0 (F84 x (s : Int)) = some (win1 s x, ()) := by
 simp only [F84, run_bd, run_ret]
 rw [bind_of (k78 hx hn hs)]; rfl
theorem k104 {n s : Nat} {x : Ch} (hx : OkX n x) (hn : n ≤ 6) (hs : s < 2 ^ n) : run0 (F104 x.1 x.2 (s : Int)) = some (!win1 s x, ()) := by
 simp only [F104, run_bd, run_ret]
 rw [bind_of (k84 (x := x) hx hn hs)]
theorem k113 {n s : Nat} {c : List Ch} (hc : ∀ x ∈ c, OkX n x) (hl : c.length < 1000) (hn : n ≤ 6) (hs : s < 2 ^ n) : ∃ k : Int, run0 (F113 c (s : Int)) = some (k, ()) ∧ (0 ≤ k ↔ winB c s = false) := by
 simp only [F113, run_bd, run_it]
 have := iter_list c (f := fun a => run (fun _ => none) (g113_0 a)) (fun k (_ : Unit) => (c, (s : Int), ((c.length : Nat) : Int), (k : Int), ())) (fun _ r => match r.findIdx? (fun x => !win1 s x) with | some k => .inl (((c.length - r.length + k : Nat) : Int), ()) | none => .inr ()) (fun _ _ => True) ?_ ?_ (s := ()) trivial
 ·replace this : iter (fun a => run (fun _ => none) (g113_0 a)) (c, (s : Int), ((c.length : Nat) : Int), (0 : Int), ()) = _ := this
  rw [bind_of this]
  cases hf : c.findIdx? (fun x => !win1 s x) with
  | none =>
   simp only [run_sr, run_ret]
   refine ⟨-1, rfl, ?_⟩
   have h := List.findIdx?_eq_none_iff.1 hf
   have : winB c s = true := List.all_eq_true.2 fun x hx => by simpa using h x hx
   simp [this]
  | some k =>
   simp only [run_sl, run_ret]
   obtain ⟨hk, h1, _⟩ := List.findIdx?_eq_some_iff_getElem.1 hf
   refine ⟨_, rfl, ?_⟩
   have : winB c s = false := by
    rw [Bool.eq_false_iff]
    intro h
    have := List.all_eq_true.1 h _ (List.getElem_mem hk)
    rw [this] at h1; cases h1
   rw [this]
   simp only [iff_true]
   omega
 ·rintro pre x post _ hxx -
  have hlen : c.length = pre.length + (post.length + 1) := by rw [hxx]; simp
  have hd : c.getD pre.length ((0 : Int), []) = x := by rw [hxx]; exact getD_mid rfl
  have hx : OkX n x := hc x (by rw [hxx]; simp)
  have hin : inb (pre.length : Int) ((c.length : Nat) : Int) = true := inb_t (by omega) (by omega)
  have hni : rng .i64 ((pre.length : Int) + 1) = true := rng_i64 (by omega) (by omega)
  simp only [g113_0, run_br, run_bd, run_nb, run_ni, run_ret, Int.toNat_natCast, hd, br_d, hin, hni, need_true, k104 hx hn hs, bindO_s]
  rw [if_pos (by omega)]
  cases hb : win1 s x
  ·right
   rw [List.findIdx?_cons]
   have e : c.length - (x :: post).length = pre.length := by rw [List.length_cons]; omega
   simp only [hb, Bool.not_false, if_true, brO_true, e, Nat.add_zero]
  ·left
   refine ⟨(), by simp, trivial, ?_⟩
   rw [List.findIdx?_cons]
   simp only [hb, Bool.not_true, Bool.false_eq_true, if_false]
   cases post.findIdx? (fun x => !win1 s x) with
   | none => rfl
   | some k => simp; omega
 ·rintro _ -
  simp only [g113_0, run_br, run_ret, br_d]
  rw [if_neg (by omega)]; rfl
theorem k103 {n s : Nat} {c : List Ch} (hc : OkC n c) (hs : s < 2 ^ n) : run0 (F103 c (s : Int)) = some (!winB c s, ()) := by
 obtain ⟨k, h1, h2⟩ := k113 hc.ch (by have := hc.c3; omega) hc.n6 hs
 simp only [F103, run_bd, run_ret]
 rw [bind_of h1]
 congr 2
 cases h : winB c s
 ·rw [h] at h2; simp only [Bool.not_false, decide_eq_true_eq]; exact h2.2 rfl
 ·rw [h] at h2; simp only [Bool.not_true, decide_eq_false_iff_not]; intro e; exact absurd (h2.1 e) (by simp)
theorem k83 {n s : Nat} {c : List Ch} (hc : OkC n c) (hs : s < 2 ^ n) : run0 (F83 c (s : Int)) = some (winB c s, ()) := by
 simp only [F83, run_bd, run_ret]
 rw [bind_of (k103 hc hs), Bool.not_not]
end Go.Proofs.Tryd
end
section
namespace Go.Proofs.Tryd
open Go.AM Go.Cn
set_option maxRecDepth 100000
theorem wt_range {n s : Nat} {ws : List Int} (hn : n ≤ 6) (hs : s < 2 ^ n) : wt ws s = (((List.range n).filter s.testBit).map fun i => ws.getD i 0).sum := by
 rw [wt, els_upto hn hs]
def dropL (but : Int) : Nat → List Ch → List Ch
 | _, [] => []
 | k, x :: r => if (k : Int) = but then dropL but (k + 1) r else x :: dropL but (k + 1) r
theorem drop_none : ∀ (k : Nat) (c : List Ch), dropL (-1) k c = c
 | _, [] => rfl
 | k, x :: r => by
  simp only [dropL, drop_none (k + 1) r]
  rw [if_neg (by omega)]
theorem k81 (c : List Ch) (hl : c.length < 1000) (but : Int) : run0 (F81 c but) = some (dropL but 0 c, ()) := by
 simp only [F81, run_bd, run_it]
 refine bind_eq (iter_list c (fun k (st : List Ch) => (but, st.length, c, ((c.length : Nat) : Int), (k : Int), st, ())) (fun st r => ((st ++ dropL but (c.length - r.length) r).length, st ++ dropL but (c.length - r.length) r, ())) (fun pre st => st.length ≤ pre.length) ?_ ?_ (s := []) (by simp)) ?_
 ·rintro pre x post st hxx hst
  left
  have hlen : c.length = pre.length + (post.length + 1) := by rw [hxx]; simp
  have hd : c.getD pre.length ((0 : Int), []) = x := by rw [hxx]; exact getD_mid rfl
  have hin : inb (pre.length : Int) ((c.length : Nat) : Int) = true := inb_t (by omega) (by omega)
  have hni : rng .i64 ((pre.length : Int) + 1) = true := rng_i64 (by omega) (by omega)
  have e1 : c.length - (x :: post).length = pre.length := by simp; omega
  have e2 : c.length - post.length = pre.length + 1 := by omega
  simp only [g81_0, run_br, run_bd, run_nb, run_nd, run_ni, run_ret, Int.toNat_natCast, hd, br_d, br_eq, br_not, hin, hni, need_true]
  rw [if_pos (by omega)]
  simp only [e1, e2, dropL]
  by_cases hb : (pre.length : Int) = but
  ·rw [if_pos hb]
   exact ⟨st, rfl, by simp; omega, by simp [hb]⟩
  ·rw [if_neg hb]
   refine ⟨st ++ [x], ?_, by simp; omega, by simp [hb]⟩
   rw [need_lenbig (by simp; omega)]
   simp
 ·rintro st -
  simp only [g81_0, run_br, run_ret, br_d]
  rw [if_neg (by omega)]; simp [dropL]
 ·have e : c.length - c.length = 0 := by omega
  simp only [e, run_ret]; simp
theorem k66 {n : Nat} {c : List Ch} (hc : OkC n c) (h : chk c = 0) : run0 (F66 c) = some (.inr (c, c, (n : Int), ((2 ^ n - 1 : Nat) : Int), 0, ())) := by
 have h1 := hc.c1
 have h3 := hc.c3
 have hn := hc.n6
 simp only [F66, run_bd, run_br, run_ret, k41, bindO_s, br_not, br_eq]
 rw [if_pos h, bind_of (k81 c (by omega) _), drop_none]
 have hp : 0 < 2 ^ n := Nat.pow_pos (by omega)
 have hp2 := pow6 hn
 have e : (((2 ^ n : Nat) : Int) - 1) = ((2 ^ n - 1 : Nat) : Int) := by omega
 simp only [k91 (show 0 < c.length by omega), hc.gro, bindO_s, run_nb, run_nd, run_ret, shl_one (show n < 12 by omega)]
 rw [need_inb (by omega) (by omega), need_t (rng_u64 (by omega) (by omega)), need_t (rng_u64 (by omega) (by omega)), e]
end Go.Proofs.Tryd
end
section
namespace Go.Proofs.Tryd
open Go.AM Go.Cn
set_option maxRecDepth 100000
theorem u_rng {i : Nat} (hi : i < 6) : rng .u64 (ar0.shl (1 : Int) (i : Int)) = true := by
 have := all_lt (n := 6) (p := fun i => rng .u64 (ar0.shl (1 : Int) (i : Int))) (by kernel_rfl) hi
 exact this
theorem wo_eq {s i : Nat} (hs : s < 64) (hi : i < 6) : (((s : Nat) : Int) = ((wo s i : Nat) : Int)) ↔ s.testBit i = false := by
 have := all_lt2 (n := 64) (m := 6) (p := fun s i => decide ((((s : Nat) : Int) = ((wo s i : Nat) : Int)) ↔ s.testBit i = false)) (by kernel_rfl) hs hi
 exact of_decide_eq_true this
/-- A set without those of a list. -/
def woL (s : Nat) (l : List Nat) : Nat := l.foldl wo s
abbrev ints (l : List Nat) : List Int := l.map fun i : Nat => (i : Int)
theorem k90 {s : Nat} {l : List Nat} (hs : s < 64) (hl : ∀ i ∈ l, i < 6) (hn : l.length < 1000) : run0 (F90 (s : Int) (ints l)) = some (((woL s l : Nat) : Int), ()) := by
 simp only [F90, run_bd, run_it]
 refine bind_eq (iter_list l (fun k (st : Nat) => ((st : Int), ints l, (((ints l).length : Nat) : Int), (k : Int), ())) (fun st r => (((woL st r : Nat) : Int), ())) (fun _ st => st < 64) ?_ ?_ (s := s) hs) ?_
 ·rintro pre x post st hx hst
  left
  have hlen : l.length = pre.length + (post.length + 1) := by rw [hx]; simp
  have hd : (ints l).getD pre.length (0 : Int) = (x : Int) := by
   rw [hx]; simp only [ints, List.map_append, List.map_cons]
   exact getD_mid (by simp)
  have hx6 : x < 6 := hl x (by rw [hx]; simp)
  have hin : inb (pre.length : Int) (((ints l).length : Nat) : Int) = true := inb_t (by omega) (by simp; omega)
  have hni : rng .i64 ((pre.length : Int) + 1) = true := rng_i64 (by omega) (by omega)
  have hi6 : inb (x : Int) 64 = true := inb_t (by omega) (by omega)
  refine ⟨wo st x, ?_, wo_lt hst, rfl⟩
  simp only [g90_0, run_br, run_nb, run_ni, run_nd, run_ret, Int.toNat_natCast, hd, br_d, hin, hni, hi6, need_true, u_rng hx6, u_wo hst hx6]
  rw [if_pos (by simp; omega)]; rfl
 ·rintro st -
  simp only [g90_0, run_br, run_ret, br_d]
  rw [if_neg (by simp)]; rfl
 ·rfl
/-- A sum over some of the numbers from k on. -/
def sumF (p : Nat → Bool) (f : Nat → Int) (k m : Nat) : Int := (((List.range' k m).filter p).map f).sum
theorem sumF_zero {p : Nat → Bool} {f : Nat → Int} {k : Nat} : sumF p f k 0 = 0 := rfl
theorem sumF_yes {p : Nat → Bool} {f : Nat → Int} {k m : Nat} (h : p k = true) : sumF p f k (m + 1) = f k + sumF p f (k + 1) m := by
 simp [sumF, List.range'_succ, h]
theorem sumF_no {p : Nat → Bool} {f : Nat → Int} {k m : Nat} (h : p k = false) : sumF p f k (m + 1) = sumF p f (k + 1) m := by
 simp [sumF, List.range'_succ, h]
/-- A grower swings a set. -/
def swingB (c : List Ch) (i s : Nat) : Bool := !s.testBit i && (!winB c s && winB c (s ||| 2 ^ i))
def pw (c : List Ch) (n : Nat) (f : Nat → Int) (i : Nat) : Int := sumF (swingB c i) f 0 (2 ^ n)
def pws (c : List Ch) (n : Nat) (f : Nat → Int) : List Int := (List.range n).map (pw c n f)
theorem k74 {s i n : Nat} (hn : n ≤ 6) (hs : s < 2 ^ n) (hi : i < n) : run0 (F74 (s : Int) (i : Int)) = some (((s ||| 2 ^ i : Nat) : Int), ()) := by
 have h64 : s < 64 := Nat.lt_of_lt_of_le hs (pow6 hn)
 simp only [F74, run_nb, run_nd, run_ret, u_rng (show i < 6 by omega), need_true, u_with h64 (show i < 6 by omega)]
 rw [need_inb (by omega) (by omega)]
theorem k59 {a b : List Ch} {x y z : Int} : run0 (F59 a b x y z) = some (1, ()) := rfl
theorem inc_u {k n : Nat} (hn : n ≤ 6) (hk : k < 2 ^ n) : rng .u64 ((k : Int) + 1) = true := by
 have := pow6 hn
 exact rng_u64 (by omega) (by omega)
theorem k98s {c : List Ch} {n i : Nat} (hc : OkC n c) (hi : i < n) : run0 (F98_v1 (i : Int) c c (n : Int) ((2 ^ n - 1 : Nat) : Int)) = some (pw c n (fun _ => 1) i, ()) := by
 have hn := hc.n6
 have hp : 0 < 2 ^ n := Nat.pow_pos (by omega)
 have h64 := pow6 hn
 simp only [F98_v1, F82_v1, g98_v1_0, run_bd, run_it, run_ret, bindO_s, List.drop_zero, List.take_succ_cons, List.take_zero]
 refine bind_eq (a := (pw c n (fun _ => 1) i, ())) (bind_eq (iter_upto (2 ^ n) (fun k (st : Int) => (c, c, (n : Int), ((2 ^ n - 1 : Nat) : Int), [(i : Int)], (k : Int), c, c, (n : Int), ((2 ^ n - 1 : Nat) : Int), (0 : Int), c, c, (n : Int), ((2 ^ n - 1 : Nat) : Int), [(i : Int)], (i : Int), st, ()))
  (fun st k => ((i : Int), st + sumF (swingB c i) (fun _ => 1) k (2 ^ n - k), c, c, (n : Int), ((2 ^ n - 1 : Nat) : Int), (0 : Int), c, c, (n : Int), ((2 ^ n - 1 : Nat) : Int), [(i : Int)], ()))
  (fun k st => 0 ≤ st ∧ st ≤ (k : Int)) ?_ ?_ (s := 0) ⟨by omega, by omega⟩) ?_) rfl
 ·rintro k st hk ⟨b1, b2⟩
  left
  have hb : run (fun _ => none) (F90 (k : Int) [(i : Int)]) = _ := k90 (s := k) (l := [i]) (by omega) (by simp; omega) (by simp)
  have e : 2 ^ n - k = (2 ^ n - (k + 1)) + 1 := by omega
  have hw : run (fun _ => none) (F83 c (k : Int)) = _ := k83 hc hk
  have hw2 : run (fun _ => none) (F83 c ((k ||| 2 ^ i : Nat) : Int)) = _ := k83 hc (or_lt hn hk hi)
  have hni : rng .i64 (st + 1) = true := rng_i64 (by omega) (by omega)
  simp only [g98_v1_0i_0, run_br, run_bd, run_ni, run_nd, run_ret, br_d, br_eq, br_not, inc_u hn hk, need_true]
  rw [if_pos (by omega), bind_of hb]
  simp only [woL, List.foldl_cons, List.foldl_nil, wo_eq (show k < 64 by omega) (show i < 6 by omega), hw, k74 hn hk hi, hw2, bindO_s, k59, hni, need_true]
  rw [e]
  cases h1 : k.testBit i
  case true =>
   refine ⟨st, by simp, ⟨by omega, by omega⟩, ?_⟩
   rw [sumF_no (by simp [swingB, h1])]
  cases h2 : winB c k
  case true =>
   refine ⟨st, by simp, ⟨by omega, by omega⟩, ?_⟩
   rw [sumF_no (by simp [swingB, h1, h2])]
  cases h3 : winB c (k ||| 2 ^ i)
  case false =>
   refine ⟨st, by simp, ⟨by omega, by omega⟩, ?_⟩
   rw [sumF_no (by simp [swingB, h1, h2, h3])]
  ·refine ⟨st + 1, by simp, ⟨by omega, by omega⟩, ?_⟩
   rw [sumF_yes (by simp [swingB, h1, h2, h3])]
   simp only [Int.add_assoc]
 ·rintro st -
  simp only [g98_v1_0i_0, run_br, run_ret, br_d]
  rw [if_neg (by omega)]
  simp [sumF_zero]
 ·simp only [run_ret, pw, Nat.sub_zero, Int.zero_add]
end Go.Proofs.Tryd
end
section
namespace Go.Proofs.Tryd
open Go.AM Go.Cn
set_option maxRecDepth 100000
theorem dt1 {α : Type} (x : α) : List.take 1 (List.drop 0 [x]) = [x] := rfl
theorem tk1 {α : Type} (x : α) : List.take 1 [x] = [x] := rfl
theorem map_range' {α : Type} (f : Nat → α) {k n : Nat} (h : k < n) : (List.range' k (n - k)).map f = f k :: (List.range' (k + 1) (n - (k + 1))).map f := by
 have e : n - k = (n - (k + 1)) + 1 := by omega
 rw [e, List.range'_succ, List.map_cons]
/-- 'each' of a council: rounds that put one number more behind a list. -/
theorem each_ok {A B : Type} {f : A → Option (A ⊕ B)} {n : Nat} (mk : Nat → List Int → A) (fin : List Int → B) (p : Nat → Int)
  (hs : ∀ k st, k < n → st.length = k → f (mk k st) = some (.inl (mk (k + 1) (st ++ [p k])))) (he : ∀ st, st.length = n → f (mk n st) = some (.inr (fin st))) :
  iter f (mk 0 []) = some (fin ((List.range n).map p)) := by
 have := iter_upto (f := f) n mk (fun st k => fin (st ++ (List.range' k (n - k)).map p)) (fun k st => st.length = k) (fun k st hk hi => .inl ⟨st ++ [p k], hs k st hk hi, by simp [hi], by
  rw [map_range' p hk]; simp⟩) (fun st hi => by rw [he st hi]; simp) (s := []) rfl
 rw [this]; simp [List.range_eq_range']
theorem k87_v3 {c : List Ch} {n : Nat} (hc : OkC n c) : run0 (F87_v3 c c (n : Int) ((2 ^ n - 1 : Nat) : Int) c c (n : Int) ((2 ^ n - 1 : Nat) : Int)) = some (pws c n (fun _ => 1), ()) := by
 have hn := hc.n6
 simp only [F87_v3, run_bd, run_it]
 refine bind_eq (each_ok (n := n) (fun k st => (c, c, (n : Int), ((2 ^ n - 1 : Nat) : Int), st.length, (n : Int), (k : Int), st, ())) (fun st => (st.length, st, ())) (pw c n fun _ => 1) (fun k st hk hi => ?_) (fun st hi => ?_)) ?_
 ·have hni : rng .i64 ((k : Int) + 1) = true := rng_i64 (by omega) (by omega)
  simp only [g87_v3_0, run_br, run_bd, run_nd, run_ni, run_ret, br_d, hni, need_true]
  rw [if_pos (by omega), bind_of (k98s hc hk)]
  simp only [dt1, tk1, List.length_cons, List.length_nil, List.drop_zero, List.take_length]
  rw [need_lenbig (by omega)]
  simp
 ·simp only [g87_v3_0, run_br, run_ret, br_d]
  rw [if_neg (by omega)]
 ·simp only [run_ret, List.drop_zero, List.take_length, pws]
theorem k58 {c : List Ch} {n : Nat} (hc : OkC n c) (h : chk c = 0) : run0 (F58 c) = some (pws c n (fun _ => 1), 0, ()) := by
 simp only [F58, run_bd]
 rw [bind_of (k66 hc h)]
 simp only [run_sr, run_br, run_bd, run_ret, br_not, br_eq]
 rw [if_pos trivial, bind_of (k87_v3 hc)]
theorem k18 {c : List Ch} {n : Nat} (hc : OkC n c) (h : chk c = 0) : run0 (F18 c) = some (pws c n (fun _ => 1), 0, ()) := by
 simp only [F18, run_bd, run_ret]; rw [bind_of (k58 hc h)]
/-! Turns: how many orders. -/
end Go.Proofs.Tryd
end
section
namespace Go.Proofs.Tryd
open Go.AM Go.Cn
set_option maxRecDepth 100000
theorem shl_n {n : Nat} (hn : n ≤ 6) : ar0.shl (1 : Int) (n : Int) = ((2 ^ n : Nat) : Int) := shl_one (by omega)
theorem works_ok : run0 F16 = some (true, ()) := cmp_done 200 (by kernel_rfl)
end Go.Proofs.Tryd
end
section
namespace Go.Proofs.Tryd
open Go.AM Go.Cn
set_option maxRecDepth 100000
theorem pw_len (c : List Ch) (n : Nat) (f : Nat → Int) : (pws c n f).length = n := by simp [pws]
end Go.Proofs.Tryd
end
section
namespace Go.Proofs.Tryd
open Go.AM Go.Cn
set_option maxRecDepth 100000
/-- A number names a grower. -/
def inG (n : Nat) (z : Int) : Bool := decide (0 ≤ z ∧ z ≤ (n : Int) - 1)
theorem inG_nat {n : Nat} {z : Int} (h : inG n z = true) : ∃ i : Nat, i < n ∧ z = (i : Int) := by
 have := of_decide_eq_true h
 exact ⟨z.toNat, by omega, by omega⟩
theorem n_rng {n : Nat} (h : n ≤ 6) : rng .i64 ((n : Int) - 1) = true := rng_i64 (by omega) (by omega)
end Go.Proofs.Tryd
end
section
namespace Go.Proofs.Tryd
open Go.AM Go.Cn
set_option maxRecDepth 100000
/-- A list of growers, read: its set, or an error. -/
def rdL (n : Nat) : Int → Nat → List Int → Nat × Int
 | _, s, [] => (s, 0)
 | last, s, x :: r => if inG n x = false then (0, 5) else if x ≤ last then (0, 7) else rdL n x (s ||| 2 ^ x.toNat) r
def rd (n : Nat) (l : List Int) : Nat × Int := rdL n (-1) 0 l
theorem rdL_lt {n : Nat} (hn : n ≤ 6) : ∀ {l : List Int} {last : Int} {s : Nat}, s < 2 ^ n → (rdL n last s l).1 < 2 ^ n
 | [], _, _, h => h
 | x :: r, last, s, h => by
  have hp : 0 < 2 ^ n := Nat.pow_pos (by omega)
  simp only [rdL]
  split
  ·exact hp
  split
  ·exact hp
  ·rename_i h1 _
   have h1' : inG n x = true := by simpa using h1
   obtain ⟨i, hi, rfl⟩ := inG_nat h1'
   exact rdL_lt hn (by rw [Int.toNat_natCast]; exact or_lt hn h hi)
theorem rd_lt {n : Nat} (hn : n ≤ 6) (l : List Int) : (rd n l).1 < 2 ^ n := rdL_lt hn (Nat.pow_pos (by omega))
theorem k72 {c : List Ch} {n : Nat} (hn : n ≤ 6) {l : List Int} (hl : l.length < 1000) : run0 (F72_v1 c c (n : Int) ((2 ^ n - 1 : Nat) : Int) l) = some (((rd n l).1 : Int), (rd n l).2, ()) := by
 have hp : 0 < 2 ^ n := Nat.pow_pos (by omega)
 have h64 := pow6 hn
 simp only [F72_v1, run_bd, run_it]
 have key := iter_list l (f := fun a => run (fun _ => none) (g72_v1_0 a)) (fun k (st : Nat × Int) => ((st.1 : Int), st.2, l, ((l.length : Nat) : Int), (k : Int), c, c, (n : Int), ((2 ^ n - 1 : Nat) : Int), ()))
  (fun st r => if (rdL n st.2 st.1 r).2 = 0 then Sum.inr (((rdL n st.2 st.1 r).1 : Int), ()) else Sum.inl (((rdL n st.2 st.1 r).1 : Int), (rdL n st.2 st.1 r).2, ())) (fun _ st => st.1 < 2 ^ n) ?_ ?_ (s := (0, -1)) hp
 ·replace key : iter (fun a => run (fun _ => none) (g72_v1_0 a)) ((0 : Int), (-1 : Int), l, ((l.length : Nat) : Int), (0 : Int), c, c, (n : Int), ((2 ^ n - 1 : Nat) : Int), ()) = _ := key
  rw [bind_of key]
  simp only [rd]
  by_cases h : (rdL n (-1) 0 l).2 = 0
  ·rw [if_pos h]; simp [run_sr, run_ret, h]
  ·rw [if_neg h]; simp [run_sl, run_ret]
 ·rintro pre x post ⟨s, last⟩ hx hs
  simp only at hs
  have hlen : l.length = pre.length + (post.length + 1) := by rw [hx]; simp
  have hd : l.getD pre.length (0 : Int) = x := by rw [hx]; exact getD_mid rfl
  have hin : inb (pre.length : Int) ((l.length : Nat) : Int) = true := inb_t (by omega) (by omega)
  have hni : rng .i64 ((pre.length : Int) + 1) = true := rng_i64 (by omega) (by omega)
  have e : ∀ z : Int, decide (0 ≤ z ∧ z ≤ (n : Int) - 1) = inG n z := fun _ => rfl
  simp only [g72_v1_0, run_br, run_bd, run_nb, run_ni, run_ret, Int.toNat_natCast, hd, br_d, br_not, hin, hni, n_rng hn, need_true, k67, bindO_s, e]
  rw [if_pos (by omega)]
  simp only [rdL]
  by_cases h1 : inG n x = false
  ·right
   simp [h1]
  replace h1 : inG n x = true := by simpa using h1
  obtain ⟨i, hi, rfl⟩ := inG_nat h1
  simp only [h1, brO_true]
  by_cases h2 : (i : Int) ≤ last
  ·right
   rw [if_pos h2]; simp [h2]
  ·left
   rw [if_neg h2]
   refine ⟨(s ||| 2 ^ i, (i : Int)), ?_, or_lt hn hs hi, by simp [h2]⟩
   rw [bind_of (k74 hn hs hi)]
   rfl
 ·rintro ⟨s, last⟩ hs
  simp only [g72_v1_0, run_br, run_ret, br_d]
  rw [if_neg (by omega)]
  simp [rdL]
end Go.Proofs.Tryd
end
section
namespace Go.Proofs.Tryd
open Go.AM Go.Cn
set_option maxRecDepth 100000
/-- Those who are not in a set. -/
def cpl (n s : Nat) : Nat := 2 ^ n - 1 - s
theorem u_cpl {n s : Nat} (hn : n ≤ 6) (hs : s < 2 ^ n) : ar0.bits IBin.andNot .u64 ((2 ^ n - 1 : Nat) : Int) (s : Int) = ((cpl n s : Nat) : Int) := by
 have := all_lt2 (n := 7) (m := 64) (p := fun n s => !(decide (s < 2 ^ n)) || ar0.bits IBin.andNot .u64 ((2 ^ n - 1 : Nat) : Int) (s : Int) == ((cpl n s : Nat) : Int)) (by kernel_rfl) (s := n) (i := s) (by omega) (by have := pow6 hn; omega)
 simpa [hs] using this
theorem cpl_lt {n s : Nat} (hn : n ≤ 6) : cpl n s < 2 ^ n := by
 have hp : 0 < 2 ^ n := Nat.pow_pos (by omega)
 unfold cpl; omega
theorem els_cpl {n s : Nat} (hn : n ≤ 6) (hs : s < 2 ^ n) : els (cpl n s) = (List.range n).filter fun i => !s.testBit i := by
 have := all_lt2 (n := 7) (m := 64) (p := fun n s => !(decide (s < 2 ^ n)) || decide (els (cpl n s) = (List.range n).filter fun i => !s.testBit i)) (by decide +kernel) (s := n) (i := s) (by omega) (by have := pow6 hn; omega)
 simpa [hs] using this
/-- The weights of those who are not in the bloc. -/
def rest (ws : List Int) (n s : Nat) : List Int := (els (cpl n s)).map fun i => ws.getD i 0
def blW (ws : List Int) (n s : Nat) : List Int := rest ws n s ++ [wt ws s]
def blF (n s : Nat) : List Ch → Option (List Ch)
 | [] => some []
 | x :: r => if 1000000 < wt x.2 s then none else (blF n s r).map fun l => (x.1, blW x.2 n s) :: l
theorem rest_len {ws : List Int} {n s : Nat} : (rest ws n s).length ≤ 6 := by
 have := els_len (s := cpl n s)
 simpa [rest] using this
theorem k29m0 {c : List Ch} {n s t : Nat} {len idx q : Int} {ws : List Int} (hn : n ≤ 6) (hw : ws.length = n) (ht : t < 2 ^ n) :
  run0 (g29_1m0 ((0 : Int), (s : Int), c, len, idx, c, c, (n : Int), ((2 ^ n - 1 : Nat) : Int), q, ws, q, (t : Int), ())) =
   some ((0 : Int), (s : Int), c, len, idx, c, c, (n : Int), ((2 ^ n - 1 : Nat) : Int), q, ws, q, ((els t).map fun i => ws.getD i 0).length, ((els t).map fun i => ws.getD i 0), ()) := by
 have h64 : t < 64 := by have := pow6 hn; omega
 simp only [g29_1m0, run_bd, run_it, run_ret]
 refine bind_eq (iter_els (fun t (st : List Int) => ((0 : Int), (s : Int), c, len, idx, (t : Int), c, c, (n : Int), ((2 ^ n - 1 : Nat) : Int), q, ws, q, st.length, st, ()))
  (fun st r => (c, c, (n : Int), ((2 ^ n - 1 : Nat) : Int), q, ws, q, (st ++ r.map fun i => ws.getD i 0).length, (0 : Int), (0 : Int), (s : Int), c, len, idx, st ++ r.map fun i => ws.getD i 0, ()))
  (fun t' st => t' < 2 ^ n ∧ st.length + (els t').length ≤ 6) ?_ ?_ (s := t) (st := []) h64 ⟨ht, by simpa using els_len⟩) (by simp)
 ·rintro t' st h64 h0 ⟨ht', hl⟩
  left
  have e := congrArg List.length (els_cons h64 h0)
  rw [List.length_cons] at e
  have hz := tz_lt hn ht' h0
  have hlo := low_lt h64 h0
  refine ⟨st ++ [ws.getD (tzN t') 0], ?_, ⟨by omega, by simp; omega⟩, by simp⟩
  have hnu : rng .u64 ((t' : Int) - 1) = true := rng_u64 (by omega) (by omega)
  simp only [g29_1m0i_0, run_br, run_bd, run_nb, run_nd, run_ret, br_not, br_eq, k101 h64 h0, bindO_s, Int.toNat_natCast, hnu, need_true, u_low h64 h0, dt1, tk1, List.drop_zero, List.take_length]
  rw [if_neg (by omega), need_inb (by omega) (by omega), need_lenbig (by simp; omega)]
  simp
 ·rintro st -
  simp only [g29_1m0i_0, run_br, run_ret, br_not, br_eq]
  simp
theorem k29m1 {c : List Ch} {n s t m : Nat} {z len idx q : Int} {ws : List Int} {B : List Ch} (hn : n ≤ 6) (hw : ws.length = n) (ht : t < 2 ^ n) :
  run0 (g29_1m1 (z, (s : Int), c, len, idx, c, c, (n : Int), ((2 ^ n - 1 : Nat) : Int), m, q, ws, q, (t : Int), B, ())) =
   some (z, (s : Int), c, len, idx, c, c, (n : Int), ((2 ^ n - 1 : Nat) : Int), m, q, ws, q, ((els t).map fun i => ws.getD i 0).length, B, ((els t).map fun i => ws.getD i 0), ()) := by
 have h64 : t < 64 := by have := pow6 hn; omega
 simp only [g29_1m1, run_bd, run_it, run_ret]
 refine bind_eq (iter_els (fun t (st : List Int) => (z, (s : Int), c, len, idx, (t : Int), c, c, (n : Int), ((2 ^ n - 1 : Nat) : Int), m, q, ws, q, st.length, B, st, ()))
  (fun st r => (c, c, (n : Int), ((2 ^ n - 1 : Nat) : Int), m, q, ws, q, (st ++ r.map fun i => ws.getD i 0).length, (0 : Int), z, (s : Int), c, len, idx, B, st ++ r.map fun i => ws.getD i 0, ()))
  (fun t' st => t' < 2 ^ n ∧ st.length + (els t').length ≤ 6) ?_ ?_ (s := t) (st := []) h64 ⟨ht, by simpa using els_len⟩) (by simp)
 ·rintro t' st h64 h0 ⟨ht', hl⟩
  left
  have e := congrArg List.length (els_cons h64 h0)
  rw [List.length_cons] at e
  have hz := tz_lt hn ht' h0
  have hlo := low_lt h64 h0
  refine ⟨st ++ [ws.getD (tzN t') 0], ?_, ⟨by omega, by simp; omega⟩, by simp⟩
  have hnu : rng .u64 ((t' : Int) - 1) = true := rng_u64 (by omega) (by omega)
  simp only [g29_1m1i_0, run_br, run_bd, run_nb, run_nd, run_ret, br_not, br_eq, k101 h64 h0, bindO_s, Int.toNat_natCast, hnu, need_true, u_low h64 h0, dt1, tk1, List.drop_zero, List.take_length]
  rw [if_neg (by omega), need_inb (by omega) (by omega), need_lenbig (by simp; omega)]
  simp
 ·rintro st -
  simp only [g29_1m1i_0, run_br, run_ret, br_not, br_eq]
  simp
theorem k29m2 {c : List Ch} {n s t m : Nat} {z len idx q : Int} {ws : List Int} {B : List Ch} (hn : n ≤ 6) (hw : ws.length = n) (ht : t < 2 ^ n) :
  run0 (g29_1m2 (z, (s : Int), c, len, idx, c, c, (n : Int), ((2 ^ n - 1 : Nat) : Int), m, q, ws, q, (t : Int), B, ())) =
   some (z, (s : Int), c, len, idx, c, c, (n : Int), ((2 ^ n - 1 : Nat) : Int), m, q, ws, q, ((els t).map fun i => ws.getD i 0).length, B, ((els t).map fun i => ws.getD i 0), ()) := by
 have h64 : t < 64 := by have := pow6 hn; omega
 simp only [g29_1m2, run_bd, run_it, run_ret]
 refine bind_eq (iter_els (fun t (st : List Int) => (z, (s : Int), c, len, idx, (t : Int), c, c, (n : Int), ((2 ^ n - 1 : Nat) : Int), m, q, ws, q, st.length, B, st, ()))
  (fun st r => (c, c, (n : Int), ((2 ^ n - 1 : Nat) : Int), m, q, ws, q, (st ++ r.map fun i => ws.getD i 0).length, (0 : Int), z, (s : Int), c, len, idx, B, st ++ r.map fun i => ws.getD i 0, ()))
  (fun t' st => t' < 2 ^ n ∧ st.length + (els t').length ≤ 6) ?_ ?_ (s := t) (st := []) h64 ⟨ht, by simpa using els_len⟩) (by simp)
 ·rintro t' st h64 h0 ⟨ht', hl⟩
  left
  have e := congrArg List.length (els_cons h64 h0)
  rw [List.length_cons] at e
  have hz := tz_lt hn ht' h0
  have hlo := low_lt h64 h0
  refine ⟨st ++ [ws.getD (tzN t') 0], ?_, ⟨by omega, by simp; omega⟩, by simp⟩
  have hnu : rng .u64 ((t' : Int) - 1) = true := rng_u64 (by omega) (by omega)
  simp only [g29_1m2i_0, run_br, run_bd, run_nb, run_nd, run_ret, br_not, br_eq, k101 h64 h0, bindO_s, Int.toNat_natCast, hnu, need_true, u_low h64 h0, dt1, tk1, List.drop_zero, List.take_length]
  rw [if_neg (by omega), need_inb (by omega) (by omega), need_lenbig (by simp; omega)]
  simp
 ·rintro st -
  simp only [g29_1m2i_0, run_br, run_ret, br_not, br_eq]
  simp
theorem take_all {α β : Type} (xs : List α) (f : α → β) (z : β) : List.take (xs.length + 1) (List.take xs.length (xs.map f) ++ [z]) = xs.map f ++ [z] := by
 rw [List.take_of_length_le (by simp), List.take_of_length_le (by simp)]
/-- What Bloc answers. -/
def blR (c : List Ch) (n : Nat) (l : List Int) : (List Ch × Unit) × Int × Unit := if (rd n l).2 ≠ 0 then (([], ()), (rd n l).2, ()) else if (rd n l).1 = 0 then (([], ()), 4, ()) else match blF n (rd n l).1 c with
 | some o => ((o, ()), 0, ())
 | none => (([], ()), 10, ())
theorem k29 {c : List Ch} {n : Nat} (hc : OkC n c) (h : chk c = 0) {l : List Int} (hl : l.length < 1000) : run0 (F29 c l) = some (blR c n l) := by
 have hn := hc.n6
 simp only [F29, run_bd]
 rw [bind_of (k66 hc h)]
 simp only [run_sr, run_br, run_bd, run_ret, br_not, br_eq]
 rw [if_pos trivial, bind_of (k72 hn hl)]
 unfold blR
 by_cases h1 : (rd n l).2 = 0
 case neg => rw [if_neg h1, if_pos h1]
 rw [if_pos h1, if_neg (not_not_intro h1)]
 by_cases h2 : (rd n l).1 = 0
 ·rw [if_pos (show (((rd n l).1 : Nat) : Int) = 0 by omega), if_pos h2]
 rw [if_neg (show ¬ ((((rd n l).1 : Nat) : Int) = 0) by omega), if_neg h2]
 have hS := rd_lt hn l
 generalize (rd n l).1 = s at *
 have hK := cpl_lt (s := s) hn
 have c1 := hc.c1
 have c3 := hc.c3
 have hx : ∀ x ∈ c, OkX n x := hc.ch
 have kH : ∀ z : Int, run (fun _ => none) (FH77 z) = some (z, ()) := fun _ => rfl
 simp only [FH77, run_ret, bindO_s, u_cpl hn hS, br_d, run_nb, run_nd, run_ni, run_br, run_bd]
 match c, c1, c3, hx with
 | [x], _, _, hx =>
  have ox := hx x (by simp)
  have hw := (OkX.len ox)
  rw [if_pos (by simp), need_inb (by omega) (by simp)]
  simp only [show Int.toNat (0 : Int) = 0 from rfl, List.getD_cons_zero]
  refine bind_eq (k29m0 hn hw hK) ?_
  refine bind_eq (k78 ox hn hS) ?_
  dsimp only
  simp only [blF]
  by_cases b1 : 1000000 < wt x.2 s
  ·rw [if_pos b1, if_pos b1]
  rw [if_neg b1, if_neg b1]
  have hr := rest_len (ws := x.2) (n := n) (s := s)
  unfold rest at hr
  rw [need_lenbig (by simp at hr ⊢; omega), need_lenbig (by simp), need_t (rng_i64 (by omega) (by omega)), if_neg (by simp)]
  simp [blW, rest, take_all]
 | [x, y], _, _, hx =>
  have ox := hx x (by simp)
  have oy := hx y (by simp)
  have hw := (OkX.len ox)
  have hwy := (OkX.len oy)
  rw [if_pos (by simp), need_inb (by omega) (by simp)]
  simp only [show Int.toNat (0 : Int) = 0 from rfl, List.getD_cons_zero]
  refine bind_eq (k29m0 hn hw hK) ?_
  refine bind_eq (k78 ox hn hS) ?_
  dsimp only
  simp only [blF]
  by_cases b1 : 1000000 < wt x.2 s
  ·rw [if_pos b1, if_pos b1]
  rw [if_neg b1, if_neg b1]
  have hr := rest_len (ws := x.2) (n := n) (s := s)
  unfold rest at hr
  rw [need_lenbig (by simp at hr ⊢; omega), need_lenbig (by simp), need_t (rng_i64 (by omega) (by omega)), if_pos (by simp), need_inb (by omega) (by simp), u_cpl hn hS]
  simp only [show Int.toNat ((0 : Int) + 1) = 1 from rfl, show ([x, y] : List Ch).getD 1 ((0 : Int), []) = y from rfl]
  refine bind_eq (k29m1 hn hwy hK) ?_
  refine bind_eq (k78 oy hn hS) ?_
  dsimp only
  by_cases b2 : 1000000 < wt y.2 s
  ·rw [if_pos b2, if_pos b2]; rfl
  rw [if_neg b2, if_neg b2]
  have hr2 := rest_len (ws := y.2) (n := n) (s := s)
  unfold rest at hr2
  rw [need_lenbig (by simp at hr2 ⊢; omega), need_lenbig (by simp), need_t (rng_i64 (by omega) (by omega)), if_neg (by simp)]
  simp [blW, rest, take_all]
 | [x, y, w], _, _, hx =>
  have ox := hx x (by simp)
  have oy := hx y (by simp)
  have ow := hx w (by simp)
  have hw := (OkX.len ox)
  have hwy := (OkX.len oy)
  have hww := (OkX.len ow)
  rw [if_pos (by simp), need_inb (by omega) (by simp)]
  simp only [show Int.toNat (0 : Int) = 0 from rfl, List.getD_cons_zero]
  refine bind_eq (k29m0 hn hw hK) ?_
  refine bind_eq (k78 ox hn hS) ?_
  dsimp only
  simp only [blF]
  by_cases b1 : 1000000 < wt x.2 s
  ·rw [if_pos b1, if_pos b1]
  rw [if_neg b1, if_neg b1]
  have hr := rest_len (ws := x.2) (n := n) (s := s)
  unfold rest at hr
  rw [need_lenbig (by simp at hr ⊢; omega), need_lenbig (by simp), need_t (rng_i64 (by omega) (by omega)), if_pos (by simp), need_inb (by omega) (by simp), u_cpl hn hS]
  simp only [show Int.toNat ((0 : Int) + 1) = 1 from rfl, show ([x, y, w] : List Ch).getD 1 ((0 : Int), []) = y from rfl]
  refine bind_eq (k29m1 hn hwy hK) ?_
  refine bind_eq (k78 oy hn hS) ?_
  dsimp only
  by_cases b2 : 1000000 < wt y.2 s
  ·rw [if_pos b2, if_pos b2]; rfl
  rw [if_neg b2, if_neg b2]
  have hr2 := rest_len (ws := y.2) (n := n) (s := s)
  unfold rest at hr2
  rw [need_lenbig (by simp at hr2 ⊢; omega), need_lenbig (by simp), need_t (rng_i64 (by omega) (by omega)), if_pos (by simp), need_inb (by omega) (by simp), u_cpl hn hS]
  simp only [show Int.toNat ((0 : Int) + 1 + 1) = 2 from rfl, show ([x, y, w] : List Ch).getD 2 ((0 : Int), []) = w from rfl]
  refine bind_eq (k29m2 hn hww hK) ?_
  refine bind_eq (k78 ow hn hS) ?_
  dsimp only
  by_cases b3 : 1000000 < wt w.2 s
  ·rw [if_pos b3, if_pos b3]; rfl
  rw [if_neg b3, if_neg b3]
  have hr3 := rest_len (ws := w.2) (n := n) (s := s)
  unfold rest at hr3
  rw [need_lenbig (by simp at hr3 ⊢; omega), need_lenbig (by simp), need_t (rng_i64 (by omega) (by omega)), if_neg (by simp)]
  simp [blW, rest, take_all]
 | _ :: _ :: _ :: _ :: _, _, c3, _ => simp at c3
end Go.Proofs.Tryd
end
section
namespace Go.Proofs.Tryd
open Go.AM Go.Cn
set_option maxRecDepth 100000
/-- Rounds that count up and keep something. -/
theorem iter_inv {A B S : Type} {f : A → Option (A ⊕ B)} (N : Nat) (mk : Nat → S → A) (fin : S → B) (Inv : Nat → S → Prop)
    (hs : ∀ k st, k < N → Inv k st → ∃ st', f (mk k st) = some (.inl (mk (k + 1) st')) ∧ Inv (k + 1) st') (he : ∀ st, Inv N st → f (mk N st) = some (.inr (fin st))) {s : S} (h0 : Inv 0 s) :
    ∃ st, iter f (mk 0 s) = some (fin st) ∧ Inv N st := by
  have key : ∀ m k s, k + m = N → Inv k s → ∃ st, iter f (mk k s) = some (fin st) ∧ Inv N st := by
    intro m
    induction m with
    | zero => intro k s hk hi; have e : k = N := by omega
              subst e; exact ⟨s, iter_inr (he s hi), hi⟩
    | succ m ih =>
      intro k s hk hi
      obtain ⟨s', h1, h2⟩ := hs k s (by omega) hi
      obtain ⟨st, h3, h4⟩ := ih (k + 1) s' (by omega) h2
      exact ⟨st, iter_inl h1 h3, h4⟩
  exact key N 0 s (by omega) h0
abbrev Hl := Int × List Int × (Int × Int × Int × Int × Int) × (Int × Int × Int × Int × Int) × (Int × Int × Int × Int × Int)
abbrev u8T : Ty := .int .u8
abbrev rowT : Ty := .prod u8T (.prod u8T (.prod u8T (.prod u8T u8T)))
abbrev hlT : Ty := .prod u8T (.prod (.list u8T) (.prod rowT (.prod rowT rowT)))
def isU8 (z : Int) : Prop := 0 ≤ z ∧ z ≤ 255
theorem u8_min : IntKind.u8.min = 0 := by decide
theorem u8_max : IntKind.u8.max = 255 := by decide
theorem isU8_of {z : Int} (h : Wf u8T z) : isU8 z := by
  simp only [Wf, u8_min, u8_max] at h; exact h
theorem getD_u8 {l : List Int} (h : ∀ z ∈ l, isU8 z) (i : Nat) : isU8 (l.getD i 0) := by
  by_cases hi : i < l.length
  · rw [show l.getD i 0 = l[i] by simp [List.getD, hi]]; exact h _ (List.getElem_mem hi)
  · rw [show l.getD i 0 = 0 by simp [List.getD, hi]]; exact ⟨by omega, by omega⟩
/-- A council by numbers: what is known of it. -/
structure OkH (n : Nat) (c : List Ch) : Prop where
  ok : OkC n c
  n5 : n ≤ 5
  chk0 : chk c = 0
  w7 : ∀ x ∈ c, ∀ z ∈ x.2, 0 ≤ z ∧ z ≤ 7
  q16 : ∀ x ∈ c, 1 ≤ x.1 ∧ x.1 ≤ 16
theorem k36 {c : List Ch} (h : 0 < c.length) : run0 (F36 c) = some (((gro c : Nat) : Int), ()) := by
  simp only [F36, run_nb, run_ret]
  rw [need_inb (by omega) (by omega)]; rfl
theorem tmod8 {z : Int} (h : isU8 z) : 0 ≤ Int.tmod z 8 ∧ Int.tmod z 8 ≤ 7 := by
  have h1 := Int.tmod_nonneg 8 h.1
  have h2 := Int.tmod_lt_of_pos z (show (0 : Int) < 8 by omega)
  omega
theorem tmod16 {z : Int} (h : isU8 z) : 0 ≤ Int.tmod z 16 ∧ Int.tmod z 16 ≤ 15 := by
  have h1 := Int.tmod_nonneg 16 h.1
  have h2 := Int.tmod_lt_of_pos z (show (0 : Int) < 16 by omega)
  omega
theorem tmod5 {z : Int} (h : isU8 z) : 0 ≤ Int.tmod z 5 ∧ Int.tmod z 5 ≤ 4 := by
  have h1 := Int.tmod_nonneg 5 h.1
  have h2 := Int.tmod_lt_of_pos z (show (0 : Int) < 5 by omega)
  omega
section
variable {g : Int} {q : List Int} {a0 a1 a2 a3 a4 b0 b1 b2 b3 b4 d0 d1 d2 d3 d4 : Int}
theorem k35_1 {n m k : Nat} {B : List Ch} {qq : Int} (hn : n ≤ 5) (hm : m < 3) (ha : ∀ z ∈ [a0, a1, a2, a3, a4, b0, b1, b2, b3, b4, d0, d1, d2, d3, d4], isU8 z) :
    ∃ ws : List Int, iter (fun a => run (fun _ => none) (g35_1 a)) ((n : Int), (k : Int), (m : Int), (0 : Int), g, q, a0, a1, a2, a3, a4, b0, b1, b2, b3, b4, d0, d1, d2, d3, d4, m, qq, 0, B, [], ()) =
      some ((n : Int), (k : Int), (m : Int), g, q, a0, a1, a2, a3, a4, b0, b1, b2, b3, b4, d0, d1, d2, d3, d4, m, qq, ws.length, B, ws, ()) ∧ ws.length = n ∧ ∀ z ∈ ws, 0 ≤ z ∧ z ≤ 7 := by
  have := iter_inv (f := fun a => run (fun _ => none) (g35_1 a)) n (fun i (st : List Int) => ((n : Int), (k : Int), (m : Int), (i : Int), g, q, a0, a1, a2, a3, a4, b0, b1, b2, b3, b4, d0, d1, d2, d3, d4, m, qq, st.length, B, st, ()))
    (fun ws => ((n : Int), (k : Int), (m : Int), g, q, a0, a1, a2, a3, a4, b0, b1, b2, b3, b4, d0, d1, d2, d3, d4, m, qq, ws.length, B, ws, ())) (fun i ws => ws.length = i ∧ ∀ z ∈ ws, 0 ≤ z ∧ z ≤ 7) ?_ ?_ (s := []) ⟨rfl, by simp⟩
  · exact this
  · rintro i st hi ⟨h1, h2⟩
    have hv : isU8 ([[a0, b0, d0].getD m 0, [a1, b1, d1].getD m 0, [a2, b2, d2].getD m 0, [a3, b3, d3].getD m 0, [a4, b4, d4].getD m 0].getD i 0) := by
      refine getD_u8 (fun z hz => ?_) i
      simp only [List.mem_cons, List.not_mem_nil, or_false] at hz
      rcases hz with rfl | rfl | rfl | rfl | rfl <;> refine getD_u8 (fun z hz => ?_) m <;>
        (simp only [List.mem_cons, List.not_mem_nil, or_false] at hz; rcases hz with rfl | rfl | rfl <;> exact ha _ (by simp))
    have ht := tmod8 hv
    have hin1 : inb (m : Int) 3 = true := inb_t (by omega) (by omega)
    have hin2 : inb (i : Int) 5 = true := inb_t (by omega) (by omega)
    have hni : rng .i64 ((i : Int) + 1) = true := rng_i64 (by omega) (by omega)
    refine ⟨st ++ [Int.tmod ([[a0, b0, d0].getD m 0, [a1, b1, d1].getD m 0, [a2, b2, d2].getD m 0, [a3, b3, d3].getD m 0, [a4, b4, d4].getD m 0].getD i 0) 8], ?_, by simp [h1], fun z hz => ?_⟩
    · simp only [g35_1, run_br, run_nb, run_ni, run_nd, run_ret, br_d, hin1, hin2, hni, need_true, Int.toNat_natCast, dt1, tk1, List.drop_zero, List.take_length]
      rw [if_pos (by omega), need_t (rng_i64 (by have := hv.1; omega) (by have := hv.2; omega)), need_t (by decide), need_lenbig (by simp; omega)]
      simp
    · rcases List.mem_append.1 hz with hz | hz
      · exact h2 z hz
      · rcases List.mem_singleton.1 hz with rfl; exact ht
  · rintro st ⟨h1, h2⟩
    simp only [g35_1, run_br, run_ret, br_d]
    rw [if_neg (by omega)]
theorem k35_0 {n k : Nat} (hn : n ≤ 5) (hk : k ≤ 3) (ha : ∀ z ∈ [a0, a1, a2, a3, a4, b0, b1, b2, b3, b4, d0, d1, d2, d3, d4], isU8 z) (hq : ∀ z ∈ q, isU8 z) :
    ∃ c : List Ch, iter (fun a => run (fun _ => none) (g35_0 a)) ((n : Int), (k : Int), (0 : Int), g, q, a0, a1, a2, a3, a4, b0, b1, b2, b3, b4, d0, d1, d2, d3, d4, 0, [], ()) = some (c.length, c, ()) ∧
      c.length = k ∧ ∀ x ∈ c, x.2.length = n ∧ (∀ z ∈ x.2, 0 ≤ z ∧ z ≤ 7) ∧ 1 ≤ x.1 ∧ x.1 ≤ 16 := by
  have := iter_inv (f := fun a => run (fun _ => none) (g35_0 a)) k (fun i (st : List Ch) => ((n : Int), (k : Int), (i : Int), g, q, a0, a1, a2, a3, a4, b0, b1, b2, b3, b4, d0, d1, d2, d3, d4, st.length, st, ()))
    (fun c => (c.length, c, ())) (fun i c => c.length = i ∧ ∀ x ∈ c, x.2.length = n ∧ (∀ z ∈ x.2, 0 ≤ z ∧ z ≤ 7) ∧ 1 ≤ x.1 ∧ x.1 ≤ 16) ?_ ?_ (s := []) ⟨rfl, by simp⟩
  · exact this
  · rintro i st hi ⟨h1, h2⟩
    have hni : rng .i64 ((i : Int) + 1) = true := rng_i64 (by omega) (by omega)
    have main : ∀ qq : Int, 1 ≤ qq → qq ≤ 16 → ∃ st' : List Ch, bindO (iter (fun a => run (fun _ => none) (g35_1 a)) ((n : Int), (k : Int), (i : Int), (0 : Int), g, q, a0, a1, a2, a3, a4, b0, b1, b2, b3, b4, d0, d1, d2, d3, d4, st.length, qq, 0, st, [], ())) (fun z1 =>
        need (decide ((z1.2.2.2.2.2.2.2.2.2.2.2.2.2.2.2.2.2.2.2.2.1 + (List.take 1 (List.drop 0 [(z1.2.2.2.2.2.2.2.2.2.2.2.2.2.2.2.2.2.2.2.2.2.1, List.take z1.2.2.2.2.2.2.2.2.2.2.2.2.2.2.2.2.2.2.2.2.2.2.1 (List.drop 0 z1.2.2.2.2.2.2.2.2.2.2.2.2.2.2.2.2.2.2.2.2.2.2.2.2.1))])).length) < bigL)) (need (rng .i64 (z1.2.2.1 + 1)) (some (Sum.inl (z1.1, z1.2.1, z1.2.2.1 + 1, z1.2.2.2.1, z1.2.2.2.2.1, z1.2.2.2.2.2.1, z1.2.2.2.2.2.2.1, z1.2.2.2.2.2.2.2.1, z1.2.2.2.2.2.2.2.2.1, z1.2.2.2.2.2.2.2.2.2.1, z1.2.2.2.2.2.2.2.2.2.2.1, z1.2.2.2.2.2.2.2.2.2.2.2.1, z1.2.2.2.2.2.2.2.2.2.2.2.2.1, z1.2.2.2.2.2.2.2.2.2.2.2.2.2.1, z1.2.2.2.2.2.2.2.2.2.2.2.2.2.2.1, z1.2.2.2.2.2.2.2.2.2.2.2.2.2.2.2.1, z1.2.2.2.2.2.2.2.2.2.2.2.2.2.2.2.2.1, z1.2.2.2.2.2.2.2.2.2.2.2.2.2.2.2.2.2.1, z1.2.2.2.2.2.2.2.2.2.2.2.2.2.2.2.2.2.2.1, z1.2.2.2.2.2.2.2.2.2.2.2.2.2.2.2.2.2.2.2.1, z1.2.2.2.2.2.2.2.2.2.2.2.2.2.2.2.2.2.2.2.2.1 + (List.take 1 (List.drop 0 [(z1.2.2.2.2.2.2.2.2.2.2.2.2.2.2.2.2.2.2.2.2.2.1, List.take z1.2.2.2.2.2.2.2.2.2.2.2.2.2.2.2.2.2.2.2.2.2.2.1 (List.drop 0 z1.2.2.2.2.2.2.2.2.2.2.2.2.2.2.2.2.2.2.2.2.2.2.2.2.1))])).length, List.take z1.2.2.2.2.2.2.2.2.2.2.2.2.2.2.2.2.2.2.2.2.1 (List.drop 0 z1.2.2.2.2.2.2.2.2.2.2.2.2.2.2.2.2.2.2.2.2.2.2.2.1) ++ List.take 1 (List.drop 0 [(z1.2.2.2.2.2.2.2.2.2.2.2.2.2.2.2.2.2.2.2.2.2.1, List.take z1.2.2.2.2.2.2.2.2.2.2.2.2.2.2.2.2.2.2.2.2.2.2.1 (List.drop 0 z1.2.2.2.2.2.2.2.2.2.2.2.2.2.2.2.2.2.2.2.2.2.2.2.2.1))]), ()))) : Option (_ ⊕ (Nat × List Ch × Unit)))) =
          some (.inl ((n : Int), (k : Int), ((i + 1 : Nat) : Int), g, q, a0, a1, a2, a3, a4, b0, b1, b2, b3, b4, d0, d1, d2, d3, d4, st'.length, st', ())) ∧ st'.length = i + 1 ∧ ∀ x ∈ st', x.2.length = n ∧ (∀ z ∈ x.2, 0 ≤ z ∧ z ≤ 7) ∧ 1 ≤ x.1 ∧ x.1 ≤ 16 := by
      intro qq hq1 hq2
      obtain ⟨ws, w1, w2, w3⟩ := k35_1 (g := g) (q := q) (n := n) (m := i) (k := k) (B := st) (qq := qq) hn (by omega) ha
      rw [h1, bind_of w1]
      refine ⟨st ++ [(qq, ws)], ?_, by simp [h1], fun x hx => ?_⟩
      · simp only [List.drop_zero, List.take_length, tk1]
        rw [need_lenbig (by simp; omega), need_t hni]
        simp [h1, List.take_of_length_le (Nat.le_of_eq h1)]
      · rcases List.mem_append.1 hx with hx | hx
        · exact h2 x hx
        · rcases List.mem_singleton.1 hx with rfl
          exact ⟨w2, w3, hq1, hq2⟩
    simp only [g35_0, run_br, run_jx, run_nb, run_ni, run_nd, run_bd, run_it, run_ret, br_d]
    rw [if_pos (by omega)]
    by_cases hq0 : i < q.length
    · have hu := getD_u8 hq i
      have ht := tmod16 hu
      rw [if_pos (by omega), need_inb (by omega) (by omega)]
      simp only [Int.toNat_natCast]
      rw [need_t (rng_i64 (by have := hu.1; omega) (by have := hu.2; omega)), need_t (by decide), need_t (rng_i64 (by omega) (by omega))]
      simp only [bindO_s, onS]
      exact main _ (by omega) (by omega)
    · rw [if_neg (by omega)]
      simp only [bindO_s, onS]
      exact main 4 (by omega) (by omega)
  · rintro st ⟨h1, h2⟩
    simp only [g35_0, run_br, run_ret, br_d]
    rw [if_neg (by omega)]
end
theorem made_ok {h : Hl} (hW : Wf hlT h) : ∃ c n, run0 (F35 (h.1, h.2.1, h.2.2.1.1, h.2.2.1.2.1, h.2.2.1.2.2.1, h.2.2.1.2.2.2.1, h.2.2.1.2.2.2.2, h.2.2.2.1.1, h.2.2.2.1.2.1, h.2.2.2.1.2.2.1, h.2.2.2.1.2.2.2.1, h.2.2.2.1.2.2.2.2, h.2.2.2.2.1, h.2.2.2.2.2.1, h.2.2.2.2.2.2.1, h.2.2.2.2.2.2.2.1, h.2.2.2.2.2.2.2.2)) = some ((c, ()), ()) ∧ OkH n c := by
  obtain ⟨g, q, ⟨a0, a1, a2, a3, a4⟩, ⟨b0, b1, b2, b3, b4⟩, ⟨d0, d1, d2, d3, d4⟩⟩ := h
  obtain ⟨w1, w2, ⟨w3, w4, w5, w6, w7⟩, ⟨v3, v4, v5, v6, v7⟩, ⟨u3, u4, u5, u6, u7⟩⟩ := hW
  replace w1 : Wf u8T g := w1
  have hg := tmod5 (isU8_of w1)
  have hg' := isU8_of w1
  have hq : ∀ z ∈ q, isU8 z := fun z hz => isU8_of (w2.2 z hz)
  have ha : ∀ z ∈ [a0, a1, a2, a3, a4, b0, b1, b2, b3, b4, d0, d1, d2, d3, d4], isU8 z := by
    intro z hz
    simp only [List.mem_cons, List.not_mem_nil, or_false] at hz
    rcases hz with rfl | rfl | rfl | rfl | rfl | rfl | rfl | rfl | rfl | rfl | rfl | rfl | rfl | rfl | rfl
    · exact isU8_of w3
    · exact isU8_of w4
    · exact isU8_of w5
    · exact isU8_of w6
    · exact isU8_of w7
    · exact isU8_of v3
    · exact isU8_of v4
    · exact isU8_of v5
    · exact isU8_of v6
    · exact isU8_of v7
    · exact isU8_of u3
    · exact isU8_of u4
    · exact isU8_of u5
    · exact isU8_of u6
    · exact isU8_of u7
  obtain ⟨n, hn, hn1, hn5⟩ : ∃ n : Nat, 1 + Int.tmod g 5 = (n : Int) ∧ 1 ≤ n ∧ n ≤ 5 := ⟨(1 + Int.tmod g 5).toNat, by omega, by omega, by omega⟩
  obtain ⟨k, hk, hk1, hk3⟩ : ∃ k : Nat, imin 3 (imax 1 ((q.length : Nat) : Int)) = (k : Int) ∧ 1 ≤ k ∧ k ≤ 3 := by
    refine ⟨(imin 3 (imax 1 ((q.length : Nat) : Int))).toNat, ?_, ?_, ?_⟩ <;> (unfold imin imax; split <;> split <;> omega)
  obtain ⟨c, c1, c2, c3⟩ := k35_0 (g := g) (n := n) (k := k) hn5 hk3 ha hq
  have hgc : gro c = n := by
    cases c with
    | nil => simp at c2; omega
    | cons x r => exact (c3 x (List.mem_cons_self ..)).1
  have hx : ∀ x ∈ c, OkX n x := fun x hx => by
    obtain ⟨e1, e2, e3, e4⟩ := c3 x hx
    exact ⟨e1, e3, by omega, fun z hz => by have := e2 z hz; omega⟩
  refine ⟨c, n, ?_, ⟨⟨by omega, by omega, hn1, by omega, hgc, hx⟩, hn5, ?_, fun x hx => (c3 x hx).2.1, fun x hx => (c3 x hx).2.2⟩⟩
  · simp only [F35, run_ni, run_nd, run_bd, run_it, run_ret]
    rw [need_t (rng_i64 (by have := hg'.1; omega) (by have := hg'.2; omega)), need_t (by decide), need_t (rng_i64 (by omega) (by omega)), hn, hk, bind_of c1]
    simp
  · unfold chk
    rw [if_neg (by omega), if_neg (by omega), hgc, if_neg (by omega), if_neg (by omega)]
    have : ∀ l : List Ch, (∀ x ∈ l, OkX n x) → chkL n l = 0 := by
      intro l
      induction l with
      | nil => intro _; rfl
      | cons x r ih =>
        intro h
        have ox := h x (List.mem_cons_self ..)
        have e : okCh n x = 0 := by
          unfold okCh
          rw [if_neg (not_not_intro ox.len), if_neg (not_not_intro ⟨ox.q1, ox.q2⟩), if_neg ?_]
          intro hb
          obtain ⟨z, hz, hbz⟩ := List.any_eq_true.1 hb
          have := ox.w z hz
          unfold badW at hbz
          simp at hbz
          omega
        simp only [chkL]
        rw [if_neg (not_not_intro e)]
        exact ih fun y hy => h y (List.mem_cons_of_mem _ hy)
    exact this c hx
end Go.Proofs.Tryd
end
section
namespace Go.Proofs.Tryd
open Go.AM Go.Cn
set_option maxRecDepth 100000
theorem i_bit {s i : Nat} (hs : s < 64) (hi : i < 6) : ar0.bits IBin.and .i64 (ar0.shr (s : Int) (i : Int)) (1 : Int) = if s.testBit i then 1 else 0 := by
 have := all_lt2 (n := 64) (m := 6) (p := fun s i => decide (ar0.bits IBin.and .i64 (ar0.shr (s : Int) (i : Int)) (1 : Int) = if s.testBit i then 1 else 0)) (by kernel_rfl) hs hi
 exact of_decide_eq_true this
theorem k40 {s : Nat} (hs : s < 64) : run0 (F40 (s : Int)) = some (ints (els s), ()) := by
 have := all_lt (n := 64) (p := fun s => decide (cmp 40 (fun _ => none) (F40 ((s : Nat) : Int)) = some (ints (els s), ()))) (by kernel_rfl) hs
 exact cmp_done 40 (of_decide_eq_true this)
theorem k39_1 {n s : Nat} {x : Ch} {c : List Ch} {len idx : Int} (hx : OkX n x) (hn : n ≤ 6) (hs : s < 2 ^ n) :
  iter (fun a => run (fun _ => none) (g39_1 a)) ((s : Int), (0 : Int), c, len, idx, x.2, ((x.2.length : Nat) : Int), (0 : Int), x.1, x.2, ()) = some ((s : Int), wt x.2 s, c, len, idx, x.1, x.2, ()) := by
 have h64 : s < 64 := Nat.lt_of_lt_of_le hs (pow6 hn)
 have key := iter_upto (f := fun a => run (fun _ => none) (g39_1 a)) n (fun k (st : Int) => ((s : Int), st, c, len, idx, x.2, ((x.2.length : Nat) : Int), (k : Int), x.1, x.2, ()))
  (fun st k => ((s : Int), st + (((List.range' k (n - k)).filter s.testBit).map fun i => x.2.getD i 0).sum, c, len, idx, x.1, x.2, ())) (fun k st => 0 ≤ st ∧ st ≤ 1000000 * (k : Int)) ?_ ?_ (s := 0) ⟨by omega, by omega⟩
 ·refine Eq.trans key ?_
  rw [wt_range hn hs]; simp [List.range_eq_range']
 ·rintro k st hk ⟨b1, b2⟩
  left
  have hw := hx.get k
  have hl := hx.len
  have hin : inb (k : Int) ((x.2.length : Nat) : Int) = true := inb_t (by omega) (by omega)
  have hi6 : inb (k : Int) 64 = true := inb_t (by omega) (by omega)
  have hni : rng .i64 ((k : Int) + 1) = true := rng_i64 (by omega) (by omega)
  have e : n - k = (n - (k + 1)) + 1 := by omega
  simp only [g39_1, run_br, run_nb, run_ni, run_ret, Int.toNat_natCast, br_d, hin, hi6, hni, need_true, i_bit h64 (show k < 6 by omega)]
  rw [if_pos (by omega), e, List.range'_succ, List.filter_cons]
  cases hb : s.testBit k
  ·refine ⟨st, ?_, ⟨by omega, by omega⟩, by simp⟩
   simp only [Bool.false_eq_true, if_false, Int.zero_mul, Int.add_zero]
   rw [need_t (rng_i64 (by omega) (by omega)), need_t (rng_i64 (by omega) (by omega))]
   rfl
  ·refine ⟨st + x.2.getD k 0, ?_, ⟨by omega, by omega⟩, by simp only [if_true, List.map_cons, List.sum_cons, Int.add_assoc]⟩
   simp only [if_true, Int.one_mul]
   rw [need_t (rng_i64 (by omega) (by omega)), need_t (rng_i64 (by omega) (by omega))]
   rfl
 ·rintro st -
  have hl := hx.len
  simp only [g39_1, run_br, run_ret, br_d]
  rw [if_neg (by omega)]; simp
theorem k39 {n s : Nat} {c : List Ch} (hc : OkC n c) (hs : s < 2 ^ n) : run0 (F39 c (s : Int)) = some (winB c s, ()) := by
 have h3 := hc.c3
 simp only [F39, run_bd, run_it]
 have key := iter_list c (f := fun a => run (fun _ => none) (g39_0 a)) (fun k (_ : Unit) => ((s : Int), c, ((c.length : Nat) : Int), (k : Int), ())) (fun _ r => if winB r s = true then Sum.inr () else Sum.inl ()) (fun _ _ => True) ?_ ?_ (s := ()) trivial
 ·replace key : iter (fun a => run (fun _ => none) (g39_0 a)) ((s : Int), c, ((c.length : Nat) : Int), (0 : Int), ()) = _ := key
  rw [bind_of key]
  cases h : winB c s <;> simp [run_sl, run_sr, run_ret]
 ·rintro pre x post _ hxx -
  have hlen : c.length = pre.length + (post.length + 1) := by rw [hxx]; simp
  have hd : c.getD pre.length ((0 : Int), []) = x := by rw [hxx]; exact getD_mid rfl
  have hx : OkX n x := hc.ch x (by rw [hxx]; simp)
  have hin : inb (pre.length : Int) ((c.length : Nat) : Int) = true := inb_t (by omega) (by omega)
  have hni : rng .i64 ((pre.length : Int) + 1) = true := rng_i64 (by omega) (by omega)
  simp only [g39_0, run_br, run_bd, run_nb, run_ni, run_it, run_ret, Int.toNat_natCast, hd, br_d, hin, hni, need_true]
  rw [if_pos (by omega), bind_of (k39_1 hx hc.n6 hs)]
  have e : winB (x :: post) s = (win1 s x && winB post s) := rfl
  rw [e]
  by_cases hw : wt x.2 s < x.1
  ·right
   rw [if_pos hw]
   have : win1 s x = false := by simp only [win1, decide_eq_false_iff_not]; omega
   simp [this]
  ·left
   rw [if_neg hw]
   have : win1 s x = true := by simp only [win1, decide_eq_true_eq]; omega
   exact ⟨(), by simp [need_t hni], trivial, by simp [this]⟩
 ·rintro _ -
  simp only [g39_0, run_br, run_ret, br_d]
  rw [if_neg (by omega)]; simp [winB]
/-! Sums. -/
theorem sum_perm {α : Type} {l l' : List α} (h : l.Perm l') (f : α → Int) : (l.map f).sum = (l'.map f).sum := by
 induction h with
 | nil => rfl
 | cons x _ ih => simp [ih]
 | swap x y l => simp; omega
 | trans _ _ ih1 ih2 => exact ih1.trans ih2
theorem sum_eq {α : Type} {f g : α → Int} {l : List α} (h : ∀ x ∈ l, f x = g x) : (l.map f).sum = (l.map g).sum := by
 rw [List.map_congr_left h]
theorem sum_add {α : Type} {f g : α → Int} : ∀ {l : List α}, (l.map fun x => f x + g x).sum = (l.map f).sum + (l.map g).sum
 | [] => rfl
 | x :: l => by simp only [List.map_cons, List.sum_cons, sum_add (l := l)]; omega
theorem sum_append' {α : Type} {f : α → Int} {l l' : List α} : ((l ++ l').map f).sum = (l.map f).sum + (l'.map f).sum := by simp
theorem sumF_if {p : Nat → Bool} {f : Nat → Int} {m : Nat} : sumF p f 0 m = ((List.range m).map fun s => if p s = true then f s else 0).sum := by
 rw [sumF, ← List.range_eq_range']
 induction List.range m with
 | nil => rfl
 | cons s l ih => cases h : p s <;> simp [h, ih]
theorem sum_filter {q : Nat → Bool} {f : Nat → Int} {l : List Nat} (h : ∀ s ∈ l, q s = false → f s = 0) : (l.map f).sum = ((l.filter q).map f).sum := by
 induction l with
 | nil => rfl
 | cons s l ih =>
  have := ih fun s hs => h s (List.mem_cons_of_mem _ hs)
  cases hq : q s
  ·simp [hq, this, h s (List.mem_cons_self ..) hq]
  ·simp [hq, this]
theorem els_with {s i : Nat} (hs : s < 64) (hi : i < 6) (h : s.testBit i = false) : (els (s ||| 2 ^ i)).Perm (i :: els s) := by
 have := all_lt2 (n := 64) (m := 6) (p := fun s i => s.testBit i || decide ((els (s ||| 2 ^ i)).Perm (i :: els s))) (by decide +kernel) hs hi
 simpa [h] using this
theorem wt_with {ws : List Int} {s i : Nat} (hs : s < 64) (hi : i < 6) (h : s.testBit i = false) : wt ws (s ||| 2 ^ i) = wt ws s + ws.getD i 0 := by
 unfold wt
 rw [sum_perm (els_with hs hi h)]
 simp only [List.map_cons, List.sum_cons]; omega
theorem or_has {s i : Nat} (hs : s < 64) (hi : i < 6) (h : s.testBit i = true) : s ||| 2 ^ i = s := by
 have := all_lt2 (n := 64) (m := 6) (p := fun s i => !s.testBit i || decide (s ||| 2 ^ i = s)) (by decide +kernel) hs hi
 simpa [h] using this
/-- More growers do no harm. -/
theorem winB_mono {c : List Ch} {n : Nat} (hc : ∀ x ∈ c, OkX n x) {s i : Nat} (hs : s < 64) (hi : i < 6) (h : winB c s = true) : winB c (s ||| 2 ^ i) = true := by
 cases hb : s.testBit i
 case true => rw [or_has hs hi hb]; exact h
 unfold winB at h ⊢
 rw [List.all_eq_true] at h ⊢
 intro x hx
 have h1 := of_decide_eq_true (h x hx)
 have := (hc x hx).get i
 refine decide_eq_true ?_
 rw [wt_with hs hi hb]; omega
/-- Sets without two growers. -/
def no2 (n i j : Nat) : List Nat := (List.range (2 ^ n)).filter fun s => !s.testBit i && !s.testBit j
theorem split_no {n i j : Nat} (hn : n ≤ 6) (hi : i < n) (hj : j < n) (hij : i ≠ j) : ((List.range (2 ^ n)).filter fun s => !s.testBit i).Perm (no2 n i j ++ (no2 n i j).map fun s => s ||| 2 ^ j) := by
 have := all_lt (n := 7) (p := fun n => (List.range n).all fun i => (List.range n).all fun j => decide (i = j) || decide (((List.range (2 ^ n)).filter fun s => !s.testBit i).Perm (no2 n i j ++ (no2 n i j).map fun s => s ||| 2 ^ j))) (by decide +kernel) (s := n) (by omega)
 have := List.all_eq_true.1 (List.all_eq_true.1 this i (List.mem_range.2 hi)) j (List.mem_range.2 hj)
 simpa [hij] using this
theorem mem_no2 {n i j s : Nat} : s ∈ no2 n i j ↔ s < 2 ^ n ∧ s.testBit i = false ∧ s.testBit j = false := by
 simp [no2, List.mem_filter]
/-- A power of a grower, by the sets without it and another one. -/
theorem pw_split {c : List Ch} {n i j : Nat} {f : Nat → Int} (hn : n ≤ 6) (hi : i < n) (hj : j < n) (hij : i ≠ j) :
  pw c n f i = ((no2 n i j).map fun s => (if winB c s = false ∧ winB c (s ||| 2 ^ i) = true then f s else 0) + (if winB c (s ||| 2 ^ j) = false ∧ winB c (s ||| 2 ^ i ||| 2 ^ j) = true then f (s ||| 2 ^ j) else 0)).sum := by
 unfold pw
 rw [sumF_if, sum_filter (q := fun s => !s.testBit i) (fun s _ h => by simp [swingB] at h ⊢; intro h'; rw [h] at h'; cases h'), sum_perm (split_no hn hi hj hij), sum_append', sum_add]
 congr 1
 ·refine sum_eq fun s hs => ?_
  obtain ⟨_, h1, _⟩ := mem_no2.1 hs
  simp [swingB, h1]
 ·rw [List.map_map]
  refine sum_eq fun s hs => ?_
  obtain ⟨h0, h1, h2⟩ := mem_no2.1 hs
  have hb : (s ||| 2 ^ j).testBit i = false := by
   rw [Nat.testBit_or, h1, Nat.testBit_two_pow]; simp; exact fun e => hij e.symm
  have e : s ||| 2 ^ j ||| 2 ^ i = s ||| 2 ^ i ||| 2 ^ j := by rw [Nat.or_assoc, Nat.or_comm (2 ^ j), ← Nat.or_assoc]
  simp [swingB, hb, e]
end Go.Proofs.Tryd
end
section
namespace Go.Proofs.Tryd
open Go.AM Go.Cn
set_option maxRecDepth 100000
theorem i_cpl {n s : Nat} (hn : n ≤ 6) (hs : s < 2 ^ n) : ar0.bits IBin.andNot .i64 ((2 ^ n - 1 : Nat) : Int) (s : Int) = ((cpl n s : Nat) : Int) := by
 have := all_lt2 (n := 7) (m := 64) (p := fun n s => !(decide (s < 2 ^ n)) || ar0.bits IBin.andNot .i64 ((2 ^ n - 1 : Nat) : Int) (s : Int) == ((cpl n s : Nat) : Int)) (by kernel_rfl) (s := n) (i := s) (by omega) (by have := pow6 hn; omega)
 simpa [hs] using this
theorem rd_els {n s : Nat} (hn : n ≤ 6) (hs : s < 2 ^ n) : rd n (ints (els s)) = (s, 0) := by
 have := all_lt2 (n := 7) (m := 64) (p := fun n s => !(decide (s < 2 ^ n)) || decide (rd n (ints (els s)) = (s, 0))) (by decide +kernel) (s := n) (i := s) (by omega) (by have := pow6 hn; omega)
 simpa [hs] using this
theorem i_or {s t : Nat} (hs : s < 64) (ht : t < 64) : ar0.bits IBin.or .i64 (s : Int) (t : Int) = ((s ||| t : Nat) : Int) := by
 have := all_lt2 (n := 64) (m := 64) (p := fun s t => ar0.bits IBin.or .i64 (s : Int) (t : Int) == ((s ||| t : Nat) : Int)) (by kernel_rfl) hs ht
 simpa using this
/-- The old set of a set of the council with a bloc: growers who are not in the bloc. -/
def goT (k : Nat) : List Nat → Nat → Nat → Nat
 | [], _, t => t
 | x :: r, i, t => goT k r (i + 1) (if k.testBit i then t ||| 2 ^ x else t)
def outs (n s : Nat) : List Nat := els (cpl n s)
def mapT (n s k : Nat) : Nat := if k.testBit (outs n s).length then goT k (outs n s) 0 0 ||| s else goT k (outs n s) 0 0
theorem goT_lt {n : Nat} (hn : n ≤ 6) {k : Nat} : ∀ {l : List Nat} {i t : Nat}, (∀ x ∈ l, x < n) → t < 2 ^ n → goT k l i t < 2 ^ n
 | [], _, _, _, h => h
 | x :: r, i, t, hl, h => by
  simp only [goT]
  refine goT_lt hn (fun y hy => hl y (List.mem_cons_of_mem _ hy)) ?_
  split
  ·exact or_lt hn h (hl x (List.mem_cons_self ..))
  ·exact h
theorem outs_lt {n s : Nat} (hn : n ≤ 6) (hs : s < 2 ^ n) : ∀ x ∈ outs n s, x < n := by
 intro x hx
 unfold outs at hx
 rw [els_cpl hn hs] at hx
 exact List.mem_range.1 (List.mem_filter.1 hx).1
theorem mapT_lt {n s k : Nat} (hn : n ≤ 6) (hs : s < 2 ^ n) : mapT n s k < 2 ^ n := by
 have hp : 0 < 2 ^ n := Nat.pow_pos (by omega)
 have h := goT_lt (k := k) (i := 0) (t := 0) hn (outs_lt hn hs) hp
 unfold mapT
 split
 ·exact Nat.or_lt_two_pow h hs
 ·exact h
theorem outs_len {n s : Nat} (hn : n ≤ 5) (hs : s < 2 ^ n) (h0 : s ≠ 0) : (outs n s).length + 1 ≤ n := by
 have h32 : 2 ^ n ≤ 2 ^ 5 := Nat.pow_le_pow_right (by omega) hn
 have := all_lt2 (n := 6) (m := 32) (p := fun n s => !(decide (s < 2 ^ n)) || decide (s = 0) || decide ((outs n s).length + 1 ≤ n)) (by decide +kernel) (s := n) (i := s) (by omega) (by omega)
 simpa [hs, h0] using this
theorem mapT_els {n s k : Nat} (hn : n ≤ 5) (hs : s < 2 ^ n) (h0 : s ≠ 0) (hk : k < 2 ^ ((outs n s).length + 1)) :
  (els (mapT n s k)).Perm ((els k).flatMap fun i => if i < (outs n s).length then [(outs n s).getD i 0] else els s) := by
 have h32 : 2 ^ n ≤ 2 ^ 5 := Nat.pow_le_pow_right (by omega) hn
 have hl := outs_len hn hs h0
 have hk32 : 2 ^ ((outs n s).length + 1) ≤ 2 ^ 5 := Nat.pow_le_pow_right (by omega) (by omega)
 have := all_lt2 (n := 6) (m := 32) (p := fun n s => (List.range 32).all fun k => !(decide (s < 2 ^ n)) || decide (s = 0) || !(decide (k < 2 ^ ((outs n s).length + 1))) || decide ((els (mapT n s k)).Perm ((els k).flatMap fun i => if i < (outs n s).length then [(outs n s).getD i 0] else els s))) (by decide +kernel) (s := n) (i := s) (by omega) (by omega)
 have := all_lt this (show k < 32 by omega)
 simpa [hs, h0, hk] using this
theorem els_lt {k m i : Nat} (hk : k < 2 ^ m) (h : i ∈ els k) : i < m := by
 rcases Nat.lt_or_ge i m with h1 | h1
 ·exact h1
 ·have := (mem_els.1 h).2
  rw [Nat.testBit_lt_two_pow (Nat.lt_of_lt_of_le hk (Nat.pow_le_pow_right (by omega) h1))] at this; cases this
theorem sum_flat {α : Type} {f : α → Int} {g : Nat → List α} : ∀ {l : List Nat}, ((l.flatMap g).map f).sum = (l.map fun i => ((g i).map f).sum).sum
 | [] => rfl
 | x :: r => by simp [List.flatMap_cons, sum_flat (l := r)]
theorem wt_mapT {n s k : Nat} {ws : List Int} (hn : n ≤ 5) (hs : s < 2 ^ n) (h0 : s ≠ 0) (hk : k < 2 ^ ((outs n s).length + 1)) : wt (blW ws n s) k = wt ws (mapT n s k) := by
 unfold wt
 rw [sum_perm (mapT_els hn hs h0 hk), sum_flat]
 refine sum_eq fun i hi => ?_
 have hlt := els_lt hk hi
 have hlen : (rest ws n s).length = (outs n s).length := by simp [rest, outs]
 unfold blW
 by_cases h : i < (outs n s).length
 ·rw [if_pos h]
  have h1 : i < (rest ws n s).length := by omega
  have h2 : (rest ws n s)[i]? = some (ws.getD ((outs n s)[i]) 0) := by
   rw [List.getElem?_eq_getElem h1]; simp [rest, outs]
  simp [List.getD, List.getElem?_append_left h1, h2, h]
 ·rw [if_neg h]
  have e : i = (rest ws n s).length := by omega
  simp [List.getD, e, wt]
section
variable {c : List Ch} {n s : Nat}
def blO (c : List Ch) (n s : Nat) : List Ch := c.map fun x => (x.1, blW x.2 n s)
theorem winB_map (hn : n ≤ 5) (hs : s < 2 ^ n) (h0 : s ≠ 0) {k : Nat} (hk : k < 2 ^ ((outs n s).length + 1)) : winB (blO c n s) k = winB c (mapT n s k) := by
 unfold winB blO
 rw [List.all_map]
 congr 1
 funext x
 simp only [Function.comp, win1, wt_mapT hn hs h0 hk]
theorem wt7 {ws : List Int} (h : ∀ z ∈ ws, 0 ≤ z ∧ z ≤ 7) : 0 ≤ wt ws s ∧ wt ws s ≤ 1000 := by
 unfold wt
 have h1 := els_len (s := s)
 generalize els s = l at h1
 have hg : ∀ i : Nat, 0 ≤ ws.getD i 0 ∧ ws.getD i 0 ≤ 7 := fun i => by
  by_cases hi : i < ws.length
  ·rw [show ws.getD i 0 = ws[i] by simp [List.getD, hi]]; exact h _ (List.getElem_mem hi)
  ·rw [show ws.getD i 0 = 0 by simp [List.getD, hi]]; omega
 have : 0 ≤ (l.map fun i => ws.getD i 0).sum ∧ (l.map fun i => ws.getD i 0).sum ≤ 7 * (l.length : Int) := by
  clear h1
  induction l with
  | nil => simp
  | cons x r ih =>
   have := hg x
   simp only [List.map_cons, List.sum_cons, List.length_cons, Int.natCast_add, Int.natCast_one]
   omega
 omega
theorem blF_ok : ∀ {c : List Ch}, (∀ x ∈ c, ∀ z ∈ x.2, 0 ≤ z ∧ z ≤ 7) → blF n s c = some (blO c n s)
 | [], _ => rfl
 | x :: r, h => by
  have := wt7 (s := s) (h x (List.mem_cons_self ..))
  simp only [blF]
  rw [if_neg (by omega), blF_ok fun y hy => h y (List.mem_cons_of_mem _ hy)]
  rfl
theorem chk_ok (hc : OkC n c) : chk c = 0 := by
 have c1 := hc.c1
 have c3 := hc.c3
 have n1 := hc.n1
 have n6 := hc.n6
 unfold chk
 rw [if_neg (by omega), if_neg (by omega), hc.gro, if_neg (by omega), if_neg (by omega)]
 have : ∀ l : List Ch, (∀ x ∈ l, OkX n x) → chkL n l = 0 := by
  intro l
  induction l with
  | nil => intro _; rfl
  | cons x r ih =>
   intro h
   have ox := h x (List.mem_cons_self ..)
   have e : okCh n x = 0 := by
    unfold okCh
    rw [if_neg (not_not_intro ox.len), if_neg (not_not_intro ⟨ox.q1, ox.q2⟩), if_neg ?_]
    intro hb
    obtain ⟨z, hz, hbz⟩ := List.any_eq_true.1 hb
    have := ox.w z hz
    unfold badW at hbz
    simp at hbz
    omega
   simp only [chkL]
   rw [if_neg (not_not_intro e)]
   exact ih fun y hy => h y (List.mem_cons_of_mem _ hy)
 exact this c hc.ch
theorem blO_ok (ho : OkH n c) (hs : s < 2 ^ n) (h0 : s ≠ 0) : OkC ((outs n s).length + 1) (blO c n s) := by
 have hc := ho.ok
 have hl := outs_len ho.n5 hs h0
 have n5 := ho.n5
 have hlen : ∀ ws : List Int, (blW ws n s).length = (outs n s).length + 1 := fun ws => by simp [blW, rest, outs]
 have hx : ∀ x ∈ blO c n s, OkX ((outs n s).length + 1) x := by
  intro x hx
  obtain ⟨y, hy, rfl⟩ := List.mem_map.1 hx
  have oy := hc.ch y hy
  refine ⟨hlen _, oy.q1, oy.q2, fun z hz => ?_⟩
  simp only [blW] at hz
  rcases List.mem_append.1 hz with hz | hz
  ·obtain ⟨i, _, rfl⟩ := List.mem_map.1 hz
   exact oy.get i
  ·rcases List.mem_singleton.1 hz with rfl
   have := wt7 (s := s) (ho.w7 y hy)
   omega
 refine ⟨by simp [blO]; exact hc.c1, by simp [blO]; exact hc.c3, by omega, by omega, ?_, hx⟩
 have h1 := hc.c1
 cases hcc : c with
 | nil => rw [hcc] at h1; simp at h1
 | cons x r => exact hlen _
theorem k10_1 {k : Nat} {o : List Ch} (hn : n ≤ 5) (hs : s < 2 ^ n) (hk : k < 64) :
  iter (fun a => run (fun _ => none) (g10_1 a)) ((n : Int), (s : Int), ints (outs n s), (k : Int), (0 : Int), ints (outs n s), (((ints (outs n s)).length : Nat) : Int), (0 : Int), c, o, ()) =
   some ((n : Int), (s : Int), ints (outs n s), (k : Int), ((goT k (outs n s) 0 0 : Nat) : Int), c, o, ()) := by
 have hp : 0 < 2 ^ n := Nat.pow_pos (by omega)
 have h64 := pow6 (show n ≤ 6 by omega)
 have hlt := outs_lt (show n ≤ 6 by omega) hs
 have hl6 : (outs n s).length ≤ 6 := els_len
 have key := iter_list (outs n s) (f := fun a => run (fun _ => none) (g10_1 a)) (fun i (t : Nat × Nat) => ((n : Int), (s : Int), ints (outs n s), (k : Int), (t.1 : Int), ints (outs n s), (((ints (outs n s)).length : Nat) : Int), (i : Int), c, o, ()))
  (fun t r => ((n : Int), (s : Int), ints (outs n s), (k : Int), ((goT k r t.2 t.1 : Nat) : Int), c, o, ())) (fun pre t => t.1 < 2 ^ n ∧ t.2 = pre.length) ?_ ?_ (s := (0, 0)) ⟨hp, rfl⟩
 ·exact key
 ·rintro pre x post ⟨t, i⟩ hx ⟨ht, hi⟩
  simp only at ht hi
  left
  have hlen : (outs n s).length = pre.length + (post.length + 1) := by rw [hx]; simp
  have hxn : x < n := hlt x (by rw [hx]; simp)
  have hd : (ints (outs n s)).getD pre.length (0 : Int) = (x : Int) := by rw [hx]; simp [List.getD, ints]
  have hxp : 2 ^ x < 2 ^ n := Nat.pow_lt_pow_right (by omega) hxn
  have hx0 : 0 < 2 ^ x := Nat.pow_pos (by omega)
  have hli : (ints (outs n s)).length = (outs n s).length := by simp [ints]
  have hin : inb (pre.length : Int) (((outs n s).length : Nat) : Int) = true := inb_t (by omega) (by omega)
  have hin6 : inb (pre.length : Int) 64 = true := inb_t (by omega) (by omega)
  have hx6 : inb (x : Int) 64 = true := inb_t (by omega) (by omega)
  have hni : rng .i64 ((pre.length : Int) + 1) = true := rng_i64 (by omega) (by omega)
  subst hi
  refine ⟨(if k.testBit pre.length then t ||| 2 ^ x else t, pre.length + 1), ?_, ⟨?_, by simp⟩, by simp [goT]⟩
  ·simp only [g10_1, run_br, run_nb, run_ni, run_ret, Int.toNat_natCast, hd, hli, br_d, hin, hin6, hx6, hni, need_true, i_bit hk (show pre.length < 6 by omega)]
   rw [if_pos (by omega)]
   cases hb : k.testBit pre.length
   ·have e1 : ar0.shl (0 : Int) (x : Int) = ((0 : Nat) : Int) := by
     have := all_lt (n := 6) (p := fun x => ar0.shl (0 : Int) (x : Int) == ((0 : Nat) : Int)) (by kernel_rfl) (show x < 6 by omega)
     simpa using this
    simp only [Bool.false_eq_true, if_false]
    rw [e1, need_t (rng_i64 (by omega) (by omega)), i_or (show t < 64 by omega) (by omega)]
    simp
   ·simp only [if_true]
    rw [shl_one (by omega), need_t (rng_i64 (by omega) (by omega)), i_or (show t < 64 by omega) (by omega)]
    simp
  ·show (if k.testBit pre.length then t ||| 2 ^ x else t) < 2 ^ n
   split
   ·exact or_lt (by omega) ht hxn
   ·exact ht
 ·rintro ⟨t, i⟩ -
  have hli : (ints (outs n s)).length = (outs n s).length := by simp [ints]
  simp only [g10_1, run_br, run_ret, br_d, hli]
  rw [if_neg (by omega)]
  simp [goT]
theorem k10_0 (ho : OkH n c) (hs : s < 2 ^ n) (h0 : s ≠ 0) : iter (fun a => run (fun _ => none) (g10_0 a)) ((n : Int), (s : Int), ints (outs n s), (0 : Int), c, blO c n s, ()) =
  some (.inr ((n : Int), (s : Int), ints (outs n s), c, blO c n s, ())) := by
 have hc := ho.ok
 have hoo := blO_ok ho hs h0
 have hn := ho.n5
 have hl := outs_len hn hs h0
 have hli : (ints (outs n s)).length = (outs n s).length := by simp [ints]
 have h64 := pow6 (show n ≤ 6 by omega)
 have h64' := pow6 hoo.n6
 have hp : 0 < 2 ^ n := Nat.pow_pos (by omega)
 have hlo : 0 < (blO c n s).length := by have := hoo.c1; omega
 have hpo : 0 < 2 ^ ((outs n s).length + 1) := Nat.pow_pos (by omega)
 have q0 : run0 (F36 (blO c n s)) = _ := k36 hlo
 have hsh : ar0.shl (1 : Int) (((outs n s).length + 1 : Nat) : Int) = ((2 ^ ((outs n s).length + 1) : Nat) : Int) := shl_n (by omega)
 have key := iter_upto (f := fun a => run (fun _ => none) (g10_0 a)) (2 ^ ((outs n s).length + 1)) (fun k (_ : Unit) => ((n : Int), (s : Int), ints (outs n s), (k : Int), c, blO c n s, ()))
  (fun _ _ => Sum.inr ((n : Int), (s : Int), ints (outs n s), c, blO c n s, ())) (fun _ _ => True) ?_ ?_ (s := ()) trivial
 ·exact key
 ·rintro k _ hk -
  left
  refine ⟨(), ?_, trivial, rfl⟩
  have hm := mapT_lt (n := n) (s := s) (k := k) (by omega) hs
  have q1 : run (fun _ => none) (F39 (blO c n s) (k : Int)) = _ := k39 hoo hk
  have q2 : run (fun _ => none) (F39 c ((mapT n s k : Nat) : Int)) = _ := k39 hc hm
  have hni : rng .i64 ((k : Int) + 1) = true := rng_i64 (by omega) (by omega)
  have hg := goT_lt (k := k) (i := 0) (t := 0) (show n ≤ 6 by omega) (outs_lt (by omega) hs) hp
  simp only [g10_0, run_br, run_bd, run_it, run_jx, run_nb, run_ni, run_ret, q0, hoo.gro, bindO_s, br_d, hsh]
  rw [need_inb (by omega) (by omega), need_t (rng_i64 (by omega) (by omega)), if_pos (by omega), bind_of (k10_1 hn hs (by omega))]
  dsimp only
  rw [hli, need_inb (by omega) (by omega), i_bit (show k < 64 by omega) (show (outs n s).length < 6 by omega)]
  have e : ∀ b : Bool, (((if b then 1 else 0 : Int)) == 1) = b := by decide
  rw [e]
  have q3 : run (fun _ => none) (F39 (blO c n s) (k : Int)) = some (winB c (mapT n s k), ()) := by rw [q1, winB_map hn hs h0 hk]
  cases hb : k.testBit (outs n s).length
  ·have em : mapT n s k = goT k (outs n s) 0 0 := by simp [mapT, hb]
   rw [em] at q2 q3
   simp only [brO_false, onS, bindO_s, q3, q2, beq_self_eq_true, Bool.not_true, hni, need_true]
   simp
  ·have em : mapT n s k = goT k (outs n s) 0 0 ||| s := by simp [mapT, hb]
   rw [em] at q2 q3
   simp only [brO_true, onS, bindO_s, i_or (show goT k (outs n s) 0 0 < 64 by omega) (show s < 64 by omega), q3, q2, beq_self_eq_true, Bool.not_true, hni, need_true]
   simp
 ·rintro _ -
  simp only [g10_0, run_br, run_bd, run_nb, run_ni, run_ret, q0, hoo.gro, bindO_s, br_d, hsh]
  rw [need_inb (by omega) (by omega), need_t (rng_i64 (by omega) (by omega)), if_neg (by omega)]
/-- A bloc of two. -/
theorem two_perm {i j : Nat} (hn : n ≤ 5) (hs : s < 2 ^ n) (he : els s = [i, j]) :
  (((List.range (2 ^ ((outs n s).length + 1))).filter fun k => !k.testBit (outs n s).length).map (mapT n s)).Perm (no2 n i j) := by
 have h32 : 2 ^ n ≤ 2 ^ 5 := Nat.pow_le_pow_right (by omega) hn
 have := all_lt2 (n := 6) (m := 32) (p := fun n s => !(decide (s < 2 ^ n)) || !(decide ((els s).length = 2)) || decide ((((List.range (2 ^ ((outs n s).length + 1))).filter fun k => !k.testBit (outs n s).length).map (mapT n s)).Perm (no2 n ((els s).getD 0 0) ((els s).getD 1 0)))) (by decide +kernel) (s := n) (i := s) (by omega) (by omega)
 simpa [hs, he] using this
theorem two_or {i j k : Nat} (hn : n ≤ 5) (hs : s < 2 ^ n) (he : els s = [i, j]) (hk : k < 2 ^ ((outs n s).length + 1)) (hb : k.testBit (outs n s).length = false) :
  mapT n s (k ||| 2 ^ (outs n s).length) = mapT n s k ||| 2 ^ i ||| 2 ^ j := by
 have h32 : 2 ^ n ≤ 2 ^ 5 := Nat.pow_le_pow_right (by omega) hn
 have h0 : s ≠ 0 := fun e => by subst e; rw [els_zero] at he; cases he
 have hl := outs_len hn hs h0
 have hk32 : 2 ^ ((outs n s).length + 1) ≤ 2 ^ 5 := Nat.pow_le_pow_right (by omega) (by omega)
 have := all_lt2 (n := 6) (m := 32) (p := fun n s => (List.range 32).all fun k => !(decide (s < 2 ^ n)) || !(decide ((els s).length = 2)) || !(decide (k < 2 ^ ((outs n s).length + 1))) || k.testBit (outs n s).length || decide (mapT n s (k ||| 2 ^ (outs n s).length) = mapT n s k ||| 2 ^ ((els s).getD 0 0) ||| 2 ^ ((els s).getD 1 0))) (by decide +kernel) (s := n) (i := s) (by omega) (by omega)
 have := all_lt this (show k < 32 by omega)
 simpa [hs, he, hk, hb] using this
theorem two_pw {i j : Nat} (ho : OkH n c) (hs : s < 2 ^ n) (he : els s = [i, j]) (hi : i < n) (hj : j < n) (hij : i ≠ j) :
  2 * pw (blO c n s) ((outs n s).length + 1) (fun _ => 1) (outs n s).length = pw c n (fun _ => 1) i + pw c n (fun _ => 1) j := by
 have hn := ho.n5
 have h64 := pow6 (show n ≤ 6 by omega)
 have h0 : s ≠ 0 := fun e => by subst e; rw [els_zero] at he; cases he
 have e1 : pw (blO c n s) ((outs n s).length + 1) (fun _ => 1) (outs n s).length = ((no2 n i j).map fun T => if winB c T = false ∧ winB c (T ||| 2 ^ i ||| 2 ^ j) = true then (1 : Int) else 0).sum := by
  unfold pw
  rw [sumF_if, sum_filter (q := fun k => !k.testBit (outs n s).length) (fun k _ h => by simp [swingB] at h ⊢; intro h'; rw [h] at h'; cases h'), ← sum_perm (two_perm hn hs he), List.map_map]
  refine sum_eq fun k hk => ?_
  obtain ⟨h1, h2⟩ := List.mem_filter.1 hk
  have h1 := List.mem_range.1 h1
  have h2 : k.testBit (outs n s).length = false := by simpa using h2
  have hk2 : k ||| 2 ^ (outs n s).length < 2 ^ ((outs n s).length + 1) := Nat.or_lt_two_pow h1 (Nat.pow_lt_pow_right (by omega) (by omega))
  simp only [Function.comp, swingB, h2, winB_map hn hs h0 h1, winB_map hn hs h0 hk2, two_or hn hs he h1 h2]
  simp
 have e2 := pw_split (c := c) (f := fun _ => 1) (show n ≤ 6 by omega) hi hj hij
 have e3 := pw_split (c := c) (f := fun _ => 1) (show n ≤ 6 by omega) hj hi (Ne.symm hij)
 have hcomm : no2 n j i = no2 n i j := by
  unfold no2; congr 1; funext s; rw [Bool.and_comm]
 rw [hcomm] at e3
 rw [e1, e2, e3, ← sum_add, show ∀ z : Int, 2 * z = z + z from fun z => by omega, ← sum_add]
 refine sum_eq fun T hT => ?_
 obtain ⟨m1, m2, m3⟩ := mem_no2.1 hT
 have l1 := or_lt (show n ≤ 6 by omega) m1 hi
 have l2 := or_lt (show n ≤ 6 by omega) m1 hj
 have e : T ||| 2 ^ j ||| 2 ^ i = T ||| 2 ^ i ||| 2 ^ j := by rw [Nat.or_assoc, Nat.or_comm (2 ^ j), ← Nat.or_assoc]
 have x1 : winB c T = true → winB c (T ||| 2 ^ i) = true := fun h => winB_mono ho.ok.ch (by omega) (by omega) h
 have x2 : winB c T = true → winB c (T ||| 2 ^ j) = true := fun h => winB_mono ho.ok.ch (by omega) (by omega) h
 have x3 : winB c (T ||| 2 ^ i) = true → winB c (T ||| 2 ^ i ||| 2 ^ j) = true := fun h => winB_mono ho.ok.ch (by omega) (by omega) h
 have x4 : winB c (T ||| 2 ^ j) = true → winB c (T ||| 2 ^ i ||| 2 ^ j) = true := fun h => e ▸ winB_mono ho.ok.ch (by omega) (by omega) h
 rw [e]
 generalize winB c T = a at *
 generalize winB c (T ||| 2 ^ i) = b at *
 generalize winB c (T ||| 2 ^ j) = d at *
 generalize winB c (T ||| 2 ^ i ||| 2 ^ j) = t at *
 cases a <;> cases b <;> cases d <;> cases t <;> simp at x1 x2 x3 x4 ⊢
theorem pw_bd {c : List Ch} {n i : Nat} (hn : n ≤ 6) : 0 ≤ pw c n (fun _ => 1) i ∧ pw c n (fun _ => 1) i ≤ 64 := by
 have h64 := pow6 hn
 unfold pw sumF
 have : ∀ l : List Nat, 0 ≤ (l.map fun _ => (1 : Int)).sum ∧ (l.map fun _ => (1 : Int)).sum ≤ (l.length : Int) := by
  intro l
  induction l with
  | nil => simp
  | cons x r ih => simp only [List.map_cons, List.sum_cons, List.length_cons, Int.natCast_add, Int.natCast_one]; omega
 have h1 := this ((List.range' 0 (2 ^ n)).filter (swingB c i))
 have h2 : ((List.range' 0 (2 ^ n)).filter (swingB c i)).length ≤ 2 ^ n := by
  have := List.length_filter_le (swingB c i) (List.range' 0 (2 ^ n))
  simpa using this
 omega
end
theorem pws_get' {c : List Ch} {n i : Nat} {f : Nat → Int} (hi : i < n) : (pws c n f).getD i 0 = pw c n f i := by
 simp [pws, List.getD, hi]
theorem law10 (h : Hl) (a1 : Int) (hW : WfAll [hlT, u8T] (h, a1, ())) : run0 (F10 h a1) = some (true, ()) := by
 obtain ⟨c, n, hm, ho⟩ := made_ok hW.1
 have u1 : isU8 a1 := isU8_of hW.2.1
 have hc := ho.ok
 have hn := hc.n6
 have hn5 := ho.n5
 have hn1 := hc.n1
 have hp : 0 < 2 ^ n := Nat.pow_pos (by omega)
 have h64 := pow6 hn
 have h0 : 0 < c.length := by have := hc.c1; omega
 obtain ⟨s, hs, es⟩ : ∃ s : Nat, s < 2 ^ n ∧ Int.tmod a1 ((2 ^ n : Nat) : Int) = (s : Int) := by
  have h1 := Int.tmod_nonneg ((2 ^ n : Nat) : Int) u1.1
  have h2 := Int.tmod_lt_of_pos a1 (show (0 : Int) < ((2 ^ n : Nat) : Int) by omega)
  exact ⟨(Int.tmod a1 ((2 ^ n : Nat) : Int)).toNat, by omega, by omega⟩
 simp only [F10, run_bd]
 rw [bind_of hm]
 have hnb : inb (n : Int) 64 = true := inb_t (by omega) (by omega)
 have r1 : rng .i64 a1 = true := rng_i64 (by have := u1.1; omega) (by have := u1.2; omega)
 have hge := u1.1
 have hle := u1.2
 have r2 : rng .i64 ((2 ^ n : Nat) : Int) = true := rng_i64 (by omega) (by omega)
 have nz : (!(((2 ^ n : Nat) : Int) == 0)) = true := by rw [beq_eq_false_iff_ne.2 (show ((2 ^ n : Nat) : Int) ≠ 0 by omega)]; rfl
 have e2 : ((2 ^ n : Nat) : Int) - 1 = ((2 ^ n - 1 : Nat) : Int) := by omega
 have r3 : rng .i64 ((2 ^ n - 1 : Nat) : Int) = true := rng_i64 (by omega) (by omega)
 simp only [run_ni, run_nd, run_nb, run_bd, run_it, run_br, run_ret, k36 h0, hc.gro, bindO_s, shl_n hn, hnb, need_true, r1, r2, nz, es, e2, r3, br_eq, br_not]
 rw [bind_of (k40 (show s < 64 by omega)), bind_of (k29 hc ho.chk0 (show (ints (els s)).length < 1000 by simp [ints]; have := els_len (s := s); omega))]
 have hbl : blR c n (ints (els s)) = if s = 0 then (([], ()), 4, ()) else ((blO c n s, ()), 0, ()) := by
  unfold blR
  rw [rd_els hn hs]
  dsimp only
  rw [if_neg (by simp), blF_ok ho.w7]
 rw [hbl]
 by_cases hs0 : s = 0
 ·subst hs0
  simp [works_ok]
 have hoo := blO_ok ho hs hs0
 have hl := outs_len hn5 hs hs0
 have hli : (ints (outs n s)).length = (outs n s).length := by simp [ints]
 have hlo : 0 < (blO c n s).length := by have := hoo.c1; omega
 have hlc : (blO c n s).length = c.length := by simp [blO]
 rw [if_neg hs0, if_neg (show ¬ ((s : Int) = 0) by omega), i_cpl hn hs, bind_of (k40 (show cpl n s < 64 by have := cpl_lt (s := s) hn; omega))]
 dsimp only
 simp only [if_true, hlc]
 rw [bind_of (k41 _), chk_ok hoo, if_pos rfl, bind_of (k36 hlo), hoo.gro]
 show need _ _ = _
 have eo : els (cpl n s) = outs n s := rfl
 rw [eo, hli]
 have e3 : ((outs n s).length : Int) + 1 = (((outs n s).length + 1 : Nat) : Int) := by simp
 rw [e3, need_t (rng_i64 (by omega) (by omega)), if_pos rfl, bind_of (k10_0 ho hs hs0)]
 simp only [run_sr, run_bd, run_br, run_nb, run_ni, run_ret, br_not, br_eq]
 rw [bind_of (k40 (show s < 64 by omega))]
 by_cases h2 : (els s).length = 2
 case neg =>
  have hx : ¬ (((ints (els s)).length : Nat) : Int) = 2 := by simp [ints]; omega
  rw [if_neg hx, bind_of works_ok]
 have hx : (((ints (els s)).length : Nat) : Int) = 2 := by simp [ints]; omega
 obtain ⟨i, j, he⟩ : ∃ i j, els s = [i, j] := by
  match h : els s, h2 with
  | [i, j], _ => exact ⟨i, j, rfl⟩
 have hi : i < n := els_lt hs (by rw [he]; simp)
 have hj : j < n := els_lt hs (by rw [he]; simp)
 have hij : i ≠ j := fun e => by
  have : (els s).Nodup := List.Nodup.sublist List.filter_sublist List.nodup_range
  rw [he, e] at this; simp at this
 rw [if_pos hx, bind_of (k18 hc ho.chk0), bind_of (k18 hoo (chk_ok hoo))]
 simp only [if_true, pw_len, hli]
 rw [e3, need_t (rng_i64 (by omega) (by omega)), if_pos rfl, bind_of (k40 (show s < 64 by omega)), he]
 have b1 := pw_bd (c := c) (i := i) hn
 have b2 := pw_bd (c := c) (i := j) hn
 have b3 := pw_bd (c := blO c n s) (i := (outs n s).length) hoo.n6
 have tw := two_pw ho hs he hi hj hij
 have g1 : (ints [i, j]).getD (Int.toNat 0) 0 = (i : Int) := rfl
 have g2 : (ints [i, j]).getD (Int.toNat 1) 0 = (j : Int) := rfl
 have g3 : (ints [i, j]).length = 2 := rfl
 simp only [g1, g2, g3, Int.toNat_natCast, pws_get' hi, pws_get' hj, pws_get' (show (outs n s).length < (outs n s).length + 1 by omega)]
 rw [need_inb (by omega) (by omega), need_t (rng_i64 (by omega) (by omega)), need_inb (by omega) (by omega), need_inb (by omega) (by omega), need_inb (by omega) (by omega), need_inb (by omega) (by omega), need_t (rng_i64 (by omega) (by omega)), if_pos tw, bind_of works_ok]
end Go.Proofs.Tryd
end
