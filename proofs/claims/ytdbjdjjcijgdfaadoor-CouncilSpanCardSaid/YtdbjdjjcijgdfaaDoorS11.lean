/- Tools for laws: rounds that count, find or keep something; needs. Rounds over a list, with a function that says what comes out. Plain Lean. Sets as numbers below 64: their growers, one after the other. Plain Lean. A council is valid: program and reference say the same. A set's weight, and whether it wins: the program's. The reference's sums and wins; councils out of parts; what is known of a council. Sets without some; swings and turns of the program. Swings and turns: the program's and the reference's. Swings and turns of the reference; the law of powers. Swings and turns are as stated. Which of two growers is stronger: the program and the reference. Lists of growers as sets; wins; exchanges: the program and the reference. The weights and quotas with which the same sets win: the program and the reference. The weights and quotas with which the same sets win are as stated. Councils by numbers; sets that win, without the reference. Sums over sets; sets that win, and lists of sets, without the reference. Within the span nothing changes, next to it something does: CouncilSpan, as a plain law. -/
import Derived.Test.YtdbjdjjcijgdfaaDoorG11
set_option linter.unusedSectionVars false
set_option linter.unusedVariables false
set_option linter.unusedSimpArgs false
section
namespace Go.AM
theorem need_u64 {X : Type} {z : Int} {x : Option X} (h1 : 0 ≤ z) (h2 : z ≤ 18446744073709551615) : need (rng .u64 z) x = x := need_t (rng_u64 h1 h2)
theorem bigL_eq : bigL = 1073741824 := by decide
theorem need_big {X : Type} {n : Nat} {x : Option X} (h : n < 1000000000) : need (decide (n < bigL)) x = x := need_d (by rw [bigL_eq]; omega)
theorem need_inbL {X : Type} {i : Int} {x : Option X} (h : 0 ≤ i) (h2 : i < 1000000000) : need (inb i ((bigL : Nat) : Int)) x = x := need_inb h (by rw [bigL_eq]; omega)
/-- Rounds that count, or end early with what was found. -/
theorem iter_find {α β γ : Type} {step : α → Option (α ⊕ β)} (n : Nat) (g : Nat → α) (stop : Nat → Option γ) (inj : γ → β) {b : β}
  (hr : ∀ k, k < n → (∀ j, j < k → stop j = none) → step (g k) = match stop k with | none => some (.inl (g (k + 1))) | some c => some (.inr (inj c))) (he : (∀ j, j < n → stop j = none) → step (g n) = some (.inr b)) :
  iter step (g 0) = some (((List.range n).findSome? stop).elim b inj) := by
 have key : ∀ m k, k + m = n → (∀ j, j < k → stop j = none) → iter step (g k) = some (((List.range' k m).findSome? stop).elim b inj) := by
  intro m
  induction m with
  | zero =>
   intro k hk hs
   have : k = n := by omega
   subst this
   simpa using iter_inr (he hs)
  | succ m ih =>
   intro k hk hs0
   have h := hr k (by omega) hs0
   rw [List.range'_succ, List.findSome?_cons]
   cases hs : stop k with
   | none =>
    rw [hs] at h
    refine iter_inl h (ih (k + 1) (by omega) fun j hj => ?_)
    by_cases e : j = k
    ·rw [e, hs]
    ·exact hs0 j (by omega)
   | some c => rw [hs] at h; exact iter_inr h
 rw [List.range_eq_range']
 exact key n 0 (by omega) (fun j hj => by omega)
/-- Rounds that count and keep something. -/
theorem iter_ex {α β : Type} {step : α → Option (α ⊕ β)} (n : Nat) (I : Nat → α → Prop) (Q : β → Prop) (hr : ∀ k x, k < n → I k x → ∃ y, step x = some (.inl y) ∧ I (k + 1) y) (he : ∀ x, I n x → ∃ b, step x = some (.inr b) ∧ Q b)
  {x : α} (h0 : I 0 x) : ∃ b, iter step x = some b ∧ Q b := by
 have key : ∀ m k x, k + m = n → I k x → ∃ b, iter step x = some b ∧ Q b := by
  intro m
  induction m with
  | zero =>
   intro k x hk hx
   have : k = n := by omega
   subst this
   obtain ⟨b, h1, h2⟩ := he x hx
   exact ⟨b, iter_inr h1, h2⟩
  | succ m ih =>
   intro k x hk hx
   obtain ⟨y, h1, h2⟩ := hr k x (by omega) hx
   obtain ⟨b, h3, h4⟩ := ih (k + 1) y (by omega) h2
   exact ⟨b, iter_inl h1 h3, h4⟩
 exact key n 0 x (by omega) h0
/-- Rounds over the items of a list: the state is what the items so far came to. -/
theorem iter_fold {α β γ σ : Type} {step : α → Option (α ⊕ β)} (l : List γ) (d : γ) (f : σ → γ → σ) (g : Nat → σ → α) (s0 : σ) (I : σ → Prop) {out : σ → β} (h0 : I s0)
  (hr : ∀ k s, k < l.length → I s → I (f s (l.getD k d)) ∧ step (g k s) = some (.inl (g (k + 1) (f s (l.getD k d))))) (he : ∀ s, I s → step (g l.length s) = some (.inr (out s))) :
  iter step (g 0 s0) = some (out (l.foldl f s0)) ∧ I (l.foldl f s0) := by
 have key : ∀ m k s, k + m = l.length → I s → iter step (g k s) = some (out ((l.drop k).foldl f s)) ∧ I ((l.drop k).foldl f s) := by
  intro m
  induction m with
  | zero =>
   intro k s hk hs
   rw [show k = l.length by omega, List.drop_length]
   exact ⟨iter_inr (he s hs), hs⟩
  | succ m ih =>
   intro k s hk hs
   obtain ⟨h1, h2⟩ := hr k s (by omega) hs
   obtain ⟨h3, h4⟩ := ih (k + 1) _ (by omega) h1
   have e : l.drop k = l.getD k d :: l.drop (k + 1) := by
    rw [List.drop_eq_getElem_cons (by omega)]; simp [List.getD_eq_getElem?_getD, List.getElem?_eq_getElem (show k < l.length by omega)]
   rw [e, List.foldl_cons]
   exact ⟨iter_inl h2 h3, h4⟩
 have := key l.length 0 s0 (by omega) h0
 simpa using this
theorem getD_take {α : Type} {l : List α} {k n : Nat} {d : α} (h : k < n) : (l.take n).getD k d = l.getD k d := by
 simp [List.getD_eq_getElem?_getD, List.getElem?_take, h]
theorem getD_mem {α : Type} {l : List α} {k : Nat} {d : α} (h : k < l.length) : l.getD k d ∈ l := by
 simp [List.getD_eq_getElem?_getD, List.getElem?_eq_getElem h]
theorem take_succ_getD {α : Type} {l : List α} {k : Nat} (d : α) (h : k < l.length) : l.take (k + 1) = l.take k ++ [l.getD k d] := by
 rw [List.take_succ_eq_append_getElem h]; simp [List.getD_eq_getElem?_getD, List.getElem?_eq_getElem h]
theorem getD_el {α : Type} {l : List α} {k : Nat} (d : α) (h : k < l.length) : l.getD k d = l[k] := by
 simp [List.getD_eq_getElem?_getD, List.getElem?_eq_getElem h]
theorem getD_out {α : Type} {l : List α} {k : Nat} (d : α) (h : l.length ≤ k) : l.getD k d = d := by
 simp [List.getD_eq_getElem?_getD, List.getElem?_eq_none h]
end Go.AM
end
section
namespace Go.AM
theorem getD_mid {α : Type} {A B : List α} {x d : α} {n : Nat} (h : n = A.length) : (A ++ x :: B).getD n d = x := by
 subst h; simp [List.getD_eq_getElem?_getD]
/-- Rounds over the items of a list: 'G' says what comes out of a state and the items that are left. -/
theorem iter_list {A B S X : Type} {f : A → Option (A ⊕ B)} (xs : List X) (mk : Nat → S → A) (G : S → List X → B) (Inv : List X → S → Prop)
  (hs : ∀ pre x post s, xs = pre ++ x :: post → Inv pre s →
   (∃ s', f (mk pre.length s) = some (.inl (mk (pre.length + 1) s')) ∧ Inv (pre ++ [x]) s' ∧ G s (x :: post) = G s' post) ∨ f (mk pre.length s) = some (.inr (G s (x :: post))))
  (he : ∀ s, Inv xs s → f (mk xs.length s) = some (.inr (G s []))) {s : S} (h0 : Inv [] s) : iter f (mk 0 s) = some (G s xs) := by
 have key : ∀ (post pre : List X) (s : S), xs = pre ++ post → Inv pre s → iter f (mk pre.length s) = some (G s post) := by
  intro post
  induction post with
  | nil =>
   intro pre s hx hi
   have : pre = xs := by rw [hx]; simp
   subst this
   exact iter_inr (he s hi)
  | cons x post ih =>
   intro pre s hx hi
   rcases hs pre x post s hx hi with ⟨s', h1, h2, h3⟩ | h1
   ·refine iter_inl h1 ?_
    rw [h3]
    have := ih (pre ++ [x]) s' (by rw [hx]; simp) h2
    simpa using this
   ·exact iter_inr h1
 exact key xs [] s (by simp) h0
theorem bind_eq {A X : Type} {o : Option A} {a : A} {f : A → Option X} {y : Option X} (h : o = some a) (e : f a = y) : bindO o f = y := by rw [h, bindO_s, e]
theorem bigL_val : ((bigL : Nat) : Int) = 1073741824 := by decide
theorem need_lenbig {X : Type} {n : Nat} {x : Option X} (h : n < 1000000000) : need (decide (n < bigL)) x = x := need_d (by have := bigL_val; omega)
end Go.AM
end
section
namespace Go.Cn
open Go.AM
/-- The growers of a set. -/
def els (s : Nat) : List Nat := (List.range 6).filter s.testBit
/-- The first of them. -/
def tzN (s : Nat) : Nat := ((List.range 6).find? s.testBit).getD 64
def low (s : Nat) : Nat := s &&& (s - 1)
/-- What is so of all small numbers is seen by trying them. -/
theorem all_lt {n : Nat} {p : Nat → Bool} (h : (List.range n).all p = true) {s : Nat} (hs : s < n) : p s = true := List.all_eq_true.1 h s (List.mem_range.2 hs)
theorem all_lt2 {n m : Nat} {p : Nat → Nat → Bool} (h : (List.range n).all (fun s => (List.range m).all (p s)) = true) {s i : Nat} (hs : s < n) (hi : i < m) : p s i = true := all_lt (all_lt h hs) hi
theorem els_zero : els 0 = [] := by decide
theorem els_cons {s : Nat} (hs : s < 64) (h : s ≠ 0) : els s = tzN s :: els (low s) := by
  have := all_lt (n := 64) (p := fun s => s == 0 || decide (els s = tzN s :: els (low s))) (by decide +kernel) hs
  simpa [h] using this
theorem low_lt {s : Nat} (hs : s < 64) (h : s ≠ 0) : low s < s := by
  have := all_lt (n := 64) (p := fun s => s == 0 || decide (low s < s)) (by decide +kernel) hs
  simpa [h] using this
theorem mem_els {s i : Nat} : i ∈ els s ↔ i < 6 ∧ s.testBit i = true := by simp [els]
/-- Below 2^n there are only the first n. -/
theorem els_upto {s n : Nat} (hn : n ≤ 6) (hs : s < 2 ^ n) : els s = (List.range n).filter s.testBit := by
  have := all_lt2 (n := 7) (m := 64) (p := fun n s => !(decide (s < 2 ^ n)) || decide (els s = (List.range n).filter s.testBit)) (by decide +kernel) (s := n) (i := s) (by omega) (by
    have : 2 ^ n ≤ 2 ^ 6 := Nat.pow_le_pow_right (by omega) hn
    omega)
  simpa [hs] using this
theorem tz_lt {s n : Nat} (hn : n ≤ 6) (hs : s < 2 ^ n) (h : s ≠ 0) : tzN s < n := by
  have h64 : s < 64 := by
    have : 2 ^ n ≤ 2 ^ 6 := Nat.pow_le_pow_right (by omega) hn
    omega
  have e := els_upto hn hs
  rw [els_cons h64 h] at e
  have : tzN s ∈ (List.range n).filter s.testBit := by rw [← e]; exact List.mem_cons_self ..
  exact List.mem_range.1 (List.mem_filter.1 this).1
theorem pow6 {n : Nat} (hn : n ≤ 6) : 2 ^ n ≤ 64 := Nat.pow_le_pow_right (by omega) hn
/-- Rounds over the growers of a set. -/
theorem iter_els {A B S : Type} {f : A → Option (A ⊕ B)} (mk : Nat → S → A) (G : S → List Nat → B) (Inv : Nat → S → Prop)
    (hs : ∀ s st, s < 64 → s ≠ 0 → Inv s st → (∃ st', f (mk s st) = some (.inl (mk (low s) st')) ∧ Inv (low s) st' ∧ G st (tzN s :: els (low s)) = G st' (els (low s))) ∨ f (mk s st) = some (.inr (G st (tzN s :: els (low s)))))
    (he : ∀ st, Inv 0 st → f (mk 0 st) = some (.inr (G st []))) : ∀ {s : Nat} {st : S}, s < 64 → Inv s st → iter f (mk s st) = some (G st (els s)) := by
  intro s
  induction s using Nat.strongRecOn with
  | ind s ih =>
    intro st h64 hi
    by_cases h0 : s = 0
    · subst h0; rw [els_zero]; exact iter_inr (he st hi)
    · rw [els_cons h64 h0]
      rcases hs s st h64 h0 hi with ⟨st', h1, h2, h3⟩ | h1
      · rw [h3]
        exact iter_inl h1 (ih _ (low_lt h64 h0) (by have := low_lt h64 h0; omega) h2)
      · exact iter_inr h1
/-- Rounds that count up, and carry something. -/
theorem iter_upto {A B S : Type} {f : A → Option (A ⊕ B)} (N : Nat) (mk : Nat → S → A) (G : S → Nat → B) (Inv : Nat → S → Prop)
    (hs : ∀ k st, k < N → Inv k st → (∃ st', f (mk k st) = some (.inl (mk (k + 1) st')) ∧ Inv (k + 1) st' ∧ G st k = G st' (k + 1)) ∨ f (mk k st) = some (.inr (G st k)))
    (he : ∀ st, Inv N st → f (mk N st) = some (.inr (G st N))) {s : S} (h0 : Inv 0 s) : iter f (mk 0 s) = some (G s 0) := by
  have key : ∀ m k s, k + m = N → Inv k s → iter f (mk k s) = some (G s k) := by
    intro m
    induction m with
    | zero => intro k s hk hi; have e : k = N := by omega
              subst e; exact iter_inr (he s hi)
    | succ m ih =>
      intro k s hk hi
      rcases hs k s (by omega) hi with ⟨s', h1, h2, h3⟩ | h1
      · rw [h3]; exact iter_inl h1 (ih (k + 1) s' (by omega) h2)
      · exact iter_inr h1
  exact key N 0 s (by omega) h0
/-! Operations on 64 els, on small numbers. -/
theorem u_with {s i : Nat} (hs : s < 64) (hi : i < 6) : ar0.bits IBin.or .u64 (s : Int) (ar0.shl (1 : Int) (i : Int)) = ((s ||| 2 ^ i : Nat) : Int) := by
  have := all_lt2 (n := 64) (m := 6) (p := fun s i => ar0.bits IBin.or .u64 (s : Int) (ar0.shl (1 : Int) (i : Int)) == ((s ||| 2 ^ i : Nat) : Int)) (by kernel_rfl) hs hi
  simpa using this
/-- A set without one. -/
def wo (s i : Nat) : Nat := if s.testBit i then s - 2 ^ i else s
theorem u_wo {s i : Nat} (hs : s < 64) (hi : i < 6) : ar0.bits IBin.andNot .u64 (s : Int) (ar0.shl (1 : Int) (i : Int)) = ((wo s i : Nat) : Int) := by
  have := all_lt2 (n := 64) (m := 6) (p := fun s i => ar0.bits IBin.andNot .u64 (s : Int) (ar0.shl (1 : Int) (i : Int)) == ((wo s i : Nat) : Int)) (by kernel_rfl) hs hi
  simpa using this
theorem u_low {s : Nat} (hs : s < 64) (h : s ≠ 0) : ar0.bits IBin.and .u64 (s : Int) ((s : Int) - 1) = ((low s : Nat) : Int) := by
  have := all_lt (n := 64) (p := fun s => s == 0 || ar0.bits IBin.and .u64 (s : Int) ((s : Int) - 1) == ((low s : Nat) : Int)) (by kernel_rfl) hs
  simpa [h] using this
theorem shl_one {i : Nat} (hi : i < 12) : ar0.shl (1 : Int) (i : Int) = ((2 ^ i : Nat) : Int) := by
  have := all_lt (n := 12) (p := fun i => ar0.shl (1 : Int) (i : Int) == ((2 ^ i : Nat) : Int)) (by kernel_rfl) hi
  simpa using this
theorem wo_lt {s i n : Nat} (hs : s < n) : wo s i < n := by
  have := Nat.sub_le s (2 ^ i)
  unfold wo; split <;> omega
theorem or_lt {s i n : Nat} (hn : n ≤ 6) (hs : s < 2 ^ n) (hi : i < n) : s ||| 2 ^ i < 2 ^ n := Nat.or_lt_two_pow hs (Nat.pow_lt_pow_right (by omega) hi)
end Go.Cn
end
section
namespace Go.Proofs.Tryd
open Go.AM Go.Cn
set_option maxRecDepth 100000
abbrev Ch := Int × List Int
def gro (c : List Ch) : Nat := (c.getD 0 ((0 : Int), [])).2.length
def badW (z : Int) : Bool := !decide (0 ≤ z ∧ z ≤ 1000000)
def okCh (n : Nat) (x : Ch) : Int := if x.2.length ≠ n then 3 else if ¬ (1 ≤ x.1 ∧ x.1 ≤ 10000000) then 2 else if x.2.any badW = true then 2 else 0
def chkL (n : Nat) : List Ch → Int
 | [] => 0
 | x :: r => if okCh n x ≠ 0 then okCh n x else chkL n r
def chk (c : List Ch) : Int := if c.length = 0 then 4 else if 3 < c.length then 1 else if gro c = 0 then 4 else if 9 < gro c then 1 else chkL (gro c) c
def largeOne (x : Ch) : Bool := (decide (6 < x.2.length) && decide (x.2.length ≤ 9)) || decide (40 < x.2.length)
def largeC (c : List Ch) : Bool := decide (20 < c.length) || c.any largeOne
theorem k67 (a b c : Int) : run0 (F67 a b c) = some (decide (a ≤ b ∧ b ≤ c), ()) := by
 simp only [F67, run_br, run_ret, br_d]
 by_cases h : a ≤ b
 ·rw [if_pos h]; simp [h]
 ·rw [if_neg h]; simp [h]
theorem k91 {c : List Ch} (h : 0 < c.length) : run0 (F91 c) = some (((gro c : Nat) : Int), ()) := by
 simp only [F91, run_nb, run_ret]
 rw [need_inb (by omega) (by omega)]; rfl
theorem k92 (z : Int) : run0 (F92 z) = some (badW z, ()) := by
 simp only [F92, run_bd, k67, bindO_s, run_ret, badW]
theorem k15 {c : List Ch} (hc : c.length < 9223372036854775808) : run0 (F15 c) = some (largeC c, ()) := by
 simp only [F15, run_bd, run_it]
 refine bind_eq (iter_list c (fun k (s : Bool) => (s, (k : Int), c, ())) (fun s r => (s || r.any largeOne, ())) (fun _ _ => True) ?_ ?_ (s := decide ((20 : Int) < ((c.length : Nat) : Int))) trivial) ?_
 ·rintro pre x post s hx -
  left
  have hlen : c.length = pre.length + (post.length + 1) := by rw [hx]; simp
  have hd : c.getD pre.length ((0 : Int), []) = x := by rw [hx]; exact getD_mid rfl
  refine ⟨s || largeOne x, ?_, trivial, by simp [Bool.or_assoc]⟩
  have hin : inb (pre.length : Int) ((c.length : Nat) : Int) = true := inb_t (by omega) (by omega)
  have hni : rng .i64 ((pre.length : Int) + 1) = true := rng_i64 (by omega) (by omega)
  simp only [g15_0, run_br, run_nb, run_ni, run_ret, Int.toNat_natCast, hd, br_d, hin, hni, need_true]
  rw [if_pos (by omega)]
  cases s
  ·simp only [brO_false, largeOne, Bool.false_or]
   by_cases h1 : 6 < x.2.length
   ·rw [if_pos (by omega)]
    by_cases h2 : x.2.length ≤ 9
    ·rw [if_pos (by omega)]; simp [h1, h2]
    ·rw [if_neg (by omega)]; simp [h1, h2]
     omega
   ·rw [if_neg (by omega)]; simp [h1]
    omega
  ·simp
 ·intro s _
  simp only [g15_0, run_br, run_ret, br_d]
  rw [if_neg (by omega)]; simp
 ·simp only [run_ret, largeC]
  congr 3
  have e : decide ((20 : Int) < ((c.length : Nat) : Int)) = decide (20 < c.length) := by
   apply decide_eq_decide.2; omega
  rw [e]
theorem k105 {l : List Int} (hl : l.length < 1000) : ∃ k : Int, run0 (F105 l) = some (k, ()) ∧ (0 ≤ k ↔ l.any badW = true) := by
 simp only [F105, run_bd, run_it]
 have := iter_list l (f := fun a => run (fun _ => none) (g105_0 a)) (fun k (s : Nat) => (l, ((l.length : Nat) : Int), (k : Int), ())) (fun s r => match r.findIdx? badW with | some k => .inl (((s + k : Nat) : Int), ()) | none => .inr ()) (fun pre s => s = pre.length) ?_ ?_ (s := 0) rfl
 ·replace this : iter (fun a => run (fun _ => none) (g105_0 a)) (l, ((l.length : Nat) : Int), (0 : Int), ()) = _ := this
  rw [bind_of this]
  cases hf : l.findIdx? badW with
  | none =>
   simp only [run_sr, run_ret]
   exact ⟨-1, rfl, by simp only [show ¬ ((0 : Int) ≤ -1) by omega, false_iff]; simpa using List.findIdx?_eq_none_iff.1 hf⟩
  | some k =>
   simp only [run_sl, run_ret]
   refine ⟨_, rfl, by
    simp only [show (0 : Int) ≤ ((0 + k : Nat) : Int) by omega, true_iff]
    obtain ⟨hk, h1, _⟩ := List.findIdx?_eq_some_iff_getElem.1 hf
    exact List.any_eq_true.2 ⟨_, List.getElem_mem hk, h1⟩⟩
 ·rintro pre x post s hx rfl
  have hlen : l.length = pre.length + (post.length + 1) := by rw [hx]; simp
  have hd : l.getD pre.length (0 : Int) = x := by rw [hx]; exact getD_mid rfl
  have hin : inb (pre.length : Int) ((l.length : Nat) : Int) = true := inb_t (by omega) (by omega)
  have hni : rng .i64 ((pre.length : Int) + 1) = true := rng_i64 (by omega) (by omega)
  simp only [g105_0, run_br, run_bd, run_nb, run_ni, run_ret, Int.toNat_natCast, hd, br_d, hin, hni, need_true, k92, bindO_s]
  rw [if_pos (by omega)]
  cases hb : badW x
  ·left
   refine ⟨pre.length + 1, by simp, by simp, ?_⟩
   rw [List.findIdx?_cons, hb]
   cases post.findIdx? badW with
   | none => rfl
   | some k => simp; omega
  ·right
   rw [List.findIdx?_cons, hb]; simp
 ·rintro s rfl
  simp only [g105_0, run_br, run_ret, br_d]
  rw [if_neg (by omega)]; rfl
theorem k93 {l : List Int} (hl : l.length < 1000) : run0 (F93 l) = some (l.any badW, ()) := by
 obtain ⟨k, h1, h2⟩ := k105 hl
 simp only [F93, run_bd, run_ret]
 rw [bind_of h1]
 congr 2
 cases h : l.any badW
 ·rw [h] at h2; simp only [decide_eq_false_iff_not]; intro e; exact absurd (h2.1 e) (by simp)
 ·rw [h] at h2; simp only [decide_eq_true_eq]; exact h2.2 rfl
theorem k41 (c : List Ch) : run0 (F41 c) = some (chk c, ()) := by
 simp only [F41, run_br, run_ret, br_eq, br_d, chk]
 by_cases h0 : c.length = 0
 ·rw [if_pos (by omega), if_pos h0]
 rw [if_neg (by omega), if_neg h0]
 by_cases h1 : 3 < c.length
 ·rw [if_pos (by omega), if_pos h1]
 rw [if_neg (by omega), if_neg h1]
 simp only [run_bd, k91 (show 0 < c.length by omega), bindO_s, run_br, br_eq, br_d, run_ret]
 by_cases h2 : gro c = 0
 ·rw [if_pos (by omega), if_pos h2]
 rw [if_neg (by omega), if_neg h2]
 by_cases h3 : 9 < gro c
 ·rw [if_pos (by omega), if_pos h3]
 rw [if_neg (by omega), if_neg h3]
 simp only [run_it]
 refine bind_eq (iter_list c (fun k (s : Unit) => (c, ((c.length : Nat) : Int), (k : Int), c, ())) (fun _ r => if chkL (gro c) r = 0 then Sum.inr () else Sum.inl (chkL (gro c) r, ())) (fun _ _ => True) ?_ ?_ (s := ()) trivial) ?_
 ·rintro pre x post s hx -
  have hlen : c.length = pre.length + (post.length + 1) := by rw [hx]; simp
  have hd : c.getD pre.length ((0 : Int), []) = x := by rw [hx]; exact getD_mid rfl
  have hin : inb (pre.length : Int) ((c.length : Nat) : Int) = true := inb_t (by omega) (by omega)
  have hni : rng .i64 ((pre.length : Int) + 1) = true := rng_i64 (by omega) (by omega)
  simp only [g41_0, run_br, run_bd, run_nb, run_ni, run_ret, Int.toNat_natCast, hd, br_d, br_eq, br_not, hin, hni, need_true, k91 (show 0 < c.length by omega), k67, bindO_s]
  rw [if_pos (by omega)]
  by_cases h4 : x.2.length = gro c
  case neg =>
   right
   rw [if_neg (by omega)]
   simp [chkL, okCh, h4]
  rw [if_pos (by omega)]
  by_cases h5 : 1 ≤ x.1 ∧ x.1 ≤ 10000000
  case neg =>
   right
   rw [if_neg h5]
   simp only [chkL, okCh, if_neg (not_not_intro h4), if_pos h5]; simp
  rw [if_pos h5, bind_of (k93 (show x.2.length < 1000 by omega))]
  cases h6 : x.2.any badW
  ·left
   refine ⟨(), by simp, trivial, ?_⟩
   simp [chkL, okCh, h4, h5, h6]
  ·right
   simp [chkL, okCh, h4, h5, h6]
 ·intro s _
  simp only [g41_0, run_br, run_ret, br_d]
  rw [if_neg (by omega)]; simp [chkL]
 ·cases h : decide (chkL (gro c) c = 0)
  ·have h' := of_decide_eq_false h
   simp only [if_neg h', run_sl, run_ret]
  ·have h' := of_decide_eq_true h
   simp only [if_pos h', run_sr, run_ret]; rw [h']
end Go.Proofs.Tryd
end
section
namespace Go.Proofs.Tryd
open Go.AM Go.Cn
set_option maxRecDepth 100000
/-- The weight of a set. -/
def wt (ws : List Int) (s : Nat) : Int := ((els s).map fun i => ws.getD i 0).sum
/-- A set wins in a chamber; in all. -/
def win1 (s : Nat) (x : Ch) : Bool := decide (x.1 ≤ wt x.2 s)
def winB (c : List Ch) (s : Nat) : Bool := c.all (win1 s)
/-- A chamber of n growers. -/
structure OkX (n : Nat) (x : Ch) : Prop where
 len : x.2.length = n
 q1 : 1 ≤ x.1
 q2 : x.1 ≤ 10000000
 w : ∀ z ∈ x.2, 0 ≤ z ∧ z ≤ 1000000
/-- A council of n growers, not too large. -/
structure OkC (n : Nat) (c : List Ch) : Prop where
 c1 : 1 ≤ c.length
 c3 : c.length ≤ 3
 n1 : 1 ≤ n
 n6 : n ≤ 6
 gro : gro c = n
 ch : ∀ x ∈ c, OkX n x
theorem OkX.get {n : Nat} {x : Ch} (h : OkX n x) (i : Nat) : 0 ≤ x.2.getD i 0 ∧ x.2.getD i 0 ≤ 1000000 := by
 by_cases hi : i < x.2.length
 ·rw [show x.2.getD i 0 = x.2[i] by simp [List.getD, hi]]; exact h.w _ (List.getElem_mem hi)
 ·rw [show x.2.getD i 0 = 0 by simp [List.getD, hi]]; omega
theorem k101 {s : Nat} (hs : s < 64) (h : s ≠ 0) : run0 (F101 (s : Int)) = some (((tzN s : Nat) : Int), ()) := by
 have := all_lt (n := 64) (p := fun s => s == 0 || decide (cmp 40 (fun _ => none) (F101 ((s : Nat) : Int)) = some (((tzN s : Nat) : Int), ()))) (by kernel_rfl) hs
 simp only [Bool.or_eq_true, beq_iff_eq, h, false_or, decide_eq_true_eq] at this
 exact cmp_done 40 this
theorem els_len {s : Nat} : (els s).length ≤ 6 := by
 have := List.length_filter_le s.testBit (List.range 6)
 simpa [els] using this
theorem k78 {n s : Nat} {x : Ch} (hx : OkX n x) (hn : n ≤ 6) (hs : s < 2 ^ n) : run0 (F78 x (s : Int)) = some (wt x.2 s, ()) := by
 have h64 : s < 64 := Nat.lt_of_lt_of_le hs (pow6 hn)
 simp only [F78, FH77, g78_0, run_bd, run_it, run_ret, bindO_s]
 refine bind_eq (a := (wt x.2 s, ())) (bind_eq (iter_els (fun s' (st : Int) => ((0 : Int), (s' : Int), x.1, x.2, st, ())) (fun st r => (x.1, x.2, st + (r.map fun i => x.2.getD i 0).sum, (0 : Int), (0 : Int), ()))
  (fun s' st => s' < 2 ^ n ∧ 0 ≤ st ∧ st + 1000000 * ((els s').length : Int) ≤ 6000000) ?_ ?_ (s := s) (st := 0) h64 ⟨hs, by omega, by have := els_len (s := s); omega⟩) ?_) rfl
 ·rintro s' st h64 h0 ⟨hs', b1, b2⟩
  left
  have ht := tz_lt hn hs' h0
  have hl := low_lt h64 h0
  have hw := hx.get (tzN s')
  have e := congrArg List.length (els_cons h64 h0)
  rw [List.length_cons] at e
  refine ⟨st + x.2.getD (tzN s') 0, ?_, ⟨by omega, by omega, by omega⟩, ?_⟩
  ·have hin : inb ((tzN s' : Nat) : Int) ((x.2.length : Nat) : Int) = true := inb_t (by omega) (by have := hx.len; omega)
   have hni : rng .i64 (st + x.2.getD (tzN s') 0) = true := rng_i64 (by omega) (by omega)
   have hnu : rng .u64 ((s' : Int) - 1) = true := rng_u64 (by omega) (by omega)
   simp only [g78_0i_0, run_br, run_bd, run_nb, run_ni, run_nd, run_ret, br_not, br_eq, k101 h64 h0, bindO_s, Int.toNat_natCast, hin, hni, hnu, need_true, u_low h64 h0]
   rw [if_neg (by omega)]
  ·simp only [List.map_cons, List.sum_cons, Int.add_assoc]
 ·rintro st -
  simp only [g78_0i_0, run_br, run_ret, br_not, br_eq]
  simp
 ·simp only [wt, Int.zero_add]
theorem k84 {n s : Nat} {x : Ch} (hx : OkX n x) (hn : n ≤ 6) (hs : s < 2 ^ n) : run0 (F84 x (s : Int)) = some (win1 s x, ()) := by
 simp only [F84, run_bd, run_ret]
 rw [bind_of (k78 hx hn hs)]; rfl
theorem k104 {n s : Nat} {x : Ch} (hx : OkX n x) (hn : n ≤ 6) (hs : s < 2 ^ n) : run0 (F104 x.1 x.2 (s : Int)) = some (!win1 s x, ()) := by
 simp only [F104, run_bd, run_ret]
 rw [bind_of (k84 (x := x) hx hn hs)]
theorem k113 {n s : Nat} {c : List Ch} (hc : ∀ x ∈ c, OkX n x) (hl : c.length < 1000) (hn : n ≤ 6) (hs : s < 2 ^ n) : ∃ k : Int, run0 (F113 c (s : Int)) = some (k, ()) ∧ (0 ≤ k ↔ winB c s = false) := by
 simp only [F113, run_bd, run_it]
 have := iter_list c (f := fun a => run (fun _ => none) (g113_0 a)) (fun k (_ : Unit) => (c, (s : Int), ((c.length : Nat) : Int), (k : Int), ())) (fun _ r => match r.findIdx? (fun x => !win1 s x) with | some k => .inl (((c.length - r.length + k : Nat) : Int), ()) | none => .inr ()) (fun _ _ => True) ?_ ?_ (s := ()) trivial
 ·replace this : iter (fun a => run (fun _ => none) (g113_0 a)) (c, (s : Int), ((c.length : Nat) : Int), (0 : Int), ()) = _ := this
  rw [bind_of this]
  cases hf : c.findIdx? (fun x => !win1 s x) with
  | none =>
   simp only [run_sr, run_ret]
   refine ⟨-1, rfl, ?_⟩
   have h := List.findIdx?_eq_none_iff.1 hf
   have : winB c s = true := List.all_eq_true.2 fun x hx => by simpa using h x hx
   simp [this]
  | some k =>
   simp only [run_sl, run_ret]
   obtain ⟨hk, h1, _⟩ := List.findIdx?_eq_some_iff_getElem.1 hf
   refine ⟨_, rfl, ?_⟩
   have : winB c s = false := by
    rw [Bool.eq_false_iff]
    intro h
    have := List.all_eq_true.1 h _ (List.getElem_mem hk)
    rw [this] at h1; cases h1
   rw [this]
   simp only [iff_true]
   omega
 ·rintro pre x post _ hxx -
  have hlen : c.length = pre.length + (post.length + 1) := by rw [hxx]; simp
  have hd : c.getD pre.length ((0 : Int), []) = x := by rw [hxx]; exact getD_mid rfl
  have hx : OkX n x := hc x (by rw [hxx]; simp)
  have hin : inb (pre.length : Int) ((c.length : Nat) : Int) = true := inb_t (by omega) (by omega)
  have hni : rng .i64 ((pre.length : Int) + 1) = true := rng_i64 (by omega) (by omega)
  simp only [g113_0, run_br, run_bd, run_nb, run_ni, run_ret, Int.toNat_natCast, hd, br_d, hin, hni, need_true, k104 hx hn hs, bindO_s]
  rw [if_pos (by omega)]
  cases hb : win1 s x
  ·right
   rw [List.findIdx?_cons]
   have e : c.length - (x :: post).length = pre.length := by rw [List.length_cons]; omega
   simp only [hb, Bool.not_false, if_true, brO_true, e, Nat.add_zero]
  ·left
   refine ⟨(), by simp, trivial, ?_⟩
   rw [List.findIdx?_cons]
   simp only [hb, Bool.not_true, Bool.false_eq_true, if_false]
   cases post.findIdx? (fun x => !win1 s x) with
   | none => rfl
   | some k => simp; omega
 ·rintro _ -
  simp only [g113_0, run_br, run_ret, br_d]
  rw [if_neg (by omega)]; rfl
end Go.Proofs.Tryd
end
section
namespace Go.Proofs.Tryd
open Go.AM Go.Cn
set_option maxRecDepth 100000
theorem wt_range {n s : Nat} {ws : List Int} (hn : n ≤ 6) (hs : s < 2 ^ n) : wt ws s = (((List.range n).filter s.testBit).map fun i => ws.getD i 0).sum := by
 rw [wt, els_upto hn hs]
def dropL (but : Int) : Nat → List Ch → List Ch
 | _, [] => []
 | k, x :: r => if (k : Int) = but then dropL but (k + 1) r else x :: dropL but (k + 1) r
theorem drop_none : ∀ (k : Nat) (c : List Ch), dropL (-1) k c = c
 | _, [] => rfl
 | k, x :: r => by
  simp only [dropL, drop_none (k + 1) r]
  rw [if_neg (by omega)]
theorem drop_len (but : Int) : ∀ (k : Nat) (c : List Ch), (dropL but k c).length ≤ c.length
 | _, [] => Nat.le_refl _
 | k, x :: r => by
  have := drop_len but (k + 1) r
  simp only [dropL]
  split <;> simp <;> omega
theorem drop_mem {but : Int} {x : Ch} : ∀ {k : Nat} {c : List Ch}, x ∈ dropL but k c → x ∈ c
 | _, [], h => h
 | k, y :: r, h => by
  simp only [dropL] at h
  split at h
  ·exact List.mem_cons_of_mem _ (drop_mem h)
  ·rcases List.mem_cons.1 h with rfl | h
   ·exact List.mem_cons_self ..
   ·exact List.mem_cons_of_mem _ (drop_mem h)
theorem k81 (c : List Ch) (hl : c.length < 1000) (but : Int) : run0 (F81 c but) = some (dropL but 0 c, ()) := by
 simp only [F81, run_bd, run_it]
 refine bind_eq (iter_list c (fun k (st : List Ch) => (but, st.length, c, ((c.length : Nat) : Int), (k : Int), st, ())) (fun st r => ((st ++ dropL but (c.length - r.length) r).length, st ++ dropL but (c.length - r.length) r, ())) (fun pre st => st.length ≤ pre.length) ?_ ?_ (s := []) (by simp)) ?_
 ·rintro pre x post st hxx hst
  left
  have hlen : c.length = pre.length + (post.length + 1) := by rw [hxx]; simp
  have hd : c.getD pre.length ((0 : Int), []) = x := by rw [hxx]; exact getD_mid rfl
  have hin : inb (pre.length : Int) ((c.length : Nat) : Int) = true := inb_t (by omega) (by omega)
  have hni : rng .i64 ((pre.length : Int) + 1) = true := rng_i64 (by omega) (by omega)
  have e1 : c.length - (x :: post).length = pre.length := by simp; omega
  have e2 : c.length - post.length = pre.length + 1 := by omega
  simp only [g81_0, run_br, run_bd, run_nb, run_nd, run_ni, run_ret, Int.toNat_natCast, hd, br_d, br_eq, br_not, hin, hni, need_true]
  rw [if_pos (by omega)]
  simp only [e1, e2, dropL]
  by_cases hb : (pre.length : Int) = but
  ·rw [if_pos hb]
   exact ⟨st, rfl, by simp; omega, by simp [hb]⟩
  ·rw [if_neg hb]
   refine ⟨st ++ [x], ?_, by simp; omega, by simp [hb]⟩
   rw [need_lenbig (by simp; omega)]
   simp
 ·rintro st -
  simp only [g81_0, run_br, run_ret, br_d]
  rw [if_neg (by omega)]; simp [dropL]
 ·have e : c.length - c.length = 0 := by omega
  simp only [e, run_ret]; simp
theorem k66_no {c : List Ch} (h : chk c ≠ 0) : run0 (F66 c) = some (.inl ([], 0, 0, chk c, ())) := by
 simp only [F66, run_bd, run_br, run_ret, k41, bindO_s, br_not, br_eq]
 rw [if_neg h]
theorem k66 {n : Nat} {c : List Ch} (hc : OkC n c) (h : chk c = 0) : run0 (F66 c) = some (.inr (c, c, (n : Int), ((2 ^ n - 1 : Nat) : Int), 0, ())) := by
 have h1 := hc.c1
 have h3 := hc.c3
 have hn := hc.n6
 simp only [F66, run_bd, run_br, run_ret, k41, bindO_s, br_not, br_eq]
 rw [if_pos h, bind_of (k81 c (by omega) _), drop_none]
 have hp : 0 < 2 ^ n := Nat.pow_pos (by omega)
 have hp2 := pow6 hn
 have e : (((2 ^ n : Nat) : Int) - 1) = ((2 ^ n - 1 : Nat) : Int) := by omega
 simp only [k91 (show 0 < c.length by omega), hc.gro, bindO_s, run_nb, run_nd, run_ret, shl_one (show n < 12 by omega)]
 rw [need_inb (by omega) (by omega), need_t (rng_u64 (by omega) (by omega)), need_t (rng_u64 (by omega) (by omega)), e]
end Go.Proofs.Tryd
end
section
namespace Go.Proofs.Tryd
open Go.AM Go.Cn
set_option maxRecDepth 100000
theorem u_rng {i : Nat} (hi : i < 6) : rng .u64 (ar0.shl (1 : Int) (i : Int)) = true := by
 have := all_lt (n := 6) (p := fun i => rng .u64 (ar0.shl (1 : Int) (i : Int))) (by kernel_rfl) hi
 exact this
theorem wo_eq {s i : Nat} (hs : s < 64) (hi : i < 6) : (((s : Nat) : Int) = ((wo s i : Nat) : Int)) ↔ s.testBit i = false := by
 have := all_lt2 (n := 64) (m := 6) (p := fun s i => decide ((((s : Nat) : Int) = ((wo s i : Nat) : Int)) ↔ s.testBit i = false)) (by kernel_rfl) hs hi
 exact of_decide_eq_true this
/-- A set without those of a list. -/
def woL (s : Nat) (l : List Nat) : Nat := l.foldl wo s
abbrev ints (l : List Nat) : List Int := l.map fun i : Nat => (i : Int)
theorem k90 {s : Nat} {l : List Nat} (hs : s < 64) (hl : ∀ i ∈ l, i < 6) (hn : l.length < 1000) : run0 (F90 (s : Int) (ints l)) = some (((woL s l : Nat) : Int), ()) := by
 simp only [F90, run_bd, run_it]
 refine bind_eq (iter_list l (fun k (st : Nat) => ((st : Int), ints l, (((ints l).length : Nat) : Int), (k : Int), ())) (fun st r => (((woL st r : Nat) : Int), ())) (fun _ st => st < 64) ?_ ?_ (s := s) hs) ?_
 ·rintro pre x post st hx hst
  left
  have hlen : l.length = pre.length + (post.length + 1) := by rw [hx]; simp
  have hd : (ints l).getD pre.length (0 : Int) = (x : Int) := by
   rw [hx]; simp only [ints, List.map_append, List.map_cons]
   exact getD_mid (by simp)
  have hx6 : x < 6 := hl x (by rw [hx]; simp)
  have hin : inb (pre.length : Int) (((ints l).length : Nat) : Int) = true := inb_t (by omega) (by simp; omega)
  have hni : rng .i64 ((pre.length : Int) + 1) = true := rng_i64 (by omega) (by omega)
  have hi6 : inb (x : Int) 64 = true := inb_t (by omega) (by omega)
  refine ⟨wo st x, ?_, wo_lt hst, rfl⟩
  simp only [g90_0, run_br, run_nb, run_ni, run_nd, run_ret, Int.toNat_natCast, hd, br_d, hin, hni, hi6, need_true, u_rng hx6, u_wo hst hx6]
  rw [if_pos (by simp; omega)]; rfl
 ·rintro st -
  simp only [g90_0, run_br, run_ret, br_d]
  rw [if_neg (by simp)]; rfl
 ·rfl
theorem k74 {s i n : Nat} (hn : n ≤ 6) (hs : s < 2 ^ n) (hi : i < n) : run0 (F74 (s : Int) (i : Int)) = some (((s ||| 2 ^ i : Nat) : Int), ()) := by
 have h64 : s < 64 := Nat.lt_of_lt_of_le hs (pow6 hn)
 simp only [F74, run_nb, run_nd, run_ret, u_rng (show i < 6 by omega), need_true, u_with h64 (show i < 6 by omega)]
 rw [need_inb (by omega) (by omega)]
theorem inc_u {k n : Nat} (hn : n ≤ 6) (hk : k < 2 ^ n) : rng .u64 ((k : Int) + 1) = true := by
 have := pow6 hn
 exact rng_u64 (by omega) (by omega)
end Go.Proofs.Tryd
end
section
namespace Go.Proofs.Tryd
open Go.AM Go.Cn
set_option maxRecDepth 100000
theorem dt1 {α : Type} (x : α) : List.take 1 (List.drop 0 [x]) = [x] := rfl
theorem tk1 {α : Type} (x : α) : List.take 1 [x] = [x] := rfl
/-! Turns: how many orders. -/
end Go.Proofs.Tryd
end
section
namespace Go.Proofs.Tryd
open Go.AM Go.Cn
set_option maxRecDepth 100000
theorem shl_n {n : Nat} (hn : n ≤ 6) : ar0.shl (1 : Int) (n : Int) = ((2 ^ n : Nat) : Int) := shl_one (by omega)
theorem works_ok : run0 F16 = some (true, ()) := cmp_done 200 (by kernel_rfl)
end Go.Proofs.Tryd
end
section
namespace Go.Proofs.Tryd
open Go.AM Go.Cn
set_option maxRecDepth 100000
end Go.Proofs.Tryd
end
section
namespace Go.Proofs.Tryd
open Go.AM Go.Cn
set_option maxRecDepth 100000
/-- A number names a grower. -/
def inG (n : Nat) (z : Int) : Bool := decide (0 ≤ z ∧ z ≤ (n : Int) - 1)
theorem inG_nat {n : Nat} {z : Int} (h : inG n z = true) : ∃ i : Nat, i < n ∧ z = (i : Int) := by
 have := of_decide_eq_true h
 exact ⟨z.toNat, by omega, by omega⟩
theorem n_rng {n : Nat} (h : n ≤ 6) : rng .i64 ((n : Int) - 1) = true := rng_i64 (by omega) (by omega)
end Go.Proofs.Tryd
end
section
namespace Go.Proofs.Tryd
open Go.AM Go.Cn
set_option maxRecDepth 100000
/-- A list of growers, read: its set, or an error. -/
def rdL (n : Nat) : Int → Nat → List Int → Nat × Int
 | _, s, [] => (s, 0)
 | last, s, x :: r => if inG n x = false then (0, 5) else if x ≤ last then (0, 7) else rdL n x (s ||| 2 ^ x.toNat) r
def rd (n : Nat) (l : List Int) : Nat × Int := rdL n (-1) 0 l
end Go.Proofs.Tryd
end
section
namespace Go.Proofs.Tryd
open Go.AM Go.Cn
set_option maxRecDepth 100000
theorem k83' {n s : Nat} {c : List Ch} (hx : ∀ x ∈ c, OkX n x) (hl : c.length < 1000) (hn : n ≤ 6) (hs : s < 2 ^ n) : run0 (F83 c (s : Int)) = some (winB c s, ()) := by
 obtain ⟨k, h1, h2⟩ := k113 hx hl hn hs
 have h103 : run0 (F103 c (s : Int)) = some (!winB c s, ()) := by
  simp only [F103, run_bd, run_ret]
  rw [bind_of h1]
  congr 2
  cases h : winB c s
  ·rw [h] at h2; simp only [Bool.not_false, decide_eq_true_eq]; exact h2.2 rfl
  ·rw [h] at h2; simp only [Bool.not_true, decide_eq_false_iff_not]; intro e; exact absurd (h2.1 e) (by simp)
 simp only [F83, run_bd, run_ret]
 rw [bind_of h103, Bool.not_not]
theorem wt_bd {n : Nat} {x : Ch} (hx : OkX n x) (s : Nat) : 0 ≤ wt x.2 s ∧ wt x.2 s ≤ 6000000 := by
 have key : ∀ l : List Nat, 0 ≤ (l.map fun i => x.2.getD i 0).sum ∧ (l.map fun i => x.2.getD i 0).sum ≤ 1000000 * (l.length : Int) := by
  intro l
  induction l with
  | nil => simp
  | cons i l ih =>
   have := hx.get i
   simp only [List.map_cons, List.sum_cons, List.length_cons]
   omega
 have := key (els s)
 have h6 := els_len (s := s)
 unfold wt
 omega
/-- Something carried over some of the numbers from k on. -/
def foldF {S : Type} (p : Nat → Bool) (f : S → Nat → S) (st : S) (k m : Nat) : S := ((List.range' k m).filter p).foldl f st
theorem foldF_zero {S : Type} {p : Nat → Bool} {f : S → Nat → S} {st : S} {k : Nat} : foldF p f st k 0 = st := rfl
theorem foldF_yes {S : Type} {p : Nat → Bool} {f : S → Nat → S} {st : S} {k m : Nat} (h : p k = true) : foldF p f st k (m + 1) = foldF p f (f st k) (k + 1) m := by
 simp [foldF, List.range'_succ, h]
theorem foldF_no {S : Type} {p : Nat → Bool} {f : S → Nat → S} {st : S} {k m : Nat} (h : p k = false) : foldF p f st k (m + 1) = foldF p f st (k + 1) m := by
 simp [foldF, List.range'_succ, h]
theorem foldF_same {S : Type} {p : Nat → Bool} {f : S → Nat → S} {st : S} {k m : Nat} (h : f st k = st) : foldF p f st k (m + 1) = foldF p f st (k + 1) m := by
 cases hp : p k
 ·exact foldF_no hp
 ·rw [foldF_yes hp, h]
/-- A set's word on the span of a weight; on that of a quota. -/
def stepW (x : Ch) (D : List Ch) (g : Nat) (st : Int × Int) (s : Nat) : Int × Int :=
 if winB D (s ||| 2 ^ g) = true then (if win1 (s ||| 2 ^ g) x = true then (imax st.1 (x.1 - wt x.2 s), st.2) else (st.1, imin st.2 (x.1 - wt x.2 s - 1))) else st
def stepQ (x : Ch) (D : List Ch) (st : Int × Int) (s : Nat) : Int × Int :=
 if winB D s = true then (if win1 s x = true then (st.1, imin st.2 (wt x.2 s)) else (imax st.1 (wt x.2 s + 1), st.2)) else st
def hasNo (g s : Nat) : Bool := !s.testBit g
def spanW (x : Ch) (D : List Ch) (n g : Nat) : Int × Int := foldF (hasNo g) (stepW x D g) (0, 1000000) 0 (2 ^ n)
def spanQ (x : Ch) (D : List Ch) (n : Nat) : Int × Int := foldF (fun _ => true) (stepQ x D) (1, 10000000) 0 (2 ^ n)
section
variable {c : List Ch} {n : Nat} {x : Ch} {D : List Ch}
theorem k31_0 {g : Nat} (hc : OkC n c) (hg : g < n) (hx : OkX n x) (hD : ∀ y ∈ D, OkX n y) (hDl : D.length < 1000) :
  run0 (g31_0 ((0 : Int), c, c, (n : Int), ((2 ^ n - 1 : Nat) : Int), [(g : Int)], (g : Int), (0 : Int), (0 : Int), x.1, x.2, D, (0 : Int), (1000000 : Int), ())) = some ((0 : Int), (0 : Int), (spanW x D n g).1, (spanW x D n g).2, ()) := by
 have hn := hc.n6
 have hp : 0 < 2 ^ n := Nat.pow_pos (by omega)
 have h64 := pow6 hn
 simp only [g31_0, run_bd, run_it, run_ret]
 refine bind_eq (iter_upto (f := fun a => run (fun _ => none) (g31_0i_0 a)) (2 ^ n) (fun k (st : Int × Int) => (c, c, (n : Int), ((2 ^ n - 1 : Nat) : Int), [(g : Int)], (k : Int), (0 : Int), c, c, (n : Int), ((2 ^ n - 1 : Nat) : Int), [(g : Int)], (g : Int), (0 : Int), (0 : Int), x.1, x.2, D, st.1, st.2, ()))
  (fun st k => ((g : Int), (0 : Int), (0 : Int), x.1, x.2, D, (foldF (hasNo g) (stepW x D g) st k (2 ^ n - k)).1, (foldF (hasNo g) (stepW x D g) st k (2 ^ n - k)).2, (0 : Int), c, c, (n : Int), ((2 ^ n - 1 : Nat) : Int), [(g : Int)], ())) (fun _ _ => True) ?_ ?_ (s := (0, 1000000)) trivial) (by simp [spanW])
 ·rintro k ⟨lo, hi⟩ hk -
  left
  have hb : run (fun _ => none) (F90 (k : Int) [(g : Int)]) = _ := k90 (s := k) (l := [g]) (by omega) (by simp; omega) (by simp)
  have e : 2 ^ n - k = (2 ^ n - (k + 1)) + 1 := by omega
  have q1 : run (fun _ => none) (F83 D ((k ||| 2 ^ g : Nat) : Int)) = _ := k83' hD hDl hn (or_lt hn hk hg)
  have q2 : run (fun _ => none) (F84 x ((k ||| 2 ^ g : Nat) : Int)) = _ := k84 hx hn (or_lt hn hk hg)
  have q3 : run (fun _ => none) (F78 x (k : Int)) = _ := k78 hx hn hk
  have hw := wt_bd hx k
  have hq1 := hx.q1
  have hq2 := hx.q2
  have r1 : rng .i64 (x.1 - wt x.2 k) = true := rng_i64 (by omega) (by omega)
  have r2 : rng .i64 (x.1 - wt x.2 k - 1) = true := rng_i64 (by omega) (by omega)
  simp only [g31_0i_0, run_br, run_bd, run_ni, run_nd, run_ret, br_d, br_eq, br_not, inc_u hn hk, need_true, Prod.eta]
  rw [if_pos (by omega), bind_of hb]
  simp only [woL, List.foldl_cons, List.foldl_nil, wo_eq (show k < 64 by omega) (show g < 6 by omega), k74 hn hk hg, q1, q2, q3, bindO_s, r1, r2, need_true]
  rw [e]
  cases h1 : k.testBit g
  case true =>
   rw [foldF_no (by simp [hasNo, h1])]
   exact ⟨(lo, hi), by simp, trivial, rfl⟩
  cases h2 : winB D (k ||| 2 ^ g)
  case false =>
   rw [foldF_same (by simp [stepW, h2])]
   exact ⟨(lo, hi), by simp, trivial, rfl⟩
  rw [foldF_yes (by simp [hasNo, h1])]
  cases h3 : win1 (k ||| 2 ^ g) x
  ·refine ⟨_, ?_, trivial, rfl⟩
   simp [stepW, h2, h3]
  ·refine ⟨_, ?_, trivial, rfl⟩
   simp [stepW, h2, h3]
 ·rintro ⟨lo, hi⟩ -
  simp only [g31_0i_0, run_br, run_ret, br_d]
  rw [if_neg (by omega)]
  simp [foldF_zero]
theorem k33_0 (hc : OkC n c) (hx : OkX n x) (hD : ∀ y ∈ D, OkX n y) (hDl : D.length < 1000) :
  run0 (g33_0 ((0 : Int), c, c, (n : Int), ((2 ^ n - 1 : Nat) : Int), [], (0 : Int), (0 : Int), x.1, x.2, D, (1 : Int), (10000000 : Int), ())) = some ((0 : Int), (0 : Int), (spanQ x D n).1, (spanQ x D n).2, ()) := by
 have hn := hc.n6
 have hp : 0 < 2 ^ n := Nat.pow_pos (by omega)
 have h64 := pow6 hn
 simp only [g33_0, run_bd, run_it, run_ret]
 refine bind_eq (iter_upto (f := fun a => run (fun _ => none) (g33_0i_0 a)) (2 ^ n) (fun k (st : Int × Int) => (c, c, (n : Int), ((2 ^ n - 1 : Nat) : Int), [], (k : Int), (0 : Int), c, c, (n : Int), ((2 ^ n - 1 : Nat) : Int), [], (0 : Int), (0 : Int), x.1, x.2, D, st.1, st.2, ()))
  (fun st k => ((0 : Int), (0 : Int), x.1, x.2, D, (foldF (fun _ => true) (stepQ x D) st k (2 ^ n - k)).1, (foldF (fun _ => true) (stepQ x D) st k (2 ^ n - k)).2, (0 : Int), c, c, (n : Int), ((2 ^ n - 1 : Nat) : Int), [], ())) (fun _ _ => True) ?_ ?_ (s := (1, 10000000)) trivial) (by simp [spanQ])
 ·rintro k ⟨lo, hi⟩ hk -
  left
  have hb : run (fun _ => none) (F90 (k : Int) []) = _ := k90 (s := k) (l := []) (by omega) (by simp) (by simp)
  have e : 2 ^ n - k = (2 ^ n - (k + 1)) + 1 := by omega
  have q1 : run (fun _ => none) (F83 D (k : Int)) = _ := k83' hD hDl hn hk
  have q2 : run (fun _ => none) (F84 x (k : Int)) = _ := k84 hx hn hk
  have q3 : run (fun _ => none) (F78 x (k : Int)) = _ := k78 hx hn hk
  have hw := wt_bd hx k
  have r1 : rng .i64 (wt x.2 k + 1) = true := rng_i64 (by omega) (by omega)
  simp only [g33_0i_0, run_br, run_bd, run_ni, run_nd, run_ret, br_d, br_eq, br_not, inc_u hn hk, need_true, Prod.eta]
  rw [if_pos (by omega), bind_of hb]
  simp only [woL, List.foldl_nil, q1, q2, q3, bindO_s, r1, need_true, if_true]
  rw [e]
  cases h2 : winB D k
  case false =>
   rw [foldF_same (by simp [stepQ, h2])]
   exact ⟨(lo, hi), by simp, trivial, rfl⟩
  rw [foldF_yes rfl]
  cases h3 : win1 k x
  ·refine ⟨_, ?_, trivial, rfl⟩
   simp [stepQ, h2, h3]
  ·refine ⟨_, ?_, trivial, rfl⟩
   simp [stepQ, h2, h3]
 ·rintro ⟨lo, hi⟩ -
  simp only [g33_0i_0, run_br, run_ret, br_d]
  rw [if_neg (by omega)]
  simp [foldF_zero]
/-- Wins in all are those in one and in the others. -/
theorem win_drop {s : Nat} : ∀ {k j : Nat} {c : List Ch}, j < c.length → winB c s = (winB (dropL ((k + j : Nat) : Int) k c) s && win1 s (c.getD j ((0 : Int), [])))
 | k, j, [], h => by simp at h
 | k, 0, x :: r, h => by
  have hd : ∀ (m : Nat) (r : List Ch), k < m → dropL ((k : Nat) : Int) m r = r := by
   intro m r
   induction r generalizing m with
   | nil => intro _; rfl
   | cons y r ih => intro hm; simp only [dropL]; rw [if_neg (by omega), ih (m + 1) (by omega)]
  simp only [dropL, Nat.add_zero, if_pos, hd (k + 1) r (by omega), winB, List.all_cons, List.getD_cons_zero]
  rw [Bool.and_comm]
 | k, j + 1, x :: r, h => by
  have ih := win_drop (s := s) (k := k + 1) (j := j) (c := r) (by simp at h; omega)
  have e : k + (j + 1) = k + 1 + j := by omega
  simp only [dropL, List.getD_cons_succ]
  rw [if_neg (by omega), e]
  simp only [winB, List.all_cons] at ih ⊢
  rw [ih, Bool.and_assoc]
def inC (c : List Ch) (z : Int) : Bool := decide (0 ≤ z ∧ z ≤ ((c.length : Nat) : Int) - 1)
theorem inC_nat {z : Int} (h : inC c z = true) : ∃ i : Nat, i < c.length ∧ z = (i : Int) := by
 have := of_decide_eq_true h
 exact ⟨z.toNat, by omega, by omega⟩
theorem wo_with {s g : Nat} (hs : s < 64) (hg : g < 6) (h : s.testBit g = true) : s = (wo s g) ||| 2 ^ g := by
 have := all_lt2 (n := 64) (m := 6) (p := fun s g => !s.testBit g || decide (s = (wo s g) ||| 2 ^ g)) (by decide +kernel) hs hg
 simpa [h] using this
end
end Go.Proofs.Tryd
end
section
namespace Go.Proofs.Tryd
open Go.AM Go.Cn
set_option maxRecDepth 100000
section
variable {c : List Ch} {n : Nat}
theorem k67c (z : Int) : run (fun _ => none) (F67 0 z (((c.length : Nat) : Int) - 1)) = some (inC c z, ()) := k67 _ _ _
theorem k67n (z : Int) : run (fun _ => none) (F67 0 z ((n : Int) - 1)) = some (inG n z, ()) := k67 _ _ _
theorem c_rng (hc : OkC n c) : rng .i64 (((c.length : Nat) : Int) - 1) = true := by
 have := hc.c3
 exact rng_i64 (by omega) (by omega)
theorem k80_no (h : chk c ≠ 0) (a : Int) : run0 (F80 c a) = some (.inl ([], 0, 0, chk c, ())) := by
 simp only [F80, run_bd]
 rw [bind_of (k66_no h)]
 simp only [run_sl, run_br, run_bd, run_ret, br_not, br_eq]
 rw [if_neg h]
theorem k80_out (hc : OkC n c) (h : chk c = 0) {a : Int} (ha : inC c a = false) : run0 (F80 c a) = some (.inl ([], 0, 0, 17, ())) := by
 simp only [F80, run_bd]
 rw [bind_of (k66 hc h)]
 simp only [run_sr, run_br, run_bd, run_ni, run_ret, br_not, br_eq, c_rng hc, need_true, k67c, bindO_s, ha, brO_false, if_true]
theorem k80 (hc : OkC n c) (h : chk c = 0) {a : Int} (ha : inC c a = true) : run0 (F80 c a) = some (.inr (c, c, (n : Int), ((2 ^ n - 1 : Nat) : Int), 0, ())) := by
 simp only [F80, run_bd]
 rw [bind_of (k66 hc h)]
 simp only [run_sr, run_br, run_bd, run_ni, run_ret, br_not, br_eq, c_rng hc, need_true, k67c, bindO_s, ha, brO_true, if_true]
def wR (c : List Ch) (n : Nat) (a g : Int) : (Int × Int) × Int × Unit :=
 if chk c ≠ 0 then ((0, 0), chk c, ()) else if inC c a = false then ((0, 0), 17, ()) else if inG n g = false then ((0, 0), 5, ()) else (spanW (c.getD a.toNat ((0 : Int), [])) (dropL a 0 c) n g.toNat, 0, ())
def qR (c : List Ch) (n : Nat) (a : Int) : (Int × Int) × Int × Unit :=
 if chk c ≠ 0 then ((0, 0), chk c, ()) else if inC c a = false then ((0, 0), 17, ()) else (spanQ (c.getD a.toNat ((0 : Int), [])) (dropL a 0 c) n, 0, ())
theorem k31 (hc : chk c = 0 → OkC n c) (a g : Int) : run0 (F31 c a g) = some (wR c n a g) := by
 unfold wR
 by_cases h : chk c = 0
 case neg =>
  rw [if_pos h]
  simp only [F31, run_bd]
  rw [bind_of (k80_no h a)]
  simp only [run_sl, run_br, run_ret, br_not, br_eq]
  rw [if_neg h]
 rw [if_neg (not_not_intro h)]
 have hc := hc h
 have hn := hc.n6
 by_cases ha : inC c a = false
 ·rw [if_pos ha]
  simp only [F31, run_bd]
  rw [bind_of (k80_out hc h ha)]
  simp only [run_sl, run_br, run_ret, br_not, br_eq]
  rw [if_neg (by decide)]
 rw [if_neg ha]
 replace ha : inC c a = true := by simpa using ha
 simp only [F31, run_bd]
 rw [bind_of (k80 hc h ha)]
 simp only [run_sr, run_br, run_bd, run_ni, run_nb, run_ret, br_not, br_eq, n_rng hn, need_true, k67n, bindO_s]
 rw [if_pos trivial]
 by_cases hg : inG n g = false
 ·rw [if_pos hg]; simp [hg]
 rw [if_neg hg]
 replace hg : inG n g = true := by simpa using hg
 obtain ⟨i, hi, rfl⟩ := inC_nat ha
 obtain ⟨j, hj, rfl⟩ := inG_nat hg
 have c3 := hc.c3
 have hxo : OkX n (c.getD i ((0 : Int), [])) := hc.ch _ (by simp [List.getD, hi])
 simp only [hg, brO_true]
 rw [need_inb (by omega) (by omega), bind_of (k81 c (by omega) _)]
 simp only [F82_v1, run_ret, bindO_s, dt1, Int.toNat_natCast]
 rw [bind_of (k31_0 hc hj hxo (fun y hy => hc.ch y (drop_mem hy)) (by have := drop_len (i : Int) 0 c; omega))]
theorem k33 (hc : chk c = 0 → OkC n c) (a : Int) : run0 (F33 c a) = some (qR c n a) := by
 unfold qR
 by_cases h : chk c = 0
 case neg =>
  rw [if_pos h]
  simp only [F33, run_bd]
  rw [bind_of (k80_no h a)]
  simp only [run_sl, run_br, run_ret, br_not, br_eq]
  rw [if_neg h]
 rw [if_neg (not_not_intro h)]
 have hc := hc h
 have hn := hc.n6
 by_cases ha : inC c a = false
 ·rw [if_pos ha]
  simp only [F33, run_bd]
  rw [bind_of (k80_out hc h ha)]
  simp only [run_sl, run_br, run_ret, br_not, br_eq]
  rw [if_neg (by decide)]
 rw [if_neg ha]
 replace ha : inC c a = true := by simpa using ha
 simp only [F33, run_bd]
 rw [bind_of (k80 hc h ha)]
 obtain ⟨i, hi, rfl⟩ := inC_nat ha
 have c3 := hc.c3
 have hxo : OkX n (c.getD i ((0 : Int), [])) := hc.ch _ (by simp [List.getD, hi])
 simp only [run_sr, run_br, run_bd, run_ni, run_nb, run_ret, br_not, br_eq]
 rw [if_pos trivial, need_inb (by omega) (by omega), bind_of (k81 c (by omega) _)]
 simp only [F82_v1, run_ret, bindO_s, Int.toNat_natCast]
 rw [bind_of (k33_0 hc hxo (fun y hy => hc.ch y (drop_mem hy)) (by have := drop_len (i : Int) 0 c; omega))]
end
end Go.Proofs.Tryd
end
section
namespace Go.Proofs.Tryd
open Go.AM Go.Cn
set_option maxRecDepth 100000
/-- Rounds that count up and keep something. -/
theorem iter_inv {A B S : Type} {f : A → Option (A ⊕ B)} (N : Nat) (mk : Nat → S → A) (fin : S → B) (Inv : Nat → S → Prop)
    (hs : ∀ k st, k < N → Inv k st → ∃ st', f (mk k st) = some (.inl (mk (k + 1) st')) ∧ Inv (k + 1) st') (he : ∀ st, Inv N st → f (mk N st) = some (.inr (fin st))) {s : S} (h0 : Inv 0 s) :
    ∃ st, iter f (mk 0 s) = some (fin st) ∧ Inv N st := by
  have key : ∀ m k s, k + m = N → Inv k s → ∃ st, iter f (mk k s) = some (fin st) ∧ Inv N st := by
    intro m
    induction m with
    | zero => intro k s hk hi; have e : k = N := by omega
              subst e; exact ⟨s, iter_inr (he s hi), hi⟩
    | succ m ih =>
      intro k s hk hi
      obtain ⟨s', h1, h2⟩ := hs k s (by omega) hi
      obtain ⟨st, h3, h4⟩ := ih (k + 1) s' (by omega) h2
      exact ⟨st, iter_inl h1 h3, h4⟩
  exact key N 0 s (by omega) h0
abbrev Hl := Int × List Int × (Int × Int × Int × Int × Int) × (Int × Int × Int × Int × Int) × (Int × Int × Int × Int × Int)
abbrev u8T : Ty := .int .u8
abbrev rowT : Ty := .prod u8T (.prod u8T (.prod u8T (.prod u8T u8T)))
abbrev hlT : Ty := .prod u8T (.prod (.list u8T) (.prod rowT (.prod rowT rowT)))
def isU8 (z : Int) : Prop := 0 ≤ z ∧ z ≤ 255
theorem u8_min : IntKind.u8.min = 0 := by decide
theorem u8_max : IntKind.u8.max = 255 := by decide
theorem isU8_of {z : Int} (h : Wf u8T z) : isU8 z := by
  simp only [Wf, u8_min, u8_max] at h; exact h
theorem getD_u8 {l : List Int} (h : ∀ z ∈ l, isU8 z) (i : Nat) : isU8 (l.getD i 0) := by
  by_cases hi : i < l.length
  · rw [show l.getD i 0 = l[i] by simp [List.getD, hi]]; exact h _ (List.getElem_mem hi)
  · rw [show l.getD i 0 = 0 by simp [List.getD, hi]]; exact ⟨by omega, by omega⟩
/-- A council by numbers: what is known of it. -/
structure OkH (n : Nat) (c : List Ch) : Prop where
  ok : OkC n c
  n5 : n ≤ 5
  chk0 : chk c = 0
  w7 : ∀ x ∈ c, ∀ z ∈ x.2, 0 ≤ z ∧ z ≤ 7
  q16 : ∀ x ∈ c, 1 ≤ x.1 ∧ x.1 ≤ 16
theorem k36 {c : List Ch} (h : 0 < c.length) : run0 (F36 c) = some (((gro c : Nat) : Int), ()) := by
  simp only [F36, run_nb, run_ret]
  rw [need_inb (by omega) (by omega)]; rfl
theorem tmod8 {z : Int} (h : isU8 z) : 0 ≤ Int.tmod z 8 ∧ Int.tmod z 8 ≤ 7 := by
  have h1 := Int.tmod_nonneg 8 h.1
  have h2 := Int.tmod_lt_of_pos z (show (0 : Int) < 8 by omega)
  omega
theorem tmod16 {z : Int} (h : isU8 z) : 0 ≤ Int.tmod z 16 ∧ Int.tmod z 16 ≤ 15 := by
  have h1 := Int.tmod_nonneg 16 h.1
  have h2 := Int.tmod_lt_of_pos z (show (0 : Int) < 16 by omega)
  omega
theorem tmod5 {z : Int} (h : isU8 z) : 0 ≤ Int.tmod z 5 ∧ Int.tmod z 5 ≤ 4 := by
  have h1 := Int.tmod_nonneg 5 h.1
  have h2 := Int.tmod_lt_of_pos z (show (0 : Int) < 5 by omega)
  omega
section
variable {g : Int} {q : List Int} {a0 a1 a2 a3 a4 b0 b1 b2 b3 b4 d0 d1 d2 d3 d4 : Int}
theorem k35_1 {n m k : Nat} {B : List Ch} {qq : Int} (hn : n ≤ 5) (hm : m < 3) (ha : ∀ z ∈ [a0, a1, a2, a3, a4, b0, b1, b2, b3, b4, d0, d1, d2, d3, d4], isU8 z) :
    ∃ ws : List Int, iter (fun a => run (fun _ => none) (g35_1 a)) ((n : Int), (k : Int), (m : Int), (0 : Int), g, q, a0, a1, a2, a3, a4, b0, b1, b2, b3, b4, d0, d1, d2, d3, d4, m, qq, 0, B, [], ()) =
      some ((n : Int), (k : Int), (m : Int), g, q, a0, a1, a2, a3, a4, b0, b1, b2, b3, b4, d0, d1, d2, d3, d4, m, qq, ws.length, B, ws, ()) ∧ ws.length = n ∧ ∀ z ∈ ws, 0 ≤ z ∧ z ≤ 7 := by
  have := iter_inv (f := fun a => run (fun _ => none) (g35_1 a)) n (fun i (st : List Int) => ((n : Int), (k : Int), (m : Int), (i : Int), g, q, a0, a1, a2, a3, a4, b0, b1, b2, b3, b4, d0, d1, d2, d3, d4, m, qq, st.length, B, st, ()))
    (fun ws => ((n : Int), (k : Int), (m : Int), g, q, a0, a1, a2, a3, a4, b0, b1, b2, b3, b4, d0, d1, d2, d3, d4, m, qq, ws.length, B, ws, ())) (fun i ws => ws.length = i ∧ ∀ z ∈ ws, 0 ≤ z ∧ z ≤ 7) ?_ ?_ (s := []) ⟨rfl, by simp⟩
  · exact this
  · rintro i st hi ⟨h1, h2⟩
    have hv : isU8 ([[a0, b0, d0].getD m 0, [a1, b1, d1].getD m 0, [a2, b2, d2].getD m 0, [a3, b3, d3].getD m 0, [a4, b4, d4].getD m 0].getD i 0) := by
      refine getD_u8 (fun z hz => ?_) i
      simp only [List.mem_cons, List.not_mem_nil, or_false] at hz
      rcases hz with rfl | rfl | rfl | rfl | rfl <;> refine getD_u8 (fun z hz => ?_) m <;>
        (simp only [List.mem_cons, List.not_mem_nil, or_false] at hz; rcases hz with rfl | rfl | rfl <;> exact ha _ (by simp))
    have ht := tmod8 hv
    have hin1 : inb (m : Int) 3 = true := inb_t (by omega) (by omega)
    have hin2 : inb (i : Int) 5 = true := inb_t (by omega) (by omega)
    have hni : rng .i64 ((i : Int) + 1) = true := rng_i64 (by omega) (by omega)
    refine ⟨st ++ [Int.tmod ([[a0, b0, d0].getD m 0, [a1, b1, d1].getD m 0, [a2, b2, d2].getD m 0, [a3, b3, d3].getD m 0, [a4, b4, d4].getD m 0].getD i 0) 8], ?_, by simp [h1], fun z hz => ?_⟩
    · simp only [g35_1, run_br, run_nb, run_ni, run_nd, run_ret, br_d, hin1, hin2, hni, need_true, Int.toNat_natCast, dt1, tk1, List.drop_zero, List.take_length]
      rw [if_pos (by omega), need_t (rng_i64 (by have := hv.1; omega) (by have := hv.2; omega)), need_t (by decide), need_lenbig (by simp; omega)]
      simp
    · rcases List.mem_append.1 hz with hz | hz
      · exact h2 z hz
      · rcases List.mem_singleton.1 hz with rfl; exact ht
  · rintro st ⟨h1, h2⟩
    simp only [g35_1, run_br, run_ret, br_d]
    rw [if_neg (by omega)]
theorem k35_0 {n k : Nat} (hn : n ≤ 5) (hk : k ≤ 3) (ha : ∀ z ∈ [a0, a1, a2, a3, a4, b0, b1, b2, b3, b4, d0, d1, d2, d3, d4], isU8 z) (hq : ∀ z ∈ q, isU8 z) :
    ∃ c : List Ch, iter (fun a => run (fun _ => none) (g35_0 a)) ((n : Int), (k : Int), (0 : Int), g, q, a0, a1, a2, a3, a4, b0, b1, b2, b3, b4, d0, d1, d2, d3, d4, 0, [], ()) = some (c.length, c, ()) ∧
      c.length = k ∧ ∀ x ∈ c, x.2.length = n ∧ (∀ z ∈ x.2, 0 ≤ z ∧ z ≤ 7) ∧ 1 ≤ x.1 ∧ x.1 ≤ 16 := by
  have := iter_inv (f := fun a => run (fun _ => none) (g35_0 a)) k (fun i (st : List Ch) => ((n : Int), (k : Int), (i : Int), g, q, a0, a1, a2, a3, a4, b0, b1, b2, b3, b4, d0, d1, d2, d3, d4, st.length, st, ()))
    (fun c => (c.length, c, ())) (fun i c => c.length = i ∧ ∀ x ∈ c, x.2.length = n ∧ (∀ z ∈ x.2, 0 ≤ z ∧ z ≤ 7) ∧ 1 ≤ x.1 ∧ x.1 ≤ 16) ?_ ?_ (s := []) ⟨rfl, by simp⟩
  · exact this
  · rintro i st hi ⟨h1, h2⟩
    have hni : rng .i64 ((i : Int) + 1) = true := rng_i64 (by omega) (by omega)
    have main : ∀ qq : Int, 1 ≤ qq → qq ≤ 16 → ∃ st' : List Ch, bindO (iter (fun a => run (fun _ => none) (g35_1 a)) ((n : Int), (k : Int), (i : Int), (0 : Int), g, q, a0, a1, a2, a3, a4, b0, b1, b2, b3, b4, d0, d1, d2, d3, d4, st.length, qq, 0, st, [], ())) (fun z1 =>
        need (decide ((z1.2.2.2.2.2.2.2.2.2.2.2.2.2.2.2.2.2.2.2.2.1 + (List.take 1 (List.drop 0 [(z1.2.2.2.2.2.2.2.2.2.2.2.2.2.2.2.2.2.2.2.2.2.1, List.take z1.2.2.2.2.2.2.2.2.2.2.2.2.2.2.2.2.2.2.2.2.2.2.1 (List.drop 0 z1.2.2.2.2.2.2.2.2.2.2.2.2.2.2.2.2.2.2.2.2.2.2.2.2.1))])).length) < bigL)) (need (rng .i64 (z1.2.2.1 + 1)) (some (Sum.inl (z1.1, z1.2.1, z1.2.2.1 + 1, z1.2.2.2.1, z1.2.2.2.2.1, z1.2.2.2.2.2.1, z1.2.2.2.2.2.2.1, z1.2.2.2.2.2.2.2.1, z1.2.2.2.2.2.2.2.2.1, z1.2.2.2.2.2.2.2.2.2.1, z1.2.2.2.2.2.2.2.2.2.2.1, z1.2.2.2.2.2.2.2.2.2.2.2.1, z1.2.2.2.2.2.2.2.2.2.2.2.2.1, z1.2.2.2.2.2.2.2.2.2.2.2.2.2.1, z1.2.2.2.2.2.2.2.2.2.2.2.2.2.2.1, z1.2.2.2.2.2.2.2.2.2.2.2.2.2.2.2.1, z1.2.2.2.2.2.2.2.2.2.2.2.2.2.2.2.2.1, z1.2.2.2.2.2.2.2.2.2.2.2.2.2.2.2.2.2.1, z1.2.2.2.2.2.2.2.2.2.2.2.2.2.2.2.2.2.2.1, z1.2.2.2.2.2.2.2.2.2.2.2.2.2.2.2.2.2.2.2.1, z1.2.2.2.2.2.2.2.2.2.2.2.2.2.2.2.2.2.2.2.2.1 + (List.take 1 (List.drop 0 [(z1.2.2.2.2.2.2.2.2.2.2.2.2.2.2.2.2.2.2.2.2.2.1, List.take z1.2.2.2.2.2.2.2.2.2.2.2.2.2.2.2.2.2.2.2.2.2.2.1 (List.drop 0 z1.2.2.2.2.2.2.2.2.2.2.2.2.2.2.2.2.2.2.2.2.2.2.2.2.1))])).length, List.take z1.2.2.2.2.2.2.2.2.2.2.2.2.2.2.2.2.2.2.2.2.1 (List.drop 0 z1.2.2.2.2.2.2.2.2.2.2.2.2.2.2.2.2.2.2.2.2.2.2.2.1) ++ List.take 1 (List.drop 0 [(z1.2.2.2.2.2.2.2.2.2.2.2.2.2.2.2.2.2.2.2.2.2.1, List.take z1.2.2.2.2.2.2.2.2.2.2.2.2.2.2.2.2.2.2.2.2.2.2.1 (List.drop 0 z1.2.2.2.2.2.2.2.2.2.2.2.2.2.2.2.2.2.2.2.2.2.2.2.2.1))]), ()))) : Option (_ ⊕ (Nat × List Ch × Unit)))) =
          some (.inl ((n : Int), (k : Int), ((i + 1 : Nat) : Int), g, q, a0, a1, a2, a3, a4, b0, b1, b2, b3, b4, d0, d1, d2, d3, d4, st'.length, st', ())) ∧ st'.length = i + 1 ∧ ∀ x ∈ st', x.2.length = n ∧ (∀ z ∈ x.2, 0 ≤ z ∧ z ≤ 7) ∧ 1 ≤ x.1 ∧ x.1 ≤ 16 := by
      intro qq hq1 hq2
      obtain ⟨ws, w1, w2, w3⟩ := k35_1 (g := g) (q := q) (n := n) (m := i) (k := k) (B := st) (qq := qq) hn (by omega) ha
      rw [h1, bind_of w1]
      refine ⟨st ++ [(qq, ws)], ?_, by simp [h1], fun x hx => ?_⟩
      · simp only [List.drop_zero, List.take_length, tk1]
        rw [need_lenbig (by simp; omega), need_t hni]
        simp [h1, List.take_of_length_le (Nat.le_of_eq h1)]
      · rcases List.mem_append.1 hx with hx | hx
        · exact h2 x hx
        · rcases List.mem_singleton.1 hx with rfl
          exact ⟨w2, w3, hq1, hq2⟩
    simp only [g35_0, run_br, run_jx, run_nb, run_ni, run_nd, run_bd, run_it, run_ret, br_d]
    rw [if_pos (by omega)]
    by_cases hq0 : i < q.length
    · have hu := getD_u8 hq i
      have ht := tmod16 hu
      rw [if_pos (by omega), need_inb (by omega) (by omega)]
      simp only [Int.toNat_natCast]
      rw [need_t (rng_i64 (by have := hu.1; omega) (by have := hu.2; omega)), need_t (by decide), need_t (rng_i64 (by omega) (by omega))]
      simp only [bindO_s, onS]
      exact main _ (by omega) (by omega)
    · rw [if_neg (by omega)]
      simp only [bindO_s, onS]
      exact main 4 (by omega) (by omega)
  · rintro st ⟨h1, h2⟩
    simp only [g35_0, run_br, run_ret, br_d]
    rw [if_neg (by omega)]
end
theorem made_ok {h : Hl} (hW : Wf hlT h) : ∃ c n, run0 (F35 (h.1, h.2.1, h.2.2.1.1, h.2.2.1.2.1, h.2.2.1.2.2.1, h.2.2.1.2.2.2.1, h.2.2.1.2.2.2.2, h.2.2.2.1.1, h.2.2.2.1.2.1, h.2.2.2.1.2.2.1, h.2.2.2.1.2.2.2.1, h.2.2.2.1.2.2.2.2, h.2.2.2.2.1, h.2.2.2.2.2.1, h.2.2.2.2.2.2.1, h.2.2.2.2.2.2.2.1, h.2.2.2.2.2.2.2.2)) = some ((c, ()), ()) ∧ OkH n c := by
  obtain ⟨g, q, ⟨a0, a1, a2, a3, a4⟩, ⟨b0, b1, b2, b3, b4⟩, ⟨d0, d1, d2, d3, d4⟩⟩ := h
  obtain ⟨w1, w2, ⟨w3, w4, w5, w6, w7⟩, ⟨v3, v4, v5, v6, v7⟩, ⟨u3, u4, u5, u6, u7⟩⟩ := hW
  replace w1 : Wf u8T g := w1
  have hg := tmod5 (isU8_of w1)
  have hg' := isU8_of w1
  have hq : ∀ z ∈ q, isU8 z := fun z hz => isU8_of (w2.2 z hz)
  have ha : ∀ z ∈ [a0, a1, a2, a3, a4, b0, b1, b2, b3, b4, d0, d1, d2, d3, d4], isU8 z := by
    intro z hz
    simp only [List.mem_cons, List.not_mem_nil, or_false] at hz
    rcases hz with rfl | rfl | rfl | rfl | rfl | rfl | rfl | rfl | rfl | rfl | rfl | rfl | rfl | rfl | rfl
    · exact isU8_of w3
    · exact isU8_of w4
    · exact isU8_of w5
    · exact isU8_of w6
    · exact isU8_of w7
    · exact isU8_of v3
    · exact isU8_of v4
    · exact isU8_of v5
    · exact isU8_of v6
    · exact isU8_of v7
    · exact isU8_of u3
    · exact isU8_of u4
    · exact isU8_of u5
    · exact isU8_of u6
    · exact isU8_of u7
  obtain ⟨n, hn, hn1, hn5⟩ : ∃ n : Nat, 1 + Int.tmod g 5 = (n : Int) ∧ 1 ≤ n ∧ n ≤ 5 := ⟨(1 + Int.tmod g 5).toNat, by omega, by omega, by omega⟩
  obtain ⟨k, hk, hk1, hk3⟩ : ∃ k : Nat, imin 3 (imax 1 ((q.length : Nat) : Int)) = (k : Int) ∧ 1 ≤ k ∧ k ≤ 3 := by
    refine ⟨(imin 3 (imax 1 ((q.length : Nat) : Int))).toNat, ?_, ?_, ?_⟩ <;> (unfold imin imax; split <;> split <;> omega)
  obtain ⟨c, c1, c2, c3⟩ := k35_0 (g := g) (n := n) (k := k) hn5 hk3 ha hq
  have hgc : gro c = n := by
    cases c with
    | nil => simp at c2; omega
    | cons x r => exact (c3 x (List.mem_cons_self ..)).1
  have hx : ∀ x ∈ c, OkX n x := fun x hx => by
    obtain ⟨e1, e2, e3, e4⟩ := c3 x hx
    exact ⟨e1, e3, by omega, fun z hz => by have := e2 z hz; omega⟩
  refine ⟨c, n, ?_, ⟨⟨by omega, by omega, hn1, by omega, hgc, hx⟩, hn5, ?_, fun x hx => (c3 x hx).2.1, fun x hx => (c3 x hx).2.2⟩⟩
  · simp only [F35, run_ni, run_nd, run_bd, run_it, run_ret]
    rw [need_t (rng_i64 (by have := hg'.1; omega) (by have := hg'.2; omega)), need_t (by decide), need_t (rng_i64 (by omega) (by omega)), hn, hk, bind_of c1]
    simp
  · unfold chk
    rw [if_neg (by omega), if_neg (by omega), hgc, if_neg (by omega), if_neg (by omega)]
    have : ∀ l : List Ch, (∀ x ∈ l, OkX n x) → chkL n l = 0 := by
      intro l
      induction l with
      | nil => intro _; rfl
      | cons x r ih =>
        intro h
        have ox := h x (List.mem_cons_self ..)
        have e : okCh n x = 0 := by
          unfold okCh
          rw [if_neg (not_not_intro ox.len), if_neg (not_not_intro ⟨ox.q1, ox.q2⟩), if_neg ?_]
          intro hb
          obtain ⟨z, hz, hbz⟩ := List.any_eq_true.1 hb
          have := ox.w z hz
          unfold badW at hbz
          simp at hbz
          omega
        simp only [chkL]
        rw [if_neg (not_not_intro e)]
        exact ih fun y hy => h y (List.mem_cons_of_mem _ hy)
    exact this c hx
end Go.Proofs.Tryd
end
section
namespace Go.Proofs.Tryd
open Go.AM Go.Cn
set_option maxRecDepth 100000
theorem i_bit {s i : Nat} (hs : s < 64) (hi : i < 6) : ar0.bits IBin.and .i64 (ar0.shr (s : Int) (i : Int)) (1 : Int) = if s.testBit i then 1 else 0 := by
 have := all_lt2 (n := 64) (m := 6) (p := fun s i => decide (ar0.bits IBin.and .i64 (ar0.shr (s : Int) (i : Int)) (1 : Int) = if s.testBit i then 1 else 0)) (by kernel_rfl) hs hi
 exact of_decide_eq_true this
theorem k39_1 {n s : Nat} {x : Ch} {c : List Ch} {len idx : Int} (hx : OkX n x) (hn : n ≤ 6) (hs : s < 2 ^ n) :
  iter (fun a => run (fun _ => none) (g39_1 a)) ((s : Int), (0 : Int), c, len, idx, x.2, ((x.2.length : Nat) : Int), (0 : Int), x.1, x.2, ()) = some ((s : Int), wt x.2 s, c, len, idx, x.1, x.2, ()) := by
 have h64 : s < 64 := Nat.lt_of_lt_of_le hs (pow6 hn)
 have key := iter_upto (f := fun a => run (fun _ => none) (g39_1 a)) n (fun k (st : Int) => ((s : Int), st, c, len, idx, x.2, ((x.2.length : Nat) : Int), (k : Int), x.1, x.2, ()))
  (fun st k => ((s : Int), st + (((List.range' k (n - k)).filter s.testBit).map fun i => x.2.getD i 0).sum, c, len, idx, x.1, x.2, ())) (fun k st => 0 ≤ st ∧ st ≤ 1000000 * (k : Int)) ?_ ?_ (s := 0) ⟨by omega, by omega⟩
 ·refine Eq.trans key ?_
  rw [wt_range hn hs]; simp [List.range_eq_range']
 ·rintro k st hk ⟨b1, b2⟩
  left
  have hw := hx.get k
  have hl := hx.len
  have hin : inb (k : Int) ((x.2.length : Nat) : Int) = true := inb_t (by omega) (by omega)
  have hi6 : inb (k : Int) 64 = true := inb_t (by omega) (by omega)
  have hni : rng .i64 ((k : Int) + 1) = true := rng_i64 (by omega) (by omega)
  have e : n - k = (n - (k + 1)) + 1 := by omega
  simp only [g39_1, run_br, run_nb, run_ni, run_ret, Int.toNat_natCast, br_d, hin, hi6, hni, need_true, i_bit h64 (show k < 6 by omega)]
  rw [if_pos (by omega), e, List.range'_succ, List.filter_cons]
  cases hb : s.testBit k
  ·refine ⟨st, ?_, ⟨by omega, by omega⟩, by simp⟩
   simp only [Bool.false_eq_true, if_false, Int.zero_mul, Int.add_zero]
   rw [need_t (rng_i64 (by omega) (by omega)), need_t (rng_i64 (by omega) (by omega))]
   rfl
  ·refine ⟨st + x.2.getD k 0, ?_, ⟨by omega, by omega⟩, by simp only [if_true, List.map_cons, List.sum_cons, Int.add_assoc]⟩
   simp only [if_true, Int.one_mul]
   rw [need_t (rng_i64 (by omega) (by omega)), need_t (rng_i64 (by omega) (by omega))]
   rfl
 ·rintro st -
  have hl := hx.len
  simp only [g39_1, run_br, run_ret, br_d]
  rw [if_neg (by omega)]; simp
theorem k39 {n s : Nat} {c : List Ch} (hc : OkC n c) (hs : s < 2 ^ n) : run0 (F39 c (s : Int)) = some (winB c s, ()) := by
 have h3 := hc.c3
 simp only [F39, run_bd, run_it]
 have key := iter_list c (f := fun a => run (fun _ => none) (g39_0 a)) (fun k (_ : Unit) => ((s : Int), c, ((c.length : Nat) : Int), (k : Int), ())) (fun _ r => if winB r s = true then Sum.inr () else Sum.inl ()) (fun _ _ => True) ?_ ?_ (s := ()) trivial
 ·replace key : iter (fun a => run (fun _ => none) (g39_0 a)) ((s : Int), c, ((c.length : Nat) : Int), (0 : Int), ()) = _ := key
  rw [bind_of key]
  cases h : winB c s <;> simp [run_sl, run_sr, run_ret]
 ·rintro pre x post _ hxx -
  have hlen : c.length = pre.length + (post.length + 1) := by rw [hxx]; simp
  have hd : c.getD pre.length ((0 : Int), []) = x := by rw [hxx]; exact getD_mid rfl
  have hx : OkX n x := hc.ch x (by rw [hxx]; simp)
  have hin : inb (pre.length : Int) ((c.length : Nat) : Int) = true := inb_t (by omega) (by omega)
  have hni : rng .i64 ((pre.length : Int) + 1) = true := rng_i64 (by omega) (by omega)
  simp only [g39_0, run_br, run_bd, run_nb, run_ni, run_it, run_ret, Int.toNat_natCast, hd, br_d, hin, hni, need_true]
  rw [if_pos (by omega), bind_of (k39_1 hx hc.n6 hs)]
  have e : winB (x :: post) s = (win1 s x && winB post s) := rfl
  rw [e]
  by_cases hw : wt x.2 s < x.1
  ·right
   rw [if_pos hw]
   have : win1 s x = false := by simp only [win1, decide_eq_false_iff_not]; omega
   simp [this]
  ·left
   rw [if_neg hw]
   have : win1 s x = true := by simp only [win1, decide_eq_true_eq]; omega
   exact ⟨(), by simp [need_t hni], trivial, by simp [this]⟩
 ·rintro _ -
  simp only [g39_0, run_br, run_ret, br_d]
  rw [if_neg (by omega)]; simp [winB]
/-! Sums. -/
theorem sum_perm {α : Type} {l l' : List α} (h : l.Perm l') (f : α → Int) : (l.map f).sum = (l'.map f).sum := by
 induction h with
 | nil => rfl
 | cons x _ ih => simp [ih]
 | swap x y l => simp; omega
 | trans _ _ ih1 ih2 => exact ih1.trans ih2
theorem els_with {s i : Nat} (hs : s < 64) (hi : i < 6) (h : s.testBit i = false) : (els (s ||| 2 ^ i)).Perm (i :: els s) := by
 have := all_lt2 (n := 64) (m := 6) (p := fun s i => s.testBit i || decide ((els (s ||| 2 ^ i)).Perm (i :: els s))) (by decide +kernel) hs hi
 simpa [h] using this
theorem wt_with {ws : List Int} {s i : Nat} (hs : s < 64) (hi : i < 6) (h : s.testBit i = false) : wt ws (s ||| 2 ^ i) = wt ws s + ws.getD i 0 := by
 unfold wt
 rw [sum_perm (els_with hs hi h)]
 simp only [List.map_cons, List.sum_cons]; omega
end Go.Proofs.Tryd
end
section
namespace Go.Proofs.Tryd
open Go.AM Go.Cn
set_option maxRecDepth 100000
/-! The least and the greatest that change nothing. -/
theorem fold_w {x : Ch} {D : List Ch} {g : Nat} {w : Int} : ∀ {L : List Nat} {st : Int × Int},
  ((L.foldl (stepW x D g) st).1 ≤ w ↔ st.1 ≤ w ∧ ∀ s ∈ L, winB D (s ||| 2 ^ g) = true → win1 (s ||| 2 ^ g) x = true → x.1 - wt x.2 s ≤ w) ∧
  (w ≤ (L.foldl (stepW x D g) st).2 ↔ w ≤ st.2 ∧ ∀ s ∈ L, winB D (s ||| 2 ^ g) = true → win1 (s ||| 2 ^ g) x = false → w ≤ x.1 - wt x.2 s - 1)
 | [], st => by simp
 | s :: L, st => by
  have ih := fold_w (x := x) (D := D) (g := g) (w := w) (L := L) (st := stepW x D g st s)
  simp only [List.foldl_cons, List.forall_mem_cons]
  rw [ih.1, ih.2]
  unfold stepW
  have ei : ∀ a b z : Int, z ≤ imin a b ↔ z ≤ a ∧ z ≤ b := fun a b z => by unfold imin; omega
  have ea : ∀ a b z : Int, imax a b ≤ z ↔ a ≤ z ∧ b ≤ z := fun a b z => by unfold imax; omega
  cases h1 : winB D (s ||| 2 ^ g)
  ·simp
  ·cases h2 : win1 (s ||| 2 ^ g) x
   ·simp [ei, and_assoc]
   ·simp [ea, and_assoc]
theorem fold_q {x : Ch} {D : List Ch} {w : Int} : ∀ {L : List Nat} {st : Int × Int},
  ((L.foldl (stepQ x D) st).1 ≤ w ↔ st.1 ≤ w ∧ ∀ s ∈ L, winB D s = true → win1 s x = false → wt x.2 s + 1 ≤ w) ∧
  (w ≤ (L.foldl (stepQ x D) st).2 ↔ w ≤ st.2 ∧ ∀ s ∈ L, winB D s = true → win1 s x = true → w ≤ wt x.2 s)
 | [], st => by simp
 | s :: L, st => by
  have ih := fold_q (x := x) (D := D) (w := w) (L := L) (st := stepQ x D st s)
  simp only [List.foldl_cons, List.forall_mem_cons]
  rw [ih.1, ih.2]
  unfold stepQ
  have ei : ∀ a b z : Int, z ≤ imin a b ↔ z ≤ a ∧ z ≤ b := fun a b z => by unfold imin; omega
  have ea : ∀ a b z : Int, imax a b ≤ z ↔ a ≤ z ∧ b ≤ z := fun a b z => by unfold imax; omega
  cases h1 : winB D s
  ·simp
  ·cases h2 : win1 s x
   ·simp [ea, and_assoc]
   ·simp [ei, and_assoc]
theorem drop_set {y : Ch} : ∀ {a j : Nat} {c : List Ch}, dropL ((a + j : Nat) : Int) a (c.set j y) = dropL ((a + j : Nat) : Int) a c
 | a, j, [] => rfl
 | a, 0, x :: r => by simp [dropL]
 | a, j + 1, x :: r => by
  simp only [List.set_cons_succ, dropL]
  rw [if_neg (by omega), if_neg (by omega)]
  have := drop_set (y := y) (a := a + 1) (j := j) (c := r)
  rw [show a + 1 + j = a + (j + 1) by omega] at this
  rw [this]
theorem win_set {c : List Ch} {k s : Nat} {y : Ch} (hk : k < c.length) : winB (c.set k y) s = (winB (dropL (k : Int) 0 c) s && win1 s y) := by
 have h := win_drop (s := s) (k := 0) (j := k) (c := c.set k y) (by simpa using hk)
 have hd := drop_set (y := y) (a := 0) (j := k) (c := c)
 rw [hd] at h
 have e : (c.set k y).getD k ((0 : Int), []) = y := by simp [List.getD, hk]
 rw [h, e]
 simp
theorem win_at {c : List Ch} {k s : Nat} (hk : k < c.length) : winB c s = (winB (dropL (k : Int) 0 c) s && win1 s (c.getD k ((0 : Int), []))) := by
 have h := win_drop (s := s) (k := 0) (j := k) (c := c) hk
 simpa using h
theorem wt_set_no {ws : List Int} {s i : Nat} {w : Int} (h : s.testBit i = false) : wt (ws.set i w) s = wt ws s := by
 unfold wt
 congr 1
 refine List.map_congr_left fun j hj => ?_
 have : i ≠ j := fun e => by subst e; rw [(mem_els.1 hj).2] at h; cases h
 simp [List.getD, List.getElem?_set, this]
section
variable {c : List Ch} {n k i : Nat}
theorem same_w (hc : OkC n c) (hk : k < c.length) (hi : i < n) {w : Int} (hw : 0 ≤ w) (hw2 : w ≤ 1000000) :
  ((spanW (c.getD k ((0 : Int), [])) (dropL (k : Int) 0 c) n i).1 ≤ w ∧ w ≤ (spanW (c.getD k ((0 : Int), [])) (dropL (k : Int) 0 c) n i).2) ↔
   ∀ s, s < 2 ^ n → winB c s = winB (c.set k ((c.getD k ((0 : Int), [])).1, (c.getD k ((0 : Int), [])).2.set i w)) s := by
 have hn := hc.n6
 have hx : OkX n (c.getD k ((0 : Int), [])) := hc.ch _ (by simp [List.getD, hk])
 generalize hxx : c.getD k ((0 : Int), []) = x at *
 have hF := fold_w (x := x) (D := dropL (k : Int) 0 c) (g := i) (w := w) (L := (List.range' 0 (2 ^ n)).filter (hasNo i)) (st := (0, 1000000))
 unfold spanW foldF
 rw [hF.1, hF.2]
 have hset : ∀ s, s < 64 → s.testBit i = false → wt (x.2.set i w) (s ||| 2 ^ i) = wt x.2 s + w := fun s hs hb => by
  rw [wt_with hs (by omega) hb, wt_set_no hb]
  simp [List.getD, hx.len, hi]
 have hold : ∀ s, s < 64 → s.testBit i = false → wt x.2 (s ||| 2 ^ i) = wt x.2 s + x.2.getD i 0 := fun s hs hb => wt_with hs (by omega) hb
 have h64 := pow6 hn
 have mem : ∀ s, s ∈ (List.range' 0 (2 ^ n)).filter (hasNo i) ↔ s < 2 ^ n ∧ s.testBit i = false := fun s => by simp [List.mem_filter, hasNo]
 constructor
 ·rintro ⟨⟨-, h1⟩, -, h2⟩ s hs
  rw [win_set hk, win_at hk, hxx]
  cases hD : winB (dropL (k : Int) 0 c) s
  ·simp
  simp only [Bool.true_and]
  cases hb : s.testBit i
  ·unfold win1; rw [wt_set_no hb]
  ·have e := wo_with (show s < 64 by omega) (show i < 6 by omega) hb
   have hb0 : (wo s i).testBit i = false := by
    have := all_lt2 (n := 64) (m := 6) (p := fun s i => !(wo s i).testBit i) (by decide +kernel) (show s < 64 by omega) (show i < 6 by omega)
    simpa using this
   have hlt : wo s i < 2 ^ n := wo_lt hs
   generalize wo s i = s0 at *
   subst e
   have q1 := h1 s0 ((mem s0).2 ⟨hlt, hb0⟩) hD
   have q2 := h2 s0 ((mem s0).2 ⟨hlt, hb0⟩) hD
   cases hwn : win1 (s0 ||| 2 ^ i) x
   ·have := q2 hwn
    symm
    unfold win1
    rw [hset s0 (by omega) hb0]
    simp only [decide_eq_false_iff_not]
    omega
   ·have := q1 hwn
    symm
    unfold win1
    rw [hset s0 (by omega) hb0]
    simp only [decide_eq_true_eq]
    omega
 ·intro h
  have key : ∀ s ∈ (List.range' 0 (2 ^ n)).filter (hasNo i), winB (dropL (k : Int) 0 c) (s ||| 2 ^ i) = true → win1 (s ||| 2 ^ i) x = decide (x.1 ≤ wt x.2 s + w) := fun s hs hD => by
   obtain ⟨hlt, hb⟩ := (mem s).1 hs
   have := h (s ||| 2 ^ i) (or_lt hn hlt hi)
   rw [win_set hk, win_at hk, hxx, hD] at this
   simp only [Bool.true_and] at this
   rw [this]
   unfold win1
   rw [hset s (by omega) hb]
  refine ⟨⟨hw, fun s hs hD h1 => ?_⟩, hw2, fun s hs hD h1 => ?_⟩
  ·rw [key s hs hD] at h1; simp only [decide_eq_true_eq] at h1; omega
  ·rw [key s hs hD] at h1; simp only [decide_eq_false_iff_not] at h1; omega
theorem same_q (hc : OkC n c) (hk : k < c.length) (hi : i < n) {q : Int} (hq : 1 ≤ q) (hq2 : q ≤ 10000000) :
  ((spanQ (c.getD k ((0 : Int), [])) (dropL (k : Int) 0 c) n).1 ≤ q ∧ q ≤ (spanQ (c.getD k ((0 : Int), [])) (dropL (k : Int) 0 c) n).2) ↔
   ∀ s, s < 2 ^ n → winB c s = winB (c.set k (q, (c.getD k ((0 : Int), [])).2.set i ((c.getD k ((0 : Int), [])).2.getD i 0))) s := by
 have hx : OkX n (c.getD k ((0 : Int), [])) := hc.ch _ (by simp [List.getD, hk])
 generalize hxx : c.getD k ((0 : Int), []) = x at *
 have hF := fold_q (x := x) (D := dropL (k : Int) 0 c) (w := q) (L := (List.range' 0 (2 ^ n)).filter (fun _ => true)) (st := (1, 10000000))
 unfold spanQ foldF
 rw [hF.1, hF.2]
 have hil : i < x.2.length := by rw [hx.len]; exact hi
 have hself : x.2.set i (x.2.getD i 0) = x.2 := by
  rw [show x.2.getD i 0 = x.2[i] by simp [List.getD, hil], List.set_getElem_self]
 have mem : ∀ s, s ∈ (List.range' 0 (2 ^ n)).filter (fun _ => true) ↔ s < 2 ^ n := fun s => by simp [List.mem_filter]
 rw [hself]
 constructor
 ·rintro ⟨⟨-, h1⟩, -, h2⟩ s hs
  rw [win_set hk, win_at hk, hxx]
  cases hD : winB (dropL (k : Int) 0 c) s
  ·simp
  simp only [Bool.true_and]
  have q1 := h1 s ((mem s).2 hs) hD
  have q2 := h2 s ((mem s).2 hs) hD
  cases hwn : win1 s x
  ·have := q1 hwn
   symm
   unfold win1
   simp only [decide_eq_false_iff_not]
   omega
  ·have := q2 hwn
   symm
   unfold win1
   simp only [decide_eq_true_eq]
   omega
 ·intro h
  have key : ∀ s ∈ (List.range' 0 (2 ^ n)).filter (fun _ => true), winB (dropL (k : Int) 0 c) s = true → win1 s x = decide (q ≤ wt x.2 s) := fun s hs hD => by
   have := h s ((mem s).1 hs)
   rw [win_set hk, win_at hk, hxx, hD] at this
   simp only [Bool.true_and] at this
   rw [this]
   unfold win1
   rfl
  refine ⟨⟨hq, fun s hs hD h1 => ?_⟩, hq2, fun s hs hD h1 => ?_⟩
  ·rw [key s hs hD] at h1; simp only [decide_eq_false_iff_not] at h1; omega
  ·rw [key s hs hD] at h1; simp only [decide_eq_true_eq] at h1; omega
/-- A council with one chamber another one. -/
theorem okc_set (hc : OkC n c) (hk : k < c.length) {y : Ch} (hy : OkX n y) : OkC n (c.set k y) := by
 refine ⟨by simpa using hc.c1, by simpa using hc.c3, hc.n1, hc.n6, ?_, fun x hx => ?_⟩
 ·have := hc.gro
  unfold gro at this ⊢
  cases c with
  | nil => simp at hk
  | cons x r =>
   cases k with
   | zero => simp [hy.len]
   | succ k => simpa using this
 ·rcases List.mem_or_eq_of_mem_set hx with hx | rfl
  ·exact hc.ch x hx
  ·exact hy
theorem k42_0 {o : List Ch} (hc : OkC n c) (ho : OkC n o) :
  run0 (.it g42_0 (c, (0 : Int), o.length, o, ())) = some (if ∀ s, s < 2 ^ n → winB c s = winB o s then .inr () else .inl ()) := by
 have hn := hc.n6
 have h64 := pow6 hn
 have h0 : 0 < c.length := by have := hc.c1; omega
 have hp : 0 < 2 ^ n := Nat.pow_pos (by omega)
 have hi1 : inb (n : Int) 64 = true := inb_t (by omega) (by omega)
 have hi2 : rng .i64 ((2 ^ n : Nat) : Int) = true := rng_i64 (by omega) (by omega)
 have hsh : ar0.shl (1 : Int) (n : Int) = ((2 ^ n : Nat) : Int) := shl_n hn
 have key := iter_until (step := fun a => run (fun _ => none) (g42_0 a)) (2 ^ n) (fun s => (c, (s : Int), o.length, o, ())) (fun s => if winB c s = winB o s then none else some (.inl ())) (b := .inr ())
  (fun s hs => by
   have hni : rng .i64 ((s : Int) + 1) = true := rng_i64 (by omega) (by omega)
   have step : run (fun _ => none) (g42_0 (c, (s : Int), o.length, o, ())) = brO (!(winB c s == winB o s)) (some (.inr (.inl ()))) (some (.inl (c, ((s + 1 : Nat) : Int), o.length, o, ()))) := by
    simp only [g42_0, run_bd, run_nb, run_ni, run_br, run_ret, k36 h0, hc.gro, bindO_s, hsh, hi1, hi2, need_true, br_d, List.drop_zero, List.take_length]
    rw [if_pos (by omega), bind_of (k39 hc hs), bind_of (k39 ho hs)]
    simp only [hni, need_true]
    rfl
   rw [step]
   by_cases he : winB c s = winB o s
   ·simp only [he, if_true, beq_self_eq_true, Bool.not_true, brO_false]
   ·simp only [he, if_false]
    rw [show (winB c s == winB o s) = false by simpa using he]
    simp)
  (by
   simp only [g42_0, run_bd, run_nb, run_ni, run_br, run_ret, k36 h0, hc.gro, bindO_s, hsh, hi1, hi2, need_true, br_d]
   rw [if_neg (by simp)])
 simp only [run_it]
 rw [show ((0 : Int)) = ((0 : Nat) : Int) from rfl, key]
 congr 1
 by_cases h : ∀ s, s < 2 ^ n → winB c s = winB o s
 ·rw [if_pos h, List.findSome?_eq_none_iff.2 (fun s hs => by rw [if_pos (h s (List.mem_range.1 hs))])]
  rfl
 ·rw [if_neg h]
  cases hf : (List.range (2 ^ n)).findSome? (fun s => if winB c s = winB o s then none else some (Sum.inl (β := Unit) ())) with
  | none =>
   exfalso
   refine h fun s hs => ?_
   have := List.findSome?_eq_none_iff.1 hf s (List.mem_range.2 hs)
   by_cases he : winB c s = winB o s
   ·exact he
   ·rw [if_neg he] at this; cases this
  | some y =>
   obtain ⟨s, _, hy⟩ := List.exists_of_findSome?_eq_some hf
   split at hy
   ·cases hy
   ·cases hy; rfl
theorem k42 (hc : OkC n c) (hk : k < c.length) (hi : i < n) {w q : Int} (hw : 0 ≤ w ∧ w ≤ 1000000) (hq : 1 ≤ q ∧ q ≤ 10000000) :
  run0 (F42 w q c (c.getD k ((0 : Int), [])) (k : Int) (i : Int)) = some (decide (∀ s, s < 2 ^ n → winB c s = winB (c.set k (q, (c.getD k ((0 : Int), [])).2.set i w)) s), ()) := by
 have hx : OkX n (c.getD k ((0 : Int), [])) := hc.ch _ (by simp [List.getD, hk])
 generalize hxx : c.getD k ((0 : Int), []) = x at *
 have hl := hx.len
 have hn := hc.n6
 have c3 := hc.c3
 have hkb : bigL = 1073741824 := by decide
 have hy : OkX n (q, x.2.set i w) := ⟨by simpa using hl, hq.1, hq.2, fun z hz => by
  rcases List.mem_or_eq_of_mem_set hz with hz | rfl
  ·exact hx.w z hz
  ·exact hw⟩
 have ho := okc_set hc hk hy
 have e : (c.set k (q, [])).set k (((c.set k (q, ([] : List Int))).getD k ((0 : Int), [])).1, (x.2.set i w).take x.2.length) = c.set k (q, x.2.set i w) := by
  rw [List.set_set, List.take_of_length_le (by simp)]
  simp [List.getD, hk]
 have e2 : c.length = (c.set k (q, x.2.set i w)).length := by simp
 simp only [F42, run_nd, run_nb, run_bd, run_ret, Nat.zero_add, Int.toNat_natCast, List.drop_zero, List.take_zero, List.nil_append, List.drop_nil, List.take_nil]
 rw [need_d (by omega), need_d (by omega), need_inb (by omega) (by omega), need_d (by omega), need_inb (by omega) (by omega), need_t (by simp), need_inb (by omega) (by omega), need_d (by omega), e]
 have hit := k42_0 hc ho
 rw [← e2] at hit
 rw [bind_of hit]
 by_cases h : ∀ s, s < 2 ^ n → winB c s = winB (c.set k (q, x.2.set i w)) s
 ·rw [if_pos h, decide_eq_true h]
  simp only [run_sr, run_ret]
 ·rw [if_neg h, decide_eq_false h]
  simp only [run_sl, run_ret]
end
theorem br_both {X : Type} {c : Bool} {x y r : Option X} (h1 : c = true → x = r) (h2 : c = false → y = r) : brO c x y = r := by
 cases c
 ·rw [brO_false]; exact h2 rfl
 ·rw [brO_true]; exact h1 rfl
theorem spans_in {c : List Ch} {n k i : Nat} (hc : OkC n c) (hk : k < c.length) (hi : i < n) :
  (0 ≤ (spanW (c.getD k ((0 : Int), [])) (dropL (k : Int) 0 c) n i).1 ∧ (spanW (c.getD k ((0 : Int), [])) (dropL (k : Int) 0 c) n i).1 ≤ (c.getD k ((0 : Int), [])).2.getD i 0 ∧
   (c.getD k ((0 : Int), [])).2.getD i 0 ≤ (spanW (c.getD k ((0 : Int), [])) (dropL (k : Int) 0 c) n i).2 ∧ (spanW (c.getD k ((0 : Int), [])) (dropL (k : Int) 0 c) n i).2 ≤ 1000000) ∧
  (1 ≤ (spanQ (c.getD k ((0 : Int), [])) (dropL (k : Int) 0 c) n).1 ∧ (spanQ (c.getD k ((0 : Int), [])) (dropL (k : Int) 0 c) n).1 ≤ (c.getD k ((0 : Int), [])).1 ∧
   (c.getD k ((0 : Int), [])).1 ≤ (spanQ (c.getD k ((0 : Int), [])) (dropL (k : Int) 0 c) n).2 ∧ (spanQ (c.getD k ((0 : Int), [])) (dropL (k : Int) 0 c) n).2 ≤ 10000000) := by
 have hx : OkX n (c.getD k ((0 : Int), [])) := hc.ch _ (by simp [List.getD, hk])
 have hg := hx.get i
 have hself : c.set k ((c.getD k ((0 : Int), [])).1, (c.getD k ((0 : Int), [])).2.set i ((c.getD k ((0 : Int), [])).2.getD i 0)) = c := by
  have hil : i < (c.getD k ((0 : Int), [])).2.length := by rw [hx.len]; exact hi
  have : (c.getD k ((0 : Int), [])).2.set i ((c.getD k ((0 : Int), [])).2.getD i 0) = (c.getD k ((0 : Int), [])).2 := by
   generalize (c.getD k ((0 : Int), [])).2 = ws at *
   rw [show ws.getD i 0 = ws[i] by simp [List.getD, hil], List.set_getElem_self]
  rw [this, show c.getD k ((0 : Int), []) = c[k] by simp [List.getD, hk], Prod.eta, List.set_getElem_self]
 have hw := (same_w hc hk hi hg.1 hg.2).2 (fun s hs => by rw [hself])
 have hq := (same_q hc hk hi hx.q1 hx.q2).2 (fun s hs => by rw [hself])
 have a1 := (fold_w (x := c.getD k ((0 : Int), [])) (D := dropL (k : Int) 0 c) (g := i) (w := (spanW (c.getD k ((0 : Int), [])) (dropL (k : Int) 0 c) n i).1) (L := (List.range' 0 (2 ^ n)).filter (hasNo i)) (st := (0, 1000000))).1.1 (Int.le_refl _)
 have a2 := (fold_w (x := c.getD k ((0 : Int), [])) (D := dropL (k : Int) 0 c) (g := i) (w := (spanW (c.getD k ((0 : Int), [])) (dropL (k : Int) 0 c) n i).2) (L := (List.range' 0 (2 ^ n)).filter (hasNo i)) (st := (0, 1000000))).2.1 (Int.le_refl _)
 have b1 := (fold_q (x := c.getD k ((0 : Int), [])) (D := dropL (k : Int) 0 c) (w := (spanQ (c.getD k ((0 : Int), [])) (dropL (k : Int) 0 c) n).1) (L := (List.range' 0 (2 ^ n)).filter (fun _ => true)) (st := (1, 10000000))).1.1 (Int.le_refl _)
 have b2 := (fold_q (x := c.getD k ((0 : Int), [])) (D := dropL (k : Int) 0 c) (w := (spanQ (c.getD k ((0 : Int), [])) (dropL (k : Int) 0 c) n).2) (L := (List.range' 0 (2 ^ n)).filter (fun _ => true)) (st := (1, 10000000))).2.1 (Int.le_refl _)
 exact ⟨⟨a1.1, hw.1, hw.2, a2.1⟩, b1.1, hq.1, hq.2, b2.1⟩
theorem law11 (h : Hl) (a1 a2 a3 : Int) (hW : WfAll [hlT, u8T, u8T, .int .u16] (h, a1, a2, a3, ())) : run0 (F11 h a1 a2 a3) = some (true, ()) := by
 obtain ⟨c, n, hm, ho⟩ := made_ok hW.1
 have u1 : isU8 a1 := isU8_of hW.2.1
 have u2 : isU8 a2 := isU8_of hW.2.2.1
 have u3 : 0 ≤ a3 ∧ a3 ≤ 65535 := by
  have := hW.2.2.2.1
  simp only [Wf] at this
  rwa [show IntKind.u16.min = 0 by decide, show IntKind.u16.max = 65535 by decide] at this
 have hc := ho.ok
 have hn := hc.n6
 have hn1 := hc.n1
 have c3 := hc.c3
 have h0 : 0 < c.length := by have := hc.c1; omega
 obtain ⟨k, hk, ek⟩ : ∃ k : Nat, k < c.length ∧ Int.tmod a1 ((c.length : Nat) : Int) = (k : Int) := by
  have h1 := Int.tmod_nonneg ((c.length : Nat) : Int) u1.1
  have h2 := Int.tmod_lt_of_pos a1 (show (0 : Int) < ((c.length : Nat) : Int) by omega)
  exact ⟨(Int.tmod a1 ((c.length : Nat) : Int)).toNat, by omega, by omega⟩
 obtain ⟨i, hi, ei⟩ : ∃ i : Nat, i < n ∧ Int.tmod a2 (n : Int) = (i : Int) := by
  have h1 := Int.tmod_nonneg (n : Int) u2.1
  have h2 := Int.tmod_lt_of_pos a2 (show (0 : Int) < (n : Int) by omega)
  exact ⟨(Int.tmod a2 (n : Int)).toNat, by omega, by omega⟩
 have hx : OkX n (c.getD k ((0 : Int), [])) := hc.ch _ (by simp [List.getD, hk])
 obtain ⟨⟨s1, s2, s3, s4⟩, t1, t2, t3, t4⟩ := spans_in hc hk hi
 have kw : ∀ w, 0 ≤ w → w ≤ 1000000 → run (fun _ => none) (F42 w (c.getD k ((0 : Int), [])).1 c (c.getD k ((0 : Int), [])) (k : Int) (i : Int)) =
   some (decide ((spanW (c.getD k ((0 : Int), [])) (dropL (k : Int) 0 c) n i).1 ≤ w ∧ w ≤ (spanW (c.getD k ((0 : Int), [])) (dropL (k : Int) 0 c) n i).2), ()) := fun w h1 h2 => by
  refine (k42 hc hk hi ⟨h1, h2⟩ ⟨hx.q1, hx.q2⟩).trans ?_
  simp only [same_w hc hk hi h1 h2]
 have hg := hx.get i
 have kq : ∀ q, 1 ≤ q → q ≤ 10000000 → run (fun _ => none) (F42 ((c.getD k ((0 : Int), [])).2.getD i 0) q c (c.getD k ((0 : Int), [])) (k : Int) (i : Int)) =
   some (decide ((spanQ (c.getD k ((0 : Int), [])) (dropL (k : Int) 0 c) n).1 ≤ q ∧ q ≤ (spanQ (c.getD k ((0 : Int), [])) (dropL (k : Int) 0 c) n).2), ()) := fun q h1 h2 => by
  refine (k42 hc hk hi hg ⟨h1, h2⟩).trans ?_
  simp only [same_q hc hk hi h1 h2]
 have e31 : run (fun _ => none) (F31 c (k : Int) (i : Int)) = some (spanW (c.getD k ((0 : Int), [])) (dropL (k : Int) 0 c) n i, 0, ()) := by
  have := k31 (fun _ => hc) (k : Int) (i : Int)
  unfold wR at this
  rw [if_neg (not_not_intro ho.chk0), if_neg (by simp [inC]; omega), if_neg (by simp [inG]; omega)] at this
  simpa using this
 have e33 : run (fun _ => none) (F33 c (k : Int)) = some (spanQ (c.getD k ((0 : Int), [])) (dropL (k : Int) 0 c) n, 0, ()) := by
  have := k33 (fun _ => hc) (k : Int)
  unfold qR at this
  rw [if_neg (not_not_intro ho.chk0), if_neg (by simp [inC]; omega)] at this
  simpa using this
 have hlen := hx.len
 generalize hW1 : (spanW (c.getD k ((0 : Int), [])) (dropL (k : Int) 0 c) n i) = W at *
 generalize hQ1 : (spanQ (c.getD k ((0 : Int), [])) (dropL (k : Int) 0 c) n) = Q at *
 have q1 := hx.q1
 have q2 := hx.q2
 generalize hxx : c.getD k ((0 : Int), []) = x at *
 obtain ⟨lo, hh⟩ := W
 obtain ⟨ql, qh⟩ := Q
 obtain ⟨xq, ws⟩ := x
 dsimp only at *
 have a0 := u1.1
 have a255 := u1.2
 have b0 := u2.1
 have b255 := u2.2
 have nz1 : (!(((c.length : Nat) : Int) == (0 : Int))) = true := by rw [Bool.not_eq_true', beq_eq_false_iff_ne]; omega
 have nz2 : (!((n : Int) == (0 : Int))) = true := by rw [Bool.not_eq_true', beq_eq_false_iff_ne]; omega
 have nz3 : (!((hh - lo + (1 : Int)) == (0 : Int))) = true := by rw [Bool.not_eq_true', beq_eq_false_iff_ne]; omega
 have nz4 : (!((qh - ql + (1 : Int)) == (0 : Int))) = true := by rw [Bool.not_eq_true', beq_eq_false_iff_ne]; omega
 have m1 := Int.tmod_nonneg (hh - lo + 1) u3.1
 have m2 := Int.tmod_lt_of_pos a3 (show 0 < hh - lo + 1 by omega)
 have m3 := Int.tmod_nonneg (qh - ql + 1) u3.1
 have m4 := Int.tmod_lt_of_pos a3 (show 0 < qh - ql + 1 by omega)
 have yes : ∀ {p : Prop} [Decidable p], p → (!decide p) = false := fun h => by simp [h]
 simp only [F11, run_bd]
 rw [bind_of hm]
 simp only [run_ni, run_nd, run_nb, run_bd, run_br, run_ret, k36 h0, hc.gro, bindO_s, ek, ei, Int.toNat_natCast, hxx]
 rw [need_i64 (by omega) (by omega), need_t nz1, need_i64 (by omega) (by omega), need_t nz2, bind_of e31, bind_of e33]
 dsimp only
 rw [br_not, br_t (by decide), br_not, br_t (by decide), need_inb (by omega) (by omega), br_d, if_neg (by omega), need_inb (by omega) (by omega), br_d, if_neg (by omega), need_inb (by omega) (by omega), br_d, if_neg (by omega), br_d, if_neg (by omega), br_d, if_neg (by omega), br_d, if_neg (by omega), br_d, if_neg (by omega), br_d, if_neg (by omega),
  need_i64 (by omega) (by omega), need_i64 (by omega) (by omega), need_i64 (by omega) (by omega), need_t nz3, need_i64 (by omega) (by omega), need_i64 (by omega) (by omega), need_i64 (by omega) (by omega), need_i64 (by omega) (by omega), need_t nz4, need_i64 (by omega) (by omega),
  bind_of (kw lo (by omega) (by omega))]
 dsimp only
 rw [br_f (yes (by omega)), bind_of (kw hh (by omega) (by omega))]
 dsimp only
 rw [br_f (yes (by omega)), bind_of (kw _ (by omega) (by omega))]
 dsimp only
 rw [br_f (yes (by omega)), need_inb (by omega) (by omega), bind_of (kq ql (by omega) (by omega))]
 dsimp only
 rw [br_f (yes (by omega)), need_inb (by omega) (by omega), bind_of (kq qh (by omega) (by omega))]
 dsimp only
 rw [br_f (yes (by omega)), need_inb (by omega) (by omega), bind_of (kq _ (by omega) (by omega))]
 dsimp only
 rw [br_f (yes (by omega))]
 have wk : bindO (run (fun _ => none) F16) (fun y => some (y.1, ())) = some (true, ()) := by rw [bind_of works_ok]
 have ne : ∀ {a b : Int}, (a == b) = false → a ≠ b := fun h => by simpa using h
 have flo : (lo == (0 : Int)) = false → run (fun _ => none) (F42 (lo - 1) xq c (xq, ws) (k : Int) (i : Int)) = some (false, ()) := fun h => by
  have := ne h
  rw [kw _ (by omega) (by omega), decide_eq_false (by omega)]
 have fhh : (hh == (1000000 : Int)) = false → run (fun _ => none) (F42 (hh + 1) xq c (xq, ws) (k : Int) (i : Int)) = some (false, ()) := fun h => by
  have := ne h
  rw [kw _ (by omega) (by omega), decide_eq_false (by omega)]
 have fql : (ql == (1 : Int)) = false → run (fun _ => none) (F42 (ws.getD i 0) (ql - 1) c (xq, ws) (k : Int) (i : Int)) = some (false, ()) := fun h => by
  have := ne h
  rw [kq _ (by omega) (by omega), decide_eq_false (by omega)]
 have fqh : (qh == (10000000 : Int)) = false → run (fun _ => none) (F42 (ws.getD i 0) (qh + 1) c (xq, ws) (k : Int) (i : Int)) = some (false, ()) := fun h => by
  have := ne h
  rw [kq _ (by omega) (by omega), decide_eq_false (by omega)]
 clear kw kq e31 e33
 have nf : ∀ {X : Type} {x y : Option X}, brO (!false) x y = x := fun {X x y} => by rw [br_not, brO_false]
 repeat' first
  | exact wk
  | rw [need_inb (by omega) (by omega)]
  | rw [need_i64 (by omega) (by omega)]
  | (rw [bind_of (flo (by assumption))]; dsimp only; rw [nf])
  | (rw [bind_of (fhh (by assumption))]; dsimp only; rw [nf])
  | (rw [bind_of (fql (by assumption))]; dsimp only; rw [nf])
  | (rw [bind_of (fqh (by assumption))]; dsimp only; rw [nf])
  | refine br_both (fun _ => ?_) (fun _ => ?_)
end Go.Proofs.Tryd
end
