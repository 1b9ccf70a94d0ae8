/- The known week, reckoned through. Rounds over a list, with a function that says what comes out. Plain Lean. A week is valid: program and reference say the same. A week is valid: program and reference say the same. The reference's check of a week. What a valid week is. Sugar: program and reference. Sugar: program and reference say the same. Sugar: program and reference say the same; the law. -/
import Derived.Test.YtdhefcocaomhfaaW30
set_option linter.unusedVariables false
set_option linter.unusedSimpArgs false
section
namespace Go.Proofs.Try
open Go.AM
set_option maxRecDepth 100000
theorem works_ok : run0 F16 = some (true, ()) := cmp_done 200 (by kernel_rfl)
end Go.Proofs.Try
end
section
namespace Go.AM
theorem getD_mid {α : Type} {A B : List α} {x d : α} {n : Nat} (h : n = A.length) : (A ++ x :: B).getD n d = x := by
 subst h; simp [List.getD_eq_getElem?_getD]
/-- Rounds over the items of a list: 'G' says what comes out of a state and the items that are left. -/
theorem iter_list {A B S X : Type} {f : A → Option (A ⊕ B)} (xs : List X) (mk : Nat → S → A) (G : S → List X → B) (Inv : List X → S → Prop)
  (hs : ∀ pre x post s, xs = pre ++ x :: post → Inv pre s →
   (∃ s', f (mk pre.length s) = some (.inl (mk (pre.length + 1) s')) ∧ Inv (pre ++ [x]) s' ∧ G s (x :: post) = G s' post) ∨ f (mk pre.length s) = some (.inr (G s (x :: post))))
  (he : ∀ s, Inv xs s → f (mk xs.length s) = some (.inr (G s []))) {s : S} (h0 : Inv [] s) : iter f (mk 0 s) = some (G s xs) := by
 have key : ∀ (post pre : List X) (s : S), xs = pre ++ post → Inv pre s → iter f (mk pre.length s) = some (G s post) := by
  intro post
  induction post with
  | nil =>
   intro pre s hx hi
   have : pre = xs := by rw [hx]; simp
   subst this
   exact iter_inr (he s hi)
  | cons x post ih =>
   intro pre s hx hi
   rcases hs pre x post s hx hi with ⟨s', h1, h2, h3⟩ | h1
   ·refine iter_inl h1 ?_
    rw [h3]
    have := ih (pre ++ [x]) s' (by rw [hx]; simp) h2
    simpa using this
   ·exact iter_inr h1
 exact key xs [] s (by simp) h0
theorem bind_eq {A X : Type} {o : Option A} {a : A} {f : A → Option X} {y : Option X} (h : o = some a) (e : f a = y) : bindO o f = y := by rw [h, bindO_s, e]
theorem bigL_val : ((bigL : Nat) : Int) = 1073741824 := by decide
theorem need_inbig {X : Type} {i : Int} {x : Option X} (h : 0 ≤ i) (h2 : i < 1073741824) : need (inb i ((bigL : Nat) : Int)) x = x := need_inb h (by rw [bigL_val]; exact h2)
theorem need_lenbig {X : Type} {n : Nat} {x : Option X} (h : n < 1000000000) : need (decide (n < bigL)) x = x := need_d (by have := bigL_val; omega)
theorem br_true {X : Type} {x y : Option X} : brO true x y = x := by simp
theorem br_false {X : Type} {x y : Option X} : brO false x y = y := by simp
theorem br_if {X : Type} {c : Bool} {x y : Option X} : brO c x y = if c = true then x else y := by cases c <;> simp
end Go.AM
end
section
namespace Go.Proofs.Try
open Go.AM
set_option maxRecDepth 100000
abbrev Wk := Int × Int × Int × List (ByteArray × Int) × List (Int × Int × Int × Int)
theorem seq_eq (a b : ByteArray) : seq a b = decide (a = b) := by
 unfold seq
 rw [Go.ByteArray.toList_eq, Go.ByteArray.toList_eq]
 by_cases h : a = b
 ·subst h; simp
 ·rw [decide_eq_false h, beq_eq_false_iff_ne]
  intro e; apply h
  obtain ⟨x⟩ := a; obtain ⟨y⟩ := b
  simp at e; rw [e]
theorem deq_str (a b : ByteArray) : deq .str a b = decide (a = b) := by
 rw [← seq_eq]; simp only [deq, seq, Go.ByteArray.toList_eq]
theorem k65 (a b c : Int) : run0 (F65 a b c) = some (decide (a ≤ b ∧ b ≤ c), ()) := by
 simp only [F65, run_br, run_ret, br_d]
 split <;> simp [*]
theorem k68 (a b c : Int) : run0 (F68 a b c) = some (decide (b ≤ a ∧ a ≤ c), ()) := by
 simp only [F68, run_br, run_ret, br_d]
 split <;> simp [*]
theorem k49 (a b c : Int) : run0 (F49 a b c) = some (decide (b ≤ a ∧ a ≤ c), ()) := by
 simp only [F49, run_bd, run_ret, k68, bindO_s]
/-- A letter, or after the first place a digit. -/
def byteOk (i : Nat) (b : Int) : Bool := decide (97 ≤ b ∧ b ≤ 122) || decide (i ≠ 0 ∧ 48 ≤ b ∧ b ≤ 57)
def okL : Nat → List Int → Bool
 | _, [] => true
 | i, b :: r => byteOk i b && okL (i + 1) r
def nameOk (s : ByteArray) : Bool := okL 0 (bysL s) && decide (0 < s.size ∧ s.size ≤ 10)
theorem k67 (s : ByteArray) (hs : s.size < 1000000000) : run0 (F67 s) = some (nameOk s, ()) := by
 have hl : (bysL s).length = s.size := bysL_length s
 unfold F67
 simp only [run_bd, run_it]
 refine bind_eq (iter_list (bysL s) (fun k (_ : Nat) => (s, bysL s, ((bysL s).length : Int), (k : Int), ())) (fun i r => if okL i r = true then .inr (s, ()) else .inl ()) (fun pre i => i = pre.length) ?_ ?_ (s := 0) rfl) ?_
 ·intro pre x post i hx hi
  subst hi
  have hlen : (bysL s).length = pre.length + (post.length + 1) := by rw [hx]; simp
  have hd : (bysL s).getD pre.length 0 = x := by rw [hx]; exact getD_mid rfl
  have key : run (fun _ => none) (g67_0 (s, bysL s, ((bysL s).length : Int), (pre.length : Int), ())) = if byteOk pre.length x = true then some (.inl (s, bysL s, ((bysL s).length : Int), ((pre.length + 1 : Nat) : Int), ())) else some (.inr (.inl ())) := by
   simp only [g67_0, run_br, run_nb, run_ni, run_nd, run_ret, Int.toNat_natCast, hd, br_d, br_eq]
   rw [if_pos (by omega), need_inb (by omega) (by omega)]
   unfold byteOk; simp only [Bool.or_eq_true, decide_eq_true_eq]
   by_cases h1 : x < 97
   ·rw [if_pos h1]
    by_cases h2 : (pre.length : Int) = 0
    ·rw [if_pos h2, if_neg (by omega)]
    ·rw [if_neg h2]
     by_cases h3 : x < 48
     ·rw [if_pos h3, if_neg (by omega)]
     ·rw [if_neg h3]
      by_cases h4 : 57 < x
      ·rw [if_pos h4, if_neg (by omega)]
      ·rw [if_neg h4, if_pos, need_i64 (by omega) (by omega)]; · rfl
       omega
   ·rw [if_neg h1]
    by_cases h5 : 122 < x
    ·rw [if_pos h5]
     by_cases h2 : (pre.length : Int) = 0
     ·rw [if_pos h2, if_neg (by omega)]
     ·rw [if_neg h2]
      by_cases h3 : x < 48
      ·omega
      ·rw [if_neg h3, if_pos (by omega), if_neg (by omega)]
    ·rw [if_neg h5, if_pos, need_i64 (by omega) (by omega)]; · rfl
     omega
  rw [key]
  by_cases hb : byteOk pre.length x = true
  ·left
   exact ⟨pre.length + 1, by rw [if_pos hb], by simp, by simp [okL, hb]⟩
  ·right
   rw [if_neg hb]
   have : okL pre.length (x :: post) = false := by simp [okL, hb]
   simp [this]
 ·intro i _
  simp only [g67_0, run_br, br_d]
  rw [if_neg (by omega)]
  simp [okL, run_ret]
 ·unfold nameOk
  by_cases h : okL 0 (bysL s) = true
  ·rw [if_pos h, h]
   simp only [run_sr, run_br, run_ret, br_d]
   by_cases h0 : (0 : Int) < ((s.size : Nat) : Int)
   ·rw [if_pos h0, Bool.true_and]
    congr 2
    exact decide_eq_decide.2 (by omega)
   ·rw [if_neg h0]
    simp; omega
  ·rw [if_neg h]
   simp [h, run_sl, run_ret]
theorem k50 (s : ByteArray) : run0 (F50 s) = some (nameOk s, ()) := by
 have hl : (bysL s).length = s.size := bysL_length s
 unfold F50
 simp only [run_br, br_eq, br_d, run_ret]
 by_cases h0 : (s.size : Int) = 0
 ·rw [if_pos h0]; simp [nameOk]; omega
 rw [if_neg h0]
 by_cases h1 : (10 : Int) < (s.size : Int)
 ·rw [if_pos h1]; simp [nameOk]; omega
 rw [if_neg h1]
 simp only [run_bd, run_it]
 refine bind_eq (iter_list (bysL s) (fun k (_ : Nat) => (s, (k : Int), ())) (fun i r => if okL i r = true then .inr () else .inl ()) (fun pre i => i = pre.length) ?_ ?_ (s := 0) rfl) ?_
 ·intro pre x post i hx hi
  subst hi
  have hlen : (bysL s).length = pre.length + (post.length + 1) := by rw [hx]; simp
  have hd : satL s pre.length = x := by unfold satL; rw [hx]; exact getD_mid rfl
  have key : run (fun _ => none) (g50_0 (s, (pre.length : Int), ())) = if byteOk pre.length x = true then some (.inl (s, ((pre.length + 1 : Nat) : Int), ())) else some (.inr (.inl ())) := by
   have hin : inb (pre.length : Int) (s.size : Int) = true := inb_t (by omega) (by omega)
   have hni : rng .i64 ((pre.length : Int) + 1) = true := rng_i64 (by omega) (by omega)
   simp only [g50_0, run_br, run_nb, run_ni, run_nd, run_ret, Int.toNat_natCast, hd, br_d, br_eq, hin, hni, need_true, br_not]
   rw [if_pos (by omega)]
   unfold byteOk; simp only [Bool.or_eq_true, decide_eq_true_eq]
   by_cases h1 : 97 ≤ x
   ·rw [if_pos h1, if_pos (by omega)]
    by_cases h2 : x ≤ 122
    ·rw [if_pos h2, if_pos]; · rfl
     omega
    ·rw [if_neg h2, if_neg (by omega), if_neg (by omega)]
   ·rw [if_neg h1]
    by_cases h3 : 48 ≤ x
    ·rw [if_pos h3]
     by_cases h4 : x ≤ 57
     ·rw [if_pos h4]
      by_cases h5 : (pre.length : Int) = 0
      ·rw [if_pos h5, if_neg (by omega)]
      ·rw [if_neg h5, if_pos]; · rfl
       omega
     ·rw [if_neg h4, if_neg (by omega)]
    ·rw [if_neg h3, if_neg (by omega)]
  rw [key]
  by_cases hb : byteOk pre.length x = true
  ·left
   exact ⟨pre.length + 1, by rw [if_pos hb], by simp, by simp [okL, hb]⟩
  ·right
   rw [if_neg hb]
   have : okL pre.length (x :: post) = false := by simp [okL, hb]
   simp [this]
 ·intro i _
  simp only [g50_0, run_br, br_d]
  rw [if_neg (by omega)]
  simp [okL, run_ret]
 ·unfold nameOk
  by_cases h : okL 0 (bysL s) = true
  ·rw [if_pos h, h]
   simp only [run_sr, run_ret]
   simp; omega
  ·rw [if_neg h]
   simp [h, run_sl, run_ret]
end Go.Proofs.Try
end
section
namespace Go.Proofs.Try
open Go.AM
set_option maxRecDepth 100000
theorem mget_mset {d v : Bool} (k k' : ByteArray) : ∀ m : List (ByteArray × Bool), mgetL .str d (msetL .str m k v) k' = if k' = k then v else mgetL .str d m k'
 | [] => by
  simp only [msetL, mgetL, deq_str, decide_eq_true_eq]
 | e :: r => by
  have ih := mget_mset (d := d) (v := v) k k' r
  simp only [msetL, deq_str, decide_eq_true_eq]
  by_cases h : k = e.1
  ·rw [if_pos h]
   simp only [mgetL, deq_str, decide_eq_true_eq]
   by_cases h2 : k' = k
   ·rw [if_pos h2, if_pos h2]
   ·rw [if_neg h2, if_neg h2, if_neg (by rw [← h]; exact h2)]
  ·rw [if_neg h]
   simp only [mgetL, deq_str, decide_eq_true_eq]
   rw [ih]
   by_cases h2 : k' = e.1
   ·rw [if_pos h2, if_pos h2, if_neg (by rw [h2]; exact fun e => h e.symm)]
   ·rw [if_neg h2, if_neg h2]
def memS (k : ByteArray) (s : List ByteArray) : Bool := s.any fun x => decide (x = k)
theorem memS_iff {k : ByteArray} {s : List ByteArray} : memS k s = true ↔ k ∈ s := by simp [memS]
/-- Farmers. -/
def chkF : List ByteArray → List (ByteArray × Int) → Int
 | _, [] => 0
 | seen, f :: r => if nameOk f.1 = false then 8 else if memS f.1 seen = true then 6 else if ¬ (0 ≤ f.2 ∧ f.2 ≤ 1000000000) then 2 else chkF (seen ++ [f.1]) r
/-- Wagons. -/
def chkW (n : Int) : List (Int × Int × Int × Int) → Int
 | [] => 0
 | x :: r => if ¬ (0 ≤ x.1 ∧ x.1 ≤ n - 1) then 5 else if ¬ (0 ≤ x.2.1 ∧ x.2.1 ≤ 100000) then 2 else if ¬ (0 ≤ x.2.2.1 ∧ x.2.2.1 ≤ x.2.1) then 2 else if ¬ (0 ≤ x.2.2.2 ∧ x.2.2.2 ≤ 1000) then 2 else chkW n r
def chk0 (w : Wk) : Int := if ¬ (0 ≤ w.1 ∧ w.1 ≤ 1000000000) then 2 else if ¬ (0 ≤ w.2.1 ∧ w.2.1 ≤ 1000) then 2 else if ¬ (0 ≤ w.2.2.1 ∧ w.2.2.1 ≤ 1000) then 2 else 0
def chk1 (w : Wk) : Int := if w.2.2.2.1.length = 0 then 4 else if 12 < w.2.2.2.1.length then 1 else chkF [] w.2.2.2.1
def chk2 (w : Wk) : Int := if 50 < w.2.2.2.2.length then 1 else chkW w.2.2.2.1.length w.2.2.2.2
def chk (w : Wk) : Int := if chk0 w ≠ 0 then chk0 w else if chk1 w ≠ 0 then chk1 w else chk2 w
def Names (w : Wk) : Prop := ∀ f ∈ w.2.2.2.1, f.1.size < 1000000000
theorem k46 (w : Wk) : run0 (F46 w) = some (chk0 w, ()) := by
 simp only [F46, run_bd, run_br, run_ret, k65, bindO_s, br_not, br_d, chk0]
 by_cases h1 : 0 ≤ w.1 ∧ w.1 ≤ 1000000000
 ·rw [if_pos h1, if_neg (not_not_intro h1)]
  by_cases h2 : 0 ≤ w.2.1 ∧ w.2.1 ≤ 1000
  ·rw [if_pos h2, if_neg (not_not_intro h2)]
   by_cases h3 : 0 ≤ w.2.2.1 ∧ w.2.2.1 ≤ 1000
   ·rw [if_pos h3, if_neg (not_not_intro h3)]
   ·rw [if_neg h3, if_pos h3]
  ·rw [if_neg h2, if_pos h2]
 ·rw [if_neg h1, if_pos h1]
theorem k47 (w : Wk) (hn : Names w) : run0 (F47 w) = some (chk1 w, ()) := by
 simp only [F47, run_br, run_ret, br_eq, br_d, chk1]
 by_cases h0 : w.2.2.2.1.length = 0
 ·rw [if_pos (by omega), if_pos h0]
 rw [if_neg (by omega), if_neg h0]
 by_cases h1 : 12 < w.2.2.2.1.length
 ·rw [if_pos (by omega), if_pos h1]
 rw [if_neg (by omega), if_neg h1]
 simp only [run_bd, run_it]
 refine bind_eq (iter_list w.2.2.2.1 (fun k (s : List ByteArray × List (ByteArray × Bool)) => (w.2.2.2.1, ((w.2.2.2.1.length : Nat) : Int), (k : Int), s.2, ())) (fun s r => if chkF s.1 r = 0 then .inr () else .inl (chkF s.1 r, ()))
  (fun pre s => s.1 = pre.map (·.1) ∧ ∀ k, mgetL .str false s.2 k = memS k s.1) ?_ ?_ (s := ([], [])) ⟨rfl, fun k => by simp [mgetL, memS]⟩) ?_
 ·rintro pre x post ⟨s, m⟩ hx ⟨hi, hm⟩
  simp only at hi hm
  have hlen : w.2.2.2.1.length = pre.length + (post.length + 1) := by rw [hx]; simp
  have hd : w.2.2.2.1.getD pre.length (bs [], (0 : Int)) = x := by rw [hx]; exact getD_mid rfl
  have hxn : x.1.size < 1000000000 := hn x (by rw [hx]; simp)
  have key : run (fun _ => none) (g47_0 (w.2.2.2.1, ((w.2.2.2.1.length : Nat) : Int), (pre.length : Int), m, ())) =
    if nameOk x.1 = false then some (.inr (.inl (8, ()))) else if memS x.1 s = true then some (.inr (.inl (6, ()))) else if ¬ (0 ≤ x.2 ∧ x.2 ≤ 1000000000) then some (.inr (.inl (2, ()))) else
     some (.inl (w.2.2.2.1, ((w.2.2.2.1.length : Nat) : Int), ((pre.length + 1 : Nat) : Int), msetL .str m x.1 true, ())) := by
   have hin : inb (pre.length : Int) ((w.2.2.2.1.length : Nat) : Int) = true := inb_t (by omega) (by omega)
   have hni : rng .i64 ((pre.length : Int) + 1) = true := rng_i64 (by omega) (by omega)
   simp only [g47_0, run_bd, run_br, run_nb, run_ni, run_nd, run_ret, Int.toNat_natCast, hd, br_d, br_eq, hin, hni, need_true, br_not, k67 _ hxn, k65, bindO_s, hm]
   rw [if_pos (by omega)]
   cases hb : nameOk x.1
   ·simp
   ·simp only [br_true, Bool.true_eq_false, if_false]
    by_cases h2 : memS x.1 s = true
    ·rw [br_if, if_pos h2, if_pos h2]
    ·rw [br_if, if_neg h2, if_neg h2]
     by_cases h3 : 0 ≤ x.2 ∧ x.2 ≤ 1000000000
     ·rw [if_pos h3, if_neg (not_not_intro h3)]; rfl
     ·rw [if_neg h3, if_pos h3]
  rw [key]
  simp only [chkF]
  by_cases c1 : nameOk x.1 = false
  ·right; simp only [if_pos c1]; simp
  simp only [if_neg c1]
  by_cases c2 : memS x.1 s = true
  ·right; simp only [if_pos c2]; simp
  simp only [if_neg c2]
  by_cases c3 : ¬ (0 ≤ x.2 ∧ x.2 ≤ 1000000000)
  ·right; simp only [if_pos c3]; simp
  simp only [if_neg c3]
  left
  refine ⟨(s ++ [x.1], msetL .str m x.1 true), rfl, ⟨by simp [hi], fun k => ?_⟩, rfl⟩
  rw [mget_mset, hm]
  by_cases hk : k = x.1
  ·simp [hk, memS]
  ·rw [if_neg hk]
   have : ¬ x.1 = k := fun e => hk e.symm
   simp [memS, this]
 ·rintro ⟨s, m⟩ _
  simp only [g47_0, run_br, br_d]
  rw [if_neg (by omega)]
  simp [chkF, run_ret]
 ·by_cases h : chkF [] w.2.2.2.1 = 0
  ·simp only [h, if_true, run_sr, run_ret]
  ·simp only [h, if_false, run_sl, run_ret]
theorem k48 (w : Wk) (h12 : w.2.2.2.1.length ≤ 1000000000) : run0 (F48 w) = some (chk2 w, ()) := by
 simp only [F48, run_br, run_ret, br_eq, br_d, chk2]
 by_cases h1 : 50 < w.2.2.2.2.length
 ·rw [if_pos (by omega), if_pos h1]
 rw [if_neg (by omega), if_neg h1]
 simp only [run_bd, run_it]
 refine bind_eq (iter_list w.2.2.2.2 (fun k (_ : Unit) => (w.2.2.2.2, ((w.2.2.2.2.length : Nat) : Int), (k : Int), w.1, w.2.1, w.2.2.1, w.2.2.2.1, w.2.2.2.2, ())) (fun _ r => if chkW w.2.2.2.1.length r = 0 then .inr () else .inl (chkW w.2.2.2.1.length r, ()))
  (fun pre s => True) ?_ ?_ (s := ()) trivial) ?_
 ·rintro pre x post _ hx -
  have hlen : w.2.2.2.2.length = pre.length + (post.length + 1) := by rw [hx]; simp
  have hd : w.2.2.2.2.getD pre.length ((0 : Int), ((0 : Int), ((0 : Int), (0 : Int)))) = x := by rw [hx]; exact getD_mid rfl
  have key : run (fun _ => none) (g48_0 (w.2.2.2.2, ((w.2.2.2.2.length : Nat) : Int), (pre.length : Int), w.1, w.2.1, w.2.2.1, w.2.2.2.1, w.2.2.2.2, ())) =
    if ¬ (0 ≤ x.1 ∧ x.1 ≤ (w.2.2.2.1.length : Int) - 1) then some (.inr (.inl (5, ()))) else if ¬ (0 ≤ x.2.1 ∧ x.2.1 ≤ 100000) then some (.inr (.inl (2, ()))) else if ¬ (0 ≤ x.2.2.1 ∧ x.2.2.1 ≤ x.2.1) then some (.inr (.inl (2, ()))) else
     if ¬ (0 ≤ x.2.2.2 ∧ x.2.2.2 ≤ 1000) then some (.inr (.inl (2, ()))) else some (.inl (w.2.2.2.2, ((w.2.2.2.2.length : Nat) : Int), ((pre.length + 1 : Nat) : Int), w.1, w.2.1, w.2.2.1, w.2.2.2.1, w.2.2.2.2, ())) := by
   have hin : inb (pre.length : Int) ((w.2.2.2.2.length : Nat) : Int) = true := inb_t (by omega) (by omega)
   have hni : rng .i64 ((pre.length : Int) + 1) = true := rng_i64 (by omega) (by omega)
   have hn1 : rng .i64 ((w.2.2.2.1.length : Int) - 1) = true := rng_i64 (by omega) (by omega)
   simp only [g48_0, run_bd, run_br, run_nb, run_ni, run_nd, run_ret, Int.toNat_natCast, hd, br_d, br_eq, hin, hni, hn1, need_true, br_not, k65, bindO_s, ite_not]
   rw [if_pos (by omega)]
   rfl
  rw [key]
  simp only [chkW]
  by_cases c1 : ¬ (0 ≤ x.1 ∧ x.1 ≤ (w.2.2.2.1.length : Int) - 1)
  ·right; simp only [if_pos c1]; simp
  simp only [if_neg c1]
  by_cases c2 : ¬ (0 ≤ x.2.1 ∧ x.2.1 ≤ 100000)
  ·right; simp only [if_pos c2]; simp
  simp only [if_neg c2]
  by_cases c3 : ¬ (0 ≤ x.2.2.1 ∧ x.2.2.1 ≤ x.2.1)
  ·right; simp only [if_pos c3]; simp
  simp only [if_neg c3]
  by_cases c4 : ¬ (0 ≤ x.2.2.2 ∧ x.2.2.2 ≤ 1000)
  ·right; simp only [if_pos c4]; simp
  simp only [if_neg c4]
  left
  refine ⟨(), ?_⟩; simp
 ·rintro _ _
  simp only [g48_0, run_br, br_d]
  rw [if_neg (by omega)]
  simp [chkW, run_ret]
 ·by_cases h : chkW w.2.2.2.1.length w.2.2.2.2 = 0
  ·simp only [h, if_true, run_sr, run_ret]
  ·simp only [h, if_false, run_sl, run_ret]
theorem k22 (w : Wk) (hn : Names w) : run0 (F22 w) = some (chk w, ()) := by
 have hni1 : rng .i64 ((0 : Int) + 1) = true := rng_i64 (by omega) (by omega)
 have hni2 : rng .i64 ((1 : Int) + 1) = true := rng_i64 (by omega) (by omega)
 have hni3 : rng .i64 ((2 : Int) + 1) = true := rng_i64 (by omega) (by omega)
 simp only [F22, run_br, run_bd, run_ret, br_d, k46, k47 w hn, bindO_s, br_not, br_eq, run_ni, hni1, hni2, hni3, need_true]
 rw [if_pos (by omega)]
 unfold chk
 by_cases h0 : chk0 w = 0
 ·simp only [h0, if_true, ne_eq, not_true, if_false]
  rw [if_pos (by omega)]
  by_cases h1 : chk1 w = 0
  ·simp only [h1, if_true, not_true, if_false]
   rw [if_pos (by omega)]
   have h12 : w.2.2.2.1.length ≤ 1000000000 := by
    unfold chk1 at h1
    split at h1; · omega
    split at h1 <;> omega
   simp only [k48 w h12, bindO_s]
   by_cases h2 : chk2 w = 0
   ·simp only [h2, if_true]; rw [if_neg (by omega)]
   ·simp only [h2, if_false]
  ·simp only [h1, if_false, not_false_eq_true, if_true]
 ·simp only [h0, if_false, ne_eq, not_false_eq_true, if_true]
end Go.Proofs.Try
end
section
namespace Go.Proofs.Try
open Go.AM
set_option maxRecDepth 100000
theorem k23 (w : Wk) : run0 (F23 w) = some (chk w, ()) := by
 simp only [F23, run_bd, run_br, run_ret, k49, bindO_s, br_not, br_d, br_eq, run_it]
 unfold chk chk0
 by_cases h1 : 0 ≤ w.1 ∧ w.1 ≤ 1000000000
 case neg => rw [if_neg h1, if_pos h1]; simp
 rw [if_pos h1]
 simp only [if_neg (not_not_intro h1)]
 by_cases h2 : 0 ≤ w.2.1 ∧ w.2.1 ≤ 1000
 case neg => simp only [if_neg h2, if_pos h2]; simp
 simp only [if_pos h2, if_neg (not_not_intro h2)]
 by_cases h3 : 0 ≤ w.2.2.1 ∧ w.2.2.1 ≤ 1000
 case neg => simp only [if_neg h3, if_pos h3]; simp
 simp only [if_pos h3, if_neg (not_not_intro h3), ne_eq, not_true, if_false]
 unfold chk1
 by_cases h4 : w.2.2.2.1.length = 0
 ·rw [if_pos (by omega), if_pos h4]; simp
 rw [if_neg (by omega), if_neg h4]
 by_cases h5 : 12 < w.2.2.2.1.length
 ·rw [if_pos (by omega), if_pos h5]; simp
 rw [if_neg (by omega), if_neg h5]
 refine bind_eq (iter_list w.2.2.2.1 (fun k (_ : List ByteArray) => ((k : Int), w.1, w.2.1, w.2.2.1, w.2.2.2.1, w.2.2.2.2, ())) (fun s r => if chkF s r = 0 then .inr (w.1, w.2.1, w.2.2.1, w.2.2.2.1, w.2.2.2.2, ()) else .inl (chkF s r, ()))
  (fun pre s => s = pre.map (·.1)) ?_ ?_ (s := []) rfl) ?_
 ·rintro pre x post s hx hi
  have hlen : w.2.2.2.1.length = pre.length + (post.length + 1) := by rw [hx]; simp
  have hd : w.2.2.2.1.getD pre.length (bs [], (0 : Int)) = x := by rw [hx]; exact getD_mid rfl
  have inner : run (fun _ => none) (.it g23_1 ((pre.length : Int), (0 : Int), w.1, w.2.1, w.2.2.1, w.2.2.2.1, w.2.2.2.2, x.1, x.2, ())) = some (if memS x.1 s = true then .inl (6, ()) else .inr ((pre.length : Int), w.1, w.2.1, w.2.2.1, w.2.2.2.1, w.2.2.2.2, x.1, x.2, ())) := by
   rw [hi]
   refine iter_list (f := fun a => run (fun _ => none) (g23_1 a)) pre (fun k (_ : Unit) => ((pre.length : Int), (k : Int), w.1, w.2.1, w.2.2.1, w.2.2.2.1, w.2.2.2.2, x.1, x.2, ())) (fun _ r => if memS x.1 (r.map (·.1)) = true then .inl (6, ()) else .inr ((pre.length : Int), w.1, w.2.1, w.2.2.1, w.2.2.2.1, w.2.2.2.2, x.1, x.2, ()))
    (fun _ _ => True) ?_ ?_ (s := ()) trivial
   ·rintro p y q _ hp -
    have hpl : pre.length = p.length + (q.length + 1) := by rw [hp]; simp
    have hdy : w.2.2.2.1.getD p.length (bs [], (0 : Int)) = y := by rw [hx, hp, List.append_assoc]; exact getD_mid rfl
    have hin : inb (p.length : Int) ((w.2.2.2.1.length : Nat) : Int) = true := inb_t (by omega) (by omega)
    have hni : rng .i64 ((p.length : Int) + 1) = true := rng_i64 (by omega) (by omega)
    simp only [g23_1, run_br, run_nb, run_ni, run_nd, run_ret, Int.toNat_natCast, hdy, br_d, hin, hni, need_true, seq_eq]
    rw [if_pos (by omega)]
    by_cases hy : y.1 = x.1
    ·right; rw [if_pos hy]; simp [memS, hy]
    ·left
     refine ⟨(), ?_⟩
     have e : memS x.1 ((y :: q).map (·.1)) = memS x.1 (q.map (·.1)) := by simp [memS, hy]
     rw [if_neg hy, e]; simp
   ·rintro _ _
    simp only [g23_1, run_br, br_d]
    rw [if_neg (by omega)]
    simp [memS, run_ret]
  have key : run (fun _ => none) (g23_0 ((pre.length : Int), w.1, w.2.1, w.2.2.1, w.2.2.2.1, w.2.2.2.2, ())) =
    if nameOk x.1 = false then some (.inr (.inl (8, ()))) else if memS x.1 s = true then some (.inr (.inl (6, ()))) else if ¬ (0 ≤ x.2 ∧ x.2 ≤ 1000000000) then some (.inr (.inl (2, ()))) else
     some (.inl (((pre.length + 1 : Nat) : Int), w.1, w.2.1, w.2.2.1, w.2.2.2.1, w.2.2.2.2, ())) := by
   have hin : inb (pre.length : Int) ((w.2.2.2.1.length : Nat) : Int) = true := inb_t (by omega) (by omega)
   have hni : rng .i64 ((pre.length : Int) + 1) = true := rng_i64 (by omega) (by omega)
   simp only [g23_0, run_bd, run_br, run_nb, run_nd, run_ret, Int.toNat_natCast, hd, br_d, br_eq, hin, need_true, br_not, k50, k49, bindO_s, inner]
   rw [if_pos (by omega)]
   cases hb : nameOk x.1
   ·simp
   ·simp only [br_true, Bool.true_eq_false, if_false]
    by_cases h2 : memS x.1 s = true
    ·simp only [h2, if_true, run_sl, run_ret]
    ·simp only [if_neg h2, run_sr, run_bd, k49, bindO_s, run_br, br_not, br_d, run_ni, hni, need_true, run_ret]
     by_cases h3 : 0 ≤ x.2 ∧ x.2 ≤ 1000000000
     ·rw [if_pos h3, if_neg (not_not_intro h3)]; rfl
     ·rw [if_neg h3, if_pos h3]
  rw [key]
  simp only [chkF]
  by_cases c1 : nameOk x.1 = false
  ·right; simp only [if_pos c1]; simp
  simp only [if_neg c1]
  by_cases c2 : memS x.1 s = true
  ·right; simp only [if_pos c2]; simp
  simp only [if_neg c2]
  by_cases c3 : ¬ (0 ≤ x.2 ∧ x.2 ≤ 1000000000)
  ·right; simp only [if_pos c3]; simp
  simp only [if_neg c3]
  left
  refine ⟨s ++ [x.1], ?_⟩; simp [hi]
 ·rintro s _
  simp only [g23_0, run_br, br_d]
  rw [if_neg (by omega)]
  simp [chkF, run_ret]
 by_cases h : chkF [] w.2.2.2.1 = 0
 case neg => simp only [h, if_false, run_sl, run_ret, not_false_eq_true, if_true]
 simp only [h, if_true, run_sr, run_bd, run_br, run_it, run_ret, br_d, not_true, if_false]
 unfold chk2
 by_cases h6 : 50 < w.2.2.2.2.length
 ·rw [if_pos (by omega), if_pos h6]
 rw [if_neg (by omega), if_neg h6]
 refine bind_eq (iter_list w.2.2.2.2 (fun k (_ : Unit) => ((k : Int), w.1, w.2.1, w.2.2.1, w.2.2.2.1, w.2.2.2.2, ())) (fun _ r => if chkW w.2.2.2.1.length r = 0 then .inr () else .inl (chkW w.2.2.2.1.length r, ()))
  (fun pre s => True) ?_ ?_ (s := ()) trivial) ?_
 ·rintro pre x post _ hx -
  have hlen : w.2.2.2.2.length = pre.length + (post.length + 1) := by rw [hx]; simp
  have hd : w.2.2.2.2.getD pre.length ((0 : Int), ((0 : Int), ((0 : Int), (0 : Int)))) = x := by rw [hx]; exact getD_mid rfl
  have key : run (fun _ => none) (g23_2 ((pre.length : Int), w.1, w.2.1, w.2.2.1, w.2.2.2.1, w.2.2.2.2, ())) =
    if ¬ (0 ≤ x.1 ∧ x.1 ≤ (w.2.2.2.1.length : Int) - 1) then some (.inr (.inl (5, ()))) else if ¬ (0 ≤ x.2.1 ∧ x.2.1 ≤ 100000) then some (.inr (.inl (2, ()))) else if ¬ (0 ≤ x.2.2.1 ∧ x.2.2.1 ≤ x.2.1) then some (.inr (.inl (2, ()))) else
     if ¬ (0 ≤ x.2.2.2 ∧ x.2.2.2 ≤ 1000) then some (.inr (.inl (2, ()))) else some (.inl (((pre.length + 1 : Nat) : Int), w.1, w.2.1, w.2.2.1, w.2.2.2.1, w.2.2.2.2, ())) := by
   have hin : inb (pre.length : Int) ((w.2.2.2.2.length : Nat) : Int) = true := inb_t (by omega) (by omega)
   have hni : rng .i64 ((pre.length : Int) + 1) = true := rng_i64 (by omega) (by omega)
   have hn1 : rng .i64 ((w.2.2.2.1.length : Int) - 1) = true := rng_i64 (by omega) (by omega)
   simp only [g23_2, run_bd, run_br, run_nb, run_ni, run_nd, run_ret, Int.toNat_natCast, hd, br_d, br_eq, hin, hni, hn1, need_true, br_not, k49, bindO_s, ite_not]
   rw [if_pos (by omega)]
   rfl
  rw [key]
  simp only [chkW]
  by_cases c1 : ¬ (0 ≤ x.1 ∧ x.1 ≤ (w.2.2.2.1.length : Int) - 1)
  ·right; simp only [if_pos c1]; simp
  simp only [if_neg c1]
  by_cases c2 : ¬ (0 ≤ x.2.1 ∧ x.2.1 ≤ 100000)
  ·right; simp only [if_pos c2]; simp
  simp only [if_neg c2]
  by_cases c3 : ¬ (0 ≤ x.2.2.1 ∧ x.2.2.1 ≤ x.2.1)
  ·right; simp only [if_pos c3]; simp
  simp only [if_neg c3]
  by_cases c4 : ¬ (0 ≤ x.2.2.2 ∧ x.2.2.2 ≤ 1000)
  ·right; simp only [if_pos c4]; simp
  simp only [if_neg c4]
  left
  refine ⟨(), ?_⟩; simp
 ·rintro _ _
  simp only [g23_2, run_br, br_d]
  rw [if_neg (by omega)]
  simp [chkW, run_ret]
 ·by_cases h : chkW w.2.2.2.1.length w.2.2.2.2 = 0
  ·simp only [h, if_true, run_sr, run_ret]
  ·simp only [h, if_false, run_sl, run_ret]
end Go.Proofs.Try
end
section
namespace Go.Proofs.Try
open Go.AM
structure OkW (w : Wk) : Prop where
 pot : 0 ≤ w.1 ∧ w.1 ≤ 1000000000
 scale : 0 ≤ w.2.1 ∧ w.2.1 ≤ 1000
 lab : 0 ≤ w.2.2.1 ∧ w.2.2.1 ≤ 1000
 some : 0 < w.2.2.2.1.length
 many : w.2.2.2.1.length ≤ 12
 cap : ∀ f ∈ w.2.2.2.1, 0 ≤ f.2 ∧ f.2 ≤ 1000000000
 name : ∀ f ∈ w.2.2.2.1, nameOk f.1 = true
 twice : (w.2.2.2.1.map (·.1)).Nodup
 wagons : w.2.2.2.2.length ≤ 50
 wagon : ∀ x ∈ w.2.2.2.2, 0 ≤ x.1 ∧ x.1 < w.2.2.2.1.length ∧ 0 ≤ x.2.2.1 ∧ x.2.2.1 ≤ x.2.1 ∧ x.2.1 ≤ 100000 ∧ 0 ≤ x.2.2.2 ∧ x.2.2.2 ≤ 1000
theorem chkF_ok : ∀ {fs : List (ByteArray × Int)} {seen : List ByteArray}, chkF seen fs = 0 → (∀ f ∈ fs, nameOk f.1 = true ∧ f.1 ∉ seen ∧ 0 ≤ f.2 ∧ f.2 ≤ 1000000000) ∧ (fs.map (·.1)).Nodup
 | [], _, _ => by simp
 | f :: r, seen, h => by
  simp only [chkF] at h
  split at h; · omega
  split at h; · omega
  split at h; · omega
  rename_i h1 h2 h3
  rw [memS_iff] at h2
  obtain ⟨q1, q2⟩ := chkF_ok h
  refine ⟨fun g hg => ?_, ?_⟩
  ·rcases List.mem_cons.1 hg with rfl | hg
   ·exact ⟨by simpa using h1, h2, by omega, by omega⟩
   ·obtain ⟨a, b, c⟩ := q1 g hg
    exact ⟨a, fun e => b (by simp [e]), c⟩
  ·rw [List.map_cons, List.nodup_cons]
   refine ⟨fun hm => ?_, q2⟩
   obtain ⟨g, hg, e⟩ := List.mem_map.1 hm
   exact (q1 g hg).2.1 (by simp [e])
theorem chkW_ok {n : Int} : ∀ {ws : List (Int × Int × Int × Int)}, chkW n ws = 0 → ∀ x ∈ ws, 0 ≤ x.1 ∧ x.1 < n ∧ 0 ≤ x.2.2.1 ∧ x.2.2.1 ≤ x.2.1 ∧ x.2.1 ≤ 100000 ∧ 0 ≤ x.2.2.2 ∧ x.2.2.2 ≤ 1000
 | [], _ => by simp
 | x :: r, h => by
  simp only [chkW] at h
  split at h; · omega
  split at h; · omega
  split at h; · omega
  split at h; · omega
  intro y hy
  rcases List.mem_cons.1 hy with rfl | hy
  ·omega
  ·exact chkW_ok h y hy
theorem chk_ok {w : Wk} (h : chk w = 0) : OkW w := by
 unfold chk at h
 split at h; · contradiction
 split at h; · contradiction
 rename_i h0 h1
 have h0 : chk0 w = 0 := by simpa using h0
 have h1 : chk1 w = 0 := by simpa using h1
 unfold chk0 at h0
 split at h0; · omega
 split at h0; · omega
 split at h0; · omega
 unfold chk1 at h1
 split at h1; · omega
 split at h1; · omega
 unfold chk2 at h
 split at h; · omega
 obtain ⟨q1, q2⟩ := chkF_ok h1
 exact ⟨by omega, by omega, by omega, by omega, by omega, fun f hf => (q1 f hf).2.2, fun f hf => (q1 f hf).1, q2, by omega, chkW_ok h⟩
/-- Sums of wagons, for each farmer. -/
def upd (h : Int × Int × Int × Int → Int) (l : List Int) (x : Int × Int × Int × Int) : List Int := l.set x.1.toNat (l.getD x.1.toNat 0 + h x)
def sugarL (h : Int × Int × Int × Int → Int) (n : Nat) (ws : List (Int × Int × Int × Int)) : List Int := ws.foldl (upd h) (List.replicate n 0)
theorem upd_len (h : Int × Int × Int × Int → Int) (l : List Int) (x : Int × Int × Int × Int) : (upd h l x).length = l.length := by simp [upd]
theorem foldl_upd_len (h : Int × Int × Int × Int → Int) : ∀ (ws : List (Int × Int × Int × Int)) (l : List Int), (ws.foldl (upd h) l).length = l.length
 | [], _ => rfl
 | x :: ws, l => by rw [List.foldl_cons, foldl_upd_len h ws, upd_len]
theorem sugarL_len (h : Int × Int × Int × Int → Int) (n : Nat) (ws : List (Int × Int × Int × Int)) : (sugarL h n ws).length = n := by
 rw [sugarL, foldl_upd_len, List.length_replicate]
/-- All are from 0 to b. -/
def Bd (b : Int) (l : List Int) : Prop := ∀ y ∈ l, 0 ≤ y ∧ y ≤ b
theorem Bd.getD {b : Int} {l : List Int} (h : Bd b l) (hb : 0 ≤ b) (k : Nat) : 0 ≤ l.getD k 0 ∧ l.getD k 0 ≤ b := by
 rw [List.getD_eq_getElem?_getD]
 by_cases hk : k < l.length
 ·rw [List.getElem?_eq_getElem hk]; exact h _ (List.getElem_mem hk)
 ·rw [List.getElem?_eq_none (by omega)]; simpa using hb
theorem Bd.mono {b c : Int} {l : List Int} (h : Bd b l) (hb : b ≤ c) : Bd c l := fun y hy => ⟨(h y hy).1, by have := (h y hy).2; omega⟩
theorem Bd.upd {b K : Int} {h : Int × Int × Int × Int → Int} {l : List Int} {x : Int × Int × Int × Int} (hl : Bd b l) (hb : 0 ≤ b) (hx : 0 ≤ h x ∧ h x ≤ K) : Bd (b + K) (upd h l x) := by
 intro y hy
 rcases List.mem_or_eq_of_mem_set hy with hy | hy
 ·have := hl y hy; omega
 ·have := hl.getD hb x.1.toNat; omega
theorem Bd.foldl {K : Int} {h : Int × Int × Int × Int → Int} : ∀ {ws : List (Int × Int × Int × Int)} {l : List Int} {b : Int}, Bd b l → 0 ≤ b → (∀ x ∈ ws, 0 ≤ h x ∧ h x ≤ K) → Bd (b + K * ws.length) (ws.foldl (Try.upd h) l)
 | [], l, b, hl, _, _ => by simpa using hl
 | x :: ws, l, b, hl, hb, hh => by
  have h1 := hh x (List.mem_cons_self ..)
  have := Bd.foldl (ws := ws) (Bd.upd hl hb h1) (by omega) (fun y hy => hh y (List.mem_cons_of_mem _ hy))
  rw [List.foldl_cons, List.length_cons]
  have e : b + K + K * (ws.length : Int) = b + K * ((ws.length + 1 : Nat) : Int) := by rw [Int.natCast_add, Int.mul_add]; omega
  rw [e] at this; exact this
/-- What a wagon brings: read; the least, the most. -/
def hRead (x : Int × Int × Int × Int) : Int := (x.2.1 - x.2.2.1) * x.2.2.2
def hLeast (w : Wk) (x : Int × Int × Int × Int) : Int := max 0 (x.2.1 - x.2.2.1 - 2 * w.2.1) * max 0 (x.2.2.2 - w.2.2.1)
def hMost (w : Wk) (x : Int × Int × Int × Int) : Int := (x.2.1 - x.2.2.1 + 2 * w.2.1) * min 1000 (x.2.2.2 + w.2.2.1)
def sRead (w : Wk) : List Int := sugarL hRead w.2.2.2.1.length w.2.2.2.2
def sLeast (w : Wk) : List Int := sugarL (hLeast w) w.2.2.2.1.length w.2.2.2.2
def sMost (w : Wk) : List Int := sugarL (hMost w) w.2.2.2.1.length w.2.2.2.2
theorem mul_bd {a b A B : Int} (h1 : 0 ≤ a) (h2 : a ≤ A) (h3 : 0 ≤ b) (h4 : b ≤ B) : 0 ≤ a * b ∧ a * b ≤ A * B :=
 ⟨Int.mul_nonneg h1 h3, Int.le_trans (Int.mul_le_mul_of_nonneg_right h2 h3) (Int.mul_le_mul_of_nonneg_left h4 (by omega))⟩
variable {w : Wk}
theorem OkW.hRead (h : OkW w) : ∀ x ∈ w.2.2.2.2, 0 ≤ hRead x ∧ hRead x ≤ 100000000 := fun x hx => by
 have := h.wagon x hx
 exact mul_bd (A := 100000) (B := 1000) (by omega) (by omega) (by omega) (by omega)
theorem OkW.hLeast (h : OkW w) : ∀ x ∈ w.2.2.2.2, 0 ≤ hLeast w x ∧ hLeast w x ≤ 100000000 := fun x hx => by
 have := h.wagon x hx
 have := h.scale; have := h.lab
 exact mul_bd (A := 100000) (B := 1000) (by omega) (by omega) (by omega) (by omega)
theorem OkW.hMost (h : OkW w) : ∀ x ∈ w.2.2.2.2, 0 ≤ hMost w x ∧ hMost w x ≤ 102000000 := fun x hx => by
 have := h.wagon x hx
 have := h.scale; have := h.lab
 exact mul_bd (A := 102000) (B := 1000) (by omega) (by omega) (by omega) (by omega)
end Go.Proofs.Try
end
section
namespace Go.Proofs.Try
open Go.AM
set_option maxRecDepth 100000
theorem imax_eq (a b : Int) : imax a b = max a b := by simp only [imax]; split <;> omega
theorem imin_eq (a b : Int) : imin a b = min a b := by simp only [imin]; split <;> omega
theorem k44 {a b : Int} (h : -9223372036854775808 ≤ a * b ∧ a * b ≤ 9223372036854775807) : run0 (F44 a b) = some (a * b, ()) := by
 simp only [F44, run_ni, run_ret]
 rw [need_i64 h.1 h.2]
theorem k42 {w : Wk} (hw : OkW w) {x : Int × Int × Int × Int} (hx : x ∈ w.2.2.2.2) : run0 (F42 w (x.2.1 - x.2.2.1) x.2.2.2) = some (hLeast w x, ()) := by
 have := hw.wagon x hx; have := hw.scale; have := hw.lab
 have h2 := hw.hLeast x hx
 simp only [F42, run_ni, run_ret, imax_eq]
 rw [need_i64 (by omega) (by omega), need_i64 (by omega) (by omega), need_i64 (by omega) (by omega), need_i64 (by unfold hLeast at h2; omega) (by unfold hLeast at h2; omega)]
 rfl
theorem k43 {w : Wk} (hw : OkW w) {x : Int × Int × Int × Int} (hx : x ∈ w.2.2.2.2) : run0 (F43 w (x.2.1 - x.2.2.1) x.2.2.2) = some (hMost w x, ()) := by
 have := hw.wagon x hx; have := hw.scale; have := hw.lab
 have h2 := hw.hMost x hx
 simp only [F43, run_ni, run_ret, imin_eq]
 rw [need_i64 (by omega) (by omega), need_i64 (by omega) (by omega), need_i64 (by omega) (by omega), need_i64 (by unfold hMost at h2; omega) (by unfold hMost at h2; omega)]
 rfl
theorem iter_sugar {A B : Type} {f : A → Option (A ⊕ B)} {h : Int × Int × Int × Int → Int} {K : Int} {n : Nat} {ws : List (Int × Int × Int × Int)} (mk : Nat → List Int → A) (out : List Int → B) (hb : ∀ x ∈ ws, 0 ≤ h x ∧ h x ≤ K)
  (hs : ∀ pre x post l, ws = pre ++ x :: post → l.length = n → Bd (K * pre.length) l → f (mk pre.length l) = some (.inl (mk (pre.length + 1) (upd h l x))))
  (he : ∀ l, f (mk ws.length l) = some (.inr (out l))) : iter f (mk 0 (List.replicate n 0)) = some (out (sugarL h n ws)) := by
 refine iter_list ws mk (fun l r => out (r.foldl (upd h) l)) (fun pre l => l.length = n ∧ Bd (K * pre.length) l) ?_ ?_ (s := List.replicate n 0) ⟨by simp, fun y hy => by simp at hy; simp; omega⟩
 ·rintro pre x post l hx ⟨h1, h2⟩
  left
  refine ⟨upd h l x, hs pre x post l hx h1 h2, ⟨by rw [upd_len, h1], ?_⟩, rfl⟩
  have hxx := hb x (by rw [hx]; simp)
  have := Bd.upd (h := h) (x := x) h2 (by
   have : 0 ≤ K := by omega
   exact Int.mul_nonneg this (by omega)) hxx
  have e : K * (pre.length : Int) + K = K * ((pre ++ [x]).length : Int) := by rw [List.length_append, List.length_cons, List.length_nil, Int.natCast_add, Int.mul_add]; omega
  rw [← e]; exact this
 ·rintro l _; exact he l
theorem small_mul {K : Int} {n : Nat} (h0 : 0 ≤ K) (hK : K ≤ 1000000000) (hn : n ≤ 100) : 0 ≤ K * (n : Int) ∧ K * (n : Int) ≤ 100000000000 := by
 have := mul_bd (a := K) (b := (n : Int)) (A := 1000000000) (B := 100) h0 hK (by omega) (by omega)
 omega
section
variable {w : Wk} (hw : OkW w)
include hw
theorem k41 : run0 (F41 w) = some (sRead w, ()) := by
 have hm := hw.many; have hwg := hw.wagons
 simp only [F41, run_nb, run_nd, run_bd, run_it, run_ret, Int.toNat_natCast]
 rw [need_inbig (by omega) (by omega)]
 refine bind_eq (iter_sugar (h := hRead) (K := 100000000) (n := w.2.2.2.1.length) (ws := w.2.2.2.2) (fun k l => (w.2.2.2.1.length, w.2.2.2.2, ((w.2.2.2.2.length : Nat) : Int), (k : Int), l, ())) (fun l => (w.2.2.2.1.length, l, ())) hw.hRead ?_ ?_) ?_
 ·intro pre x post l hx hl hb
  have hlen : w.2.2.2.2.length = pre.length + (post.length + 1) := by rw [hx]; simp
  have hd : w.2.2.2.2.getD pre.length ((0 : Int), ((0 : Int), ((0 : Int), (0 : Int)))) = x := by rw [hx]; exact getD_mid rfl
  have hxm : x ∈ w.2.2.2.2 := by rw [hx]; simp
  have hx1 := hw.wagon x hxm; have hx2 := hw.hRead x hxm
  have hsm := small_mul (K := 100000000) (n := pre.length) (by omega) (by omega) (by omega)
  have hg := hb.getD hsm.1 x.1.toNat
  have hin : inb (pre.length : Int) ((w.2.2.2.2.length : Nat) : Int) = true := inb_t (by omega) (by omega)
  have hin2 : inb x.1 ((w.2.2.2.1.length : Nat) : Int) = true := inb_t (by omega) (by omega)
  have hlt : decide (0 + x.1.toNat < l.length) = true := decide_eq_true (by omega)
  simp only [g41_0, run_br, run_nb, run_ni, run_nd, run_bd, run_ret, Int.toNat_natCast, hd, br_d, hin, hin2, hlt, need_true]
  rw [if_pos (by omega), need_i64 (by omega) (by omega)]
  simp only [k44 (a := x.2.1 - x.2.2.1) (b := x.2.2.2) (by unfold hRead at hx2; omega), bindO_s, Nat.zero_add]
  unfold hRead at hx2
  rw [need_i64 (by omega) (by omega), need_i64 (by omega) (by omega)]
  rfl
 ·intro l
  simp only [g41_0, run_br, br_d]
  rw [if_neg (by omega)]
  rfl
 ·simp only [List.drop_zero]
  rw [List.take_of_length_le (by rw [sugarL_len]; exact Nat.le_refl _)]
  rfl
theorem k41_v1 : run0 (F41_v1 w w) = some (sLeast w, ()) := by
 have hm := hw.many; have hwg := hw.wagons
 simp only [F41_v1, run_nb, run_nd, run_bd, run_it, run_ret, Int.toNat_natCast]
 rw [need_inbig (by omega) (by omega)]
 refine bind_eq (iter_sugar (h := hLeast w) (K := 100000000) (n := w.2.2.2.1.length) (ws := w.2.2.2.2) (fun k l => (w, w.2.2.2.1.length, w.2.2.2.2, ((w.2.2.2.2.length : Nat) : Int), (k : Int), l, ())) (fun l => (w.2.2.2.1.length, l, ())) hw.hLeast ?_ ?_) ?_
 ·intro pre x post l hx hl hb
  have hlen : w.2.2.2.2.length = pre.length + (post.length + 1) := by rw [hx]; simp
  have hd : w.2.2.2.2.getD pre.length ((0 : Int), ((0 : Int), ((0 : Int), (0 : Int)))) = x := by rw [hx]; exact getD_mid rfl
  have hxm : x ∈ w.2.2.2.2 := by rw [hx]; simp
  have hx1 := hw.wagon x hxm; have hx2 := hw.hLeast x hxm
  have hsm := small_mul (K := 100000000) (n := pre.length) (by omega) (by omega) (by omega)
  have hg := hb.getD hsm.1 x.1.toNat
  have hin : inb (pre.length : Int) ((w.2.2.2.2.length : Nat) : Int) = true := inb_t (by omega) (by omega)
  have hin2 : inb x.1 ((w.2.2.2.1.length : Nat) : Int) = true := inb_t (by omega) (by omega)
  have hlt : decide (0 + x.1.toNat < l.length) = true := decide_eq_true (by omega)
  simp only [g41_v1_0, run_br, run_nb, run_ni, run_nd, run_bd, run_ret, Int.toNat_natCast, hd, br_d, hin, hin2, hlt, need_true]
  rw [if_pos (by omega), need_i64 (by omega) (by omega)]
  simp only [k42 hw hxm, bindO_s, Nat.zero_add]
  rw [need_i64 (by omega) (by omega), need_i64 (by omega) (by omega)]
  rfl
 ·intro l
  simp only [g41_v1_0, run_br, br_d]
  rw [if_neg (by omega)]
  rfl
 ·simp only [List.drop_zero]
  rw [List.take_of_length_le (by rw [sugarL_len]; exact Nat.le_refl _)]
  rfl
theorem k41_v2 : run0 (F41_v2 w w) = some (sMost w, ()) := by
 have hm := hw.many; have hwg := hw.wagons
 simp only [F41_v2, run_nb, run_nd, run_bd, run_it, run_ret, Int.toNat_natCast]
 rw [need_inbig (by omega) (by omega)]
 refine bind_eq (iter_sugar (h := hMost w) (K := 102000000) (n := w.2.2.2.1.length) (ws := w.2.2.2.2) (fun k l => (w, w.2.2.2.1.length, w.2.2.2.2, ((w.2.2.2.2.length : Nat) : Int), (k : Int), l, ())) (fun l => (w.2.2.2.1.length, l, ())) hw.hMost ?_ ?_) ?_
 ·intro pre x post l hx hl hb
  have hlen : w.2.2.2.2.length = pre.length + (post.length + 1) := by rw [hx]; simp
  have hd : w.2.2.2.2.getD pre.length ((0 : Int), ((0 : Int), ((0 : Int), (0 : Int)))) = x := by rw [hx]; exact getD_mid rfl
  have hxm : x ∈ w.2.2.2.2 := by rw [hx]; simp
  have hx1 := hw.wagon x hxm; have hx2 := hw.hMost x hxm
  have hsm := small_mul (K := 102000000) (n := pre.length) (by omega) (by omega) (by omega)
  have hg := hb.getD hsm.1 x.1.toNat
  have hin : inb (pre.length : Int) ((w.2.2.2.2.length : Nat) : Int) = true := inb_t (by omega) (by omega)
  have hin2 : inb x.1 ((w.2.2.2.1.length : Nat) : Int) = true := inb_t (by omega) (by omega)
  have hlt : decide (0 + x.1.toNat < l.length) = true := decide_eq_true (by omega)
  simp only [g41_v2_0, run_br, run_nb, run_ni, run_nd, run_bd, run_ret, Int.toNat_natCast, hd, br_d, hin, hin2, hlt, need_true]
  rw [if_pos (by omega), need_i64 (by omega) (by omega)]
  simp only [k43 hw hxm, bindO_s, Nat.zero_add]
  rw [need_i64 (by omega) (by omega), need_i64 (by omega) (by omega)]
  rfl
 ·intro l
  simp only [g41_v2_0, run_br, br_d]
  rw [if_neg (by omega)]
  rfl
 ·simp only [List.drop_zero]
  rw [List.take_of_length_le (by rw [sugarL_len]; exact Nat.le_refl _)]
  rfl
end
end Go.Proofs.Try
end
section
namespace Go.Proofs.Try
open Go.AM
set_option maxRecDepth 100000
theorem zip_set {A B : Type} : ∀ (a : List A) (b : List B) (i : Nat) (x : A) (y : B), (a.zip b).set i (x, y) = (a.set i x).zip (b.set i y)
 | [], _, _, _, _ => by simp
 | _ :: _, [], _, _, _ => by cases ‹Nat› <;> simp
 | p :: a, q :: b, 0, x, y => by simp
 | p :: a, q :: b, i + 1, x, y => by simp [zip_set a b i x y]
theorem zip_getD {A B : Type} {a : List A} {b : List B} {i : Nat} {x : A} {y : B} (h1 : i < a.length) (h2 : i < b.length) : (a.zip b).getD i (x, y) = (a.getD i x, b.getD i y) := by
 simp only [List.getD_eq_getElem?_getD]
 rw [List.getElem?_eq_getElem h1, List.getElem?_eq_getElem h2, List.getElem?_eq_getElem (by rw [List.length_zip]; omega), List.getElem_zip]
 rfl
theorem getD_set_self {A : Type} {l : List A} {i : Nat} {x d : A} (h : i < l.length) : (l.set i x).getD i d = x := by
 simp [List.getD_eq_getElem?_getD, h]
/-- Small enough to be reckoned. -/
structure Sm (w : Wk) : Prop where
 fl : w.2.2.2.1.length ≤ 30
 wl : w.2.2.2.2.length ≤ 100
 nl : ∀ f ∈ w.2.2.2.1, f.1.size ≤ 100
theorem Sm.names {w : Wk} (h : Sm w) : Names w := fun f hf => by have := h.nl f hf; omega
theorem k15 (w : Wk) : ∃ b, run0 (F15 w) = some (b, ()) ∧ (b = false → Sm w) := by
 simp only [F15, run_br, run_bd, run_it, run_ret, br_d]
 by_cases h1 : 30 < w.2.2.2.1.length
 ·rw [if_pos (by omega)]; exact ⟨true, rfl, by simp⟩
 rw [if_neg (by omega)]
 by_cases h2 : 100 < w.2.2.2.2.length
 ·rw [if_pos (by omega)]; exact ⟨true, rfl, by simp⟩
 rw [if_neg (by omega)]
 have key := iter_list (f := fun a => run (fun _ => none) (g15_0 a)) w.2.2.2.1 (fun k (_ : Unit) => ((k : Int), w.1, w.2.1, w.2.2.1, w.2.2.2.1, w.2.2.2.2, ())) (fun _ r => if r.all (fun f => decide (f.1.size ≤ 100)) = true then .inr () else .inl ()) (fun _ _ => True) (by
  rintro pre x post _ hx -
  have hlen : w.2.2.2.1.length = pre.length + (post.length + 1) := by rw [hx]; simp
  have hd : w.2.2.2.1.getD pre.length (bs [], (0 : Int)) = x := by rw [hx]; exact getD_mid rfl
  have hin : inb (pre.length : Int) ((w.2.2.2.1.length : Nat) : Int) = true := inb_t (by omega) (by omega)
  have hni : rng .i64 ((pre.length : Int) + 1) = true := rng_i64 (by omega) (by omega)
  simp only [g15_0, run_br, run_nb, run_ni, run_nd, run_ret, Int.toNat_natCast, hd, br_d, hin, hni, need_true]
  rw [if_pos (by omega)]
  by_cases hs : 100 < x.1.size
  ·right
   rw [if_pos (by omega)]
   have : decide (x.1.size ≤ 100) = false := decide_eq_false (by omega)
   simp [this]
  ·left
   refine ⟨(), ?_⟩
   have : decide (x.1.size ≤ 100) = true := decide_eq_true (by omega)
   rw [if_neg (by omega)]
   simp only [List.all_cons, this, Bool.true_and]
   simp) (by
  rintro _ _
  simp only [g15_0, run_br, br_d]
  rw [if_neg (by omega)]
  simp [run_ret]) (s := ()) trivial
 by_cases hall : w.2.2.2.1.all (fun f => decide (f.1.size ≤ 100)) = true
 ·refine ⟨false, bind_eq key (by rw [if_pos hall]; rfl), fun _ => ⟨by omega, by omega, fun f hf => ?_⟩⟩
  simpa using List.all_eq_true.1 hall f hf
 ·exact ⟨true, bind_eq key (by rw [if_neg hall]; rfl), by simp⟩
theorem k19 (w : Wk) (h : Sm w) : run0 (F19 w) = some (w, ()) := by
 have h1 := h.fl; have h2 := h.wl
 simp only [F19, run_bd, run_it, run_ret]
 refine bind_eq (iter_list w.2.2.2.1 (fun k (l : List (ByteArray × Int)) => ((k : Int), w.1, w.2.1, w.2.2.1, w.2.2.2.1, w.2.2.2.2, (0 : Int), (0 : Int), (0 : Int), w.1, w.2.1, w.2.2.1, l.length, l, ())) (fun l r => (w.1, w.2.1, w.2.2.1, w.2.2.2.1, w.2.2.2.2, (0 : Int), (0 : Int), (0 : Int), w.1, w.2.1, w.2.2.1, (l ++ r).length, l ++ r, ())) (fun pre l => l = pre) ?_ ?_ (s := []) rfl) ?_
 ·rintro pre x post l hx rfl
  left
  have hlen : w.2.2.2.1.length = l.length + (post.length + 1) := by rw [hx]; simp
  have hd : w.2.2.2.1.getD l.length (bs [], (0 : Int)) = x := by rw [hx]; exact getD_mid rfl
  have hin : inb (l.length : Int) ((w.2.2.2.1.length : Nat) : Int) = true := inb_t (by omega) (by omega)
  have hni : rng .i64 ((l.length : Int) + 1) = true := rng_i64 (by omega) (by omega)
  refine ⟨l ++ [x], ?_, rfl, by simp⟩
  simp only [g19_0, run_br, run_nb, run_ni, run_nd, run_ret, Int.toNat_natCast, hd, br_d, hin, hni, need_true, List.drop_zero, List.take_length, List.take_succ_cons, List.take_zero, List.length_cons, List.length_nil, Nat.zero_add]
  rw [if_pos (by omega), need_lenbig (by omega)]
  simp
 ·rintro l rfl
  simp only [g19_0, run_br, br_d]
  rw [if_neg (by omega)]
  simp [run_ret]
 simp only [List.nil_append]
 refine bind_eq (iter_list w.2.2.2.2 (fun k (l : List (Int × Int × Int × Int)) => ((k : Int), w.1, w.2.1, w.2.2.1, w.2.2.2.1, w.2.2.2.2, (0 : Int), (0 : Int), (0 : Int), w.1, w.2.1, w.2.2.1, w.2.2.2.1.length, l.length, w.2.2.2.1, l, ())) (fun l r => ((0 : Int), (0 : Int), (0 : Int), w.1, w.2.1, w.2.2.1, w.2.2.2.1.length, (l ++ r).length, w.2.2.2.1, l ++ r, ())) (fun pre l => l = pre) ?_ ?_ (s := []) rfl) ?_
 ·rintro pre x post l hx rfl
  left
  have hlen : w.2.2.2.2.length = l.length + (post.length + 1) := by rw [hx]; simp
  have hd : w.2.2.2.2.getD l.length ((0 : Int), ((0 : Int), ((0 : Int), (0 : Int)))) = x := by rw [hx]; exact getD_mid rfl
  have hin : inb (l.length : Int) ((w.2.2.2.2.length : Nat) : Int) = true := inb_t (by omega) (by omega)
  have hni : rng .i64 ((l.length : Int) + 1) = true := rng_i64 (by omega) (by omega)
  refine ⟨l ++ [x], ?_, rfl, by simp⟩
  simp only [g19_1, run_br, run_nb, run_ni, run_nd, run_ret, Int.toNat_natCast, hd, br_d, hin, hni, need_true, List.drop_zero, List.take_length, List.take_succ_cons, List.take_zero, List.length_cons, List.length_nil, Nat.zero_add]
  rw [if_pos (by omega), need_lenbig (by omega)]
  simp
 ·rintro l rfl
  simp only [g19_1, run_br, br_d]
  rw [if_neg (by omega)]
  simp [run_ret]
 ·simp
theorem k20 {l : List Int} (h : l.length ≤ 1000000000) : run0 (F20 l l) = some (true, ()) := by
 simp only [F20, run_br, run_bd, run_it, run_ret, br_not, br_eq, if_true]
 refine bind_eq (iter_list l (fun k (_ : Unit) => (l, l, (k : Int), ())) (fun _ _ => .inr ()) (fun _ _ => True) ?_ ?_ (s := ()) trivial) ?_
 ·rintro pre x post _ hx -
  left
  have hlen : l.length = pre.length + (post.length + 1) := by rw [hx]; simp
  have hin : inb (pre.length : Int) ((l.length : Nat) : Int) = true := inb_t (by omega) (by omega)
  have hni : rng .i64 ((pre.length : Int) + 1) = true := rng_i64 (by omega) (by omega)
  refine ⟨(), ?_, trivial, rfl⟩
  simp only [g20_0, run_br, run_nb, run_ni, run_nd, run_ret, br_d, br_not, br_eq, hin, hni, need_true, if_true]
  rw [if_pos (by omega)]; rfl
 ·rintro _ _
  simp only [g20_0, run_br, br_d]
  rw [if_neg (by omega)]; rfl
 ·rfl
theorem k21 {l : List (Int × Int)} (h : l.length ≤ 1000000000) : run0 (F21 l l) = some (true, ()) := by
 simp only [F21, run_br, run_bd, run_it, run_ret, br_not, br_eq, if_true]
 refine bind_eq (iter_list l (fun k (_ : Unit) => (l, l, (k : Int), ())) (fun _ _ => .inr ()) (fun _ _ => True) ?_ ?_ (s := ()) trivial) ?_
 ·rintro pre x post _ hx -
  left
  have hlen : l.length = pre.length + (post.length + 1) := by rw [hx]; simp
  have hin : inb (pre.length : Int) ((l.length : Nat) : Int) = true := inb_t (by omega) (by omega)
  have hni : rng .i64 ((pre.length : Int) + 1) = true := rng_i64 (by omega) (by omega)
  refine ⟨(), ?_, trivial, rfl⟩
  simp only [g21_0, run_br, run_nb, run_ni, run_nd, run_ret, br_d, br_not, beq_self_eq_true, Bool.and_self, br_true, hin, hni, need_true]
  rw [if_pos (by omega)]; rfl
 ·rintro _ _
  simp only [g21_0, run_br, br_d]
  rw [if_neg (by omega)]; rfl
 ·rfl
end Go.Proofs.Try
end
section
namespace Go.Proofs.Try
open Go.AM
set_option maxRecDepth 100000
theorem zip_at {A B : Type} {d : A} {e : B} {x : A × B} {post : List (A × B)} : ∀ {pre : List (A × B)} {a : List A} {b : List B}, a.zip b = pre ++ x :: post → a.getD pre.length d = x.1 ∧ b.getD pre.length e = x.2
 | [], [], _, h => by simp at h
 | [], _ :: _, [], h => by simp at h
 | [], p :: a, q :: b, h => by simp at h; simp [← h.1]
 | _ :: _, [], _, h => by simp at h
 | _ :: _, _ :: _, [], h => by simp at h
 | y :: pre, p :: a, q :: b, h => by
  simp only [List.zip_cons_cons, List.cons_append, List.cons.injEq] at h
  have := zip_at (d := d) (e := e) h.2
  simpa using this
theorem sRead_len (w : Wk) : (sRead w).length = w.2.2.2.1.length := sugarL_len ..
theorem sLeast_len (w : Wk) : (sLeast w).length = w.2.2.2.1.length := sugarL_len ..
theorem sMost_len (w : Wk) : (sMost w).length = w.2.2.2.1.length := sugarL_len ..
/-- What is said of sugar. -/
noncomputable def sugar (w : Wk) : List Int × List (Int × Int) × Int × Unit := if chk w = 0 then (sRead w, (sLeast w).zip (sMost w), 0, ()) else ([], [], chk w, ())
theorem k17 (w : Wk) (hn : Names w) : run0 (F17 w) = some (sugar w) := by
 simp only [F17, run_bd, run_br, run_ret, k22 w hn, bindO_s, br_not, br_eq, run_it]
 unfold sugar
 by_cases h : chk w = 0
 case neg => rw [if_neg h, if_neg h]
 rw [if_pos h, if_pos h]
 have hw := chk_ok h
 have hm := hw.many
 simp only [k41_v1 hw, k41_v2 hw, bindO_s]
 have hzl : ((sLeast w).zip (sMost w)).length = w.2.2.2.1.length := by rw [List.length_zip, sLeast_len, sMost_len]; omega
 refine bind_eq (iter_list ((sLeast w).zip (sMost w)) (fun k (l : List (Int × Int)) => (l.length, sLeast w, sMost w, (((sLeast w).length : Nat) : Int), (k : Int), w.1, w.2.1, w.2.2.1, w.2.2.2.1, w.2.2.2.2, l, ())) (fun l r => ((l ++ r).length, w.1, w.2.1, w.2.2.1, w.2.2.2.1, w.2.2.2.2, l ++ r, ())) (fun pre l => l = pre) ?_ ?_ (s := []) rfl) ?_
 ·rintro pre x post l hx rfl
  left
  have hlen : w.2.2.2.1.length = l.length + (post.length + 1) := by rw [← hzl, hx]; simp
  obtain ⟨d1, d2⟩ := zip_at (d := (0 : Int)) (e := (0 : Int)) hx
  have hin : inb (l.length : Int) (((sLeast w).length : Nat) : Int) = true := inb_t (by omega) (by rw [sLeast_len]; omega)
  have hin2 : inb (l.length : Int) (((sMost w).length : Nat) : Int) = true := inb_t (by omega) (by rw [sMost_len]; omega)
  have hni : rng .i64 ((l.length : Int) + 1) = true := rng_i64 (by omega) (by omega)
  refine ⟨l ++ [x], ?_, rfl, by simp⟩
  simp only [g17_0, run_br, run_nb, run_ni, run_nd, run_ret, Int.toNat_natCast, d1, d2, br_d, hin, hin2, hni, need_true, List.drop_zero, List.take_length, List.take_succ_cons, List.take_zero, List.length_cons, List.length_nil, Nat.zero_add]
  rw [if_pos (by rw [sLeast_len]; omega), need_lenbig (by omega)]
  simp
 ·rintro l rfl
  simp only [g17_0, run_br, br_d]
  rw [if_neg (by rw [hzl, sLeast_len]; omega)]
  simp [run_ret]
 ·simp only [List.nil_append, k41 hw, bindO_s, List.drop_zero, List.take_length]
theorem k45 {w : Wk} (hw : OkW w) : run0 (F45 w) = some (sRead w, (sLeast w).zip (sMost w), ()) := by
 have hm := hw.many; have hwg := hw.wagons
 simp only [F45, run_nb, run_nd, run_bd, run_it, run_ret, Int.toNat_natCast]
 rw [need_inbig (by omega) (by omega), need_inbig (by omega) (by omega)]
 have hrep : List.replicate w.2.2.2.1.length ((0 : Int), (0 : Int)) = (List.replicate w.2.2.2.1.length (0 : Int)).zip (List.replicate w.2.2.2.1.length (0 : Int)) := by
  rw [List.zip_replicate']
 rw [hrep]
 refine bind_eq (iter_list w.2.2.2.2 (fun k (s : List Int × List Int × List Int) => (w.2.2.2.1.length, w.2.2.2.1.length, (k : Int), w.1, w.2.1, w.2.2.1, w.2.2.2.1, w.2.2.2.2, s.1, s.2.1.zip s.2.2, ()))
  (fun s r => (w.2.2.2.1.length, w.2.2.2.1.length, r.foldl (upd hRead) s.1, (r.foldl (upd (hLeast w)) s.2.1).zip (r.foldl (upd (hMost w)) s.2.2), ()))
  (fun pre s => (s.1.length = w.2.2.2.1.length ∧ Bd (102000000 * pre.length) s.1) ∧ (s.2.1.length = w.2.2.2.1.length ∧ Bd (102000000 * pre.length) s.2.1) ∧ (s.2.2.length = w.2.2.2.1.length ∧ Bd (102000000 * pre.length) s.2.2)) ?_ ?_
  (s := (List.replicate w.2.2.2.1.length 0, List.replicate w.2.2.2.1.length 0, List.replicate w.2.2.2.1.length 0)) ?_) ?_
 ·rintro pre x post ⟨a, b, c⟩ hx ⟨⟨a1, a2⟩, ⟨b1, b2⟩, ⟨c1, c2⟩⟩
  simp only at a1 a2 b1 b2 c1 c2
  left
  have hlen : w.2.2.2.2.length = pre.length + (post.length + 1) := by rw [hx]; simp
  have hd : w.2.2.2.2.getD pre.length ((0 : Int), ((0 : Int), ((0 : Int), (0 : Int)))) = x := by rw [hx]; exact getD_mid rfl
  have hxm : x ∈ w.2.2.2.2 := by rw [hx]; simp
  have hx1 := hw.wagon x hxm
  have q1 := hw.hRead x hxm; have q2 := hw.hLeast x hxm; have q3 := hw.hMost x hxm
  have hsc := hw.scale; have hlb := hw.lab
  have hsm := small_mul (K := 102000000) (n := pre.length) (by omega) (by omega) (by omega)
  have g1 := a2.getD hsm.1 x.1.toNat
  have g2 := b2.getD hsm.1 x.1.toNat
  have g3 := c2.getD hsm.1 x.1.toNat
  have hin : inb (pre.length : Int) ((w.2.2.2.2.length : Nat) : Int) = true := inb_t (by omega) (by omega)
  have hin2 : inb x.1 ((w.2.2.2.1.length : Nat) : Int) = true := inb_t (by omega) (by omega)
  have hk : x.1.toNat < w.2.2.2.1.length := by omega
  have hzl : (b.zip c).length = w.2.2.2.1.length := by rw [List.length_zip, b1, c1]; omega
  have e1 : decide (x.1.toNat < a.length) = true := decide_eq_true (by omega)
  have e2 : decide (x.1.toNat < (b.zip c).length) = true := decide_eq_true (by omega)
  have hz : (b.zip c).getD x.1.toNat ((0 : Int), (0 : Int)) = (b.getD x.1.toNat 0, c.getD x.1.toNat 0) := zip_getD (by omega) (by omega)
  have hs (v : Int × Int) : ((b.zip c).set x.1.toNat v).getD x.1.toNat ((0 : Int), (0 : Int)) = v := getD_set_self (by omega)
  refine ⟨(upd hRead a x, upd (hLeast w) b x, upd (hMost w) c x), ?_, ?_, rfl⟩
  ·simp only [g45_0, run_br, run_nb, run_ni, run_nd, run_ret, Int.toNat_natCast, hd, br_d, hin, hin2, need_true, Nat.zero_add, e1, e2, hz, hs, List.length_set, List.set_set, imax_eq, imin_eq]
   unfold hRead at q1; unfold hLeast at q2; unfold hMost at q3
   rw [if_pos (by omega)]
   simp (disch := omega) only [need_i64]
   simp only [zip_set]
   rfl
  ·refine ⟨⟨by rw [upd_len]; exact a1, ?_⟩, ⟨by rw [upd_len]; exact b1, ?_⟩, ⟨by rw [upd_len]; exact c1, ?_⟩⟩
   all_goals
    have e : (102000000 : Int) * ((pre ++ [x]).length : Int) = 102000000 * (pre.length : Int) + 102000000 := by rw [List.length_append, List.length_cons, List.length_nil]; omega
    rw [e]
   ·exact Bd.upd a2 hsm.1 ⟨q1.1, by omega⟩
   ·exact Bd.upd b2 hsm.1 ⟨q2.1, by omega⟩
   ·exact Bd.upd c2 hsm.1 q3
 ·rintro s _
  simp only [g45_0, run_br, br_d]
  rw [if_neg (by omega)]
  rfl
 ·refine ⟨⟨by simp, ?_⟩, ⟨by simp, ?_⟩, ⟨by simp, ?_⟩⟩ <;> (intro y hy; simp at hy; simp; omega)
 ·simp only [List.drop_zero]
  have hl2 : ((w.2.2.2.2.foldl (upd (hLeast w)) (List.replicate w.2.2.2.1.length 0)).zip (w.2.2.2.2.foldl (upd (hMost w)) (List.replicate w.2.2.2.1.length 0))).length ≤ w.2.2.2.1.length := by
   rw [List.length_zip, foldl_upd_len, foldl_upd_len, List.length_replicate]; omega
  rw [List.take_of_length_le (by rw [foldl_upd_len, List.length_replicate]; exact Nat.le_refl _), List.take_of_length_le hl2]
  rfl
theorem k18 (w : Wk) : run0 (F18 w) = some (sugar w) := by
 simp only [F18, run_bd, run_br, run_ret, k23 w, bindO_s, br_not, br_eq]
 unfold sugar
 by_cases h : chk w = 0
 case neg => rw [if_neg h, if_neg h]
 rw [if_pos h, if_pos h]
 simp only [k45 (chk_ok h), bindO_s]
theorem law3 (w : Wk) : run0 (F3 w) = some (true, ()) := by
 obtain ⟨b, hb, hs⟩ := k15 w
 simp only [F3, run_bd, run_br, run_ret, hb, bindO_s, works_ok]
 cases b with
 | true => simp
 | false =>
  have h := hs rfl
  have l1 : (sugar w).1.length ≤ 1000000000 := by
   unfold sugar; split
   ·rw [sRead_len]; have := h.fl; omega
   ·simp
  have l2 : (sugar w).2.1.length ≤ 1000000000 := by
   unfold sugar; split
   ·rw [List.length_zip, sLeast_len]; have := h.fl; omega
   ·simp
  simp only [br_false, k17 w h.names, k19 w h, k18 w, bindO_s, k20 l1, k21 l2, br_true, br_eq, if_true, k22 w h.names, k23 w]
end Go.Proofs.Try
end
