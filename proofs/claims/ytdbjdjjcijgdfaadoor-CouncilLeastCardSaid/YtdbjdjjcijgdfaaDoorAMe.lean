/- Go's pdqsort on the images of elements is the image of pdqsort on the elements. slices.SortFunc on a list behind a block, by the library's own theorem: what it leaves there. -/
import Derived.Test.YtdbjdjjcijgdfaaDoorAMd
import Derived.Sort.AssemblyPlain
import Derived.Shelf.SlSortCmp.Whole1
set_option linter.unusedSectionVars false
set_option linter.unusedVariables false
set_option linter.unusedSimpArgs false
section
namespace Go.Sort
variable {α β : Type} [Inhabited α] [Inhabited β]
/-- An image that keeps the order. -/
structure Im (f : α → β) (lt : α → α → Bool) (lt' : β → β → Bool) : Prop where
 d : f default = default
 o : ∀ a b, lt a b = lt' (f a) (f b)
section
variable {f : α → β} {lt : α → α → Bool} {lt' : β → β → Bool} (h : Im f lt lt')
include h
theorem im_get (d : Array α) (i : Nat) : (d.map f)[i]! = f d[i]! := by
 by_cases hi : i < d.size
 ·simp [hi]
 ·simp [hi, h.d]
theorem im_lt (d : Array α) (i j : Nat) : lt' (d.map f)[i]! (d.map f)[j]! = lt d[i]! d[j]! := by rw [im_get h, im_get h, h.o]
theorem im_swp (d : Array α) (i j : Nat) : swp (d.map f) i j = (swp d i j).map f := by
 unfold swp
 rw [im_get h, im_get h]
 apply Array.ext'
 simp
theorem im_insInner (a : Nat) : ∀ (k : Nat) (d : Array α), insInner lt' a k (d.map f) = (insInner lt a k d).map f
 | 0, d => rfl
 | j + 1, d => by
  simp only [insInner, im_lt h, im_swp h, im_insInner a j]
  split <;> rfl
theorem im_insOuter (a b i : Nat) (d : Array α) : insOuter lt' a b i (d.map f) = (insOuter lt a b i d).map f := by
 induction hm : b - i generalizing i d with
 | zero =>
  unfold insOuter
  rw [if_neg (by omega), if_neg (by omega)]
 | succ m ih =>
  unfold insOuter
  by_cases c : i < b
  ·rw [if_pos c, if_pos c, im_insInner h, ih _ _ (by omega)]
  ·omega
theorem im_insertionSort (d : Array α) (a b : Nat) : insertionSort lt' (d.map f) a b = (insertionSort lt d a b).map f := im_insOuter h a b (a + 1) d
theorem im_siftDown (hi first root : Nat) (d : Array α) : siftDown lt' hi first root (d.map f) = (siftDown lt hi first root d).map f := by
 induction hm : hi - root using Nat.strongRecOn generalizing root d with
 | _ m ih =>
  unfold siftDown
  simp only [im_lt h, im_swp h]
  split
  ·rfl
  ·split
   ·split
    ·rfl
    ·split
     ·exact ih (hi - (2 * root + 2)) (by omega) _ _ rfl
     ·rfl
   ·split
    ·rfl
    ·exact ih (hi - (2 * root + 1)) (by omega) _ _ rfl
theorem im_heapBuild (hi first : Nat) : ∀ (k : Nat) (d : Array α), heapBuild lt' hi first k (d.map f) = (heapBuild lt hi first k d).map f
 | 0, d => rfl
 | k + 1, d => by simp only [heapBuild, im_siftDown h, im_heapBuild hi first k]
theorem im_heapPop (first : Nat) : ∀ (k : Nat) (d : Array α), heapPop lt' first k (d.map f) = (heapPop lt first k d).map f
 | 0, d => rfl
 | k + 1, d => by simp only [heapPop, im_swp h, im_siftDown h, im_heapPop first k]
theorem im_heapSort (d : Array α) (a b : Nat) : heapSort lt' (d.map f) a b = (heapSort lt d a b).map f := by
 unfold heapSort
 rw [im_heapBuild h, im_heapPop h]
theorem im_scanUp {p : α → Bool} {p' : β → Bool} (hp : ∀ x, p x = p' (f x)) (d : Array α) (j i : Nat) : scanUp p' (d.map f) j i = scanUp p d j i := by
 induction hm : j + 1 - i generalizing i with
 | zero =>
  unfold scanUp
  rw [if_neg (by simp; omega), if_neg (by simp; omega)]
 | succ m ih =>
  unfold scanUp
  rw [im_get h, ← hp]
  split
  ·exact ih _ (by omega)
  ·rfl
theorem im_scanDown {p : α → Bool} {p' : β → Bool} (hp : ∀ x, p x = p' (f x)) (d : Array α) (i : Nat) : ∀ j : Nat, scanDown p' (d.map f) i j = scanDown p d i j
 | 0 => rfl
 | j + 1 => by
  simp only [scanDown, im_get h, ← hp, im_scanDown hp d i j]
theorem im_partLoop (a i j : Nat) (d : Array α) : partLoop lt' a i j (d.map f) = ((partLoop lt a i j d).1, (partLoop lt a i j d).2.map f) := by
 induction hm : j + 1 - i using Nat.strongRecOn generalizing i j d with
 | _ m ih =>
  unfold partLoop
  rw [im_scanUp h (p := fun x => lt x d[a]!) (fun x => by rw [im_get h, h.o])]
  simp only
  rw [im_scanDown h (p := fun x => !lt x d[a]!) (fun x => by rw [im_get h, h.o])]
  simp only [im_swp h]
  split
  ·rfl
  ·split
   ·exact ih _ (by omega) _ _ _ rfl
   ·rfl
theorem im_partition (d : Array α) (a b pivot : Nat) : partition lt' (d.map f) a b pivot = ((partition lt d a b pivot).1, (partition lt d a b pivot).2.1, (partition lt d a b pivot).2.2.map f) := by
 unfold partition
 simp only [im_swp h]
 rw [im_scanUp h (p := fun x => lt x (swp d a pivot)[a]!) (fun x => by rw [im_get h, h.o])]
 rw [im_scanDown h (p := fun x => !lt x (swp d a pivot)[a]!) (fun x => by rw [im_get h, h.o])]
 simp only [im_partLoop h, im_swp h]
 split <;> rfl
theorem im_partEqLoop (a i j : Nat) (d : Array α) : partEqLoop lt' a i j (d.map f) = ((partEqLoop lt a i j d).1, (partEqLoop lt a i j d).2.map f) := by
 induction hm : j + 1 - i using Nat.strongRecOn generalizing i j d with
 | _ m ih =>
  unfold partEqLoop
  rw [im_scanUp h (p := fun x => !lt d[a]! x) (fun x => by rw [im_get h, h.o])]
  simp only
  rw [im_scanDown h (p := fun x => lt d[a]! x) (fun x => by rw [im_get h, h.o])]
  simp only [im_swp h]
  split
  ·rfl
  ·split
   ·exact ih _ (by omega) _ _ _ rfl
   ·rfl
theorem im_partitionEqual (d : Array α) (a b pivot : Nat) : partitionEqual lt' (d.map f) a b pivot = ((partitionEqual lt d a b pivot).1, (partitionEqual lt d a b pivot).2.map f) := by
 unfold partitionEqual
 rw [im_swp h, im_partEqLoop h]
theorem im_scanSorted (d : Array α) (b i : Nat) : scanSorted lt' (d.map f) b i = scanSorted lt d b i := by
 induction hm : b - i generalizing i with
 | zero =>
  unfold scanSorted
  rw [if_neg (by simp; omega), if_neg (by simp; omega)]
 | succ m ih =>
  unfold scanSorted
  rw [im_lt h]
  split
  ·exact ih _ (by omega)
  ·rfl
theorem im_shiftDown : ∀ (j : Nat) (d : Array α), shiftDown lt' j (d.map f) = (shiftDown lt j d).map f
 | 0, d => rfl
 | j + 1, d => by
  simp only [shiftDown, im_lt h, im_swp h, im_shiftDown j]
  split <;> rfl
theorem im_shiftUp (b j : Nat) (d : Array α) : shiftUp lt' b j (d.map f) = (shiftUp lt b j d).map f := by
 induction hm : b - j generalizing j d with
 | zero =>
  unfold shiftUp
  rw [if_neg (by omega), if_neg (by omega)]
 | succ m ih =>
  unfold shiftUp
  simp only [im_lt h, im_swp h]
  rw [ih _ _ (by omega)]
  split
  ·split <;> rfl
  ·rfl
theorem im_partialIns (a b : Nat) : ∀ (s i : Nat) (d : Array α), partialIns lt' a b s i (d.map f) = ((partialIns lt a b s i d).1.map f, (partialIns lt a b s i d).2)
 | 0, i, d => rfl
 | s + 1, i, d => by
  simp only [partialIns, im_scanSorted h]
  split
  ·rfl
  ·split
   ·rfl
   ·simp only [im_swp h, im_shiftDown h]
    by_cases c1 : scanSorted lt d b i - a ≥ 2 <;> by_cases c2 : b - scanSorted lt d b i ≥ 2 <;> simp only [c1, c2, if_true, if_false, im_shiftUp h, im_partialIns a b s]
theorem im_partialInsertionSort (d : Array α) (a b : Nat) : partialInsertionSort lt' (d.map f) a b = ((partialInsertionSort lt d a b).1.map f, (partialInsertionSort lt d a b).2) := im_partialIns h a b 5 (a + 1) d
theorem im_order2 (d : Array α) (a b s : Nat) : order2 lt' (d.map f) a b s = order2 lt d a b s := by unfold order2; rw [im_lt h]
theorem im_median (d : Array α) (a b c s : Nat) : median lt' (d.map f) a b c s = median lt d a b c s := by unfold median; simp only [im_order2 h]
theorem im_medianAdjacent (d : Array α) (a s : Nat) : medianAdjacent lt' (d.map f) a s = medianAdjacent lt d a s := im_median h d _ _ _ s
theorem im_choosePivot (d : Array α) (a b : Nat) : choosePivot lt' (d.map f) a b = choosePivot lt d a b := by
 unfold choosePivot
 simp only [im_median h, im_medianAdjacent h]
theorem im_reverseLoop (i j : Nat) (d : Array α) : reverseLoop i j (d.map f) = (reverseLoop i j d).map f := by
 induction hm : j - i using Nat.strongRecOn generalizing i j d with
 | _ m ih =>
  unfold reverseLoop
  simp only [im_swp h]
  split
  ·exact ih _ (by omega) _ _ _ rfl
  ·rfl
theorem im_reverseRange (d : Array α) (a b : Nat) : reverseRange (d.map f) a b = (reverseRange d a b).map f := im_reverseLoop h a (b - 1) d
theorem im_breakStep (a l m : Nat) (r : UInt64) (d : Array α) (idx : Nat) : breakStep a l m (r, d.map f) idx = ((breakStep a l m (r, d) idx).1, (breakStep a l m (r, d) idx).2.map f) := by
 unfold breakStep
 simp only [im_swp h]
theorem im_breakPatterns (d : Array α) (a b : Nat) : breakPatterns (d.map f) a b = (breakPatterns d a b).map f := by
 unfold breakPatterns
 simp only [im_breakStep h]
 split <;> rfl
end
/-! One round of pdqsort, in steps. -/
section
variable (lt : α → α → Bool) (a b limit : Nat) (wb wp : Bool)
def imPdq4 (pi : Array α × Bool) (pivot : Nat) : Array α :=
 if pi.2 then pi.1 else
 if a > 0 && !lt pi.1[a - 1]! pi.1[pivot]! then
  match partitionEqual lt pi.1 a b pivot with
  | (mid, d4) => if a < mid ∧ mid ≤ b then pdq lt d4 mid b limit wb wp else d4
 else
  match partition lt pi.1 a b pivot with
  | (mid, alreadyPartitioned, d4) =>
   if a ≤ mid ∧ mid < b then
    if mid - a < b - mid then
     pdq lt (pdq lt d4 a mid limit true true) (mid + 1) b limit (decide (mid - a ≥ (b - a) / 8)) alreadyPartitioned
    else
     pdq lt (pdq lt d4 (mid + 1) b limit true true) a mid limit (decide (b - mid ≥ (b - a) / 8)) alreadyPartitioned
   else d4
def imPdq3 (d2 : Array α) (hint : Hint) (pivot : Nat) : Array α :=
 imPdq4 lt a b limit wb wp (if wb && wp && hint = .increasing then partialInsertionSort lt d2 a b else (d2, false)) pivot
def imPdq2 (d1 : Array α) (c : Nat × Hint) : Array α :=
 imPdq3 lt a b limit wb wp (if c.2 = .decreasing then reverseRange d1 a b else d1) (if c.2 = .decreasing then Hint.increasing else c.2) (if c.2 = .decreasing then (b - 1) - (c.1 - a) else c.1)
def imPdq1 (d1 : Array α) : Array α := imPdq2 lt a b limit wb wp d1 (choosePivot lt d1 a b)
theorem im_pdq_eq (d : Array α) : pdq lt d a b limit wb wp = if b - a ≤ 12 then insertionSort lt d a b else if limit = 0 then heapSort lt d a b else
  imPdq1 lt a b (if !wb then limit - 1 else limit) wb wp (if !wb then breakPatterns d a b else d) := by
 rw [pdq]
 rfl
end
section
variable {f : α → β} {lt : α → α → Bool} {lt' : β → β → Bool} (h : Im f lt lt')
include h
/-- The image of what is sorted. -/
theorem im_pdq (d : Array α) (a b limit : Nat) (wb wp : Bool) : pdq lt' (d.map f) a b limit wb wp = (pdq lt d a b limit wb wp).map f := by
 induction hm : b - a using Nat.strongRecOn generalizing d a b limit wb wp with
 | _ m ih =>
  rw [im_pdq_eq, im_pdq_eq]
  by_cases c1 : b - a ≤ 12
  ·rw [if_pos c1, if_pos c1, im_insertionSort h]
  rw [if_neg c1, if_neg c1]
  by_cases c2 : limit = 0
  ·rw [if_pos c2, if_pos c2, im_heapSort h]
  rw [if_neg c2, if_neg c2]
  have e1 : (if (!wb) = true then breakPatterns (d.map f) a b else d.map f) = (if (!wb) = true then breakPatterns d a b else d).map f := by
   rw [im_breakPatterns h]; split <;> rfl
  rw [e1]
  generalize (if (!wb) = true then breakPatterns d a b else d) = d1
  generalize (if (!wb) = true then limit - 1 else limit) = limit
  unfold imPdq1
  rw [im_choosePivot h]
  generalize choosePivot lt d1 a b = c
  unfold imPdq2
  have e2 : (if c.2 = .decreasing then reverseRange (d1.map f) a b else d1.map f) = (if c.2 = .decreasing then reverseRange d1 a b else d1).map f := by
   rw [im_reverseRange h]; split <;> rfl
  rw [e2]
  generalize (if c.2 = .decreasing then reverseRange d1 a b else d1) = d2
  generalize (if c.2 = .decreasing then Hint.increasing else c.2) = hint
  generalize (if c.2 = .decreasing then (b - 1) - (c.1 - a) else c.1) = pivot
  unfold imPdq3
  have e3 : (if (wb && wp && decide (hint = .increasing)) = true then partialInsertionSort lt' (d2.map f) a b else (d2.map f, false)) =
    ((if (wb && wp && decide (hint = .increasing)) = true then partialInsertionSort lt d2 a b else (d2, false)).1.map f, (if (wb && wp && decide (hint = .increasing)) = true then partialInsertionSort lt d2 a b else (d2, false)).2) := by
   rw [im_partialInsertionSort h]; split <;> rfl
  rw [e3]
  generalize (if (wb && wp && decide (hint = .increasing)) = true then partialInsertionSort lt d2 a b else (d2, false)) = pi
  obtain ⟨d3, fl⟩ := pi
  unfold imPdq4
  dsimp only
  cases fl
  ·rw [if_neg (show ¬ (false = true) by simp), if_neg (show ¬ (false = true) by simp), im_lt h, im_partitionEqual h, im_partition h]
   generalize partitionEqual lt d3 a b pivot = r1
   generalize partition lt d3 a b pivot = r2
   obtain ⟨m1, x1⟩ := r1
   obtain ⟨m2, y2, x2⟩ := r2
   dsimp only
   split
   ·split
    ·exact ih _ (by omega) _ _ _ _ _ _ rfl
    ·rfl
   ·split
    ·split
     ·rw [ih _ (by omega) _ _ _ _ _ _ rfl, ih _ (by omega) _ _ _ _ _ _ rfl]
     ·rw [ih _ (by omega) _ _ _ _ _ _ rfl, ih _ (by omega) _ _ _ _ _ _ rfl]
    ·rfl
  ·rw [if_pos rfl, if_pos rfl]
end
end Go.Sort
end
section
namespace Go.AM
open Go.Sort Go.Proofs Go.Shelf
/-- Less, as a comparison says it. -/
def ltC {α : Type} (cf : α → α → Int) (a b : α) : Bool := decide (cf a b < 0)
/-- A strict weak order on good elements. -/
structure SWG {α : Type} (G : α → Prop) (lt : α → α → Bool) : Prop where
 irrefl : ∀ a, G a → lt a a = false
 trans : ∀ a b c, G a → G b → G c → lt a b = true → lt b c = true → lt a c = true
 ntrans : ∀ a b c, G a → G b → G c → lt a b = false → lt b c = false → lt a c = false
/-- The first n sorted, as Go does it. -/
def sortL (t : Ty) (cf : t.den → t.den → Int) (xs : List t.den) (n : Nat) : List t.den :=
 (@pdq t.den ⟨t.zero⟩ (ltC cf) (xs.take n).toArray 0 n (Lib.bitLen n) true true).toList ++ xs.drop n
section
variable {P : Program} {ρ : Ren} {t : Ty} {G : t.den → Prop} {cf : t.den → t.den → Int} {ι : Iota}
/-- Elements with what stands for them. -/
def El (t : Ty) (G : t.den → Prop) (ι : Iota) : Type := { p : t.den × Value // G p.1 ∧ CellsD ι t p.1 [p.2] }
def El.x (e : El t G ι) : t.den := e.1.1
def El.v (e : El t G ι) : Value := e.1.2
theorem mapBlock_heap_ne (w : World) (b k : Nat) (f : Array Value → Array Value) (h : k ≠ b) : (mapBlock w b f).heap[k]? = w.heap[k]? := by
 unfold mapBlock
 simp [Array.getElem?_modify, Ne.symm h]
theorem dw_grow (w : World) (n : Nat) (os : Array Obj) : Dw w (grow (Go.Sort.ahead w n) os) := by
 refine ⟨⟨rfl, rfl, rfl, by simp [grow, Go.Sort.ahead], fun k hk => ?_⟩, by simp [grow, Go.Sort.ahead]⟩
 simp only [grow, Go.Sort.ahead]
 exact Array.getElem?_append_left hk
theorem grow_of_dw {w w' : World} (h : Dw w w') : ∃ q os, w' = grow (w.drewN q) os := by
 refine ⟨w'.drawn - w.drawn, w'.heap.extract w.heap.size w'.heap.size, ?_⟩
 obtain ⟨heap, tape, drawn, os, output⟩ := w
 obtain ⟨heap', tape', drawn', os', output'⟩ := w'
 obtain ⟨⟨h1, h2, h3, h4, h5⟩, h6⟩ := h
 simp only at h1 h2 h3 h4 h5 h6
 subst h1; subst h2; subst h3
 unfold grow World.drewN
 simp only
 congr 1
 ·apply Array.ext_getElem?
  intro k
  by_cases hk : k < heap.size
  ·rw [Array.getElem?_append_left hk, h5 k hk]
  ·rw [Array.getElem?_append_right (by omega), Array.getElem?_extract]
   by_cases hk2 : k < heap'.size
   ·rw [if_pos (by omega)]; congr 1; omega
   ·rw [Array.getElem?_eq_none (by omega)]
    split
    ·rw [Array.getElem?_eq_none (by omega)]
    ·rfl
 ·omega
theorem cat_el : ∀ l : List (El t G ι), CatR (CellsD ι t) (l.map El.x) (l.map El.v)
 | [] => rfl
 | e :: r => ⟨[e.v], _, rfl, e.2.2, cat_el r⟩
theorem sort_acall (L : SlLaysF.n6 P ρ) (hent : Enters P (ρ.f 6)) (g : Nat) (hv : ∀ x : t.den, toVs t x = [tyV t x]) (hsz1 : t.sz = 1) (hG0 : ∃ v, CellsD (fun _ _ => none) t t.zero [v]) (hGz : G t.zero)
  (hcmp : ∀ a b, G a → G b → pcall P g [tyV t a, tyV t b] (.int .i64 (cf a b))) (hO : SWG G (ltC cf)) {xs : List t.den} {n : Nat} (hn0 : 0 < n) (hn : n ≤ xs.length) (hbig : n < 4611686018427387904) (hg : ∀ x ∈ xs, G x) :
  acall P (ρ.f 6) [.sl 0 t 0 n, .fn g [] []] ⟨1, [(0, .arr t xs false)]⟩ fun r H => r = .any ∧ H = ⟨1, [(0, .arr t (sortL t cf xs n) false)]⟩ := by
 refine ⟨hent, fun Y ι μ w args hI hl => callsIn_wide.2 ?_⟩
 obtain ⟨v0, a1, ea, r0, hl1⟩ := hl.uncons
 obtain ⟨v1, a2, ea1, r1, hl2⟩ := hl1.uncons
 have hnil := hl2.of_nil
 subst hnil; subst ea1
 have hargs : args = #[v0, v1] := by apply Array.ext'; simpa using ea
 subst hargs
 cases r1 with
 | fn _ _ _ xs0 ys0 q1 q2 q3 q4 =>
 have e0 : xs0 = #[] := by apply Array.eq_empty_of_size_eq_zero; simpa using q1.symm
 have e1 : ys0 = #[] := by apply Array.eq_empty_of_size_eq_zero; simpa using q3.symm
 subst e0; subst e1
 have hb : bget 0 (Heap.bl ⟨1, [(0, Blk.arr t xs false)]⟩) = some (.arr t xs false) := rfl
 cases r0 with
 | sl0 => omega
 | sl _ _ _ _ cap Lc hmu hcap htot hlen =>
 rcases hI.live 0 _ hb with ⟨rfl, _⟩ | ⟨L', vs, hM, hR, hl'⟩
 ·simp at hn; omega
 have hLL : Lc = L' := by have := hmu.symm.trans hM.mu; cases this; rfl
 subst hLL
 have hfree := hM.fzF rfl
 have hvl : vs.length = xs.length := by have := hR.length (fun _ _ => CellsD.length); rw [hsz1, Nat.mul_one] at this; exact this
 -- elements
 have hel : ∀ j, j < n → ∃ x v, xs[j]? = some x ∧ vs[j]? = some v ∧ CellsD ι t x [v] := fun j hj => by
  have hx : xs[j]? = some (xs[j]'(by omega)) := by simp [show j < xs.length by omega]
  have := hR.at (fun _ _ => CellsD.length) hx
  rw [hsz1, Nat.mul_one] at this
  have hvj : (vs.drop j).take 1 = [vs[j]'(by omega)] := by
   rw [List.drop_eq_getElem_cons (by omega)]; rfl
  rw [hvj] at this
  exact ⟨_, vs[j]'(by omega), hx, by simp [show j < vs.length by omega], this⟩
 obtain ⟨z0, hz0⟩ := hG0
 have hz : CellsD ι t t.zero [z0] := hz0.mono (fun b o x h => by cases h)
 letI iE : Inhabited (El t G ι) := ⟨⟨(t.zero, z0), hGz, hz⟩⟩
 letI iT : Inhabited t.den := ⟨t.zero⟩
 let mk : Nat → El t G ι := fun j => if h : j < n then ⟨((xs[j]'(by omega)), (vs[j]'(by omega))), hg _ (List.getElem_mem _), by
  obtain ⟨x, v, h1, h2, h3⟩ := hel j h
  obtain ⟨_, rfl⟩ := List.getElem?_eq_some_iff.1 h1
  obtain ⟨_, rfl⟩ := List.getElem?_eq_some_iff.1 h2
  exact h3⟩ else default
 let d : Array (El t G ι) := ((List.range n).map mk).toArray
 have hds : d.size = n := by simp [d]
 have hd : ∀ j, j < n → d[j]! = mk j := fun j hj => by simp [d, hj]
 have hdx : ∀ j (hj : j < n), (d[j]!).x = xs[j]'(by omega) := fun j hj => by rw [hd j hj]; simp [mk, hj, El.x]
 have hdv : ∀ j (hj : j < n), (d[j]!).v = vs[j]'(by omega) := fun j hj => by rw [hd j hj]; simp [mk, hj, El.v]
 let enc : El t G ι → Value := El.v
 have hone : OneCell enc := fun e => CellsD.one e.2.2 _ (List.mem_singleton.2 rfl)
 have hba : Lc.ba + 0 * t.sz = Lc.ba := by omega
 have hH : Holds enc w Lc.b Lc.ba d := fun j hj => by
  rw [hds] at hj
  refine ⟨?_, ?_⟩
  ·rw [show enc d[j]! = vs[j]'(by omega) from hdv j hj]
   exact hM.rangeAt j _ (by simp [show j < vs.length by omega])
  ·have hf := hM.fits
   exact (hM.there (o := Lc.ba) (k := vs.length) (Nat.le_refl _) hf j (by omega)).2
 obtain ⟨cc, ce, hrow, hcs, hcj⟩ := hM.row
 have hblk : Lc.b < w.heap.size := (Array.getElem?_eq_some_iff.1 hrow).1
 let cfE : El t G ι → El t G ι → Int := fun a b => cf a.x b.x
 have hSW : SWO (ltOf cfE) := ⟨fun a => hO.irrefl a.x a.2.1, fun a b c => hO.trans a.x b.x c.x a.2.1 b.2.1 c.2.1, fun a b c => hO.ntrans a.x b.x c.x a.2.1 b.2.1 c.2.1⟩
 have eg : ∀ args w, (callFunc g args).run P w = .ok (.enter g args) w := (hcmp _ _ hGz hGz).1
 have hlay : CmpLays1 P g #[] enc cfE Lc.b Lc.ba d.size w := fun m os dk hdk a b => by
  have hW : Readable ι (sortWorld enc w Lc.b Lc.ba m dk os) := fun b' o x hx => by
   have hne : b' ≠ Lc.b := fun e => by subst e; rw [hfree] at hx; cases hx
   have hcell := hI.rd b' o x hx
   have hlt := World.block_lt_of_cell? _ _ hcell
   unfold sortWorld
   rw [cell?_grow _ _ _ (by simpa [Go.Sort.ahead] using hlt), cell?_putRow_other _ _ _ _ _ _ (.inl hne)]
   exact hcell
  have hrel : RelL ι (fun _ => none) [tyV t a.x, tyV t b.x] (#[enc a, enc b] ++ #[] : Array Value).toList := by
   have ra : RelL ι (fun _ => none) [tyV t a.x] [a.v] := by rw [← hv]; exact toVs_rel a.2.2
   have rb : RelL ι (fun _ => none) [tyV t b.x] [b.v] := by rw [← hv]; exact toVs_rel b.2.2
   simpa using ra.append rb
  have := callsIn_wide.1 ((hcmp a.x b.x a.2.1 b.2.1).2 ι _ _ hI.tab hW hrel)
  refine this.mono ?_
  rintro e w' ⟨v, ι', rfl, _, _, _, hdw, hr⟩
  cases hr
  exact ⟨rfl, grow_of_dw hdw⟩
 have hcall := Any.slices_SortFunc_eq L enc hone cfE hSW g #[] Lc.b Lc.ba cap d w eg hlay hH hblk (by rw [hds]; exact hbig)
 rw [hds] at hcall
 have hperm := pdq_sorts (ltOf cfE) hSW d 0 d.size (Lib.bitLen d.size) true true (Nat.zero_le _) (Nat.le_refl _) (Or.inl rfl)
 rw [hds] at hperm
 rw [hba]
 refine hcall.mono ?_
 rintro e w' ⟨rfl, m, os, rfl⟩
 generalize hd' : pdq (ltOf cfE) d 0 n (Lib.bitLen n) true true = d' at *
 have hs' : d'.size = n := by rw [hperm.1.1, hds]
 -- what is left, as data
 have him : Im (f := (El.x : El t G ι → t.den)) (ltOf cfE) (ltC cf) := ⟨rfl, fun a b => rfl⟩
 have hdm : d.map El.x = (xs.take n).toArray := by
  apply Array.ext'
  apply List.ext_getElem?
  intro j
  by_cases hj : j < n
  ·have h1 : (d.map El.x).toList[j]? = some (d[j]!).x := by
    simp [hds, hj]
   rw [h1, hdx j hj]
   simp [List.getElem?_take, hj, show j < xs.length by omega]
  ·have h1 : (d.map El.x).toList[j]? = none := List.getElem?_eq_none (by simp [hds]; omega)
   rw [h1]
   symm
   exact List.getElem?_eq_none (by simp; omega)
 have hres : sortL t cf xs n = (d'.map El.x).toList ++ xs.drop n := by
  unfold sortL
  have := im_pdq him d 0 n (Lib.bitLen n) true true
  rw [hd', hdm] at this
  rw [← this]
 let w1 := putRow enc w Lc.b Lc.ba d'
 have hlen2 : (d'.toList.map El.v ++ vs.drop n).length = vs.length := by simp [hs']; omega
 have hok : BlkOk P Y.own ι μ 0 w1 (.arr t (sortL t cf xs n) false) := by
  refine .inr ⟨Lc, d'.toList.map El.v ++ vs.drop n, ⟨hM.mu, hM.old, ⟨putCells enc Lc.ba d' cc, ce, ?_, ?_, fun j v hv' => ?_⟩, by rw [hlen2]; exact hM.fits, fun v hv' => ?_, (fun e => by cases e), fun _ => hfree⟩, ?_, ?_⟩
  ·show (mapBlock w Lc.b (putCells enc Lc.ba d')).heap[Lc.b]? = _
   unfold mapBlock
   simp only [Array.getElem?_modify, if_true, hrow, Option.map_some, onCells]
  ·simp [putCells, hcs]
  ·have hj : j < vs.length := by rw [← hlen2]; exact (List.getElem?_eq_some_iff.1 hv').1
   have hc := hcj j _ (List.getElem?_eq_getElem hj)
   simp only [putCells, Array.getElem?_mapIdx, hc, Option.map_some]
   by_cases hjn : j < n
   ·rw [if_pos (by omega)]
    rw [List.getElem?_append_left (by simp [hs', hjn])] at hv'
    rw [← hv', show Lc.ba + j - Lc.ba = j by omega]
    simp [hs', hjn, enc]
   ·rw [if_neg (by omega)]
    rw [List.getElem?_append_right (by simp [hs']; omega)] at hv'
    rw [← hv']
    simp only [List.length_map, Array.length_toList, hs', List.getElem?_drop]
    rw [show n + (j - n) = j by omega, List.getElem?_eq_getElem hj]
  ·rcases List.mem_append.1 hv' with h' | h'
   ·obtain ⟨e, _, rfl⟩ := List.mem_map.1 h'
    exact hone e
   ·exact hM.one v (List.mem_of_mem_drop h')
  ·rw [hres, Array.toList_map]
   refine (cat_el d'.toList).append ?_
   have := hR.drop (fun _ _ => CellsD.length) n
   rwa [hsz1, Nat.mul_one] at this
  ·rw [hres]
   simp [hs']
   omega
 have hI1 : Inv P Y ι μ ⟨1, [(0, .arr t (sortL t cf xs n) false)]⟩ w1 :=
  hI.turn hb hM.mu hfree (w' := w1) rfl rfl rfl rfl (Go.Sort.size_putRow _ _ _ _ _) (fun k hk => mapBlock_heap_ne _ _ _ _ hk) (.no (fun ms c e => by obtain ⟨_, _, h1, _⟩ := hM.row; rw [h1] at e; cases e)) hok
 have hdw := dw_grow w1 m os
 have hrd : Readable ι (grow (Go.Sort.ahead w1 m) os) := Readable.kept hI1.rd hdw
 exact ⟨.tuple #[], ι, μ, .any, _, rfl, Iota.le_refl _, Mu.le_refl _, hI1.called (Iota.le_refl _) (fun _ _ _ => rfl) hrd hdw, .any _, rfl, rfl⟩
/-- What a comparison says, if it does. -/
def cfO {α : Type} (cmp : α → α → Option (Int × Unit)) (a b : α) : Int := match cmp a b with
 | some z => z.1
 | none => 0
open Classical in
/-- The first n of a list sorted, if the comparison is one. -/
noncomputable def srtO (t : Ty) (cmp : t.den → t.den → Option (Int × Unit)) (xs : List t.den) (n : Nat) : Option (List t.den × Unit) :=
 if 0 < n ∧ n ≤ xs.length ∧ n < 4611686018427387904 ∧ (∀ a b, (a ∈ xs ∨ a = t.zero) → (b ∈ xs ∨ b = t.zero) → ∃ z, cmp a b = some (z, ())) ∧ SWG (fun x => x ∈ xs ∨ x = t.zero) (ltC (cfO cmp)) then
  some (sortL t (cfO cmp) xs n, ()) else none
theorem nil_cells (s : Ty) : ∃ v, CellsD (fun _ _ => none) (.list s) (Ty.zero (.list s)) [v] := ⟨.slice none 0 0, none, 0, rfl, Nat.le_refl _, .inl rfl⟩
theorem srtO_ok (L : SlLaysF.n6 P ρ) (hent : Enters P (ρ.f 6)) (g : Nat) (hv : ∀ x : t.den, toVs t x = [tyV t x]) (hsz1 : t.sz = 1) (hG0 : ∃ v, CellsD (fun _ _ => none) t t.zero [v])
  {cmp : t.den → t.den → Option (Int × Unit)} (hct : ∀ a b z, cmp a b = some (z, ()) → pcall P g [tyV t a, tyV t b] (.int .i64 z)) {xs : List t.den} {n : Nat} {y : List t.den × Unit} (h : srtO t cmp xs n = some y) :
  acall P (ρ.f 6) [.sl 0 t 0 n, .fn g [] []] ⟨1, [(0, .arr t xs false)]⟩ fun r H => r = .any ∧ H = ⟨1, [(0, .arr t y.1 false)]⟩ := by
 unfold srtO at h
 split at h <;> try (cases h; done)
 rename_i hc
 obtain ⟨h1, h2, h3, h4, h5⟩ := hc
 cases h
 exact sort_acall (G := fun x => x ∈ xs ∨ x = t.zero) L hent g hv hsz1 hG0 (.inr rfl) (fun a b ha hb => by
  obtain ⟨z, hz⟩ := h4 a b ha hb
  have e : cfO cmp a b = z := by unfold cfO; rw [hz]
  rw [e]
  exact hct a b z hz) h5 h1 h2 h3 (fun x hx => .inl hx)
/-- Plainly: sorted, and a permutation. -/
theorem srtO_eq {cmp : t.den → t.den → Option (Int × Unit)} {xs : List t.den} (h1 : 0 < xs.length) (h2 : xs.length < 4611686018427387904) (h4 : ∀ a b, (a ∈ xs ∨ a = t.zero) → (b ∈ xs ∨ b = t.zero) → ∃ z, cmp a b = some (z, ()))
  (h5 : SWG (fun x => x ∈ xs ∨ x = t.zero) (ltC (cfO cmp))) : ∃ ys, srtO t cmp xs xs.length = some (ys, ()) ∧ ys.Perm xs ∧ ys.Pairwise (fun a b => ltC (cfO cmp) b a = false) := by
 refine ⟨sortL t (cfO cmp) xs xs.length, by unfold srtO; rw [if_pos ⟨h1, Nat.le_refl _, h2, h4, h5⟩], ?_⟩
 let A := { x : t.den // x ∈ xs ∨ x = t.zero }
 letI iA : Inhabited A := ⟨⟨t.zero, .inr rfl⟩⟩
 letI iT : Inhabited t.den := ⟨t.zero⟩
 let d : Array A := (xs.attach.map fun x => (⟨x.1, .inl x.2⟩ : A)).toArray
 have hds : d.size = xs.length := by simp [d]
 let ltA : A → A → Bool := fun a b => ltC (cfO cmp) a.1 b.1
 have hSW : SWO ltA := ⟨fun a => h5.irrefl a.1 a.2, fun a b c => h5.trans a.1 b.1 c.1 a.2 b.2 c.2, fun a b c => h5.ntrans a.1 b.1 c.1 a.2 b.2 c.2⟩
 have hp := pdq_sorts ltA hSW d 0 d.size (Lib.bitLen d.size) true true (Nat.zero_le _) (Nat.le_refl _) (Or.inl rfl)
 rw [hds] at hp
 have him : Im (f := (Subtype.val : A → t.den)) ltA (ltC (cfO cmp)) := ⟨rfl, fun a b => rfl⟩
 have hdm : d.map Subtype.val = xs.toArray := by
  apply Array.ext'
  simp [d, List.map_map, Function.comp_def]
 have hres : sortL t (cfO cmp) xs xs.length = ((pdq ltA d 0 xs.length (Lib.bitLen xs.length) true true).map Subtype.val).toList := by
  unfold sortL
  rw [List.take_length, List.drop_length, List.append_nil, ← hdm, im_pdq him]
 rw [hres]
 generalize pdq ltA d 0 xs.length (Lib.bitLen xs.length) true true = d' at *
 obtain ⟨⟨p1, p2, p3⟩, p4⟩ := hp
 constructor
 ·have e1 : (d'.extract 0 xs.length) = d' := by rw [← hds, ← p1]; simp
  have e2 : (d.extract 0 xs.length) = d := by rw [← hds]; simp
  rw [e1, e2] at p3
  have := p3.map Subtype.val
  rw [Array.toList_map]
  have e3 : d.toList.map Subtype.val = xs := by rw [← Array.toList_map, hdm]
  rwa [e3] at this
 ·rw [Array.toList_map, List.pairwise_map]
  refine List.pairwise_iff_getElem.2 fun i j hi hj hij => ?_
  have hs : d'.size = xs.length := by rw [p1, hds]
  simp only [Array.length_toList] at hi hj
  have := p4 i j (Nat.zero_le _) hij (by omega)
  rw [getElem!_pos d' j hj, getElem!_pos d' i hi] at this
  simpa using this
end
end Go.AM
end
