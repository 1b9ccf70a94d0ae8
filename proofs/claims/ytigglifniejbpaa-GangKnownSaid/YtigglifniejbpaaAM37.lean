/- Plain laws on tests, needs and rounds. -/
import Derived.Test.YtigglifniejbpaaAM36
set_option linter.unusedVariables false
set_option linter.unusedSimpArgs false
namespace Go.AM

theorem rng_i64 {z : Int} (h1 : -9223372036854775808 ≤ z) (h2 : z ≤ 9223372036854775807) : rng .i64 z = true := by
  have e1 : IntKind.i64.min = -9223372036854775808 := by decide
  have e2 : IntKind.i64.max = 9223372036854775807 := by decide
  simp only [rng, e1, e2, Bool.and_eq_true, decide_eq_true_eq]
  exact ⟨h1, h2⟩
theorem rng_u64 {z : Int} (h1 : 0 ≤ z) (h2 : z ≤ 18446744073709551615) : rng .u64 z = true := by
  have e1 : IntKind.u64.min = 0 := by decide
  have e2 : IntKind.u64.max = 18446744073709551615 := by decide
  simp only [rng, e1, e2, Bool.and_eq_true, decide_eq_true_eq]
  exact ⟨h1, h2⟩
theorem inb_t {i n : Int} (h : 0 ≤ i) (h2 : i < n) : inb i n = true := by simp [inb, h, h2]
theorem need_i64 {X : Type} {z : Int} {x : Option X} (h1 : -9223372036854775808 ≤ z) (h2 : z ≤ 9223372036854775807) : need (rng .i64 z) x = x := need_t (rng_i64 h1 h2)
theorem need_inb {X : Type} {i n : Int} {x : Option X} (h : 0 ≤ i) (h2 : i < n) : need (inb i n) x = x := need_t (inb_t h h2)
theorem need_d {X : Type} {p : Prop} [Decidable p] {x : Option X} (h : p) : need (decide p) x = x := need_t (decide_eq_true h)
theorem br_t {X : Type} {c : Bool} {x y : Option X} (h : c = true) : brO c x y = x := by rw [h, brO_true]
theorem br_f {X : Type} {c : Bool} {x y : Option X} (h : c = false) : brO c x y = y := by rw [h, brO_false]
theorem br_d {X : Type} {p : Prop} [Decidable p] {x y : Option X} : brO (decide p) x y = if p then x else y := by
  by_cases h : p <;> simp [h]
theorem br_eq {X : Type} {a b : Int} {x y : Option X} : brO (a == b) x y = if a = b then x else y := by
  by_cases h : a = b
  · simp [h]
  · have : (a == b) = false := by simpa using h
    rw [this, brO_false, if_neg h]
theorem br_not {X : Type} {c : Bool} {x y : Option X} : brO (!c) x y = brO c y x := by cases c <;> simp
theorem bind_of {A X : Type} {o : Option A} {a : A} {f : A → Option X} (h : o = some a) : bindO o f = f a := by rw [h, bindO_s]

/-- Rounds that count: 'g k' is the state at the head of round k, 'n' the number of rounds. -/
theorem iter_count {α β : Type} {step : α → Option (α ⊕ β)} (n : Nat) (g : Nat → α) {b : β} (hr : ∀ k, k < n → step (g k) = some (.inl (g (k + 1)))) (he : step (g n) = some (.inr b)) : iter step (g 0) = some b := by
  have key : ∀ m k, k + m = n → iter step (g k) = some b := by
    intro m
    induction m with
    | zero => intro k hk; rw [show k = n by omega]; exact iter_inr he
    | succ m ih => intro k hk; exact iter_inl (hr k (by omega)) (ih (k + 1) (by omega))
  exact key n 0 (by omega)

/-- Rounds that count, or end early. -/
theorem iter_until {α β : Type} {step : α → Option (α ⊕ β)} (n : Nat) (g : Nat → α) (stop : Nat → Option β) {b : β} (hr : ∀ k, k < n → match stop k with | none => step (g k) = some (.inl (g (k + 1))) | some b => step (g k) = some (.inr b))
    (he : step (g n) = some (.inr b)) : iter step (g 0) = some (((List.range n).findSome? stop).getD b) := by
  have key : ∀ m k, k + m = n → iter step (g k) = some (((List.range' k m).findSome? stop).getD b) := by
    intro m
    induction m with
    | zero => intro k hk; rw [show k = n by omega]; simpa using iter_inr he
    | succ m ih =>
      intro k hk
      have h := hr k (by omega)
      rw [List.range'_succ, List.findSome?_cons]
      cases hs : stop k with
      | none => rw [hs] at h; exact iter_inl h (ih (k + 1) (by omega))
      | some c => rw [hs] at h; exact iter_inr h
  rw [List.range_eq_range']
  exact key n 0 (by omega)
end Go.AM
