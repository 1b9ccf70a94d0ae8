/- Twins that can be reckoned: what they come to, the functions come to. -/
import Derived.Test.YtigglifniejbpaaAM37
set_option linter.unusedVariables false
set_option linter.unusedSimpArgs false
namespace Go.AM

structure Le {X : Type} (a b : Option X) : Prop where
  h : ∀ y, a = some y → b = some y
def needC {X : Type} (c : Bool) (x : Option X) : Option X := match c with
  | true => x
  | false => none
def bindC {A X : Type} (o : Option A) (f : A → Option X) : Option X := match o with
  | some a => f a
  | none => none
def brC {X : Type} (c : Bool) (x y : Option X) : Option X := match c with
  | true => x
  | false => y

theorem Le.r {X : Type} {a : Option X} : Le a a := ⟨fun _ h => h⟩
theorem Le.n {X : Type} {a : Option X} : Le none a := ⟨fun _ h => by cases h⟩
theorem Le.nd {X : Type} {c : Bool} {a b : Option X} (h : Le a b) : Le (needC c a) (need c b) := by
  cases c
  · exact Le.n
  · simpa [needC] using h
theorem Le.br {X : Type} {c : Bool} {a b a' b' : Option X} (h : Le a a') (h' : Le b b') : Le (brC c a b) (brO c a' b') := by
  cases c
  · simpa [brC] using h'
  · simpa [brC] using h
theorem Le.bd {A X : Type} {o o' : Option A} {f f' : A → Option X} (h : Le o o') (hf : ∀ y, Le (f y) (f' y)) : Le (bindC o f) (bindO o' f') := ⟨fun y hy => by
  cases o with
  | none => cases hy
  | some a => rw [h.h a rfl, bindO_s]; exact (hf a).h y hy⟩
theorem Le.iter {α β : Type} {g g' : α → Option (α ⊕ β)} {n : Nat} {x : α} (h : ∀ x, Le (g x) (g' x)) : Le (iterF g n x) (AM.iter g' x) := ⟨fun y hy => by
  refine iter_of (n := n) ?_
  induction n generalizing x with
  | zero => cases hy
  | succ n ih =>
    simp only [iterF] at hy ⊢
    cases hg : g x with
    | none => rw [hg] at hy; cases hy
    | some r =>
      rw [hg] at hy
      rw [(h x).h r hg]
      cases r with
      | inl z => exact ih hy
      | inr b => exact hy⟩
theorem Le.apx {A B : Type} {F F' : (A → Option B) → A → Option B} (h : ∀ r r', (∀ x, Le (r x) (r' x)) → ∀ x, Le (F r x) (F' r' x)) : ∀ n m, n ≤ m → ∀ x, Le (AM.apx F n x) (AM.apx F' m x) := by
  intro n
  induction n with
  | zero => intro m _ x; exact Le.n
  | succ n ih =>
    intro m hm x
    cases m with
    | zero => omega
    | succ m => exact h _ _ (ih m (by omega)) x
theorem Le.fix {A B : Type} {F F' : (A → Option B) → A → Option B} {n : Nat} {x : A} (h : ∀ r r', (∀ x, Le (r x) (r' x)) → ∀ x, Le (F r x) (F' r' x)) : Le (AM.apx F n x) (fixO F' x) := ⟨fun y hy =>
  fixO_of (N := n) fun m hm => (Le.apx h n m hm x).h y hy⟩
theorem Le.done {X : Type} {a b : Option X} {y : X} (h : Le a b) (e : a = some y) : b = some y := h.h y e
end Go.AM
