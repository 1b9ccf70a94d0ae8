/- The way in and out: a law's contract over data is its row's. Plain laws on tests, needs and rounds. Twins that can be reckoned: what they come to, the functions come to. -/
import Derived.Test.YtigglifniejbpaaAMb
import Derived.OpenShut
import Derived.Handed
import Derived.JoinedOf
import Derived.Carry
set_option linter.unusedVariables false
set_option linter.unusedSimpArgs false
section
namespace Go.AM
open Go.RowKit Go.ChangeShapes Go.WideShapes
def holes (tys : List Ty) : List SP := tys.map fun t => .c (.hole t)
def WfAll : (tys : List Ty) → spsT (holes tys) Unit → Prop
 | [], _ => True
 | t :: r, x => Wf t x.1 ∧ WfAll r x.2
section
variable {P : Program} {H : Type} {enc : TypeId × Value → H} {W : World} {base : Nat}
/-- Is a parameter's type one that is read? 'true': a struct's cells. -/
def topOk (P : Program) (t : TypeId) : Ty → Bool
 | .unit => false
 | .prod _ _ => match P.underlying t with
  | some (.struct _) => true
  | some (.array _ _) => true
  | _ => false
 | _ => match P.underlying t with
  | some (.struct _) => false
  | some (.array _ _) => false
  | _ => true
theorem trod_rel {t : TypeId} {ty : Ty} (hok : tyOk P 8 t ty = true) (htop : topOk P t ty = true) {v : Value} (hv : Value.okWide P W .any base t v) {d : DataW H} {p : List MemPlace}
  (h : DataW.Trod enc P W 0 (fun _ => true) true t v d p) : ∃ y : ty.den, Rel (allOf W) (fun _ => none) (tyV ty y) v ∧ Wf ty y := by
 obtain ⟨fuel, hf⟩ := h
 obtain ⟨y, hy, wy⟩ := trod_den hok hf
 refine ⟨y, ?_, wy⟩
 cases ty with
 | unit => simp [topOk] at htop
 | bool =>
  cases hu : P.underlying t with
  | none => simp [tyOk, hu] at hok
  | some u =>
   cases u <;> first | (exfalso; simp [topOk, hu] at htop; done) | (exfalso; simp [tyOk, hu] at hok; done) | simp [tyOk, hu] at hok
   ·obtain ⟨b, rfl⟩ := okWide_bool hu hv
    simp only [CellsD, Value.cells, List.cons.injEq, Value.bool.injEq, and_true] at hy
    subst hy; exact .bool _
 | str =>
  cases hu : P.underlying t with
  | none => simp [tyOk, hu] at hok
  | some u =>
   cases u <;> first | (exfalso; simp [topOk, hu] at htop; done) | (exfalso; simp [tyOk, hu] at hok; done) | simp [tyOk, hu] at hok
   ·obtain ⟨b, rfl⟩ := okWide_string hu hv
    simp only [CellsD, Value.cells, List.cons.injEq, Value.string.injEq, and_true] at hy
    subst hy; exact .str _
 | int k =>
  cases hu : P.underlying t with
  | none => simp [tyOk, hu] at hok
  | some u =>
   cases u <;> first | (exfalso; simp [topOk, hu] at htop; done) | (exfalso; simp [tyOk, hu] at hok; done) | simp [tyOk, hu] at hok
   ·subst hok
    obtain ⟨b, rfl⟩ := okWide_int hu hv
    simp only [CellsD, Value.cells, List.cons.injEq, Value.int.injEq, true_and, and_true] at hy
    subst hy; exact .int _ _
 | list te =>
  cases hu : P.underlying t with
  | none => simp [tyOk, hu] at hok
  | some u =>
   cases u <;> first | (exfalso; simp [topOk, hu] at htop; done) | (exfalso; simp [tyOk, hu] at hok; done) | simp [tyOk, hu] at hok
   ·obtain ⟨a, len, cap, rfl⟩ := okWide_slice hu hv
    exact .lst _ _ _ hy
 | prod a b =>
  cases hu : P.underlying t with
  | none => simp [tyOk, hu] at hok
  | some u =>
   have hcs : ∃ cs : Array Value, v = .agg cs := by
    cases u <;> simp [tyOk, hu] at hok
    ·simp only [Value.okWide, hu] at hv; obtain ⟨cs, h1, _⟩ := hv; exact ⟨cs, h1⟩
    ·obtain ⟨cs, h1, _⟩ := okWide_struct hu hv; exact ⟨cs, h1⟩
   obtain ⟨cs, rfl⟩ := hcs
   have hr := toVs_rel (μ := fun _ => none) hy
   refine .agg _ cs ?_ (fun i v x hv hx => hr.2 i v x hv (by simpa [Value.cells] using hx)) ?_
   ·have := hr.1; simpa [Value.cells] using this
   ·intro x hx; exact CellsD.one hy x (by simpa [Value.cells] using hx)
theorem trodAll_rel : ∀ {ts : List TypeId} {tys : List Ty} {vs : List Value} {ds : List (DataW H)} {p : List MemPlace}, ts.length = tys.length → (∀ (i : Nat) t ty, ts[i]? = some t → tys[i]? = some ty → tyOk P 8 t ty = true ∧ topOk P t ty = true) →
  (∀ (j : Nat) t v, ts[j]? = some t → vs[j]? = some v → Value.okWide P W .any base t v) → DataW.TrodAll enc P W 0 (fun _ => true) true ts vs ds p →
  ∃ x : spsT (holes tys) Unit, RelL (allOf W) (fun _ => none) (spsV (holes tys) x) vs ∧ WfAll tys x
 | [], [], vs, ds, p, _, _, _, h => by
  obtain ⟨rfl, _, _⟩ := trodAll_nil h
  exact ⟨(), .nil, trivial⟩
 | t :: ts, ty :: tys, vs, ds, p, hl, hok, hv, h => by
  obtain ⟨v, vs', d, ds', p1, q, rfl, rfl, rfl, h1, h2⟩ := trodAll_cons h
  obtain ⟨k1, k2⟩ := hok 0 t ty rfl rfl
  obtain ⟨y, hy, wy⟩ := trod_rel k1 k2 (hv 0 t v rfl rfl) h1
  obtain ⟨x, hx, wx⟩ := trodAll_rel (by simpa using hl) (fun i t ty ht hty => hok (i + 1) t ty (by simpa using ht) (by simpa using hty)) (fun j t v ht hv' => hv (j + 1) t v (by simpa using ht) (by simpa using hv')) h2
  exact ⟨(y, x), .cons hy hx, wy, wx⟩
 | [], _ :: _, _, _, _, hl, _, _, _ => by simp at hl
 | _ :: _, [], _, _, _, hl, _, _, _ => by simp at hl
theorem trodAll_below (hl : laidOutB P = true) {W' : World} (hb : Below W.heap.size W W') : ∀ {ts : List TypeId} {vs : List Value} {ds : List (DataW H)} {p : List MemPlace}, (∀ t ∈ ts, P.readableRec t = true ∧ t < P.types.size) →
  DataW.TrodAll enc P W 0 (fun _ => true) true ts vs ds p → (∀ x ∈ p, x.block < W.heap.size) → DataW.TrodAll enc P W' 0 (fun b => decide (b < W.heap.size)) true ts vs ds p
 | [], vs, ds, p, _, h, _ => by
  obtain ⟨rfl, rfl, rfl⟩ := trodAll_nil h
  exact trodAll_mk0
 | t :: ts, vs, ds, p, ht, h, hp => by
  obtain ⟨v, vs', d, ds', p1, q, rfl, rfl, rfl, h1, h2⟩ := trodAll_cons h
  obtain ⟨k1, k2⟩ := ht t (List.mem_cons_self ..)
  exact trodAll_cons_mk (Below.trod hl k1 k2 h1 hb (fun x hx => hp x (List.mem_append_left _ hx))) (trodAll_below hl hb (fun t ht' => ht t (List.mem_cons_of_mem _ ht')) h2 (fun x hx => hp x (List.mem_append_right _ hx)))
end
def lawTys (P : Program) : List TypeId → List Ty → Bool
 | [], [] => true
 | t :: ts, ty :: tys => tyOk P 8 t ty && topOk P t ty && P.readableRec t && Nat.blt t P.types.size && lawTys P ts tys
 | _, _ => false
theorem lawTys_all {P : Program} : ∀ {ts : List TypeId} {tys : List Ty}, lawTys P ts tys = true → ts.length = tys.length ∧ (∀ (i : Nat) t ty, ts[i]? = some t → tys[i]? = some ty → tyOk P 8 t ty = true ∧ topOk P t ty = true) ∧ ∀ t ∈ ts, P.readableRec t = true ∧ t < P.types.size
 | [], [], _ => ⟨rfl, fun i t ty h => by simp at h, fun t h => by simp at h⟩
 | t :: ts, ty :: tys, h => by
  simp only [lawTys, Bool.and_eq_true] at h
  obtain ⟨⟨⟨⟨h1, h2⟩, h3⟩, h4⟩, h5⟩ := h
  obtain ⟨k1, k2, k3⟩ := lawTys_all h5
  refine ⟨by simp [k1], fun i t' ty' ht hty => ?_, fun t' ht => ?_⟩
  ·cases i with
   | zero => simp at ht hty; subst ht; subst hty; exact ⟨h1, h2⟩
   | succ i => exact k2 i t' ty' (by simpa using ht) (by simpa using hty)
  ·rcases List.mem_cons.1 ht with rfl | ht
   ·exact ⟨h3, by simpa [Nat.blt, Nat.succ_le_iff] using h4⟩
   ·exact k3 t' ht
 | [], _ :: _, h => by simp [lawTys] at h
 | _ :: _, [], h => by simp [lawTys] at h
/-- What a law's row asks of each call. -/
theorem law_contract {P : Program} {H : Type} {enc : TypeId × Value → H} {f : FuncId} {fn : Func} {s : ChangeSpec} (tys : List Ty) (laid : laidOutB P = true) (hvars : s.vars = []) (htys : lawTys P fn.params.toList tys = true)
  {tb : TypeId} (hres : fn.resultTypes = #[tb]) (htb : P.underlying tb = some .bool)
  (hs : ∀ ds : List (DataW H), ds.length = tys.length → (s.fn H ds).results = [.lit (.bool true)] ∧ (s.fn H ds).args = ds ∧ (s.fn H ds).vars = [])
  {F : spsT (holes tys) Unit → Option (Bool × Unit)} (hct : Ct.Ok P ⟨f, holes tys, .c (.hole .bool), F⟩) (hF : ∀ x, WfAll tys x → F x = some (true, ()))
  {W : World} {base : Nat} {args : Array Value} {ds gs : List (DataW H)} {before : List MemPlace} (hval : ∀ (j : Nat) t v, fn.params[j]? = some t → args[j]? = some v → Value.okWide P W .any base t v)
  (hW : DataW.Whole enc P fn.params.toList s.vars false W args.toList ds gs before) :
  Calls P f args W fun e W' => ∃ v, e = .returned v ∧ s.post enc P fn false true false false W args v W' := by
 have hW' := hW
 obtain ⟨p, q, hA, hV, rfl, hfz, hnd⟩ := hW
 rw [hvars] at hV
 obtain ⟨rfl, rfl⟩ := trodVars_none hV
 obtain ⟨k1, k2, k3⟩ := lawTys_all htys
 obtain ⟨x, hx, wx⟩ := trodAll_rel (base := base) k1 k2 (fun j t v ht hv => hval j t v (by simpa using ht) (by simpa using hv)) hA
 have hlen : ds.length = tys.length := by
  rw [← k1]
  have : ∀ {ts : List TypeId} {vs : List Value} {ds : List (DataW H)} {p : List MemPlace}, DataW.TrodAll enc P W 0 (fun _ => true) true ts vs ds p → ds.length = ts.length := by
   intro ts
   induction ts with
   | nil => intro vs ds p h; obtain ⟨rfl, rfl, rfl⟩ := trodAll_nil h; rfl
   | cons t ts ih => intro vs ds p h; obtain ⟨v, vs', d, ds', p1, q, rfl, rfl, rfl, h1, h2⟩ := trodAll_cons h; simp [ih h2]
  exact this hA
 simp only [List.append_nil] at hW'
 have hcall := (hct x (true, ()) (hF x wx)).2 (allOf W) W args (fun b o x h => h) hx
 refine (callsIn_wide.1 hcall).mono ?_
 rintro e W' ⟨v, ι', rfl, _, _, _, hbel, hr⟩
 have hv : v = .bool true := by
  have hr' : Rel ι' (fun _ => none) (.bool true) v := hr
  cases hr'; rfl
 subst hv
 have hlt : ∀ x ∈ p, x.block < W.heap.size := fun x hx => hW'.lt x hx
 obtain ⟨s1, s2, s3⟩ := hs (ds ++ []) (by simpa using hlen)
 simp only [List.append_nil] at s1 s2 s3
 refine ⟨_, rfl, ds, [], p, [], p, [], hW', ?_, ?_, ?_, hbel.frame _, fun h => by cases h⟩
 ·simp only [List.append_nil]
  rw [s1, hres]
  exact trodAll_cons_mk (p := []) (p' := []) (shut_bool htb _) trodAll_mk0
 ·simp only [List.append_nil]
  rw [s2]
  exact trodAll_below laid hbel k3 hA hlt
 ·simp only [List.append_nil]
  rw [s3, hvars]
  rfl
end Go.AM
end
section
namespace Go.AM
theorem rng_i64 {z : Int} (h1 : -9223372036854775808 ≤ z) (h2 : z ≤ 9223372036854775807) : rng .i64 z = true := by
 have e1 : IntKind.i64.min = -9223372036854775808 := by decide
 have e2 : IntKind.i64.max = 9223372036854775807 := by decide
 simp only [rng, e1, e2, Bool.and_eq_true, decide_eq_true_eq]
 exact ⟨h1, h2⟩
theorem rng_u64 {z : Int} (h1 : 0 ≤ z) (h2 : z ≤ 18446744073709551615) : rng .u64 z = true := by
 have e1 : IntKind.u64.min = 0 := by decide
 have e2 : IntKind.u64.max = 18446744073709551615 := by decide
 simp only [rng, e1, e2, Bool.and_eq_true, decide_eq_true_eq]
 exact ⟨h1, h2⟩
theorem inb_t {i n : Int} (h : 0 ≤ i) (h2 : i < n) : inb i n = true := by simp [inb, h, h2]
theorem need_i64 {X : Type} {z : Int} {x : Option X} (h1 : -9223372036854775808 ≤ z) (h2 : z ≤ 9223372036854775807) : need (rng .i64 z) x = x := need_t (rng_i64 h1 h2)
theorem need_inb {X : Type} {i n : Int} {x : Option X} (h : 0 ≤ i) (h2 : i < n) : need (inb i n) x = x := need_t (inb_t h h2)
theorem need_d {X : Type} {p : Prop} [Decidable p] {x : Option X} (h : p) : need (decide p) x = x := need_t (decide_eq_true h)
theorem br_t {X : Type} {c : Bool} {x y : Option X} (h : c = true) : brO c x y = x := by rw [h, brO_true]
theorem br_f {X : Type} {c : Bool} {x y : Option X} (h : c = false) : brO c x y = y := by rw [h, brO_false]
theorem br_d {X : Type} {p : Prop} [Decidable p] {x y : Option X} : brO (decide p) x y = if p then x else y := by
 by_cases h : p <;> simp [h]
theorem br_eq {X : Type} {a b : Int} {x y : Option X} : brO (a == b) x y = if a = b then x else y := by
 by_cases h : a = b
 ·simp [h]
 ·have : (a == b) = false := by simpa using h
  rw [this, brO_false, if_neg h]
theorem br_not {X : Type} {c : Bool} {x y : Option X} : brO (!c) x y = brO c y x := by cases c <;> simp
theorem bind_of {A X : Type} {o : Option A} {a : A} {f : A → Option X} (h : o = some a) : bindO o f = f a := by rw [h, bindO_s]
/-- Rounds that count: 'g k' is the state at the head of round k, 'n' the number of rounds. -/
theorem iter_count {α β : Type} {step : α → Option (α ⊕ β)} (n : Nat) (g : Nat → α) {b : β} (hr : ∀ k, k < n → step (g k) = some (.inl (g (k + 1)))) (he : step (g n) = some (.inr b)) : iter step (g 0) = some b := by
 have key : ∀ m k, k + m = n → iter step (g k) = some b := by
  intro m
  induction m with
  | zero => intro k hk; rw [show k = n by omega]; exact iter_inr he
  | succ m ih => intro k hk; exact iter_inl (hr k (by omega)) (ih (k + 1) (by omega))
 exact key n 0 (by omega)
end Go.AM
end
section
namespace Go.AM
structure Le {X : Type} (a b : Option X) : Prop where
 h : ∀ y, a = some y → b = some y
def needC {X : Type} (c : Bool) (x : Option X) : Option X := match c with
 | true => x
 | false => none
def bindC {A X : Type} (o : Option A) (f : A → Option X) : Option X := match o with
 | some a => f a
 | none => none
def brC {X : Type} (c : Bool) (x y : Option X) : Option X := match c with
 | true => x
 | false => y
theorem Le.r {X : Type} {a : Option X} : Le a a := ⟨fun _ h => h⟩
theorem Le.n {X : Type} {a : Option X} : Le none a := ⟨fun _ h => by cases h⟩
theorem Le.nd {X : Type} {c : Bool} {a b : Option X} (h : Le a b) : Le (needC c a) (need c b) := by
 cases c
 ·exact Le.n
 ·simpa [needC] using h
theorem Le.br {X : Type} {c : Bool} {a b a' b' : Option X} (h : Le a a') (h' : Le b b') : Le (brC c a b) (brO c a' b') := by
 cases c
 ·simpa [brC] using h'
 ·simpa [brC] using h
theorem Le.bd {A X : Type} {o o' : Option A} {f f' : A → Option X} (h : Le o o') (hf : ∀ y, Le (f y) (f' y)) : Le (bindC o f) (bindO o' f') := ⟨fun y hy => by
 cases o with
 | none => cases hy
 | some a => rw [h.h a rfl, bindO_s]; exact (hf a).h y hy⟩
theorem Le.iter {α β : Type} {g g' : α → Option (α ⊕ β)} {n : Nat} {x : α} (h : ∀ x, Le (g x) (g' x)) : Le (iterF g n x) (AM.iter g' x) := ⟨fun y hy => by
 refine iter_of (n := n) ?_
 induction n generalizing x with
 | zero => cases hy
 | succ n ih =>
  simp only [iterF] at hy ⊢
  cases hg : g x with
  | none => rw [hg] at hy; cases hy
  | some r =>
   rw [hg] at hy
   rw [(h x).h r hg]
   cases r with
   | inl z => exact ih hy
   | inr b => exact hy⟩
theorem Le.apx {A B : Type} {F F' : (A → Option B) → A → Option B} (h : ∀ r r', (∀ x, Le (r x) (r' x)) → ∀ x, Le (F r x) (F' r' x)) : ∀ n m, n ≤ m → ∀ x, Le (AM.apx F n x) (AM.apx F' m x) := by
 intro n
 induction n with
 | zero => intro m _ x; exact Le.n
 | succ n ih =>
  intro m hm x
  cases m with
  | zero => omega
  | succ m => exact h _ _ (ih m (by omega)) x
theorem Le.fix {A B : Type} {F F' : (A → Option B) → A → Option B} {n : Nat} {x : A} (h : ∀ r r', (∀ x, Le (r x) (r' x)) → ∀ x, Le (F r x) (F' r' x)) : Le (AM.apx F n x) (fixO F' x) := ⟨fun y hy =>
 fixO_of (N := n) fun m hm => (Le.apx h n m hm x).h y hy⟩
theorem Le.done {X : Type} {a b : Option X} {y : X} (h : Le a b) (e : a = some y) : b = some y := h.h y e
end Go.AM
end
