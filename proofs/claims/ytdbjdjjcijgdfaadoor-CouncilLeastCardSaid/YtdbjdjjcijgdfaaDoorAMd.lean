/- Twins that can be reckoned: what they come to, the functions come to. What is computed, as a tree: read as a function (classically), or reckoned. Code with its loops as functions, out of the program's own: no text of it is needed. A loop whose number of rounds is known is gone through round by round. Strings out of their bytes; what is said of them, of maps and of clearing, plainly. -/
import Derived.Test.YtdbjdjjcijgdfaaDoorAMc
set_option linter.unusedSectionVars false
set_option linter.unusedVariables false
set_option linter.unusedSimpArgs false
section
namespace Go.AM
structure Le {X : Type} (a b : Option X) : Prop where
 h : ∀ y, a = some y → b = some y
def needC {X : Type} (c : Bool) (x : Option X) : Option X := match c with
 | true => x
 | false => none
def bindC {A X : Type} (o : Option A) (f : A → Option X) : Option X := match o with
 | some a => f a
 | none => none
def brC {X : Type} (c : Bool) (x y : Option X) : Option X := match c with
 | true => x
 | false => y
theorem Le.r {X : Type} {a : Option X} : Le a a := ⟨fun _ h => h⟩
theorem Le.n {X : Type} {a : Option X} : Le none a := ⟨fun _ h => by cases h⟩
theorem Le.nd {X : Type} {c : Bool} {a b : Option X} (h : Le a b) : Le (needC c a) (need c b) := by
 cases c
 ·exact Le.n
 ·simpa [needC] using h
theorem Le.br {X : Type} {c : Bool} {a b a' b' : Option X} (h : Le a a') (h' : Le b b') : Le (brC c a b) (brO c a' b') := by
 cases c
 ·simpa [brC] using h'
 ·simpa [brC] using h
theorem Le.bd {A X : Type} {o o' : Option A} {f f' : A → Option X} (h : Le o o') (hf : ∀ y, Le (f y) (f' y)) : Le (bindC o f) (bindO o' f') := ⟨fun y hy => by
 cases o with
 | none => cases hy
 | some a => rw [h.h a rfl, bindO_s]; exact (hf a).h y hy⟩
theorem Le.iter {α β : Type} {g g' : α → Option (α ⊕ β)} {n : Nat} {x : α} (h : ∀ x, Le (g x) (g' x)) : Le (iterF g n x) (AM.iter g' x) := ⟨fun y hy => by
 refine iter_of (n := n) ?_
 induction n generalizing x with
 | zero => cases hy
 | succ n ih =>
  simp only [iterF] at hy ⊢
  cases hg : g x with
  | none => rw [hg] at hy; cases hy
  | some r =>
   rw [hg] at hy
   rw [(h x).h r hg]
   cases r with
   | inl z => exact ih hy
   | inr b => exact hy⟩
theorem Le.apx {A B : Type} {F F' : (A → Option B) → A → Option B} (h : ∀ r r', (∀ x, Le (r x) (r' x)) → ∀ x, Le (F r x) (F' r' x)) : ∀ n m, n ≤ m → ∀ x, Le (AM.apx F n x) (AM.apx F' m x) := by
 intro n
 induction n with
 | zero => intro m _ x; exact Le.n
 | succ n ih =>
  intro m hm x
  cases m with
  | zero => omega
  | succ m => exact h _ _ (ih m (by omega)) x
theorem Le.fix {A B : Type} {F F' : (A → Option B) → A → Option B} {n : Nat} {x : A} (h : ∀ r r', (∀ x, Le (r x) (r' x)) → ∀ x, Le (F r x) (F' r' x)) : Le (AM.apx F n x) (fixO F' x) := ⟨fun y hy =>
 fixO_of (N := n) fun m hm => (Le.apx h n m hm x).h y hy⟩
theorem Le.done {X : Type} {a b : Option X} {y : X} (h : Le a b) (e : a = some y) : b = some y := h.h y e
end Go.AM
end
section
namespace Go.AM
/-- One way or the other. -/
@[reducible] def onS {A B : Type} {Y : Type _} (f : A → Y) (g : B → Y) (z : A ⊕ B) : Y := match z with
 | .inl a => f a
 | .inr b => g b
/-- What is computed. 'A0', 'B0': of calls of itself. -/
inductive Tr : Type → Type → Type → Type 1 where
 | ret {A0 B0 X : Type} (x : X) : Tr A0 B0 X
 | no {A0 B0 X : Type} : Tr A0 B0 X
 | br {A0 B0 X : Type} (c : Bool) (a b : Tr A0 B0 X) : Tr A0 B0 X
 | am {A0 B0 X : Type} (d : DecidableEq X) (a b : Tr A0 B0 X) : Tr A0 B0 X
 | nd {A0 B0 X : Type} (c : Bool) (a : Tr A0 B0 X) : Tr A0 B0 X
 | bd {A0 B0 A X : Type} (o : Tr A0 B0 A) (k : A → Tr A0 B0 X) : Tr A0 B0 X
 | jx {A0 B0 A X : Type} (o : Tr A0 B0 (A ⊕ X)) (k : A → Tr A0 B0 X) : Tr A0 B0 X
 | sm {A0 B0 A B X : Type} (z : A ⊕ B) (f : A → Tr A0 B0 X) (g : B → Tr A0 B0 X) : Tr A0 B0 X
 | it {A0 B0 A B : Type} (step : A → Tr A0 B0 (A ⊕ B)) (x : A) : Tr A0 B0 B
 | rc {A0 B0 : Type} (x : A0) : Tr A0 B0 B0
 | fx {A0 B0 A1 B1 : Type} (body : A1 → Tr A1 B1 B1) (x : A1) : Tr A0 B0 B1
 | up {A0 B0 X : Type} (t : Tr Unit Unit X) : Tr A0 B0 X
 | of {A0 B0 X : Type} (o : Option X) : Tr A0 B0 X
 | mp {A0 B0 E A B : Type} (step : E → A → Tr A0 B0 (A ⊕ B)) (es : List E) (x : A) : Tr A0 B0 (A ⊕ B)
 | mq {A0 B0 E A : Type} (step : E → A → Tr A0 B0 A) (es : List E) (x : A) : Tr A0 B0 A
abbrev Tr0 (X : Type) := Tr Unit Unit X
noncomputable def run : {A0 B0 X : Type} → (A0 → Option B0) → Tr A0 B0 X → Option X
 | _, _, _, _, .ret x => some x
 | _, _, _, _, .no => none
 | _, _, _, r, .br c a b => brO c (run r a) (run r b)
 | _, _, _, r, .am _ a b => ambO (run r a) (run r b)
 | _, _, _, r, .nd c a => need c (run r a)
 | _, _, _, r, .bd o k => bindO (run r o) fun a => run r (k a)
 | _, _, _, r, .jx o k => bindO (run r o) (onS (fun a => run r (k a)) some)
 | _, _, _, r, .sm z f g => match z with
  | .inl x => run r (f x)
  | .inr y => run r (g y)
 | _, _, _, r, .it step x => iter (fun a => run r (step a)) x
 | _, _, _, r, .rc x => r x
 | _, _, _, _, .fx body x => fixO (fun r y => run r (body y)) x
 | _, _, _, _, .up t => run (fun _ => none) t
 | _, _, _, _, .of o => o
 | _, _, _, r, .mp step es x => anyOrd (fun l => goL (fun e a => run r (step e a)) l x) es
 | _, _, _, r, .mq step es x => anyOrd (fun l => goM (fun e a => run r (step e a)) l x) es
noncomputable abbrev run0 {X : Type} (t : Tr0 X) : Option X := run (fun _ => none) t
section
variable {A0 B0 A1 B1 A B X : Type} {r : A0 → Option B0}
theorem run_ret {x : X} : run r (.ret x) = some x := rfl
theorem run_br {c : Bool} {a b : Tr A0 B0 X} : run r (.br c a b) = brO c (run r a) (run r b) := rfl
theorem run_nd {c : Bool} {a : Tr A0 B0 X} : run r (.nd c a) = need c (run r a) := rfl
theorem run_bd {o : Tr A0 B0 A} {k : A → Tr A0 B0 X} : run r (.bd o k) = bindO (run r o) fun a => run r (k a) := rfl
theorem run_jx {o : Tr A0 B0 (A ⊕ X)} {k : A → Tr A0 B0 X} : run r (.jx o k) = bindO (run r o) (onS (fun a => run r (k a)) some) := rfl
theorem run_sl {x : A} {f : A → Tr A0 B0 X} {g : B → Tr A0 B0 X} : run r (.sm (.inl x) f g) = run r (f x) := rfl
theorem run_sr {y : B} {f : A → Tr A0 B0 X} {g : B → Tr A0 B0 X} : run r (.sm (.inr y) f g) = run r (g y) := rfl
theorem run_it {step : A → Tr A0 B0 (A ⊕ B)} {x : A} : run r (.it step x) = iter (fun a => run r (step a)) x := rfl
theorem run_of {o : Option X} : run r (.of o) = o := rfl
theorem run_mq {E : Type} {step : E → A → Tr A0 B0 A} {es : List E} {x : A} : run r (.mq step es x) = anyOrd (fun l => goM (fun e a => run r (step e a)) l x) es := rfl
end
/-- Both, if they are the same: reckoned. -/
def ambC {X : Type} (d : DecidableEq X) (x y : Option X) : Option X := match x, y with
 | some a, some b => match d a b with
  | .isTrue _ => some a
  | .isFalse _ => none
 | _, _ => none
theorem Le.am {X : Type} {d : DecidableEq X} {a b a' b' : Option X} (h : Le a a') (h' : Le b b') : Le (ambC d a b) (ambO a' b') := ⟨fun y hy => by
 cases a with
 | none => cases hy
 | some u => cases b with
  | none => cases hy
  | some v =>
   simp only [ambC] at hy
   split at hy
   ·rename_i e _; cases hy; subst e
    rw [h.h _ rfl, h'.h _ rfl, ambO_same]
   ·cases hy⟩
/-- Reckoned. -/
def cmp (n : Nat) : {A0 B0 X : Type} → (A0 → Option B0) → Tr A0 B0 X → Option X
 | _, _, _, _, .ret x => some x
 | _, _, _, _, .no => none
 | _, _, _, r, .br c a b => brC c (cmp n r a) (cmp n r b)
 | _, _, _, r, .am d a b => ambC d (cmp n r a) (cmp n r b)
 | _, _, _, r, .nd c a => needC c (cmp n r a)
 | _, _, _, r, .bd o k => bindC (cmp n r o) fun a => cmp n r (k a)
 | _, _, _, r, .jx o k => bindC (cmp n r o) (onS (fun a => cmp n r (k a)) some)
 | _, _, _, r, .sm z f g => match z with
  | .inl x => cmp n r (f x)
  | .inr y => cmp n r (g y)
 | _, _, _, r, .it step x => iterF (fun a => cmp n r (step a)) n x
 | _, _, _, r, .rc x => r x
 | _, _, _, _, .fx body x => apx (fun r y => cmp n r (body y)) n x
 | _, _, _, _, .up t => cmp n (fun _ => none) t
 | _, _, _, _, .of _ => none
 | _, _, _, _, .mp _ _ _ => none
 | _, _, _, _, .mq _ _ _ => none
theorem cmp_le (n : Nat) : {A0 B0 X : Type} → (r r' : A0 → Option B0) → (∀ x, Le (r x) (r' x)) → (t : Tr A0 B0 X) → Le (cmp n r t) (run r' t)
 | _, _, _, _, _, _, .ret _ => Le.r
 | _, _, _, _, _, _, .no => Le.n
 | _, _, _, r, r', h, .br _ a b => Le.br (cmp_le n r r' h a) (cmp_le n r r' h b)
 | _, _, _, r, r', h, .am _ a b => Le.am (cmp_le n r r' h a) (cmp_le n r r' h b)
 | _, _, _, r, r', h, .nd _ a => Le.nd (cmp_le n r r' h a)
 | _, _, _, r, r', h, .bd o k => Le.bd (cmp_le n r r' h o) fun a => cmp_le n r r' h (k a)
 | _, _, _, r, r', h, .jx o k => Le.bd (cmp_le n r r' h o) fun z => match z with
  | .inl a => cmp_le n r r' h (k a)
  | .inr _ => Le.r
 | _, _, _, r, r', h, .sm (.inl x) f g => cmp_le n r r' h (f x)
 | _, _, _, r, r', h, .sm (.inr y) f g => cmp_le n r r' h (g y)
 | _, _, _, r, r', h, .it step x => Le.iter fun a => cmp_le n r r' h (step a)
 | _, _, _, _, _, h, .rc x => h x
 | _, _, _, _, _, _, .fx body x => Le.fix fun r r' h y => cmp_le n r r' h (body y)
 | _, _, _, _, _, _, .up t => cmp_le n _ _ (fun _ => Le.r) t
 | _, _, _, _, _, _, .of _ => Le.n
 | _, _, _, _, _, _, .mp _ _ _ => Le.n
 | _, _, _, _, _, _, .mq _ _ _ => Le.n
@[reducible] def Tr.ni {A0 B0 X : Type} (z : Int) (a : Tr A0 B0 X) : Tr A0 B0 X := .nd (rng .i64 z) a
@[reducible] def Tr.nb {A0 B0 X : Type} (i n : Int) (a : Tr A0 B0 X) : Tr A0 B0 X := .nd (inb i n) a
theorem run_ni {A0 B0 X : Type} {r : A0 → Option B0} {z : Int} {a : Tr A0 B0 X} : run r (.ni z a) = need (rng .i64 z) (run r a) := rfl
theorem run_nb {A0 B0 X : Type} {r : A0 → Option B0} {i n : Int} {a : Tr A0 B0 X} : run r (.nb i n a) = need (inb i n) (run r a) := rfl
theorem cmp_done {X : Type} {t : Tr0 X} {y : X} (n : Nat) (h : cmp n (fun _ => none) t = some y) : run0 t = some y := (cmp_le n _ _ (fun _ => Le.r) t).h y h
/-- Ways that meet, apart again. -/
def flatK : {A0 B0 A X : Type} → Tr A0 B0 A → (A → Tr A0 B0 X) → Tr A0 B0 X
 | _, _, _, _, .ret x, k => k x
 | _, _, _, _, .no, _ => .no
 | _, _, _, _, .br c a b, k => .br c (flatK a k) (flatK b k)
 | _, _, _, _, .am d a b, k => .bd (.am d a b) k
 | _, _, _, _, .nd c a, k => .nd c (flatK a k)
 | _, _, _, _, .bd o f, k => .bd o fun a => flatK (f a) k
 | _, _, _, _, .jx o f, k => flatK o (onS (fun a => flatK (f a) k) k)
 | _, _, _, _, .sm z f g, k => .sm z (fun x => flatK (f x) k) (fun y => flatK (g y) k)
 | _, _, _, _, .it step x, k => .bd (.it step x) k
 | _, _, _, _, .rc x, k => .bd (.rc x) k
 | _, _, _, _, .fx b x, k => .bd (.fx b x) k
 | _, _, _, _, .up t, k => .bd (.up t) k
 | _, _, _, _, .of o, k => .bd (.of o) k
 | _, _, _, _, .mp s es x, k => .bd (.mp s es x) k
 | _, _, _, _, .mq s es x, k => .bd (.mq s es x) k
def flat {A0 B0 X : Type} (t : Tr A0 B0 X) : Tr A0 B0 X := flatK t .ret
theorem bind_br {A X : Type} {c : Bool} {a b : Option A} {f : A → Option X} : bindO (brO c a b) f = brO c (bindO a f) (bindO b f) := by cases c <;> simp
theorem need_ff {X : Type} {x : Option X} : need false x = none := by
 cases h : need false x with
 | none => rfl
 | some y => have := (need_some h).1; cases this
theorem bind_nd {A X : Type} {c : Bool} {a : Option A} {f : A → Option X} : bindO (need c a) f = need c (bindO a f) := by
 cases c
 ·rw [need_ff, need_ff, bindO_n]
 ·rw [need_t rfl, need_t rfl]
theorem bind_bd {A B X : Type} {o : Option A} {f : A → Option B} {g : B → Option X} : bindO (bindO o f) g = bindO o fun a => bindO (f a) g := by
 cases o with
 | none => rw [bindO_n, bindO_n, bindO_n]
 | some a => rw [bindO_s, bindO_s]
theorem bind_some' {A : Type} {o : Option A} : bindO o (fun a => some a) = o := by
 cases o with
 | none => rw [bindO_n]
 | some a => rw [bindO_s]
theorem run_flatK : {A0 B0 A X : Type} → (r : A0 → Option B0) → (t : Tr A0 B0 A) → (k : A → Tr A0 B0 X) → run r (flatK t k) = bindO (run r t) fun a => run r (k a)
 | _, _, _, _, r, .ret x, k => by simp only [flatK, run, bindO_s]
 | _, _, _, _, r, .no, k => by simp only [flatK, run, bindO_n]
 | _, _, _, _, r, .br c a b, k => by simp only [flatK, run, bind_br, run_flatK r a k, run_flatK r b k]
 | _, _, _, _, r, .am d a b, k => by simp only [flatK, run]
 | _, _, _, _, r, .nd c a, k => by simp only [flatK, run, bind_nd, run_flatK r a k]
 | _, _, _, _, r, .bd o f, k => by simp only [flatK, run, bind_bd, run_flatK r (f _) k]
 | _, _, _, _, r, .jx o f, k => by
  simp only [flatK, run, bind_bd, run_flatK r o _]
  congr 1
  funext z
  cases z with
  | inl a => simp only [run_flatK r (f a) k]
  | inr x => simp only [bindO_s]
 | _, _, _, _, r, .sm z f g, k => by
  cases z with
  | inl x => simp only [flatK, run, run_flatK r (f x) k]
  | inr y => simp only [flatK, run, run_flatK r (g y) k]
 | _, _, _, _, r, .it step x, k => by simp only [flatK, run]
 | _, _, _, _, r, .rc x, k => by simp only [flatK, run]
 | _, _, _, _, r, .fx b x, k => by simp only [flatK, run]
 | _, _, _, _, r, .up t, k => by simp only [flatK, run]
 | _, _, _, _, r, .of o, k => by simp only [flatK, run]
 | _, _, _, _, r, .mp s es x, k => by simp only [flatK, run]
 | _, _, _, _, r, .mq s es x, k => by simp only [flatK, run]
theorem run_flat {A0 B0 X : Type} {r : A0 → Option B0} {t : Tr A0 B0 X} : run r (flat t) = run r t := by
 unfold flat
 rw [run_flatK]
 simp only [run]
 exact bind_some'
end Go.AM
end
section
namespace Go.AM
/-- A loop that stands in a code. -/
inductive LR (P : Program) (N : Nat) (out : Option Nat) (base : Nat) : Type 1 where
 | l (x : LoopS P N out base)
 | r (x : RangeS P N out base)
 | m (x : MapS P N out base)
 | x
/-- How many loops stand in a code, those within loops left out. -/
def nl : C → Nat
 | .seq a b => nl a + nl b
 | .cond _ a b => nl a + nl b
 | .block _ a => nl a
 | .loop _ => 1
 | .rangeF _ _ _ _ => 1
 | .mapR _ _ _ _ _ _ _ _ _ _ _ => 1
 | _ => 0
section
variable {P : Program} {N : Nat} {out : Option Nat} {base : Nat}
def lrAt : List (LR P N out base) → Nat → LR P N out base
 | [], _ => .x
 | y :: _, 0 => y
 | _ :: r, n + 1 => lrAt r n
/-- The code with these loops, from number i on. -/
def dO (ls : List (LR P N out base)) : C → Nat → D P N out base
 | .skip, _ => .skip
 | .reg is, _ => .reg is
 | .draw ps is, _ => .draw ps is
 | .seq a b, i => .seq (dO ls a i) (dO ls b (i + nl a))
 | .cond c a b, i => .cond c (dO ls a i) (dO ls b (i + nl a))
 | .block n a, i => .block n (dO ls a i)
 | .loop c, i => match lrAt ls i with
  | .l l => .loop l
  | _ => .loop (deadLoop c)
 | .exit n, _ => .exit n
 | .ret, _ => .ret
 | .rangeF f ps a b, i => match lrAt ls i with
  | .r l => .rangeF l
  | _ => .rangeF (deadRange f ps a b)
 | .mapR p m t cl e kt kg vt vg d b, i => match lrAt ls i with
  | .m l => .mapR l
  | _ => .mapR (deadMap p m t cl e kt kg vt vg d b)
end
/-- The body of the k-th loop of a code; 'b': of one over a function, its second part. -/
def loopAt (b : Bool) : C → Nat → C
 | .seq x y, k => match Nat.blt k (nl x) with
  | true => loopAt b x k
  | false => loopAt b y (k - nl x)
 | .cond _ x y, k => match Nat.blt k (nl x) with
  | true => loopAt b x k
  | false => loopAt b y (k - nl x)
 | .block _ x, k => loopAt b x k
 | .loop c, _ => c
 | .rangeF _ _ x y, _ => match b with
  | true => y
  | false => x
 | .mapR _ _ _ _ _ _ _ _ _ _ x, _ => x
 | c, _ => c
def pick : C → List (Nat × Bool) → C
 | c, [] => c
 | c, (k, b) :: r => pick (loopAt b c k) r
/-- A function's code. -/
def kd (P : Program) (f : Func) : C := match trF P f with
 | some t => t.body
 | none => .skip
@[reducible] def hI : SP := .c (.hole (.int .i64))
@[reducible] def hL : SP := .c (.hole (.list (.int .i64)))
@[reducible] def hLL : SP := .c (.hole (.list (.list (.int .i64))))
@[reducible] def tI : Ty := .int .i64
@[reducible] def tL : Ty := .list (.int .i64)
@[reducible] def tLL : Ty := .list (.list (.int .i64))
end Go.AM
end
section
namespace Go.AM
section
variable {P : Program} {N : Nat} {out : Option Nat} {base : Nat}
/-- So many rounds at most. -/
noncomputable def kUn {R : Type} (kz : Kz R) (cx : Cx) (d : D P N out base) : Nat → Env → Nat → Blks → List Nat → Kc R → R
 | 0, _, _, _, _, _ => kz.no
 | n + 1, env, nx, bl, ms, K => kE kz cx ar0 d env nx bl ms fun e env nx bl ms => match e with
  | .normal => kUn kz cx d n env nx bl ms K
  | .exit id => K (.exit id) env nx bl ms
  | .ret => K .ret env nx bl ms
theorem kUn_ok {cx : Cx} (hcx : cx.Ok P) {d : D P N out base} {X : Type} {Q : Ex → St → Prop} {r : X} : ∀ {k : Nat} {env : Env} {nx : Nat} {bl : Blks} {ms : List Nat} {K : Kc (Option X)}, kUn (kzO X) cx d k env nx bl ms K = some r →
  (∀ e env nx bl ms, K e env nx bl ms = some r → Q e ⟨env, ⟨nx, bl⟩, ms⟩) → unr (std P N out base) d.er k ⟨env, ⟨nx, bl⟩, ms⟩ Q := by
 intro k
 induction k with
 | zero => intro env nx bl ms K h hK; cases h
 | succ k ih =>
  intro env nx bl ms K h hK
  refine kE_ok hcx h fun e env nx bl ms hk => ?_
  cases e with
  | normal => exact ih hk hK
  | exit id => exact hK _ _ _ _ _ hk
  | ret => exact hK _ _ _ _ _ hk
noncomputable def mkUnr (mixed : P.follows .mixedOrders = true) (cx : Cx) (hcx : cx.Ok P) (d : D P N out base) (k : Nat) : LoopS P N out base where
 c := d.er
 run kz env nx bl ms K := kUn kz cx d k env nx bl ms K
 ok := by
  intro X env nx bl ms K r h Q hQ
  exact loop_unr (drawOk mixed) (kUn_ok hcx h hQ)
end
/-! Loops over maps, as functions of their data. -/
section
variable {P : Program} {N : Nat} {out : Option Nat} {base : Nat}
theorem get_none : ∀ {env : Env} {t : Nat}, t ∉ env.map (·.1) → get t env = .any
 | [], _, _ => rfl
 | (s, v) :: r, t, h => by
  simp only [List.map_cons, List.mem_cons, not_or] at h
  rw [get_cons, if_neg (fun e => h.1 e.symm)]
  exact get_none h.2
/-- A round, from a pattern's state and an entry. -/
noncomputable def mapE {R : Type} (kz : Kz R) (cx : Cx) (prel : List Nat) (p : Pat) (xs : Outs) (mn it : Nat) (cl : List Nat) (e : Option Nat) (kt : Ty) (kg : Bool) (vt : Ty) (vg : Bool) {base2 : Nat} (body : D P N out base2) (inl : p.T → R) (inr : xs.T → R)
  (ent : kt.den × vt.den) (x : p.T) : R :=
 fN (base + p.locs.length) fun nid => p.go nid x fun env _ bl ms => match get mn env with
  | .mp id => match ments bl kt kg vt vg id with
   | some es => fEnv (entE e kt kg vt vg ent ((it, .ptr nid 0) :: env)) fun env => fN (nid + 1) fun nx => kE kz cx ar0 body env nx bl ms fun ex env nx bl ms => match ex with
    | .normal => match get it env with
     | .ptr i o => match an (Nat.beq i nid) (Nat.beq o 0) with
      | true => match get mn env with
       | .mp id' => match Nat.beq id' id with
        | true => match ments bl kt kg vt vg id with
         | some es' => kz.nd (sameD es' es) (p.rd kz.no prel base (forgetE (it :: cl) env) nx bl ms inl)
         | none => kz.no
        | false => kz.no
       | _ => kz.no
      | false => kz.no
     | _ => kz.no
    | .exit i => xs.rd kz.no prel base (.exit i) env nx bl ms inr
    | .ret => xs.rd kz.no prel base .ret env nx bl ms inr
   | none => kz.no
  | _ => kz.no
/-- Ahead of the rounds. -/
def mapK {R : Type} (kz : Kz R) (cx : Cx) (prel : List Nat) (p : Pat) (pre : List Itm) (mn it : Nat) (cl : List Nat) (kt : Ty) (kg : Bool) (vt : Ty) (vg : Bool) (env : Env) (nx : Nat) (bl : Blks) (ms : List Nat) (k : List (kt.den × vt.den) → p.T → R) : R :=
 kI kz cx ar0 pre env nx bl fun env nx bl => match get mn env with
  | .mp id => match ments bl kt kg vt vg id with
   | some es => p.rd kz.no prel base (forgetE (it :: cl) env) nx bl ms fun x => k es x
   | none => kz.no
  | _ => kz.no
theorem map_core (mixed : P.follows .mixedOrders = true) {cx : Cx} (hcx : cx.Ok P) {p : Pat} {xs : Outs} (hxs : xs.all (fun p => !exEq p.1 .normal) = true) {pre : List Itm} {mn it : Nat} {cl : List Nat} {e : Option Nat} {kt vt : Ty} {kg vg : Bool} {bid : Nat}
  (hcl : p.env.all (fun q => !(it :: cl).contains q.1) = true) {base2 : Nat} (hb2 : base2 = base + p.locs.length + 1) {body : D P N out base2} {step : kt.den × vt.den → p.T → Option (p.T ⊕ xs.T)}
  (hstep : ∀ ent x, mapE (base := base) (kzO (p.T ⊕ xs.T)) cx (List.range base) p xs mn it cl e kt kg vt vg body (fun y => some (.inl y)) (fun b => some (.inr b)) ent x = step ent x) {X : Type} {env : Env} {nx : Nat} {bl : Blks} {ms : List Nat} {r : X} {Q : Ex → St → Prop}
  {k : List (kt.den × vt.den) → p.T → Option X} (h : mapK (base := base) (kzO X) cx (List.range base) p pre mn it cl kt kg vt vg env nx bl ms k = some r)
  (hk : ∀ es x, k es x = some r → ∃ res, (∀ l : List (kt.den × vt.den), l.Perm es → goL step l x = some res) ∧ (match res with | .inl y => Q .normal (p.st base y) | .inr b => Q (unEx bid (xs.st base b).1) (xs.st base b).2)) :
  (std P N out base).mapR (.mapR pre (.t mn) it cl e kt kg vt vg bid body.er) ⟨env, ⟨nx, bl⟩, ms⟩ Q := by
 subst hb2
 refine map_rule (fun b => drawOk mixed) (I := p.st base) (X := xs.st base) (step := step) (nid := base + p.locs.length) (fun x s hs => ?_) (fun x => rfl) (fun ent x r hx => ?_) ?_
 ·refine get_none (env := p.E x) fun hm => ?_
  rw [Pat.E_slots] at hm
  obtain ⟨q, hq, rfl⟩ := List.mem_map.1 hm
  have := List.all_eq_true.1 hcl q hq
  simp only [Bool.not_eq_true', ← Bool.not_eq_true] at this
  exact this (by simpa using hs)
 ·rw [← hstep ent x] at hx
  unfold mapE at hx
  rw [fN_eq, Pat.go_eq] at hx
  split at hx <;> try (cases hx; done)
  rename_i id hid
  split at hx <;> try (cases hx; done)
  rename_i es hes
  rw [fEnv_eq, fN_eq] at hx
  refine ⟨id, es, hid, hes, kE_ok hcx hx fun ex env nx bl ms hk => ?_⟩
  cases ex with
  | normal =>
   simp only at hk
   split at hk <;> try (cases hk; done)
   rename_i i o hit
   split at hk <;> try (cases hk; done)
   rename_i hio
   rw [an_iff] at hio
   have e1 := Nat.eq_of_beq_eq_true hio.1
   have e2 := Nat.eq_of_beq_eq_true hio.2
   subst e1; subst e2
   split at hk <;> try (cases hk; done)
   rename_i id' hid'
   split at hk <;> try (cases hk; done)
   rename_i hbe
   have e3 := Nat.eq_of_beq_eq_true hbe
   subst e3
   split at hk <;> try (cases hk; done)
   rename_i es' hes'
   have hk2 := (need_some hk).2
   have e4 := sameD_eq (need_some hk).1
   clear hk
   subst e4
   obtain ⟨y, π, h1, h2⟩ := Pat.rd_ent hk2
   cases h1
   exact ⟨rfl, hit, hid', hes', π, h2⟩
  | exit i =>
   obtain ⟨y, π, q1, q2, q3⟩ := Outs.rd_ent hk
   cases q1
   exact ⟨by simp, q2, π, q3⟩
  | ret =>
   obtain ⟨y, π, q1, q2, q3⟩ := Outs.rd_ent hk
   cases q1
   exact ⟨by simp, q2, π, q3⟩
 ·unfold mapK at h
  refine kI_ok hcx h fun env nx bl h => ?_
  split at h <;> try (cases h; done)
  rename_i id hid
  split at h <;> try (cases h; done)
  rename_i es hes
  obtain ⟨x, π, h1, h2⟩ := Pat.rd_ent h
  obtain ⟨res, h3, h4⟩ := hk es x h1
  exact ⟨id, es, x, π, res, hid, hes, h2, h3, by cases res <;> exact h4⟩
/-- Of no way out. -/
def noB {R : Type} : Empty → R := fun b => nomatch b
theorem goM_L {E α : Type} {step : E → α → Option α} : ∀ {l : List E} {x y : α}, goM step l x = some y → goL (fun e x => (step e x).map (Sum.inl (β := Empty))) l x = some (.inl y)
 | [], x, y, h => by cases h; rfl
 | e :: r, x, y, h => by
  simp only [goM] at h
  split at h <;> try (cases h; done)
  rename_i z hz
  simp only [goL, hz, Option.map_some]
  exact goM_L h
theorem map_core0 (mixed : P.follows .mixedOrders = true) {cx : Cx} (hcx : cx.Ok P) {p : Pat} {pre : List Itm} {mn it : Nat} {cl : List Nat} {e : Option Nat} {kt vt : Ty} {kg vg : Bool} {bid : Nat}
  (hcl : p.env.all (fun q => !(it :: cl).contains q.1) = true) {base2 : Nat} (hb2 : base2 = base + p.locs.length + 1) {body : D P N out base2} {step : kt.den × vt.den → p.T → Option p.T}
  (hstep : ∀ ent x, mapE (base := base) (kzO p.T) cx (List.range base) p [] mn it cl e kt kg vt vg body (fun y => some y) noB ent x = step ent x) {X : Type} {env : Env} {nx : Nat} {bl : Blks} {ms : List Nat} {r : X} {Q : Ex → St → Prop}
  {k : List (kt.den × vt.den) → p.T → Option X} (h : mapK (base := base) (kzO X) cx (List.range base) p pre mn it cl kt kg vt vg env nx bl ms k = some r)
  (hk : ∀ es x, k es x = some r → ∃ y, (∀ l : List (kt.den × vt.den), l.Perm es → goM step l x = some y) ∧ Q .normal (p.st base y)) :
  (std P N out base).mapR (.mapR pre (.t mn) it cl e kt kg vt vg bid body.er) ⟨env, ⟨nx, bl⟩, ms⟩ Q := by
 subst hb2
 refine map_rule (fun b => drawOk mixed) (I := p.st base) (X := fun b : Empty => nomatch b) (step := fun e x => (step e x).map (Sum.inl (β := Empty))) (nid := base + p.locs.length) (fun x s hs => ?_) (fun x => rfl) (fun ent x r hx => ?_) ?_
 ·refine get_none (env := p.E x) fun hm => ?_
  rw [Pat.E_slots] at hm
  obtain ⟨q, hq, rfl⟩ := List.mem_map.1 hm
  have := List.all_eq_true.1 hcl q hq
  simp only [Bool.not_eq_true', ← Bool.not_eq_true] at this
  exact this (by simpa using hs)
 ·obtain ⟨y0, hx0, rfl⟩ := Option.map_eq_some_iff.1 hx
  clear hx
  rename _ => hx
  rw [← hstep ent x] at hx
  unfold mapE at hx
  rw [fN_eq, Pat.go_eq] at hx
  split at hx <;> try (cases hx; done)
  rename_i id hid
  split at hx <;> try (cases hx; done)
  rename_i es hes
  rw [fEnv_eq, fN_eq] at hx
  refine ⟨id, es, hid, hes, kE_ok hcx hx fun ex env nx bl ms hk => ?_⟩
  cases ex with
  | normal =>
   simp only at hk
   split at hk <;> try (cases hk; done)
   rename_i i o hit
   split at hk <;> try (cases hk; done)
   rename_i hio
   rw [an_iff] at hio
   have e1 := Nat.eq_of_beq_eq_true hio.1
   have e2 := Nat.eq_of_beq_eq_true hio.2
   subst e1; subst e2
   split at hk <;> try (cases hk; done)
   rename_i id' hid'
   split at hk <;> try (cases hk; done)
   rename_i hbe
   have e3 := Nat.eq_of_beq_eq_true hbe
   subst e3
   split at hk <;> try (cases hk; done)
   rename_i es' hes'
   have hk2 := (need_some hk).2
   have e4 := sameD_eq (need_some hk).1
   clear hk
   subst e4
   obtain ⟨y, π, h1, h2⟩ := Pat.rd_ent hk2
   cases h1
   exact ⟨rfl, hit, hid', hes', π, h2⟩
  | exit i => cases hk
  | ret => cases hk
 ·unfold mapK at h
  refine kI_ok hcx h fun env nx bl h => ?_
  split at h <;> try (cases h; done)
  rename_i id hid
  split at h <;> try (cases h; done)
  rename_i es hes
  obtain ⟨x, π, h1, h2⟩ := Pat.rd_ent h
  obtain ⟨y, h3, h4⟩ := hk es x h1
  exact ⟨id, es, x, π, .inl y, hid, hes, h2, fun l hl => goM_L (h3 l hl), h4⟩
/-- The same, without a way out. -/
noncomputable def mkMapR0 (mixed : P.follows .mixedOrders = true) (cx : Cx) (hcx : cx.Ok P) (prel : List Nat) (hprel : prel = List.range base) (p : Pat) (pre : List Itm) (mn it : Nat) (cl : List Nat)
  (e : Option Nat) (kt : Ty) (kg : Bool) (vt : Ty) (vg : Bool) (bid : Nat) (hcl : p.env.all (fun q => !(it :: cl).contains q.1) = true) (base2 : Nat) (hb2 : base2 = base + p.locs.length + 1) (body : D P N out base2) (step : kt.den × vt.den → p.T → Option p.T)
  (hstep : ∀ ent x, mapE (base := base) (kzO p.T) cx prel p [] mn it cl e kt kg vt vg body (fun y => some y) noB ent x = step ent x) : MapS P N out base where
 pre := pre
 m := .t mn
 it := it
 cl := cl
 e := e
 kt := kt
 kg := kg
 vt := vt
 vg := vg
 bid := bid
 b := body.er
 run kz env nx bl ms K := mapK (base := base) kz cx prel p pre mn it cl kt kg vt vg env nx bl ms fun es x => kz.bd (anyOrd (fun l => goM step l x) es) fun y => fN (base + p.locs.length) fun nx => p.go nx y (K .normal)
 ok := by
  intro X env nx bl ms K r h Q hQ
  subst hprel
  refine map_core0 mixed hcx hcl hb2 hstep h fun es x hk => ?_
  obtain ⟨y, h1, h2⟩ := bd_some hk
  simp only [fN_eq, Pat.go_eq] at h2
  exact ⟨y, anyOrd_some h1, hQ _ _ _ _ _ h2⟩
end
end Go.AM
end
section
namespace Go.AM
/-- A string out of its bytes. -/
@[reducible] def bs (l : List Nat) : ByteArray := ⟨(l.map UInt8.ofNat).toArray⟩
end Go.AM
end
