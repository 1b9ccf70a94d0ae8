/- Patterns: what stands in slots and blocks, with places for data; read out of a state, and laid again. -/
import Derived.Test.YtigglifniejbpaaAM28
set_option linter.unusedVariables false
set_option linter.unusedSimpArgs false
namespace Go.AM

/-- What one cell or slot holds. -/
inductive CP where
  | any
  | tf (b : Bool)
  | nilp
  | nilfn
  | nili
  | nsl
  | hole (t : Ty)
  | sl0 (b : Nat) (t : Ty)
  | slx (b : Nat) (t : Ty)
  | ptr (b off : Nat)
  | yl (b : Nat)
  | ipc (t : Ty)
  | fn0 (f : Nat)
  | ipcs (l : CP)
  | fn (f : Nat) (a b : CP)
  | nil
  | cons (c l : CP)

/-- What one slot holds. -/
inductive SP where
  | c (c : CP)
  | agg (cs : List CP)
  | tup (cs : List CP)
  | fn (f : Nat) (a b : List CP)

def CP.T : CP → Type → Type
  | .hole t, A => t.den × A
  | .sl0 _ _, A => Nat × A
  | .slx _ _, A => Nat × Nat × A
  | .ipc t, A => t.den × A
  | .ipcs l, A => l.T A
  | .fn _ a b, A => a.T (b.T A)
  | .cons c l, A => c.T (l.T A)
  | .any, A => A
  | .tf _, A => A
  | .nilp, A => A
  | .nilfn, A => A
  | .nili, A => A
  | .nsl, A => A
  | .ptr _ _, A => A
  | .yl _, A => A
  | .fn0 _, A => A
  | .nil, A => A

def tyV : (t : Ty) → t.den → V
  | .unit, _ => .agg []
  | .bool, b => .bool b
  | .str, s => .str s
  | .int k, n => .int k n
  | .list t, xs => .lst t xs
  | .prod a b, x => .agg (toVs (.prod a b) x)

def CP.r : (c : CP) → {A : Type} → c.T A → A
  | .any, _, x => x
  | .tf _, _, x => x
  | .nilp, _, x => x
  | .nilfn, _, x => x
  | .nili, _, x => x
  | .nsl, _, x => x
  | .hole _, _, x => x.2
  | .sl0 _ _, _, x => x.2
  | .slx _ _, _, x => x.2.2
  | .ptr _ _, _, x => x
  | .yl _, _, x => x
  | .ipc _, _, x => x.2
  | .fn0 _, _, x => x
  | .ipcs l, _, x => l.r x
  | .fn _ a b, _, x => b.r (a.r x)
  | .nil, _, x => x
  | .cons c l, _, x => l.r (c.r x)

/-- The values of a list of cells; of one cell, in a list. -/
def CP.vs : (c : CP) → {A : Type} → c.T A → List V
  | .any, _, _ => [.any]
  | .tf b, _, _ => [.tf b]
  | .nilp, _, _ => [.nilp]
  | .nilfn, _, _ => [.nilfn]
  | .nili, _, _ => [.nili]
  | .nsl, _, _ => [.nsl]
  | .hole t, _, x => [tyV t x.1]
  | .sl0 b t, _, x => [.sl b t 0 x.1]
  | .slx b t, _, x => [.sl b t x.1 x.2.1]
  | .ptr b off, _, _ => [.ptr b off]
  | .yl b, _, _ => [.yl b]
  | .ipc t, _, x => [.ipc (toVs t x.1)]
  | .fn0 f, _, _ => [.fn f [] []]
  | .ipcs l, _, x => [.ipc (l.vs x)]
  | .fn f a b, _, x => [.fn f (a.vs x) (b.vs (a.r x))]
  | .nil, _, _ => []
  | .cons c l, _, x => c.vs x ++ l.vs (c.r x)

def hd1 : List V → V
  | v :: _ => v
  | [] => .any

def CP.v {A : Type} (c : CP) (x : c.T A) : V := hd1 (c.vs x)

def cpsT : List CP → Type → Type
  | [], A => A
  | c :: r, A => c.T (cpsT r A)

def cpsV {A : Type} : (cs : List CP) → cpsT cs A → List V
  | [], _ => []
  | c :: r, x => c.v x :: cpsV r (c.r x)

def cpsR {A : Type} : (cs : List CP) → cpsT cs A → A
  | [], x => x
  | c :: r, x => cpsR r (c.r x)

def SP.T : SP → Type → Type
  | .c q, A => q.T A
  | .agg cs, A => cpsT cs A
  | .tup cs, A => cpsT cs A
  | .fn _ a b, A => cpsT a (cpsT b A)

def SP.v {A : Type} : (p : SP) → p.T A → V
  | .c q, x => q.v x
  | .agg cs, x => .agg (cpsV cs x)
  | .tup cs, x => .tup (cpsV cs x)
  | .fn f a b, x => .fn f (cpsV a x) (cpsV b (cpsR a x))

def SP.r {A : Type} : (p : SP) → p.T A → A
  | .c q, x => q.r x
  | .agg cs, x => cpsR cs x
  | .tup cs, x => cpsR cs x
  | .fn _ a b, x => cpsR b (cpsR a x)

def envT : List (Nat × SP) → Type → Type
  | [], A => A
  | (_, p) :: r, A => p.T (envT r A)

def envV {A : Type} : (ps : List (Nat × SP)) → envT ps A → Env
  | [], _ => []
  | (s, p) :: r, x => (s, p.v x) :: envV r (p.r x)

def envR {A : Type} : (ps : List (Nat × SP)) → envT ps A → A
  | [], x => x
  | (_, p) :: r, x => envR r (p.r x)

/-- What a block holds. -/
inductive BP where
  | arr (t : Ty) (fz : Bool)
  | cells (cs : List CP) (fz : Bool)
  | loop (st : LState) (j : Option Ex) (d : Nat) (env : List (Nat × SP)) (ps : List Nat) (as bd : C) (N : Nat)
  | dfr

def BP.T : BP → Type → Type
  | .arr t _, A => List t.den × A
  | .cells cs _, A => cpsT cs A
  | .loop _ _ _ env _ _ _ _, A => envT env A
  | .dfr, A => A

def BP.v {A : Type} : (p : BP) → p.T A → Blk
  | .arr t fz, x => .arr t x.1 fz
  | .cells cs fz, x => .cells (cpsV cs x) fz
  | .loop st j d env ps as bd N, x => .loop st j d (envV env x) ps as bd N
  | .dfr, _ => .dfr

def BP.r {A : Type} : (p : BP) → p.T A → A
  | .arr _ _, x => x.2
  | .cells cs _, x => cpsR cs x
  | .loop _ _ _ env _ _ _ _, x => envR env x
  | .dfr, x => x

def blT : List (Nat × BP) → Type → Type
  | [], A => A
  | (_, p) :: r, A => p.T (blT r A)

def blV {A : Type} : (ps : List (Nat × BP)) → blT ps A → Blks
  | [], _ => []
  | (s, p) :: r, x => (s, p.v x) :: blV r (p.r x)

/-- Where the old name of a block is found. -/
inductive Lc where
  | slot (s : Nat)
  | part (s k : Nat)
  | cell (b k : Nat)
  | old (i : Nat)
  | mark (j : Nat)

structure Pat where
  env : List (Nat × SP)
  bl : List (Nat × BP)
  locs : List Lc
  ms : List Nat

def Pat.T (p : Pat) : Type := envT p.env (blT p.bl Unit)

def Pat.E (p : Pat) (x : p.T) : Env := envV p.env x
def Pat.B (p : Pat) (x : p.T) : Blks := blV p.bl (envR p.env x)

def Pat.st (base : Nat) (p : Pat) (x : p.T) : St := ⟨p.E x, ⟨base + p.locs.length, p.B x⟩, p.ms⟩

/-! Reading. -/

def pget : List Nat → Nat → Option Nat
  | [], _ => none
  | i :: _, 0 => some i
  | _ :: r, n + 1 => pget r n

def beqB : Bool → Bool → Bool
  | true, true => true
  | false, false => true
  | _, _ => false

def tyEq : (t t' : Ty) → Bool
  | .unit, .unit => true
  | .bool, .bool => true
  | .str, .str => true
  | .int k, .int k' => decide (k = k')
  | .list t, .list t' => tyEq t t'
  | .prod a b, .prod a' b' => match tyEq a a' with
    | true => tyEq b b'
    | false => false
  | _, _ => false

def isAt (π : List Nat) (b i : Nat) : Bool := match pget π b with
  | some j => Nat.beq j i
  | none => false

def tyRd : (t : Ty) → V → Option t.den
  | .bool, .bool b => some b
  | .bool, .tf b => some b
  | .str, .str s => some s
  | .int k, .int k' n => match decide (k = k') with
    | true => some n
    | false => none
  | .list t, .lst t' xs => castL t' t xs
  | .list _, .nsl => some []
  | .prod a b, .agg cs => match ofVs ar0 [] (.prod a b) cs with
    | some (x, _, []) => some x
    | _ => none
  | _, _ => none

def CP.rd1 {A : Type} (π : List Nat) (c : CP) (v : V) : Option (A → c.T A) :=
  match c with
  | .any => some fun a => a
  | .tf b => match v with
    | .tf b' => match beqB b b' with
      | true => some fun a => a
      | false => none
    | _ => none
  | .nilp => match v with
    | .nilp => some fun a => a
    | _ => none
  | .nilfn => match v with
    | .nilfn => some fun a => a
    | _ => none
  | .nili => match v with
    | .nili => some fun a => a
    | _ => none
  | .nsl => match v with
    | .nsl => some fun a => a
    | _ => none
  | .hole t => match tyRd t v with
    | some x => some fun a => (x, a)
    | none => none
  | .sl0 b t => match v with
    | .sl i t' lo n => match isAt π b i with
      | true => match tyEq t' t with
        | true => match Nat.beq lo 0 with
          | true => some fun a => (n, a)
          | false => none
        | false => none
      | false => none
    | .nsl => some fun a => ((0 : Nat), a)
    | _ => none
  | .slx b t => match v with
    | .sl i t' lo n => match isAt π b i with
      | true => match tyEq t' t with
        | true => some fun a => (lo, n, a)
        | false => none
      | false => none
    | .nsl => some fun a => ((0 : Nat), (0 : Nat), a)
    | _ => none
  | .ptr b off => match v with
    | .ptr i o => match isAt π b i with
      | true => match Nat.beq o off with
        | true => some fun a => a
        | false => none
      | false => none
    | _ => none
  | .yl b => match v with
    | .yl i => match isAt π b i with
      | true => some fun a => a
      | false => none
    | _ => none
  | .ipc t => match v with
    | .ipc cs => match ofVs ar0 [] t cs with
      | some (x, _, []) => some fun a => (x, a)
      | _ => none
    | _ => none
  | .fn0 f => match v with
    | .fn f' [] [] => match Nat.beq f' f with
      | true => some fun a => a
      | false => none
    | _ => none
  | _ => none

/-- Values read by a list of cells, and what is left. -/
def CP.rds (π : List Nat) : (c : CP) → {A : Type} → List V → Option ((A → c.T A) × List V)
  | .nil, _, vs => some (fun a => a, vs)
  | .cons c l, A, vs => match c.rds π (A := l.T A) vs with
    | some (f, vs') => match l.rds π (A := A) vs' with
      | some (g, vs'') => some (fun a => f (g a), vs'')
      | none => none
    | none => none
  | .ipcs l, A, vs => match vs with
    | .ipc cs :: r => match l.rds π (A := A) cs with
      | some (f, []) => some (f, r)
      | _ => none
    | _ => none
  | .fn f a b, A, vs => match vs with
    | .fn f' va vb :: r => match Nat.beq f' f with
      | true => match a.rds π (A := b.T A) va with
        | some (g, []) => match b.rds π (A := A) vb with
          | some (h, []) => some (fun x => g (h x), r)
          | _ => none
        | _ => none
      | false => none
    | _ => none
  | c, _, vs => match vs with
    | v :: r => match c.rd1 π v with
      | some f => some (f, r)
      | none => none
    | [] => none

def CP.rd {A : Type} (π : List Nat) (c : CP) (v : V) : Option (A → c.T A) := match c.rds π (A := A) [v] with
  | some (f, []) => some f
  | _ => none

def cpsRd {A : Type} (π : List Nat) : (cs : List CP) → List V → Option (A → cpsT cs A)
  | [], [] => some fun a => a
  | c :: r, v :: vs => match CP.rd (A := cpsT r A) π c v with
    | some f => match cpsRd (A := A) π r vs with
      | some g => some fun a => f (g a)
      | none => none
    | none => none
  | _, _ => none

def SP.rd {A : Type} (π : List Nat) (p : SP) (v : V) : Option (A → p.T A) :=
  match p with
  | .c q => q.rd π v
  | .agg cs => match v with
    | .agg vs => cpsRd π cs vs
    | _ => none
  | .tup cs => match v with
    | .tup vs => cpsRd π cs vs
    | _ => none
  | .fn f a b => match v with
    | .fn f' va vb => match Nat.beq f' f with
      | true => match cpsRd (A := cpsT b A) π a va with
        | some g => match cpsRd (A := A) π b vb with
          | some h => some fun x => g (h x)
          | none => none
        | none => none
      | false => none
    | _ => none

def envRd {A : Type} (π : List Nat) (env : Env) : (ps : List (Nat × SP)) → Option (A → envT ps A)
  | [] => some fun a => a
  | (s, p) :: r => match SP.rd (A := envT r A) π p (get s env) with
    | some f => match envRd (A := A) π env r with
      | some g => some fun a => f (g a)
      | none => none
    | none => none

/-! Code that is the same. -/

mutual
def beqV : V → V → Bool
  | .any, .any => true
  | .tf a, .tf b => beqB a b
  | .bool a, .bool b => beqB a b
  | .int k n, .int k' m => match decide (k = k') with
    | true => decide (n = m)
    | false => false
  | .nilp, .nilp => true
  | .nilfn, .nilfn => true
  | .nili, .nili => true
  | .nsl, .nsl => true
  | .str s, .str s' => decide (s = s')
  | .fn f a b, .fn f' a' b' => match Nat.beq f f' with
    | true => match beqVs a a' with
      | true => beqVs b b'
      | false => false
    | false => false
  | .agg a, .agg b => beqVs a b
  | _, _ => false
def beqVs : List V → List V → Bool
  | [], [] => true
  | a :: r, b :: s => match beqV a b with
    | true => beqVs r s
    | false => false
  | _, _ => false
end

mutual
theorem beqV_eq : ∀ {a b : V}, beqV a b = true → a = b
  | a, b, h => by
    cases a <;> cases b <;> simp only [beqV, Bool.false_eq_true] at h <;> try rfl
    case tf.tf x y => cases x <;> cases y <;> simp_all [beqB]
    case bool.bool x y => cases x <;> cases y <;> simp_all [beqB]
    case int.int => split at h <;> simp_all
    case str.str => simp_all
    case fn.fn =>
      split at h <;> try (cases h; done)
      rename_i h1
      split at h <;> try (cases h; done)
      rename_i h2
      rw [Nat.eq_of_beq_eq_true h1, beqVs_eq h2, beqVs_eq h]
    case agg.agg => rw [beqVs_eq h]
theorem beqVs_eq : ∀ {a b : List V}, beqVs a b = true → a = b
  | [], [], _ => rfl
  | a :: r, b :: s, h => by
    simp only [beqVs] at h
    split at h <;> try (cases h; done)
    rename_i h1
    rw [beqV_eq h1, beqVs_eq h]
  | [], _ :: _, h => by simp [beqVs] at h
  | _ :: _, [], h => by simp [beqVs] at h
end
end Go.AM
