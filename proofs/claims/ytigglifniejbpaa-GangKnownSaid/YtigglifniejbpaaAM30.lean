/- Code that is the same, as a test. -/
import Derived.Test.YtigglifniejbpaaAM29
set_option linter.unusedVariables false
set_option linter.unusedSimpArgs false
namespace Go.AM

/-- Both, the first one first. -/
def an (a b : Bool) : Bool := match a with
  | true => b
  | false => false
theorem an_iff {a b : Bool} : an a b = true ↔ a = true ∧ b = true := by cases a <;> simp [an]
theorem beqB_eq {a b : Bool} (h : beqB a b = true) : a = b := by cases a <;> cases b <;> simp_all [beqB]
theorem tyEq_eq : ∀ {t t' : Ty}, tyEq t t' = true → t = t' := by
  intro t
  induction t with
  | unit => intro t' h; cases t' <;> simp [tyEq] at h ⊢
  | bool => intro t' h; cases t' <;> simp [tyEq] at h ⊢
  | str => intro t' h; cases t' <;> simp [tyEq] at h ⊢
  | int k => intro t' h; cases t' <;> simp [tyEq] at h ⊢; exact h
  | list t ih => intro t' h; cases t' <;> simp [tyEq] at h ⊢; exact ih h
  | prod a b iha ihb =>
    intro t' h
    cases t' <;> simp only [tyEq, Bool.false_eq_true] at h
    split at h <;> try (cases h; done)
    rename_i h1
    rw [iha h1, ihb h]
def beqIK (a b : IntKind) : Bool := decide (a = b)
theorem beqIK_eq {a b : IntKind} (h : beqIK a b = true) : a = b := by simpa [beqIK] using h
def beqIB (a b : IBin) : Bool := decide (a = b)
theorem beqIB_eq {a b : IBin} (h : beqIB a b = true) : a = b := by simpa [beqIB] using h
def beqKd : Kd → Kd → Bool
  | .b, .b => true
  | .i, .i => true
  | .s, .s => true
  | _, _ => false
theorem beqKd_eq {x y : Kd} (h : beqKd x y = true) : x = y := by cases x <;> cases y <;> simp_all [beqKd]
def beqLs {α : Type} (f : α → α → Bool) : List α → List α → Bool
  | [], [] => true
  | a :: r, b :: s => match f a b with
    | true => beqLs f r s
    | false => false
  | _, _ => false
theorem beqLs_eq {α : Type} {f : α → α → Bool} (hf : ∀ {a b}, f a b = true → a = b) : ∀ {a b : List α}, beqLs f a b = true → a = b
  | [], [], _ => rfl
  | a :: r, b :: s, h => by
    simp only [beqLs] at h
    split at h <;> try (cases h; done)
    rename_i h1
    rw [hf h1, beqLs_eq hf h]
  | [], _ :: _, h => by simp [beqLs] at h
  | _ :: _, [], h => by simp [beqLs] at h
def beqKs := beqLs beqKd
theorem beqKs_eq {a b : List Kd} (h : beqKs a b = true) : a = b := beqLs_eq beqKd_eq h
def beqBs := beqLs beqB
theorem beqBs_eq {a b : List Bool} (h : beqBs a b = true) : a = b := beqLs_eq beqB_eq h
def beqNs := beqLs Nat.beq
theorem beqNs_eq {a b : List Nat} (h : beqNs a b = true) : a = b := beqLs_eq Nat.eq_of_beq_eq_true h
def beqNss := beqLs beqNs
theorem beqNss_eq {a b : List (List Nat)} (h : beqNss a b = true) : a = b := beqLs_eq beqNs_eq h
def beqO : O → O → Bool
  | .t n, .t m => Nat.beq n m
  | .c v, .c u => beqV v u
  | _, _ => false
theorem beqO_eq {a b : O} (h : beqO a b = true) : a = b := by
  cases a <;> cases b <;> simp only [beqO, Bool.false_eq_true] at h
  · rw [Nat.eq_of_beq_eq_true h]
  · rw [beqV_eq h]
def beqOs := beqLs beqO
theorem beqOs_eq {a b : List O} (h : beqOs a b = true) : a = b := beqLs_eq beqO_eq h
def beqOO : Option O → Option O → Bool
  | none, none => true
  | some a, some b => beqO a b
  | _, _ => false
theorem beqOO_eq {a b : Option O} (h : beqOO a b = true) : a = b := by
  cases a <;> cases b <;> simp only [beqOO, Bool.false_eq_true] at h
  · rfl
  · rw [beqO_eq h]
def beqP : Nat × Nat × O → Nat × Nat × O → Bool
  | (a, b, x), (a', b', x') => an (Nat.beq a a') (an (Nat.beq b b') (beqO x x'))
theorem beqP_eq {p q : Nat × Nat × O} (h : beqP p q = true) : p = q := by
  obtain ⟨a, b, c⟩ := p
  obtain ⟨a', b', c'⟩ := q
  simp only [beqP, an_iff] at h
  rw [Nat.eq_of_beq_eq_true h.1, Nat.eq_of_beq_eq_true h.2.1, beqO_eq h.2.2]
def beqPs := beqLs beqP
theorem beqPs_eq {a b : List (Nat × Nat × O)} (h : beqPs a b = true) : a = b := beqLs_eq beqP_eq h

def beqI : I → I → Bool
  | .mv x0, .mv y0 => beqO x0 y0
  | .pick x0 x1 x2, .pick y0 y1 y2 => an (beqO x0 y0) (an (beqO x1 y1) (beqO x2 y2))
  | .alloc x0, .alloc y0 => beqVs x0 y0
  | .box x0, .box y0 => beqO x0 y0
  | .build x0 x1, .build y0 y1 => an (beqVs x0 y0) (beqPs x1 y1)
  | .bslice x0 x1, .bslice y0 y1 => an (tyEq x0 y0) (beqOs x1 y1)
  | .load x0 x1 x2, .load y0 y1 y2 => an (beqB x0 y0) (an (Nat.beq x1 y1) (beqO x2 y2))
  | .store x0 x1 x2, .store y0 y1 y2 => an (Nat.beq x0 y0) (an (beqO x1 y1) (beqO x2 y2))
  | .bin x0 x1 x2, .bin y0 y1 y2 => an (beqIB x0 y0) (an (beqO x1 y1) (beqO x2 y2))
  | .eqb x0 x1 x2, .eqb y0 y1 y2 => an (beqB x0 y0) (an (beqO x1 y1) (beqO x2 y2))
  | .eqs x0 x1 x2 x3, .eqs y0 y1 y2 y3 => an (beqB x0 y0) (an (beqKs x1 y1) (an (beqO x2 y2) (beqO x3 y3)))
  | .neg x0, .neg y0 => beqO x0 y0
  | .not x0, .not y0 => beqO x0 y0
  | .conv x0 x1, .conv y0 y1 => an (beqIK x0 y0) (beqO x1 y1)
  | .fld x0 x1 x2, .fld y0 y1 y2 => an (Nat.beq x0 y0) (an (beqBs x1 y1) (beqO x2 y2))
  | .field x0 x1 x2 x3, .field y0 y1 y2 y3 => an (beqB x0 y0) (an (Nat.beq x1 y1) (an (Nat.beq x2 y2) (beqO x3 y3)))
  | .idx x0 x1 x2, .idx y0 y1 y2 => an (Nat.beq x0 y0) (an (beqO x1 y1) (beqO x2 y2))
  | .idxA x0 x1 x2 x3, .idxA y0 y1 y2 y3 => an (Nat.beq x0 y0) (an (Nat.beq x1 y1) (an (beqO x2 y2) (beqO x3 y3)))
  | .ext x0 x1, .ext y0 y1 => an (Nat.beq x0 y0) (beqO x1 y1)
  | .len x0, .len y0 => beqO x0 y0
  | .lens x0, .lens y0 => beqO x0 y0
  | .lenA x0, .lenA y0 => Nat.beq x0 y0
  | .append x0 x1 x2, .append y0 y1 y2 => an (Nat.beq x0 y0) (an (beqO x1 y1) (beqO x2 y2))
  | .mkslice x0 x1, .mkslice y0 y1 => an (tyEq x0 y0) (beqO x1 y1)
  | .mkfn x0 x1 x2, .mkfn y0 y1 y2 => an (Nat.beq x0 y0) (an (beqOs x1 y1) (beqOs x2 y2))
  | .slice x0 x1 x2 x3 x4, .slice y0 y1 y2 y3 y4 => an (Nat.beq x0 y0) (an (beqO x1 y1) (an (beqOO x2 y2) (an (beqOO x3 y3) (beqOO x4 y4))))
  | .minmax x0 x1 x2, .minmax y0 y1 y2 => an (beqB x0 y0) (an (beqO x1 y1) (beqOs x2 y2))
  | _, _ => false

theorem beqI_eq {a b : I} (h : beqI a b = true) : a = b := by
  cases a <;> cases b <;> first | (simp only [beqI, Bool.false_eq_true] at h; done) | skip
  case mv.mv => simp only [beqI, an_iff] at h; rw [beqO_eq h]
  case pick.pick => simp only [beqI, an_iff] at h; rw [beqO_eq h.1, beqO_eq h.2.1, beqO_eq h.2.2]
  case alloc.alloc => simp only [beqI, an_iff] at h; rw [beqVs_eq h]
  case box.box => simp only [beqI, an_iff] at h; rw [beqO_eq h]
  case build.build => simp only [beqI, an_iff] at h; rw [beqVs_eq h.1, beqPs_eq h.2]
  case bslice.bslice => simp only [beqI, an_iff] at h; rw [tyEq_eq h.1, beqOs_eq h.2]
  case load.load => simp only [beqI, an_iff] at h; rw [beqB_eq h.1, Nat.eq_of_beq_eq_true h.2.1, beqO_eq h.2.2]
  case store.store => simp only [beqI, an_iff] at h; rw [Nat.eq_of_beq_eq_true h.1, beqO_eq h.2.1, beqO_eq h.2.2]
  case bin.bin => simp only [beqI, an_iff] at h; rw [beqIB_eq h.1, beqO_eq h.2.1, beqO_eq h.2.2]
  case eqb.eqb => simp only [beqI, an_iff] at h; rw [beqB_eq h.1, beqO_eq h.2.1, beqO_eq h.2.2]
  case eqs.eqs => simp only [beqI, an_iff] at h; rw [beqB_eq h.1, beqKs_eq h.2.1, beqO_eq h.2.2.1, beqO_eq h.2.2.2]
  case neg.neg => simp only [beqI, an_iff] at h; rw [beqO_eq h]
  case not.not => simp only [beqI, an_iff] at h; rw [beqO_eq h]
  case conv.conv => simp only [beqI, an_iff] at h; rw [beqIK_eq h.1, beqO_eq h.2]
  case fld.fld => simp only [beqI, an_iff] at h; rw [Nat.eq_of_beq_eq_true h.1, beqBs_eq h.2.1, beqO_eq h.2.2]
  case field.field => simp only [beqI, an_iff] at h; rw [beqB_eq h.1, Nat.eq_of_beq_eq_true h.2.1, Nat.eq_of_beq_eq_true h.2.2.1, beqO_eq h.2.2.2]
  case idx.idx => simp only [beqI, an_iff] at h; rw [Nat.eq_of_beq_eq_true h.1, beqO_eq h.2.1, beqO_eq h.2.2]
  case idxA.idxA => simp only [beqI, an_iff] at h; rw [Nat.eq_of_beq_eq_true h.1, Nat.eq_of_beq_eq_true h.2.1, beqO_eq h.2.2.1, beqO_eq h.2.2.2]
  case ext.ext => simp only [beqI, an_iff] at h; rw [Nat.eq_of_beq_eq_true h.1, beqO_eq h.2]
  case len.len => simp only [beqI, an_iff] at h; rw [beqO_eq h]
  case lens.lens => simp only [beqI, an_iff] at h; rw [beqO_eq h]
  case lenA.lenA => simp only [beqI, an_iff] at h; rw [Nat.eq_of_beq_eq_true h]
  case append.append => simp only [beqI, an_iff] at h; rw [Nat.eq_of_beq_eq_true h.1, beqO_eq h.2.1, beqO_eq h.2.2]
  case mkslice.mkslice => simp only [beqI, an_iff] at h; rw [tyEq_eq h.1, beqO_eq h.2]
  case mkfn.mkfn => simp only [beqI, an_iff] at h; rw [Nat.eq_of_beq_eq_true h.1, beqOs_eq h.2.1, beqOs_eq h.2.2]
  case slice.slice => simp only [beqI, an_iff] at h; rw [Nat.eq_of_beq_eq_true h.1, beqO_eq h.2.1, beqOO_eq h.2.2.1, beqOO_eq h.2.2.2.1, beqOO_eq h.2.2.2.2]
  case minmax.minmax => simp only [beqI, an_iff] at h; rw [beqB_eq h.1, beqO_eq h.2.1, beqOs_eq h.2.2]

def beqG : Option (Nat × Bool) → Option (Nat × Bool) → Bool
  | none, none => true
  | some (s, b), some (s', b') => an (Nat.beq s s') (beqB b b')
  | _, _ => false
theorem beqG_eq {p q : Option (Nat × Bool)} (h : beqG p q = true) : p = q := by
  rcases p with _ | ⟨a, b⟩ <;> rcases q with _ | ⟨a', b'⟩ <;> simp only [beqG, Bool.false_eq_true, an_iff] at h
  · rfl
  · rw [Nat.eq_of_beq_eq_true h.1, beqB_eq h.2]
def beqD : Option Nat → Option Nat → Bool
  | none, none => true
  | some a, some b => Nat.beq a b
  | _, _ => false
theorem beqD_eq {a b : Option Nat} (h : beqD a b = true) : a = b := by
  cases a <;> cases b <;> simp only [beqD, Bool.false_eq_true] at h
  · rfl
  · rw [Nat.eq_of_beq_eq_true h]
def beqOT : Option Ty → Option Ty → Bool
  | none, none => true
  | some a, some b => tyEq a b
  | _, _ => false
theorem beqOT_eq {a b : Option Ty} (h : beqOT a b = true) : a = b := by
  cases a <;> cases b <;> simp only [beqOT, Bool.false_eq_true] at h
  · rfl
  · rw [tyEq_eq h]
def beqItm : Itm → Itm → Bool
  | .op d g i, .op d' g' i' => an (beqD d d') (an (beqG g g') (beqI i i'))
  | .call d g f a t, .call d' g' f' a' t' => an (beqD d d') (an (beqG g g') (an (beqO f f') (an (beqOs a a') (beqLs beqOT t t'))))
  | _, _ => false
theorem beqItm_eq {a b : Itm} (h : beqItm a b = true) : a = b := by
  cases a <;> cases b <;> simp only [beqItm, Bool.false_eq_true, an_iff] at h
  · rw [beqD_eq h.1, beqG_eq h.2.1, beqI_eq h.2.2]
  · rw [beqD_eq h.1, beqG_eq h.2.1, beqO_eq h.2.2.1, beqOs_eq h.2.2.2.1, beqLs_eq beqOT_eq h.2.2.2.2]
def beqC : C → C → Bool
  | .skip, .skip => true
  | .reg is, .reg is' => beqLs beqItm is is'
  | .draw ps is, .draw ps' is' => an (beqNss ps ps') (beqLs beqItm is is')
  | .seq a b, .seq a' b' => an (beqC a a') (beqC b b')
  | .cond c a b, .cond c' a' b' => an (beqO c c') (an (beqC a a') (beqC b b'))
  | .block id c, .block id' c' => an (Nat.beq id id') (beqC c c')
  | .loop c, .loop c' => beqC c c'
  | .exit id, .exit id' => Nat.beq id id'
  | .ret, .ret => true
  | .rangeF f ps a b, .rangeF f' ps' a' b' => an (beqO f f') (an (beqNs ps ps') (an (beqC a a') (beqC b b')))
  | _, _ => false
theorem beqC_eq : ∀ {a b : C}, beqC a b = true → a = b := by
  intro a
  induction a with
  | skip => intro b h; cases b <;> simp [beqC] at h ⊢
  | ret => intro b h; cases b <;> simp [beqC] at h ⊢
  | exit id => intro b h; cases b <;> simp only [beqC, Bool.false_eq_true] at h; rw [Nat.eq_of_beq_eq_true h]
  | reg is => intro b h; cases b <;> simp only [beqC, Bool.false_eq_true] at h; rw [beqLs_eq beqItm_eq h]
  | draw ps is => intro b h; cases b <;> simp only [beqC, Bool.false_eq_true, an_iff] at h; rw [beqNss_eq h.1, beqLs_eq beqItm_eq h.2]
  | seq a b iha ihb => intro b h; cases b <;> simp only [beqC, Bool.false_eq_true, an_iff] at h; rw [iha h.1, ihb h.2]
  | cond c a b iha ihb => intro b h; cases b <;> simp only [beqC, Bool.false_eq_true, an_iff] at h; rw [beqO_eq h.1, iha h.2.1, ihb h.2.2]
  | block id c ih => intro b h; cases b <;> simp only [beqC, Bool.false_eq_true, an_iff] at h; rw [Nat.eq_of_beq_eq_true h.1, ih h.2]
  | loop c ih => intro b h; cases b <;> simp only [beqC, Bool.false_eq_true] at h; rw [ih h]
  | rangeF f ps a b iha ihb => intro b h; cases b <;> simp only [beqC, Bool.false_eq_true, an_iff] at h; rw [beqO_eq h.1, beqNs_eq h.2.1, iha h.2.2.1, ihb h.2.2.2]
end Go.AM
