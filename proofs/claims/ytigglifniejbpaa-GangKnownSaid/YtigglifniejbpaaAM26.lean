/- The way in: what an argument reads as is data of the machine. -/
import Derived.Test.YtigglifniejbpaaAM25
import Derived.ProofKit
set_option linter.unusedVariables false
set_option linter.unusedSimpArgs false
namespace Go.AM
open Go.RowKit

def fieldsAt (P : Program) (g : TypeId → Ty → Bool) : Nat → List Field → Ty → Bool
  | _, [], .unit => true
  | off, [f], ty => Nat.beq f.offset off && Nat.beq (P.cellsOf f.type) ty.sz && g f.type ty
  | off, f :: f2 :: r, .prod a b => Nat.beq f.offset off && Nat.beq (P.cellsOf f.type) a.sz && g f.type a && fieldsAt P g (off + a.sz) (f2 :: r) b
  | _, _, _ => false

/-- A type of the program, laid as the machine's. -/
def tyOk (P : Program) : Nat → TypeId → Ty → Bool
  | 0, _, _ => false
  | n + 1, t, ty => match P.underlying t with
    | some .bool => match ty with | .bool => true | _ => false
    | some (.int k) => match ty with | .int k' => decide (k = k') | _ => false
    | some .string => match ty with | .str => true | _ => false
    | some (.slice e) => match ty with | .list te => Nat.beq (P.cellsOf e) te.sz && Nat.blt 0 te.sz && tyOk P n e te | _ => false
    | some (.struct fs) => Nat.beq (P.cellsOf t) ty.sz && fieldsAt P (tyOk P n) 0 fs.toList ty
    | _ => false

/-- Data that the program can hold. -/
def Wf : (t : Ty) → t.den → Prop
  | .unit, _ => True
  | .bool, _ => True
  | .str, s => s.size ≤ maxLen
  | .int k, n => k.min ≤ n ∧ n ≤ k.max
  | .list t, xs => xs.length ≤ maxLen ∧ ∀ x ∈ xs, Wf t x
  | .prod a b, x => Wf a x.1 ∧ Wf b x.2

/-- All that can be read. -/
def allOf (w : World) : Iota := fun b o => w.cell? ⟨b, o, none⟩

section
variable {H : Type} {enc : TypeId × Value → H} {P : Program} {w : World} {sp : Nat → Bool} {held : Bool}

theorem cells?_reads {b o : Nat} {a : Addr} {n : Nat} {cs : List Value} (ha : a = ⟨b, o, none⟩ ∨ 0 < n) (hb : a.block = b) (ho : a.off = o) (h : w.cells? 0 a n = some cs) : cs.length = n ∧ Reads (allOf w) b o cs ∧ (0 < n → a.spot = none) := by
  unfold World.cells? at h
  rw [if_pos (Nat.zero_le _)] at h
  have key : ∀ (m : Nat) (xs : List Nat) (cs : List Value), xs.mapM (fun i => w.cell? (a.add i)) = some cs → cs.length = xs.length ∧ ∀ (j i : Nat), xs[j]? = some i → w.cell? (a.add i) = cs[j]? := by
    intro m xs
    induction xs with
    | nil => intro cs h; simp at h; subst h; exact ⟨rfl, fun j i hj => by simp at hj⟩
    | cons x xs ih =>
      intro cs h
      rw [List.mapM_cons] at h
      cases hx : w.cell? (a.add x) with
      | none => simp [hx] at h
      | some v =>
        cases hr : xs.mapM (fun i => w.cell? (a.add i)) with
        | none => simp [hx, hr] at h
        | some vs =>
          simp [hx, hr] at h
          subst h
          obtain ⟨h1, h2⟩ := ih vs hr
          refine ⟨by simp [h1], fun j i hj => ?_⟩
          cases j with
          | zero => simp at hj; subst hj; simpa using hx
          | succ j => simpa using h2 j i (by simpa using hj)
  obtain ⟨h1, h2⟩ := key 0 _ _ h
  have hlen : cs.length = n := by simpa using h1
  have hspot : 0 < n → a.spot = none := fun hn => by
    have := h2 0 0 (by simp [hn])
    simp only [Addr.add, if_true] at this
    have hc : ∃ v, w.cell? a = some v := ⟨cs[0]'(by omega), by rw [this]; simp⟩
    obtain ⟨v, hv⟩ := hc
    unfold World.cell? at hv
    cases hs : a.spot with
    | none => rfl
    | some s => rw [hs] at hv; split at hv <;> simp at hv
  refine ⟨hlen, fun j v hv => ?_, hspot⟩
  have hj : j < cs.length := (List.getElem?_eq_some_iff.1 hv).1
  have := h2 j j (by rw [List.getElem?_range (by omega)])
  rw [hv] at this
  unfold allOf
  have e : a.add j = ⟨b, o + j, none⟩ := by
    have hs := hspot (by omega)
    unfold Addr.add
    subst hb; subst ho
    split
    · rename_i h0; subst h0; cases a; simp_all
    · rfl
  rw [e] at this
  exact this

theorem CatR_of {α : Type} {D : α → List Value → Prop} : ∀ (n : Nat) (f : Nat → α) (g : Nat → List Value), (∀ i, i < n → D (f i) (g i)) → CatR D ((List.range n).map f) ((List.range n).flatMap g)
  | 0, _, _, _ => rfl
  | n + 1, f, g, h => by
    rw [List.range_succ, List.map_append, List.flatMap_append]
    exact (CatR_of n f g fun i hi => h i (by omega)).append ⟨g n, [], by simp, h n (by omega), rfl⟩

theorem lit_rng {k : IntKind} {n : Int} (h : (Lit.int k n).wf = true) : k.min ≤ n ∧ n ≤ k.max := by
  simpa [Lit.wf] using h

theorem fields_den {n : Nat} (ih : ∀ {t : TypeId} {ty : Ty}, tyOk P n t ty = true → ∀ {fuel : Nat} {cs : List Value} {x : DataW H × List MemPlace}, DataW.trod enc P w 0 sp held fuel t cs = some x → ∃ y : ty.den, CellsD (allOf w) ty y cs ∧ Wf ty y)
    {fuel : Nat} {cs : List Value} : ∀ {fs : List Field} {off : Nat} {ty : Ty}, fieldsAt P (tyOk P n) off fs ty = true → cs.length = off + ty.sz →
      (∀ f ∈ fs, ∃ x, DataW.trod enc P w 0 sp held fuel f.type ((cs.drop f.offset).take (P.cellsOf f.type)) = some x) → ∃ y : ty.den, CellsD (allOf w) ty y (cs.drop off) ∧ Wf ty y
  | [], off, ty, h, hl, _ => by
    cases ty <;> simp [fieldsAt] at h
    exact ⟨(), by simp [CellsD]; simp [Ty.sz] at hl; omega, trivial⟩
  | [f], off, ty, h, hl, hf => by
    have h' : (Nat.beq f.offset off && Nat.beq (P.cellsOf f.type) ty.sz && tyOk P n f.type ty) = true := by
      cases ty <;> simpa [fieldsAt] using h
    simp only [Bool.and_eq_true] at h'
    obtain ⟨⟨h1, h2⟩, h3⟩ := h'
    have e1 := Nat.eq_of_beq_eq_true h1
    have e2 := Nat.eq_of_beq_eq_true h2
    obtain ⟨x, hx⟩ := hf f (List.mem_singleton_self _)
    rw [e1, e2, List.take_of_length_le (by simp; omega)] at hx
    exact ih h3 hx
  | f :: f2 :: r, off, ty, h, hl, hf => by
    cases ty <;> simp only [fieldsAt, Bool.false_eq_true] at h
    rename_i a b
    simp only [Bool.and_eq_true] at h
    obtain ⟨⟨⟨h1, h2⟩, h3⟩, h4⟩ := h
    have e1 := Nat.eq_of_beq_eq_true h1
    have e2 := Nat.eq_of_beq_eq_true h2
    obtain ⟨x, hx⟩ := hf f (List.mem_cons_self ..)
    rw [e1, e2] at hx
    obtain ⟨y, hy, wy⟩ := ih h3 hx
    simp only [Ty.sz] at hl
    obtain ⟨z, hz, wz⟩ := fields_den ih h4 (by omega) (fun g hg => hf g (List.mem_cons_of_mem _ hg))
    refine ⟨(y, z), ⟨_, _, ?_, hy, hz⟩, wy, wz⟩
    rw [← List.drop_drop, List.take_append_drop]

theorem trod_den {n : Nat} : ∀ {t : TypeId} {ty : Ty}, tyOk P n t ty = true → ∀ {fuel : Nat} {cs : List Value} {x : DataW H × List MemPlace}, DataW.trod enc P w 0 sp held fuel t cs = some x → ∃ y : ty.den, CellsD (allOf w) ty y cs ∧ Wf ty y := by
  induction n with
  | zero => intro t ty h; cases h
  | succ n ih =>
    intro t ty h fuel cs x hx
    have hx0 := hx
    unfold tyOk at h
    split at h
    · rename_i hu
      cases ty <;> simp at h
      cases fuel with
      | zero => simp [DataW.trod] at hx
      | succ fuel =>
        rcases cs with _ | ⟨c, _ | ⟨c2, r⟩⟩
        · simp [DataW.trod, hu] at hx
        · cases c <;> simp [DataW.trod, hu] at hx
          exact ⟨_, rfl, trivial⟩
        · simp [DataW.trod, hu] at hx
    · rename_i k hu
      cases ty <;> simp at h
      subst h
      cases fuel with
      | zero => simp [DataW.trod] at hx
      | succ fuel =>
        rcases cs with _ | ⟨c, _ | ⟨c2, r⟩⟩
        · simp [DataW.trod, hu] at hx
        · cases c <;> simp [DataW.trod, hu] at hx
          obtain ⟨⟨rfl, h2⟩, _⟩ := hx
          exact ⟨_, rfl, lit_rng h2⟩
        · simp [DataW.trod, hu] at hx
    · rename_i hu
      cases ty <;> simp at h
      cases fuel with
      | zero => simp [DataW.trod] at hx
      | succ fuel =>
        rcases cs with _ | ⟨c, _ | ⟨c2, r⟩⟩
        · simp [DataW.trod, hu] at hx
        · cases c <;> simp [DataW.trod, hu] at hx
          exact ⟨_, rfl, hx.1⟩
        · simp [DataW.trod, hu] at hx
    · rename_i e hu
      cases ty <;> simp only [Bool.false_eq_true] at h
      rename_i te
      simp only [Bool.and_eq_true] at h
      obtain ⟨⟨h1, h2⟩, h3⟩ := h
      have e1 := Nat.eq_of_beq_eq_true h1
      have hpos : 0 < te.sz := by simpa using h2
      rcases DataW.trod_slice hu hx with ⟨rfl, rfl⟩ | ⟨a, len, cap, elems, rest, m, _, rfl, rfl, _, hlc, hm, hel, hE, _, _⟩
      · exact ⟨[], ⟨none, 0, by simp, by simp, .inl rfl⟩, by simp, by simp⟩
      · have each : ∀ i, i < len → ∃ (y : te.den) (us : List Value), CellsD (allOf w) te y us ∧ Wf te y ∧ us.length = te.sz ∧ Reads (allOf w) a.block (a.off + i * te.sz) us ∧ (i = 0 → a.spot = none) := fun i hi => by
          have := hE i hi
          have hlt : i < elems.length := by omega
          rw [List.getElem?_eq_getElem hlt, e1] at this
          cases hc : w.cells? 0 (a.add (i * te.sz)) te.sz with
          | none => rw [hc] at this; simp at this
          | some us =>
            rw [hc, Option.bind_some] at this
            obtain ⟨y, hy, wy⟩ := ih h3 this
            have hb : (a.add (i * te.sz)).block = a.block := by unfold Addr.add; split <;> rfl
            have ho : (a.add (i * te.sz)).off = a.off + i * te.sz := by unfold Addr.add; split <;> simp_all
            obtain ⟨q1, q2, q3⟩ := cells?_reads (.inr hpos) hb ho hc
            refine ⟨y, us, hy, wy, q1, q2, fun h0 => ?_⟩
            subst h0
            have := q3 hpos
            simpa [Addr.add] using this
        by_cases hl0 : len = 0
        · subst hl0
          exact ⟨[], ⟨some a, cap, rfl, by simp, .inl rfl⟩, by simp, by simp⟩
        · obtain ⟨f, hf⟩ : ∃ f : Nat → te.den × List Value, ∀ i, i < len → CellsD (allOf w) te (f i).1 (f i).2 ∧ Wf te (f i).1 ∧ (f i).2.length = te.sz ∧ Reads (allOf w) a.block (a.off + i * te.sz) (f i).2 ∧ (i = 0 → a.spot = none) :=
            ⟨fun i => if h : i < len then ((each i h).choose, (each i h).choose_spec.choose) else (te.zero, []), fun i hi => by simp only [hi, dif_pos]; exact (each i hi).choose_spec.choose_spec⟩
          have hspot := (hf 0 (by omega)).2.2.2.2 rfl
          have hrd : ∀ n, n ≤ len → ((List.range n).flatMap fun i => (f i).2).length = n * te.sz ∧ Reads (allOf w) a.block a.off ((List.range n).flatMap fun i => (f i).2) := fun n => by
            induction n with
            | zero => intro _; exact ⟨by simp, fun j v hv => by simp at hv⟩
            | succ n ih2 =>
              intro hn
              obtain ⟨l1, l2⟩ := ih2 (by omega)
              obtain ⟨_, _, l3, l4, _⟩ := hf n (by omega)
              rw [List.range_succ, List.flatMap_append]
              simp only [List.flatMap_cons, List.flatMap_nil, List.append_nil]
              refine ⟨by rw [List.length_append, l1, l3, Nat.add_mul]; simp, fun j v hv => ?_⟩
              rw [List.getElem?_append] at hv
              split at hv
              · exact l2 j v hv
              · rename_i hj
                have := l4 _ _ hv
                rw [l1] at this hj
                rw [show a.off + n * te.sz + (j - n * te.sz) = a.off + j by omega] at this
                exact this
          refine ⟨(List.range len).map fun i => (f i).1, ⟨some a, cap, by simp, by simpa using hlc, .inr ⟨a.block, a.off, (List.range len).flatMap fun i => (f i).2, by cases a; simp_all, (hrd len (Nat.le_refl _)).2, CatR_of _ _ _ fun i hi => (hf i hi).1⟩⟩, by simp; omega, fun x hx => ?_⟩
          obtain ⟨i, hi, rfl⟩ := List.mem_map.1 hx
          exact (hf i (List.mem_range.1 hi)).2.1
    · rename_i fs hu
      simp only [Bool.and_eq_true] at h
      obtain ⟨h1, h2⟩ := h
      obtain ⟨xs, m, _, _, hl, hxl, hf⟩ := DataW.trod_struct hu hx
      have := fields_den ih (fuel := m) (cs := cs) h2 (by rw [hl, Nat.eq_of_beq_eq_true h1]; simp) (fun f hfm => by
        obtain ⟨i, hi⟩ := List.getElem?_of_mem hfm
        have hi' : fs[i]? = some f := by simpa using hi
        have hlt : i < xs.length := by rw [hxl]; exact (Array.getElem?_eq_some_iff.1 hi').1
        exact ⟨xs[i], by rw [hf i f hi']; simp⟩)
      simpa using this
    · cases h
end
end Go.AM
