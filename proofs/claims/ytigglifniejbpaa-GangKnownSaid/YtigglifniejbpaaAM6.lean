/- What is read and written, small machine and model. -/
import Derived.Test.YtigglifniejbpaaAM5
set_option linter.unusedVariables false
set_option linter.unusedSimpArgs false
namespace Go.AM
section
variable {P : Program} {Y : Ctx} {ι ι' : Iota} {μ μ' : Mu} {H : Heap} {w w' : World}

/-- 'ar' reckons as the model does. -/
@[reducible] def mkAr (call : Nat → List V → Heap → (V → Heap → Prop) → Prop) (pcall : Nat → List V → V → Prop) (loop : C → St → (Ex → St → Prop) → Prop)
    (round : Nat → List V → Heap → (V → Heap → Prop) → Prop) (rangeF : O → List Nat → C → C → St → (Ex → St → Prop) → Prop) : Ar where
  add a b := a + b
  sub a b := a - b
  mul a b := a * b
  quo a b := a.tdiv b
  rem a b := a.tmod b
  bits op k a b := match op with
    | .and => k.wrap (BitVec.ofInt k.bits a &&& BitVec.ofInt k.bits b).toNat
    | .or => k.wrap (BitVec.ofInt k.bits a ||| BitVec.ofInt k.bits b).toNat
    | .xor => k.wrap (BitVec.ofInt k.bits a ^^^ BitVec.ofInt k.bits b).toNat
    | _ => k.wrap (BitVec.ofInt k.bits a &&& ~~~(BitVec.ofInt k.bits b)).toNat
  shr a b := a.fdiv (2 ^ b.toNat)
  shl a b := a * 2 ^ b.toNat
  imin a b := if b < a then b else a
  imax a b := if b > a then b else a
  eq a b := a == b
  lt a b := decide (a < b)
  le a b := decide (a ≤ b)
  beq a b := a == b
  seq a b := a.toList == b.toList
  slt a b := Op.bytesLess a.toList b.toList
  slen s := (s.size : Int)
  band a b := a && b
  bnot a := !a
  bite c a b := if c then a else b
  rng k z := k.min ≤ z && z ≤ k.max
  inb i n := decide (0 ≤ i ∧ i < n)
  ilt a b := decide (a < b)
  len xs := xs.length
  get d xs i := xs.getD i d
  set xs i v := xs.set i v
  sub' xs lo n := (xs.drop lo).take n
  app xs ys := xs ++ ys
  rep n x := List.replicate n x
  nadd a b := a + b
  nsub a b := a - b
  toN z := z.toNat
  call := call
  pcall := pcall
  loop := loop
  round := round
  rangeF := rangeF

theorem wrap_rng {k : IntKind} {z : Int} (h : (decide (k.min ≤ z) && decide (z ≤ k.max)) = true) : k.wrap z = z := by
  simp only [Bool.and_eq_true, decide_eq_true_eq] at h
  obtain ⟨h1, h2⟩ := h
  cases k <;> simp only [IntKind.wrap, IntKind.min, IntKind.max, IntKind.bits, IntKind.signed] at * <;> simp at * <;> first | omega | (rw [Int.bmod_eq_of_le] <;> omega)

/-! ### Operands -/
theorem ofC1_rel {x : Value} {v : V} (h : ofC1 x = some v) : Rel ι μ v x := by
  unfold ofC1 at h
  split at h <;> first | cases h | skip
  · exact .tf _
  · exact .int _ _
  · exact .str _
  · exact .nsl _
  · exact .nilp
  · exact .nilfn
  · exact .nili

theorem ofCs_rel : ∀ {xs : List Value} {vs : List V}, ofCs xs = some vs → RelL ι μ vs xs
  | [], vs, h => by cases h; exact .nil
  | x :: xs, vs, h => by
    unfold ofCs at h
    split at h
    · rename_i a b ha hb; cases h; exact .cons (ofC1_rel ha) (ofCs_rel hb)
    · cases h

theorem ofCs_one : ∀ {xs : List Value} {vs : List V}, ofCs xs = some vs → ∀ x ∈ xs, x.oneCell' = true
  | [], vs, h => by simp
  | x :: xs, vs, h => by
    unfold ofCs at h
    split at h
    · rename_i a b ha hb; cases h
      intro y hy
      rcases List.mem_cons.1 hy with rfl | hy
      · unfold ofC1 at ha
        split at ha <;> first | rfl | cases ha
      · exact ofCs_one hb y hy
    · cases h

theorem ofC_rel {x : Value} {v : V} (h : ofC x = some v) : Rel ι μ v x := by
  unfold ofC at h
  split at h
  · rename_i cs
    split at h
    · rename_i vs hv; cases h
      have := ofCs_rel (ι := ι) (μ := μ) hv
      exact .agg _ _ (by simpa using this.1) (fun i v x hv hx => this.2 i v x hv (by simpa using hx)) (ofCs_one hv)
    · cases h
  · exact ofC1_rel h

theorem trO_rel {env : List (Nat × V)} {a : Act} (he : EnvR ι μ env a.tmps) {x : Operand} {y : O} (h : trO x = some y) : Rel ι μ (y.ev env) (a.eval x) := by
  cases x with
  | tmp t => cases h; exact he t
  | const v =>
    simp only [trO] at h
    split at h
    · rename_i u hu; cases h; exact ofC_rel hu
    · cases h
  | func f => cases h; exact .fn _ _ _ #[] #[] rfl (fun i v x h => by simp at h) rfl (fun i v x h => by simp at h)
  | global g => cases h

theorem trOs_rel {env : List (Nat × V)} {a : Act} (he : EnvR ι μ env a.tmps) : ∀ {xs : List Operand} {ys : List O}, trOs xs = some ys → RelL ι μ (ys.map (·.ev env)) (xs.map a.eval)
  | [], ys, h => by cases h; exact .nil
  | x :: xs, ys, h => by
    unfold trOs at h
    split at h
    · rename_i y ys' h1 h2; cases h; exact .cons (trO_rel he h1) (trOs_rel he h2)
    · cases h

/-! ### Memory -/
theorem Mem.rangeAt {B : Nat → Prop} {id : Nat} {fz : Bool} {L : Loc} {vs : List Value} (h : Mem B ι μ id fz w L vs) : w.rangeAt L.b L.ba vs := fun j v hv => by
  obtain ⟨c, e, h1, _, h3⟩ := h.row
  simp [World.cell?, h1, h3 j v hv]

theorem rangeAt_sub {b o : Nat} {vs : List Value} (h : w.rangeAt b o vs) (d k : Nat) : w.rangeAt b (o + d) ((vs.drop d).take k) := fun j v hv => by
  rw [List.getElem?_take] at hv
  split at hv
  · rw [List.getElem?_drop] at hv
    have := h (d + j) v hv
    rw [← Nat.add_assoc] at this; exact this
  · cases hv

theorem Reads.rangeAt {b o : Nat} {vs : List Value} (hr : Reads ι b o vs) (hi : ∀ b o x, ι b o = some x → w.cell? ⟨b, o, none⟩ = some x) : w.rangeAt b o vs := fun j v hv => hi _ _ _ (hr j v hv)

theorem Reads.sub {b o : Nat} {vs : List Value} (h : Reads ι b o vs) (d k : Nat) : Reads ι b (o + d) ((vs.drop d).take k) := fun j v hv => by
  rw [List.getElem?_take] at hv
  split at hv
  · rw [List.getElem?_drop] at hv
    have := h (d + j) v hv
    rw [← Nat.add_assoc] at this; exact this
  · cases hv

theorem World.rangeAt_one {b o : Nat} {v : Value} (h : w.rangeAt b o [v]) : w.cell? ⟨b, o, none⟩ = some v := by simpa using h 0 v rfl

/-- The value of so many cells. -/
def wrapX : Bool → List Value → Option Value
  | true, xs => some (.agg xs.toArray)
  | false, [x] => some x
  | false, _ => none

theorem wrapC_rel {g : Bool} {cs : List V} {v : V} {xs : List Value} (h : wrapC g cs = some v) (hr : RelL ι μ cs xs) (h1 : ∀ u ∈ xs, u.oneCell' = true) : ∃ x, wrapX g xs = some x ∧ Rel ι μ v x := by
  cases g with
  | true =>
    cases h
    exact ⟨_, rfl, .agg _ _ (by simpa using hr.1) (fun i v x hv hx => hr.2 i v x hv (by simpa using hx)) (by simpa using h1)⟩
  | false =>
    match cs, h with
    | [c], h =>
      cases h
      obtain ⟨x, r, rfl, h1, h2⟩ := hr.uncons
      rw [h2.of_nil]
      exact ⟨x, rfl, h1⟩

theorem run_loadAt {t : TypeId} {k : Nat} {g : Bool} (hk : sizeT P t = some k) (hg : aggT P t = some g) {b o : Nat} {vs : List Value} (hr : w.rangeAt b o vs) (hl : vs.length = k)
    {x : Value} (hx : wrapX g vs = some x) : (Instr.loadAt t (.pointer (some ⟨b, o, none⟩))).run P w = .ok x w := by
  unfold aggT at hg
  unfold sizeT at hk
  cases g with
  | true =>
    cases hx
    split at hg
    · rename_i hu; exact run_loadAt_mid w b o t vs _ hr hu rfl (by rw [hk, hl])
    · rename_i hu; exact run_loadAt_mid w b o t vs _ hr hu rfl (by rw [hk, hl])
    · cases hg
    · cases hg
  | false =>
    match vs, hx with
    | [c], hx =>
      cases hx
      have hc := World.rangeAt_one hr
      split at hg
      · cases hg
      · cases hg
      · rename_i d h1 h2 hu
        have hagg : (isAgg t).run P w = .ok false w := by
          unfold isAgg
          rw [Sem.run_bind, run_underlying hu w]
          cases d <;> simp_all
        simp [Instr.loadAt, Instr.sureAddr, loadVar, hagg, hc]
      · cases hg

theorem run_storeAt {t : TypeId} {k : Nat} (hk : sizeT P t = some k) {b o : Nat} {v : Value} (ht : w.there b o k) (hl : v.cells.size = k) (h1 : ∀ u ∈ v.cells.toList, u.oneCell' = true) :
    (Instr.storeAt t (.pointer (some ⟨b, o, none⟩)) v).run P w = .ok () (w.setCells b o v.cells.toList) := by
  have := run_storeCells_cells (P := P) b o v.cells.toList 0 w (fun j hj => by simpa using (ht j (by simp at hj; omega)).1) (fun j hj => by simpa using (ht j (by simp at hj; omega)).2) h1
  unfold sizeT at hk
  cases hq : P.info? t with
  | none => simp [hq] at hk
  | some i =>
    have hs : v.cells.size = i.size := by simp [hq] at hk; omega
    simp only [Nat.add_zero] at this
    simp [Instr.storeAt, Instr.sureAddr, storeVar, sizeOf, typeInfo, hq, hs, this]

theorem Mem.there {B : Nat → Prop} {id : Nat} {fz : Bool} {L : Loc} {vs : List Value} (h : Mem B ι μ id fz w L vs) {o k : Nat} (hk : L.ba ≤ o) (hf : o + k ≤ L.tot) : w.there L.b o k := fun j hj => by
  obtain ⟨c, e, h1, h2, _⟩ := h.row
  simp only [World.cell?, World.frozen?, h1]
  refine ⟨?_, by simp⟩
  have : o + j < c.size := by omega
  simp [this]

/-- Cells of a block that is written turn. -/
theorem Mem.write {B : Nat → Prop} {id : Nat} {L : Loc} {vs : List Value} (h : Mem B ι μ id false w L vs) {d : Nat} {us : List Value} (hd : d + us.length ≤ vs.length) (h1 : ∀ u ∈ us, u.oneCell' = true) :
    Mem B ι μ id false (w.setCells L.b (L.ba + d) us) L (vs.take d ++ us ++ vs.drop (d + us.length)) := by
  obtain ⟨c, e, hc, hs, hr⟩ := h.row
  have hth : w.there L.b (L.ba + d) us.length := h.there (by omega) (by have := h.fits; omega)
  refine ⟨h.mu, h.old, ?_, ?_, ?_, (fun e => by cases e), h.fzF⟩
  · have key : ∀ (us : List Value) (o : Nat) (w : World) (c : Array Value), w.heap[L.b]? = some (.cells c e (0, 0)) → o + us.length ≤ c.size →
        ∃ c', (w.setCells L.b o us).heap[L.b]? = some (.cells c' e (0, 0)) ∧ c'.size = c.size ∧ ∀ i, c'[i]? = if o ≤ i ∧ i < o + us.length then us[i - o]? else c[i]? := by
      intro us
      induction us with
      | nil => intro o w c hc _; exact ⟨c, hc, rfl, fun i => by rw [if_neg (by simp only [List.length_nil]; omega)]⟩
      | cons u us ih =>
        intro o w c hc ho
        have hc' : (w.setCell ⟨L.b, o, none⟩ u).heap[L.b]? = some (.cells (c.setIfInBounds o u) e (0, 0)) := by
          simp [World.setCell, Array.getElem?_modify, hc]
        obtain ⟨c', e1, e2, e3⟩ := ih (o + 1) _ _ hc' (by simp at ho ⊢; omega)
        refine ⟨c', e1, by simpa using e2, fun i => ?_⟩
        rw [e3]
        simp only [List.length_cons] at ho ⊢
        by_cases hi : i = o
        · subst hi
          rw [if_neg (by omega), if_pos (by omega)]
          have : i < c.size := by omega
          simp [this]
        · by_cases h2 : o + 1 ≤ i ∧ i < o + 1 + us.length
          · rw [if_pos h2, if_pos (by omega)]
            obtain ⟨m, rfl⟩ : ∃ m, i = o + 1 + m := ⟨i - (o + 1), by omega⟩
            rw [show o + 1 + m - (o + 1) = m by omega, show o + 1 + m - o = m + 1 by omega]; rfl
          · rw [if_neg h2, if_neg (by omega), Array.getElem?_setIfInBounds_ne (by omega)]
    have hf := h.fits
    obtain ⟨c', e1, e2, e3⟩ := key us (L.ba + d) w c hc (by omega)
    refine ⟨c', e, e1, by rw [e2]; exact hs, fun j v hv => ?_⟩
    rw [e3]
    by_cases hj : d ≤ j ∧ j < d + us.length
    · rw [if_pos (by omega)]
      rw [List.append_assoc, List.getElem?_append_right (by simp; omega), List.getElem?_append_left (by simp; omega)] at hv
      rw [← hv]; congr 1; simp; omega
    · rw [if_neg (by omega)]
      by_cases hj2 : j < d
      · rw [List.append_assoc, List.getElem?_append_left (by simp; omega), List.getElem?_take, if_pos hj2] at hv
        exact hr j v hv
      · rw [List.getElem?_append_right (by simp; omega), List.getElem?_drop] at hv
        refine hr j v ?_
        rw [← hv]; congr 1; simp; omega
  · have := h.fits
    simp; omega
  · intro v hv
    rcases List.mem_append.1 hv with hv | hv
    · rcases List.mem_append.1 hv with hv | hv
      · exact h.one v (List.mem_of_mem_take hv)
      · exact h1 v hv
    · exact h.one v (List.mem_of_mem_drop hv)

theorem heap_setCells_ne (b : Nat) : ∀ (vs : List Value) (o : Nat) (w : World) (k : Nat), k ≠ b → (w.setCells b o vs).heap[k]? = w.heap[k]?
  | [], _, _, _, _ => rfl
  | v :: r, o, w, k, h => by
    rw [World.setCells, heap_setCells_ne b r _ _ k h]
    simp [World.setCell, Array.getElem?_modify, Ne.symm h]

theorem size_setCells (b : Nat) : ∀ (vs : List Value) (o : Nat) (w : World), (w.setCells b o vs).heap.size = w.heap.size
  | [], _, _ => rfl
  | v :: r, o, w => by rw [World.setCells, size_setCells b r]; simp

theorem os_setCells (b : Nat) : ∀ (vs : List Value) (o : Nat) (w : World), (w.setCells b o vs).os = w.os ∧ (w.setCells b o vs).tape = w.tape ∧ (w.setCells b o vs).output = w.output
  | [], _, _ => ⟨rfl, rfl, rfl⟩
  | v :: r, o, w => by rw [World.setCells]; exact os_setCells b r (o + 1) (w.setCell ⟨b, o, none⟩ v)

/-- A store into a live block. -/
theorem Inv.store (h : Inv P Y ι μ H w) {id : Nat} {b0 b : Blk} (hb0 : bget id H.bl = some b0) {L : Loc} (hL : μ id = some L) (hfree : ∀ o, ι L.b o = none) {o : Nat} {us : List Value}
    (hb : BlkOk P Y.own ι μ id (w.setCells L.b o us) b) : Inv P Y ι μ ⟨H.next, (id, b) :: bdel id H.bl⟩ (w.setCells L.b o us) :=
  h.turn hb0 hL hfree (os_setCells _ _ _ _).1 (os_setCells _ _ _ _).2.1 (os_setCells _ _ _ _).2.2 (size_setCells _ _ _ _) (fun k hk => heap_setCells_ne _ _ _ _ _ hk) hb

theorem setCs_rel : ∀ {off : Nat} {vs cs cs' : List V} {us xs : List Value}, setCs off vs cs = some cs' → RelL ι μ cs xs → RelL ι μ vs us →
    off + us.length ≤ xs.length ∧ RelL ι μ cs' (xs.take off ++ us ++ xs.drop (off + us.length))
  | 0, vs, cs, cs', us, xs, h, hc, hv => by
    unfold setCs at h
    split at h
    · rename_i hl; cases h
      refine ⟨by have := hc.1; have := hv.1; omega, ?_⟩
      have := hv.append (hc.drop vs.length)
      rw [hv.1] at this ⊢
      simpa using this
    · cases h
  | off + 1, vs, [], cs', us, xs, h, hc, hv => by simp [setCs] at h
  | off + 1, vs, c :: cs, cs', us, xs, h, hc, hv => by
    unfold setCs at h
    obtain ⟨x, r, rfl, h1, h2⟩ := hc.uncons
    split at h
    · rename_i r' hr'
      cases h
      obtain ⟨h3, h4⟩ := setCs_rel hr' h2 hv
      refine ⟨by simp; omega, ?_⟩
      have := RelL.cons h1 h4
      simpa [List.take_succ_cons, show off + 1 + us.length = (off + us.length) + 1 by omega] using this
    · cases h
end
end Go.AM
