/- The small machine's heap in the model's world. -/
import Derived.Test.YtigglifniejbpaaAM4
set_option linter.unusedVariables false
set_option linter.unusedSimpArgs false
namespace Go.AM

/-- What is fixed while a function runs: the world in which it began, what may be read for ever, the caller's blocks, the round it stands in. -/
structure Ctx where
  w0 : World
  ι0 : Iota
  m0 : Mu
  ro : Option Nat
  x : Nat → Prop

/-- The model's blocks that may change: new ones, and those that the caller lends. -/
def Ctx.own (Y : Ctx) (b : Nat) : Prop := Y.w0.heap.size ≤ b ∨ Y.x b

theorem Ctx.own_ne {Y : Ctx} {b k : Nat} (h : Y.own b) (hk : k < Y.w0.heap.size) (hx : ¬ Y.x k) : k ≠ b := fun e => by
  subst e; rcases h with h | h
  · omega
  · exact hx h

/-- All old blocks but those that are lent are as they were. -/
structure Bel (x : Nat → Prop) (w0 w : World) : Prop where
  os : w.os = w0.os
  tape : w.tape = w0.tape
  output : w.output = w0.output
  size : w0.heap.size ≤ w.heap.size
  block : ∀ k, k < w0.heap.size → ¬ x k → w.heap[k]? = w0.heap[k]?

theorem Bel.refl (x : Nat → Prop) (w : World) : Bel x w w := ⟨rfl, rfl, rfl, Nat.le_refl _, fun _ _ _ => rfl⟩
theorem Bel.to {x : Nat → Prop} {w0 w : World} (h : Bel x w0 w) (hx : ∀ k, ¬ x k) : RowKit.Below w0.heap.size w0 w := ⟨h.os, h.tape, h.output, h.size, fun k hk => h.block k hk (hx k)⟩
theorem Bel.then {x : Nat → Prop} {w0 w w' : World} (h : Bel x w0 w) (k : RowKit.Below w.heap.size w w') : Bel x w0 w' :=
  ⟨k.os.trans h.os, k.tape.trans h.tape, k.output.trans h.output, Nat.le_trans h.size k.size, fun i hi hx => (k.block i (Nat.lt_of_lt_of_le hi h.size)).trans (h.block i hi hx)⟩

structure Mem (B : Nat → Prop) (ι : Iota) (μ : Mu) (id : Nat) (fz : Bool) (w : World) (L : Loc) (vs : List Value) : Prop where
  mu : μ id = some L
  old : B L.b
  row : ∃ c e, w.heap[L.b]? = some (.cells c e (0, 0)) ∧ c.size = L.tot ∧ ∀ (j : Nat) v, vs[j]? = some v → c[L.ba + j]? = some v
  fits : L.ba + vs.length ≤ L.tot
  one : ∀ v ∈ vs, v.oneCell' = true
  fzT : fz = true → Reads ι L.b L.ba vs
  fzF : fz = false → ∀ o, ι L.b o = none

def jumpR : Option Ex → Option Code → Prop
  | none, c => c = none
  | some .normal, _ => False
  | some (.exit id), c => c = some (.exit id)
  | some .ret, c => c = some .ret

def stR : LState → LoopState
  | .ready => .ready
  | .busy => .busy
  | .done => .done
  | .exhausted => .exhausted

def EnvR (ι : Iota) (μ : Mu) (env : List (Nat × V)) (tmps : Array Value) : Prop := ∀ t, Rel ι μ (get t env) (tmps.getD t undef)

def BlkOk (P : Program) (B : Nat → Prop) (ι : Iota) (μ : Mu) (id : Nat) (w : World) : Blk → Prop
  | .cells cs fz => ∃ L vs, Mem B ι μ id fz w L vs ∧ RelL ι μ cs vs
  | .arr t xs fz => (xs = [] ∧ μ id = none) ∨ ∃ L vs, Mem B ι μ id fz w L vs ∧ CatR (CellsD ι t) xs vs ∧ xs.length = L.len
  | .loop st j d env ps as bd N => ∃ L r Ld, μ id = some L ∧ B L.b ∧ w.heap[L.b]? = some (.loop r) ∧ r.state = stR st ∧ jumpR j r.pending ∧ EnvR ι μ env r.tmps ∧
      r.params.toList = ps ∧ r.tmps.size = N ∧ (∀ p ∈ ps, p < N) ∧ trC P N r.assign = some as ∧ trC P N r.body = some bd ∧ μ d = some Ld ∧ r.defers = Ld.b
  | .dfr => ∃ L, μ id = some L ∧ B L.b ∧ w.heap[L.b]? = some (.deferred (some []))

structure Inv (P : Program) (Y : Ctx) (ι : Iota) (μ : Mu) (H : Heap) (w : World) : Prop where
  below : Bel Y.x Y.w0 w
  i0 : Y.ι0.le ι
  iB : ∀ b o, b < Y.w0.heap.size → ¬ Y.x b → ι b o = Y.ι0 b o
  rd : ∀ b o x, ι b o = some x → w.cell? ⟨b, o, none⟩ = some x
  m0 : Y.m0.le μ
  nx : ∀ id, H.next ≤ id → μ id = none
  live : ∀ id B, bget id H.bl = some B → BlkOk P Y.own ι μ id w B
  inj : ∀ id id' B B' L L', bget id H.bl = some B → bget id' H.bl = some B' → μ id = some L → μ id' = some L' → L.b = L'.b → id = id'
  lt : ∀ id B, bget id H.bl = some B → id < H.next

theorem bget_bdel (i j : Nat) : ∀ bl : Blks, bget i (bdel j bl) = if i = j then none else bget i bl
  | [] => by simp [bdel, bget]
  | (s, b) :: r => by
    have ih := bget_bdel i j r
    by_cases h : s = j
    · subst h
      have : Nat.beq s s = true := Nat.beq_refl s
      simp only [bdel, this, ih]
      by_cases hi : i = s
      · simp [hi]
      · have h2 : Nat.beq s i = false := by rw [Bool.eq_false_iff]; intro e; exact hi (Nat.eq_of_beq_eq_true e).symm
        simp [hi, bget, h2]
    · have h1 : Nat.beq s j = false := by rw [Bool.eq_false_iff]; intro e; exact h (Nat.eq_of_beq_eq_true e)
      simp only [bdel, h1, bget]
      by_cases hi : s = i
      · subst hi; simp [Nat.beq_refl, h]
      · have h2 : Nat.beq s i = false := by rw [Bool.eq_false_iff]; intro e; exact hi (Nat.eq_of_beq_eq_true e)
        simp [h2, ih]

theorem bget_cons (i s : Nat) (b : Blk) (r : Blks) : bget i ((s, b) :: r) = if s = i then some b else bget i r := by
  by_cases h : s = i
  · subst h; simp [bget, Nat.beq_refl]
  · have h2 : Nat.beq s i = false := by rw [Bool.eq_false_iff]; intro e; exact h (Nat.eq_of_beq_eq_true e)
    simp [bget, h2, h]

theorem get_cons (i s : Nat) (b : V) (r : List (Nat × V)) : get i ((s, b) :: r) = if s = i then b else get i r := by
  by_cases h : s = i
  · subst h; simp [get, Nat.beq_refl]
  · have h2 : Nat.beq s i = false := by rw [Bool.eq_false_iff]; intro e; exact h (Nat.eq_of_beq_eq_true e)
    simp [get, h2, h]

theorem get_setE (i s : Nat) (b : V) (r : List (Nat × V)) : get i (setE s b r) = if s = i then b else get i r := by simp only [setE, get_cons]

theorem bget_set (i s : Nat) (b : Blk) (bl : Blks) : bget i ((s, b) :: bdel s bl) = if i = s then some b else bget i bl := by
  rw [bget_cons, bget_bdel]
  by_cases h : s = i
  · simp [h]
  · simp [h, Ne.symm h, fun e : i = s => h e.symm]

section
variable {P : Program} {Y : Ctx} {ι ι' : Iota} {μ μ' : Mu} {H : Heap} {w w' : World}

theorem Mem.mono {B : Nat → Prop} {id : Nat} {fz : Bool} {L : Loc} {vs : List Value} (h : Mem B ι μ id fz w L vs) (hi : ι.le ι') (hm : μ.le μ') (hw : w'.heap[L.b]? = w.heap[L.b]?)
    (hf : fz = false → ∀ o, ι' L.b o = none) : Mem B ι' μ' id fz w' L vs :=
  ⟨hm _ _ h.mu, h.old, by rw [hw]; exact h.row, h.fits, h.one, fun e => (h.fzT e).mono hi, hf⟩

theorem EnvR.mono (hi : ι.le ι') (hm : μ.le μ') {env : List (Nat × V)} {t : Array Value} (h : EnvR ι μ env t) : EnvR ι' μ' env t := fun i => (h i).mono hi hm

theorem jumpR.irrel : True := trivial

/-- A block stays as it was where its memory does. -/
theorem BlkOk.mono {B : Nat → Prop} {id : Nat} {b : Blk} (h : BlkOk P B ι μ id w b) (hi : ι.le ι') (hm : μ.le μ') (hn : μ id = none → μ' id = none)
    (hw : ∀ L, μ id = some L → w'.heap[L.b]? = w.heap[L.b]?) (hf : ∀ L, μ id = some L → (∀ o, ι L.b o = none) → ∀ o, ι' L.b o = none) : BlkOk P B ι' μ' id w' b := by
  cases b with
  | cells cs fz =>
    obtain ⟨L, vs, hM, hR⟩ := h
    exact ⟨L, vs, hM.mono hi hm (hw L hM.mu) (fun e => hf L hM.mu (hM.fzF e)), hR.mono hi hm⟩
  | arr t xs fz =>
    rcases h with ⟨rfl, h⟩ | ⟨L, vs, hM, hR, hl⟩
    · exact .inl ⟨rfl, hn h⟩
    · exact .inr ⟨L, vs, hM.mono hi hm (hw L hM.mu) (fun e => hf L hM.mu (hM.fzF e)), CatR.mono (fun _ _ => CellsD.mono hi) hR, hl⟩
  | loop st j d env ps as bd N =>
    obtain ⟨L, r, Ld, h1, h2, h3, h4, h5, h6, h7, h8, h9, h10, h11, h12, h13⟩ := h
    exact ⟨L, r, Ld, hm _ _ h1, h2, by rw [hw L h1]; exact h3, h4, h5, h6.mono hi hm, h7, h8, h9, h10, h11, hm _ _ h12, h13⟩
  | dfr =>
    obtain ⟨L, h1, h2, h3⟩ := h
    exact ⟨L, hm _ _ h1, h2, by rw [hw L h1]; exact h3⟩

/-- Where a live block lies. -/
theorem BlkOk.loc {B : Nat → Prop} {id : Nat} {b : Blk} (h : BlkOk P B ι μ id w b) {L : Loc} (hL : μ id = some L) : B L.b ∧ L.b < w.heap.size := by
  have lt : ∀ {o : Obj}, w.heap[L.b]? = some o → L.b < w.heap.size := fun h => (Array.getElem?_eq_some_iff.1 h).1
  cases b with
  | cells cs fz =>
    obtain ⟨L', vs, hM, _⟩ := h
    have := hM.mu; rw [hL] at this; cases this
    obtain ⟨c, e, h1, _⟩ := hM.row
    exact ⟨hM.old, lt h1⟩
  | arr t xs fz =>
    rcases h with ⟨_, h⟩ | ⟨L', vs, hM, _⟩
    · rw [h] at hL; cases hL
    · have := hM.mu; rw [hL] at this; cases this
      obtain ⟨c, e, h1, _⟩ := hM.row
      exact ⟨hM.old, lt h1⟩
  | loop st j d env ps as bd N =>
    obtain ⟨L', r, Ld, h1, h2, h3, _⟩ := h
    rw [hL] at h1; cases h1
    exact ⟨h2, lt h3⟩
  | dfr =>
    obtain ⟨L', h1, h2, h3⟩ := h
    rw [hL] at h1; cases h1
    exact ⟨h2, lt h3⟩

theorem Inv.congr {bl : Blks} {n : Nat} (h : Inv P Y ι μ H w) (hb : ∀ id, bget id bl = bget id H.bl) (hn : H.next = n) : Inv P Y ι μ ⟨n, bl⟩ w :=
  ⟨h.below, h.i0, h.iB, h.rd, h.m0, by rw [← hn]; exact h.nx, fun id B hB => h.live id B (by rw [← hb]; exact hB),
   fun id id' B B' L L' h1 h2 => h.inj id id' B B' L L' (by rw [← hb]; exact h1) (by rw [← hb]; exact h2), fun id B hB => by rw [← hn]; exact h.lt id B (by rw [← hb]; exact hB)⟩

theorem Inv.sub {bl : Blks} (h : Inv P Y ι μ H w) (hb : ∀ id B, bget id bl = some B → bget id H.bl = some B) : Inv P Y ι μ ⟨H.next, bl⟩ w :=
  ⟨h.below, h.i0, h.iB, h.rd, h.m0, h.nx, fun id B hB => h.live id B (hb _ _ hB),
   fun id id' B B' L L' h1 h2 => h.inj id id' B B' L L' (hb _ _ h1) (hb _ _ h2), fun id B hB => h.lt id B (hb _ _ hB)⟩

theorem Inv.del (h : Inv P Y ι μ H w) (i : Nat) : Inv P Y ι μ ⟨H.next, bdel i H.bl⟩ w :=
  h.sub fun id B hB => by rw [bget_bdel] at hB; split at hB <;> simp_all

/-- A later name. -/
theorem Inv.next (h : Inv P Y ι μ H w) : Inv P Y ι μ ⟨H.next + 1, H.bl⟩ w :=
  ⟨h.below, h.i0, h.iB, h.rd, h.m0, fun id hid => h.nx id (by simp only at hid; omega), h.live, h.inj, fun id B hB => by have := h.lt id B hB; simp only; omega⟩

theorem Inv.drew (h : Inv P Y ι μ H w) : Inv P Y ι μ H w.drew :=
  ⟨⟨h.below.os, h.below.tape, h.below.output, h.below.size, h.below.block⟩, h.i0, h.iB, h.rd, h.m0, h.nx,
   fun id B hB => (h.live id B hB).mono (Iota.le_refl _) (Mu.le_refl _) (fun h => h) (fun _ _ => rfl) (fun _ _ h => h), h.inj, h.lt⟩

def Mu.set (μ : Mu) (n : Nat) (L : Loc) : Mu := fun id => if id = n then some L else μ id

theorem Mu.le_set {n : Nat} {L : Loc} (h : μ n = none) : μ.le (μ.set n L) := fun id L' hL => by
  unfold Mu.set; split
  · rename_i e; subst e; rw [h] at hL; cases hL
  · exact hL

/-- A new block. -/
theorem Inv.lay (h : Inv P Y ι μ H w) {nid : Nat} (hn : μ nid = none) {o : Obj} {b : Blk} {L : Loc} (hL : L.b = w.heap.size)
    (hb : BlkOk P Y.own ι (μ.set nid L) nid (w.alloc o) b) : Inv P Y ι (μ.set nid L) ⟨max H.next (nid + 1), (nid, b) :: bdel nid H.bl⟩ (w.alloc o) := by
  have hle := Mu.le_set (L := L) hn
  have heap : ∀ k, k < w.heap.size → (w.alloc o).heap[k]? = w.heap[k]? := fun k hk => by
    show (w.heap.push o)[k]? = _
    rw [Array.getElem?_push]; split
    · omega
    · rfl
  refine ⟨⟨h.below.os, h.below.tape, h.below.output, by have := h.below.size; simp; omega, fun k hk hx => ?_⟩, h.i0, h.iB, fun b o x hx => ?_, Mu.le_trans h.m0 hle, fun id hid => ?_, fun id B hB => ?_, ?_, ?_⟩
  · have := h.below.size
    rw [heap k (by omega)]; exact h.below.block k hk hx
  · have := h.rd b o x hx
    rw [World.cell?_alloc_lt _ _ _ (World.block_lt_of_cell? _ _ this)]; exact this
  · simp only at hid
    unfold Mu.set; rw [if_neg (by omega)]; exact h.nx id (by omega)
  · rw [bget_set] at hB
    split at hB
    · rename_i e; subst e; cases hB; exact hb
    · rename_i e
      refine (h.live id B hB).mono (Iota.le_refl _) hle (fun hm => by unfold Mu.set; rw [if_neg e]; exact hm) (fun L' hL' => ?_) (fun _ _ h => h)
      exact heap _ ((h.live id B hB).loc hL').2
  · intro id id' B B' L1 L2 h1 h2 hm1 hm2 e
    rw [bget_set] at h1 h2
    unfold Mu.set at hm1 hm2
    by_cases e1 : id = nid <;> by_cases e2 : id' = nid
    · rw [e1, e2]
    · rw [if_pos e1] at hm1; rw [if_neg e2] at hm2 h2
      cases hm1
      have := ((h.live id' B' h2).loc hm2).2; omega
    · rw [if_pos e2] at hm2; rw [if_neg e1] at hm1 h1
      cases hm2
      have := ((h.live id B h1).loc hm1).2; omega
    · rw [if_neg e1] at hm1 h1; rw [if_neg e2] at hm2 h2
      exact h.inj id id' B B' L1 L2 h1 h2 hm1 hm2 e
  · intro id B hB
    rw [bget_set] at hB
    split at hB
    · rename_i e; subst e; simp only; omega
    · have := h.lt id B hB; simp only; omega

/-- A live block's memory, and so what it holds, is turned. -/
theorem Inv.turn (h : Inv P Y ι μ H w) {id : Nat} {b0 b : Blk} (hb0 : bget id H.bl = some b0) {L : Loc} (hL : μ id = some L) (hfree : ∀ o, ι L.b o = none)
    (hos : w'.os = w.os) (htape : w'.tape = w.tape) (hout : w'.output = w.output) (hsz : w'.heap.size = w.heap.size) (hk : ∀ k, k ≠ L.b → w'.heap[k]? = w.heap[k]?)
    (hb : BlkOk P Y.own ι μ id w' b) : Inv P Y ι μ ⟨H.next, (id, b) :: bdel id H.bl⟩ w' := by
  have hold := ((h.live id b0 hb0).loc hL).1
  refine ⟨⟨hos.trans h.below.os, htape.trans h.below.tape, hout.trans h.below.output, by rw [hsz]; exact h.below.size, fun k hk' hx => ?_⟩, h.i0, h.iB, fun b o x hx => ?_, h.m0, h.nx, fun i B hB => ?_, ?_, ?_⟩
  · rw [hk k (Ctx.own_ne hold hk' hx)]; exact h.below.block k hk' hx
  · have := h.rd b o x hx
    have hne : b ≠ L.b := fun e => by subst e; rw [hfree] at hx; cases hx
    unfold World.cell? at this ⊢
    simp only at this ⊢
    rw [hk b hne]; exact this
  · rw [bget_set] at hB
    split at hB
    · rename_i e; subst e; cases hB; exact hb
    · rename_i e
      refine (h.live i B hB).mono (Iota.le_refl _) (Mu.le_refl _) (fun h => h) (fun L' hL' => hk _ (fun e' => e (h.inj i id B b0 L' L hB hb0 hL' hL e'))) (fun _ _ h => h)
  · intro i i' B B' L1 L2 h1 h2 hm1 hm2 e
    have : ∀ {j B}, bget j ((id, b) :: bdel id H.bl) = some B → ∃ B'', bget j H.bl = some B'' := fun {j B} hj => by
      rw [bget_set] at hj
      split at hj
      · rename_i e; subst e; exact ⟨b0, hb0⟩
      · exact ⟨B, hj⟩
    obtain ⟨C, hC⟩ := this h1
    obtain ⟨C', hC'⟩ := this h2
    exact h.inj i i' C C' L1 L2 hC hC' hm1 hm2 e
  · intro i B hB
    rw [bget_set] at hB
    split at hB
    · rename_i e; subst e; exact h.lt _ _ hb0
    · exact h.lt i B hB

/-- Only what is known of a live block is turned. -/
theorem Inv.same (h : Inv P Y ι μ H w) {id : Nat} {b0 b : Blk} (hb0 : bget id H.bl = some b0) (hb : BlkOk P Y.own ι μ id w b) : Inv P Y ι μ ⟨H.next, (id, b) :: bdel id H.bl⟩ w := by
  refine ⟨h.below, h.i0, h.iB, h.rd, h.m0, h.nx, fun i B hB => ?_, ?_, ?_⟩
  · rw [bget_set] at hB
    split at hB
    · rename_i e; subst e; cases hB; exact hb
    · exact h.live i B hB
  · intro i i' B B' L1 L2 h1 h2 hm1 hm2 e
    have : ∀ {j B}, bget j ((id, b) :: bdel id H.bl) = some B → ∃ B'', bget j H.bl = some B'' := fun {j B} hj => by
      rw [bget_set] at hj
      split at hj
      · rename_i e; subst e; exact ⟨b0, hb0⟩
      · exact ⟨B, hj⟩
    obtain ⟨C, hC⟩ := this h1
    obtain ⟨C', hC'⟩ := this h2
    exact h.inj i i' C C' L1 L2 hC hC' hm1 hm2 e
  · intro i B hB
    rw [bget_set] at hB
    split at hB
    · rename_i e; subst e; exact h.lt _ _ hb0
    · exact h.lt i B hB

/-- What is read for ever, and a block's cells. -/
def Iota.add (ι : Iota) (L : Loc) (vs : List Value) : Iota := fun b o => if b = L.b then (if L.ba ≤ o then vs[o - L.ba]? else none) else ι b o

theorem Iota.le_add {L : Loc} {vs : List Value} (h : ∀ o, ι L.b o = none) : ι.le (ι.add L vs) := fun b o x hx => by
  unfold Iota.add; split
  · rename_i e; subst e; rw [h] at hx; cases hx
  · exact hx

theorem Reads.add {L : Loc} {vs : List Value} : Reads (ι.add L vs) L.b L.ba vs := fun j v hj => by
  unfold Iota.add; rw [if_pos rfl, if_pos (by omega)]; simpa using hj

/-- A block of data is written no more. -/
theorem Inv.freeze (h : Inv P Y ι μ H w) {id : Nat} {t : Ty} {xs : List t.den} {fz : Bool} (hb : bget id H.bl = some (.arr t xs fz)) :
    ∃ ι', ι.le ι' ∧ Inv P Y ι' μ ⟨H.next, (id, .arr t xs true) :: bdel id H.bl⟩ w ∧ Frozen ι' μ id t xs := by
  rcases h.live id _ hb with ⟨rfl, hn⟩ | ⟨L, vs, hM, hR, hl⟩
  · exact ⟨ι, Iota.le_refl _, h.same hb (.inl ⟨rfl, hn⟩), .inl ⟨rfl, hn⟩⟩
  · cases fz with
    | true => exact ⟨ι, Iota.le_refl _, h.same hb (.inr ⟨L, vs, hM, hR, hl⟩), .inr ⟨L, vs, hM.mu, hM.fzT rfl, hR, hl⟩⟩
    | false =>
      have hfree := hM.fzF rfl
      have hle := Iota.le_add (vs := vs) hfree
      have hR' : CatR (CellsD (ι.add L vs) t) xs vs := CatR.mono (fun _ _ => CellsD.mono hle) hR
      refine ⟨ι.add L vs, hle, ?_, .inr ⟨L, vs, hM.mu, Reads.add, hR', hl⟩⟩
      refine ⟨h.below, Iota.le_trans h.i0 hle, fun b o hb' hx => ?_, fun b o x hx => ?_, h.m0, h.nx, fun i B hB => ?_, ?_, ?_⟩
      · unfold Iota.add; rw [if_neg (fun e => Ctx.own_ne hM.old hb' hx e)]; exact h.iB b o hb' hx
      · unfold Iota.add at hx
        split at hx
        · rename_i e; subst e
          split at hx
          · rename_i ho
            obtain ⟨c, e, h1, h2, h3⟩ := hM.row
            have := h3 _ _ hx
            rw [show L.ba + (o - L.ba) = o by omega] at this
            simp [World.cell?, h1, this]
          · cases hx
        · exact h.rd b o x hx
      · rw [bget_set] at hB
        split at hB
        · rename_i e; subst e; cases hB
          exact .inr ⟨L, vs, ⟨hM.mu, hM.old, hM.row, hM.fits, hM.one, fun _ => Reads.add, fun e => by cases e⟩, hR', hl⟩
        · rename_i e
          refine (h.live i B hB).mono hle (Mu.le_refl _) (fun h => h) (fun _ _ => rfl) (fun L' hL' ho o => ?_)
          unfold Iota.add
          rw [if_neg (fun e' => e (h.inj i id B _ L' L hB hb hL' hM.mu e'))]
          exact ho o
      · intro i i' B B' L1 L2 h1 h2 hm1 hm2 e
        have : ∀ {j B}, bget j ((id, .arr t xs true) :: bdel id H.bl) = some B → ∃ B'', bget j H.bl = some B'' := fun {j B} hj => by
          rw [bget_set] at hj
          split at hj
          · rename_i e; subst e; exact ⟨_, hb⟩
          · exact ⟨B, hj⟩
        obtain ⟨C, hC⟩ := this h1
        obtain ⟨C', hC'⟩ := this h2
        exact h.inj i i' C C' L1 L2 hC hC' hm1 hm2 e
      · intro i B hB
        rw [bget_set] at hB
        split at hB
        · rename_i e; subst e; exact h.lt _ _ hb
        · exact h.lt i B hB
end
end Go.AM
