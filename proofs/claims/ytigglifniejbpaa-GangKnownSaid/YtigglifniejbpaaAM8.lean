/- Each operation of the small machine is the model's: loads, stores, new blocks. -/
import Derived.Test.YtigglifniejbpaaAM7
set_option linter.unusedVariables false
set_option linter.unusedSimpArgs false
namespace Go.AM
section
variable {P : Program} {Y : Ctx} {ι ι' : Iota} {μ μ' : Mu} {H : Heap} {w w' : World}
  {c1 : Nat → List V → Heap → (V → Heap → Prop) → Prop} {c2 : Nat → List V → V → Prop} {c3 : C → St → (Ex → St → Prop) → Prop}
  {c4 : Nat → List V → Heap → (V → Heap → Prop) → Prop} {c5 : O → List Nat → C → C → St → (Ex → St → Prop) → Prop}

def AllT (ob : List Bool) : Prop := ∀ b ∈ ob, b = true

def nextOf (l : Bool) (n nid : Nat) : Nat := match l with
  | true => max n (nid + 1)
  | false => n

def OpOk (P : Program) (Y : Ctx) (ι : Iota) (μ : Mu) (H : Heap) (w : World) (nid : Nat) (s : Sem Next) (v : V) (u : Upd) (l : Bool) : Prop :=
  ∃ ι' μ' x w', (s.run P w = .ok (.value x) w' ∨ (s.run P w = .ok .skip w' ∧ x = undef)) ∧ ι.le ι' ∧ μ.le μ' ∧ (∀ id, id ≠ nid → μ' id = μ id) ∧
    Inv P Y ι' μ' ⟨nextOf l H.next nid, bupd u H.bl⟩ w' ∧ Rel ι' μ' v x

theorem OpOk.pure (h : Inv P Y ι μ H w) {nid : Nat} {s : Sem Next} {v : V} {x : Value} (hs : s.run P w = .ok (.value x) w) (hr : Rel ι μ v x) : OpOk P Y ι μ H w nid s v [] false :=
  ⟨ι, μ, x, w, .inl hs, Iota.le_refl _, Mu.le_refl _, fun _ _ => rfl, h, hr⟩

theorem Mu.set_ne {μ : Mu} {n : Nat} {L : Loc} : ∀ id, id ≠ n → μ.set n L id = μ id := fun id h => by unfold Mu.set; rw [if_neg h]

theorem load_sound (h : Inv P Y ι μ H w) {env : List (Nat × V)} {t : TypeId} {g : Bool} {k : Nat} {x : O} {px : Value} {ob : List Bool} {v : V} {u : Upd} {nid : Nat} (hk : sizeT P t = some k) (hg : aggT P t = some g)
    (hx : Rel ι μ (x.ev env) px) (hev : evI (mkAr c1 c2 c3 c4 c5) (.load g k x) env H.bl nid = some (ob, v, u)) (hob : AllT ob) :
    u = [] ∧ ∃ y, (Instr.loadAt t px).run P w = .ok y w ∧ Rel ι μ v y := by
  have fin : ∀ {b o : Nat} {cs : List V} {vs : List Value}, w.rangeAt b o vs → vs.length = k → RelL ι μ cs vs → (∀ u ∈ vs, u.oneCell' = true) → wrapC g cs = some v →
      ∃ y, (Instr.loadAt t (.pointer (some ⟨b, o, none⟩))).run P w = .ok y w ∧ Rel ι μ v y := fun hr hl hR h1 hw => by
    obtain ⟨y, hy, hv⟩ := wrapC_rel hw hR h1
    exact ⟨y, run_loadAt hk hg hr hl hy, hv⟩
  simp only [evI] at hev
  split at hev <;> try (cases hev; done)
  · rename_i id off hxe
    rw [hxe] at hx
    split at hev <;> try (cases hev; done)
    rename_i cs fz hb
    split at hev <;> try (cases hev; done)
    rename_i vs' hcut
    split at hev <;> try (cases hev; done)
    rename_i v' hwr
    cases hev
    obtain ⟨L, vs, hM, hR⟩ := h.live _ _ hb
    cases hx with
    | ptr _ _ L' hL =>
      rw [hM.mu] at hL; cases hL
      obtain ⟨r1, r2, r3⟩ := hR.map_cut hcut
      exact ⟨rfl, fin (rangeAt_sub hM.rangeAt off k) (by rw [← r1.1]; exact r2) r1 (fun u hu => hM.one u (List.mem_of_mem_drop (List.mem_of_mem_take hu))) hwr⟩
  · rename_i cs hxe
    rw [hxe] at hx
    split at hev <;> try (cases hev; done)
    rename_i vs' hcut
    split at hev <;> try (cases hev; done)
    rename_i v' hwr
    cases hev
    cases hx with
    | ipc _ b o gf h1 h2 h3 =>
      have hR : RelL ι μ cs ((List.range cs.length).map gf) := ⟨by simp, fun i v x hv hx => by
        have hi := (List.getElem?_eq_some_iff.1 hv).1
        simp [hi] at hx; subst hx; exact h2 i v hv⟩
      have hrg : w.rangeAt b o ((List.range cs.length).map gf) := fun j v hv => by
        have hj : j < cs.length := by have := (List.getElem?_eq_some_iff.1 hv).1; simpa using this
        simp [hj] at hv; subst hv; exact h.rd _ _ _ (h1 j hj)
      obtain ⟨r1, r2, r3⟩ := hR.map_cut hcut
      have := rangeAt_sub hrg 0 k
      exact ⟨rfl, fin this (by rw [← r1.1]; exact r2) r1 (fun u hu => by
        have hu := List.mem_of_mem_drop (List.mem_of_mem_take hu)
        obtain ⟨i, _, rfl⟩ := List.mem_map.1 hu; exact h3 i) hwr⟩
  · rename_i id te i p hxe
    rw [hxe] at hx
    split at hev <;> try (cases hev; done)
    rename_i t' xs fz hb
    split at hev <;> try (cases hev; done)
    rename_i e; subst e
    split at hev <;> try (cases hev; done)
    rename_i t2 y hget
    split at hev <;> try (cases hev; done)
    rename_i hlen
    split at hev <;> try (cases hev; done)
    rename_i v' hwr
    cases hev
    have hi : i < xs.length := by simpa using hob _ (List.mem_singleton.2 rfl)
    rcases h.live _ _ hb with ⟨rfl, _⟩ | ⟨L, vs, hM, hR, hl⟩
    · simp at hi
    · cases hx with
      | ep _ _ _ _ L' hL =>
        rw [hM.mu] at hL; cases hL
        have hxi : xs[i]? = some (xs.getD i te.zero) := by simp [List.getD, hi]
        have hc := hR.at (fun _ _ => CellsD.length) hxi
        obtain ⟨g1, g2, _⟩ := getP_rel hget hc
        have hr1 := rangeAt_sub hM.rangeAt (i * te.sz) te.sz
        have hr2 := rangeAt_sub hr1 (te.offP p) t2.sz
        have hR2 := toVs_rel (μ := μ) g1
        exact ⟨rfl, fin hr2 (by rw [← hR2.1]; exact hlen) hR2 (CellsD.one g1) hwr⟩
  · rename_i ti y hxe
    rw [hxe] at hx
    split at hev <;> try (cases hev; done)
    rename_i hlen
    split at hev <;> try (cases hev; done)
    rename_i v' hwr
    cases hev
    cases hx with
    | ip _ _ b o us h1 h2 =>
      have hR2 := toVs_rel (μ := μ) h2
      exact ⟨rfl, fin (h1.rangeAt h.rd) (by rw [← hR2.1]; exact hlen) hR2 (CellsD.one h2) hwr⟩

theorem bupd_append : ∀ (u v : Upd) (bl : Blks), bupd (u ++ v) bl = bupd v (bupd u bl)
  | [], v, bl => rfl
  | (id, none) :: r, v, bl => bupd_append r v _
  | (id, some b) :: r, v, bl => bupd_append r v _

theorem IsFz.bget : ∀ {u : Upd} {bl : Blks} {id : Nat} {t : Ty} {xs : List t.den} {fz : Bool}, IsFz bl u → bget id bl = some (.arr t xs fz) → ∃ fz', bget id (bupd u bl) = some (.arr t xs fz')
  | [], bl, id, t, xs, fz, _, h => ⟨fz, h⟩
  | e :: r, bl, id, t, xs, fz, hz, h => by
    obtain ⟨id1, t1, xs1, fz1, rfl, hb⟩ := hz e List.mem_cons_self
    have hz' : IsFz ((id1, .arr t1 xs1 true) :: bdel id1 bl) r := fun e he => by
      obtain ⟨id2, t2, xs2, fz2, rfl, hb2⟩ := hz e (List.mem_cons_of_mem _ he)
      by_cases hid : id2 = id1
      · subst hid
        rw [hb] at hb2; cases hb2
        exact ⟨id2, t1, xs1, true, rfl, by rw [bget_set, if_pos rfl]⟩
      · exact ⟨id2, t2, xs2, fz2, rfl, by rw [bget_set, if_neg hid]; exact hb2⟩
    by_cases hid : id = id1
    · subst hid
      rw [hb] at h; cases h
      simp only [bupd]
      exact IsFz.bget (fz := true) hz' (by rw [bget_set, if_pos rfl])
    · simp only [bupd]
      exact IsFz.bget hz' (by rw [bget_set, if_neg hid]; exact h)

/-- A block that the freezing leaves alone. -/
theorem IsFz.bget_other : ∀ {u : Upd} {bl : Blks} {id : Nat}, IsFz bl u → (∀ e ∈ u, e.1 ≠ id) → AM.bget id (bupd u bl) = AM.bget id bl
  | [], bl, id, _, _ => rfl
  | e :: r, bl, id, hz, h => by
    obtain ⟨id1, t1, xs1, fz1, rfl, hb⟩ := hz e List.mem_cons_self
    have hz' : IsFz ((id1, .arr t1 xs1 true) :: bdel id1 bl) r := fun e he => by
      obtain ⟨id2, t2, xs2, fz2, rfl, hb2⟩ := hz e (List.mem_cons_of_mem _ he)
      by_cases hid : id2 = id1
      · subst hid
        rw [hb] at hb2; cases hb2
        exact ⟨id2, t1, xs1, true, rfl, by rw [bget_set, if_pos rfl]⟩
      · exact ⟨id2, t2, xs2, fz2, rfl, by rw [bget_set, if_neg hid]; exact hb2⟩
    have := IsFz.bget_other hz' (fun e he => h e (List.mem_cons_of_mem _ he))
    simp only [bupd]
    rw [this, bget_set, if_neg (fun e => h _ List.mem_cons_self e.symm)]

/-- New cells. -/
theorem lay_cells (h : Inv P Y ι μ H w) {nid : Nat} (hn : μ nid = none) {cs : List V} {xs : List Value} (hr : RelL ι μ cs xs) (h1 : ∀ u ∈ xs, u.oneCell' = true) (e : TypeId) :
    ∃ μ', μ.le μ' ∧ (∀ id, id ≠ nid → μ' id = μ id) ∧ Inv P Y ι μ' ⟨max H.next (nid + 1), (nid, .cells cs false) :: bdel nid H.bl⟩ (w.alloc (.cells xs.toArray e)) ∧ Rel ι μ' (.ptr nid 0) (.pointer (some ⟨w.heap.size, 0, none⟩)) := by
  let L : Loc := ⟨w.heap.size, 0, xs.length, 0⟩
  have hle := Mu.le_set (L := L) hn
  have hmu : μ.set nid L nid = some L := by simp [Mu.set]
  have hfree : ∀ o, ι w.heap.size o = none := fun o => by
    cases hio : ι w.heap.size o with
    | none => rfl
    | some y => have := World.block_lt_of_cell? _ _ (h.rd _ _ _ hio); simp at this
  refine ⟨_, hle, Mu.set_ne, h.lay hn (L := L) rfl ⟨L, xs, ⟨hmu, (.inl h.below.size), ⟨xs.toArray, e, ?_, by simp [L], fun j v hv => by simpa [L] using hv⟩, by simp [L], h1, (fun e => by cases e), fun _ => hfree⟩, hr.mono (Iota.le_refl _) hle⟩, .ptr _ _ L hmu⟩
  show (w.heap.push _)[w.heap.size]? = _
  simp

/-- A new list of data, with room behind it. -/
theorem lay_arr (h : Inv P Y ι μ H w) {nid : Nat} (hn : μ nid = none) {t : Ty} {ys : List t.den} {xs rest : List Value} (hr : CatR (CellsD ι t) ys xs) (e : TypeId) (cap : Nat) (hc : ys.length ≤ cap) (hcap : cap * t.sz ≤ xs.length + rest.length) :
    ∃ μ', μ.le μ' ∧ (∀ id, id ≠ nid → μ' id = μ id) ∧ Inv P Y ι μ' ⟨max H.next (nid + 1), (nid, .arr t ys false) :: bdel nid H.bl⟩ (w.alloc (.cells (xs ++ rest).toArray e)) ∧
      Rel ι μ' (.sl nid t 0 ys.length) (.slice (some ⟨w.heap.size, 0, none⟩) ys.length cap) := by
  let L : Loc := ⟨w.heap.size, 0, xs.length + rest.length, ys.length⟩
  have hle := Mu.le_set (L := L) hn
  have hmu : μ.set nid L nid = some L := by simp [Mu.set]
  have hfree : ∀ o, ι w.heap.size o = none := fun o => by
    cases hio : ι w.heap.size o with
    | none => rfl
    | some y => have := World.block_lt_of_cell? _ _ (h.rd _ _ _ hio); simp at this
  refine ⟨_, hle, Mu.set_ne, h.lay hn (L := L) rfl (.inr ⟨L, xs, ⟨hmu, (.inl h.below.size), ⟨(xs ++ rest).toArray, e, ?_, by simp [L], fun j v hv => ?_⟩, by simp [L],
    CatR.one (fun _ _ => CellsD.one) hr, (fun e => by cases e), fun _ => hfree⟩, hr, rfl⟩), ?_⟩
  · show (w.heap.push _)[w.heap.size]? = _
    simp
  · have := (List.getElem?_eq_some_iff.1 hv).1
    simp only [L, Nat.zero_add, List.getElem?_toArray]
    rw [List.getElem?_append_left this]; exact hv
  · have := Rel.sl (ι := ι) (μ := μ.set nid L) nid t 0 ys.length cap L hmu hc (by simpa [L] using hcap) (by simp [L])
    simpa [L] using this
end
end Go.AM
