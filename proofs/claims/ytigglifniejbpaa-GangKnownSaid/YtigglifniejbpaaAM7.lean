/- Data out of cells and into them. -/
import Derived.Test.YtigglifniejbpaaAM6
set_option linter.unusedVariables false
set_option linter.unusedSimpArgs false
namespace Go.AM
section
variable {P : Program} {Y : Ctx} {ι ι' : Iota} {μ μ' : Mu} {H : Heap} {w w' : World}
  {c1 : Nat → List V → Heap → (V → Heap → Prop) → Prop} {c2 : Nat → List V → V → Prop} {c3 : C → St → (Ex → St → Prop) → Prop}
  {c4 : Nat → List V → Heap → (V → Heap → Prop) → Prop} {c5 : O → List Nat → C → C → St → (Ex → St → Prop) → Prop}

def IsFz (bl : Blks) (u : Upd) : Prop := ∀ e ∈ u, ∃ (id : Nat) (t : Ty) (xs : List t.den) (fz : Bool), e = (id, some (.arr t xs true)) ∧ bget id bl = some (.arr t xs fz)
def Fzn (ι : Iota) (μ : Mu) (u : Upd) : Prop := ∀ (id : Nat) (t : Ty) (xs : List t.den), (id, some (.arr t xs true)) ∈ u → Frozen ι μ id t xs

theorem IsFz.nil {bl : Blks} : IsFz bl [] := fun e h => by cases h
theorem IsFz.append {bl : Blks} {u v : Upd} (h : IsFz bl u) (h' : IsFz bl v) : IsFz bl (u ++ v) := fun e he => (List.mem_append.1 he).elim (h e) (h' e)
theorem Fzn.left {u v : Upd} (h : Fzn ι μ (u ++ v)) : Fzn ι μ u := fun id t xs hm => h id t xs (List.mem_append_left _ hm)
theorem Fzn.right {u v : Upd} (h : Fzn ι μ (u ++ v)) : Fzn ι μ v := fun id t xs hm => h id t xs (List.mem_append_right _ hm)

theorem Frozen.mono (hi : ι.le ι') {id : Nat} {t : Ty} {xs : List t.den} (h : Frozen ι μ id t xs) : Frozen ι' μ id t xs :=
  h.imp (fun h => h) fun ⟨L, vs, h1, h2, h3, h4⟩ => ⟨L, vs, h1, h2.mono hi, CatR.mono (fun _ _ => CellsD.mono hi) h3, h4⟩

theorem freezeAll : ∀ {u : Upd} {ι : Iota} {bl : Blks} {n : Nat}, IsFz bl u → Inv P Y ι μ ⟨n, bl⟩ w →
    ∃ ι', ι.le ι' ∧ Inv P Y ι' μ ⟨n, bupd u bl⟩ w ∧ Fzn ι' μ u
  | [], ι, bl, n, _, hI => ⟨ι, Iota.le_refl _, hI, fun id t xs h => by cases h⟩
  | e :: r, ι, bl, n, hz, hI => by
    obtain ⟨id, t, xs, fz, rfl, hb⟩ := hz e (List.mem_cons_self)
    obtain ⟨ι1, hle, hI1, hF⟩ := hI.freeze hb
    have hz' : IsFz ((id, .arr t xs true) :: bdel id bl) r := fun e he => by
      obtain ⟨id2, t2, xs2, fz2, rfl, hb2⟩ := hz e (List.mem_cons_of_mem _ he)
      by_cases hid : id2 = id
      · subst hid
        rw [hb] at hb2; cases hb2
        exact ⟨id2, t, xs, true, rfl, by rw [bget_set, if_pos rfl]⟩
      · exact ⟨id2, t2, xs2, fz2, rfl, by rw [bget_set, if_neg hid]; exact hb2⟩
    obtain ⟨ι2, hle2, hI2, hF2⟩ := freezeAll hz' hI1
    refine ⟨ι2, Iota.le_trans hle hle2, hI2, fun id2 t2 xs2 hm => ?_⟩
    rcases List.mem_cons.1 hm with hm | hm
    · cases hm; exact hF.mono hle2
    · exact hF2 id2 t2 xs2 hm

/-- A slice over a block of data reads as its part. -/
theorem Frozen.slice {id : Nat} {t : Ty} {xs : List t.den} (h : Frozen ι' μ id t xs) {lo n : Nat} {x : Value} (hr : Rel ι μ (.sl id t lo n) x) : CellsD ι' (.list t) ((xs.drop lo).take n) [x] := by
  cases hr with
  | sl0 _ _ _ a => exact ⟨a, 0, by simp, by simp, .inl (by simp)⟩
  | sl _ _ _ _ cap L hm h1 h2 h3 =>
    rcases h with ⟨_, hn⟩ | ⟨L', vs, h4, h5, h6, h7⟩
    · rw [hn] at hm; cases hm
    · rw [h4] at hm; cases hm
      have hl : ((xs.drop lo).take n).length = n := by simp; omega
      refine ⟨some ⟨L.b, L.ba + lo * t.sz, none⟩, cap, by rw [hl], by rw [hl]; exact h1, .inr ⟨_, _, (vs.drop (lo * t.sz)).take (n * t.sz), rfl, h5.sub _ _, ?_⟩⟩
      exact (h6.drop (fun _ _ => CellsD.length) lo).take (fun _ _ => CellsD.length) n

theorem ofVs_isFz : ∀ {t : Ty} {bl : Blks} {cs : List V} {x : t.den} {u : Upd} {r : List V}, ofVs (mkAr c1 c2 c3 c4 c5) bl t cs = some (x, u, r) → IsFz bl u
  | .unit, bl, cs, x, u, r, h => by simp [ofVs] at h; obtain ⟨rfl, rfl⟩ := h; exact .nil
  | .bool, bl, cs, x, u, r, h => by
    cases cs with
    | nil => simp [ofVs] at h
    | cons v r' => cases v <;> simp [ofVs] at h <;> (obtain ⟨rfl, rfl, rfl⟩ := h; exact .nil)
  | .str, bl, cs, x, u, r, h => by
    cases cs with
    | nil => simp [ofVs] at h
    | cons v r' => cases v <;> simp [ofVs] at h <;> (obtain ⟨rfl, rfl, rfl⟩ := h; exact .nil)
  | .int k, bl, cs, x, u, r, h => by
    cases cs with
    | nil => simp [ofVs] at h
    | cons v r' => cases v <;> simp [ofVs] at h <;> (obtain ⟨rfl, rfl, rfl, rfl⟩ := h; exact .nil)
  | .list t, bl, cs, x, u, r, h => by
    cases cs with
    | nil => simp [ofVs] at h
    | cons v r' =>
      cases v <;> simp only [ofVs] at h <;> try (simp at h; done)
      case lst t' zs => split at h <;> cases h; exact .nil
      case nsl => cases h; exact .nil
      case sl id t' lo n =>
        split at h
        · rename_i t'' zs fz hb
          split at h
          · split at h
            · cases h
              intro e he; simp at he; subst he
              exact ⟨id, _, zs, fz, rfl, hb⟩
            · cases h
          · cases h
        · cases h
  | .prod a b, bl, cs, x, u, r, h => by
    simp only [ofVs] at h
    split at h
    · rename_i x1 u1 r1 h1
      split at h
      · rename_i x2 u2 r2 h2
        cases h
        exact (ofVs_isFz h1).append (ofVs_isFz h2)
      · cases h
    · cases h

theorem ofVs_rel : ∀ {ι : Iota} {t : Ty} {bl : Blks} {cs : List V} {x : t.den} {u : Upd} {r : List V} {xs : List Value}, ofVs (mkAr c1 c2 c3 c4 c5) bl t cs = some (x, u, r) → RelL ι μ cs xs →
    IsFz bl u ∧ ∀ ι', ι.le ι' → Fzn ι' μ u → ∃ us ws, xs = us ++ ws ∧ CellsD ι' t x us ∧ RelL ι' μ r ws
  | ι, .unit, bl, cs, x, u, r, xs, h, hr => by
    simp [ofVs] at h; obtain ⟨rfl, rfl⟩ := h
    exact ⟨.nil, fun ι' hi _ => ⟨[], xs, rfl, rfl, hr.mono hi (Mu.le_refl _)⟩⟩
  | ι, .bool, bl, cs, x, u, r, xs, h, hr => by
    cases cs with
    | nil => simp [ofVs] at h
    | cons v r' =>
      cases v <;> simp [ofVs] at h
      all_goals
        obtain ⟨rfl, rfl, rfl⟩ := h
        obtain ⟨y, ys, rfl, h1, h2⟩ := hr.uncons
        cases h1
        exact ⟨.nil, fun ι' hi _ => ⟨[_], ys, rfl, rfl, h2.mono hi (Mu.le_refl _)⟩⟩
  | ι, .str, bl, cs, x, u, r, xs, h, hr => by
    cases cs with
    | nil => simp [ofVs] at h
    | cons v r' =>
      cases v <;> simp [ofVs] at h
      all_goals
        obtain ⟨rfl, rfl, rfl⟩ := h
        obtain ⟨y, ys, rfl, h1, h2⟩ := hr.uncons
        cases h1
        exact ⟨.nil, fun ι' hi _ => ⟨[_], ys, rfl, rfl, h2.mono hi (Mu.le_refl _)⟩⟩
  | ι, .int k, bl, cs, x, u, r, xs, h, hr => by
    cases cs with
    | nil => simp [ofVs] at h
    | cons v r' =>
      cases v <;> simp [ofVs] at h
      all_goals
        obtain ⟨rfl, rfl, rfl, rfl⟩ := h
        obtain ⟨y, ys, rfl, h1, h2⟩ := hr.uncons
        cases h1
        exact ⟨.nil, fun ι' hi _ => ⟨[_], ys, rfl, rfl, h2.mono hi (Mu.le_refl _)⟩⟩
  | ι, .list t, bl, cs, x, u, r, xs, h, hr => by
    cases cs with
    | nil => simp [ofVs] at h
    | cons v r' =>
      obtain ⟨y, ys, rfl, h1, h2⟩ := hr.uncons
      cases v <;> simp only [ofVs] at h <;> try (simp at h; done)
      case lst t' zs =>
        split at h
        · rename_i zs' hc; cases h
          obtain ⟨e, hz⟩ := castL_some hc
          subst e; subst hz
          cases h1 with
          | lst _ _ _ hd => exact ⟨.nil, fun ι' hi _ => ⟨[y], ys, rfl, CellsD.mono hi hd, h2.mono hi (Mu.le_refl _)⟩⟩
        · cases h
      case nsl =>
        cases h
        cases h1 with
        | nsl a => exact ⟨.nil, fun ι' hi _ => ⟨[_], ys, rfl, ⟨a, 0, rfl, Nat.le_refl _, .inl rfl⟩, h2.mono hi (Mu.le_refl _)⟩⟩
      case sl id t' lo n =>
        split at h
        · rename_i t'' zs fz hb
          split at h
          · rename_i e; subst e
            split at h
            · rename_i zs' hc; cases h
              obtain ⟨e, hz⟩ := castL_some hc
              subst e; subst hz
              refine ⟨fun e he => ?_, fun ι' hi hf => ⟨[y], ys, rfl, (hf id _ zs' (by simp)).slice h1, h2.mono hi (Mu.le_refl _)⟩⟩
              simp at he; subst he
              exact ⟨id, _, zs', fz, rfl, hb⟩
            · cases h
          · cases h
        · cases h
  | ι, .prod a b, bl, cs, x, u, r, xs, h, hr => by
    simp only [ofVs] at h
    split at h
    · rename_i x1 u1 r1 h1
      split at h
      · rename_i x2 u2 r2 h2
        cases h
        obtain ⟨z1, f1⟩ := ofVs_rel h1 hr
        have z2 : IsFz bl u2 := ofVs_isFz h2
        refine ⟨z1.append z2, fun ι' hi hf => ?_⟩
        obtain ⟨us, ws, rfl, hd, hr1⟩ := f1 ι' hi hf.left
        obtain ⟨us2, ws2, rfl, hd2, hr2⟩ := (ofVs_rel h2 hr1).2 ι' (Iota.le_refl _) hf.right
        exact ⟨us ++ us2, ws2, by simp, ⟨us, us2, rfl, hd, hd2⟩, hr2⟩
      · cases h
    · cases h

/-- So many cells are taken as the type has. -/
theorem ofVs_sz : ∀ {t : Ty} {bl : Blks} {cs : List V} {x : t.den} {u : Upd} {r : List V}, ofVs (mkAr c1 c2 c3 c4 c5) bl t cs = some (x, u, r) → cs.length = t.sz + r.length
  | .unit, bl, cs, x, u, r, h => by simp [ofVs] at h; obtain ⟨_, rfl⟩ := h; simp [Ty.sz]
  | .bool, bl, cs, x, u, r, h => by
    cases cs with
    | nil => simp [ofVs] at h
    | cons v r' => cases v <;> simp [ofVs] at h <;> (obtain ⟨_, _, rfl⟩ := h; simp [Ty.sz]; omega)
  | .str, bl, cs, x, u, r, h => by
    cases cs with
    | nil => simp [ofVs] at h
    | cons v r' => cases v <;> simp [ofVs] at h <;> (obtain ⟨_, _, rfl⟩ := h; simp [Ty.sz]; omega)
  | .int k, bl, cs, x, u, r, h => by
    cases cs with
    | nil => simp [ofVs] at h
    | cons v r' => cases v <;> simp [ofVs] at h <;> (obtain ⟨_, _, _, rfl⟩ := h; simp [Ty.sz]; omega)
  | .list t, bl, cs, x, u, r, h => by
    cases cs with
    | nil => simp [ofVs] at h
    | cons v r' =>
      cases v <;> simp only [ofVs] at h <;> try (simp at h; done)
      case lst t' zs => split at h <;> cases h; simp [Ty.sz]; omega
      case nsl => cases h; simp [Ty.sz]; omega
      case sl id t' lo n =>
        split at h
        · split at h
          · split at h
            · cases h; simp [Ty.sz]; omega
            · cases h
          · cases h
        · cases h
  | .prod a b, bl, cs, x, u, r, h => by
    simp only [ofVs] at h
    split at h
    · rename_i x1 u1 r1 h1
      split at h
      · rename_i x2 u2 r2 h2
        cases h
        have := ofVs_sz h1; have := ofVs_sz h2; simp only [Ty.sz]; omega
      · cases h
    · cases h

theorem ofVs_len {t : Ty} {bl : Blks} {cs : List V} {y : t.den} {u : Upd} {x : Value} (h : ofVs (mkAr c1 c2 c3 c4 c5) bl t cs = some (y, u, [])) (hr : RelL ι μ cs x.cells.toList) : x.cells.size = t.sz := by
  have := ofVs_sz h; have := hr.1; simp at *; omega

theorem getP_rel : ∀ {t : Ty} {x : t.den} {p : List Bool} {t' : Ty} {y : t'.den} {xs : List Value}, getP t x p = some ⟨t', y⟩ → CellsD ι t x xs →
    CellsD ι t' y ((xs.drop (t.offP p)).take t'.sz) ∧ t.offP p + t'.sz ≤ t.sz ∧ t.atP p = some t'
  | t, x, [], t', y, xs, h, hc => by
    have : t = t' ∧ HEq x y := by cases t <;> (simp [getP] at h; exact ⟨h.1, h.2⟩)
    obtain ⟨rfl, hy⟩ := this
    cases hy
    have h0 : t.offP [] = 0 := by cases t <;> rfl
    rw [h0]
    refine ⟨by simp [List.take_of_length_le (Nat.le_of_eq hc.length)]; exact hc, by omega, by cases t <;> rfl⟩
  | .prod a b, x, false :: p, t', y, xs, h, hc => by
    simp only [getP] at h
    obtain ⟨us, ws, rfl, h1, h2⟩ := hc
    obtain ⟨h3, h4, h5⟩ := getP_rel h h1
    refine ⟨?_, by simp only [Ty.offP, Ty.sz]; omega, by simpa [Ty.atP] using h5⟩
    have hl := h1.length
    rw [Ty.offP, List.drop_append_of_le_length (by omega), List.take_append_of_le_length (by simp; omega)]
    exact h3
  | .prod a b, x, true :: p, t', y, xs, h, hc => by
    simp only [getP] at h
    obtain ⟨us, ws, rfl, h1, h2⟩ := hc
    obtain ⟨h3, h4, h5⟩ := getP_rel h h2
    refine ⟨?_, by simp only [Ty.offP, Ty.sz]; omega, by simpa [Ty.atP] using h5⟩
    have hl := h1.length
    rw [Ty.offP, ← hl, List.drop_append, List.drop_eq_nil_of_le (by omega)]
    simpa using h3
  | .unit, x, b :: p, t', y, xs, h, hc => by cases b <;> simp [getP] at h
  | .bool, x, b :: p, t', y, xs, h, hc => by cases b <;> simp [getP] at h
  | .str, x, b :: p, t', y, xs, h, hc => by cases b <;> simp [getP] at h
  | .int k, x, b :: p, t', y, xs, h, hc => by cases b <;> simp [getP] at h
  | .list k, x, b :: p, t', y, xs, h, hc => by cases b <;> simp [getP] at h

theorem setP_isFz : ∀ {t : Ty} {bl : Blks} {x y : t.den} {p : List Bool} {vs : List V} {u : Upd}, setP (mkAr c1 c2 c3 c4 c5) bl t x p vs = some (y, u) → IsFz bl u
  | t, bl, x, y, [], vs, u, h => by
    have : ofVs (mkAr c1 c2 c3 c4 c5) bl t vs = some (y, u, []) := by
      cases t <;> (simp only [setP] at h; split at h <;> first | (cases h; assumption) | cases h)
    exact ofVs_isFz this
  | .prod a b, bl, x, y, false :: p, vs, u, h => by
    simp only [setP] at h
    split at h
    · rename_i h'; cases h; exact setP_isFz h'
    · cases h
  | .prod a b, bl, x, y, true :: p, vs, u, h => by
    simp only [setP] at h
    split at h
    · rename_i h'; cases h; exact setP_isFz h'
    · cases h
  | .unit, bl, x, y, b :: p, vs, u, h => by cases b <;> simp [setP] at h
  | .bool, bl, x, y, b :: p, vs, u, h => by cases b <;> simp [setP] at h
  | .str, bl, x, y, b :: p, vs, u, h => by cases b <;> simp [setP] at h
  | .int k, bl, x, y, b :: p, vs, u, h => by cases b <;> simp [setP] at h
  | .list k, bl, x, y, b :: p, vs, u, h => by cases b <;> simp [setP] at h

theorem setP_rel : ∀ {t : Ty} {bl : Blks} {x y : t.den} {p : List Bool} {vs : List V} {u : Upd} {us xs : List Value}, setP (mkAr c1 c2 c3 c4 c5) bl t x p vs = some (y, u) →
    RelL ι μ vs us → ι.le ι' → Fzn ι' μ u → CellsD ι' t x xs → t.offP p + us.length ≤ t.sz ∧ CellsD ι' t y (xs.take (t.offP p) ++ us ++ xs.drop (t.offP p + us.length))
  | t, bl, x, y, [], vs, u, us, xs, h, hr, hi, hf, hc => by
    have : ofVs (mkAr c1 c2 c3 c4 c5) bl t vs = some (y, u, []) := by
      cases t <;> (simp only [setP] at h; split at h <;> first | (cases h; assumption) | cases h)
    obtain ⟨us', ws, rfl, h1, h2⟩ := (ofVs_rel this hr).2 ι' hi hf
    rw [h2.of_nil]
    have h0 : t.offP [] = 0 := by cases t <;> rfl
    have hl := h1.length
    rw [h0]
    refine ⟨by simp; omega, ?_⟩
    rw [List.drop_eq_nil_of_le (by simp; have := hc.length; omega)]
    simpa using h1
  | .prod a b, bl, x, y, false :: p, vs, u, us, xs, h, hr, hi, hf, hc => by
    simp only [setP] at h
    split at h
    · rename_i y1 u1 h'
      cases h
      obtain ⟨as, bs, rfl, h1, h2⟩ := hc
      obtain ⟨h3, h4⟩ := setP_rel h' hr hi hf h1
      have hl := h1.length
      refine ⟨by simp only [Ty.offP, Ty.sz]; omega, _, bs, ?_, h4, h2⟩
      rw [Ty.offP, List.take_append_of_le_length (by omega), List.drop_append_of_le_length (by omega)]
      simp
    · cases h
  | .prod a b, bl, x, y, true :: p, vs, u, us, xs, h, hr, hi, hf, hc => by
    simp only [setP] at h
    split at h
    · rename_i y1 u1 h'
      cases h
      obtain ⟨as, bs, rfl, h1, h2⟩ := hc
      obtain ⟨h3, h4⟩ := setP_rel h' hr hi hf h2
      have hl := h1.length
      refine ⟨by simp only [Ty.offP, Ty.sz]; omega, as, _, ?_, h1, h4⟩
      rw [Ty.offP, ← hl, List.take_append, List.take_of_length_le (by omega), List.drop_append, List.drop_eq_nil_of_le (by omega)]
      simp [show as.length + b.offP p + us.length - as.length = b.offP p + us.length by omega]
    · cases h
  | .unit, bl, x, y, b :: p, vs, u, us, xs, h, hr, hi, hf, hc => by cases b <;> simp [setP] at h
  | .bool, bl, x, y, b :: p, vs, u, us, xs, h, hr, hi, hf, hc => by cases b <;> simp [setP] at h
  | .str, bl, x, y, b :: p, vs, u, us, xs, h, hr, hi, hf, hc => by cases b <;> simp [setP] at h
  | .int k, bl, x, y, b :: p, vs, u, us, xs, h, hr, hi, hf, hc => by cases b <;> simp [setP] at h
  | .list k, bl, x, y, b :: p, vs, u, us, xs, h, hr, hi, hf, hc => by cases b <;> simp [setP] at h

theorem ofVl_rel {t : Ty} {bl : Blks} : ∀ {vs : List V} {ys : List t.den} {u : Upd} {xs : List Value}, ofVl (mkAr c1 c2 c3 c4 c5) bl t vs = some (ys, u) → RelL ι μ vs xs →
    IsFz bl u ∧ ys.length = vs.length ∧ (∀ x ∈ xs, x.cells.size = t.sz) ∧ ∀ ι', ι.le ι' → Fzn ι' μ u → CatR (CellsD ι' t) ys (xs.flatMap fun x => x.cells.toList)
  | [], ys, u, xs, h, hr => by
    cases h
    rw [hr.of_nil]
    exact ⟨.nil, rfl, by simp, fun ι' _ _ => rfl⟩
  | v :: r, ys, u, xs, h, hr => by
    unfold ofVl at h
    obtain ⟨x, xs', rfl, h1, h2⟩ := hr.uncons
    split at h
    · rename_i vs hvs
      obtain ⟨hc, _⟩ := h1.cells hvs
      split at h
      · rename_i y u1 hy
        split at h
        · rename_i ys' u2 hys
          cases h
          obtain ⟨a1, a2, a3, a4⟩ := ofVl_rel hys h2
          have z1 := ofVs_isFz hy
          refine ⟨z1.append a1, by simp [a2], ?_, fun ι' hi hf => ?_⟩
          · intro x' hx'
            rcases List.mem_cons.1 hx' with rfl | hx'
            · exact ofVs_len hy hc
            · exact a3 x' hx'
          · obtain ⟨us, ws, e, hd, hn⟩ := (ofVs_rel hy hc).2 ι' hi hf.left
            have := hn.of_nil; subst this
            exact ⟨us, _, by simp [e], hd, a4 ι' hi hf.right⟩
        · cases h
      · cases h
    · cases h
end
end Go.AM
