/- Each operation of the small machine is the model's: literals, stores, append, make. -/
import Derived.Test.YtigglifniejbpaaAM8
set_option linter.unusedVariables false
set_option linter.unusedSimpArgs false
namespace Go.AM
section
variable {P : Program} {Y : Ctx} {ι ι' : Iota} {μ μ' : Mu} {H : Heap} {w w' : World}
  {c1 : Nat → List V → Heap → (V → Heap → Prop) → Prop} {c2 : Nat → List V → V → Prop} {c3 : C → St → (Ex → St → Prop) → Prop}
  {c4 : Nat → List V → Heap → (V → Heap → Prop) → Prop} {c5 : O → List Nat → C → C → St → (Ex → St → Prop) → Prop}

theorem splice {α : Type} (ws us : List α) (a o sz : Nat) (h : o + us.length ≤ sz) :
    ws.take a ++ (((ws.drop a).take sz).take o ++ us ++ ((ws.drop a).take sz).drop (o + us.length)) ++ ws.drop (a + sz) = ws.take (a + o) ++ us ++ ws.drop (a + o + us.length) := by
  have h1 : ws.take a ++ ((ws.drop a).take sz).take o = ws.take (a + o) := by
    rw [List.take_take, Nat.min_eq_left (by omega), List.take_add]
  have h2 : ((ws.drop a).take sz).drop (o + us.length) ++ ws.drop (a + sz) = ws.drop (a + o + us.length) := by
    rw [List.drop_take, List.drop_drop, show ws.drop (a + sz) = (ws.drop (a + (o + us.length))).drop (sz - (o + us.length)) by rw [List.drop_drop]; congr 1; omega,
      List.take_append_drop]
    congr 1; omega
  simp only [List.append_assoc]
  rw [← List.append_assoc (ws.take a), h1, h2]

theorem notIn_ne {id : Nat} : ∀ {u : Upd}, notIn id u = true → ∀ e ∈ u, e.1 ≠ id
  | [], _, e, h => by cases h
  | (s, b) :: r, h, e, he => by
    unfold notIn at h
    split at h
    · cases h
    · rename_i hs
      rcases List.mem_cons.1 he with rfl | he
      · intro e; simp only at e; subst e; rw [Nat.beq_refl] at hs; cases hs
      · exact notIn_ne h e he

theorem store_sound (h : Inv P Y ι μ H w) {env : List (Nat × V)} {t : TypeId} {k : Nat} {x a : O} {vx pa : Value} {ob : List Bool} {v : V} {u : Upd} {nid : Nat} (hk : sizeT P t = some k)
    (hx : Rel ι μ (x.ev env) vx) (ha : Rel ι μ (a.ev env) pa) (hev : evI (mkAr c1 c2 c3 c4 c5) (.store k a x) env H.bl nid = some (ob, v, u)) (hob : AllT ob) :
    ∃ ι' w', (Instr.storeAt t pa vx).run P w = .ok () w' ∧ ι.le ι' ∧ Inv P Y ι' μ ⟨H.next, bupd u H.bl⟩ w' ∧ v = .any := by
  simp only [evI] at hev
  split at hev <;> try (cases hev; done)
  rename_i vs hvs
  obtain ⟨hc, h1⟩ := hx.cells hvs
  split at hev <;> try (cases hev; done)
  rename_i hlen
  have hsz : vx.cells.size = k := by have := hc.1; simp at this; omega
  split at hev <;> try (cases hev; done)
  · rename_i id off hae
    rw [hae] at ha
    split at hev <;> try (cases hev; done)
    rename_i cs hb
    split at hev <;> try (cases hev; done)
    rename_i cs' hset
    cases hev
    obtain ⟨L, ws, hM, hR⟩ := h.live _ _ hb
    cases ha with
    | ptr _ _ L' hL =>
      rw [hM.mu] at hL; cases hL
      obtain ⟨hle, hR'⟩ := setCs_rel hset hR hc
      have hf := hM.fits
      have hl : vx.cells.toList.length = k := by simpa using hsz
      refine ⟨ι, _, run_storeAt hk (hM.there (by omega) (by omega)) hsz h1, Iota.le_refl _, ?_, rfl⟩
      exact h.store hb hM.mu (hM.fzF rfl) ⟨L, _, hM.write hle h1, hR'⟩
  · rename_i id te i p hae
    rw [hae] at ha
    split at hev <;> try (cases hev; done)
    rename_i t' xs hb
    split at hev <;> try (cases hev; done)
    rename_i e; subst e
    split at hev <;> try (cases hev; done)
    rename_i y u0 hset
    split at hev <;> try (cases hev; done)
    rename_i hni
    cases hev
    have hi : i < xs.length := by simpa using hob _ (List.mem_singleton.2 rfl)
    have hz := setP_isFz hset
    obtain ⟨ι', hle, hI, hF⟩ := freezeAll hz h
    have hb' : bget id (bupd u0 H.bl) = some (.arr te xs false) := by rw [hz.bget_other (notIn_ne hni)]; exact hb
    rcases hI.live _ _ hb' with ⟨rfl, _⟩ | ⟨L, ws, hM, hR, hl⟩
    · simp at hi
    · cases ha with
      | ep _ _ _ _ L' hL =>
        rw [hM.mu] at hL; cases hL
        have hxi : xs[i]? = some (xs.getD i te.zero) := by simp [List.getD, hi]
        have hcell := hR.at (fun _ _ => CellsD.length) hxi
        obtain ⟨g1, g2⟩ := setP_rel hset hc hle hF hcell
        have hwl := hR.length (fun _ _ => CellsD.length)
        have hf := hM.fits
        have hll : vx.cells.toList.length = k := by simpa using hsz
        have hmul : i * te.sz + te.sz ≤ xs.length * te.sz := by
          have := Nat.mul_le_mul_right te.sz (show i + 1 ≤ xs.length from hi)
          rwa [Nat.add_mul, Nat.one_mul] at this
        refine ⟨ι', _, run_storeAt hk (hM.there (by omega) (by omega)) hsz h1, hle, ?_, rfl⟩
        rw [bupd_append]
        have hw := hM.write (d := i * te.sz + te.offP p) (us := vx.cells.toList) (by omega) h1
        rw [← Nat.add_assoc] at hw
        refine hI.store hb' hM.mu (hM.fzF rfl) (.inr ⟨L, _, hw, ?_, by simpa using hl⟩)
        have hset' := hR.set (fun _ _ => CellsD.length) hi g2
        have hsp := splice ws vx.cells.toList (i * te.sz) (te.offP p) te.sz g1
        rw [show (i + 1) * te.sz = i * te.sz + te.sz by rw [Nat.add_mul, Nat.one_mul], hsp] at hset'
        exact hset'

/-! ### Literals -/
theorem foldSet : ∀ (vs : List Value) (j : Nat) (off : Nat) (cells : Array Value), off + j + vs.length ≤ cells.size →
    ((vs.zipIdx j).foldl (fun cs (c, j) => cs.setIfInBounds (off + j) c) cells).toList = cells.toList.take (off + j) ++ vs ++ cells.toList.drop (off + j + vs.length)
  | [], j, off, cells, h => by simp
  | v :: r, j, off, cells, h => by
    simp only [List.zipIdx_cons, List.foldl_cons]
    rw [show ((r.zipIdx (j + 1)).foldl (fun cs (c, j) => cs.setIfInBounds (off + j) c) (cells.setIfInBounds (off + j) v)).toList = _ from foldSet r (j + 1) off _ (by simp at h ⊢; omega)]
    simp only [List.length_cons] at h
    simp only [Array.toList_setIfInBounds, List.length_cons]
    rw [List.take_set, List.drop_set_of_lt (by omega), show off + (j + 1) = (off + j) + 1 by omega, List.take_succ_eq_append_getElem (by simp; omega)]
    rw [List.set_append_right _ _ (by simp; omega), List.length_take, Nat.min_eq_left (by simp; omega)]
    simp
    congr 1; omega

theorem partsOf_rel {place : Nat → Option (Nat × Nat)} {env : List (Nat × V)} {a : Act} (he : EnvR ι μ env a.tmps) : ∀ {parts : List (Nat × Operand)} {ps : List (Nat × Nat × O)} {zs cs : List V} {cells : Array Value},
    partsOf place parts = some ps → fillV ps env zs = some cs → RelL ι μ zs cells.toList → (∀ u ∈ cells.toList, u.oneCell' = true) →
    ∃ out, Instr.fill place cells (parts.map fun (i, x) => (i, a.eval x)) = some out ∧ RelL ι μ cs out.toList ∧ ∀ u ∈ out.toList, u.oneCell' = true
  | [], ps, zs, cs, cells, h, hf, hr, h1 => by
    cases h; cases hf
    exact ⟨cells, rfl, hr, h1⟩
  | (i, x) :: r, ps, zs, cs, cells, h, hf, hr, h1 => by
    unfold partsOf at h
    split at h <;> try (cases h; done)
    rename_i off k y ys hp hx hys
    cases h
    unfold fillV at hf
    split at hf <;> try (cases hf; done)
    rename_i vs hvs
    obtain ⟨hc, ho⟩ := (trO_rel he hx).cells hvs
    split at hf <;> try (cases hf; done)
    rename_i hlen
    split at hf <;> try (cases hf; done)
    rename_i cs' hset
    obtain ⟨hle, hR⟩ := setCs_rel hset hr hc
    have hsz : (a.eval x).cells.size = k := by have := hc.1; simp at this; omega
    have hfold := foldSet (a.eval x).cells.toList 0 off cells (by simpa using hle)
    simp only [List.map_cons, Instr.fill, hp]
    rw [if_neg (by simp [hsz]; simp at hle; omega)]
    refine partsOf_rel he hys hf ?_ ?_
    · rw [← Array.foldl_toList, Array.toList_zipIdx, hfold]; simpa using hR
    · rw [← Array.foldl_toList, Array.toList_zipIdx, hfold]
      intro u hu
      simp only [Nat.add_zero, List.mem_append] at hu
      rcases hu with (hu | hu) | hu
      · exact h1 u (List.mem_of_mem_take hu)
      · exact ho u hu
      · exact h1 u (List.mem_of_mem_drop hu)

theorem fill_order {k : Nat} : ∀ (vs : List Value) (n : Nat) (cells : Array Value), (∀ v ∈ vs, v.cells.size = k) → cells.size = (n + vs.length) * k →
    ∃ out, Instr.fill (fun i => some (i * k, k)) cells ((vs.zipIdx n).map fun (v, i) => (i, v)) = some out ∧ out.toList = cells.toList.take (n * k) ++ vs.flatMap fun v => v.cells.toList
  | [], n, cells, _, hs => ⟨cells, rfl, by
    simp at hs
    have : cells.toList.length ≤ n * k := by simp; omega
    simp [List.take_of_length_le this]⟩
  | v :: r, n, cells, hv, hs => by
    have hk := hv v List.mem_cons_self
    simp only [List.length_cons] at hs
    have hfit : n * k + k ≤ cells.size := by
      rw [hs, show n + (r.length + 1) = (n + 1) + r.length by omega, Nat.add_mul, Nat.add_mul, Nat.one_mul]; omega
    have hfold := foldSet v.cells.toList 0 (n * k) cells (by simp [hk]; exact hfit)
    have hsize : ((v.cells.toList.zipIdx 0).foldl (fun cs (c, j) => cs.setIfInBounds (n * k + j) c) cells).size = cells.size := by
      have := congrArg List.length hfold
      rw [Array.length_toList] at this
      rw [this]
      simp [hk]; omega
    obtain ⟨out, h1, h2⟩ := fill_order r (n + 1) ((v.cells.toList.zipIdx 0).foldl (fun cs (c, j) => cs.setIfInBounds (n * k + j) c) cells) (fun u hu => hv u (List.mem_cons_of_mem _ hu))
      (by rw [hsize, hs]; congr 1; omega)
    refine ⟨out, ?_, ?_⟩
    · simp only [List.zipIdx_cons, List.map_cons, Instr.fill]
      rw [if_neg (by simp [hk]; omega), ← Array.foldl_toList, Array.toList_zipIdx]
      exact h1
    · rw [h2, hfold]
      simp only [Nat.add_zero, List.flatMap_cons, Nat.add_mul, Nat.one_mul]
      rw [List.take_append_of_le_length (by simp [hk]; omega), List.take_of_length_le (by simp [hk]; omega)]
      simp
end
end Go.AM
