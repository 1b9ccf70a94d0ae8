/- Each operation of the small machine is the model's: the sum. -/
import Derived.Test.YtigglifniejbpaaAM13
set_option linter.unusedVariables false
set_option linter.unusedSimpArgs false
namespace Go.AM
section
variable {P : Program} {Y : Ctx} {ι ι' : Iota} {μ μ' : Mu} {H : Heap} {w w' : World}
  {c1 : Nat → List V → Heap → (V → Heap → Prop) → Prop} {c2 : Nat → List V → V → Prop} {c3 : C → St → (Ex → St → Prop) → Prop}
  {c4 : Nat → List V → Heap → (V → Heap → Prop) → Prop} {c5 : O → List Nat → C → C → St → (Ex → St → Prop) → Prop}

theorem fieldAtT_some {s : TypeId} {f n : Nat} {fd : Field} (h : fieldAtT P s f = some (fd, n)) : ∃ fs, P.underlying s = some (.struct fs) ∧ fs[f]? = some fd := by
  unfold fieldAtT at h
  split at h <;> try (cases h; done)
  rename_i fs hu
  split at h <;> try (cases h; done)
  rename_i fd' hf
  cases h
  exact ⟨fs, hu, hf⟩

theorem sizeT_run {t : TypeId} {k : Nat} (h : sizeT P t = some k) : ∃ i, P.info? t = some i ∧ i.size = k ∧ ∀ w : World, (sizeOf t).run P w = .ok k w := by
  unfold sizeT at h
  cases hq : P.info? t with
  | none => simp [hq] at h
  | some i => simp [hq] at h; subst h; exact ⟨i, rfl, rfl, fun w => by simp [sizeOf, typeInfo, hq]⟩

theorem aggT_run {t : TypeId} {g : Bool} (h : aggT P t = some g) : ∀ w : World, (isAgg t).run P w = .ok g w := by
  intro w
  unfold aggT at h
  split at h
  · rename_i hu; cases h; unfold isAgg; rw [Sem.run_bind, run_underlying hu w]; rfl
  · rename_i hu; cases h; unfold isAgg; rw [Sem.run_bind, run_underlying hu w]; rfl
  · rename_i d h1 h2 hu
    cases h; unfold isAgg; rw [Sem.run_bind, run_underlying hu w]
    cases d <;> simp_all
  · cases h

theorem wrapX_false {xs : List Value} {y : Value} (h : wrapX false xs = some y) : xs = [y] := by
  match xs, h with
  | [c], h => cases h; rfl

/-- The elements of a literal, in their order. -/
theorem inOrder_rel {env : List (Nat × V)} {a : Act} (he : EnvR ι μ env a.tmps) : ∀ {parts : List (Nat × Operand)} {n : Nat} {xs : List O}, inOrder n parts = some xs →
    RelL ι μ (xs.map (·.ev env)) (parts.map fun p => a.eval p.2) ∧ (parts.map fun (i, x) => (i, a.eval x)) = ((parts.map fun p => a.eval p.2).zipIdx n).map fun (v, i) => (i, v)
  | [], n, xs, h => by cases h; exact ⟨.nil, rfl⟩
  | (i, x) :: r, n, xs, h => by
    unfold inOrder at h
    split at h <;> try (cases h; done)
    rename_i hi; subst hi
    split at h <;> try (cases h; done)
    rename_i y ys hy hys
    cases h
    obtain ⟨h1, h2⟩ := inOrder_rel he hys
    exact ⟨.cons (trO_rel he hy) h1, by simp [h2]⟩

theorem rep_flatten (zs : List Value) : ∀ (m : Nat), ((Array.range (m * zs.length)).map (fun i => zs.toArray[i % zs.toArray.size]!)).toList = (List.replicate m zs).flatten := by
  intro m
  apply List.ext_getElem?
  intro i
  induction m generalizing i with
  | zero => simp
  | succ m ih =>
    rw [List.replicate_succ, List.flatten_cons]
    by_cases hi : i < zs.length
    · rw [List.getElem?_append_left hi]
      have : i < (m + 1) * zs.length := by rw [Nat.add_mul]; omega
      simp [this, Nat.mod_eq_of_lt hi, hi]
    · rw [List.getElem?_append_right (by omega), ← ih]
      by_cases h2 : i < (m + 1) * zs.length
      · have h3 : i - zs.length < m * zs.length := by rw [Nat.add_mul, Nat.one_mul] at h2; omega
        have h4 : i % zs.length = (i - zs.length) % zs.length := by
          rw [Nat.mod_eq_sub_mod (by omega)]
        simp [h2, h3, h4]
      · have h3 : ¬ i - zs.length < m * zs.length := by rw [Nat.add_mul, Nat.one_mul] at h2; omega
        simp [h2, h3]

theorem mkslice_sound (h : Inv P Y ι μ H w) {nid : Nat} (hn : μ nid = none) {t e : TypeId} {ty : Ty} {k : Nat} {i : TypeInfo} {z : Value} (ht : P.underlying t = some (.slice e)) (he : elemOk P e = some k) (hi : P.info? e = some i) (hz : i.zero = some z)
    (h0 : zeroOk ty z.cells.toList = some []) (hk : ty.sz = k) {kk : IntKind} {m : Int} (hm0 : 0 ≤ m) (hm : m < (bigL : Int)) :
    ∃ μ' x w', (Instr.makeSlice t (.int kk m) (.int kk m)).run P w = .ok x w' ∧ μ.le μ' ∧ (∀ id, id ≠ nid → μ' id = μ id) ∧ Inv P Y ι μ' ⟨max H.next (nid + 1), (nid, .arr ty (List.replicate m.toNat ty.zero) false) :: bdel nid H.bl⟩ w' ∧
      Rel ι μ' (.sl nid ty 0 m.toNat) x := by
  obtain ⟨i', z', hi', hz', hby, hzs, hsz⟩ := elemOk_some he
  rw [hi] at hi'; cases hi'
  rw [hz] at hz'; cases hz'
  obtain ⟨us, hus, hcell⟩ := zeroOk_rel (ι := ι) h0
  simp only [List.append_nil] at hus
  have hw : IntKind.i64.wrap m = m := by
    apply wrap_rng
    unfold bigL at hm
    simp [IntKind.min, IntKind.max, IntKind.bits, IntKind.signed]
    omega
  have hby2 : (i.bytes : Int) * m ≤ 2 ^ 48 := by
    have h1 : (i.bytes : Int) ≤ 1024 := by unfold maxBytes at hby; omega
    have h2 : m ≤ 1073741824 := by unfold bigL at hm; omega
    have := Int.mul_le_mul h1 h2 hm0 (by omega)
    omega
  have hlt : ¬ (2 ^ 48 < (i.bytes : Int) * m) := by omega
  have hcat := CatR.rep (D := CellsD ι ty) (hus ▸ hcell) m.toNat
  obtain ⟨μ', m1, m0, m2, m3⟩ := lay_arr (rest := []) h hn hcat e m.toNat (by simp) (by simp [hcat.length (fun _ _ => CellsD.length)])
  have hrep := rep_flatten z.cells.toList m.toNat
  refine ⟨μ', .slice (some ⟨w.heap.size, 0, none⟩) m.toNat m.toNat, _, ?_, m1, m0, m2, by simpa using m3⟩
  have harr : ((List.replicate m.toNat z.cells.toList).flatten ++ []).toArray = (Array.range (m.toNat * i.size)).map (fun j => z.cells[j % z.cells.size]!) := by
    apply Array.ext'
    rw [List.append_nil, ← hrep]
    simp [hzs]
  rw [harr]
  simp only [Instr.makeSlice, Sem.run_bind, run_underlying ht, Result.andThen_ok, asInt, asIntOf, Sem.run_pure, typeInfo, run_program, hi, hw]
  rw [if_neg (by simp; omega)]
  simp only [run_askRoom, Result.andThen_ok, sizeOf, Sem.run_bind, typeInfo, run_program, hi, Sem.run_pure]
  split
  · rename_i h0
    have hr0 : Array.range 0 = #[] := rfl
    simp [h0, newRow, hr0]
  · simp [zeroValue, typeInfo, hi, hz, newRow]

/-- The two ways in which an operation ends. -/
theorem evI_sound (h : Inv P Y ι μ H w) {nid : Nat} (hn : μ nid = none) {env : List (Nat × V)} {a : Act} (he : EnvR ι μ env a.tmps) {o : Oper} {i : I} (hI : trI P o.op = some i) {ob : List Bool} {v : V} {u : Upd}
    (hev : evI (mkAr c1 c2 c3 c4 c5) i env H.bl nid = some (ob, v, u)) (hob : AllT ob) : OpOk P Y ι μ H w nid (execOp a.eval o) v u i.lays := by
  obtain ⟨dst, op, ty, pos, after, guard⟩ := o
  simp only at hI
  cases op <;> simp only [trI] at hI <;> try (cases hI; done)
  case move x =>
    cases hx : trO x <;> simp [hx] at hI
    subst hI; cases hev
    exact .pure h rfl (trO_rel he hx)
  case assign x =>
    cases hx : trO x <;> simp [hx] at hI
    subst hI; cases hev
    exact .pure h rfl (trO_rel he hx)
  case pick c x y =>
    split at hI <;> try (cases hI; done)
    rename_i c' x' y' hc hx hy
    cases hI
    have rc := trO_rel he hc
    have rx := trO_rel he hx
    have ry := trO_rel he hy
    simp only [evI] at hev
    split at hev <;> try (cases hev; done)
    · rename_i hce; rw [hce] at rc; cases hev
      generalize hg : a.eval c = cv at rc
      cases rc
      exact .pure h (by simp [execOp, hg, asBool]) rx
    · rename_i hce; rw [hce] at rc; cases hev
      generalize hg : a.eval c = cv at rc
      cases rc
      exact .pure h (by simp [execOp, hg, asBool]) ry
    · rename_i b hce; rw [hce] at rc
      split at hev <;> try (cases hev; done)
      rename_i p q hp hq
      cases hev
      generalize hg : a.eval c = cv at rc
      cases rc
      have ex := asB_rel hp rx
      have ey := asB_rel hq ry
      exact .pure h (x := .bool (if b then p else q)) (by cases b <;> simp [execOp, hg, asBool, ex, ey]) (.bool _)
  case alloc e =>
    split at hI <;> try (cases hI; done)
    rename_i inf hinf
    split at hI <;> try (cases hI; done)
    rename_i z hz
    cases hcs : ofCs z.cells.toList <;> simp [hcs] at hI
    subst hI; cases hev
    obtain ⟨μ', m1, m0, m2, m3⟩ := lay_cells h hn (ofCs_rel hcs) (ofCs_one hcs) e
    exact ⟨ι, μ', _, _, .inl (by simp [execOp, Instr.alloc, zeroValue, typeInfo, hinf, hz, newVar, newRow]; rfl), Iota.le_refl _, m1, m0, by simpa [bupd, I.lays, nextOf] using m2, m3⟩
  case box e x =>
    cases hx : trO x <;> simp [hx] at hI
    subst hI
    simp only [evI] at hev
    split at hev <;> try (cases hev; done)
    rename_i cs hcs
    cases hev
    obtain ⟨r1, r2⟩ := (trO_rel he hx).cells hcs
    obtain ⟨μ', m1, m0, m2, m3⟩ := lay_cells h hn r1 r2 e
    exact ⟨ι, μ', _, _, .inl (by simp [execOp, Instr.box, newVar, newRow]; rfl), Iota.le_refl _, m1, m0, by simpa [bupd, I.lays, nextOf] using m2, m3⟩
  case build t parts =>
    split at hI <;> try (cases hI; done)
    rename_i it fields hit hu
    split at hI <;> try (cases hI; done)
    rename_i z places hz hp
    split at hI <;> try (cases hI; done)
    rename_i zs ps hzs hps
    cases hI
    simp only [evI] at hev
    split at hev <;> try (cases hev; done)
    rename_i cs hcs
    cases hev
    obtain ⟨out, f1, f2, f3⟩ := partsOf_rel he hps hcs (ofCs_rel hzs) (ofCs_one hzs)
    have hb : P.built t (parts.map fun (i, x) => (i, a.eval x)).toList = some out := by
      simp only [Program.built, hit, hu, hz, hp]
      rw [Array.toList_map]; exact f1
    have hr := run_build (P := P) w t (parts.map fun (i, x) => (i, a.eval x)) out hb
    refine .pure h (x := .agg out) ?_ (.agg _ _ (by simpa using f2.1) (fun i v x hv hx => f2.2 i v x hv (by simpa using hx)) f3)
    simp only [execOp, Sem.run_bind, hr]; rfl
  case buildSlice t n parts =>
    split at hI <;> try (cases hI; done)
    rename_i e hu
    split at hI <;> try (cases hI; done)
    rename_i tye k xs hty hek hin
    split at hI <;> try (cases hI; done)
    rename_i hcond
    obtain ⟨hsz, hlen, hbig⟩ := hcond
    cases hI
    simp only [evI] at hev
    split at hev <;> try (cases hev; done)
    rename_i ys u0 hvl
    cases hev
    obtain ⟨q1, q2⟩ := inOrder_rel he hin
    obtain ⟨z1, z2, z3, z4⟩ := ofVl_rel hvl q1
    obtain ⟨ι', hle, hI', hF⟩ := freezeAll z1 h
    have hcat := z4 ι' hle hF
    obtain ⟨inf, zv, hi, hz, _, hzs, hisz⟩ := elemOk_some hek
    have hvl' : (parts.toList.map fun p => a.eval p.2).length = n := by have := q1.1; simp at this; simp; omega
    obtain ⟨out, f1, f2⟩ := fill_order (k := k) (parts.toList.map fun p => a.eval p.2) 0
      ((Array.range (n * k)).map fun j => (if n * k = 0 then #[] else zv.cells)[j % (if n * k = 0 then #[] else zv.cells).size]!) (fun v hv => by rw [z3 v hv, hsz]) (by simp [← hvl'])
    obtain ⟨μ', m1, m0, m2, m3⟩ := lay_arr (rest := []) hI' hn hcat e ys.length (Nat.le_refl _) (by rw [hcat.length (fun _ _ => CellsD.length)]; simp)
    have hn : ys.length = xs.length := by simpa using z2
    refine ⟨ι', μ', .slice (some ⟨w.heap.size, 0, none⟩) n n, (w.alloc (.cells ((List.flatMap (fun (x : Value) => x.cells.toList) (List.map (fun (p : Nat × Operand) => a.eval p.2) parts.toList)) ++ []).toArray e)), .inl ?_, hle, m1, m0, ?_, ?_⟩
    rotate_left
    · rw [bupd_append]; simpa [bupd, I.lays, nextOf] using m2
    · simpa [hn, hlen] using m3
    · have hout : ((List.flatMap (fun (x : Value) => x.cells.toList) (List.map (fun (p : Nat × Operand) => a.eval p.2) parts.toList)) ++ []).toArray = out := by
        apply Array.ext'; simp [f2]
      rw [hout]
      rw [← q2, ← hisz] at f1
      have hif : (if n * inf.size = 0 then #[] else zv.cells) = (if n * k = 0 then #[] else zv.cells) := by rw [hisz]
      have hmap : (parts.map fun (i, x) => (i, a.eval x)).toList = parts.toList.map fun (i, x) => (i, a.eval x) := by simp
      simp only [execOp, Instr.buildSlice, Sem.run_bind, run_underlying hu, Result.andThen_ok, sizeOf, typeInfo, run_program, hi, Sem.run_pure]
      rw [if_neg (by rw [hisz]; omega)]
      by_cases h0 : n * inf.size = 0
      · have h0' : n * k = 0 := by rw [← hisz]; exact h0
        rw [hisz] at f1
        simp [h0'] at f1
        simp [h0', hisz, f1, newRow]
      · have h0' : ¬ n * k = 0 := by rw [← hisz]; exact h0
        rw [hisz] at f1
        simp [h0'] at f1
        simp [h0', hisz, zeroValue, typeInfo, hi, hz, f1, newRow]
  case load t x =>
    split at hI <;> try (cases hI; done)
    rename_i k g x' hk hg hx
    cases hI
    obtain ⟨rfl, y, hy, hr⟩ := load_sound h hk hg (trO_rel he hx) hev hob
    exact .pure h (by simp only [execOp, Sem.run_bind, hy]; rfl) hr
  case store t pa x =>
    split at hI <;> try (cases hI; done)
    rename_i k a' x' hk ha hx
    cases hI
    obtain ⟨ι', w', hy, hle, hinv, rfl⟩ := store_sound h hk (trO_rel he hx) (trO_rel he ha) hev hob
    exact ⟨ι', μ, undef, w', .inr ⟨by simp only [execOp, Sem.run_bind, hy]; rfl, rfl⟩, hle, Mu.le_refl _, fun _ _ => rfl, hinv, .any _⟩
  case binOp op t x y yt =>
    split at hI <;> try (cases hI; done)
    rename_i x' y' hx hy
    have rx := trO_rel he hx
    have ry := trO_rel he hy
    split at hI
    · rename_i ks hks
      split at hI <;> try (cases hI; done)
      rename_i ng hng
      cases hI
      simp only [evI] at hev
      split at hev <;> try (cases hev; done)
      rename_i as bs hxe hye
      rw [hxe] at rx
      rw [hye] at ry
      split at hev <;> try (cases hev; done)
      rename_i c hc
      cases hev
      generalize hgx : a.eval x = xv at rx
      generalize hgy : a.eval y = yv at ry
      cases rx with
      | agg _ xa p1 p2 p3 =>
      cases ry with
      | agg _ ya q1 q2 q3 =>
      unfold structEq at hks
      split at hks <;> try (cases hks; done)
      rename_i fs hu
      split at hks <;> try (cases hks; done)
      rename_i hcond
      have hfo : P.fieldsOf t = fs := by simp [Program.fieldsOf, hu]
      have hrun : (Op.equal t (.agg xa) (.agg ya)).run P w = .ok c w := by
        have e1 := run_equalIn_struct (P := P) w 9999 t xa ya (by rw [hfo]; exact hu) hcond.2
        rw [hfo] at e1
        have e2 := eqCells_rel (d := 9998) (w := w) (P := P) (ι := ι) (μ := μ) hks (xs := xa) (ys := ya) ⟨by simpa using p1, fun i v x hv hx => p2 i v x hv (by simpa using hx)⟩
          ⟨by simpa using q1, fun i v x hv hx => q2 i v x hv (by simpa using hx)⟩ hc
        exact e1.trans e2
      have hguard : ∀ op', (eqGuard op' t x y (.agg xa) (.agg ya)).run P w = .ok () w := fun op' => by
        cases op' <;> first | rfl | simp [eqGuard, hcond.1]
      cases op <;> simp [eqlOp] at hng <;> subst hng
      · exact .pure h (x := .bool c) (by simp only [execOp, Sem.run_bind, hgx, hgy, hguard, Result.andThen_ok, binOp, hrun]; rfl) (.bool _)
      · exact .pure h (x := .bool (!c)) (by simp only [execOp, Sem.run_bind, hgx, hgy, hguard, Result.andThen_ok, binOp, hrun]; rfl) (.bool _)
    · split at hI <;> try (cases hI; done)
      · rename_i hu
        cases hb : eqlOp op <;> simp [hb] at hI
        subst hI
        simp only [evI] at hev
        split at hev <;> try (cases hev; done)
        rename_i p q hp hq
        cases hev
        have ex := asB_rel hp rx
        have ey := asB_rel hq ry
        have hg := run_eqGuard_plain (P := P) (w := w) op t x y (a := .bool p) (b := .bool q) (by simp) (by simp)
        have heq : (Op.equal t (.bool p) (.bool q)).run P w = .ok (p == q) w := run_equalIn_bool' w 9999 t p q hu
        cases op <;> simp [eqlOp] at hb <;> subst hb
        · exact .pure h (x := .bool (p == q)) (by simp only [execOp, Sem.run_bind, ex, ey, hg, Result.andThen_ok, binOp, heq]; rfl) (.bool _)
        · exact .pure h (x := .bool (!(p == q))) (by simp only [execOp, Sem.run_bind, ex, ey, hg, Result.andThen_ok, binOp, heq]; rfl) (.bool _)
      · cases hb : binOf op <;> simp [hb] at hI
        subst hI
        obtain ⟨rfl, z, hz, hr⟩ := bin_sound (w := w) hb (t := t) (xo := x) (yo := y) rx ry rfl rfl hev hob
        exact .pure h (by simp only [execOp, Sem.run_bind] at hz ⊢; rw [hz]; rfl) hr
      · cases hb : binOf op <;> simp [hb] at hI
        subst hI
        obtain ⟨rfl, z, hz, hr⟩ := bin_sound (w := w) hb (t := t) (xo := x) (yo := y) rx ry rfl rfl hev hob
        exact .pure h (by simp only [execOp, Sem.run_bind] at hz ⊢; rw [hz]; rfl) hr
  case unOp op t x =>
    cases op <;> simp only [trI] at hI <;> try (cases hI; done)
    all_goals
      cases hx : trO x <;> simp [hx] at hI
      subst hI
      have rx := trO_rel he hx
      simp only [evI] at hev
      generalize hg : a.eval x = xv at rx
    · split at hev <;> try (cases hev; done)
      rename_i k n hxe
      rw [hxe] at rx
      cases hev
      cases rx
      have hw := wrap_rng (hob _ (List.mem_singleton.2 rfl))
      simp only [Int.zero_sub] at hw
      exact .pure h (x := .int k (0 - n)) (by simp [execOp, hg, Op.unary, Op.intArith, hw]) (.int _ _)
    · split at hev <;> try (cases hev; done)
      · rename_i b hxe
        rw [hxe] at rx
        cases hev
        cases rx
        exact .pure h (x := .bool (!b)) (by simp [execOp, hg, Op.unary]) (.tf _)
      · rename_i b hxe
        rw [hxe] at rx
        cases hev
        cases rx
        exact .pure h (x := .bool (!b)) (by simp [execOp, hg, Op.unary]) (.bool _)
  case convert s d x =>
    split at hI <;> try (cases hI; done)
    rename_i k0 k hs hd
    cases hx : trO x <;> simp [hx] at hI
    subst hI
    have rx := trO_rel he hx
    simp only [evI] at hev
    generalize hg : a.eval x = xv at rx
    split at hev <;> try (cases hev; done)
    rename_i k1 n hxe
    rw [hxe] at rx
    cases hev
    cases rx
    have hw := wrap_rng (hob _ (List.mem_singleton.2 rfl))
    exact .pure h (x := .int k n) (by simp [execOp, hg, convert, run_underlying hs, run_underlying hd, Conv.intToInt, hw]) (.int _ _)
  case makeFunc f fs cs =>
    cases f <;> simp only [trI] at hI <;> try (cases hI; done)
    rename_i fid
    split at hI <;> try (cases hI; done)
    rename_i fs' cs' h1 h2
    cases hI; cases hev
    have r1 := trOs_rel he h1
    have r2 := trOs_rel he h2
    refine .pure h (x := .func (.func fid) (fs.map a.eval) (cs.map a.eval)) (by simp [execOp, Instr.makeFunc]) ?_
    exact .fn _ _ _ _ _ (by simpa using r1.1) (fun i v x hv hx => r1.2 i v x hv (by simpa using hx)) (by simpa using r2.1) (fun i v x hv hx => r2.2 i v x hv (by simpa using hx))
  case makeSlice t n m =>
    cases n <;> cases m <;> simp only [trI] at hI <;> try (cases hI; done)
    rename_i n m
    split at hI <;> try (cases hI; done)
    rename_i hnm; subst hnm
    split at hI <;> try (cases hI; done)
    rename_i e hu
    split at hI <;> try (cases hI; done)
    rename_i tye k inf hty hek hinf
    split at hI <;> try (cases hI; done)
    rename_i z hz
    split at hI <;> try (cases hI; done)
    rename_i hz0
    split at hI <;> try (cases hI; done)
    rename_i hcond
    cases hI
    simp only [evI] at hev
    split at hev <;> try (cases hev; done)
    rename_i kk mm hxe
    cases hev
    have rx := he n
    have hxe' : get n env = .int kk mm := hxe
    rw [hxe'] at rx
    have hb := hob _ (List.mem_singleton.2 rfl)
    simp only [decide_eq_true_eq] at hb
    generalize hg : a.tmps.getD n undef = xv at rx
    cases rx
    obtain ⟨μ', x, w', r1, r2, r0, r3, r4⟩ := mkslice_sound h hn hu hek hinf hz hz0 hcond.1 (kk := kk) hb.1 hb.2
    refine ⟨ι, μ', x, w', .inl ?_, Iota.le_refl _, r2, r0, by simpa [bupd, I.lays, nextOf] using r3, r4⟩
    have hev : a.eval (.tmp n) = .int kk mm := hg
    simp only [execOp, hev, Sem.run_bind, r1]; rfl
  case slice t x lo hi mx =>
    split at hI <;> try (cases hI; done)
    rename_i e hu
    split at hI <;> try (cases hI; done)
    rename_i k x' lo' hi' mx' hk hx h1 h2 h3
    cases hI
    obtain ⟨rfl, y, hy, hr⟩ := slice_sound (w := w) he hu hk (trO_rel he hx) h1 h2 h3 hev hob
    exact .pure h (by simp only [execOp, Sem.run_bind, hy]; rfl) hr
  case fieldAddr s x f =>
    split at hI <;> try (cases hI; done)
    rename_i fd n hfd
    split at hI <;> try (cases hI; done)
    rename_i k x' hk hx
    cases hI
    obtain ⟨fs, hu, hf⟩ := fieldAtT_some hfd
    obtain ⟨rfl, b, o, hp, hr⟩ := fld_sound (trO_rel he hx) hev
    obtain ⟨_, _, _, hsz⟩ := sizeT_run hk
    refine .pure h ?_ hr
    simp [execOp, Instr.fieldAt, run_underlying hu, hf, hp, Instr.sureAddr, fieldPlace, hsz, Addr.add_mid]
  case field s x f =>
    split at hI <;> try (cases hI; done)
    rename_i fd n hfd
    split at hI <;> try (cases hI; done)
    rename_i k g x' hk hg hx
    cases hI
    obtain ⟨fs, hu, hf⟩ := fieldAtT_some hfd
    have rx := trO_rel he hx
    simp only [evI] at hev
    split at hev <;> try (cases hev; done)
    rename_i cs hxe
    rw [hxe] at rx
    split at hev <;> try (cases hev; done)
    rename_i vs hcut
    split at hev <;> try (cases hev; done)
    rename_i v' hwr
    cases hev
    generalize hgx : a.eval x = xv at rx
    cases rx with
    | agg _ xa p1 p2 p3 =>
      have hR : RelL ι μ cs xa.toList := ⟨by simpa using p1, fun i v x hv hx => p2 i v x hv (by simpa using hx)⟩
      obtain ⟨r1, r2, r3⟩ := hR.map_cut hcut
      obtain ⟨y, hy, hv⟩ := wrapC_rel hwr r1 (fun u hu => p3 u (List.mem_of_mem_drop (List.mem_of_mem_take hu)))
      obtain ⟨_, _, _, hsz⟩ := sizeT_run hk
      have hagg := aggT_run hg
      refine .pure h (x := y) ?_ hv
      cases g with
      | true =>
        cases hy
        have : (List.take k (List.drop fd.offset xa.toList)).toArray = xa.extract fd.offset (fd.offset + k) := by
          apply Array.ext'; simp [List.extract_eq_take_drop]
        simp [execOp, hgx, Instr.field, run_underlying hu, hf, asAgg, part, hagg, hsz, this]
      | false =>
        have hl := wrapX_false hy
        have hc : xa[fd.offset]? = some y := by
          have h0 : (List.take k (List.drop fd.offset xa.toList))[0]? = some y := by rw [hl]; rfl
          rw [List.getElem?_take] at h0
          split at h0
          · simpa using h0
          · cases h0
        simp [execOp, hgx, Instr.field, run_underlying hu, hf, asAgg, part, hagg, hc]
  case indexAddr t x i =>
    split at hI <;> try (cases hI; done)
    · rename_i e x' i' hu hx hi
      cases hk : sizeT P e <;> simp [hk] at hI
      subst hI
      rename_i k
      obtain ⟨rfl, kk, m, b, o, len, cap, e1, e2, h0, h1, hr⟩ := idx_sound (trO_rel he hx) (trO_rel he hi) hev hob
      obtain ⟨_, _, _, hsz⟩ := sizeT_run hk
      refine .pure h ?_ hr
      simp [execOp, Instr.indexAt, e1, e2, asIntOf, run_underlying hu, h0, h1, hsz, Addr.add_mid]
    · rename_i n e x' i' hu hx hi
      cases hk : sizeT P e <;> simp [hk] at hI
      subst hI
      rename_i k
      obtain ⟨_, _, _, hsz⟩ := sizeT_run hk
      have rx := trO_rel he hx
      have ri := trO_rel he hi
      simp only [evI] at hev
      split at hev <;> try (cases hev; done)
      rename_i kk m hie
      rw [hie] at ri
      split at hev <;> try (cases hev; done)
      rename_i hmn
      generalize hgi : a.eval i = iv at ri
      cases ri
      have hm' : (m : Int) < n := by omega
      split at hev <;> try (cases hev; done)
      · rename_i id off hxe
        rw [hxe] at rx
        cases hev
        generalize hgx : a.eval x = xv at rx
        cases rx with
        | ptr _ _ L hL =>
          refine .pure h (x := .pointer (some ⟨L.b, L.ba + off + m * k, none⟩)) ?_ (by rw [Nat.add_assoc]; exact .ptr _ _ L hL)
          simp [execOp, Instr.indexAt, hgi, hgx, asIntOf, run_underlying hu, hsz, Addr.add_mid, Instr.sureAddr, hmn]
      · rename_i cs hxe
        rw [hxe] at rx
        split at hev <;> try (cases hev; done)
        rename_i hle
        cases hev
        generalize hgx : a.eval x = xv at rx
        cases rx with
        | ipc _ b o g h1 h2 h3 =>
          refine .pure h (x := .pointer (some ⟨b, o + m * k, none⟩)) ?_ (.ipc _ b (o + m * k) (fun i => g (m * k + i)) (fun i hi => ?_) (fun i v hv => ?_) (fun i => h3 _))
          · simp [execOp, Instr.indexAt, hgi, hgx, asIntOf, run_underlying hu, hsz, Addr.add_mid, Instr.sureAddr, hmn]
          · rw [Nat.add_assoc]; exact h1 _ (by simp at hi; omega)
          · exact h2 _ v (by simpa using hv)
  case extract x k =>
    cases hx : trO x <;> simp [hx] at hI
    subst hI
    have rx := trO_rel he hx
    simp only [evI] at hev
    split at hev <;> try (cases hev; done)
    rename_i vs hxe
    rw [hxe] at rx
    split at hev <;> try (cases hev; done)
    rename_i v' hv
    cases hev
    generalize hgx : a.eval x = xv at rx
    cases rx with
    | tup _ xa p1 p2 =>
      have hk := (List.getElem?_eq_some_iff.1 hv).1
      have hxk : xa[k]? = some (xa[k]'(by omega)) := by simp
      exact .pure h (x := xa[k]'(by omega)) (by simp only [execOp, hgx, Instr.extract, hxk]; rfl) (p2 k _ _ hv hxk)
  case call c =>
    obtain ⟨callee, args, argTypes⟩ := c
    cases callee <;> simp only [trI] at hI <;> try (cases hI; done)
    rename_i b
    obtain ⟨args, rfl⟩ : ∃ l : List Operand, l.toArray = args := ⟨args.toList, by simp⟩
    obtain ⟨argTypes, rfl⟩ : ∃ l : List TypeId, l.toArray = argTypes := ⟨argTypes.toList, by simp⟩
    simp only at hI
    unfold trB at hI
    split at hI <;> try (cases hI; done)
    · -- len
      rename_i t x
      split at hI <;> try (cases hI; done)
      · rename_i hu
        cases hx : trO x <;> simp [hx] at hI
        subst hI
        have rx := trO_rel he hx
        simp only [evI] at hev
        generalize hgx : a.eval x = xv at rx
        split at hev <;> try (cases hev; done)
        rename_i s hxe
        rw [hxe] at rx
        cases hev
        cases rx
        exact .pure h (x := .int .i64 s.size) (by simp [execOp, resolve, invoke, builtin, Builtin.len_, hgx, run_underlying hu, goInt]) (.int _ _)
      · rename_i e hu
        cases hx : trO x <;> simp [hx] at hI
        subst hI
        have rx := trO_rel he hx
        simp only [evI] at hev
        generalize hgx : a.eval x = xv at rx
        split at hev <;> try (cases hev; done)
        · rename_i _ _ _ m hxe
          rw [hxe] at rx
          cases hev
          cases rx with
          | sl => exact .pure h (x := .int .i64 m) (by simp [execOp, resolve, invoke, builtin, Builtin.len_, hgx, run_underlying hu, goInt]) (.int _ _)
          | sl0 => exact .pure h (x := .int .i64 (0 : Nat)) (by simp [execOp, resolve, invoke, builtin, Builtin.len_, hgx, run_underlying hu, goInt]) (.int _ _)
        · rename_i t' xs hxe
          rw [hxe] at rx
          cases hev
          cases rx with
          | lst _ _ _ hd =>
            obtain ⟨b, cap, e', _⟩ := hd
            cases e'
            exact .pure h (x := .int .i64 xs.length) (by simp [execOp, resolve, invoke, builtin, Builtin.len_, hgx, run_underlying hu, goInt]) (.int _ _)
        · rename_i hxe
          rw [hxe] at rx
          cases hev
          cases rx
          exact .pure h (x := .int .i64 0) (by simp [execOp, resolve, invoke, builtin, Builtin.len_, hgx, run_underlying hu, goInt]) (.int _ _)
      · rename_i n e hu
        cases hI; cases hev
        exact .pure h (x := .int .i64 n) (by simp [execOp, resolve, invoke, builtin, Builtin.len_, run_underlying hu, goInt]) (.int _ _)
      · rename_i arr hu
        split at hI <;> try (cases hI; done)
        rename_i n e hu2
        cases hI; cases hev
        exact .pure h (x := .int .i64 n) (by simp [execOp, resolve, invoke, builtin, Builtin.len_, run_underlying hu, run_underlying hu2, goInt]) (.int _ _)
    · -- append
      rename_i t u' x y
      split at hI <;> try (cases hI; done)
      rename_i e e' hu hu'
      split at hI <;> try (cases hI; done)
      rename_i k x' y' hk hx hy
      cases hI
      obtain ⟨μ', z, w', r1, r2, r0, r3, r4⟩ := append_sound (ty := ty) h hn hu hu' hk (trO_rel he hx) (trO_rel he hy) hev hob
      exact ⟨ι, μ', z, w', .inl (by simp [execOp, resolve, invoke, builtin, r1]), Iota.le_refl _, r2, r0, by simpa [I.lays, nextOf] using r3, r4⟩
    · -- max
      rename_i x r
      split at hI <;> try (cases hI; done)
      rename_i x' ys hx hys
      cases hI
      have rx := trO_rel he hx
      have rys := trOs_rel he hys
      simp only [evI] at hev
      split at hev <;> try (cases hev; done)
      rename_i k m hxe
      rw [hxe] at rx
      split at hev <;> try (cases hev; done)
      rename_i z hz
      cases hev
      generalize hgx : a.eval x = xv at rx
      cases rx
      have := minmax_max (w := w) (P := P) hz rys
      exact .pure h (x := .int k z) (by simp [execOp, resolve, invoke, builtin, Builtin.max_, hgx, this]) (.int _ _)
    · -- min
      rename_i x r
      split at hI <;> try (cases hI; done)
      rename_i x' ys hx hys
      cases hI
      have rx := trO_rel he hx
      have rys := trOs_rel he hys
      simp only [evI] at hev
      split at hev <;> try (cases hev; done)
      rename_i k m hxe
      rw [hxe] at rx
      split at hev <;> try (cases hev; done)
      rename_i z hz
      cases hev
      generalize hgx : a.eval x = xv at rx
      cases rx
      have := minmax_min (w := w) (P := P) hz rys
      exact .pure h (x := .int k z) (by simp [execOp, resolve, invoke, builtin, Builtin.min_, hgx, this]) (.int _ _)
end
end Go.AM
