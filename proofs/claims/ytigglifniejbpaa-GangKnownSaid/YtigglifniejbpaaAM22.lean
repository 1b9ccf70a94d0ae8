/- A region whose order is drawn: whatever the order, it ends as the canonical one. -/
import Derived.Test.YtigglifniejbpaaAM21
import Derived.OrdersIn
set_option linter.unusedVariables false
set_option linter.unusedSimpArgs false
namespace Go.AM
section
variable {P : Program} {N : Nat} {Y : Ctx} {ι ι' : Iota} {μ μ' : Mu} {H : Heap} {w w' : World} {out : Option Nat} {base : Nat} {ops : Array Oper}

def bstep (acc : Array Nat) (o : Oper) : Array Nat := acc.push (o.after.foldl (fun s e => if Region.binds .any e then s ||| 2 ^ e.on ||| acc.getD e.on 0 else s) 0)

theorem before_eq : Region.before ops = ops.toList.foldl bstep #[] := by
  unfold Region.before
  rw [← Array.foldl_toList]; rfl

theorem inner_spec {acc : Array Nat} {j : Nat} : ∀ {l : List Edge} {s : Nat}, (l.foldl (fun s e => if Region.binds .any e then s ||| 2 ^ e.on ||| acc.getD e.on 0 else s) s).testBit j = true →
    s.testBit j = true ∨ ∃ e ∈ l, Region.binds .any e = true ∧ (j = e.on ∨ (acc.getD e.on 0).testBit j = true)
  | [], s, h => .inl h
  | e :: r, s, h => by
    simp only [List.foldl_cons] at h
    rcases inner_spec h with h1 | ⟨e', he', h2⟩
    · split at h1
      · rename_i hb
        simp only [Nat.testBit_or, Bool.or_eq_true, Nat.testBit_two_pow, decide_eq_true_eq] at h1
        rcases h1 with (h1 | h1) | h1
        · exact .inl h1
        · exact .inr ⟨e, List.mem_cons_self .., hb, .inl h1.symm⟩
        · exact .inr ⟨e, List.mem_cons_self .., hb, .inr h1⟩
      · exact .inl h1
    · exact .inr ⟨e', List.mem_cons_of_mem _ he', h2⟩

theorem bfold_size : ∀ (l : List Oper) (acc : Array Nat), (l.foldl bstep acc).size = acc.size + l.length
  | [], acc => by simp
  | o :: r, acc => by simp only [List.foldl_cons, bfold_size r, bstep, Array.size_push, List.length_cons]; omega

theorem bfold_spec {j : Nat} : ∀ (l : List Oper) (acc : Array Nat) (pre : List Oper), acc.size = pre.length →
    (∀ i, (acc.getD i 0).testBit j = true → ∃ o, pre[i]? = some o ∧ ∃ e ∈ o.after, Region.binds .any e = true ∧ (j = e.on ∨ (acc.getD e.on 0).testBit j = true)) →
    ∀ i, ((l.foldl bstep acc).getD i 0).testBit j = true → ∃ o, (pre ++ l)[i]? = some o ∧ ∃ e ∈ o.after, Region.binds .any e = true ∧ (j = e.on ∨ ((l.foldl bstep acc).getD e.on 0).testBit j = true)
  | [], acc, pre, hs, h, i, hi => by simpa using h i hi
  | o :: r, acc, pre, hs, h, i, hi => by
    have := bfold_spec r (bstep acc o) (pre ++ [o]) (by simp [bstep, hs]) (fun i hi => ?_) i hi
    · simpa using this
    · have keep : ∀ k, (acc.getD k 0).testBit j = true → ((bstep acc o).getD k 0).testBit j = true := fun k hk => by
        have hlt : k < acc.size := by
          rcases Nat.lt_or_ge k acc.size with h | h
          · exact h
          · simp [Array.getD, Nat.not_lt.2 h] at hk
        simpa [bstep, Array.getD, hlt, Array.getElem_push, Nat.lt_succ_of_lt hlt] using (by simpa [Array.getD, hlt] using hk : acc[k].testBit j = true)
      by_cases hlt : i < acc.size
      · have hi' : (acc.getD i 0).testBit j = true := by
          simpa [bstep, Array.getD, hlt, Array.getElem_push, Nat.lt_succ_of_lt hlt] using hi
        obtain ⟨o', ho', e, he, hb, hj⟩ := h i hi'
        exact ⟨o', by rw [List.getElem?_append_left (List.getElem?_eq_some_iff.1 ho').1]; exact ho', e, he, hb, hj.imp id (keep _)⟩
      · by_cases heq : i = acc.size
        · subst heq
          have hi' : (o.after.foldl (fun s e => if Region.binds .any e then s ||| 2 ^ e.on ||| acc.getD e.on 0 else s) 0).testBit j = true := by
            simpa [bstep, Array.getD, Array.getElem_push] using hi
          rw [← Array.foldl_toList] at hi'
          rcases inner_spec hi' with h1 | ⟨e, he, hb, hj⟩
          · simp at h1
          · exact ⟨o, by rw [hs]; simp, e, by simpa using he, hb, hj.imp id (keep _)⟩
        · have : ¬ i < (bstep acc o).size := by simp [bstep]; omega
          simp [Array.getD, this] at hi

theorem before_spec {i j : Nat} (h : ((Region.before ops).getD i 0).testBit j = true) :
    ∃ o, ops[i]? = some o ∧ ∃ e ∈ o.after, Region.binds .any e = true ∧ (j = e.on ∨ ((Region.before ops).getD e.on 0).testBit j = true) := by
  rw [before_eq] at h ⊢
  obtain ⟨o, ho, h⟩ := bfold_spec (j := j) ops.toList #[] [] rfl (fun i hi => by simp at hi) i h
  exact ⟨o, by simpa using ho, h⟩

theorem before_size : (Region.before ops).size = ops.size := by rw [before_eq, bfold_size]; simp

theorem preds_mem {i j : Nat} : j ∈ (predsOf ops).getD i [] ↔ j < ops.size ∧ ((Region.before ops).getD i 0).testBit j = true := by
  unfold predsOf
  simp only [List.getD, List.getElem?_map]
  by_cases hi : i < ops.size
  · have h : (Region.before ops).toList[i]? = some ((Region.before ops).getD i 0) := by
      have : i < (Region.before ops).size := by rw [before_size]; exact hi
      simp [Array.getD, this]
    simp [h, List.mem_filter, List.mem_range]
  · have h1 : (Region.before ops).toList[i]? = none := List.getElem?_eq_none (by simp [before_size]; omega)
    have h2 : (Region.before ops).getD i 0 = 0 := by simp [Array.getD, before_size, hi]
    simp [h1, h2]

theorem trItms_get : ∀ {os : List Oper} {is : List Itm}, trItms P N ops os = some is → is.length = os.length ∧ ∀ (k : Nat) o it, os[k]? = some o → is[k]? = some it → trItm P N ops o = some it
  | [], is, h => by cases h; exact ⟨rfl, fun k o it h => by simp at h⟩
  | o :: os, is, h => by
    unfold trItms at h
    split at h <;> try (cases h; done)
    rename_i it its hit hits
    cases h
    obtain ⟨h1, h2⟩ := trItms_get hits
    refine ⟨by simp [h1], fun k o' it' ho hi => ?_⟩
    cases k with
    | zero => simp at ho hi; subst ho; subst hi; exact hit
    | succ k => exact h2 k o' it' (by simpa using ho) (by simpa using hi)

theorem Inv.next_mono (h : Inv P Y ι μ H w) {n : Nat} (hn : H.next ≤ n) : Inv P Y ι μ ⟨n, H.bl⟩ w :=
  ⟨h.below, h.i0, h.iB, h.rd, h.m0, fun id hid => h.nx id (Nat.le_trans hn hid), h.live, h.inj, fun id B hB => Nat.lt_of_lt_of_le (h.lt id B hB) hn⟩

theorem Inv.eqB (h : Inv P Y ι μ H w) {bl : Blks} (he : EqB bl H.bl) : Inv P Y ι μ ⟨H.next, bl⟩ w :=
  ⟨h.below, h.i0, h.iB, h.rd, h.m0, h.nx, fun id B hB => h.live id B (by rw [← he id]; exact hB), fun id id' B B' L L' hb hb' => h.inj id id' B B' L L' (by rw [← he id]; exact hb) (by rw [← he id']; exact hb'),
    fun id B hB => h.lt id B (by rw [← he id]; exact hB)⟩

theorem BlkOk.sameHeap {B : Nat → Prop} {id : Nat} {b : Blk} (h : BlkOk P B ι μ id w b) (hw : w'.heap = w.heap) : BlkOk P B ι μ id w' b := by
  cases b with
  | cells cs fz => obtain ⟨L, vs, hM, h⟩ := h; exact ⟨L, vs, ⟨hM.mu, hM.old, by rw [hw]; exact hM.row, hM.fits, hM.one, hM.fzT, hM.fzF⟩, h⟩
  | arr t xs fz =>
    rcases h with h | ⟨L, vs, hM, h⟩
    · exact .inl h
    · exact .inr ⟨L, vs, ⟨hM.mu, hM.old, by rw [hw]; exact hM.row, hM.fits, hM.one, hM.fzT, hM.fzF⟩, h⟩
  | loop st j d env ps as bd N => unfold BlkOk at h ⊢; rw [hw]; exact h
  | dfr => unfold BlkOk at h ⊢; rw [hw]; exact h

theorem Inv.drawn (h : Inv P Y ι μ H w) : Inv P Y ι μ H { w with drawn := w.drawn + 1 } :=
  ⟨⟨h.below.os, h.below.tape, h.below.output, h.below.size, h.below.block⟩, h.i0, h.iB, h.rd, h.m0, h.nx, fun id B hB => (h.live id B hB).sameHeap rfl, h.inj, h.lt⟩

/-- What a call of data leaves behind. -/
theorem Inv.called (hI : Inv P Y ι μ H w) (hi : ι.le ι') (hib : ∀ b o, b < w.heap.size → ι' b o = ι b o) (hrd : Readable ι' w') (hbel : RowKit.Below w.heap.size w w') : Inv P Y ι' μ H w' := by
  have hsz := hI.below.size
  refine ⟨hI.below.then hbel, Iota.le_trans hI.i0 hi, fun b o hb hx => by rw [hib b o (by omega)]; exact hI.iB b o hb hx, hrd, hI.m0, hI.nx, fun id B hB => ?_, hI.inj, hI.lt⟩
  have hlive := hI.live id B hB
  refine hlive.mono hi (Mu.le_refl _) (fun h => h) (fun L hL => hbel.block _ (hlive.loc hL).2) (fun L hL ho o => ?_)
  rw [hib _ _ (hlive.loc hL).2]; exact ho o

theorem Readable.kept (h : Readable ι w) (hbel : RowKit.Below w.heap.size w w') : Readable ι w' := fun b o x hx => by
  have h1 := h b o x hx
  have hlt : b < w.heap.size := by
    rcases Nat.lt_or_ge b w.heap.size with h' | h'
    · exact h'
    · simp [World.cell?, Array.getElem?_eq_none h'] at h1
  unfold World.cell? at h1 ⊢
  simp only at h1 ⊢
  rw [hbel.block b hlt]; exact h1

theorem scal_rel {v : V} {x : Value} (h : scal v = true) (hr : Rel ι μ v x) : Rel ι' μ' v x := by
  cases hr <;> simp only [scal] at h <;> try (cases h; done)
  case tf => exact .tf _
  case bool => exact .bool _
  case int => exact .int _ _
  case tup cs xs h1 h2 =>
    refine .tup cs xs h1 fun i v x hv hx => ?_
    have h3 := List.all_eq_true.1 h _ (List.mem_of_getElem? hv)
    have h4 := h2 i v x hv hx
    cases h4 <;> simp at h3
    · exact .tf _
    · exact .bool _
    · exact .int _ _

theorem mapO_id {g : V → Option V} : ∀ {vs : List V}, (∀ v ∈ vs, g v = some v) → mapO g vs = some vs
  | [], _ => rfl
  | v :: r, h => by simp only [mapO, h v (List.mem_cons_self ..), mapO_id (vs := r) (fun v hv => h v (List.mem_cons_of_mem _ hv))]

theorem fin_data {ar : Ar} {bl : Blks} : ∀ {n : Nat} {v : V}, isData n v = true → fin ar bl n v = some v
  | 0, v, h => by cases h
  | n + 1, v, h => by
    have all : ∀ {cs : List V}, cs.all (isData n) = true → mapO (fin ar bl n) cs = some cs := fun h => mapO_id fun v hv => fin_data (List.all_eq_true.1 h v hv)
    cases v <;> simp only [isData] at h <;> try (cases h; done)
    case ipc cs => simp only [fin, h, if_true]
    case fn f a b => simp only [Bool.and_eq_true] at h; simp only [fin, all h.1, all h.2]
    case agg cs => simp only [fin, all h]
    case tup cs => simp only [fin, all h]
    case ifc t v => simp only [fin, fin_data h]
    all_goals rfl

theorem vOk_rel {v0 v : V} {x : Value} (h : vOk v0 v) (hr : Rel ι μ v0 x) : Rel ι μ v x := by
  rcases h with rfl | ⟨c, rfl, rfl⟩
  · exact hr
  · cases hr; exact .tf _

theorem wanted_of {S : List (Nat × V)} {a : Act} (he : EnvR ι μ S a.tmps) {o : Oper} {g : Option (Nat × Bool)} (hg : trG ops o.guard = some g) {c : Bool} (h : gOk g S = some c) : Region.wanted o (yielded ops a.tmps) = c := by
  cases hog : o.guard with
  | none => rw [hog] at hg; cases hg; cases h; simp [Region.wanted, hog]
  | some jb =>
    obtain ⟨j, b⟩ := jb
    rw [hog] at hg
    simp only [trG] at hg
    split at hg <;> try (cases hg; done)
    rename_i oj hoj
    split at hg <;> try (cases hg; done)
    rename_i d hdj
    cases hg
    simp only [gOk] at h
    split at h <;> try (cases h; done)
    rotate_left
    · rename_i vs hc
      cases h
      simp only [Region.wanted, hog, yielded_tup he hoj hdj hc]
      rfl
    rename_i c' hc
    simp only [Region.wanted, hog, yielded_of he hoj hdj (.inl hc)]
    revert h
    cases c' <;> cases b <;> intro h <;> cases h <;> rfl

/-- An item that is enabled goes. -/
theorem step_ok {b n : Nat} {t : TR} {env : List (Nat × V)} {bl : Blks} {ms : List Nat} {a : Act} (hn : t.k < n) {o : Oper} (ho : ops[t.k]? = some o) (hit : trItm P N ops o = some t.it)
    (hen : En (std P N out base) b t env bl) (hR : Rep P N Y ι μ ⟨env, ⟨b + n, bl⟩, ms⟩ a w) (hfree : μ (b + t.k) = none) {Q : Exit → Act → World → Prop} {K : Act → World → Prop}
    (hK : ∀ ι' μ' a' w', Rep P N Y ι' μ' ⟨t.effE env, ⟨b + n, t.effB bl⟩, ms⟩ a' w' → (∀ id, id ≠ b + t.k → μ' id = μ id) → K a' w') : wpOpIn Y.F 0 P ops Q t.k K a w := by
  obtain ⟨k, it, ac, rd⟩ := t
  simp only at hn ho hit hfree hK
  unfold trItm at hit
  split at hit <;> try (cases hit; done)
  rename_i hd
  split at hit <;> try (cases hit; done)
  rename_i g hg
  have hgrd : it.grd = g ∧ it.dst = o.dst := by
    split at hit <;> (split at hit <;> try (cases hit; done)) <;> (cases hit; exact ⟨rfl, rfl⟩)
  unfold wpOpIn
  simp only [ho]
  unfold En at hen
  cases ac with
  | skip =>
    simp only at hen
    rw [hgrd.1] at hen
    rw [if_neg (by rw [wanted_of hR.env hg hen.1]; simp)]
    refine ⟨fun _ _ => trivial, hK ι μ _ _ ?_ fun _ _ => rfl⟩
    have := hR.put hd (Iota.le_refl _) (Mu.le_refl _) hR.inv Rel.und
    simpa [TR.effE, TR.effB, hgrd.2, Ac.val, Ac.upd, bupd] using this
  | op v u =>
    split at hit
    · split at hit <;> try (cases hit; done)
      cases hit; exact hen.elim
    · rename_i op _
      split at hit <;> try (cases hit; done)
      rename_i i hi
      cases hit
      obtain ⟨hgo, ob, v0, hev, hob, hv, _⟩ := hen
      have hw := wanted_of hR.env hg hgo
      rw [if_pos hw]
      obtain ⟨ι', μ', x, w', hx, hi', hm, hne, hinv, hrv⟩ := evI_sound hR.inv hfree hR.env hi hev hob
      refine ⟨fun _ _ => trivial, ?_⟩
      rw [Oper.semAt_eq _ _ _ (trI_defer hi)]
      have hnx : nextOf i.lays (b + n) (b + k) = b + n := by unfold nextOf; cases i.lays <;> simp <;> omega
      have hrep : Rep P N Y ι' μ' ⟨AM.put o.dst v env, ⟨b + n, bupd u bl⟩, ms⟩ (a.put o.dst x) w' := by
        refine hR.put hd hi' hm ?_ (vOk_rel hv hrv)
        have := hinv; simp only [hnx] at this; exact this
      rcases hx with h | ⟨h, rfl⟩ <;> rw [h] <;> exact hK _ _ _ _ hrep hne
  | call v =>
    split at hit
    · rename_i f args tys hop
      split at hit <;> try (cases hit; done)
      rename_i fo as hf ha
      cases hit
      obtain ⟨hgo, fid, fs, cs, vs', v0, hfe, hmo, hp, hs, hv, _⟩ := hen
      have hw := wanted_of hR.env hg hgo
      rw [if_pos hw]
      refine ⟨fun _ _ => trivial, ?_⟩
      rw [Oper.semAt_eq _ _ _ (by rw [hop]; simp)]
      have rf := trO_rel hR.env hf
      have ra := trOs_rel hR.env ha
      rw [hfe] at rf
      generalize hge : a.eval f = fv at rf
      cases rf with
      | fn _ _ _ xs ys h1 h2 h3 h4 =>
        obtain ⟨hent, hcall⟩ := hp
        rw [run_call_fn hop hge hent]
        have rl : RelL ι μ (fs ++ normL (tys.toList.map (tyOf P 8)) (as.map (·.ev env)) ++ cs) (xs ++ args.map a.eval ++ ys).toList := by
          have r1 : RelL ι μ fs xs.toList := ⟨by simpa using h1, fun i v x hv hx => h2 i v x hv (by simpa using hx)⟩
          have r2 : RelL ι μ cs ys.toList := ⟨by simpa using h3, fun i v x hv hx => h4 i v x hv (by simpa using hx)⟩
          have := (r1.append (normL_rel (ts := tys.toList.map (tyOf P 8)) ra)).append r2
          simpa using this
        refine ⟨fun h => by simp [Ctx.F, Fence.wide] at h, ?_⟩
        rw [Bool.or_eq_true] at hs
        rcases hs with hs | hs
        · refine CallsIn.mono (F := Y.F) (hcall (ι.all Y.own w) w _ (fun b o x hx => ?_) (mapO_rel (fun v r x h hr => fin_rel (fun _ _ _ => rfl) hR.inv h hr) hmo rl)) ?_
          · exact Iota.all_rd hR.inv.rd hx
          · rintro e w' ⟨v', ι', rfl, _, _, _, hbel, hrv⟩
            have hinv' : Inv P Y ι μ ⟨b + n, bl⟩ w' := hR.inv.called (Iota.le_refl _) (fun _ _ _ => rfl) (Readable.kept (fun b o x hx => hR.inv.rd b o x hx) hbel) hbel
            exact hK _ _ _ _ (hR.put hd (Iota.le_refl _) (Mu.le_refl _) hinv' (vOk_rel hv (scal_rel hs hrv))) fun _ _ => rfl
        · have hid : mapO (fin (std P N out base) bl 8) (fs ++ normL (tys.toList.map (tyOf P 8)) (as.map (·.ev env)) ++ cs) = some (fs ++ normL (tys.toList.map (tyOf P 8)) (as.map (·.ev env)) ++ cs) :=
            mapO_id fun v hv => fin_data (List.all_eq_true.1 hs v hv)
          rw [hid] at hmo; cases hmo
          have rl' : RelL ι (fun _ => none) (fs ++ normL (tys.toList.map (tyOf P 8)) (as.map (·.ev env)) ++ cs) (xs ++ args.map a.eval ++ ys).toList :=
            ⟨rl.1, fun i v x hv hx => isData_rel (List.all_eq_true.1 hs _ (List.mem_of_getElem? hv)) (rl.2 i v x hv hx)⟩
          refine CallsIn.mono (F := Y.F) (hcall ι w _ (fun b o x hx => hR.inv.rd b o x hx) rl') ?_
          rintro e w' ⟨v', ι', rfl, hi, hib, hrd, hbel, hrv⟩
          have hinv' : Inv P Y ι' μ ⟨b + n, bl⟩ w' := hR.inv.called hi hib hrd hbel
          exact hK _ _ _ _ (hR.put hd hi (Mu.le_refl _) hinv' (vOk_rel hv (hrv.mono (Iota.le_refl _) (fun _ _ h => by cases h)))) fun _ _ => rfl
    · split at hit <;> try (cases hit; done)
      cases hit; exact hen.elim

structure Good (ops : Array Oper) (is : List Itm) (R : List TR) (listed : Array Bool) : Prop where
  sz : listed.size = ops.size
  mem : ∀ t ∈ R, t.k < ops.size ∧ is[t.k]? = some t.it ∧ listed.getD t.k true = false
  cov : ∀ i, i < ops.size → listed.getD i true = false → ∃ t ∈ R, t.k = i
  srt : R.Pairwise (fun a b => a.k < b.k)
  dr : R.Pairwise (DrP (predsOf ops))
  clo : ∀ i, listed.getD i false = true → ∀ j ∈ (predsOf ops).getD i [], listed.getD j false = true

theorem getD_tf {l : Array Bool} {i : Nat} (h : l.getD i true = false) : l.getD i false = false ∧ i < l.size := by
  rcases Nat.lt_or_ge i l.size with h' | h'
  · simp [h'] at h ⊢; exact h
  · simp [Array.getElem?_eq_none h'] at h

theorem getD_lt {l : Array Bool} {i : Nat} (h : i < l.size) (d d' : Bool) : l.getD i d = l.getD i d' := by simp [h]

theorem slotsOk_spec {preds : List (List Nat)} {is : List Itm} (h : slotsOk preds is = true) {i j : Nat} (hij : i < j) {a b : Itm} (ha : is[i]? = some a) (hb : is[j]? = some b) : i ∈ preds.getD j [] ∨ slotsApart a b = true := by
  unfold slotsOk at h
  have hj : j < is.length := (List.getElem?_eq_some_iff.1 hb).1
  have := List.all_eq_true.1 (List.all_eq_true.1 h j (List.mem_range.2 hj)) i (List.mem_range.2 hij)
  simp only [ha, hb, Bool.or_eq_true] at this
  rcases this with h | h
  · exact .inl (by simpa using h)
  · exact .inr h

/-- What stands before a ready item is listed. -/
theorem ready_preds {is : List Itm} {R : List TR} {listed : Array Bool} (hG : Good ops is R listed) {i : Nat} (hi : i ∈ Region.ready .any ops listed) : ∀ j ∈ (predsOf ops).getD i [], listed.getD j false = true := by
  intro j hj
  obtain ⟨_, o, ho, hall⟩ := mem_ready.1 hi
  obtain ⟨hjs, ht⟩ := preds_mem.1 hj
  obtain ⟨o', ho', e, he, hb, h⟩ := before_spec ht
  rw [ho] at ho'; cases ho'
  have hl := hall e he hb
  rcases h with rfl | h
  · exact hl
  · exact hG.clo _ hl j (preds_mem.2 ⟨hjs, h⟩)

theorem ready_some {is : List Itm} {t : TR} {R : List TR} {listed : Array Bool} (hG : Good ops is (t :: R) listed) (hedges : edgesOk ops = true) : t.k ∈ Region.ready .any ops listed := by
  obtain ⟨h1, _, h3⟩ := hG.mem t (List.mem_cons_self ..)
  refine mem_ready.2 ⟨h3, ops[t.k], by simp [h1], fun e he hb => ?_⟩
  have hlt : e.on < t.k := by
    unfold edgesOk at hedges
    have hmem : (ops[t.k], t.k) ∈ ops.toList.zipIdx := by
      rw [List.mem_zipIdx_iff_getElem?]; simp [h1]
    have := List.all_eq_true.1 hedges _ hmem
    simp only at this
    have := Array.all_eq_true_iff_forall_mem.1 this e he
    simpa [hb] using this
  have hlt' : e.on < listed.size := by rw [hG.sz]; omega
  rcases Bool.eq_false_or_eq_true (listed.getD e.on true) with h | h
  · rw [getD_lt hlt' false true]; exact h
  · obtain ⟨t', ht', hk⟩ := hG.cov e.on (by omega) h
    rcases List.mem_cons.1 ht' with rfl | ht'
    · omega
    · have := (List.pairwise_cons.1 hG.srt).1 t' ht'
      omega

theorem Good.step {is : List Itm} {L1 L2 : List TR} {t : TR} {listed : Array Bool} (hG : Good ops is (L1 ++ t :: L2) listed) (hr : t.k ∈ Region.ready .any ops listed) : Good ops is (L1 ++ L2) (listed.setIfInBounds t.k true) := by
  have hsub : (L1 ++ L2).Sublist (L1 ++ t :: L2) := (List.Sublist.refl L1).append (List.sublist_cons_self t L2)
  have hne : ∀ x ∈ L1 ++ L2, x.k ≠ t.k := fun x hx => by
    have := List.pairwise_append.1 hG.srt
    rcases List.mem_append.1 hx with h | h
    · exact Nat.ne_of_lt (this.2.2 x h t (List.mem_cons_self ..))
    · exact Nat.ne_of_gt ((List.pairwise_cons.1 this.2.1).1 x h)
  refine ⟨by simp [hG.sz], fun x hx => ?_, fun i hi hli => ?_, hG.srt.sublist hsub, hG.dr.sublist hsub, fun i hi j hj => ?_⟩
  · obtain ⟨h1, h2, h3⟩ := hG.mem x (hsub.subset hx)
    exact ⟨h1, h2, by rw [getD_set_ne true (Ne.symm (hne x hx))]; exact h3⟩
  · have hki : t.k ≠ i := fun e => by
      subst e
      have : t.k < listed.size := by rw [hG.sz]; exact hi
      simp [this] at hli
    rw [getD_set_ne true hki] at hli
    obtain ⟨x, hx, hk⟩ := hG.cov i hi hli
    refine ⟨x, ?_, hk⟩
    rcases List.mem_append.1 hx with h | h
    · exact List.mem_append_left _ h
    · rcases List.mem_cons.1 h with rfl | h
      · exact absurd hk hki
      · exact List.mem_append_right _ h
  · refine getD_set_true ?_
    by_cases hki : t.k = i
    · subst hki; exact ready_preds hG hr j hj
    · rw [getD_set_ne false hki] at hi
      exact hG.clo i hi j hj

theorem any_ok {is : List Itm} (his : trItms P N ops ops.toList = some is) (hslots : slotsOk (predsOf ops) is = true) (hedges : edgesOk ops = true) {b : Nat} {ms : List Nat} {F : List (Nat × V) → Blks → Prop} (hF : Closed F)
    {Q : Exit → Act → World → Prop} (hend : ∀ ι μ env bl a w, Rep P N Y ι μ ⟨env, ⟨b + ops.size, bl⟩, ms⟩ a w → F env bl → Q .normal a w) :
    ∀ (fuel : Nat) {R : List TR} {listed : Array Bool} {a : Act} {w : World} {ι : Iota} {μ : Mu} {env : List (Nat × V)} {bl : Blks}, fuel = R.length → Good ops is R listed → Runs (std P N out base) b R env bl F →
      Rep P N Y ι μ ⟨env, ⟨b + ops.size, bl⟩, ms⟩ a w → (∀ t ∈ R, μ (b + t.k) = none) → wpAnyIn Y.F 0 P .any ops Q fuel listed a w
  | 0, R, listed, a, w, ι, μ, env, bl, hl, hG, hrun, hR, hfr => by
    have : R = [] := List.length_eq_zero_iff.1 hl.symm
    subst this
    refine ⟨?_, hend _ _ _ _ _ _ hR hrun⟩
    cases hr : Region.ready .any ops listed with
    | nil => rfl
    | cons i r =>
      have hi : i ∈ Region.ready .any ops listed := by rw [hr]; exact List.mem_cons_self ..
      obtain ⟨h0, o, ho, _⟩ := mem_ready.1 hi
      obtain ⟨t, ht, _⟩ := hG.cov i (Array.getElem?_eq_some_iff.1 ho).1 h0
      simp at ht
  | fuel + 1, R, listed, a, w, ι, μ, env, bl, hl, hG, hrun, hR, hfr => by
    refine ⟨fun h0 => ?_, fun i hi => ?_⟩
    · cases R with
      | nil => simp at hl
      | cons t R => have := ready_some hG hedges; rw [h0] at this; simp at this
    · obtain ⟨h0, o, ho, _⟩ := mem_ready.1 hi
      obtain ⟨t, ht, hk⟩ := hG.cov i (Array.getElem?_eq_some_iff.1 ho).1 h0
      subst hk
      obtain ⟨L1, L2, rfl⟩ := List.append_of_mem ht
      have hAp : ∀ x ∈ L1, Apart x t := fun x hx => by
        have hp := (List.pairwise_append.1 hG.srt).2.2 x hx t (List.mem_cons_self ..)
        have hd := (List.pairwise_append.1 hG.dr).2.2 x hx t (List.mem_cons_self ..)
        have hmx := hG.mem x (List.mem_append_left _ hx)
        have hmt := hG.mem t ht
        have hnot : x.k ∉ (predsOf ops).getD t.k [] := fun h => by
          have := ready_preds hG hi _ h
          rw [(getD_tf hmx.2.2).1] at this; cases this
        rcases slotsOk_spec hslots hp hmx.2.1 hmt.2.1 with h | h
        · exact absurd h hnot
        · rcases hd with h' | h'
          · exact absurd h' hnot
          · exact ⟨h, h'.1, h'.2⟩
      obtain ⟨hen, hrun'⟩ := pull hF hAp hrun
      have hmt := hG.mem t ht
      have hit := (trItms_get his).2 t.k o t.it (by simpa using ho) hmt.2.1
      refine step_ok hmt.1 ho hit hen hR (hfr t ht) fun ι' μ' a' w' hR' hne => ?_
      have hG' := hG.step hi
      refine any_ok his hslots hedges hF hend fuel (R := L1 ++ L2) (by simp at hl ⊢; omega) hG' hrun' hR' fun x hx => ?_
      have hx' : x ∈ L1 ++ t :: L2 := ((List.Sublist.refl L1).append (List.sublist_cons_self t L2)).subset hx
      have h1 := (hG'.mem x hx).2.2
      have hnk : x.k ≠ t.k := fun e => by
        rw [e] at h1
        have : t.k < listed.size := by rw [hG.sz]; exact hmt.1
        simp [this] at h1
      rw [hne _ (by omega)]; exact hfr x hx'

theorem Runs_mono {ar : Ar} {b : Nat} {F G : List (Nat × V) → Blks → Prop} (h : ∀ e bl, F e bl → G e bl) : ∀ {ts : List TR} {env : List (Nat × V)} {bl : Blks}, Runs ar b ts env bl F → Runs ar b ts env bl G
  | [], _, _, hr => h _ _ hr
  | _ :: _, _, _, hr => ⟨hr.1, Runs_mono h hr.2⟩

theorem Runs_and {ar : Ar} {b : Nat} {p : Prop} {F : List (Nat × V) → Blks → Prop} : ∀ {ts : List TR} {env : List (Nat × V)} {bl : Blks}, Runs ar b ts env bl (fun e bl => p ∧ F e bl) → p ∧ Runs ar b ts env bl F
  | [], _, _, hr => hr
  | _ :: _, _, _, hr => let ⟨h1, h2⟩ := Runs_and hr.2; ⟨h1, hr.1, h2⟩

theorem drawOk (hm : P.follows .mixedOrders = true) : DrawOk P N out base := by
  intro id ops is his hslots hedges S K hK Y ι μ a w ho hb hR
  refine wpIn_region_any hm ?_
  obtain ⟨ts, h1, h2, h3⟩ := trace_of hK
  simp only [List.nil_append] at h3
  obtain ⟨hdr, hrun⟩ := Runs_and h3
  have hlen : is.length = ops.size := by simpa using (trItms_get his).1
  have htl : ts.length = ops.size := by rw [← hlen, ← h1]; simp
  have hk : ∀ (j : Nat) t, ts[j]? = some t → t.k = j ∧ is[j]? = some t.it ∧ j < ops.size := fun j t ht => by
    have hj := (List.getElem?_eq_some_iff.1 ht).1
    refine ⟨?_, ?_, by omega⟩
    · have : (ts.map (·.k))[j]? = some t.k := by simp [ht]
      rw [h2, List.getElem?_range' (by omega)] at this
      simpa using this.symm
    · rw [← h1]; simp [ht]
  let F : List (Nat × V) → Blks → Prop := fun env bl => ∃ env0 bl0, EqE env0 env ∧ EqB bl0 bl ∧ K ⟨env0, ⟨S.H.next + ops.size, bl0⟩, S.ms⟩
  have hF : Closed F := fun env env' bl bl' he hbl ⟨e0, b0, q1, q2, q3⟩ => ⟨e0, b0, q1.trans he, fun i => (q2 i).trans (hbl i), q3⟩
  refine any_ok (out := out) (base := base) (b := S.H.next) (ms := S.ms) (F := F) his hslots hedges hF (fun ι' μ' env bl a' w' hR' hf => ?_) ops.size (R := ts) (ι := ι) (μ := μ) (env := S.env) (bl := S.H.bl) htl.symm ?_ ?_ ?_ ?_
  · obtain ⟨e0, b0, q1, q2, q3⟩ := hf
    exact ⟨ι', μ', ⟨e0, ⟨S.H.next + ops.size, b0⟩, S.ms⟩, .normal, ⟨fun t => by rw [q1 t]; exact hR'.env t, hR'.sz, hR'.inv.eqB q2, hR'.ms⟩, rfl, q3⟩
  · refine ⟨by simp, fun t ht => ?_, fun i hi hli => ?_, ?_, drOk_pairs hdr, fun i hi => ?_⟩
    · obtain ⟨j, hj⟩ := List.getElem?_of_mem ht
      obtain ⟨e1, e2, e3⟩ := hk j t hj
      subst e1
      exact ⟨e3, e2, by simp [e3]⟩
    · have : i < ts.length := by omega
      refine ⟨ts[i], List.getElem_mem this, (hk i _ (by simp)).1⟩
    · have h4 : (ts.map (·.k)).Pairwise (· < ·) := by rw [h2]; exact List.pairwise_lt_range'
      exact List.pairwise_map.1 h4
    · exfalso
      rcases Nat.lt_or_ge i ops.size with h | h <;> simp [h] at hi
  · refine Runs_mono (fun e bl h => ?_) hrun
    exact ⟨e, bl, fun _ => rfl, fun _ => rfl, by rw [← hlen]; exact h⟩
  · exact ⟨hR.env, hR.sz, (hR.inv.next_mono (by omega)).drawn, hR.ms⟩
  · intro t ht
    exact hR.inv.nx _ (by omega)
end
end Go.AM
