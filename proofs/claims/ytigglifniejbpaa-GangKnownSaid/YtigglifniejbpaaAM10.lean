/- Each operation of the small machine is the model's: append, make, slices. -/
import Derived.Test.YtigglifniejbpaaAM9
set_option linter.unusedVariables false
set_option linter.unusedSimpArgs false
namespace Go.AM
section
variable {P : Program} {Y : Ctx} {ι ι' : Iota} {μ μ' : Mu} {H : Heap} {w w' : World}
  {c1 : Nat → List V → Heap → (V → Heap → Prop) → Prop} {c2 : Nat → List V → V → Prop} {c3 : C → St → (Ex → St → Prop) → Prop}
  {c4 : Nat → List V → Heap → (V → Heap → Prop) → Prop} {c5 : O → List Nat → C → C → St → (Ex → St → Prop) → Prop}

/-- A block of no element, of which nothing lies in memory. -/
theorem Inv.phantom (h : Inv P Y ι μ H w) {nid : Nat} (hn : μ nid = none) (t : Ty) (fz : Bool) : Inv P Y ι μ ⟨max H.next (nid + 1), (nid, .arr t [] fz) :: bdel nid H.bl⟩ w := by
  refine ⟨h.below, h.i0, h.iB, h.rd, h.m0, fun id hid => h.nx id (by simp only at hid; omega), fun id B hB => ?_, ?_, ?_⟩
  · rw [bget_set] at hB
    split at hB
    · rename_i e; subst e; cases hB; exact .inl ⟨rfl, hn⟩
    · exact h.live id B hB
  · intro id id' B B' L1 L2 h1 h2 hm1 hm2 e
    rw [bget_set] at h1 h2
    by_cases e1 : id = nid <;> by_cases e2 : id' = nid
    · rw [e1, e2]
    · subst e1; rw [hn] at hm1; cases hm1
    · subst e2; rw [hn] at hm2; cases hm2
    · rw [if_neg e1] at h1; rw [if_neg e2] at h2
      exact h.inj id id' B B' L1 L2 h1 h2 hm1 hm2 e
  · intro id B hB
    rw [bget_set] at hB
    split at hB
    · rename_i e; subst e; simp only; omega
    · have := h.lt id B hB; simp only; omega

/-- A block goes, and another one comes where it lay, whose memory is turned. -/
theorem Inv.move (h : Inv P Y ι μ H w) {nid : Nat} (hn : μ nid = none) {id : Nat} {b0 b : Blk} (hb0 : bget id H.bl = some b0) {L L' : Loc} (hL : μ id = some L) (hLb : L'.b = L.b) (hfree : ∀ o, ι L.b o = none)
    (hos : w'.os = w.os) (htape : w'.tape = w.tape) (hout : w'.output = w.output) (hsz : w'.heap.size = w.heap.size) (hk : ∀ k, k ≠ L.b → w'.heap[k]? = w.heap[k]?)
    (hb : BlkOk P Y.own ι (μ.set nid L') nid w' b) : Inv P Y ι (μ.set nid L') ⟨max H.next (nid + 1), (nid, b) :: bdel nid (bdel id H.bl)⟩ w' := by
  have hold := ((h.live id b0 hb0).loc hL).1
  have hle := Mu.le_set (L := L') hn
  have hidn : id ≠ nid := fun e => by subst e; rw [hn] at hL; cases hL
  have hgo : ∀ {j B}, j ≠ nid → bget j ((nid, b) :: bdel nid (bdel id H.bl)) = some B → j ≠ id ∧ bget j H.bl = some B := fun {j B} hj hB => by
    rw [bget_set, if_neg hj, bget_bdel] at hB
    split at hB
    · cases hB
    · rename_i e; exact ⟨e, hB⟩
  refine ⟨⟨hos.trans h.below.os, htape.trans h.below.tape, hout.trans h.below.output, by rw [hsz]; exact h.below.size, fun k hk' hx => ?_⟩, h.i0, h.iB, fun b o x hx => ?_, Mu.le_trans h.m0 hle, fun i hid => ?_, fun i B hB => ?_, ?_, ?_⟩
  · rw [hk k (Ctx.own_ne hold hk' hx)]; exact h.below.block k hk' hx
  · have := h.rd b o x hx
    have hne : b ≠ L.b := fun e => by subst e; rw [hfree] at hx; cases hx
    unfold World.cell? at this ⊢
    simp only at this ⊢
    rw [hk b hne]; exact this
  · simp only at hid
    unfold Mu.set; rw [if_neg (by omega)]; exact h.nx i (by omega)
  · by_cases e : i = nid
    · subst e; rw [bget_set, if_pos rfl] at hB; cases hB; exact hb
    · obtain ⟨h1, h2⟩ := hgo e hB
      refine (h.live i B h2).mono (Iota.le_refl _) hle (fun hm => by unfold Mu.set; rw [if_neg e]; exact hm) (fun L1 hL1 => hk _ (fun e' => h1 (h.inj i id B b0 L1 L h2 hb0 hL1 hL e'))) (fun _ _ h => h)
  · intro i i' B B' L1 L2 h1 h2 hm1 hm2 e
    by_cases e1 : i = nid <;> by_cases e2 : i' = nid
    · rw [e1, e2]
    · obtain ⟨g1, g2⟩ := hgo e2 h2
      unfold Mu.set at hm1 hm2
      rw [if_pos e1] at hm1; rw [if_neg e2] at hm2; cases hm1
      exact absurd (h.inj i' id B' b0 L2 L g2 hb0 hm2 hL (by omega)) g1
    · obtain ⟨g1, g2⟩ := hgo e1 h1
      unfold Mu.set at hm1 hm2
      rw [if_pos e2] at hm2; rw [if_neg e1] at hm1; cases hm2
      exact absurd (h.inj i id B b0 L1 L g2 hb0 hm1 hL (by omega)) g1
    · obtain ⟨g1, g2⟩ := hgo e1 h1
      obtain ⟨g3, g4⟩ := hgo e2 h2
      unfold Mu.set at hm1 hm2
      rw [if_neg e1] at hm1; rw [if_neg e2] at hm2
      exact h.inj i i' B B' L1 L2 g2 g4 hm1 hm2 e
  · intro i B hB
    by_cases e : i = nid
    · subst e; simp only; omega
    · obtain ⟨_, h2⟩ := hgo e hB
      have := h.lt i B h2; simp only; omega

theorem elems_src (h : Inv P Y ι μ H w) {t : Ty} {yv : V} {x : Value} {ys : List t.den} {tx e' : TypeId} (hk : P.underlying tx = some (.slice e')) (hy : elems (mkAr c1 c2 c3 c4 c5) H.bl t yv = some ys)
    (hr : Rel ι μ yv x) : ∃ news, Src P t.sz tx x ys.length news w ∧ CatR (CellsD ι t) ys news := by
  have nil : ∀ a cap, Src P t.sz tx (.slice a 0 cap) 0 [] w := fun a cap => by
    cases a with
    | none => exact Src.ofNil w hk cap
    | some a => exact Src.ofSlice w hk a 0 cap [] (by simp) (fun j u h => by simp at h) (fun u h => by cases h)
  have ofR : ∀ {b o n cap : Nat} {us : List Value}, w.rangeAt b o us → us.length = n * t.sz → (∀ u ∈ us, u.oneCell' = true) → Src P t.sz tx (.slice (some ⟨b, o, none⟩) n cap) n us w := fun hrg hl h1 =>
    Src.ofSlice w hk _ _ _ _ hl (fun j u hu => by rw [Addr.add_mid]; exact hrg j u hu) h1
  unfold elems at hy
  split at hy <;> try (cases hy; done)
  · cases hy; cases hr; exact ⟨[], nil _ _, rfl⟩
  · rename_i t' zs
    obtain ⟨e, hz⟩ := castL_some hy
    subst e; subst hz
    cases hr with
    | lst _ _ _ hd =>
      obtain ⟨a, cap, e, hle, hd⟩ := hd
      cases e
      rcases hd with rfl | ⟨b, o, us, rfl, hrd, hc⟩
      · exact ⟨[], nil a cap, rfl⟩
      · exact ⟨us, ofR (hrd.rangeAt h.rd) (hc.length (fun _ _ => CellsD.length)) (hc.one fun _ _ => CellsD.one), hc⟩
  · rename_i id t' lo n
    split at hy <;> try (cases hy; done)
    rename_i t'' zs fz hb
    split at hy <;> try (cases hy; done)
    rename_i e; subst e
    split at hy <;> try (cases hy; done)
    rename_i zs' hc
    cases hy
    obtain ⟨e, hz⟩ := castL_some hc
    subst e; subst hz
    cases hr with
    | sl0 => exact ⟨[], by simpa using nil _ _, by simp [CatR]⟩
    | sl _ _ _ _ cap L hm h1 h2 h3 =>
      rcases h.live _ _ hb with ⟨_, hn⟩ | ⟨L', vs, hM, hR, hl⟩
      · rw [hn] at hm; cases hm
      · rw [hM.mu] at hm; cases hm
        have hlen : ((zs'.drop lo).take n).length = n := by simp; omega
        have hcat := (hR.drop (fun _ _ => CellsD.length) lo).take (fun _ _ => CellsD.length) n
        have hl2 := hcat.length (fun _ _ => CellsD.length)
        rw [hlen] at hl2
        refine ⟨_, ?_, hcat⟩
        show Src P _ tx _ ((zs'.drop lo).take n).length _ w
        rw [hlen]
        exact ofR (rangeAt_sub hM.rangeAt _ _) hl2 (hcat.one fun _ _ => CellsD.one)

theorem elemOk_some {e : TypeId} {k : Nat} (h : elemOk P e = some k) : ∃ i z, P.info? e = some i ∧ i.zero = some z ∧ i.bytes ≤ maxBytes ∧ z.cells.size = i.size ∧ i.size = k := by
  unfold elemOk at h
  split at h <;> try (cases h; done)
  rename_i i hi
  split at h <;> try (cases h; done)
  rename_i z hz
  split at h <;> try (cases h; done)
  rename_i hb
  cases h
  exact ⟨i, z, hi, hz, hb.1, hb.2, rfl⟩

/-- An append to a slice with no element and no room, or to any where there is no room: a new block. -/
theorem append_new (h : Inv P Y ι μ H w) {nid : Nat} (hn : μ nid = none) {t : Ty} {tt tx ty e e' : TypeId} (ht : P.underlying tt = some (.slice e)) (htx : P.underlying tx = some (.slice e')) (he : elemOk P e = some t.sz)
    {base : Option Addr} {n cap : Nat} {xs ys : List t.den} {olds news : List Value} (hxl : xs.length = n) (hxs : CatR (CellsD ι t) xs olds)
    (hold : (Builtin.firstCells t.sz n (.slice base n cap)).run P w.drew = .ok olds.toArray w.drew) {x : Value} (hs : Src P t.sz tx x ys.length news w) (hys : CatR (CellsD ι t) ys news)
    (hg : cap < n + ys.length) (hbig : n + ys.length < bigL) :
    ∃ μ' v w', (Builtin.append_ #[tt, tx] ty #[.slice base n cap, x]).run P w = .ok v w' ∧ μ.le μ' ∧ (∀ id, id ≠ nid → μ' id = μ id) ∧
      Inv P Y ι μ' ⟨max H.next (nid + 1), (nid, .arr t (xs ++ ys) false) :: bdel nid H.bl⟩ w' ∧ Rel ι μ' (.sl nid t 0 (n + ys.length)) v := by
  obtain ⟨i, z, hi, hz, hby, hzs, hsz⟩ := elemOk_some he
  have hfit : Builtin.nextslicecap (n + ys.length) cap * i.bytes ≤ 281474976710656 := by
    refine growslice_fits hg (Nat.le_trans (Nat.mul_le_mul (Nat.le_of_lt hbig) hby) ?_)
    unfold bigL maxBytes; decide
  have h63 : ((n + ys.length : Nat) : Int) ≤ 9223372036854775807 := by unfold bigL at hbig; omega
  rw [← hsz] at hold hs
  have hr := run_append_grow_src w tt tx ty e i z ht hi hz base n cap olds hold x ys.length news hs hg h63 hfit
  have hcat : CatR (CellsD ι t) (xs ++ ys) (olds ++ news) := hxs.append hys
  have hl := hcat.length (fun _ _ => CellsD.length)
  have hge := grownCap_ge w (n + ys.length) cap e
  obtain ⟨μ', m1, m0, m2, m3⟩ := lay_arr (nid := nid) (rest := (Builtin.zeroCells z.cells (grownCap w (n + ys.length) cap e - (n + ys.length))).toList) h.drew hn hcat e (grownCap w (n + ys.length) cap e)
    (by simp [hxl]; exact hge) (by
      have hzc : (Builtin.zeroCells z.cells (grownCap w (n + ys.length) cap e - (n + ys.length))).toList.length = (grownCap w (n + ys.length) cap e - (n + ys.length)) * t.sz := by
        rw [Array.length_toList, size_zeroCells, hzs, hsz]
      rw [hl, hzc, List.length_append, hxl, ← Nat.add_mul]
      exact Nat.mul_le_mul_right _ (by omega))
  refine ⟨μ', _, _, hr, m1, m0, ?_, ?_⟩
  · have : (olds ++ news ++ (Builtin.zeroCells z.cells (grownCap w (n + ys.length) cap e - (n + ys.length))).toList).toArray =
        (olds ++ news).toArray ++ Builtin.zeroCells z.cells (grownCap w (n + ys.length) cap e - (n + ys.length)) := by
      apply Array.ext'; simp
    rw [this] at m2; exact m2
  · simpa [hxl] using m3

theorem append_sound (h : Inv P Y ι μ H w) {nid : Nat} (hn : μ nid = none) {env : List (Nat × V)} {tt tx ty e e' : TypeId} {k : Nat} {sO xO : O} {s x : Value} {ob : List Bool} {v : V} {u : Upd}
    (ht : P.underlying tt = some (.slice e)) (htx : P.underlying tx = some (.slice e')) (he : elemOk P e = some k)
    (hs : Rel ι μ (sO.ev env) s) (hx : Rel ι μ (xO.ev env) x) (hev : evI (mkAr c1 c2 c3 c4 c5) (.append k sO xO) env H.bl nid = some (ob, v, u)) (hob : AllT ob) :
    ∃ μ' y w', (Builtin.append_ #[tt, tx] ty #[s, x]).run P w = .ok y w' ∧ μ.le μ' ∧ (∀ id, id ≠ nid → μ' id = μ id) ∧ Inv P Y ι μ' ⟨max H.next (nid + 1), bupd u H.bl⟩ w' ∧ Rel ι μ' v y := by
  -- a slice with no element and no room
  have empty : ∀ {t : Ty} {ys : List t.den} (a : Option Addr) (bl : Blks), (∀ id B, bget id bl = some B → bget id H.bl = some B) → t.sz = k → elems (mkAr c1 c2 c3 c4 c5) H.bl t (xO.ev env) = some ys → ys.length < bigL →
      ∃ μ' y w', (Builtin.append_ #[tt, tx] ty #[.slice a 0 0, x]).run P w = .ok y w' ∧ μ.le μ' ∧ (∀ id, id ≠ nid → μ' id = μ id) ∧ Inv P Y ι μ' ⟨max H.next (nid + 1), (nid, .arr t ys false) :: bdel nid bl⟩ w' ∧ Rel ι μ' (.sl nid t 0 ys.length) y := by
    intro t ys a bl hbl hk hy hbig
    subst hk
    obtain ⟨news, hsrc, hcat⟩ := elems_src h htx hy hx
    have hI : Inv P Y ι μ ⟨H.next, bl⟩ w := h.sub hbl
    by_cases hm : ys.length = 0
    · have : ys = [] := List.length_eq_zero_iff.1 hm
      subst this
      have hn : news = [] := hcat
      subst hn
      obtain ⟨i, z, hi, hz, hby, hzs, hsz⟩ := elemOk_some he
      refine ⟨μ, .slice a 0 0, w, ?_, Mu.le_refl _, fun _ _ => rfl, hI.phantom hn t false, .sl0 _ _ _ a⟩
      rw [← hsz] at hsrc
      have hlen := hsrc.len w
      have hcells := hsrc.cells
      simp only [List.length_nil] at hcells hlen
      cases a <;> simp [Builtin.append_, run_underlying ht, run_underlying htx, sizeOf, typeInfo, hi, hlen, hcells, storeCells]
    · have hf : (Builtin.firstCells t.sz 0 (.slice a 0 0)).run P w.drew = .ok ([] : List Value).toArray w.drew := by
        cases a with
        | none => exact run_firstCells_none _ _ _ _ _
        | some a => exact run_firstCells_some _ _ _ _ _ _ [] (by simp) (fun j u h => by simp at h)
      obtain ⟨μ', y, w', r1, r2, r0, r3, r4⟩ := append_new (ty := ty) hI hn ht htx he (n := 0) (xs := []) (ys := ys) rfl rfl hf hsrc hcat (by omega) (by omega)
      exact ⟨μ', y, w', r1, r2, r0, r3, by simpa using r4⟩
  simp only [evI] at hev
  split at hev <;> try (cases hev; done)
  · rename_i hse
    rw [hse] at hs
    split at hev <;> try (cases hev; done)
    rename_i t hty
    split at hev <;> try (cases hev; done)
    rename_i hk
    split at hev <;> try (cases hev; done)
    rename_i ys hy
    cases hev
    cases hs with
    | nsl a =>
      have hbig : ys.length < bigL := by simpa using hob _ (List.mem_singleton.2 rfl)
      exact empty a H.bl (fun _ _ h => h) hk hy hbig
  · rename_i id t lo n hse
    rw [hse] at hs
    split at hev <;> try (cases hev; done)
    rename_i hk
    split at hev <;> try (cases hev; done)
    rename_i t' xs hb
    split at hev <;> try (cases hev; done)
    rename_i e1; subst e1
    split at hev <;> try (cases hev; done)
    rename_i xs' hc
    split at hev <;> try (cases hev; done)
    rename_i ys hy
    cases hev
    obtain ⟨e1, hz⟩ := castL_some hc
    subst hz
    have hbig : n + ys.length < bigL := by simpa using hob _ (List.mem_singleton.2 rfl)
    have hdel : ∀ i B, bget i (bdel id H.bl) = some B → bget i H.bl = some B := fun i B hB => by rw [bget_bdel] at hB; split at hB <;> simp_all
    simp only [bupd]
    cases hs with
    | sl0 _ _ _ a =>
      have := empty a _ hdel hk hy (by omega)
      simpa using this
    | sl _ _ _ _ cap L hm h1 h2 h3 =>
      rcases h.live _ _ hb with ⟨_, hn⟩ | ⟨L', vs, hM, hR, hl⟩
      · rw [hn] at hm; cases hm
      · rw [hM.mu] at hm; cases hm
        subst hk
        obtain ⟨news, hsrc, hcat⟩ := elems_src h htx hy hx
        have hlen : ((xs'.drop lo).take n).length = n := by simp; omega
        have holds := (hR.drop (fun _ _ => CellsD.length) lo).take (fun _ _ => CellsD.length) n
        have hl2 := holds.length (fun _ _ => CellsD.length)
        rw [hlen] at hl2
        have hrg : w.rangeAt L.b (L.ba + lo * t'.sz) ((vs.drop (lo * t'.sz)).take (n * t'.sz)) := rangeAt_sub hM.rangeAt _ _
        by_cases hroom : n + ys.length ≤ cap
        · obtain ⟨i, z, hi, hz, hby, hzs, hsz⟩ := elemOk_some he
          have hcl := hcat.length (fun _ _ => CellsD.length)
          have hone := hcat.one (fun _ _ => CellsD.one)
          have hfitc : L.ba + lo * t'.sz + n * t'.sz + news.length ≤ L.tot := by
            rw [hcl]
            have : lo * t'.sz + n * t'.sz + ys.length * t'.sz ≤ (lo + cap) * t'.sz := by
              rw [← Nat.add_mul, ← Nat.add_mul]; exact Nat.mul_le_mul_right _ (by omega)
            omega
          have hth : w.there L.b (L.ba + lo * t'.sz + n * t'.sz) news.length := hM.there (by omega) hfitc
          rw [← hsz] at hsrc
          have hr := run_append_room_src w tt tx ty e i ht hi L.b (L.ba + lo * t'.sz) n cap x ys.length news hsrc hroom
            (fun j hj => by rw [hsz]; exact (hth j hj).1) (fun j hj => by rw [hsz]; exact (hth j hj).2)
          rw [hsz] at hr
          let L2 : Loc := ⟨L.b, L.ba + lo * t'.sz, L.tot, n + ys.length⟩
          have hle := Mu.le_set (L := L2) hn
          have hmu : μ.set nid L2 nid = some L2 := by simp [Mu.set]
          refine ⟨_, _, _, hr, hle, Mu.set_ne, h.move hn (L' := L2) hb hM.mu rfl (hM.fzF rfl) (os_setCells _ _ _ _).1 (os_setCells _ _ _ _).2.1 (os_setCells _ _ _ _).2.2 (size_setCells _ _ _ _)
            (fun k hk => heap_setCells_ne _ _ _ _ _ hk) (.inr ⟨L2, (vs.drop (lo * t'.sz)).take (n * t'.sz) ++ news, ?_, ?_, ?_⟩), ?_⟩
          · -- the memory: the old cells from 'lo' on, the new ones behind them
            obtain ⟨c, ec, hc1, hc2, hc3⟩ := hM.row
            have hset := fun (j : Nat) (hj : j < news.length) => World.cell?_setCells_in L.b news (L.ba + lo * t'.sz + n * t'.sz) w (fun j hj => (hth j hj).1) j hj
            have hout := fun (a : Addr) h => World.cell?_setCells_out L.b news (L.ba + lo * t'.sz + n * t'.sz) w a h
            have hrow : ∃ c' : Array Value, (w.setCells L.b (L.ba + lo * t'.sz + n * t'.sz) news).heap[L.b]? = some (.cells c' ec (0, 0)) ∧ c'.size = c.size := by
              have key : ∀ (us : List Value) (o : Nat) (w : World) (c : Array Value), w.heap[L.b]? = some (.cells c ec (0, 0)) → ∃ c' : Array Value, (w.setCells L.b o us).heap[L.b]? = some (.cells c' ec (0, 0)) ∧ c'.size = c.size := by
                intro us
                induction us with
                | nil => intro o w c hc; exact ⟨c, hc, rfl⟩
                | cons u us ih =>
                  intro o w c hc
                  obtain ⟨c', e1, e2⟩ := ih (o + 1) (w.setCell ⟨L.b, o, none⟩ u) (c.setIfInBounds o u) (by simp [World.setCell, Array.getElem?_modify, hc])
                  exact ⟨c', e1, by simpa using e2⟩
              exact key _ _ _ _ hc1
            obtain ⟨c', hc4, hc5⟩ := hrow
            refine ⟨hmu, hM.old, ⟨c', ec, hc4, by rw [hc5]; exact hc2, fun j v hv => ?_⟩, by simp only [L2, List.length_append, hl2]; omega, ?_, (fun e => by cases e), fun _ => hM.fzF rfl⟩
            · have hcell : (w.setCells L.b (L.ba + lo * t'.sz + n * t'.sz) news).cell? ⟨L.b, L.ba + lo * t'.sz + j, none⟩ = some v := by
                by_cases hj : j < n * t'.sz
                · rw [List.getElem?_append_left (by omega)] at hv
                  rw [hout _ (fun _ _ => .inl (by show L.ba + lo * t'.sz + j < _; omega))]
                  exact hrg j v hv
                · rw [List.getElem?_append_right (by omega), hl2] at hv
                  have hj2 := (List.getElem?_eq_some_iff.1 hv).1
                  have := hset (j - n * t'.sz) hj2
                  rw [show L.ba + lo * t'.sz + n * t'.sz + (j - n * t'.sz) = L.ba + lo * t'.sz + j by omega] at this
                  rw [this, ← hv, List.getElem?_eq_getElem hj2]
              simp [World.cell?, hc4] at hcell
              exact hcell
            · intro v hv
              rcases List.mem_append.1 hv with hv | hv
              · exact hM.one v (List.mem_of_mem_drop (List.mem_of_mem_take hv))
              · exact hone v hv
          · exact holds.append hcat
          · simp only [L2, List.length_append, hlen]
          · have := Rel.sl (ι := ι) (μ := μ.set nid L2) nid t' 0 (n + ys.length) cap L2 hmu hroom (by simp only [L2, Nat.zero_add]; have : (lo + cap) * t'.sz = lo * t'.sz + cap * t'.sz := Nat.add_mul _ _ _; omega) (by simp [L2])
            simpa [L2] using this
        · have hf : (Builtin.firstCells t'.sz n (.slice (some ⟨L.b, L.ba + lo * t'.sz, none⟩) n cap)).run P w.drew = .ok ((vs.drop (lo * t'.sz)).take (n * t'.sz)).toArray w.drew :=
            run_firstCells_some _ _ _ _ _ _ _ hl2 (fun j u hu => by rw [Addr.add_mid, World.cell?_drew]; exact hrg j u hu)
          exact append_new (ty := ty) (h.sub hdel) hn ht htx he hlen holds hf hsrc hcat (by omega) hbig
end
end Go.AM
