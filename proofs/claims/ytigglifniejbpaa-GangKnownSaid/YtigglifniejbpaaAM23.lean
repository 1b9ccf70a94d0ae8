/- Calls in the caller's heap, loops unrolled, loops over functions. -/
import Derived.Test.YtigglifniejbpaaAM22
set_option linter.unusedVariables false
set_option linter.unusedSimpArgs false
namespace Go.AM
section
variable {P : Program} {N : Nat} {Y : Ctx} {ι ι' : Iota} {μ μ' : Mu} {H : Heap} {w w' : World} {out : Option Nat} {base : Nat}

theorem trF_res {func : Func} {fn : Fn} (htr : trF P func = some fn) : trR P func.results.toList = some fn.res := by
  unfold trF at htr
  split at htr <;> try (cases htr; done)
  split at htr <;> try (cases htr; done)
  rename_i hrs
  split at htr <;> try (cases htr; done)
  cases htr; exact hrs

/-- The caller's context, for what it calls: all its names are kept. -/
theorem Inv.down (h : Inv P Y ι μ H w) (ro : Option Nat) : Inv P ⟨Y.w0, ι, μ, ro, Y.x⟩ ι μ H w :=
  ⟨h.below, Iota.le_refl _, fun _ _ _ _ => rfl, h.rd, Mu.le_refl _, h.nx, h.live, h.inj, h.lt⟩

theorem Inv.up {ro : Option Nat} {H' : Heap} (h0 : Inv P Y ι μ H w) (h : Inv P ⟨Y.w0, ι, μ, ro, Y.x⟩ ι' μ' H' w') : Inv P Y ι' μ' H' w' ∧ ι.le ι' ∧ μ.le μ' :=
  ⟨⟨h.below, Iota.le_trans h0.i0 h.i0, fun b o hb hx => (h.iB b o hb hx).trans (h0.iB b o hb hx), h.rd, Mu.le_trans h0.m0 h.m0, h.nx, h.live, h.inj, h.lt⟩, h.i0, h.m0⟩

/-- A call, run in the caller's heap. -/
theorem acall_of {f : Nat} {func : Func} {fn : Fn} (hf : P.funcs[f]? = some func) (htr : trF P func = some fn) (hent : Enters P f) (hdraw : DrawOk P fn.N none H.next) {vs : List V} {Q : V → Heap → Prop} (hlen : vs.length ≤ fn.np)
    (h : wpE (std P fn.N none H.next) fn.body ⟨args 0 vs, H, []⟩ (RetH fn.res fn.tys Q)) : acall P f vs H Q := by
  refine ⟨hent, fun Y ι μ w as hI hr => ?_⟩
  refine body_ok (Y := ⟨Y.w0, ι, μ, none, Y.x⟩) hf htr hdraw hlen h rfl (fun id hid => hI.nx id hid) (hI.down none) hr fun ι' μ' S' a' w' e' hR hq => ?_
  have key : RetH.RetS fn.res fn.tys Q S' → LeavesInM Fence.wide 0 P func a'.tmps (EndR P Y ι μ Q) a'.defers .returning w' := by
    intro hs
    unfold RetH.RetS at hs
    split at hs <;> try (exact hs.elim)
    rename_i bl hbl
    split at hs <;> try (exact hs.elim)
    rename_i vs' hvs
    refine leaves_ok (trF_res htr) (n := S'.H.next) (bl := S'.H.bl) hR.inv hR.env hR.ms hbl hvs fun x w2 hI2 hx => ?_
    obtain ⟨h1, h2, h3⟩ := hI.up hI2
    exact ⟨x, ι', μ', _, _, rfl, h2, h3, h1, hx fn.tys, hs⟩
  cases e' with
  | exit id => exact hq.elim
  | normal => exact ⟨.inl rfl, key hq⟩
  | ret => exact ⟨.inr rfl, key hq⟩

theorem acall_mono {f : Nat} {vs : List V} {Q Q' : V → Heap → Prop} (h : acall P f vs H Q) (hq : ∀ v H, Q v H → Q' v H) : acall P f vs H Q' :=
  ⟨h.1, fun Y ι μ w as hI hr => (h.2 Y ι μ w as hI hr).mono fun e w' ⟨v, ι', μ', r, H', h1, h2, h3, h4, h5, h6⟩ => ⟨v, ι', μ', r, H', h1, h2, h3, h4, h5, hq _ _ h6⟩⟩

/-- So many rounds of a loop at most. -/
def unr (ar : Ar) (c : C) : Nat → St → (Ex → St → Prop) → Prop
  | 0, _, _ => False
  | n + 1, S, K => wpE ar c S fun e S' => match e with
    | .normal => unr ar c n S' K
    | .exit id => K (.exit id) S'
    | .ret => K .ret S'

theorem loop_unr (hdraw : DrawOk P N out base) {c : C} {S : St} {K : Ex → St → Prop} {n : Nat} (h : unr (std P N out base) c n S K) : (std P N out base).loop c S K := by
  intro body hbody Y ι μ a w ho hb hR
  refine wpIn_loop_ghost (fun x a w => ∃ ι μ S, Rep P N Y ι μ S a w ∧ unr (std P N out base) c x S K) id (x := n) ⟨ι, μ, S, hR, h⟩ ?_
  rintro x a w ⟨ι, μ, S, hR, hx⟩
  cases x with
  | zero => exact hx.elim
  | succ x =>
    refine wpIn_mono (wpE_sound hdraw body hbody hx Y ι μ a w ho hb hR) fun e a' w' hp => ?_
    obtain ⟨ι', μ', S', e', h1, h2, h3⟩ := hp
    cases e' with
    | normal => cases h2; exact ⟨x, ⟨ι', μ', S', h1, h3⟩, Nat.lt_succ_self x⟩
    | exit id => cases h2; exact ⟨ι', μ', S', .exit id, h1, rfl, h3⟩
    | ret => cases h2; exact ⟨ι', μ', S', .ret, h1, rfl, h3⟩

/-! Loops over functions. -/

/-- A block that is no memory changes. -/
theorem Inv.reObj {bl : Blks} {n id : Nat} {L : Loc} {B B' : Blk} (h : Inv P Y ι μ ⟨n, bl⟩ w) (hb : bget id bl = some B) (hL : μ id = some L) {o o' : Obj} (ho : w.heap[L.b]? = some o) (hnc : ∀ c e f, o ≠ .cells c e f)
    (hnew : BlkOk P Y.own ι μ id (w.putObj L.b o') B') : Inv P Y ι μ ⟨n, (id, B') :: bdel id bl⟩ (w.putObj L.b o') := by
  have hold : Y.own L.b := ((h.live id _ hb).loc hL).1
  have hother : ∀ k, k ≠ L.b → (w.putObj L.b o').heap[k]? = w.heap[k]? := fun k hk => World.putObj_heap_other hk
  refine ⟨⟨h.below.os, h.below.tape, h.below.output, by rw [World.putObj_size]; exact h.below.size, fun k hk hx => ?_⟩, h.i0, h.iB, fun b o2 x hx => ?_, h.m0, h.nx, fun i B2 hB => ?_, fun i i' B1 B2 L1 L2 hb1 hb2 => ?_, fun i B2 hB => ?_⟩
  · rw [hother k (Ctx.own_ne hold hk hx)]; exact h.below.block k hk hx
  · have := h.rd b o2 x hx
    have hne : b ≠ L.b := fun e => by
      subst e
      cases o <;> simp [World.cell?, ho] at this
      exact hnc _ _ _ rfl
    unfold World.cell? at this ⊢
    simp only at this ⊢
    rw [hother b hne]; exact this
  · simp only at hB
    rw [bget_set] at hB
    split at hB
    · rename_i e; subst e; cases hB; exact hnew
    · rename_i e
      refine (h.live i B2 hB).mono (Iota.le_refl _) (Mu.le_refl _) (fun h => h) (fun L' hL' => hother _ (fun e' => e (h.inj i id B2 _ L' L hB hb hL' hL e'))) (fun _ _ h => h)
  · simp only at hb1 hb2
    rw [bget_set] at hb1 hb2
    have hx : ∀ j Bj, (if j = id then some B' else bget j bl) = some Bj → ∃ Bj', bget j bl = some Bj' := fun j Bj hj => by
      split at hj
      · rename_i e; subst e; exact ⟨_, hb⟩
      · exact ⟨_, hj⟩
    obtain ⟨_, q1⟩ := hx _ _ hb1
    obtain ⟨_, q2⟩ := hx _ _ hb2
    exact h.inj i i' _ _ L1 L2 q1 q2
  · simp only at hB
    rw [bget_set] at hB
    split at hB
    · rename_i e; subst e; exact h.lt _ _ hb
    · exact h.lt _ _ hB

theorem Inv.reObj_del {bl : Blks} {n id : Nat} {L : Loc} {B : Blk} (h : Inv P Y ι μ ⟨n, bl⟩ w) (hb : bget id bl = some B) (hL : μ id = some L) {o o' : Obj} (ho : w.heap[L.b]? = some o) (hnc : ∀ c e f, o ≠ .cells c e f) :
    Inv P Y ι μ ⟨n, bdel id bl⟩ (w.putObj L.b o') := by
  have hold : Y.own L.b := ((h.live id _ hb).loc hL).1
  have hother : ∀ k, k ≠ L.b → (w.putObj L.b o').heap[k]? = w.heap[k]? := fun k hk => World.putObj_heap_other hk
  have hsub := h.del id
  refine ⟨⟨h.below.os, h.below.tape, h.below.output, by rw [World.putObj_size]; exact h.below.size, fun k hk hx => ?_⟩, h.i0, h.iB, fun b o2 x hx => ?_, h.m0, h.nx, fun i B2 hB => ?_, hsub.inj, hsub.lt⟩
  · rw [hother k (Ctx.own_ne hold hk hx)]; exact h.below.block k hk hx
  · have := h.rd b o2 x hx
    have hne : b ≠ L.b := fun e => by
      subst e
      cases o <;> simp [World.cell?, ho] at this
      exact hnc _ _ _ rfl
    unfold World.cell? at this ⊢
    simp only at this ⊢
    rw [hother b hne]; exact this
  · simp only at hB
    rw [bget_bdel] at hB
    split at hB
    · cases hB
    · rename_i e
      refine (h.live i B2 hB).mono (Iota.le_refl _) (Mu.le_refl _) (fun h => h) (fun L' hL' => hother _ (fun e' => e (h.inj i id B2 _ L' L hB hb hL' hL e'))) (fun _ _ h => h)

/-- How a jump leaves. -/
def jumpK (j : Option Ex) (S : St) (K : Ex → St → Prop) : Prop := match j with
  | none => K .normal S
  | some e => match e with
    | .normal => False
    | .exit i => K (.exit i) S
    | .ret => K .ret S

def afterLoop (id : Nat) (ms : List Nat) (S : St) (K : Ex → St → Prop) (H : Heap) : Prop := match bget id H.bl with
  | some (.loop st j _ _ _ _ _ _) => match st with
    | .busy => False
    | _ => jumpK j ⟨S.env, ⟨H.next, bdel id H.bl⟩, ms⟩ K
  | _ => False

/-- What a loop over a function asks. -/
def rangeS (ar : Ar) (N : Nat) (out : Option Nat) (f : O) (ps : List Nat) (as bd : C) (S : St) (K : Ex → St → Prop) : Prop :=
  ps.all (Nat.blt · N) = true ∧
  match f.ev S.env with
  | .fn fid first cap => match out with
    | none => ar.call fid (first ++ [.yl (S.H.next + 1)] ++ cap) ⟨S.H.next + 2, (S.H.next + 1, .loop .ready none S.H.next S.env ps as bd N) :: (S.H.next, .dfr) :: S.H.bl⟩
        fun _ H => afterLoop (S.H.next + 1) (S.H.next :: S.ms) S K H
    | some id0 => match bget id0 S.H.bl with
      | some (.loop _ _ d _ _ _ _ _) => ar.call fid (first ++ [.yl S.H.next] ++ cap) ⟨S.H.next + 1, (S.H.next, .loop .ready none d S.env ps as bd N) :: S.H.bl⟩
          fun _ H => afterLoop S.H.next S.ms S K H
      | _ => False
  | _ => False

theorem not_mem_of_next (h : Inv P Y ι μ H w) {id : Nat} (hid : H.next ≤ id) : bget id H.bl = none := by
  cases hb : bget id H.bl with
  | none => rfl
  | some B => have := h.lt id B hb; omega

theorem EqB_bdel_none {bl : Blks} {id : Nat} (h : bget id bl = none) : EqB (bdel id bl) bl := fun i => by
  rw [bget_bdel]; split
  · rename_i e; subst e; exact h.symm
  · rfl

theorem rangeF_rule {f : O} {ps : List Nat} {as bd : C} {S : St} {K : Ex → St → Prop} (h : rangeS (std P N out base) N out f ps as bd S K) : (std P N out base).rangeF f ps as bd S K := by
  intro fo pso ao bo hfo hps hao hbo Y ι μ a w ho hb hR
  obtain ⟨hpN, h⟩ := h
  have rf := trO_rel hR.env hfo
  have hnc : ∀ (r : Loop) c e f, Obj.loop r ≠ .cells c e f := fun r c e f => by intro h; cases h
  split at h
  · rename_i fid fs cs hfe
    rw [hfe] at rf
    generalize hg : a.eval fo = fv at rf
    cases rf with
    | fn _ _ _ xs ys h1 h2 h3 h4 =>
      have r1 : RelL ι μ fs xs.toList := ⟨by simpa using h1, fun i v x hv hx => h2 i v x hv (by simpa using hx)⟩
      have r2 : RelL ι μ cs ys.toList := ⟨by simpa using h3, fun i v x hv hx => h4 i v x hv (by simpa using hx)⟩
      -- behind the call
      have fin : ∀ {nid : Nat} {L : Loc} {ms' : List Nat} {ds' : List Deferred} {μ1 : Mu}, μ.le μ1 → μ1 nid = some L → MarksR μ1 ms' ds' → ∀ e w', EndR P Y ι μ1 (fun _ H => afterLoop nid ms' S K H) e w' →
          rangePost Y.F 0 P L.b (Post P N Y K) { a with defers := ds' } e w' := fun {nid L ms' ds' μ1} hm1 hL hmk e w' he => by
        obtain ⟨v, ι', μ', r, H', rfl, hi, hm, hinv, hv, hq⟩ := he
        unfold afterLoop at hq
        split at hq <;> try (exact hq.elim)
        rename_i st j d env' ps' as' bd' N' hbl
        obtain ⟨L', r', Ld, q1, q2, q3, q4, q5, q6, q7, q8, q9, q10, q11, q12, q13⟩ := hinv.live _ _ hbl
        rw [hm _ _ hL] at q1; cases q1
        have hst : r'.state ≠ .busy := by rw [q4]; cases st <;> simp [stR] at hq ⊢
        have hinv' := hinv.reObj_del (o' := .loop { r' with state := .exhausted }) hbl (hm _ _ hL) q3 (hnc r')
        have hrep : Rep P N Y ι' μ' ⟨S.env, ⟨H'.next, bdel nid H'.bl⟩, ms'⟩ { a with defers := ds' } (w'.putObj L.b (.loop { r' with state := .exhausted })) :=
          ⟨hR.env.mono hi (Mu.le_trans hm1 hm), hR.sz, hinv', hmk.mono hm⟩
        have hend := run_endLoop (P := P) q3 hst
        generalize w'.putObj L.b (.loop { r' with state := .exhausted }) = w4 at hrep hend
        refine ⟨r'.pending, w4, hend, ?_⟩
        have hq' : jumpK j ⟨S.env, ⟨H'.next, bdel nid H'.bl⟩, ms'⟩ K := by
          cases st <;> first | exact hq.elim | exact hq
        unfold jumpK at hq'
        cases j with
        | none => simp only [jumpR] at q5; rw [q5]; exact ⟨ι', μ', _, .normal, hrep, rfl, hq'⟩
        | some e =>
          cases e with
          | normal => exact hq'.elim
          | exit i => simp only [jumpR] at q5; rw [q5]; exact wpIn_exit ⟨ι', μ', _, .exit i, hrep, rfl, hq'⟩
          | ret => simp only [jumpR] at q5; rw [q5]; exact wpIn_ret ⟨ι', μ', _, .ret, hrep, rfl, hq'⟩
      have hpN' : ∀ p ∈ ps, p < N := fun p hp => by have := List.all_eq_true.1 hpN p hp; simpa using this
      cases out with
      | none =>
        simp only at h
        have hro : Y.ro = none := ho
        obtain ⟨hent, hcall⟩ := h
        let Ld : Loc := ⟨w.heap.size, 0, 0, 0⟩
        let L : Loc := ⟨w.heap.size + 1, 0, 0, 0⟩
        have hn0 := hR.inv.nx S.H.next (Nat.le_refl _)
        have hle0 := Mu.le_set (L := Ld) hn0
        have hI1 := hR.inv.lay hn0 (L := Ld) (o := .deferred (some [])) (b := .dfr) rfl ⟨Ld, by simp [Mu.set], .inl hR.inv.below.size, by show (w.heap.push _)[w.heap.size]? = _; simp⟩
        have hsz1 : (w.alloc (.deferred (some []))).heap.size = w.heap.size + 1 := World.size_alloc _ _
        have hn1 : (μ.set S.H.next Ld) (S.H.next + 1) = none := by simp only [Mu.set]; rw [if_neg (by omega)]; exact hR.inv.nx _ (by omega)
        have hle1 := Mu.le_set (L := L) hn1
        have hlay : ∀ fn : Nat, Inv P Y ι ((μ.set S.H.next Ld).set (S.H.next + 1) L) ⟨S.H.next + 2, (S.H.next + 1, .loop .ready none S.H.next S.env ps as bd N) :: (S.H.next, .dfr) :: S.H.bl⟩
            ((w.alloc (.deferred (some []))).alloc (.loop { state := .ready, pending := none, fn := fn, tmps := a.tmps, params := pso, assign := ao, body := bo, defers := w.heap.size })) := fun fn => by
          have hI2 := hI1.lay hn1 (L := L) (o := .loop { state := .ready, pending := none, fn := fn, tmps := a.tmps, params := pso, assign := ao, body := bo, defers := w.heap.size })
            (b := .loop .ready none S.H.next S.env ps as bd N) (by simp [L, hsz1]) ⟨L, { state := .ready, pending := none, fn := fn, tmps := a.tmps, params := pso, assign := ao, body := bo, defers := w.heap.size }, Ld, by simp [Mu.set], .inl (by have := hR.inv.below.size; simp only [L]; omega), by
              have := World.alloc_heap_new (w.alloc (.deferred (some []))) (.loop { state := .ready, pending := none, fn := fn, tmps := a.tmps, params := pso, assign := ao, body := bo, defers := w.heap.size })
              rw [hsz1] at this; exact this, rfl, rfl, hR.env.mono (Iota.le_refl _) (Mu.le_trans hle0 hle1), hps, hR.sz, hpN', hao, hbo, by simp [Mu.set], rfl⟩
          refine hI2.congr (fun id => ?_) (by simp only; omega)
          rw [bget_set, bget_cons]
          by_cases e : S.H.next + 1 = id
          · subst e; simp
          · rw [if_neg e, if_neg (fun e' => e e'.symm), bget_set, bget_cons]
            by_cases e2 : S.H.next = id
            · subst e2; simp
            · rw [if_neg e2, if_neg (fun e' => e2 e'.symm)]
        have hmle := Mu.le_trans hle0 hle1
        have hLd : ((μ.set S.H.next Ld).set (S.H.next + 1) L) S.H.next = some Ld := by simp [Mu.set]
        have hL : ((μ.set S.H.next Ld).set (S.H.next + 1) L) (S.H.next + 1) = some L := by simp [Mu.set]
        refine wpIn_rangeFunc fun fn _ => ?_
        have hlayf := hlay fn
        obtain ⟨W, hW⟩ : ∃ W, W = (w.alloc (.deferred (some []))).alloc (.loop { state := .ready, pending := none, fn := fn, tmps := a.tmps, params := pso, assign := ao, body := bo, defers := w.heap.size }) := ⟨_, rfl⟩
        rw [← hW] at hlayf
        refine ⟨w.heap.size + 1, [{ target := .collected w.heap.size, args := #[] }], W, { target := .fn (.func fid) ys, args := xs ++ #[.func (.yield (w.heap.size + 1)) #[] #[]] }, W, fid,
          (xs ++ #[.func (.yield (w.heap.size + 1)) #[] #[]]) ++ ys, W, ?_, ?_, fun _ _ => trivial, ?_, fun h => by simp [Ctx.F, Fence.wide] at h, ?_⟩
        · show (Instr.enterLoop fn a.tmps pso ao bo Y.ro).run P w = _
          rw [hro, hW]; exact run_enterLoop_outer _ _ _ _ _
        · have e1 : ∀ v, a.eval (.const v) = v := fun _ => rfl
          simp [resolve, hg, Deferred.ofValue, e1]
        · have := hent ((xs ++ #[Value.func (Fn.yield (w.heap.size + 1)) #[] #[]]) ++ ys) W
          simpa [invoke] using this
        · have rl : RelL ι ((μ.set S.H.next Ld).set (S.H.next + 1) L) (fs ++ [.yl (S.H.next + 1)] ++ cs) ((xs ++ #[Value.func (Fn.yield (w.heap.size + 1)) #[] #[]]) ++ ys).toList := by
            have q1 := r1.mono (Iota.le_refl _) hmle
            have q2 := r2.mono (Iota.le_refl _) hmle
            have := (q1.append (.cons (.yl _ L hL) .nil)).append q2
            simpa using this
          refine CallsIn.mono (F := Y.F) (hcall Y ι _ _ _ hlayf rl) fun e w' he => ?_
          exact fin (L := L) (nid := S.H.next + 1) (ms' := S.H.next :: S.ms) (ds' := { target := .collected w.heap.size, args := #[] } :: a.defers) hmle hL ⟨Ld, _, a.defers, rfl, hLd, rfl, hR.ms.mono hmle⟩ e w' he
      | some id0 =>
        simp only at h
        obtain ⟨L0, hm0, hro⟩ := ho
        split at h <;> try (exact h.elim)
        rename_i st0 j0 d0 env0 ps0 as0 bd0 N0 hb0
        obtain ⟨hent, hcall⟩ := h
        obtain ⟨L0', r0, Ld, q1, q2, q3, q4, q5, q6, q7, q8, q9, q10, q11, q12, q13⟩ := hR.inv.live _ _ hb0
        rw [hR.inv.m0 _ _ hm0] at q1; cases q1
        let L : Loc := ⟨w.heap.size, 0, 0, 0⟩
        have hn0 := hR.inv.nx S.H.next (Nat.le_refl _)
        have hmle := Mu.le_set (L := L) hn0
        have hlay : ∀ fn : Nat, Inv P Y ι (μ.set S.H.next L) ⟨S.H.next + 1, (S.H.next, .loop .ready none d0 S.env ps as bd N) :: S.H.bl⟩
            (w.alloc (.loop { state := .ready, pending := none, fn := fn, tmps := a.tmps, params := pso, assign := ao, body := bo, defers := r0.defers })) := fun fn => by
          have hI2 := hR.inv.lay hn0 (L := L) (o := .loop { state := .ready, pending := none, fn := fn, tmps := a.tmps, params := pso, assign := ao, body := bo, defers := r0.defers })
            (b := .loop .ready none d0 S.env ps as bd N) rfl ⟨L, { state := .ready, pending := none, fn := fn, tmps := a.tmps, params := pso, assign := ao, body := bo, defers := r0.defers }, Ld, by simp [Mu.set], .inl hR.inv.below.size, by
              show (w.heap.push _)[w.heap.size]? = _
              simp, rfl, rfl, hR.env.mono (Iota.le_refl _) hmle, hps, hR.sz, hpN', hao, hbo, hmle _ _ q12, q13⟩
          refine hI2.congr (fun id => ?_) (by simp only; omega)
          rw [bget_set, bget_cons]
          by_cases e : S.H.next = id
          · subst e; simp
          · rw [if_neg e, if_neg (fun e' => e e'.symm)]
        have hL : (μ.set S.H.next L) S.H.next = some L := by simp [Mu.set]
        refine wpIn_rangeFunc fun fn _ => ?_
        have hlayf := hlay fn
        obtain ⟨W, hW⟩ : ∃ W, W = w.alloc (.loop { state := .ready, pending := none, fn := fn, tmps := a.tmps, params := pso, assign := ao, body := bo, defers := r0.defers }) := ⟨_, rfl⟩
        rw [← hW] at hlayf
        refine ⟨w.heap.size, [], W, { target := .fn (.func fid) ys, args := xs ++ #[.func (.yield w.heap.size) #[] #[]] }, W, fid,
          (xs ++ #[.func (.yield w.heap.size) #[] #[]]) ++ ys, W, ?_, ?_, fun _ _ => trivial, ?_, fun h => by simp [Ctx.F, Fence.wide] at h, ?_⟩
        · show (Instr.enterLoop fn a.tmps pso ao bo Y.ro).run P w = _
          rw [hro, hW]; exact run_enterLoop_inner q3 _ _ _ _ _
        · have e1 : ∀ v, a.eval (.const v) = v := fun _ => rfl
          simp [resolve, hg, Deferred.ofValue, e1]
        · have := hent ((xs ++ #[Value.func (Fn.yield w.heap.size) #[] #[]]) ++ ys) W
          simpa [invoke] using this
        · have rl : RelL ι (μ.set S.H.next L) (fs ++ [.yl S.H.next] ++ cs) ((xs ++ #[Value.func (Fn.yield w.heap.size) #[] #[]]) ++ ys).toList := by
            have q1 := r1.mono (Iota.le_refl _) hmle
            have q2 := r2.mono (Iota.le_refl _) hmle
            have := (q1.append (.cons (.yl _ L hL) .nil)).append q2
            simpa using this
          refine CallsIn.mono (F := Y.F) (hcall Y ι _ _ _ hlayf rl) fun e w' he => ?_
          exact fin (L := L) (nid := S.H.next) hmle hL (hR.ms.mono hmle) e w' he
  · exact h.elim
end
end Go.AM
