/- A function's contract out of its code. -/
import Derived.Test.YtigglifniejbpaaAM17
set_option linter.unusedVariables false
set_option linter.unusedSimpArgs false
namespace Go.AM
section
variable {P : Program} {N : Nat} {Y : Ctx} {ι ι' : Iota} {μ μ' : Mu} {H : Heap} {w w' : World} {out : Option Nat} {base : Nat}

/-- A block for deferred calls is shut, and known no more. -/
theorem Inv.shut {bl : Blks} {n id : Nat} {L : Loc} (h : Inv P Y ι μ ⟨n, bl⟩ w) (hb : bget id bl = some .dfr) (hL : μ id = some L) : Inv P Y ι μ ⟨n, bdel id bl⟩ (w.putObj L.b (.deferred none)) := by
  obtain ⟨L', h1, h2, h3⟩ := h.live id _ hb
  rw [hL] at h1; cases h1
  have hlt : L.b < w.heap.size := (Array.getElem?_eq_some_iff.1 h3).1
  have hother : ∀ k, k ≠ L.b → (w.putObj L.b (.deferred none)).heap[k]? = w.heap[k]? := fun k hk => World.putObj_heap_other hk
  have hsub := h.del id
  refine ⟨⟨h.below.os, h.below.tape, h.below.output, by rw [World.putObj_size]; exact h.below.size, fun k hk hx => ?_⟩, h.i0, h.iB, fun b o x hx => ?_, h.m0, h.nx, fun i B hB => ?_, hsub.inj, hsub.lt⟩
  · rw [hother k (Ctx.own_ne h2 hk hx)]; exact h.below.block k hk hx
  · have := h.rd b o x hx
    have hne : b ≠ L.b := fun e => by subst e; simp [World.cell?, h3] at this
    unfold World.cell? at this ⊢
    simp only at this ⊢
    rw [hother b hne]; exact this
  · simp only at hB
    rw [bget_bdel] at hB
    split at hB
    · cases hB
    · rename_i e
      refine (h.live i B hB).mono (Iota.le_refl _) (Mu.le_refl _) (fun h => h) (fun L' hL' => hother _ (fun e' => e (h.inj i id B _ L' L hB hb hL' hL e'))) (fun _ _ h => h)

theorem loadV_ev {ar : Ar} {bl : Blks} {g : Bool} {k : Nat} {v y : V} (h : loadV bl g k v = some y) : evI ar (.load g k (.c v)) [] bl 0 = some ([], y, []) := by
  unfold loadV at h
  simp only [evI, O.ev]
  split at h <;> try (cases h; done)
  · split at h <;> try (cases h; done)
    rename_i hb
    split at h <;> try (cases h; done)
    rename_i hc
    simp only [hb, hc, h]
  · split at h <;> try (cases h; done)
    rename_i hc
    simp only [hc, h]

/-- One result. -/
def resOne (tmps : Array Value) : ResultVar → Sem Value
  | .tmp t => pure (tmps.getD t undef)
  | .cell a t => do loadVar t (← asAddr (tmps.getD a undef))

theorem results_eq (fn : Func) (tmps : Array Value) : results fn tmps = (do
    let vs ← fn.results.mapM (resOne tmps)
    pure (if h : vs.size = 1 then vs[0] else .tuple vs)) := rfl

theorem resV_run (hI : Inv P Y ι μ H w) {env : List (Nat × V)} {ms : List Nat} {tmps : Array Value} (he : EnvR ι μ env tmps) : ∀ {rs : List ResultVar} {res : List RV} {vs : List V}, trR P rs = some res → resV ⟨env, H, ms⟩ res = some vs →
    ∃ xs, (rs.mapM (resOne tmps)).run P w = .ok xs w ∧ RelL ι μ vs xs
  | [], res, vs, h, hv => by cases h; cases hv; exact ⟨[], rfl, .nil⟩
  | .tmp t :: rs, res, vs, h, hv => by
    simp only [trR] at h
    cases hr : trR P rs <;> simp [hr] at h
    subst h
    simp only [resV] at hv
    split at hv <;> try (cases hv; done)
    rename_i vs' hvs
    cases hv
    obtain ⟨xs, h1, h2⟩ := resV_run hI he hr hvs
    exact ⟨tmps.getD t undef :: xs, by simp only [List.mapM_cons, resOne, Sem.run_bind, Sem.run_pure, Result.andThen_ok, h1], .cons (he t) h2⟩
  | .cell a t :: rs, res, vs, h, hv => by
    simp only [trR] at h
    split at h <;> try (cases h; done)
    rename_i k g rs' hk hg hr
    cases h
    simp only [resV] at hv
    split at hv <;> try (cases hv; done)
    rename_i v hl
    split at hv <;> try (cases hv; done)
    rename_i vs' hvs
    cases hv
    obtain ⟨xs, h1, h2⟩ := resV_run hI he hr hvs
    have hev := loadV_ev (ar := std P 0 none 0) hl
    obtain ⟨_, y, hy, hry⟩ := load_sound (env := []) (x := .c (get a env)) hI hk hg (he a) hev (fun b hb => by cases hb)
    have hp : ∃ ad, tmps.getD a undef = .pointer (some ad) := by
      have := he a
      unfold loadV at hl
      split at hl <;> try (cases hl; done)
      · rename_i hge; rw [hge] at this; generalize tmps.getD a undef = x at this; cases this; exact ⟨_, rfl⟩
      · rename_i hge; rw [hge] at this; generalize tmps.getD a undef = x at this; cases this; exact ⟨_, rfl⟩
    obtain ⟨ad, hp⟩ := hp
    rw [hp] at hy
    have hy' : (loadVar t ad).run P w = .ok y w := by simpa [Instr.loadAt, Instr.sureAddr] using hy
    exact ⟨y :: xs, by simp only [List.mapM_cons, resOne, Sem.run_bind, hp, asAddr, Sem.run_pure, Result.andThen_ok, hy', h1], .cons hry h2⟩

theorem results_run (hI : Inv P Y ι μ H w) {env : List (Nat × V)} {ms : List Nat} {tmps : Array Value} (he : EnvR ι μ env tmps) {func : Func} {res : List RV} {vs : List V} (h : trR P func.results.toList = some res)
    (hv : resV ⟨env, H, ms⟩ res = some vs) : ∃ x, (results func tmps).run P w = .ok x w ∧ ∀ tys, Rel ι μ (mkRes (normL tys vs)) x := by
  obtain ⟨xs, h1, h2⟩ := resV_run hI he h hv
  have hm : (func.results.mapM (resOne tmps)).run P w = .ok xs.toArray w := by
    rw [Array.mapM_eq_mapM_toList]
    simp [h1]
  refine ⟨if h : xs.toArray.size = 1 then xs.toArray[0] else .tuple xs.toArray, ?_, ?_⟩
  · rw [results_eq, Sem.run_bind, hm]
    rfl
  · intro tys
    replace h2 := normL_rel (ts := tys) h2
    generalize normL tys vs = vs at h2
    match xs, vs, h2 with
    | [], vs, h2 => 
      have : vs = [] := List.length_eq_zero_iff.1 h2.1
      subst this
      exact .tup _ _ rfl (fun i v x hv => by simp at hv)
    | [x], [v], h2 => 
      obtain ⟨x', r, e, h3, _⟩ := h2.uncons
      cases e; exact h3
    | x :: y :: r, v :: v' :: r', h2 =>
      rw [dif_neg (by simp)]
      exact .tup _ _ (by simpa using h2.1) (fun i v x hv hx => h2.2 i v x hv (by simpa using hx))
    | [x], [], h2 => exact absurd h2.1 (by simp)
    | [x], v :: v' :: r', h2 => exact absurd h2.1 (by simp)
    | x :: y :: r, [], h2 => exact absurd h2.1 (by simp)
    | x :: y :: r, [v], h2 => exact absurd h2.1 (by simp)

/-- A function leaves. -/
theorem leaves_ok {func : Func} {res : List RV} (hres : trR P func.results.toList = some res) {R : Ending → World → Prop} {tmps : Array Value} {env : List (Nat × V)} {n : Nat} {vs : List V} :
    ∀ {ms : List Nat} {bl bl' : Blks} {ds : List Deferred} {w : World}, Inv P Y ι μ ⟨n, bl⟩ w → EnvR ι μ env tmps → MarksR μ ms ds → shutAll ms bl = some bl' → resV ⟨env, ⟨n, bl'⟩, []⟩ res = some vs →
      (∀ x w', Inv P Y ι μ ⟨n, bl'⟩ w' → (∀ tys, Rel ι μ (mkRes (normL tys vs)) x) → R (.returned x) w') → LeavesInM Fence.wide 0 P func tmps R ds .returning w
  | [], bl, bl', ds, w, hI, he, hm, hs, hv, hR => by
    cases hs; cases hm
    obtain ⟨x, h1, h2⟩ := results_run hI he hres hv
    exact ⟨x, h1, hR x w hI h2⟩
  | id :: ms, bl, bl', ds, w, hI, he, ⟨L, d, ds', e1, hL, e2, hm⟩, hs, hv, hR => by
    subst e1; subst e2
    unfold shutAll at hs
    split at hs <;> try (cases hs; done)
    rename_i hb
    obtain ⟨L', h1, h2, h3⟩ := hI.live id _ hb
    rw [hL] at h1; cases h1
    exact ⟨by simp, .inl ⟨L.b, _, rfl, run_takeDeferred h3, leaves_ok hres (hI.shut hb hL) he hm hs hv hR⟩⟩

theorem args_get : ∀ {vs : List V} {n t : Nat}, get t (args n vs) = if n ≤ t then vs.getD (t - n) .any else .any
  | [], n, t => by simp [args, get]
  | v :: r, n, t => by
    rw [args, get_cons]
    by_cases h : n = t
    · subst h; simp
    · rw [if_neg h, args_get]
      by_cases h2 : n ≤ t
      · rw [if_pos (by omega), if_pos h2, show t - n = (t - (n + 1)) + 1 by omega]; rfl
      · rw [if_neg (by omega), if_neg h2]

theorem enters_of {f : Nat} {func : Func} (hf : P.funcs[f]? = some func) (hb : func.body.isSome = true) (hn : (func.name == "runtime.NumGoroutine") = false) : Enters P f := fun args w => by
  have h1 : ¬ func.body = none := by cases h : func.body <;> simp_all
  have h2 : ¬ func.name = "runtime.NumGoroutine" := by simpa using hn
  simp [callFunc, hf, h1, h2]

/-- A function's body, run from its arguments. -/
theorem body_ok {f : Nat} {func : Func} {fn : Fn} (hf : P.funcs[f]? = some func) (htr : trF P func = some fn) (hdraw : DrawOk P fn.N none base) {vs : List V} {H : Heap} (hlen : vs.length ≤ fn.np) {Q : Ex → St → Prop}
    (h : wpE (std P fn.N none base) fn.body ⟨args 0 vs, H, []⟩ Q) {Y : Ctx} {ι : Iota} {μ : Mu} {w : World} {as : Array Value} (hro : Y.ro = none) (hbase : Y.base base) (hI : Inv P Y ι μ H w) (hr : RelL ι μ vs as.toList)
    {R : Ending → World → Prop} (hR : ∀ ι' μ' S' a' w' e', Rep P fn.N Y ι' μ' S' a' w' → Q e' S' → (e' = .normal ∨ e' = .ret) ∧ LeavesInM Fence.wide 0 P func a'.tmps R a'.defers .returning w') :
    CallsIn Fence.wide 0 P f as w R := by
  unfold trF at htr
  split at htr <;> try (cases htr; done)
  rename_i c hb
  split at htr <;> try (cases htr; done)
  rename_i b rs hc hrs
  split at htr <;> try (cases htr; done)
  rename_i hnp
  cases htr
  simp only at *
  have hF : Y.F = Fence.wide := by simp [Ctx.F, hro, Fence.wide]
  have hsize : as.size = vs.length := by have := hr.1; simp at this; omega
  have hrep : Rep P func.ntmps Y ι μ ⟨args 0 vs, H, []⟩ { tmps := as ++ Array.replicate (func.ntmps - as.size) undef, defers := [] } w := by
    refine ⟨fun t => ?_, by simp; omega, hI, rfl⟩
    simp only [args_get, Nat.zero_le, if_true, Nat.sub_zero]
    by_cases ht : t < vs.length
    · have hv : vs[t]? = some (vs.getD t .any) := by simp [List.getD, ht]
      obtain ⟨x, hx, hrx⟩ := hr.at hv
      have : (as ++ Array.replicate (func.ntmps - as.size) undef).getD t undef = x := by
        rw [Array.getD_eq_getD_getElem?, Array.getElem?_append_left (by omega)]
        simp at hx; simp [hx]
      rw [this]; exact hrx
    · have : vs.getD t .any = .any := by simp [List.getD, List.getElem?_eq_none (show vs.length ≤ t by omega)]
      rw [this]; exact .any _
  refine callsIn_of_wp_marks hf hb trivial ?_
  have hwp := wpE_sound hdraw c hc h Y ι μ _ w hro hbase hrep
  rw [hF] at hwp
  refine wpIn_mono hwp fun e a' w' hp => ?_
  obtain ⟨ι', μ', S', e', h1, h2, h3⟩ := hp
  obtain ⟨h4, h5⟩ := hR ι' μ' S' a' w' e' h1 h3
  rcases h4 with rfl | rfl <;> cases h2 <;> exact h5

theorem pcall_of {f : Nat} {func : Func} {fn : Fn} (hf : P.funcs[f]? = some func) (htr : trF P func = some fn) (hent : Enters P f) (hdraw : DrawOk P fn.N none 0) {vs : List V} {r : V} (hlen : vs.length ≤ fn.np)
    (h : wpE (std P fn.N none 0) fn.body ⟨args 0 vs, ⟨0, []⟩, []⟩ (RetD (std P fn.N none 0) fn.res fn.tys (· = r))) : pcall P f vs r := by
  refine ⟨hent, fun ι w as hrd hr => ?_⟩
  let Y : Ctx := ⟨w, ι, fun _ => none, none, fun _ => False⟩
  have hI : Inv P Y ι (fun _ => none) ⟨0, []⟩ w := ⟨Bel.refl _ _, Iota.le_refl _, fun _ _ _ _ => rfl, hrd, fun id L h => h, fun _ _ => rfl, fun id B h => by simp [bget] at h, fun id id' B B' L L' h => by simp [bget] at h, fun id B h => by simp [bget] at h⟩
  have hres : trR P func.results.toList = some fn.res := by
    unfold trF at htr
    split at htr <;> try (cases htr; done)
    split at htr <;> try (cases htr; done)
    rename_i hrs
    split at htr <;> try (cases htr; done)
    cases htr; exact hrs
  refine body_ok (Y := Y) hf htr hdraw hlen h rfl (fun _ _ => rfl) hI hr fun ι' μ' S' a' w' e' hR hq => ?_
  have key : RetD.RetS (std P fn.N none 0) fn.res fn.tys (· = r) S' → LeavesInM Fence.wide 0 P func a'.tmps (fun e w' => ∃ v ι', e = .returned v ∧ ι.le ι' ∧ (∀ b o, b < w.heap.size → ι' b o = ι b o) ∧ Readable ι' w' ∧
      RowKit.Below w.heap.size w w' ∧ Rel ι' (fun _ => none) r v) a'.defers .returning w' := by
    intro hs
    unfold RetD.RetS at hs
    split at hs <;> try (exact hs.elim)
    rename_i bl hbl
    split at hs <;> try (exact hs.elim)
    rename_i vs' hvs
    split at hs <;> try (exact hs.elim)
    rename_i r' hfin
    subst hs
    refine leaves_ok hres (n := S'.H.next) (bl := S'.H.bl) hR.inv hR.env hR.ms hbl hvs fun x w2 hI2 hx => ?_
    refine ⟨x, ι'.all Y.own w2, rfl, Iota.le_trans hI2.i0 (Iota.le_all hI2.rd), fun b o hb => ?_, fun b o y hy => ?_, hI2.below.to (fun _ h => h), ?_⟩
    · rw [Iota.all_not (fun h => by rcases h with h | h; exact absurd hb (Nat.not_lt.2 h); exact h)]; exact hI2.iB b o hb (fun h => h)
    · exact Iota.all_rd hI2.rd hy
    · exact fin_rel (Y := Y) (ar := std P fn.N none 0) (fun _ _ _ => rfl) hI2 hfin (hx fn.tys)
  cases e' with
  | exit id => exact hq.elim
  | normal => exact ⟨.inl rfl, key hq⟩
  | ret => exact ⟨.inr rfl, key hq⟩
end
end Go.AM
