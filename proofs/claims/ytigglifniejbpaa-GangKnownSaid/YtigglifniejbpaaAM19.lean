/- States that stand for as much: at a loop's head. Calls of functions whose contract speaks of data. -/
import Derived.Test.YtigglifniejbpaaAM18
set_option linter.unusedVariables false
set_option linter.unusedSimpArgs false
namespace Go.AM

/-- New names to old ones. -/
def renV (π : List Nat) : Nat → V → Option V
  | 0, _ => none
  | n + 1, v => match v with
    | .sl id t lo m => match π[id]? with
      | some i => some (.sl i t lo m)
      | none => none
    | .ptr id o => match π[id]? with
      | some i => some (.ptr i o)
      | none => none
    | .ep id t j p => match π[id]? with
      | some i => some (.ep i t j p)
      | none => none
    | .yl id => match π[id]? with
      | some i => some (.yl i)
      | none => none
    | .ipc cs => match mapO (renV π n) cs with
      | some cs => some (.ipc cs)
      | none => none
    | .fn f a b => match mapO (renV π n) a with
      | some a => match mapO (renV π n) b with
        | some b => some (.fn f a b)
        | none => none
      | none => none
    | .agg cs => match mapO (renV π n) cs with
      | some cs => some (.agg cs)
      | none => none
    | .tup cs => match mapO (renV π n) cs with
      | some cs => some (.tup cs)
      | none => none
    | .ifc t v => match renV π n v with
      | some v => some (.ifc t v)
      | none => none
    | v => some v

def EntV (π : List Nat) (v' v : V) : Prop := match v' with
  | .any => True
  | v' => match renV π 8 v' with
    | some u => v = u
    | none => False

def EntE (π : List Nat) (env : List (Nat × V)) : List (Nat × V) → Prop
  | [] => True
  | [(t, v)] => EntV π v (get t env)
  | (t, v) :: r => EntV π v (get t env) ∧ EntE π env r

def renB (π : List Nat) : Blk → Option Blk
  | .cells cs fz => match mapO (renV π 8) cs with
    | some cs => some (.cells cs fz)
    | none => none
  | .arr t xs fz => some (.arr t xs fz)
  | .dfr => some .dfr
  | .loop _ _ _ _ _ _ _ _ => none

def EntB (π : List Nat) (bl : Blks) : Blks → Prop
  | [] => True
  | (id, b) :: r => (match π[id]? with
    | some i => match renB π b with
      | some b' => bget i bl = some b'
      | none => False
    | none => False) ∧ EntB π bl r

/-- What S stands for, S' stands for, too; 'π': the old names of S''s blocks. -/
def Ent (base : Nat) (π : List Nat) (S S' : St) : Prop :=
  (π.take base = List.range base ∧ π.Nodup ∧ S'.H.next = π.length ∧ S'.ms.map (fun i => π[i]?) = S.ms.map some) ∧ EntE π S.env S'.env ∧ EntB π S.H.bl S'.H.bl

section
variable {P : Program} {N : Nat} {Y : Ctx} {ι ι' : Iota} {μ μ' : Mu} {H : Heap} {w w' : World} {out : Option Nat} {base : Nat} {π : List Nat}

def Mu.ren (μ : Mu) (π : List Nat) : Mu := fun id => (π[id]?).bind μ

theorem mapO_ren {g : V → Option V} (hg : ∀ v u x, g v = some u → Rel ι μ u x → Rel ι' μ' v x) : ∀ {cs ds : List V} {xs : List Value}, mapO g cs = some ds → RelL ι μ ds xs → RelL ι' μ' cs xs
  | [], ds, xs, h, hr => by cases h; rw [hr.of_nil]; exact .nil
  | v :: r, ds, xs, h, hr => by
    unfold mapO at h
    split at h <;> try (cases h; done)
    rename_i y hy
    split at h <;> try (cases h; done)
    rename_i ys hys
    cases h
    obtain ⟨x, xs', rfl, h1, h2⟩ := hr.uncons
    exact .cons (hg _ _ _ hy h1) (mapO_ren hg hys h2)

theorem renV_rel : ∀ {n : Nat} {v u : V} {x : Value}, renV π n v = some u → Rel ι μ u x → Rel ι (μ.ren π) v x
  | 0, v, u, x, h, _ => by cases h
  | n + 1, v, u, x, h, hr => by
    have g : ∀ v u x, renV π n v = some u → Rel ι μ u x → Rel ι (μ.ren π) v x := fun v u x h hr => renV_rel h hr
    have lift : ∀ {cs ds : List V} {xs : Array Value}, mapO (renV π n) cs = some ds → ds.length = xs.size → (∀ (i : Nat) v x, ds[i]? = some v → xs[i]? = some x → Rel ι μ v x) → RelL ι (μ.ren π) cs xs.toList :=
      fun hm h1 h2 => mapO_ren g hm ⟨by simpa using h1, fun i v x hv hx => h2 i v x hv (by simpa using hx)⟩
    cases v <;> simp only [renV] at h
    case any => exact .any _
    case tf => cases h; cases hr; exact .tf _
    case bool => cases h; cases hr; exact .bool _
    case int => cases h; cases hr; exact .int _ _
    case str => cases h; cases hr; exact .str _
    case nilp => cases h; cases hr; exact .nilp
    case nilfn => cases h; cases hr; exact .nilfn
    case nili => cases h; cases hr; exact .nili
    case lst t xs => cases h; cases hr with | lst _ _ _ hd => exact .lst t xs _ hd
    case nsl => cases h; cases hr; exact .nsl _
    case sl id t lo m =>
      split at h <;> try (cases h; done)
      rename_i i hi; cases h
      cases hr with
      | sl _ _ _ _ cap L hL h1 h2 h3 => exact .sl id t lo m cap L (by simp [Mu.ren, hi, hL]) h1 h2 h3
      | sl0 => exact .sl0 _ _ _ _
    case ptr id o =>
      split at h <;> try (cases h; done)
      rename_i i hi; cases h
      cases hr with | ptr _ _ L hL => exact .ptr id o L (by simp [Mu.ren, hi, hL])
    case ep id t j p =>
      split at h <;> try (cases h; done)
      rename_i i hi; cases h
      cases hr with | ep _ _ _ _ L hL => exact .ep id t j p L (by simp [Mu.ren, hi, hL])
    case yl id =>
      split at h <;> try (cases h; done)
      rename_i i hi; cases h
      cases hr with | yl _ L hL => exact .yl id L (by simp [Mu.ren, hi, hL])
    case ipc cs =>
      split at h <;> try (cases h; done)
      rename_i ds hds; cases h
      cases hr with
      | ipc _ b o gf h1 h2 h3 =>
        have hR : RelL ι μ ds ((List.range ds.length).map gf) := ⟨by simp, fun i v x hv hx => by
          have hi := (List.getElem?_eq_some_iff.1 hv).1
          simp [hi] at hx; subst hx; exact h2 i v hv⟩
        have hR' := mapO_ren g hds hR
        have hl : cs.length = ds.length := by have := hR'.1; simpa using this
        exact .ipc cs b o gf (fun i hi => h1 i (by omega)) (fun i v hv => hR'.2 i v (gf i) hv (by
          have hi := (List.getElem?_eq_some_iff.1 hv).1
          simp [show i < ds.length by omega])) h3
    case ip t y => cases h; cases hr with | ip _ _ b o us h1 h2 => exact .ip t y b o us h1 h2
    case fn f fs cs =>
      split at h <;> try (cases h; done)
      rename_i as ha
      split at h <;> try (cases h; done)
      rename_i bs hb; cases h
      cases hr with
      | fn _ _ _ xs ys h1 h2 h3 h4 =>
        have r1 := lift ha h1 h2
        have r2 := lift hb h3 h4
        exact .fn f fs cs xs ys (by simpa using r1.1) (fun i v x hv hx => r1.2 i v x hv (by simpa using hx)) (by simpa using r2.1) (fun i v x hv hx => r2.2 i v x hv (by simpa using hx))
    case agg cs =>
      split at h <;> try (cases h; done)
      rename_i ds hds; cases h
      cases hr with
      | agg _ xs h1 h2 h3 =>
        have r1 := lift hds h1 h2
        exact .agg cs xs (by simpa using r1.1) (fun i v x hv hx => r1.2 i v x hv (by simpa using hx)) h3
    case tup cs =>
      split at h <;> try (cases h; done)
      rename_i ds hds; cases h
      cases hr with
      | tup _ xs h1 h2 =>
        have r1 := lift hds h1 h2
        exact .tup cs xs (by simpa using r1.1) (fun i v x hv hx => r1.2 i v x hv (by simpa using hx))
    case ifc t v =>
      split at h <;> try (cases h; done)
      rename_i u' hu; cases h
      cases hr with | ifc _ _ x hx => exact .ifc t v x (g _ _ _ hu hx)

theorem EntV_rel {v' v : V} {x : Value} (h : EntV π v' v) (hr : Rel ι μ v x) : Rel ι (μ.ren π) v' x := by
  unfold EntV at h
  split at h
  · exact .any _
  · split at h
    · rename_i u hu; subst h; exact renV_rel hu hr
    · exact h.elim

theorem EntE_rel {tmps : Array Value} {env : List (Nat × V)} (he : EnvR ι μ env tmps) : ∀ {env' : List (Nat × V)}, EntE π env env' → EnvR ι (μ.ren π) env' tmps
  | [], _ => fun t => .any _
  | [(t, v)], h => fun i => by
    rw [get_cons]; split
    · rename_i e; subst e; exact EntV_rel h (he _)
    · exact .any _
  | (t, v) :: p :: r, h => fun i => by
    rw [get_cons]; split
    · rename_i e; subst e; exact EntV_rel h.1 (he _)
    · exact EntE_rel he h.2 i

theorem EntB_get : ∀ {bl bl' : Blks}, EntB π bl bl' → ∀ {id : Nat} {b : Blk}, bget id bl' = some b → ∃ i b', π[id]? = some i ∧ renB π b = some b' ∧ bget i bl = some b'
  | bl, [], _, id, b, hb => by simp [bget] at hb
  | bl, (s, c) :: r, h, id, b, hb => by
    rw [bget_cons] at hb
    split at hb
    · rename_i e; subst e; cases hb
      have h1 := h.1
      split at h1
      · rename_i i hi
        split at h1
        · rename_i b' hb'; exact ⟨i, b', hi, hb', h1⟩
        · exact h1.elim
      · exact h1.elim
    · exact EntB_get h.2 hb

theorem Ent.rep {S S' : St} (h : Ent base π S S') (hbase : Y.base base) {a : Act} (hR : Rep P N Y ι μ S a w) : Rep P N Y ι (μ.ren π) S' a w := by
  obtain ⟨⟨h1, h2, h3, h4⟩, h5, h6⟩ := h
  have hI := hR.inv
  have hle : Y.m0.le (μ.ren π) := fun id L hL => by
    have hlt : id < base := by
      rcases Nat.lt_or_ge id base with h | h
      · exact h
      · rw [hbase id h] at hL; cases hL
    have : π[id]? = some id := by
      have e1 : (π.take base)[id]? = (List.range base)[id]? := by rw [h1]
      rw [List.getElem?_take, if_pos hlt, List.getElem?_range hlt] at e1
      exact e1
    simp [Mu.ren, this, hI.m0 id L hL]
  refine ⟨EntE_rel hR.env h5, hR.sz, ⟨hI.below, hI.i0, hI.iB, hI.rd, hle, fun id hid => ?_, fun id B hB => ?_, ?_, fun id B hB => ?_⟩, ?_⟩
  · have : π[id]? = none := List.getElem?_eq_none (by omega)
    simp [Mu.ren, this]
  · obtain ⟨i, b', e1, e2, e3⟩ := EntB_get h6 hB
    have hb := hI.live i b' e3
    have hmu : (μ.ren π) id = μ i := by simp [Mu.ren, e1]
    cases B with
    | cells cs fz =>
      simp only [renB] at e2
      split at e2 <;> try (cases e2; done)
      rename_i ds hds
      cases e2
      obtain ⟨L, vs, hM, hRL⟩ := hb
      exact ⟨L, vs, ⟨by rw [hmu]; exact hM.mu, hM.old, hM.row, hM.fits, hM.one, hM.fzT, hM.fzF⟩, mapO_ren (fun _ _ _ h hr => renV_rel h hr) hds hRL⟩
    | arr t xs fz =>
      cases e2
      rcases hb with ⟨e, hn⟩ | ⟨L, vs, hM, hc, hl⟩
      · exact .inl ⟨e, by rw [hmu]; exact hn⟩
      · exact .inr ⟨L, vs, ⟨by rw [hmu]; exact hM.mu, hM.old, hM.row, hM.fits, hM.one, hM.fzT, hM.fzF⟩, hc, hl⟩
    | loop => cases e2
    | dfr =>
      cases e2
      obtain ⟨L, q1, q2, q3⟩ := hb
      exact ⟨L, by rw [hmu]; exact q1, q2, q3⟩
  · intro id id' B B' L L' hb hb' hm hm' e
    obtain ⟨i, b, e1, _, e3⟩ := EntB_get h6 hb
    obtain ⟨i', b', e1', _, e3'⟩ := EntB_get h6 hb'
    have hmu : (μ.ren π) id = μ i := by simp [Mu.ren, e1]
    have hmu' : (μ.ren π) id' = μ i' := by simp [Mu.ren, e1']
    rw [hmu] at hm; rw [hmu'] at hm'
    have := hI.inj i i' b b' L L' e3 e3' hm hm' e
    subst this
    obtain ⟨hlt, q1⟩ := List.getElem?_eq_some_iff.1 e1
    obtain ⟨hlt', q2⟩ := List.getElem?_eq_some_iff.1 e1'
    exact (List.getElem_inj h2).1 (q1.trans q2.symm)
  · obtain ⟨i, b', e1, _, _⟩ := EntB_get h6 hB
    have := (List.getElem?_eq_some_iff.1 e1).1
    omega
  · have key : ∀ {ms ms' : List Nat} {ds : List Deferred}, ms'.map (fun i => π[i]?) = ms.map some → MarksR μ ms ds → MarksR (μ.ren π) ms' ds := by
      intro ms
      induction ms with
      | nil => intro ms' ds e hm; cases ms' <;> simp at e; exact hm
      | cons i ms ih =>
        intro ms' ds e hm
        cases ms' with
        | nil => simp at e
        | cons i' ms' =>
          simp only [List.map_cons, List.cons.injEq] at e
          obtain ⟨L, d, ds', q1, q2, q3, q4⟩ := hm
          exact ⟨L, d, ds', q1, by simp [Mu.ren, e.1, q2], q3, ih e.2 q4⟩
    exact key h4 hR.ms

/-- A loop, by what its head stands for at some x, the less the nearer to its end. -/
theorem loop_rule {α : Type} (hdraw : DrawOk P N out base) (I : α → St) (m : α → Nat) (π : α → List Nat) (x0 : α) {π0 : List Nat} {c : C} {S : St} {K : Ex → St → Prop} (hstart : Ent base π0 S (I x0))
    (hround : ∀ x, wpE (std P N out base) c (I x) fun e S' => match e with
      | .normal => ∃ y, m y < m x ∧ Ent base (π y) S' (I y)
      | .exit id => K (.exit id) S'
      | .ret => K .ret S') : (std P N out base).loop c S K := by
  intro body hbody Y ι μ a w ho hb hR
  refine wpIn_loop_ghost (fun x a w => ∃ ι μ, Rep P N Y ι μ (I x) a w) m (x := x0) ⟨ι, _, hstart.rep hb hR⟩ ?_
  rintro x a w ⟨ι, μ, hR⟩
  refine wpIn_mono (wpE_sound hdraw body hbody (hround x) Y ι μ a w ho hb hR) fun e a' w' hp => ?_
  obtain ⟨ι', μ', S', e', h1, h2, h3⟩ := hp
  cases e' with
  | normal =>
    cases h2
    obtain ⟨y, hlt, hent⟩ := h3
    exact ⟨y, ⟨ι', _, hent.rep hb h1⟩, hlt⟩
  | exit id => cases h2; exact ⟨ι', μ', S', .exit id, h1, rfl, h3⟩
  | ret => cases h2; exact ⟨ι', μ', S', .ret, h1, rfl, h3⟩

/-- A call whose arguments are data, by its contract. -/
theorem acall_data {f : Nat} {vs : List V} {r : V} (h : pcall P f vs r) (hd : vs.all (isData 8) = true) {K : V → Heap → Prop} (hK : K r H) : acall P f vs H K := by
  refine ⟨h.1, fun Y ι μ w as hI hr => ?_⟩
  have hr' : RelL ι (fun _ => none) vs as.toList := ⟨hr.1, fun i v x hv hx => isData_rel (List.all_eq_true.1 hd _ (List.mem_of_getElem? hv)) (hr.2 i v x hv hx)⟩
  refine (h.2 ι w as hI.rd hr').mono ?_
  rintro e w' ⟨v, ι', rfl, hi, hib, hrd, hbel, hrv⟩
  refine ⟨v, ι', μ, r, H, rfl, hi, Mu.le_refl _, ?_, hrv.mono (Iota.le_refl _) (fun _ _ h => by cases h), hK⟩
  have hsz := hI.below.size
  refine ⟨hI.below.then hbel, Iota.le_trans hI.i0 hi, fun b o hb hx => by rw [hib b o (by omega)]; exact hI.iB b o hb hx, hrd, hI.m0, hI.nx, fun id B hB => ?_, hI.inj, hI.lt⟩
  have hlive := hI.live id B hB
  refine hlive.mono hi (Mu.le_refl _) (fun h => h) (fun L hL => hbel.block _ (hlive.loc hL).2) (fun L hL ho o => ?_)
  rw [hib _ _ (hlive.loc hL).2]; exact ho o
end
end Go.AM
