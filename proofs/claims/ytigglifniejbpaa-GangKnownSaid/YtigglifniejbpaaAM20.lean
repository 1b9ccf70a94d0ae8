/- A region whose order is drawn: what an item does depends on little, and items that have nothing to do with each other change places. -/
import Derived.Test.YtigglifniejbpaaAM19
set_option linter.unusedVariables false
set_option linter.unusedSimpArgs false
namespace Go.AM

def EqE (e e' : List (Nat × V)) : Prop := ∀ t, get t e = get t e'
def EqB (b b' : Blks) : Prop := ∀ id, bget id b = bget id b'

theorem slotO_ev {x : O} {env env' : List (Nat × V)} (h : ∀ t ∈ slotO x, get t env = get t env') : x.ev env = x.ev env' := by
  cases x with
  | t n => exact h n (by simp [slotO])
  | c v => rfl

section
variable {ar : Ar} {bl bl' : Blks}

theorem ofVs_congr : ∀ {t : Ty} {vs : List V}, (∀ v ∈ vs, ∀ id ∈ vid v, bget id bl = bget id bl') → ofVs ar bl t vs = ofVs ar bl' t vs ∧ ∀ x u r, ofVs ar bl t vs = some (x, u, r) → ∀ v ∈ r, v ∈ vs
  | .unit, vs, h => ⟨by simp [ofVs], fun x u r e v hv => by simp [ofVs] at e; obtain ⟨_, _, rfl⟩ := e; exact hv⟩
  | .prod a b, vs, h => by
    obtain ⟨h1, h2⟩ := ofVs_congr (t := a) h
    constructor
    · simp only [ofVs]
      rw [← h1]
      split
      · rename_i x u r hr
        obtain ⟨h3, _⟩ := ofVs_congr (t := b) (vs := r) (fun v hv => h v (h2 _ _ _ hr v hv))
        rw [h3]
      · rfl
    · intro x u r e v hv
      simp only [ofVs] at e
      split at e <;> try (cases e; done)
      rename_i x' u' r' hr
      split at e <;> try (cases e; done)
      rename_i y u'' r'' hr'
      cases e
      obtain ⟨_, h4⟩ := ofVs_congr (t := b) (vs := r') (fun v hv => h v (h2 _ _ _ hr v hv))
      exact h2 _ _ _ hr v (h4 _ _ _ hr' v hv)
  | .bool, [], h => ⟨rfl, fun x u r e => by cases e⟩
  | .str, [], h => ⟨rfl, fun x u r e => by cases e⟩
  | .int _, [], h => ⟨rfl, fun x u r e => by cases e⟩
  | .list _, [], h => ⟨rfl, fun x u r e => by cases e⟩
  | .bool, c :: cs, h => by
    cases c <;> (refine ⟨rfl, fun x u r e => ?_⟩; first | (cases e; done) | (cases e; exact fun v hv => List.mem_cons_of_mem _ hv))
  | .str, c :: cs, h => by
    cases c <;> (refine ⟨rfl, fun x u r e => ?_⟩; first | (cases e; done) | (cases e; exact fun v hv => List.mem_cons_of_mem _ hv))
  | .int k, c :: cs, h => by
    cases c <;> (refine ⟨rfl, fun x u r e => ?_⟩; first | (cases e; done) | (simp only [ofVs] at e; split at e <;> first | (cases e; done) | (cases e; exact fun v hv => List.mem_cons_of_mem _ hv)))
  | .list t, c :: cs, h => by
    cases c
    case sl id t' lo n =>
      have hb := h _ (List.mem_cons_self ..) id (by simp [vid])
      refine ⟨by simp only [ofVs, hb], fun x u r e => ?_⟩
      simp only [ofVs] at e
      repeat' split at e
      all_goals first | (cases e; done) | (cases e; exact fun v hv => List.mem_cons_of_mem _ hv)
    all_goals
      refine ⟨rfl, fun x u r e => ?_⟩
      first
        | (cases e; done)
        | (simp only [ofVs] at e; repeat' split at e
           all_goals first | (cases e; done) | (cases e; exact fun v hv => List.mem_cons_of_mem _ hv))

theorem cells_vids {v : V} {cs : List V} (h : v.cells? = some cs) : ∀ c ∈ cs, ∀ id ∈ vid c, id ∈ vids v := by
  intro c hc id hid
  cases v <;> simp only [V.cells?] at h <;> cases h
  case agg => simp only [vids, List.mem_flatMap]; exact ⟨c, hc, hid⟩
  all_goals (simp at hc; subst hc; exact hid)

theorem ofVl_congr {t : Ty} : ∀ {vs : List V}, (∀ id ∈ vs.flatMap vids, bget id bl = bget id bl') → ofVl ar bl t vs = ofVl ar bl' t vs
  | [], _ => rfl
  | v :: r, h => by
    have ih := ofVl_congr (t := t) (vs := r) (fun id hid => h id (by simp only [List.flatMap_cons, List.mem_append]; exact .inr hid))
    simp only [ofVl]
    cases hc : v.cells? with
    | none => rfl
    | some cs =>
      have := (ofVs_congr (ar := ar) (t := t) (vs := cs) (fun c hc' id hid => h id (by simp only [List.flatMap_cons, List.mem_append]; exact .inl (cells_vids hc c hc' id hid)))).1
      simp only [this, ih]

theorem setP_congr : ∀ {t : Ty} {x : t.den} {p : List Bool} {vs : List V}, (∀ v ∈ vs, ∀ id ∈ vid v, bget id bl = bget id bl') → setP ar bl t x p vs = setP ar bl' t x p vs
  | t, x, [], vs, h => by
    have := (ofVs_congr (ar := ar) (t := t) h).1
    cases t <;> simp only [setP, this]
  | .prod a b, x, false :: p, vs, h => by simp only [setP, setP_congr (t := a) h]
  | .prod a b, x, true :: p, vs, h => by simp only [setP, setP_congr (t := b) h]
  | .unit, _, _ :: _, _, h => by simp [setP]
  | .bool, _, _ :: _, _, h => by simp [setP]
  | .str, _, _ :: _, _, h => by simp [setP]
  | .int _, _, _ :: _, _, h => by simp [setP]
  | .list _, _, _ :: _, _, h => by simp [setP]

theorem elems_congr {t : Ty} {v : V} (h : ∀ id ∈ vid v, bget id bl = bget id bl') : elems ar bl t v = elems ar bl' t v := by
  cases v <;> try rfl
  rename_i id t' lo n
  simp only [elems, h id (by simp [vid])]

theorem fillV_congr {env env' : List (Nat × V)} : ∀ {ps : List (Nat × Nat × O)} {cs : List V}, (∀ x ∈ ps.map (·.2.2), x.ev env = x.ev env') → fillV ps env cs = fillV ps env' cs
  | [], _, _ => rfl
  | (off, k, x) :: r, cs, h => by
    simp only [fillV, h x (by simp)]
    cases (x.ev env').cells? with
    | none => rfl
    | some vs =>
      simp only
      split
      · cases setCs off vs cs with
        | none => rfl
        | some cs' => exact fillV_congr (fun y hy => h y (by simp at hy ⊢; exact .inr hy))
      · rfl

theorem map_congr_ev {env env' : List (Nat × V)} {xs : List O} (h : ∀ x ∈ xs, x.ev env = x.ev env') : xs.map (·.ev env) = xs.map (·.ev env') := List.map_congr_left h

theorem optInt_congr {env env' : List (Nat × V)} {d : Int} {x : Option O} (h : ∀ y, x = some y → y.ev env = y.ev env') : optInt env d x = optInt env' d x := by
  cases x with
  | none => rfl
  | some y => simp only [optInt, h y rfl]

/-- An operation depends on its operands and on the blocks that it reads. -/
theorem evI_congr {i : I} {env env' : List (Nat × V)} {nid : Nat} (he : ∀ x ∈ i.os, x.ev env = x.ev env') (hb : ∀ id ∈ rdOf i env, bget id bl = bget id bl') :
    evI ar i env bl nid = evI ar i env' bl' nid ∧ rdOf i env = rdOf i env' := by
  cases i
  case load g k x =>
    have hx := he x (by simp [I.os])
    simp only [rdOf, hx] at hb ⊢
    refine ⟨?_, trivial⟩
    simp only [evI, hx]
    generalize x.ev env' = v at hb ⊢
    cases v <;> try rfl
    all_goals (rename_i id _; simp only [hb _ (by simp only [vid]; exact List.mem_singleton_self _)])
  case store k a x =>
    have ha := he a (by simp [I.os])
    have hx := he x (by simp [I.os])
    simp only [rdOf, hx, ha, List.mem_append] at hb ⊢
    refine ⟨?_, trivial⟩
    simp only [evI, hx, ha]
    generalize a.ev env' = v at hb ⊢
    generalize x.ev env' = y at hb ⊢
    cases hc : y.cells? with
    | none => rfl
    | some vs =>
      have hsp : ∀ (t : Ty) (z : t.den) p, setP ar bl t z p vs = setP ar bl' t z p vs := fun t z p => setP_congr (fun v hv id hid => hb id (.inr (cells_vids hc v hv id hid)))
      cases v <;> try rfl
      case ptr id o => simp only [hb id (.inl (by simp [vid]))]
      case ep id t i p => simp only [hb id (.inl (by simp [vid])), hsp]
  case bslice t xs =>
    have hx := map_congr_ev (xs := xs) (fun x hx => he x (by simpa [I.os] using hx))
    simp only [rdOf, hx] at hb ⊢
    exact ⟨by simp only [evI, hx, ofVl_congr hb], trivial⟩
  case append esz x y =>
    have hx := he x (by simp [I.os])
    have hy := he y (by simp [I.os])
    simp only [rdOf, hx, hy, List.mem_append] at hb ⊢
    refine ⟨?_, trivial⟩
    simp only [evI, hx, hy]
    generalize x.ev env' = v at hb ⊢
    generalize y.ev env' = z at hb ⊢
    have hel : ∀ t, elems ar bl t z = elems ar bl' t z := fun t => elems_congr (fun id hid => hb id (.inr hid))
    cases v <;> try rfl
    case nsl => simp only [hel]
    case sl id t lo n => simp only [hel, hb id (.inl (by simp [vid]))]
  case build z ps =>
    exact ⟨by simp only [evI, fillV_congr (ps := ps) (fun x hx => he x (by simpa [I.os] using hx))], rfl⟩
  case mkfn f a b =>
    exact ⟨by simp only [evI, map_congr_ev (xs := a) (fun x hx => he x (by simp [I.os, hx])), map_congr_ev (xs := b) (fun x hx => he x (by simp [I.os, hx]))], rfl⟩
  case minmax mx x ys =>
    exact ⟨by simp only [evI, he x (by simp [I.os]), map_congr_ev (xs := ys) (fun y hy => he y (by simp [I.os, hy]))], rfl⟩
  case slice esz x lo hi mx =>
    refine ⟨?_, rfl⟩
    have hx := he x (by simp [I.os])
    have h1 : ∀ d, optInt env d lo = optInt env' d lo := fun d => optInt_congr fun y hy => he y (by simp [I.os, hy])
    have h2 : ∀ d, optInt env d hi = optInt env' d hi := fun d => optInt_congr fun y hy => he y (by simp [I.os, hy])
    cases mx with
    | none => simp only [evI, hx, h1, h2]
    | some m =>
      have hm := he m (by simp [I.os])
      cases hi with
      | none => simp only [evI]
      | some h => simp only [evI, hx, h1, hm, he h (by simp [I.os])]
  case bin op x y => exact ⟨by simp only [evI, he x (by simp [I.os]), he y (by simp [I.os])], rfl⟩
  case eqb n x y => exact ⟨by simp only [evI, he x (by simp [I.os]), he y (by simp [I.os])], rfl⟩
  case eqs n ks x y => exact ⟨by simp only [evI, he x (by simp [I.os]), he y (by simp [I.os])], rfl⟩
  case idx esz x y => exact ⟨by simp only [evI, he x (by simp [I.os]), he y (by simp [I.os])], rfl⟩
  case idxA n esz x y => exact ⟨by simp only [evI, he x (by simp [I.os]), he y (by simp [I.os])], rfl⟩
  case pick c x y => exact ⟨by simp only [evI, he x (by simp [I.os]), he y (by simp [I.os]), he c (by simp [I.os])], rfl⟩
  case alloc => exact ⟨rfl, rfl⟩
  case lenA => exact ⟨rfl, rfl⟩
  case mv x => exact ⟨by simp only [evI, he x (by simp [I.os])], rfl⟩
  case box x => exact ⟨by simp only [evI, he x (by simp [I.os])], rfl⟩
  case neg x => exact ⟨by simp only [evI, he x (by simp [I.os])], rfl⟩
  case not x => exact ⟨by simp only [evI, he x (by simp [I.os])], rfl⟩
  case conv k x => exact ⟨by simp only [evI, he x (by simp [I.os])], rfl⟩
  case fld a b x => exact ⟨by simp only [evI, he x (by simp [I.os])], rfl⟩
  case field a b c x => exact ⟨by simp only [evI, he x (by simp [I.os])], rfl⟩
  case ext k x => exact ⟨by simp only [evI, he x (by simp [I.os])], rfl⟩
  case len x => exact ⟨by simp only [evI, he x (by simp [I.os])], rfl⟩
  case lens x => exact ⟨by simp only [evI, he x (by simp [I.os])], rfl⟩
  case mkslice t n => exact ⟨by simp only [evI, he n (by simp [I.os])], rfl⟩

theorem mapO_fids {n : Nat} (hg : ∀ v, (∀ id ∈ fids bl n v, bget id bl = bget id bl') → fin ar bl n v = fin ar bl' n v ∧ fids bl n v = fids bl' n v) :
    ∀ {vs : List V}, (∀ id ∈ vs.flatMap (fids bl n), bget id bl = bget id bl') → mapO (fin ar bl n) vs = mapO (fin ar bl' n) vs ∧ vs.flatMap (fids bl n) = vs.flatMap (fids bl' n)
  | [], _ => ⟨rfl, rfl⟩
  | v :: r, h => by
    simp only [List.flatMap_cons, List.mem_append] at h
    obtain ⟨h1, h2⟩ := hg v (fun id hid => h id (.inl hid))
    obtain ⟨h3, h4⟩ := mapO_fids hg (vs := r) (fun id hid => h id (.inr hid))
    exact ⟨by simp only [mapO, h1, h3], by simp only [List.flatMap_cons, h2, h4]⟩

theorem fin_congr : ∀ {n : Nat} {v : V}, (∀ id ∈ fids bl n v, bget id bl = bget id bl') → fin ar bl n v = fin ar bl' n v ∧ fids bl n v = fids bl' n v
  | 0, v, _ => ⟨rfl, rfl⟩
  | n + 1, v, h => by
    have ih := fun vs h => mapO_fids (ar := ar) (bl := bl) (bl' := bl') (n := n) (fun v h => fin_congr h) (vs := vs) h
    cases v <;> simp only [fids] at h <;> try (exact ⟨rfl, rfl⟩)
    case sl id t lo m => exact ⟨by simp only [fin, h id (by simp)], rfl⟩
    case ptr id off =>
      have hb := h id (by simp)
      simp only [fin, fids, ← hb]
      cases hq : bget id bl with
      | none => exact ⟨rfl, rfl⟩
      | some B =>
        rw [hq] at h
        cases B <;> try (exact ⟨rfl, rfl⟩; done)
        rename_i cs fz
        obtain ⟨h1, h2⟩ := ih cs (fun id hid => h id (List.mem_cons_of_mem _ hid))
        exact ⟨by simp only [h1], by simp only [h2]⟩
    case fn f a b =>
      simp only [List.mem_append] at h
      obtain ⟨h1, h2⟩ := ih a (fun id hid => h id (.inl hid))
      obtain ⟨h3, h4⟩ := ih b (fun id hid => h id (.inr hid))
      exact ⟨by simp only [fin, h1, h3], by simp only [fids, h2, h4]⟩
    case agg cs =>
      obtain ⟨h1, h2⟩ := ih cs h
      exact ⟨by simp only [fin, h1], by simp only [fids, h2]⟩
    case tup cs =>
      obtain ⟨h1, h2⟩ := ih cs h
      exact ⟨by simp only [fin, h1], by simp only [fids, h2]⟩
    case ifc t v =>
      obtain ⟨h1, h2⟩ := fin_congr (n := n) (v := v) h
      exact ⟨by simp only [fin, h1], by simp only [fids, h2]⟩
end
end Go.AM
