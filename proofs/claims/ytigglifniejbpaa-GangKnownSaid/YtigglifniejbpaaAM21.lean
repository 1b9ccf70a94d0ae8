/- A drawn region's trace: its items in the canonical order, and each brought to the front where nothing forbids it. -/
import Derived.Test.YtigglifniejbpaaAM20
set_option linter.unusedVariables false
set_option linter.unusedSimpArgs false
namespace Go.AM

inductive Ac where
  | skip
  | op (v : V) (u : Upd)
  | call (v : V)

structure TR where
  k : Nat
  it : Itm
  ac : Ac
  rd : List Nat

def Ac.val : Ac → V
  | .skip => .tup []
  | .op v _ => v
  | .call v => v

def Ac.upd : Ac → Upd
  | .op _ u => u
  | _ => []

def TR.wr (t : TR) : List Nat := t.ac.upd.map (·.1)
def TR.dr (t : TR) : DR := ⟨t.k, t.rd, t.wr⟩

/-- The value that is put, perhaps a bool's that is now known. -/
def vOk (v0 v : V) : Prop := v = v0 ∨ ∃ c, v0 = .bool c ∧ v = .tf c

def En (ar : Ar) (b : Nat) (t : TR) (env : List (Nat × V)) (bl : Blks) : Prop :=
  match t.ac, t.it with
  | .skip, it => gOk it.grd env = some false ∧ t.rd = []
  | .op v u, .op _ g i => gOk g env = some true ∧ ∃ ob v0, evI ar i env bl (b + t.k) = some (ob, v0, u) ∧ AllT ob ∧ vOk v0 v ∧ rdOf i env = t.rd
  | .call v, .call _ g f a tys => gOk g env = some true ∧ ∃ fid fs cs vs' v0, f.ev env = .fn fid fs cs ∧ mapO (fin ar bl 8) (fs ++ normL tys (a.map (·.ev env)) ++ cs) = some vs' ∧ ar.pcall fid vs' v0 ∧
      (scal v0 || (fs ++ normL tys (a.map (·.ev env)) ++ cs).all (isData 8)) = true ∧ vOk v0 v ∧ idsOf bl (fs ++ normL tys (a.map (·.ev env)) ++ cs) = t.rd
  | _, _ => False

def TR.effE (t : TR) (env : List (Nat × V)) : List (Nat × V) := put t.it.dst t.ac.val env
def TR.effB (t : TR) (bl : Blks) : Blks := bupd t.ac.upd bl

def Runs (ar : Ar) (b : Nat) : List TR → List (Nat × V) → Blks → (List (Nat × V) → Blks → Prop) → Prop
  | [], env, bl, F => F env bl
  | t :: ts, env, bl, F => En ar b t env bl ∧ Runs ar b ts (t.effE env) (t.effB bl) F

def Closed (F : List (Nat × V) → Blks → Prop) : Prop := ∀ env env' bl bl', EqE env env' → EqB bl bl' → F env bl → F env' bl'

theorem EqE.symm {e e' : List (Nat × V)} (h : EqE e e') : EqE e' e := fun t => (h t).symm
theorem EqB.symm {b b' : Blks} (h : EqB b b') : EqB b' b := fun t => (h t).symm
theorem EqE.trans {e e' e'' : List (Nat × V)} (h : EqE e e') (h' : EqE e' e'') : EqE e e'' := fun t => (h t).trans (h' t)

theorem get_put {d : Option Nat} {v : V} {env : List (Nat × V)} (t : Nat) : get t (put d v env) = if d = some t then v else get t env := by
  cases d with
  | none => simp [put]
  | some s => simp only [put, get_setE, Option.some.injEq]

theorem EqE.put {d : Option Nat} {v : V} {e e' : List (Nat × V)} (h : EqE e e') : EqE (put d v e) (put d v e') := fun t => by rw [get_put, get_put, h t]

theorem bget_bupd_congr : ∀ {u : Upd} {b b' : Blks} {id : Nat}, bget id b = bget id b' → bget id (bupd u b) = bget id (bupd u b')
  | [], _, _, _, h => h
  | (s, none) :: r, b, b', id, h => bget_bupd_congr (u := r) (by rw [bget_bdel, bget_bdel, h])
  | (s, some B) :: r, b, b', id, h => bget_bupd_congr (u := r) (by rw [bget_cons, bget_cons, bget_bdel, bget_bdel, h])

theorem bget_bupd_not : ∀ {u : Upd} {b : Blks} {id : Nat}, id ∉ u.map (·.1) → bget id (bupd u b) = bget id b
  | [], _, _, _ => rfl
  | (s, none) :: r, b, id, h => by
    simp at h
    simp only [bupd]
    rw [bget_bupd_not (u := r) (by simpa using h.2), bget_bdel, if_neg h.1]
  | (s, some B) :: r, b, id, h => by
    simp at h
    simp only [bupd]
    rw [bget_bupd_not (u := r) (by simpa using h.2), bget_cons, if_neg (fun e => h.1 e.symm), bget_bdel, if_neg h.1]

/-- A block that is written: what it is afterwards does not depend on what was before. -/
theorem bget_bupd_mem : ∀ {u : Upd} {b b' : Blks} {id : Nat}, id ∈ u.map (·.1) → bget id (bupd u b) = bget id (bupd u b')
  | [], _, _, _, h => by simp at h
  | (s, o) :: r, b, b', id, h => by
    by_cases hr : id ∈ r.map (·.1)
    · cases o <;> exact bget_bupd_mem (u := r) hr
    · have e : id = s := by simp at h hr; rcases h with h | ⟨x, h⟩; exact h; exact absurd h (hr x)
      subst e
      cases o with
      | none => simp only [bupd]; rw [bget_bupd_not hr, bget_bupd_not hr, bget_bdel, bget_bdel]; simp
      | some B => simp only [bupd]; rw [bget_bupd_not hr, bget_bupd_not hr, bget_cons, bget_cons]; simp

theorem gOk_congr {g : Option (Nat × Bool)} {env env' : List (Nat × V)} (h : ∀ s b, g = some (s, b) → get s env = get s env') : gOk g env = gOk g env' := by
  cases g with
  | none => rfl
  | some p => obtain ⟨s, b⟩ := p; simp only [gOk, h s b rfl]

theorem uses_os {it : Itm} {env env' : List (Nat × V)} (h : ∀ t ∈ it.uses, get t env = get t env') : (∀ x ∈ it.os, x.ev env = x.ev env') ∧ gOk it.grd env = gOk it.grd env' := by
  refine ⟨fun x hx => slotO_ev fun t ht => h t ?_, gOk_congr fun s b e => h s ?_⟩
  · simp only [Itm.uses, List.mem_append, List.mem_flatMap]
    exact .inl ⟨x, hx, ht⟩
  · simp only [Itm.uses, e, List.mem_append]
    exact .inr (List.mem_singleton_self _)

theorem En_congr {ar : Ar} {b : Nat} {t : TR} {env env' : List (Nat × V)} {bl bl' : Blks} (he : ∀ s ∈ t.it.uses, get s env = get s env') (hb : ∀ id ∈ t.rd, bget id bl = bget id bl') (h : En ar b t env bl) : En ar b t env' bl' := by
  obtain ⟨k, it, ac, rd⟩ := t
  obtain ⟨h1, h2⟩ := uses_os he
  unfold En at h ⊢
  cases ac with
  | skip => exact ⟨by rw [← h2]; exact h.1, h.2⟩
  | op v u =>
    cases it with
    | call => exact h.elim
    | op d g i =>
      simp only [Itm.grd] at h2
      obtain ⟨hg, ob, v0, hev, hob, hv, hr⟩ := h
      have := evI_congr (ar := ar) (i := i) (nid := b + k) (fun x hx => h1 x hx) (fun id hid => hb id (by rw [hr] at hid; exact hid))
      exact ⟨by rw [← h2]; exact hg, ob, v0, by rw [← this.1]; exact hev, hob, hv, by rw [← this.2]; exact hr⟩
  | call v =>
    cases it with
    | op => exact h.elim
    | call d g f a tys =>
      simp only [Itm.grd] at h2
      obtain ⟨hg, fid, fs, cs, vs', v0, hf, hm, hp, hs, hv, hr⟩ := h
      have ha : a.map (·.ev env) = a.map (·.ev env') := map_congr_ev fun x hx => h1 x (by simp [Itm.os, hx])
      have hfe := h1 f (by simp [Itm.os])
      simp only [ha] at hm hs hr
      obtain ⟨q1, q2⟩ := mapO_fids (ar := ar) (bl := bl) (bl' := bl') (n := 8) (fun v h => fin_congr h) (vs := fs ++ normL tys (a.map (·.ev env')) ++ cs) (fun id hid => hb id (by rw [← hr]; exact hid))
      exact ⟨by rw [← h2]; exact hg, fid, fs, cs, vs', v0, by rw [← hfe]; exact hf, by rw [← q1]; exact hm, hp, hs, hv, by rw [← hr]; exact q2.symm⟩

theorem Runs_congr {ar : Ar} {b : Nat} {F : List (Nat × V) → Blks → Prop} (hF : Closed F) : ∀ {ts : List TR} {env env' : List (Nat × V)} {bl bl' : Blks}, EqE env env' → EqB bl bl' → Runs ar b ts env bl F → Runs ar b ts env' bl' F
  | [], _, _, _, _, he, hb, h => hF _ _ _ _ he hb h
  | t :: ts, _, _, _, _, he, hb, h => ⟨En_congr (fun s _ => he s) (fun id _ => hb id) h.1, Runs_congr hF (EqE.put he) (fun id => bget_bupd_congr (hb id)) h.2⟩

structure Apart (a b : TR) : Prop where
  slots : slotsApart a.it b.it = true
  wr : ∀ id ∈ a.wr, id ∉ b.rd ∧ id ∉ b.wr
  rw : ∀ id ∈ b.wr, id ∉ a.rd

theorem notIn'_get {d : Option Nat} {l : List Nat} {v : V} {env : List (Nat × V)} (h : notIn' d l = true) : ∀ t ∈ l, get t (put d v env) = get t env := fun t ht => by
  rw [get_put, if_neg]
  rintro rfl
  simp [notIn'] at h
  exact h ht

theorem pull {ar : Ar} {b : Nat} {F : List (Nat × V) → Blks → Prop} (hF : Closed F) {t : TR} {L2 : List TR} : ∀ {L1 : List TR} {env : List (Nat × V)} {bl : Blks}, (∀ a ∈ L1, Apart a t) → Runs ar b (L1 ++ t :: L2) env bl F →
    En ar b t env bl ∧ Runs ar b (L1 ++ L2) (t.effE env) (t.effB bl) F
  | [], _, _, _, h => h
  | a :: L1, env, bl, hA, h => by
    obtain ⟨h1, h2⟩ := h
    obtain ⟨h3, h4⟩ := pull hF (fun x hx => hA x (List.mem_cons_of_mem _ hx)) h2
    have hap := hA a (List.mem_cons_self ..)
    have hs := hap.slots
    simp only [slotsApart, Bool.and_eq_true] at hs
    obtain ⟨⟨s1, s2⟩, s3⟩ := hs
    refine ⟨En_congr (fun s hs => notIn'_get s1 s hs) (fun id hid => bget_bupd_not fun hw => (hap.wr id hw).1 hid) h3, ?_, ?_⟩
    · exact En_congr (fun s hs => (notIn'_get s2 s hs).symm) (fun id hid => (bget_bupd_not fun hw => hap.rw id hw hid).symm) h1
    · refine Runs_congr hF (fun s => ?_) (fun id => ?_) h4
      · simp only [TR.effE, get_put]
        by_cases q1 : t.it.dst = some s
        · by_cases q2 : a.it.dst = some s
          · rw [q2] at s3; simp [q1] at s3
          · simp [q1, q2]
        · simp [q1]
      · simp only [TR.effB]
        by_cases q1 : id ∈ t.ac.upd.map (·.1)
        · have q2 : id ∉ a.ac.upd.map (·.1) := fun hw => (hap.wr id hw).2 q1
          rw [bget_bupd_mem (b' := bl) q1, bget_bupd_not q2]
        · rw [bget_bupd_not q1]
          exact bget_bupd_congr (bget_bupd_not q1).symm

/-! The trace of a canonical run. -/

def recOf (t : TR) : Option DR := match t.rd, t.wr with
  | [], [] => none
  | _, _ => some t.dr

theorem addR_eq (k : Nat) (it : Itm) (ac : Ac) (rd : List Nat) (recs : List DR) : addR k rd (ac.upd.map (·.1)) recs = recs ++ ([(⟨k, it, ac, rd⟩ : TR)].filterMap recOf) := by
  cases rd with
  | cons x r => rfl
  | nil =>
    cases hu : ac.upd.map (·.1) with
    | nil => simp [addR, recOf, TR.wr, hu]
    | cons x r => simp [addR, recOf, TR.wr, TR.dr, hu]

theorem putG_val {gs : List Nat} {d : Option Nat} {v : V} {env : List (Nat × V)} {K : List (Nat × V) → Prop} (h : putG gs d v env K) : ∃ v', vOk v v' ∧ K (put d v' env) := by
  unfold putG at h
  cases d with
  | none => exact ⟨v, .inl rfl, h⟩
  | some t =>
    simp only at h
    split at h
    · exact ⟨v, .inl rfl, h⟩
    · split at h
      · rename_i c
        cases c with
        | true => exact ⟨.tf true, .inr ⟨_, rfl, rfl⟩, h.1 rfl⟩
        | false => exact ⟨.tf false, .inr ⟨_, rfl, rfl⟩, h.2 rfl⟩
      · exact ⟨v, .inl rfl, h⟩

theorem trace_of {ar : Ar} {gs : List Nat} {b : Nat} : ∀ {is : List Itm} {k : Nat} {env : List (Nat × V)} {bl : Blks} {recs : List DR} {K : List (Nat × V) → Blks → List DR → Prop}, wpDr ar gs b is k env bl recs K →
    ∃ ts : List TR, ts.map (·.it) = is ∧ ts.map (·.k) = List.range' k is.length ∧ Runs ar b ts env bl fun env' bl' => K env' bl' (recs ++ ts.filterMap recOf)
  | [], k, env, bl, recs, K, h => ⟨[], rfl, rfl, by simpa [Runs, wpDr] using h⟩
  | .op d g i :: r, k, env, bl, recs, K, h => by
    simp only [wpDr] at h
    split at h
    · rename_i hg
      split at h
      · rename_i ob v u hev
        obtain ⟨hob, h⟩ := h
        obtain ⟨v', hv', h⟩ := putG_val h
        obtain ⟨ts, h1, h2, h3⟩ := trace_of h
        refine ⟨⟨k, .op d g i, .op v' u, rdOf i env⟩ :: ts, by simp [h1], by simp [h2, List.range'_succ], ⟨hg, ob, v, hev, AllB_iff hob, hv', rfl⟩, ?_⟩
        rw [show u.map (·.1) = (Ac.op v' u).upd.map (·.1) from rfl, addR_eq k (.op d g i) (.op v' u)] at h3
        rw [← List.singleton_append, List.filterMap_append, ← List.append_assoc]
        exact h3
      · exact h.elim
    · rename_i hg
      obtain ⟨ts, h1, h2, h3⟩ := trace_of h
      exact ⟨⟨k, .op d g i, .skip, []⟩ :: ts, by simp [h1], by simp [h2, List.range'_succ], ⟨hg, rfl⟩, h3⟩
    · exact h.elim
  | .call d g f a tys :: r, k, env, bl, recs, K, h => by
    simp only [wpDr] at h
    split at h
    · rename_i hg
      split at h
      · rename_i f' fs cs hf
        split at h
        · rename_i vs' hm
          obtain ⟨x, hp, hs, h⟩ := h
          obtain ⟨v', hv', h⟩ := putG_val h
          obtain ⟨ts, h1, h2, h3⟩ := trace_of h
          refine ⟨⟨k, .call d g f a tys, .call v', idsOf bl (fs ++ normL tys (a.map (·.ev env)) ++ cs)⟩ :: ts, by simp [h1], by simp [h2, List.range'_succ], ⟨hg, f', fs, cs, vs', x, hf, hm, hp, hs, hv', rfl⟩, ?_⟩
          rw [show ([] : List Nat) = (Ac.call v').upd.map (·.1) from rfl, addR_eq k (.call d g f a tys) (.call v')] at h3
          rw [← List.singleton_append, List.filterMap_append, ← List.append_assoc]
          exact h3
        · exact h.elim
      · exact h.elim
    · rename_i hg
      obtain ⟨ts, h1, h2, h3⟩ := trace_of h
      exact ⟨⟨k, .call d g f a tys, .skip, []⟩ :: ts, by simp [h1], by simp [h2, List.range'_succ], ⟨hg, rfl⟩, h3⟩
    · exact h.elim

theorem memN_iff {x : Nat} : ∀ {l : List Nat}, memN x l = true ↔ x ∈ l
  | [] => by simp [memN]
  | y :: r => by
    have ih := memN_iff (x := x) (l := r)
    simp only [memN, List.mem_cons]
    split
    · rename_i h; have := Nat.eq_of_beq_eq_true h; simp [this]
    · rename_i h; have : x ≠ y := fun e => by subst e; rw [Nat.beq_refl] at h; cases h
      rw [ih]; simp [this]

theorem disjN_iff {l' : List Nat} : ∀ {l : List Nat}, disjN l l' = true → ∀ x ∈ l, x ∉ l'
  | [], _ => by simp
  | y :: r, h => by
    simp only [disjN] at h
    split at h
    · cases h
    · rename_i hm
      intro x hx
      rcases List.mem_cons.1 hx with rfl | hx
      · intro hx'; rw [memN_iff.2 hx'] at hm; cases hm
      · exact disjN_iff h x hx

/-- What is known of two items in the canonical order: bound to it, or apart in memory. -/
def DrP (preds : List (List Nat)) (a b : TR) : Prop := a.k ∈ preds.getD b.k [] ∨ ((∀ id ∈ a.wr, id ∉ b.rd ∧ id ∉ b.wr) ∧ ∀ id ∈ b.wr, id ∉ a.rd)

theorem drPair_P {preds : List (List Nat)} {a b : TR} (h : drPair preds a.dr b.dr = true) : DrP preds a b := by
  unfold drPair at h
  split at h
  · rename_i hm; exact .inl (memN_iff.1 hm)
  · split at h <;> try (cases h; done)
    rename_i h1
    split at h <;> try (cases h; done)
    rename_i h2
    exact .inr ⟨fun id hid => ⟨disjN_iff h1 id hid, disjN_iff h2 id hid⟩, fun id hid hr => disjN_iff h id hr hid⟩

theorem drOne_all {preds : List (List Nat)} {a : DR} : ∀ {l : List DR}, drOne preds a l = true → ∀ b ∈ l, drPair preds a b = true
  | [], _ => by simp
  | c :: r, h => by
    simp only [drOne] at h
    split at h
    · rename_i hc
      intro b hb
      rcases List.mem_cons.1 hb with rfl | hb
      · exact hc
      · exact drOne_all h b hb
    · cases h

theorem recOf_cases (t : TR) : (t.rd = [] ∧ t.wr = [] ∧ recOf t = none) ∨ recOf t = some t.dr := by
  unfold recOf
  split
  · rename_i h1 h2; exact .inl ⟨h1, h2, rfl⟩
  · exact .inr rfl

theorem drOk_pairs {preds : List (List Nat)} : ∀ {ts : List TR}, drOk preds (ts.filterMap recOf) = true → ts.Pairwise (DrP preds)
  | [], _ => .nil
  | t :: ts, h => by
    rcases recOf_cases t with ⟨h1, h2, h3⟩ | h3
    · simp only [List.filterMap_cons, h3] at h
      exact .cons (fun b _ => .inr ⟨fun id hid => by rw [h2] at hid; simp at hid, fun id _ => by rw [h1]; simp⟩) (drOk_pairs h)
    · simp only [List.filterMap_cons, h3, drOk] at h
      split at h <;> try (cases h; done)
      rename_i ho
      refine .cons (fun b hb => ?_) (drOk_pairs h)
      rcases recOf_cases b with ⟨q1, q2, _⟩ | q3
      · exact .inr ⟨fun id _ => by rw [q1, q2]; simp, fun id hid => by rw [q2] at hid; simp at hid⟩
      · exact drPair_P (drOne_all ho _ (List.mem_filterMap.2 ⟨b, hb, q3⟩))
end Go.AM
