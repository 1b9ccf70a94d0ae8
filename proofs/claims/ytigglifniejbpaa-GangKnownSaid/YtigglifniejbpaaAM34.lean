/- Calls that are lent blocks of the caller's heap: the rest stays as it is. -/
import Derived.Test.YtigglifniejbpaaAM33
set_option linter.unusedVariables false
set_option linter.unusedSimpArgs false
namespace Go.AM

theorem renV_fwd {σ : List Nat} {ι : Iota} {μ μ' : Mu} (hσ : ∀ j i L, σ[j]? = some i → μ j = some L → μ' i = some L) : ∀ {n : Nat} {v u : V} {x : Value}, renV σ n v = some u → Rel ι μ v x → Rel ι μ' u x
  | 0, v, u, x, h, _ => by cases h
  | n + 1, v, u, x, h, hr => by
    have g : ∀ v u x, renV σ n v = some u → Rel ι μ v x → Rel ι μ' u x := fun v u x h hr => renV_fwd hσ h hr
    have lift : ∀ {cs ds : List V} {xs : Array Value}, mapO (renV σ n) cs = some ds → cs.length = xs.size → (∀ (i : Nat) v x, cs[i]? = some v → xs[i]? = some x → Rel ι μ v x) → RelL ι μ' ds xs.toList :=
      fun hm h1 h2 => mapO_rel g hm ⟨by simpa using h1, fun i v x hv hx => h2 i v x hv (by simpa using hx)⟩
    cases hr <;> simp only [renV] at h
    case any => cases h; exact .any _
    case tf => cases h; exact .tf _
    case bool => cases h; exact .bool _
    case int => cases h; exact .int _ _
    case str => cases h; exact .str _
    case nilp => cases h; exact .nilp
    case nilfn => cases h; exact .nilfn
    case nili => cases h; exact .nili
    case lst t xs hd => cases h; exact .lst t xs _ hd
    case nsl => cases h; exact .nsl _
    case sl id t lo m cap L hL h1 h2 h3 =>
      split at h <;> try (cases h; done)
      rename_i i hi; cases h
      exact .sl i t lo m cap L (hσ _ _ _ hi hL) h1 h2 h3
    case sl0 id t lo a =>
      split at h <;> try (cases h; done)
      cases h; exact .sl0 _ _ _ _
    case ptr id off L hL =>
      split at h <;> try (cases h; done)
      rename_i i hi; cases h
      exact .ptr i off L (hσ _ _ _ hi hL)
    case ep id t j p L hL =>
      split at h <;> try (cases h; done)
      rename_i i hi; cases h
      exact .ep i t j p L (hσ _ _ _ hi hL)
    case yl id L hL =>
      split at h <;> try (cases h; done)
      rename_i i hi; cases h
      exact .yl i L (hσ _ _ _ hi hL)
    case ipc cs b o gf h1 h2 h3 =>
      split at h <;> try (cases h; done)
      rename_i ds hds; cases h
      have hR : RelL ι μ cs ((List.range cs.length).map gf) := ⟨by simp, fun i v x hv hx => by
        have hi := (List.getElem?_eq_some_iff.1 hv).1
        simp [hi] at hx; subst hx; exact h2 i v hv⟩
      have hR' := mapO_rel g hds hR
      have hl : ds.length = cs.length := by have := hR'.1; simpa using this
      exact .ipc ds b o gf (fun i hi => h1 i (by omega)) (fun i v hv => hR'.2 i v (gf i) hv (by
        have hi := (List.getElem?_eq_some_iff.1 hv).1
        simp [show i < cs.length by omega])) h3
    case ip t y b o us h1 h2 => cases h; exact .ip t y b o us h1 h2
    case fn f fs cs xs ys h1 h2 h3 h4 =>
      split at h <;> try (cases h; done)
      rename_i as ha
      split at h <;> try (cases h; done)
      rename_i bs hb; cases h
      have r1 := lift ha h1 h2
      have r2 := lift hb h3 h4
      exact .fn f as bs xs ys (by simpa using r1.1) (fun i v x hv hx => r1.2 i v x hv (by simpa using hx)) (by simpa using r2.1) (fun i v x hv hx => r2.2 i v x hv (by simpa using hx))
    case agg cs xs h1 h2 h3 =>
      split at h <;> try (cases h; done)
      rename_i ds hds; cases h
      have r1 := lift hds h1 h2
      exact .agg ds xs (by simpa using r1.1) (fun i v x hv hx => r1.2 i v x hv (by simpa using hx)) h3
    case tup cs xs h1 h2 =>
      split at h <;> try (cases h; done)
      rename_i ds hds; cases h
      have r1 := lift hds h1 h2
      exact .tup ds xs (by simpa using r1.1) (fun i v x hv hx => r1.2 i v x hv (by simpa using hx))
    case ifc t v x hv =>
      split at h <;> try (cases h; done)
      rename_i u' hu; cases h
      exact .ifc t u' x (g _ _ _ hu hv)

/-- Blocks under other names. -/
def renBl (σ : List Nat) : Blks → Option Blks
  | [] => some []
  | (j, b) :: r => match pget σ j with
    | some i => match renB σ b with
      | some b' => match renBl σ r with
        | some r' => some ((i, b') :: r')
        | none => none
      | none => none
    | none => none

theorem renBl_get {σ : List Nat} (hinj : ∀ (a b i : Nat), σ[a]? = some i → σ[b]? = some i → a = b) : ∀ {bl bl' : Blks}, renBl σ bl = some bl' → ∀ {i : Nat} {B : Blk}, bget i bl' = some B → ∃ j B0, σ[j]? = some i ∧ bget j bl = some B0 ∧ renB σ B0 = some B
  | [], bl', h, i, B, hb => by cases h; simp [bget] at hb
  | (j, b) :: r, bl', h, i, B, hb => by
    simp only [renBl] at h
    split at h <;> try (cases h; done)
    rename_i i' hi
    split at h <;> try (cases h; done)
    rename_i b' hb'
    split at h <;> cases h
    rename_i r' hr
    rw [pget_eq] at hi
    rw [bget_cons] at hb
    split at hb
    · rename_i e; subst e; cases hb
      exact ⟨j, b, hi, by rw [bget_cons, if_pos rfl], hb'⟩
    · rename_i hne
      obtain ⟨j2, B0, h1, h2, h3⟩ := renBl_get hinj hr hb
      refine ⟨j2, B0, h1, ?_, h3⟩
      rw [bget_cons, if_neg]
      · exact h2
      · intro e; subst e; rw [hi] at h1; cases h1; exact hne rfl

def bdelL : List Nat → Blks → Blks
  | [], bl => bl
  | i :: r, bl => bdelL r (bdel i bl)

theorem bget_bdelL : ∀ {l : List Nat} {bl : Blks} {id : Nat}, bget id (bdelL l bl) = if id ∈ l then none else bget id bl
  | [], bl, id => by simp [bdelL]
  | i :: r, bl, id => by
    simp only [bdelL]
    rw [bget_bdelL, bget_bdel]
    by_cases h1 : id ∈ r
    · simp [h1]
    · by_cases h2 : id = i
      · simp [h1, h2]
      · simp [h1, h2]

theorem bget_append : ∀ {a b : Blks} {id : Nat}, bget id (a ++ b) = match bget id a with | some B => some B | none => bget id b
  | [], b, id => by simp [bget]
  | (s, x) :: r, b, id => by
    rw [List.cons_append, bget_cons, bget_cons]
    split
    · rfl
    · exact bget_append

section
variable {P : Program}

/-- New names: those that are lent keep theirs. -/
def sig (π : List Nat) (nx n : Nat) : List Nat := π ++ (List.range' π.length (n - π.length)).map (nx + ·)

theorem acall_frame {f : Nat} {vs0 vs : List V} {bl0 bl : Blks} {nx : Nat} {π : List Nat} {Q0 Q : V → Heap → Prop} (h : acall P f vs0 ⟨π.length, bl0⟩ Q0)
    (hargs : EVL π vs0 vs) (hbl : ∀ p ∈ bl0, EBk π nx bl p.1 p.2) (hkind : ∀ p ∈ bl0, ∀ st j d env ps as bd N, p.2 ≠ .loop st j d env ps as bd N) (hnd : π.Nodup) (hlt : ∀ i ∈ π, i < nx + π.length)
    (hQ : ∀ r n bl', Q0 r ⟨n, bl'⟩ → π.length ≤ n ∧ ∃ r' blr, renV (sig π nx n) 8 r = some r' ∧ renBl (sig π nx n) bl' = some blr ∧ Q r' ⟨nx + n, blr ++ bdelL π bl⟩) : acall P f vs ⟨nx, bl⟩ Q := by
  refine ⟨h.1, fun Y ι μ w as hI hl => ?_⟩
  let μ1 : Mu := μ.ren π
  have hμ1 : ∀ j i, π[j]? = some i → μ1 j = μ i := fun j i e => by simp only [μ1, Mu.ren]; rw [e]; rfl
  let X : Nat → Prop := fun b => ∃ p ∈ bl0, ∃ L, μ1 p.1 = some L ∧ L.b = b
  let Y1 : Ctx := ⟨w, ι, μ1, none, X⟩
  -- a lent block is one of the caller's
  have src : ∀ p ∈ bl0, ∀ L, μ1 p.1 = some L → ∃ i C, π[p.1]? = some i ∧ μ i = some L ∧ bget i bl = some C := fun p hp L hL => by
    obtain ⟨i, e1, hb⟩ := hbl p hp
    rw [hμ1 _ _ e1] at hL
    refine ⟨i, ?_⟩
    have : ∃ C, bget i bl = some C := by
      cases hB : p.2 with
      | cells cs fz => rw [hB] at hb; obtain ⟨ds, e2, _⟩ := hb; exact ⟨_, e2⟩
      | arr t xs fz =>
        rw [hB] at hb
        rcases hb with e2 | ⟨_, hge⟩
        · exact ⟨_, e2⟩
        · rw [hI.nx i hge] at hL; cases hL
      | loop st j d env ps as bd N => exact absurd hB (hkind p hp _ _ _ _ _ _ _ _)
      | dfr => rw [hB] at hb; exact ⟨_, hb⟩
    obtain ⟨C, hC⟩ := this
    exact ⟨C, e1, hL, hC⟩
  have hXown : ∀ b, X b → Y.own b := fun b ⟨p, hp, L, hL, e⟩ => by
    obtain ⟨i, C, _, h2, h3⟩ := src p hp L hL
    subst e; exact ((hI.live i C h3).loc h2).1
  have hown : ∀ b, Y1.own b → Y.own b := fun b hb => by
    rcases hb with hb | hb
    · exact .inl (Nat.le_trans hI.below.size hb)
    · exact hXown b hb
  have hmem : ∀ {id : Nat} {B : Blk}, bget id bl0 = some B → (id, B) ∈ bl0 := fun h => bget_mem h
  have hI1 : Inv P Y1 ι μ1 ⟨π.length, bl0⟩ w := by
    refine ⟨Bel.refl _ _, Iota.le_refl _, fun _ _ _ _ => rfl, hI.rd, Mu.le_refl _, fun id hid => ?_, fun id B hB => ?_, fun id id' B B' L L' hb hb' hm hm' e => ?_, fun id B hB => ?_⟩
    · have : π[id]? = none := List.getElem?_eq_none hid
      simp only [μ1, Mu.ren]; rw [this]; rfl
    · obtain ⟨i, e1, hb⟩ := hbl _ (hmem hB)
      have hmu := hμ1 id i e1
      cases B with
      | cells cs fz =>
        obtain ⟨ds, e2, hev⟩ := hb
        obtain ⟨L, vs, hM, hRL⟩ := hI.live i _ e2
        exact ⟨L, vs, ⟨by rw [hmu]; exact hM.mu, .inr ⟨_, hmem hB, L, by rw [hmu]; exact hM.mu, rfl⟩, hM.row, hM.fits, hM.one, hM.fzT, hM.fzF⟩, RelL.ren hev.1 (fun i v u hv hu => fun {x} hr => (hev.2 i v u hv hu).rel hr) hRL⟩
      | arr t xs fz =>
        rcases hb with e2 | ⟨rfl, hge⟩
        · rcases hI.live i _ e2 with ⟨e, hn⟩ | ⟨L, vs, hM, hc, hl⟩
          · exact .inl ⟨e, by rw [hmu]; exact hn⟩
          · exact .inr ⟨L, vs, ⟨by rw [hmu]; exact hM.mu, .inr ⟨_, hmem hB, L, by rw [hmu]; exact hM.mu, rfl⟩, hM.row, hM.fits, hM.one, hM.fzT, hM.fzF⟩, hc, hl⟩
        · exact .inl ⟨rfl, by rw [hmu]; exact hI.nx i hge⟩
      | loop st j d env ps as bd N => exact absurd rfl (hkind _ (hmem hB) st j d env ps as bd N)
      | dfr =>
        obtain ⟨L, q1, q2, q3⟩ := hI.live i _ hb
        exact ⟨L, by rw [hmu]; exact q1, .inr ⟨_, hmem hB, L, by rw [hmu]; exact q1, rfl⟩, q3⟩
    · obtain ⟨i, C, e1, e2, e3⟩ := src _ (hmem hb) L hm
      obtain ⟨i', C', e1', e2', e3'⟩ := src _ (hmem hb') L' hm'
      have := hI.inj i i' C C' L L' e3 e3' e2 e2' e
      subst this
      exact (List.getElem?_inj (List.getElem?_eq_some_iff.1 e1).1 hnd).1 (e1.trans e1'.symm)
    · obtain ⟨i, e1, _⟩ := hbl _ (hmem hB)
      exact (List.getElem?_eq_some_iff.1 e1).1
  have hl1 : RelL ι μ1 vs0 as.toList := RelL.ren hargs.1 (fun i v u hv hu => fun {x} hr => (hargs.2 i v u hv hu).rel hr) hl
  refine (h.2 Y1 ι μ1 w as hI1 hl1).mono ?_
  rintro e w' ⟨v, ι', μ1', r, ⟨n, bl'⟩, rfl, hi, hm1, hI2, hr, hq⟩
  obtain ⟨hn, r', blr, hr', hblr, hq'⟩ := hQ _ _ _ hq
  -- names
  have hsg : ∀ j i, (sig π nx n)[j]? = some i → (j < π.length ∧ π[j]? = some i) ∨ (π.length ≤ j ∧ j < n ∧ i = nx + j) := fun j i e => by
    unfold sig at e
    rw [List.getElem?_append] at e
    split at e
    · rename_i hj; exact .inl ⟨hj, e⟩
    · rename_i hj
      simp only [List.getElem?_map] at e
      cases hh : (List.range' π.length (n - π.length))[j - π.length]? with
      | none => rw [hh] at e; cases e
      | some z =>
        rw [hh] at e
        simp only [Option.map_some, Option.some.injEq] at e
        obtain ⟨q1, q2⟩ := List.getElem?_eq_some_iff.1 hh
        simp at q1 q2
        exact .inr ⟨by omega, by omega, by omega⟩
  have hinj : ∀ a b i, (sig π nx n)[a]? = some i → (sig π nx n)[b]? = some i → a = b := fun a b i ha hb => by
    rcases hsg _ _ ha with ⟨h1, h2⟩ | ⟨h1, h2, h3⟩ <;> rcases hsg _ _ hb with ⟨h4, h5⟩ | ⟨h4, h5, h6⟩
    · exact (List.getElem?_inj h1 hnd).1 (h2.trans h5.symm)
    · have := hlt i (List.mem_of_getElem? h2); omega
    · have := hlt i (List.mem_of_getElem? h5); omega
    · omega
  classical
  let μ' : Mu := fun i => match μ i with
    | some L => some L
    | none => if hx : ∃ j L, (sig π nx n)[j]? = some i ∧ μ1' j = some L then some hx.choose_spec.choose else none
  have hle : μ.le μ' := fun i L hL => by simp only [μ']; rw [hL]
  have hnew : ∀ i, μ i = none → ∀ j L, (sig π nx n)[j]? = some i → μ1' j = some L → μ' i = some L := fun i hi j L hj hL => by
    have hx : ∃ j L, (sig π nx n)[j]? = some i ∧ μ1' j = some L := ⟨j, L, hj, hL⟩
    simp only [μ']; rw [hi]; simp only; rw [dif_pos hx]
    obtain ⟨q1, q2⟩ := hx.choose_spec.choose_spec
    have key : ∀ j' L', μ1' j' = some L' → j' = j → some L' = some L := fun j' L' h1 h2 => by subst h2; rw [← h1, hL]
    exact key _ _ q2 (hinj _ _ _ q1 hj)
  have hσ : ∀ j i L, (sig π nx n)[j]? = some i → μ1' j = some L → μ' i = some L := fun j i L hj hL => by
    cases hμ : μ i with
    | none => exact hnew i hμ j L hj hL
    | some L0 =>
      rcases hsg _ _ hj with ⟨h1, h2⟩ | ⟨h1, h2, h3⟩
      · have e : μ1' j = some L0 := hm1 j L0 (by rw [hμ1 j i h2]; exact hμ)
        rw [hL] at e; cases e
        exact hle i _ hμ
      · rw [hI.nx i (by simp only; omega)] at hμ; cases hμ
  have hσ' : ∀ j i, (sig π nx n)[j]? = some i → ∀ L, μ' i = some L → μ1' j = some L := fun j i hj L hL => by
    cases hμ : μ i with
    | some L0 =>
      rw [hle i _ hμ] at hL; cases hL
      rcases hsg _ _ hj with ⟨h1, h2⟩ | ⟨h1, h2, h3⟩
      · exact hm1 j _ (by rw [hμ1 j i h2]; exact hμ)
      · rw [hI.nx i (by simp only; omega)] at hμ; cases hμ
    | none =>
      simp only [μ'] at hL; rw [hμ] at hL; simp only at hL
      split at hL
      · rename_i hx
        cases hL
        obtain ⟨q1, q2⟩ := hx.choose_spec.choose_spec
        have key : ∀ j' L', μ1' j' = some L' → j' = j → μ1' j = some L' := fun j' L' h1 h2 => by subst h2; exact h1
        exact key _ _ q2 (hinj _ _ _ q1 hj)
      · cases hL
  have hdis : ∀ {id : Nat} {B : Blk} {L : Loc}, bget id bl = some B → id ∉ π → μ id = some L → L.b < w.heap.size ∧ ¬ X L.b := fun {id B L} hB hid hL => by
    refine ⟨((hI.live id B hB).loc hL).2, ?_⟩
    rintro ⟨p, hp, L2, hL2, e⟩
    obtain ⟨i, C, e1, e2, e3⟩ := src p hp L2 hL2
    have := hI.inj i id C B L2 L e3 hB e2 hL e
    subst this
    exact hid (List.mem_of_getElem? e1)
  have hkeep : ∀ {id : Nat} {B : Blk}, bget id bl = some B → id ∉ π → μ' id = μ id := fun {id B} hB hid => by
    cases hμ : μ id with
    | some L => exact hle id _ hμ
    | none =>
      simp only [μ']; rw [hμ]; simp only
      rw [dif_neg]
      rintro ⟨j, L, hj, _⟩
      have hidlt := hI.lt id B hB
      rcases hsg _ _ hj with ⟨h1, h2⟩ | ⟨h1, h2, h3⟩
      · exact hid (List.mem_of_getElem? h2)
      · simp only at hidlt; omega
  have hrest : ∀ {id : Nat} {B : Blk}, bget id (blr ++ bdelL π bl) = some B → (∃ j B0, (sig π nx n)[j]? = some id ∧ bget j bl' = some B0 ∧ renB (sig π nx n) B0 = some B) ∨ (bget id bl = some B ∧ id ∉ π) := fun {id B} hB => by
    rw [bget_append] at hB
    split at hB
    · rename_i B2 hb2; cases hB; exact .inl (renBl_get hinj hblr hb2)
    · rw [bget_bdelL] at hB
      split at hB
      · cases hB
      · rename_i hk; exact .inr ⟨hB, hk⟩
  have hbel : Bel Y.x Y.w0 w' := by
    have b2 := hI2.below
    refine ⟨b2.os.trans hI.below.os, b2.tape.trans hI.below.tape, b2.output.trans hI.below.output, Nat.le_trans hI.below.size b2.size, fun k hk hx => ?_⟩
    rw [b2.block k (Nat.lt_of_lt_of_le hk hI.below.size) (fun hX => by
      rcases hXown k hX with h | h
      · omega
      · exact hx h)]
    exact hI.below.block k hk hx
  have hι : ∀ b o, b < w.heap.size → ¬ X b → ι' b o = ι b o := fun b o hb hx => hI2.iB b o hb hx
  refine ⟨v, ι', μ', r', _, rfl, hi, hle, ?_, renV_fwd hσ hr' hr, hq'⟩
  refine ⟨hbel, Iota.le_trans hI.i0 hi, fun b o hb hx => ?_, hI2.rd, Mu.le_trans hI.m0 hle, fun id hid => ?_, fun id B hB => ?_, fun id id' B B' L L' hb hb' hm hm' e => ?_, fun id B hB => ?_⟩
  · rw [hι b o (Nat.lt_of_lt_of_le hb hI.below.size) (fun hX => by
      rcases hXown b hX with h | h
      · omega
      · exact hx h)]
    exact hI.iB b o hb hx
  · simp only at hid
    have h0 : μ id = none := hI.nx id (by simp only; omega)
    simp only [μ']; rw [h0]; simp only
    rw [dif_neg]
    rintro ⟨j, L, hj, _⟩
    rcases hsg _ _ hj with ⟨h1, h2⟩ | ⟨h1, h2, h3⟩
    · have := hlt id (List.mem_of_getElem? h2); omega
    · omega
  · rcases hrest hB with ⟨j, B0, e1, e2, e3⟩ | ⟨hB', hk⟩
    · have hlive := hI2.live j B0 e2
      cases B0 with
      | cells cs fz =>
        simp only [renB] at e3
        split at e3 <;> cases e3
        rename_i ds hds
        obtain ⟨L, us, hM, hRL⟩ := hlive
        exact ⟨L, us, ⟨hσ _ _ _ e1 hM.mu, hown _ hM.old, hM.row, hM.fits, hM.one, hM.fzT, hM.fzF⟩, mapO_rel (fun _ _ _ h hr => renV_fwd hσ h hr) hds hRL⟩
      | arr t xs fz =>
        cases e3
        rcases hlive with ⟨e, hn0⟩ | ⟨L, us, hM, hc, hl⟩
        · refine .inl ⟨e, ?_⟩
          cases hμ' : μ' id with
          | none => rfl
          | some L => rw [hσ' j id e1 L hμ'] at hn0; cases hn0
        · exact .inr ⟨L, us, ⟨hσ _ _ _ e1 hM.mu, hown _ hM.old, hM.row, hM.fits, hM.one, hM.fzT, hM.fzF⟩, hc, hl⟩
      | loop st jj d env ps as bd N => cases e3
      | dfr =>
        cases e3
        obtain ⟨L, q1, q2, q3⟩ := hlive
        exact ⟨L, hσ _ _ _ e1 q1, hown _ q2, q3⟩
    · have hlive := hI.live id B hB'
      refine hlive.mono hi hle (fun hn0 => (hkeep hB' hk).trans hn0) (fun L hL => ?_) (fun L hL ho o => ?_)
      · obtain ⟨h1, h2⟩ := hdis hB' hk hL
        exact hI2.below.block _ h1 h2
      · obtain ⟨h1, h2⟩ := hdis hB' hk hL
        rw [hι _ _ h1 h2]; exact ho o
  · rcases hrest hb with ⟨j, B0, e1, e2, e3⟩ | ⟨hB1, hk1⟩ <;> rcases hrest hb' with ⟨j', B0', e1', e2', e3'⟩ | ⟨hB2, hk2⟩
    · have := hI2.inj j j' B0 B0' L L' e2 e2' (hσ' _ _ e1 _ hm) (hσ' _ _ e1' _ hm') e
      subst this; rw [e1] at e1'; cases e1'; rfl
    · rw [hkeep hB2 hk2] at hm'
      obtain ⟨h1, h2⟩ := hdis hB2 hk2 hm'
      rcases ((hI2.live j B0 e2).loc (hσ' _ _ e1 _ hm)).1 with h3 | h3
      · simp only [Y1] at h3; omega
      · rw [e] at h3; exact absurd h3 h2
    · rw [hkeep hB1 hk1] at hm
      obtain ⟨h1, h2⟩ := hdis hB1 hk1 hm
      rcases ((hI2.live j' B0' e2').loc (hσ' _ _ e1' _ hm')).1 with h3 | h3
      · simp only [Y1] at h3; omega
      · rw [← e] at h3; exact absurd h3 h2
    · rw [hkeep hB1 hk1] at hm
      rw [hkeep hB2 hk2] at hm'
      exact hI.inj id id' B B' L L' hB1 hB2 hm hm' e
  · rcases hrest hB with ⟨j, B0, e1, e2, e3⟩ | ⟨hB', hk⟩
    · rcases hsg _ _ e1 with ⟨h1, h2⟩ | ⟨h1, h2, h3⟩
      · have := hlt id (List.mem_of_getElem? h2); simp only; omega
      · simp only; omega
    · have := hI.lt id B hB'; simp only at this ⊢; omega
end
end Go.AM
