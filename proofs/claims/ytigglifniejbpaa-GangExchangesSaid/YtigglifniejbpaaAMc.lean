/- Calls that are lent blocks of the caller's heap: the rest stays as it is. Contracts of functions that write blocks of their caller, or hand back new ones. Recursion. The way in and out: a law's contract over data is its row's. Plain laws on tests, needs and rounds. Twins that can be reckoned: what they come to, the functions come to. -/
import Derived.Test.YtigglifniejbpaaAMb
import Derived.OpenShut
import Derived.Handed
import Derived.JoinedOf
import Derived.Carry
set_option linter.unusedVariables false
set_option linter.unusedSimpArgs false
section
namespace Go.AM

theorem renV_fwd {σ : List Nat} {ι : Iota} {μ μ' : Mu} (hσ : ∀ j i L, σ[j]? = some i → μ j = some L → μ' i = some L) : ∀ {n : Nat} {v u : V} {x : Value}, renV σ n v = some u → Rel ι μ v x → Rel ι μ' u x
  | 0, v, u, x, h, _ => by cases h
  | n + 1, v, u, x, h, hr => by
    have g : ∀ v u x, renV σ n v = some u → Rel ι μ v x → Rel ι μ' u x := fun v u x h hr => renV_fwd hσ h hr
    have lift : ∀ {cs ds : List V} {xs : Array Value}, mapO (renV σ n) cs = some ds → cs.length = xs.size → (∀ (i : Nat) v x, cs[i]? = some v → xs[i]? = some x → Rel ι μ v x) → RelL ι μ' ds xs.toList :=
      fun hm h1 h2 => mapO_rel g hm ⟨by simpa using h1, fun i v x hv hx => h2 i v x hv (by simpa using hx)⟩
    cases hr <;> simp only [renV] at h
    case any => cases h; exact .any _
    case tf => cases h; exact .tf _
    case bool => cases h; exact .bool _
    case int => cases h; exact .int _ _
    case str => cases h; exact .str _
    case nilp => cases h; exact .nilp
    case nilfn => cases h; exact .nilfn
    case nili => cases h; exact .nili
    case lst t xs hd => cases h; exact .lst t xs _ hd
    case nsl => cases h; exact .nsl _
    case sl id t lo m cap L hL h1 h2 h3 =>
      split at h <;> try (cases h; done)
      rename_i i hi; cases h
      exact .sl i t lo m cap L (hσ _ _ _ hi hL) h1 h2 h3
    case sl0 id t lo a =>
      split at h <;> try (cases h; done)
      cases h; exact .sl0 _ _ _ _
    case ptr id off L hL =>
      split at h <;> try (cases h; done)
      rename_i i hi; cases h
      exact .ptr i off L (hσ _ _ _ hi hL)
    case ep id t j p L hL =>
      split at h <;> try (cases h; done)
      rename_i i hi; cases h
      exact .ep i t j p L (hσ _ _ _ hi hL)
    case yl id L hL =>
      split at h <;> try (cases h; done)
      rename_i i hi; cases h
      exact .yl i L (hσ _ _ _ hi hL)
    case ipc cs b o gf h1 h2 h3 =>
      split at h <;> try (cases h; done)
      rename_i ds hds; cases h
      have hR : RelL ι μ cs ((List.range cs.length).map gf) := ⟨by simp, fun i v x hv hx => by
        have hi := (List.getElem?_eq_some_iff.1 hv).1
        simp [hi] at hx; subst hx; exact h2 i v hv⟩
      have hR' := mapO_rel g hds hR
      have hl : ds.length = cs.length := by have := hR'.1; simpa using this
      exact .ipc ds b o gf (fun i hi => h1 i (by omega)) (fun i v hv => hR'.2 i v (gf i) hv (by
        have hi := (List.getElem?_eq_some_iff.1 hv).1
        simp [show i < cs.length by omega])) h3
    case ip t y b o us h1 h2 => cases h; exact .ip t y b o us h1 h2
    case fn f fs cs xs ys h1 h2 h3 h4 =>
      split at h <;> try (cases h; done)
      rename_i as ha
      split at h <;> try (cases h; done)
      rename_i bs hb; cases h
      have r1 := lift ha h1 h2
      have r2 := lift hb h3 h4
      exact .fn f as bs xs ys (by simpa using r1.1) (fun i v x hv hx => r1.2 i v x hv (by simpa using hx)) (by simpa using r2.1) (fun i v x hv hx => r2.2 i v x hv (by simpa using hx))
    case agg cs xs h1 h2 h3 =>
      split at h <;> try (cases h; done)
      rename_i ds hds; cases h
      have r1 := lift hds h1 h2
      exact .agg ds xs (by simpa using r1.1) (fun i v x hv hx => r1.2 i v x hv (by simpa using hx)) h3
    case tup cs xs h1 h2 =>
      split at h <;> try (cases h; done)
      rename_i ds hds; cases h
      have r1 := lift hds h1 h2
      exact .tup ds xs (by simpa using r1.1) (fun i v x hv hx => r1.2 i v x hv (by simpa using hx))
    case ifc t v x hv =>
      split at h <;> try (cases h; done)
      rename_i u' hu; cases h
      exact .ifc t u' x (g _ _ _ hu hv)

/-- Blocks under other names. -/
def renBl (σ : List Nat) : Blks → Option Blks
  | [] => some []
  | (j, b) :: r => match pget σ j with
    | some i => match renB σ b with
      | some b' => match renBl σ r with
        | some r' => some ((i, b') :: r')
        | none => none
      | none => none
    | none => none

theorem renBl_get {σ : List Nat} (hinj : ∀ (a b i : Nat), σ[a]? = some i → σ[b]? = some i → a = b) : ∀ {bl bl' : Blks}, renBl σ bl = some bl' → ∀ {i : Nat} {B : Blk}, bget i bl' = some B → ∃ j B0, σ[j]? = some i ∧ bget j bl = some B0 ∧ renB σ B0 = some B
  | [], bl', h, i, B, hb => by cases h; simp [bget] at hb
  | (j, b) :: r, bl', h, i, B, hb => by
    simp only [renBl] at h
    split at h <;> try (cases h; done)
    rename_i i' hi
    split at h <;> try (cases h; done)
    rename_i b' hb'
    split at h <;> cases h
    rename_i r' hr
    rw [pget_eq] at hi
    rw [bget_cons] at hb
    split at hb
    · rename_i e; subst e; cases hb
      exact ⟨j, b, hi, by rw [bget_cons, if_pos rfl], hb'⟩
    · rename_i hne
      obtain ⟨j2, B0, h1, h2, h3⟩ := renBl_get hinj hr hb
      refine ⟨j2, B0, h1, ?_, h3⟩
      rw [bget_cons, if_neg]
      · exact h2
      · intro e; subst e; rw [hi] at h1; cases h1; exact hne rfl

def bdelL : List Nat → Blks → Blks
  | [], bl => bl
  | i :: r, bl => bdelL r (bdel i bl)

theorem bget_bdelL : ∀ {l : List Nat} {bl : Blks} {id : Nat}, bget id (bdelL l bl) = if id ∈ l then none else bget id bl
  | [], bl, id => by simp [bdelL]
  | i :: r, bl, id => by
    simp only [bdelL]
    rw [bget_bdelL, bget_bdel]
    by_cases h1 : id ∈ r
    · simp [h1]
    · by_cases h2 : id = i
      · simp [h1, h2]
      · simp [h1, h2]

theorem bget_append : ∀ {a b : Blks} {id : Nat}, bget id (a ++ b) = match bget id a with | some B => some B | none => bget id b
  | [], b, id => by simp [bget]
  | (s, x) :: r, b, id => by
    rw [List.cons_append, bget_cons, bget_cons]
    split
    · rfl
    · exact bget_append

section
variable {P : Program}

/-- New names: those that are lent keep theirs. -/
def sig (π : List Nat) (nx n : Nat) : List Nat := π ++ (List.range' π.length (n - π.length)).map (nx + ·)

theorem acall_frame {f : Nat} {vs0 vs : List V} {bl0 bl : Blks} {nx : Nat} {π : List Nat} {Q0 Q : V → Heap → Prop} (h : acall P f vs0 ⟨π.length, bl0⟩ Q0)
    (hargs : EVL π vs0 vs) (hbl : ∀ p ∈ bl0, EBk π nx bl p.1 p.2) (hkind : ∀ p ∈ bl0, ∀ st j d env ps as bd N, p.2 ≠ .loop st j d env ps as bd N) (hnd : π.Nodup) (hlt : ∀ i ∈ π, i < nx + π.length)
    (hQ : ∀ r n bl', Q0 r ⟨n, bl'⟩ → π.length ≤ n ∧ ∃ r' blr, renV (sig π nx n) 8 r = some r' ∧ renBl (sig π nx n) bl' = some blr ∧ Q r' ⟨nx + n, blr ++ bdelL π bl⟩) : acall P f vs ⟨nx, bl⟩ Q := by
  refine ⟨h.1, fun Y ι μ w as hI hl => ?_⟩
  let μ1 : Mu := μ.ren π
  have hμ1 : ∀ j i, π[j]? = some i → μ1 j = μ i := fun j i e => by simp only [μ1, Mu.ren]; rw [e]; rfl
  let X : Nat → Prop := fun b => ∃ p ∈ bl0, ∃ L, μ1 p.1 = some L ∧ L.b = b
  let Y1 : Ctx := ⟨w, ι, μ1, none, X⟩
  -- a lent block is one of the caller's
  have src : ∀ p ∈ bl0, ∀ L, μ1 p.1 = some L → ∃ i C, π[p.1]? = some i ∧ μ i = some L ∧ bget i bl = some C := fun p hp L hL => by
    obtain ⟨i, e1, hb⟩ := hbl p hp
    rw [hμ1 _ _ e1] at hL
    refine ⟨i, ?_⟩
    have : ∃ C, bget i bl = some C := by
      cases hB : p.2 with
      | cells cs fz => rw [hB] at hb; obtain ⟨ds, e2, _⟩ := hb; exact ⟨_, e2⟩
      | arr t xs fz =>
        rw [hB] at hb
        rcases hb with e2 | ⟨_, hge⟩
        · exact ⟨_, e2⟩
        · rw [hI.nx i hge] at hL; cases hL
      | loop st j d env ps as bd N => exact absurd hB (hkind p hp _ _ _ _ _ _ _ _)
      | dfr => rw [hB] at hb; exact ⟨_, hb⟩
    obtain ⟨C, hC⟩ := this
    exact ⟨C, e1, hL, hC⟩
  have hXown : ∀ b, X b → Y.own b := fun b ⟨p, hp, L, hL, e⟩ => by
    obtain ⟨i, C, _, h2, h3⟩ := src p hp L hL
    subst e; exact ((hI.live i C h3).loc h2).1
  have hown : ∀ b, Y1.own b → Y.own b := fun b hb => by
    rcases hb with hb | hb
    · exact .inl (Nat.le_trans hI.below.size hb)
    · exact hXown b hb
  have hmem : ∀ {id : Nat} {B : Blk}, bget id bl0 = some B → (id, B) ∈ bl0 := fun h => bget_mem h
  have hI1 : Inv P Y1 ι μ1 ⟨π.length, bl0⟩ w := by
    refine ⟨Bel.refl _ _, Iota.le_refl _, fun _ _ _ _ => rfl, hI.rd, Mu.le_refl _, fun id hid => ?_, fun id B hB => ?_, fun id id' B B' L L' hb hb' hm hm' e => ?_, fun id B hB => ?_⟩
    · have : π[id]? = none := List.getElem?_eq_none hid
      simp only [μ1, Mu.ren]; rw [this]; rfl
    · obtain ⟨i, e1, hb⟩ := hbl _ (hmem hB)
      have hmu := hμ1 id i e1
      cases B with
      | cells cs fz =>
        obtain ⟨ds, e2, hev⟩ := hb
        obtain ⟨L, vs, hM, hRL⟩ := hI.live i _ e2
        exact ⟨L, vs, ⟨by rw [hmu]; exact hM.mu, .inr ⟨_, hmem hB, L, by rw [hmu]; exact hM.mu, rfl⟩, hM.row, hM.fits, hM.one, hM.fzT, hM.fzF⟩, RelL.ren hev.1 (fun i v u hv hu => fun {x} hr => (hev.2 i v u hv hu).rel hr) hRL⟩
      | arr t xs fz =>
        rcases hb with e2 | ⟨rfl, hge⟩
        · rcases hI.live i _ e2 with ⟨e, hn⟩ | ⟨L, vs, hM, hc, hl⟩
          · exact .inl ⟨e, by rw [hmu]; exact hn⟩
          · exact .inr ⟨L, vs, ⟨by rw [hmu]; exact hM.mu, .inr ⟨_, hmem hB, L, by rw [hmu]; exact hM.mu, rfl⟩, hM.row, hM.fits, hM.one, hM.fzT, hM.fzF⟩, hc, hl⟩
        · exact .inl ⟨rfl, by rw [hmu]; exact hI.nx i hge⟩
      | loop st j d env ps as bd N => exact absurd rfl (hkind _ (hmem hB) st j d env ps as bd N)
      | dfr =>
        obtain ⟨L, q1, q2, q3⟩ := hI.live i _ hb
        exact ⟨L, by rw [hmu]; exact q1, .inr ⟨_, hmem hB, L, by rw [hmu]; exact q1, rfl⟩, q3⟩
    · obtain ⟨i, C, e1, e2, e3⟩ := src _ (hmem hb) L hm
      obtain ⟨i', C', e1', e2', e3'⟩ := src _ (hmem hb') L' hm'
      have := hI.inj i i' C C' L L' e3 e3' e2 e2' e
      subst this
      exact (List.getElem?_inj (List.getElem?_eq_some_iff.1 e1).1 hnd).1 (e1.trans e1'.symm)
    · obtain ⟨i, e1, _⟩ := hbl _ (hmem hB)
      exact (List.getElem?_eq_some_iff.1 e1).1
  have hl1 : RelL ι μ1 vs0 as.toList := RelL.ren hargs.1 (fun i v u hv hu => fun {x} hr => (hargs.2 i v u hv hu).rel hr) hl
  refine (h.2 Y1 ι μ1 w as hI1 hl1).mono ?_
  rintro e w' ⟨v, ι', μ1', r, ⟨n, bl'⟩, rfl, hi, hm1, hI2, hr, hq⟩
  obtain ⟨hn, r', blr, hr', hblr, hq'⟩ := hQ _ _ _ hq
  -- names
  have hsg : ∀ j i, (sig π nx n)[j]? = some i → (j < π.length ∧ π[j]? = some i) ∨ (π.length ≤ j ∧ j < n ∧ i = nx + j) := fun j i e => by
    unfold sig at e
    rw [List.getElem?_append] at e
    split at e
    · rename_i hj; exact .inl ⟨hj, e⟩
    · rename_i hj
      simp only [List.getElem?_map] at e
      cases hh : (List.range' π.length (n - π.length))[j - π.length]? with
      | none => rw [hh] at e; cases e
      | some z =>
        rw [hh] at e
        simp only [Option.map_some, Option.some.injEq] at e
        obtain ⟨q1, q2⟩ := List.getElem?_eq_some_iff.1 hh
        simp at q1 q2
        exact .inr ⟨by omega, by omega, by omega⟩
  have hinj : ∀ a b i, (sig π nx n)[a]? = some i → (sig π nx n)[b]? = some i → a = b := fun a b i ha hb => by
    rcases hsg _ _ ha with ⟨h1, h2⟩ | ⟨h1, h2, h3⟩ <;> rcases hsg _ _ hb with ⟨h4, h5⟩ | ⟨h4, h5, h6⟩
    · exact (List.getElem?_inj h1 hnd).1 (h2.trans h5.symm)
    · have := hlt i (List.mem_of_getElem? h2); omega
    · have := hlt i (List.mem_of_getElem? h5); omega
    · omega
  classical
  let μ' : Mu := fun i => match μ i with
    | some L => some L
    | none => if hx : ∃ j L, (sig π nx n)[j]? = some i ∧ μ1' j = some L then some hx.choose_spec.choose else none
  have hle : μ.le μ' := fun i L hL => by simp only [μ']; rw [hL]
  have hnew : ∀ i, μ i = none → ∀ j L, (sig π nx n)[j]? = some i → μ1' j = some L → μ' i = some L := fun i hi j L hj hL => by
    have hx : ∃ j L, (sig π nx n)[j]? = some i ∧ μ1' j = some L := ⟨j, L, hj, hL⟩
    simp only [μ']; rw [hi]; simp only; rw [dif_pos hx]
    obtain ⟨q1, q2⟩ := hx.choose_spec.choose_spec
    have key : ∀ j' L', μ1' j' = some L' → j' = j → some L' = some L := fun j' L' h1 h2 => by subst h2; rw [← h1, hL]
    exact key _ _ q2 (hinj _ _ _ q1 hj)
  have hσ : ∀ j i L, (sig π nx n)[j]? = some i → μ1' j = some L → μ' i = some L := fun j i L hj hL => by
    cases hμ : μ i with
    | none => exact hnew i hμ j L hj hL
    | some L0 =>
      rcases hsg _ _ hj with ⟨h1, h2⟩ | ⟨h1, h2, h3⟩
      · have e : μ1' j = some L0 := hm1 j L0 (by rw [hμ1 j i h2]; exact hμ)
        rw [hL] at e; cases e
        exact hle i _ hμ
      · rw [hI.nx i (by simp only; omega)] at hμ; cases hμ
  have hσ' : ∀ j i, (sig π nx n)[j]? = some i → ∀ L, μ' i = some L → μ1' j = some L := fun j i hj L hL => by
    cases hμ : μ i with
    | some L0 =>
      rw [hle i _ hμ] at hL; cases hL
      rcases hsg _ _ hj with ⟨h1, h2⟩ | ⟨h1, h2, h3⟩
      · exact hm1 j _ (by rw [hμ1 j i h2]; exact hμ)
      · rw [hI.nx i (by simp only; omega)] at hμ; cases hμ
    | none =>
      simp only [μ'] at hL; rw [hμ] at hL; simp only at hL
      split at hL
      · rename_i hx
        cases hL
        obtain ⟨q1, q2⟩ := hx.choose_spec.choose_spec
        have key : ∀ j' L', μ1' j' = some L' → j' = j → μ1' j = some L' := fun j' L' h1 h2 => by subst h2; exact h1
        exact key _ _ q2 (hinj _ _ _ q1 hj)
      · cases hL
  have hdis : ∀ {id : Nat} {B : Blk} {L : Loc}, bget id bl = some B → id ∉ π → μ id = some L → L.b < w.heap.size ∧ ¬ X L.b := fun {id B L} hB hid hL => by
    refine ⟨((hI.live id B hB).loc hL).2, ?_⟩
    rintro ⟨p, hp, L2, hL2, e⟩
    obtain ⟨i, C, e1, e2, e3⟩ := src p hp L2 hL2
    have := hI.inj i id C B L2 L e3 hB e2 hL e
    subst this
    exact hid (List.mem_of_getElem? e1)
  have hkeep : ∀ {id : Nat} {B : Blk}, bget id bl = some B → id ∉ π → μ' id = μ id := fun {id B} hB hid => by
    cases hμ : μ id with
    | some L => exact hle id _ hμ
    | none =>
      simp only [μ']; rw [hμ]; simp only
      rw [dif_neg]
      rintro ⟨j, L, hj, _⟩
      have hidlt := hI.lt id B hB
      rcases hsg _ _ hj with ⟨h1, h2⟩ | ⟨h1, h2, h3⟩
      · exact hid (List.mem_of_getElem? h2)
      · simp only at hidlt; omega
  have hrest : ∀ {id : Nat} {B : Blk}, bget id (blr ++ bdelL π bl) = some B → (∃ j B0, (sig π nx n)[j]? = some id ∧ bget j bl' = some B0 ∧ renB (sig π nx n) B0 = some B) ∨ (bget id bl = some B ∧ id ∉ π) := fun {id B} hB => by
    rw [bget_append] at hB
    split at hB
    · rename_i B2 hb2; cases hB; exact .inl (renBl_get hinj hblr hb2)
    · rw [bget_bdelL] at hB
      split at hB
      · cases hB
      · rename_i hk; exact .inr ⟨hB, hk⟩
  have hbel : Bel Y.x Y.w0 w' := by
    have b2 := hI2.below
    refine ⟨b2.os.trans hI.below.os, b2.tape.trans hI.below.tape, b2.output.trans hI.below.output, Nat.le_trans hI.below.size b2.size, fun k hk hx => ?_⟩
    rw [b2.block k (Nat.lt_of_lt_of_le hk hI.below.size) (fun hX => by
      rcases hXown k hX with h | h
      · omega
      · exact hx h)]
    exact hI.below.block k hk hx
  have hι : ∀ b o, b < w.heap.size → ¬ X b → ι' b o = ι b o := fun b o hb hx => hI2.iB b o hb hx
  refine ⟨v, ι', μ', r', _, rfl, hi, hle, ?_, renV_fwd hσ hr' hr, hq'⟩
  refine ⟨hbel, Iota.le_trans hI.i0 hi, fun b o hb hx => ?_, hI2.rd, Mu.le_trans hI.m0 hle, fun id hid => ?_, fun id B hB => ?_, fun id id' B B' L L' hb hb' hm hm' e => ?_, fun id B hB => ?_⟩
  · rw [hι b o (Nat.lt_of_lt_of_le hb hI.below.size) (fun hX => by
      rcases hXown b hX with h | h
      · omega
      · exact hx h)]
    exact hI.iB b o hb hx
  · simp only at hid
    have h0 : μ id = none := hI.nx id (by simp only; omega)
    simp only [μ']; rw [h0]; simp only
    rw [dif_neg]
    rintro ⟨j, L, hj, _⟩
    rcases hsg _ _ hj with ⟨h1, h2⟩ | ⟨h1, h2, h3⟩
    · have := hlt id (List.mem_of_getElem? h2); omega
    · omega
  · rcases hrest hB with ⟨j, B0, e1, e2, e3⟩ | ⟨hB', hk⟩
    · have hlive := hI2.live j B0 e2
      cases B0 with
      | cells cs fz =>
        simp only [renB] at e3
        split at e3 <;> cases e3
        rename_i ds hds
        obtain ⟨L, us, hM, hRL⟩ := hlive
        exact ⟨L, us, ⟨hσ _ _ _ e1 hM.mu, hown _ hM.old, hM.row, hM.fits, hM.one, hM.fzT, hM.fzF⟩, mapO_rel (fun _ _ _ h hr => renV_fwd hσ h hr) hds hRL⟩
      | arr t xs fz =>
        cases e3
        rcases hlive with ⟨e, hn0⟩ | ⟨L, us, hM, hc, hl⟩
        · refine .inl ⟨e, ?_⟩
          cases hμ' : μ' id with
          | none => rfl
          | some L => rw [hσ' j id e1 L hμ'] at hn0; cases hn0
        · exact .inr ⟨L, us, ⟨hσ _ _ _ e1 hM.mu, hown _ hM.old, hM.row, hM.fits, hM.one, hM.fzT, hM.fzF⟩, hc, hl⟩
      | loop st jj d env ps as bd N => cases e3
      | dfr =>
        cases e3
        obtain ⟨L, q1, q2, q3⟩ := hlive
        exact ⟨L, hσ _ _ _ e1 q1, hown _ q2, q3⟩
    · have hlive := hI.live id B hB'
      refine hlive.mono hi hle (fun hn0 => (hkeep hB' hk).trans hn0) (fun L hL => ?_) (fun L hL ho o => ?_)
      · obtain ⟨h1, h2⟩ := hdis hB' hk hL
        exact hI2.below.block _ h1 h2
      · obtain ⟨h1, h2⟩ := hdis hB' hk hL
        rw [hι _ _ h1 h2]; exact ho o
  · rcases hrest hb with ⟨j, B0, e1, e2, e3⟩ | ⟨hB1, hk1⟩ <;> rcases hrest hb' with ⟨j', B0', e1', e2', e3'⟩ | ⟨hB2, hk2⟩
    · have := hI2.inj j j' B0 B0' L L' e2 e2' (hσ' _ _ e1 _ hm) (hσ' _ _ e1' _ hm') e
      subst this; rw [e1] at e1'; cases e1'; rfl
    · rw [hkeep hB2 hk2] at hm'
      obtain ⟨h1, h2⟩ := hdis hB2 hk2 hm'
      rcases ((hI2.live j B0 e2).loc (hσ' _ _ e1 _ hm)).1 with h3 | h3
      · simp only [Y1] at h3; omega
      · rw [e] at h3; exact absurd h3 h2
    · rw [hkeep hB1 hk1] at hm
      obtain ⟨h1, h2⟩ := hdis hB1 hk1 hm
      rcases ((hI2.live j' B0' e2').loc (hσ' _ _ e1' _ hm')).1 with h3 | h3
      · simp only [Y1] at h3; omega
      · rw [← e] at h3; exact absurd h3 h2
    · rw [hkeep hB1 hk1] at hm
      rw [hkeep hB2 hk2] at hm'
      exact hI.inj id id' B B' L L' hB1 hB2 hm hm' e
  · rcases hrest hB with ⟨j, B0, e1, e2, e3⟩ | ⟨hB', hk⟩
    · rcases hsg _ _ e1 with ⟨h1, h2⟩ | ⟨h1, h2, h3⟩
      · have := hlt id (List.mem_of_getElem? h2); simp only; omega
      · simp only; omega
    · have := hI.lt id B hB'; simp only at this ⊢; omega
end
end Go.AM
end
section
namespace Go.AM

/-- A function as a function of what it is handed: 'p' reads its arguments (slots 0, 1, ..) and their blocks, 'q' its result (slot 0) and the blocks behind the call. -/
structure Ht where
  f : Nat
  p : Pat
  q : Pat
  fn : p.T → Option q.T

def Ht.Ok (P : Program) (ht : Ht) : Prop := ∀ x y, ht.fn x = some y →
  acall P ht.f ((ht.p.E x).map (·.2)) ⟨ht.p.locs.length, ht.p.B x⟩ fun r H => r = get 0 (ht.q.E y) ∧ H = ⟨ht.p.locs.length + ht.q.locs.length, ht.q.B y⟩

section
variable {P : Program} {R : Type}

def Pat.rdP (no : R) (p : Pat) (env : Env) (nx : Nat) (bl : Blks) (k : List Nat → p.T → R) : R :=
  bldPi no env nx bl [] p.locs [] 0 fun π => match apartB π p.bl with
    | true => match envRd (A := blT p.bl Unit) π env p.env with
      | some f => match blRd (A := Unit) π nx bl p.bl with
        | some g => k π (f (g ()))
        | none => no
      | none => no
    | false => no

def nodupN : List Nat → Bool
  | [] => true
  | i :: r => match memN i r with
    | true => false
    | false => nodupN r

theorem nodupN_eq : ∀ {l : List Nat}, nodupN l = true → l.Nodup
  | [], _ => .nil
  | i :: r, h => by
    simp only [nodupN] at h
    split at h
    · cases h
    · rename_i hm
      exact List.nodup_cons.2 ⟨(fun hi => by rw [memN_iff.2 hi] at hm; cases hm), nodupN_eq h⟩

def boundN (n : Nat) : List Nat → Bool
  | [] => true
  | i :: r => match Nat.blt i n with
    | true => boundN n r
    | false => false

theorem boundN_eq {n : Nat} : ∀ {l : List Nat}, boundN n l = true → ∀ i ∈ l, i < n
  | [], _, i, hi => by simp at hi
  | j :: r, h, i, hi => by
    simp only [boundN] at h
    split at h
    · rename_i hj
      rcases List.mem_cons.1 hi with rfl | hi
      · have : i + 1 ≤ n := by simpa [Nat.blt] using hj
        omega
      · exact boundN_eq h i hi
    · cases h

def noLoop : List (Nat × BP) → Bool
  | [] => true
  | (_, .loop _ _ _ _ _ _ _ _) :: _ => false
  | (_, .arr _ _) :: r => noLoop r
  | (_, .cells _ _) :: r => noLoop r
  | (_, .dfr) :: r => noLoop r

theorem noLoop_eq {A : Type} : ∀ {ps : List (Nat × BP)} (x : blT ps A), noLoop ps = true → ∀ p ∈ blV ps x, ∀ st j d env ps as bd N, p.2 ≠ .loop st j d env ps as bd N
  | [], x, h, p, hp => by simp [blV] at hp
  | (s, b) :: r, x, h, p, hp => by
    simp only [blV, List.mem_cons] at hp
    intro st j d env ps as bd N
    rcases hp with rfl | hp
    · cases b with
      | loop => simp [noLoop] at h
      | arr => simp [BP.v]
      | cells => simp [BP.v]
      | dfr => simp [BP.v]
    · refine noLoop_eq _ ?_ p hp st j d env ps as bd N
      cases b <;> simp [noLoop] at h <;> exact h

/-- A call by such a contract. -/
def htCa (kz : Kz R) (no : R) (ht : Ht) (vs : List V) (nx : Nat) (bl : Blks) (K : V → Nat → Blks → R) : R :=
  match an (Nat.beq vs.length ht.p.env.length) (noLoop ht.p.bl) with
  | true => ht.p.rdP no (args 0 vs) nx bl fun π x => match an (nodupN π) (boundN (nx + π.length) π) with
    | true => kz.bd (ht.fn x) fun y => fN (π.length + ht.q.locs.length) fun n => ht.q.go n y fun env _ bl' _ => match renV (sig π nx n) 8 (get 0 env) with
      | some r' => match renBl (sig π nx n) bl' with
        | some blr => fBl (blr ++ bdelL π bl) fun bl => fN (nx + n) fun nx => K r' nx bl
        | none => kz.no
      | none => kz.no
    | false => no
  | false => no

theorem args_at : ∀ {vs : List V} {n i : Nat}, get i (args n vs) = if n ≤ i then vs.getD (i - n) .any else .any := args_get

theorem envV_len {A : Type} : ∀ {ps : List (Nat × SP)} {x : envT ps A}, (envV ps x).length = ps.length
  | [], _ => rfl
  | (_, _) :: r, x => by simp [envV, envV_len (ps := r)]

theorem EE_args {π : List Nat} {vs : List V} {env : Env} (hlen : vs.length = env.length) (hs : env.map (·.1) = List.range env.length) (h : EE π env (args 0 vs)) : EVL π (env.map (·.2)) vs := by
  refine ⟨by simp [hlen], fun i v u hv hu => ?_⟩
  rw [List.getElem?_map] at hv
  cases hp : env[i]? with
  | none => rw [hp] at hv; cases hv
  | some p =>
    rw [hp] at hv; cases hv
    have hi := (List.getElem?_eq_some_iff.1 hp).1
    have e1 : (env.map (·.1))[i]? = (List.range env.length)[i]? := by rw [hs]
    rw [List.getElem?_map, hp, List.getElem?_range hi] at e1
    simp only [Option.map_some, Option.some.injEq] at e1
    have := h p (List.mem_of_getElem? hp)
    rw [args_at, e1, if_pos (Nat.zero_le _)] at this
    simp only [Nat.sub_zero] at this
    have e2 : vs.getD i .any = u := by simp [List.getD, hu]
    rwa [e2] at this

theorem envV_slots' {A : Type} : ∀ {ps : List (Nat × SP)} {x : envT ps A}, (envV ps x).map (·.1) = ps.map (·.1)
  | [], _ => rfl
  | (_, _) :: r, x => by simp [envV, envV_slots' (ps := r)]

theorem Pat.E_len {p : Pat} {x : p.T} : (p.E x).length = p.env.length := envV_len
theorem Pat.E_slots {p : Pat} {x : p.T} : (p.E x).map (·.1) = p.env.map (·.1) := envV_slots'

/-- A contract whose argument slots are 0, 1, .. -/
def Ht.slots (ht : Ht) : Prop := ht.p.env.map (·.1) = List.range ht.p.env.length

theorem htCa_ok {ht : Ht} (hok : ht.Ok P) (hsl : ht.slots) {X : Type} {no : Option X} {vs : List V} {nx : Nat} {bl : Blks} {K : V → Nat → Blks → Option X} {r : X} (h : htCa (kzO X) no ht vs nx bl K = some r) :
    no = some r ∨ ∀ {Q : V → Heap → Prop}, (∀ v nx bl, K v nx bl = some r → Q v ⟨nx, bl⟩) → acall P ht.f vs ⟨nx, bl⟩ Q := by
  unfold htCa at h
  split at h
  · rename_i h0
    rw [an_iff] at h0
    have hlen := Nat.eq_of_beq_eq_true h0.1
    unfold Pat.rdP at h
    have key : ∀ {ls : List Lc} {π0 : List Nat} {b : Nat} {k : List Nat → Option X}, bldPi no (args 0 vs) nx bl [] ls π0 b k = some r → no = some r ∨ ∃ rr, rr.length = ls.length ∧ k (π0 ++ rr) = some r := by
      intro ls
      induction ls with
      | nil => intro π0 b k hk; exact .inr ⟨[], rfl, by simpa [bldPi] using hk⟩
      | cons l ls ih =>
        intro π0 b k hk
        simp only [bldPi] at hk
        split at hk
        · rename_i i hi
          rw [fN_eq, snoc_eq, fN_eq] at hk
          rcases ih hk with hk | ⟨rr, h1, h2⟩
          · exact .inl hk
          · exact .inr ⟨i :: rr, by simp [h1], by simpa using h2⟩
        · exact .inl hk
    rcases key h with h | ⟨π, hπ, h⟩
    · exact .inl h
    simp only [List.nil_append] at h
    split at h
    · rename_i hap
      split at h
      · rename_i f hf
        split at h
        · rename_i g hg
          split at h
          · rename_i hnb
            rw [an_iff] at hnb
            refine .inr fun {Q} hQ => ?_
            obtain ⟨y, hy, h⟩ := bindO_some h
            rw [fN_eq, Pat.go_eq] at h
            obtain ⟨h1, h2⟩ := envRd_ev hf (g ())
            obtain ⟨h3, h4⟩ := blRd_ev hg ()
            split at h <;> try (cases h; done)
            rename_i r' hr'
            split at h <;> try (cases h; done)
            rename_i blr hblr
            rw [fBl_eq, fN_eq] at h
            have hcall := hok _ _ hy
            rw [← hπ] at hcall
            have hB : ht.p.B (f (g ())) = blV ht.p.bl (g ()) := by unfold Pat.B; rw [h2]
            refine acall_frame (Q0 := fun r H => r = get 0 (ht.q.E y) ∧ H = ⟨π.length + ht.q.locs.length, ht.q.B y⟩) hcall ?_ ?_ ?_ (nodupN_eq hnb.1) (boundN_eq hnb.2) ?_
            · exact EE_args (env := envV ht.p.env (f (g ()))) (hlen.trans envV_len.symm) (envV_slots'.trans (hsl.trans (by rw [envV_len]))) h1
            · rw [hB]; exact h3
            · rw [hB]; exact noLoop_eq _ h0.2
            · rintro r n bl' ⟨rfl, e⟩
              cases e
              exact ⟨by omega, r', blr, hr', hblr, hQ _ _ _ h⟩
          · exact .inl h
        · exact .inl h
      · exact .inl h
    · exact .inl h
  · exact .inl h

def htsCa (kz : Kz R) (f : Nat) (vs : List V) (nx : Nat) (bl : Blks) (K : V → Nat → Blks → R) (no : R) : List Ht → R
  | [] => no
  | ht :: r => match Nat.beq ht.f f with
    | true => htCa kz (htsCa kz f vs nx bl K no r) ht vs nx bl K
    | false => htsCa kz f vs nx bl K no r

def HtsOk (P : Program) : List Ht → Prop
  | [] => True
  | c :: r => (c.Ok P ∧ c.slots) ∧ HtsOk P r

theorem htsCa_ok {X : Type} {no : Option X} {f : Nat} {vs : List V} {nx : Nat} {bl : Blks} {K : V → Nat → Blks → Option X} {r : X} : ∀ {hts : List Ht}, HtsOk P hts → htsCa (kzO X) f vs nx bl K no hts = some r →
    no = some r ∨ ∀ {Q : V → Heap → Prop}, (∀ v nx bl, K v nx bl = some r → Q v ⟨nx, bl⟩) → acall P f vs ⟨nx, bl⟩ Q
  | [], _, h => .inl h
  | ht :: hts, hok, h => by
    simp only [htsCa] at h
    split at h
    · rename_i hf
      have e := Nat.eq_of_beq_eq_true hf
      subst e
      rcases htCa_ok hok.1.1 hok.1.2 h with h | h
      · exact htsCa_ok hok.2 h
      · exact .inr h
    · exact htsCa_ok hok.2 h

/-- Calls by contracts over data, or over what is lent. -/
def mkCxH (cts : List Ct) (hts : List Ht) : Cx where
  pc kz f vs K := ctPc kz f vs K cts
  ca kz f vs nx bl K := htsCa kz f vs nx bl K (ctCa cts kz f vs nx bl K) hts
  rd kz _ _ _ _ _ := kz.no

theorem mkCxH_ok {cts : List Ct} {hts : List Ht} (h : CtsOk P cts) (h2 : HtsOk P hts) : (mkCxH cts hts).Ok P where
  pok hk := ctPc_ok h hk
  cok := by
    intro X f vs nx bl K r hk Q hQ
    rcases htsCa_ok h2 hk with hk | hk
    · exact (mkCx_ok h).cok hk hQ
    · exact hk hQ
  rok hk := by cases hk

/-- Results in other words. -/
theorem acall_ent {f : Nat} {vs : List V} {H : Heap} {Q : V → Heap → Prop} (h : acall P f vs H fun r H' => ∃ r'' H'' π, Ent2 H.next π ⟨[(0, r)], H', []⟩ ⟨[(0, r'')], H'', []⟩ ∧ Q r'' H'') : acall P f vs H Q :=
  ⟨h.1, fun Y ι μ w as hI hl => (h.2 Y ι μ w as hI hl).mono fun e w' ⟨v, ι', μ', r, H', h1, h2, h3, h4, h5, r'', H'', π, h6, h7⟩ => by
    let Y2 : Ctx := ⟨Y.w0, Y.ι0, fun i => if i < H.next then μ i else none, Y.ro, Y.x⟩
    have hI2 : Inv P Y2 ι' μ' H' w' := ⟨h4.below, h4.i0, h4.iB, h4.rd, (fun i L hL => by
      simp only [Y2] at hL
      split at hL
      · exact h3 _ _ hL
      · cases hL), h4.nx, h4.live, h4.inj, h4.lt⟩
    have hR : Rep P 1 Y2 ι' μ' ⟨[(0, r)], H', []⟩ { tmps := #[v], defers := [] } w' := ⟨(fun t => by
      rw [get_cons]
      split
      · rename_i e; subst e; exact h5
      · exact .any _), rfl, hI2, rfl⟩
    have hR2 := h6.rep (fun i hi => by simp only [Y2]; rw [if_neg (by omega)]) hR
    have hle : μ.le (μ'.ren π) := fun i L hL => by
      have hlt : i < H.next := by
        rcases Nat.lt_or_ge i H.next with h | h
        · exact h
        · rw [hI.nx i h] at hL; cases hL
      exact hR2.inv.m0 i L (by simp only [Y2]; rw [if_pos hlt]; exact hL)
    refine ⟨v, ι', μ'.ren π, r'', H'', h1, h2, hle, ⟨h4.below, h4.i0, h4.iB, h4.rd, Mu.le_trans hI.m0 hle, hR2.inv.nx, hR2.inv.live, hR2.inv.inj, hR2.inv.lt⟩, ?_, h7⟩
    have := hR2.env 0
    rw [get_cons, if_pos rfl] at this
    exact this⟩

/-- At the end of a function that hands back what lies in the heap. -/
def kRetH (kz : Kz R) (rs : List RV) (tys : List (Option Ty)) (K : V → Nat → Blks → R) : Kc R := fun e env nx bl ms => match e with
  | .exit _ => kz.no
  | .normal => go env nx bl ms
  | .ret => go env nx bl ms
where go (env : Env) (nx : Nat) (bl : Blks) (ms : List Nat) : R := match shutAll ms bl with
  | some bl => match resV ⟨env, ⟨nx, bl⟩, []⟩ rs with
    | some vs => fV (mkRes (normL tys vs)) fun v => K v nx bl
    | none => kz.no
  | none => kz.no

theorem kRetH_ok {X : Type} {rs : List RV} {tys : List (Option Ty)} {K : V → Nat → Blks → Option X} {r : X} {e : Ex} {env : Env} {nx : Nat} {bl : Blks} {ms : List Nat} (h : kRetH (kzO X) rs tys K e env nx bl ms = some r) {Q : V → Heap → Prop}
    (hQ : ∀ v nx bl, K v nx bl = some r → Q v ⟨nx, bl⟩) : RetH rs tys Q e ⟨env, ⟨nx, bl⟩, ms⟩ := by
  have key : kRetH.go (kzO X) rs tys K env nx bl ms = some r → RetH.RetS rs tys Q ⟨env, ⟨nx, bl⟩, ms⟩ := fun hg => by
    unfold kRetH.go at hg
    unfold RetH.RetS
    split at hg <;> try (cases hg; done)
    rename_i bl' h1
    simp only
    rw [h1]
    simp only
    split at hg <;> try (cases hg; done)
    rename_i vs h2
    rw [h2]
    rw [fV_eq] at hg
    exact hQ _ _ _ hg
  cases e with
  | exit i => cases h
  | normal => exact key h
  | ret => exact key h

/-- A function's body, from what it is handed. -/
def hfE {N k : Nat} (kz : Kz R) (cx : Cx) (ar : Ar) (pre : List Nat) (rs : List RV) (tys : List (Option Ty)) (p q : Pat) (body : D P N none k) (inr : q.T → R) (x : p.T) : R :=
  p.go k x fun env nx bl _ => kE kz cx ar body env nx bl [] (kRetH kz rs tys fun r nx bl => q.rd kz.no pre k [(0, r)] nx bl [] inr)

theorem args_eta : ∀ {env : Env} {n : Nat}, env.map (·.1) = List.range' n env.length → args n (env.map (·.2)) = env
  | [], n, _ => rfl
  | (s, v) :: r, n, h => by
    simp only [List.map_cons, List.length_cons, List.range'_succ, List.cons.injEq] at h
    simp only [List.map_cons, args]
    rw [args_eta h.2, h.1]

theorem ht_ok (mixed : P.follows .mixedOrders = true) {cx : Cx} (hcx : cx.Ok P) {func : Func} {fn : Fn} {ht : Ht} {k : Nat} (hk : ht.p.locs.length = k) (hf : P.funcs[ht.f]? = some func) (htr : trF P func = some fn) (hent : Enters P ht.f)
    (body : D P fn.N none k) (hbody : body.er = fn.body) (hnp : Nat.ble ht.p.env.length fn.np = true) (hsl : ht.slots) (hq : ∃ s, ht.q.env = [(0, s)]) (hqm : ht.q.ms = []) {pre : List Nat} (hpre : pre = List.range k)
    (hfn : ∀ x, hfE (kzO ht.q.T) cx ar0 pre fn.res fn.tys ht.p ht.q body some x = ht.fn x) : ht.Ok P := by
  intro x y hxy
  subst hpre
  rw [← hfn x] at hxy
  unfold hfE at hxy
  rw [Pat.go_eq] at hxy
  subst hk
  refine acall_ent ?_
  refine acall_of hf htr hent (drawOk mixed) (by rw [List.length_map, Pat.E_len]; exact Nat.le_of_ble_eq_true hnp) ?_
  have ha : args 0 ((ht.p.E x).map (·.2)) = ht.p.E x := args_eta (by rw [Pat.E_slots, Pat.E_len, ← List.range_eq_range']; exact hsl)
  rw [ha, ← hbody]
  refine kE_ok hcx hxy fun e env nx bl ms hk => ?_
  refine kRetH_ok hk fun v nx bl hk => ?_
  obtain ⟨y', π, h1, h2⟩ := Pat.rd_ent hk
  cases h1
  obtain ⟨s, hs⟩ := hq
  have he : ht.q.E y = [(0, get 0 (ht.q.E y))] := by
    have h1 : (ht.q.E y).map (·.1) = [0] := by rw [Pat.E_slots, hs]; rfl
    cases h2 : ht.q.E y with
    | nil => rw [h2] at h1; cases h1
    | cons a r =>
      obtain ⟨a1, a2⟩ := a
      rw [h2] at h1
      simp only [List.map_cons, List.cons.injEq, List.map_eq_nil_iff] at h1
      obtain ⟨rfl, rfl⟩ := h1
      rw [get_cons, if_pos rfl]
  refine ⟨_, _, π, ?_, rfl, rfl⟩
  have e : Pat.st ht.p.locs.length ht.q y = ⟨[(0, get 0 (ht.q.E y))], ⟨ht.p.locs.length + ht.q.locs.length, ht.q.B y⟩, []⟩ := by
    unfold Pat.st; rw [← he, hqm]
  rw [← e]; exact h2

/-! Recursion. -/

def apx {A B : Type} (F : (A → Option B) → A → Option B) : Nat → A → Option B
  | 0 => fun _ => none
  | n + 1 => F (apx F n)

/-- What recursion comes to, if it ends. -/
noncomputable def fixO {A B : Type} (F : (A → Option B) → A → Option B) (x : A) : Option B := by
  classical exact if h : ∃ (N : Nat) (y : B), ∀ n, N ≤ n → apx F n x = some y then some h.choose_spec.choose else none

theorem fixO_some {A B : Type} {F : (A → Option B) → A → Option B} {x : A} {y : B} (h : fixO F x = some y) : ∃ n, apx F n x = some y := by
  unfold fixO at h
  split at h
  · rename_i hx; cases h; exact ⟨hx.choose, hx.choose_spec.choose_spec _ (Nat.le_refl _)⟩
  · cases h

theorem fixO_of {A B : Type} {F : (A → Option B) → A → Option B} {x : A} {y : B} {N : Nat} (h : ∀ n, N ≤ n → apx F n x = some y) : fixO F x = some y := by
  unfold fixO
  have hx : ∃ (N : Nat) (y : B), ∀ n, N ≤ n → apx F n x = some y := ⟨N, y, h⟩
  rw [dif_pos hx]
  have h1 := hx.choose_spec.choose_spec (max N hx.choose) (Nat.le_max_right _ _)
  rw [h _ (Nat.le_max_left _ _)] at h1
  exact h1.symm

/-- Recursion, by a measure. -/
theorem fixO_rule {A B : Type} {F : (A → Option B) → A → Option B} (m : A → Nat) (Inv : A → Prop) (spec : A → B)
    (h : ∀ rec x, Inv x → (∀ x', Inv x' → m x' < m x → rec x' = some (spec x')) → F rec x = some (spec x)) : ∀ x, Inv x → fixO F x = some (spec x) := by
  have key : ∀ n x, Inv x → m x < n → apx F n x = some (spec x) := by
    intro n
    induction n with
    | zero => intro x _ hm; omega
    | succ n ih => intro x hx hm; exact h _ x hx fun x' hx' hm' => ih x' hx' (by omega)
  intro x hx
  exact fixO_of (N := m x + 1) fun n hn => key n x hx (by omega)

theorem ht_fix {f : Nat} {p q : Pat} {F : (p.T → Option q.T) → p.T → Option q.T} (h : ∀ rec, Ht.Ok P ⟨f, p, q, rec⟩ → Ht.Ok P ⟨f, p, q, F rec⟩) : Ht.Ok P ⟨f, p, q, fixO F⟩ := by
  have key : ∀ n, Ht.Ok P ⟨f, p, q, apx F n⟩ := by
    intro n
    induction n with
    | zero => intro x y hxy; cases hxy
    | succ n ih => exact h _ ih
  intro x y hxy
  obtain ⟨n, hn⟩ := fixO_some hxy
  exact key n x y hn

theorem ct_fix {f : Nat} {ps : List SP} {res : SP} {F : (spsT ps Unit → Option (res.T Unit)) → spsT ps Unit → Option (res.T Unit)} (h : ∀ rec, Ct.Ok P ⟨f, ps, res, rec⟩ → Ct.Ok P ⟨f, ps, res, F rec⟩) : Ct.Ok P ⟨f, ps, res, fixO F⟩ := by
  have key : ∀ n, Ct.Ok P ⟨f, ps, res, apx F n⟩ := by
    intro n
    induction n with
    | zero => intro x y hxy; cases hxy
    | succ n ih => exact h _ ih
  intro x y hxy
  obtain ⟨n, hn⟩ := fixO_some hxy
  exact key n x y hn
end
end Go.AM
end
section
namespace Go.AM
open Go.RowKit Go.ChangeShapes Go.WideShapes

def holes (tys : List Ty) : List SP := tys.map fun t => .c (.hole t)

def WfAll : (tys : List Ty) → spsT (holes tys) Unit → Prop
  | [], _ => True
  | t :: r, x => Wf t x.1 ∧ WfAll r x.2

section
variable {P : Program} {H : Type} {enc : TypeId × Value → H} {W : World} {base : Nat}

/-- Is a parameter's type one that is read? 'true': a struct's cells. -/
def topOk (P : Program) (t : TypeId) : Ty → Bool
  | .unit => false
  | .prod _ _ => match P.underlying t with
    | some (.struct _) => true
    | _ => false
  | _ => match P.underlying t with
    | some (.struct _) => false
    | some (.array _ _) => false
    | _ => true

theorem trod_rel {t : TypeId} {ty : Ty} (hok : tyOk P 8 t ty = true) (htop : topOk P t ty = true) {v : Value} (hv : Value.okWide P W .any base t v) {d : DataW H} {p : List MemPlace}
    (h : DataW.Trod enc P W 0 (fun _ => true) true t v d p) : ∃ y : ty.den, Rel (allOf W) (fun _ => none) (tyV ty y) v ∧ Wf ty y := by
  obtain ⟨fuel, hf⟩ := h
  obtain ⟨y, hy, wy⟩ := trod_den hok hf
  refine ⟨y, ?_, wy⟩
  cases ty with
  | unit => simp [topOk] at htop
  | bool =>
    cases hu : P.underlying t with
    | none => simp [tyOk, hu] at hok
    | some u =>
      cases u <;> simp [tyOk, hu] at hok
      · obtain ⟨b, rfl⟩ := okWide_bool hu hv
        simp only [CellsD, Value.cells, List.cons.injEq, Value.bool.injEq, and_true] at hy
        subst hy; exact .bool _
      · simp [topOk, hu] at htop
  | str =>
    cases hu : P.underlying t with
    | none => simp [tyOk, hu] at hok
    | some u =>
      cases u <;> simp [tyOk, hu] at hok
      · obtain ⟨b, rfl⟩ := okWide_string hu hv
        simp only [CellsD, Value.cells, List.cons.injEq, Value.string.injEq, and_true] at hy
        subst hy; exact .str _
      · simp [topOk, hu] at htop
  | int k =>
    cases hu : P.underlying t with
    | none => simp [tyOk, hu] at hok
    | some u =>
      cases u <;> simp [tyOk, hu] at hok
      · subst hok
        obtain ⟨b, rfl⟩ := okWide_int hu hv
        simp only [CellsD, Value.cells, List.cons.injEq, Value.int.injEq, true_and, and_true] at hy
        subst hy; exact .int _ _
      · simp [topOk, hu] at htop
  | list te =>
    cases hu : P.underlying t with
    | none => simp [tyOk, hu] at hok
    | some u =>
      cases u <;> simp [tyOk, hu] at hok
      · obtain ⟨a, len, cap, rfl⟩ := okWide_slice hu hv
        exact .lst _ _ _ hy
      · simp [topOk, hu] at htop
  | prod a b =>
    cases hu : P.underlying t with
    | none => simp [tyOk, hu] at hok
    | some u =>
      cases u <;> simp [tyOk, hu] at hok
      obtain ⟨cs, rfl, _⟩ := okWide_struct hu hv
      have hr := toVs_rel (μ := fun _ => none) hy
      refine .agg _ cs ?_ (fun i v x hv hx => hr.2 i v x hv (by simpa [Value.cells] using hx)) ?_
      · have := hr.1; simpa [Value.cells] using this
      · intro x hx; exact CellsD.one hy x (by simpa [Value.cells] using hx)

theorem trodAll_rel : ∀ {ts : List TypeId} {tys : List Ty} {vs : List Value} {ds : List (DataW H)} {p : List MemPlace}, ts.length = tys.length → (∀ (i : Nat) t ty, ts[i]? = some t → tys[i]? = some ty → tyOk P 8 t ty = true ∧ topOk P t ty = true) →
    (∀ (j : Nat) t v, ts[j]? = some t → vs[j]? = some v → Value.okWide P W .any base t v) → DataW.TrodAll enc P W 0 (fun _ => true) true ts vs ds p →
    ∃ x : spsT (holes tys) Unit, RelL (allOf W) (fun _ => none) (spsV (holes tys) x) vs ∧ WfAll tys x
  | [], [], vs, ds, p, _, _, _, h => by
    obtain ⟨rfl, _, _⟩ := trodAll_nil h
    exact ⟨(), .nil, trivial⟩
  | t :: ts, ty :: tys, vs, ds, p, hl, hok, hv, h => by
    obtain ⟨v, vs', d, ds', p1, q, rfl, rfl, rfl, h1, h2⟩ := trodAll_cons h
    obtain ⟨k1, k2⟩ := hok 0 t ty rfl rfl
    obtain ⟨y, hy, wy⟩ := trod_rel k1 k2 (hv 0 t v rfl rfl) h1
    obtain ⟨x, hx, wx⟩ := trodAll_rel (by simpa using hl) (fun i t ty ht hty => hok (i + 1) t ty (by simpa using ht) (by simpa using hty)) (fun j t v ht hv' => hv (j + 1) t v (by simpa using ht) (by simpa using hv')) h2
    exact ⟨(y, x), .cons hy hx, wy, wx⟩
  | [], _ :: _, _, _, _, hl, _, _, _ => by simp at hl
  | _ :: _, [], _, _, _, hl, _, _, _ => by simp at hl

theorem trodAll_below (hl : laidOutB P = true) {W' : World} (hb : Below W.heap.size W W') : ∀ {ts : List TypeId} {vs : List Value} {ds : List (DataW H)} {p : List MemPlace}, (∀ t ∈ ts, P.readableRec t = true ∧ t < P.types.size) →
    DataW.TrodAll enc P W 0 (fun _ => true) true ts vs ds p → (∀ x ∈ p, x.block < W.heap.size) → DataW.TrodAll enc P W' 0 (fun b => decide (b < W.heap.size)) true ts vs ds p
  | [], vs, ds, p, _, h, _ => by
    obtain ⟨rfl, rfl, rfl⟩ := trodAll_nil h
    exact trodAll_mk0
  | t :: ts, vs, ds, p, ht, h, hp => by
    obtain ⟨v, vs', d, ds', p1, q, rfl, rfl, rfl, h1, h2⟩ := trodAll_cons h
    obtain ⟨k1, k2⟩ := ht t (List.mem_cons_self ..)
    exact trodAll_cons_mk (Below.trod hl k1 k2 h1 hb (fun x hx => hp x (List.mem_append_left _ hx))) (trodAll_below hl hb (fun t ht' => ht t (List.mem_cons_of_mem _ ht')) h2 (fun x hx => hp x (List.mem_append_right _ hx)))
end

def lawTys (P : Program) : List TypeId → List Ty → Bool
  | [], [] => true
  | t :: ts, ty :: tys => tyOk P 8 t ty && topOk P t ty && P.readableRec t && Nat.blt t P.types.size && lawTys P ts tys
  | _, _ => false

theorem lawTys_all {P : Program} : ∀ {ts : List TypeId} {tys : List Ty}, lawTys P ts tys = true → ts.length = tys.length ∧ (∀ (i : Nat) t ty, ts[i]? = some t → tys[i]? = some ty → tyOk P 8 t ty = true ∧ topOk P t ty = true) ∧ ∀ t ∈ ts, P.readableRec t = true ∧ t < P.types.size
  | [], [], _ => ⟨rfl, fun i t ty h => by simp at h, fun t h => by simp at h⟩
  | t :: ts, ty :: tys, h => by
    simp only [lawTys, Bool.and_eq_true] at h
    obtain ⟨⟨⟨⟨h1, h2⟩, h3⟩, h4⟩, h5⟩ := h
    obtain ⟨k1, k2, k3⟩ := lawTys_all h5
    refine ⟨by simp [k1], fun i t' ty' ht hty => ?_, fun t' ht => ?_⟩
    · cases i with
      | zero => simp at ht hty; subst ht; subst hty; exact ⟨h1, h2⟩
      | succ i => exact k2 i t' ty' (by simpa using ht) (by simpa using hty)
    · rcases List.mem_cons.1 ht with rfl | ht
      · exact ⟨h3, by simpa [Nat.blt, Nat.succ_le_iff] using h4⟩
      · exact k3 t' ht
  | [], _ :: _, h => by simp [lawTys] at h
  | _ :: _, [], h => by simp [lawTys] at h

/-- What a law's row asks of each call. -/
theorem law_contract {P : Program} {H : Type} {enc : TypeId × Value → H} {f : FuncId} {fn : Func} {s : ChangeSpec} (tys : List Ty) (laid : laidOutB P = true) (hvars : s.vars = []) (htys : lawTys P fn.params.toList tys = true)
    {tb : TypeId} (hres : fn.resultTypes = #[tb]) (htb : P.underlying tb = some .bool)
    (hs : ∀ ds : List (DataW H), ds.length = tys.length → (s.fn H ds).results = [.lit (.bool true)] ∧ (s.fn H ds).args = ds ∧ (s.fn H ds).vars = [])
    {F : spsT (holes tys) Unit → Option (Bool × Unit)} (hct : Ct.Ok P ⟨f, holes tys, .c (.hole .bool), F⟩) (hF : ∀ x, WfAll tys x → F x = some (true, ()))
    {W : World} {base : Nat} {args : Array Value} {ds gs : List (DataW H)} {before : List MemPlace} (hval : ∀ (j : Nat) t v, fn.params[j]? = some t → args[j]? = some v → Value.okWide P W .any base t v)
    (hW : DataW.Whole enc P fn.params.toList s.vars false W args.toList ds gs before) :
    Calls P f args W fun e W' => ∃ v, e = .returned v ∧ s.post enc P fn false true false false W args v W' := by
  have hW' := hW
  obtain ⟨p, q, hA, hV, rfl, hfz, hnd⟩ := hW
  rw [hvars] at hV
  obtain ⟨rfl, rfl⟩ := trodVars_none hV
  obtain ⟨k1, k2, k3⟩ := lawTys_all htys
  obtain ⟨x, hx, wx⟩ := trodAll_rel (base := base) k1 k2 (fun j t v ht hv => hval j t v (by simpa using ht) (by simpa using hv)) hA
  have hlen : ds.length = tys.length := by
    rw [← k1]
    have : ∀ {ts : List TypeId} {vs : List Value} {ds : List (DataW H)} {p : List MemPlace}, DataW.TrodAll enc P W 0 (fun _ => true) true ts vs ds p → ds.length = ts.length := by
      intro ts
      induction ts with
      | nil => intro vs ds p h; obtain ⟨rfl, rfl, rfl⟩ := trodAll_nil h; rfl
      | cons t ts ih => intro vs ds p h; obtain ⟨v, vs', d, ds', p1, q, rfl, rfl, rfl, h1, h2⟩ := trodAll_cons h; simp [ih h2]
    exact this hA
  simp only [List.append_nil] at hW'
  have hcall := (hct x (true, ()) (hF x wx)).2 (allOf W) W args (fun b o x h => h) hx
  refine (callsIn_wide.1 hcall).mono ?_
  rintro e W' ⟨v, ι', rfl, _, _, _, hbel, hr⟩
  have hv : v = .bool true := by
    have hr' : Rel ι' (fun _ => none) (.bool true) v := hr
    cases hr'; rfl
  subst hv
  have hlt : ∀ x ∈ p, x.block < W.heap.size := fun x hx => hW'.lt x hx
  obtain ⟨s1, s2, s3⟩ := hs (ds ++ []) (by simpa using hlen)
  simp only [List.append_nil] at s1 s2 s3
  refine ⟨_, rfl, ds, [], p, [], p, [], hW', ?_, ?_, ?_, hbel.frame _, fun h => by cases h⟩
  · simp only [List.append_nil]
    rw [s1, hres]
    exact trodAll_cons_mk (p := []) (p' := []) (shut_bool htb _) trodAll_mk0
  · simp only [List.append_nil]
    rw [s2]
    exact trodAll_below laid hbel k3 hA hlt
  · simp only [List.append_nil]
    rw [s3, hvars]
    rfl
end Go.AM
end
section
namespace Go.AM

theorem rng_i64 {z : Int} (h1 : -9223372036854775808 ≤ z) (h2 : z ≤ 9223372036854775807) : rng .i64 z = true := by
  have e1 : IntKind.i64.min = -9223372036854775808 := by decide
  have e2 : IntKind.i64.max = 9223372036854775807 := by decide
  simp only [rng, e1, e2, Bool.and_eq_true, decide_eq_true_eq]
  exact ⟨h1, h2⟩
theorem rng_u64 {z : Int} (h1 : 0 ≤ z) (h2 : z ≤ 18446744073709551615) : rng .u64 z = true := by
  have e1 : IntKind.u64.min = 0 := by decide
  have e2 : IntKind.u64.max = 18446744073709551615 := by decide
  simp only [rng, e1, e2, Bool.and_eq_true, decide_eq_true_eq]
  exact ⟨h1, h2⟩
theorem inb_t {i n : Int} (h : 0 ≤ i) (h2 : i < n) : inb i n = true := by simp [inb, h, h2]
theorem need_i64 {X : Type} {z : Int} {x : Option X} (h1 : -9223372036854775808 ≤ z) (h2 : z ≤ 9223372036854775807) : need (rng .i64 z) x = x := need_t (rng_i64 h1 h2)
theorem need_inb {X : Type} {i n : Int} {x : Option X} (h : 0 ≤ i) (h2 : i < n) : need (inb i n) x = x := need_t (inb_t h h2)
theorem need_d {X : Type} {p : Prop} [Decidable p] {x : Option X} (h : p) : need (decide p) x = x := need_t (decide_eq_true h)
theorem br_t {X : Type} {c : Bool} {x y : Option X} (h : c = true) : brO c x y = x := by rw [h, brO_true]
theorem br_f {X : Type} {c : Bool} {x y : Option X} (h : c = false) : brO c x y = y := by rw [h, brO_false]
theorem br_d {X : Type} {p : Prop} [Decidable p] {x y : Option X} : brO (decide p) x y = if p then x else y := by
  by_cases h : p <;> simp [h]
theorem br_eq {X : Type} {a b : Int} {x y : Option X} : brO (a == b) x y = if a = b then x else y := by
  by_cases h : a = b
  · simp [h]
  · have : (a == b) = false := by simpa using h
    rw [this, brO_false, if_neg h]
theorem br_not {X : Type} {c : Bool} {x y : Option X} : brO (!c) x y = brO c y x := by cases c <;> simp
theorem bind_of {A X : Type} {o : Option A} {a : A} {f : A → Option X} (h : o = some a) : bindO o f = f a := by rw [h, bindO_s]

/-- Rounds that count: 'g k' is the state at the head of round k, 'n' the number of rounds. -/
theorem iter_count {α β : Type} {step : α → Option (α ⊕ β)} (n : Nat) (g : Nat → α) {b : β} (hr : ∀ k, k < n → step (g k) = some (.inl (g (k + 1)))) (he : step (g n) = some (.inr b)) : iter step (g 0) = some b := by
  have key : ∀ m k, k + m = n → iter step (g k) = some b := by
    intro m
    induction m with
    | zero => intro k hk; rw [show k = n by omega]; exact iter_inr he
    | succ m ih => intro k hk; exact iter_inl (hr k (by omega)) (ih (k + 1) (by omega))
  exact key n 0 (by omega)

/-- Rounds that count, or end early. -/
theorem iter_until {α β : Type} {step : α → Option (α ⊕ β)} (n : Nat) (g : Nat → α) (stop : Nat → Option β) {b : β} (hr : ∀ k, k < n → match stop k with | none => step (g k) = some (.inl (g (k + 1))) | some b => step (g k) = some (.inr b))
    (he : step (g n) = some (.inr b)) : iter step (g 0) = some (((List.range n).findSome? stop).getD b) := by
  have key : ∀ m k, k + m = n → iter step (g k) = some (((List.range' k m).findSome? stop).getD b) := by
    intro m
    induction m with
    | zero => intro k hk; rw [show k = n by omega]; simpa using iter_inr he
    | succ m ih =>
      intro k hk
      have h := hr k (by omega)
      rw [List.range'_succ, List.findSome?_cons]
      cases hs : stop k with
      | none => rw [hs] at h; exact iter_inl h (ih (k + 1) (by omega))
      | some c => rw [hs] at h; exact iter_inr h
  rw [List.range_eq_range']
  exact key n 0 (by omega)
end Go.AM
end
section
namespace Go.AM

structure Le {X : Type} (a b : Option X) : Prop where
  h : ∀ y, a = some y → b = some y
def needC {X : Type} (c : Bool) (x : Option X) : Option X := match c with
  | true => x
  | false => none
def bindC {A X : Type} (o : Option A) (f : A → Option X) : Option X := match o with
  | some a => f a
  | none => none
def brC {X : Type} (c : Bool) (x y : Option X) : Option X := match c with
  | true => x
  | false => y

theorem Le.r {X : Type} {a : Option X} : Le a a := ⟨fun _ h => h⟩
theorem Le.n {X : Type} {a : Option X} : Le none a := ⟨fun _ h => by cases h⟩
theorem Le.nd {X : Type} {c : Bool} {a b : Option X} (h : Le a b) : Le (needC c a) (need c b) := by
  cases c
  · exact Le.n
  · simpa [needC] using h
theorem Le.br {X : Type} {c : Bool} {a b a' b' : Option X} (h : Le a a') (h' : Le b b') : Le (brC c a b) (brO c a' b') := by
  cases c
  · simpa [brC] using h'
  · simpa [brC] using h
theorem Le.bd {A X : Type} {o o' : Option A} {f f' : A → Option X} (h : Le o o') (hf : ∀ y, Le (f y) (f' y)) : Le (bindC o f) (bindO o' f') := ⟨fun y hy => by
  cases o with
  | none => cases hy
  | some a => rw [h.h a rfl, bindO_s]; exact (hf a).h y hy⟩
theorem Le.iter {α β : Type} {g g' : α → Option (α ⊕ β)} {n : Nat} {x : α} (h : ∀ x, Le (g x) (g' x)) : Le (iterF g n x) (AM.iter g' x) := ⟨fun y hy => by
  refine iter_of (n := n) ?_
  induction n generalizing x with
  | zero => cases hy
  | succ n ih =>
    simp only [iterF] at hy ⊢
    cases hg : g x with
    | none => rw [hg] at hy; cases hy
    | some r =>
      rw [hg] at hy
      rw [(h x).h r hg]
      cases r with
      | inl z => exact ih hy
      | inr b => exact hy⟩
theorem Le.apx {A B : Type} {F F' : (A → Option B) → A → Option B} (h : ∀ r r', (∀ x, Le (r x) (r' x)) → ∀ x, Le (F r x) (F' r' x)) : ∀ n m, n ≤ m → ∀ x, Le (AM.apx F n x) (AM.apx F' m x) := by
  intro n
  induction n with
  | zero => intro m _ x; exact Le.n
  | succ n ih =>
    intro m hm x
    cases m with
    | zero => omega
    | succ m => exact h _ _ (ih m (by omega)) x
theorem Le.fix {A B : Type} {F F' : (A → Option B) → A → Option B} {n : Nat} {x : A} (h : ∀ r r', (∀ x, Le (r x) (r' x)) → ∀ x, Le (F r x) (F' r' x)) : Le (AM.apx F n x) (fixO F' x) := ⟨fun y hy =>
  fixO_of (N := n) fun m hm => (Le.apx h n m hm x).h y hy⟩
theorem Le.done {X : Type} {a b : Option X} {y : X} (h : Le a b) (e : a = some y) : b = some y := h.h y e
end Go.AM
end
