/- States that stand for as much, in general: names may change, nil slices may stand for empty lists, blocks that nobody reads are forgotten. -/
import Derived.Test.YtigglifniejbpaaAM26
set_option linter.unusedVariables false
set_option linter.unusedSimpArgs false
namespace Go.AM

/-- v' stands for as much as v, its names found by π. -/
inductive EV (π : List Nat) : V → V → Prop
  | any (v) : EV π .any v
  | tf (b) : EV π (.tf b) (.tf b)
  | bool (b) : EV π (.bool b) (.bool b)
  | tfb (b) : EV π (.bool b) (.tf b)
  | int (k n) : EV π (.int k n) (.int k n)
  | str (s) : EV π (.str s) (.str s)
  | nilp : EV π .nilp .nilp
  | nilfn : EV π .nilfn .nilfn
  | nili : EV π .nili .nili
  | lst (t xs) : EV π (.lst t xs) (.lst t xs)
  | lnil (t) : EV π (.lst t []) .nsl
  | nsl : EV π .nsl .nsl
  | sl (id i t lo n) (h : π[id]? = some i) : EV π (.sl id t lo n) (.sl i t lo n)
  | snil (id t lo) : EV π (.sl id t lo 0) .nsl
  | ptr (id i o) (h : π[id]? = some i) : EV π (.ptr id o) (.ptr i o)
  | ep (id i t j p) (h : π[id]? = some i) : EV π (.ep id t j p) (.ep i t j p)
  | yl (id i) (h : π[id]? = some i) : EV π (.yl id) (.yl i)
  | ip (t x) : EV π (.ip t x) (.ip t x)
  | ipc (cs ds) (h : cs.length = ds.length) (h2 : ∀ (i : Nat) v u, cs[i]? = some v → ds[i]? = some u → EV π v u) : EV π (.ipc cs) (.ipc ds)
  | fn (f as as' cs cs') (h : as.length = as'.length) (h2 : ∀ (i : Nat) v u, as[i]? = some v → as'[i]? = some u → EV π v u)
      (h3 : cs.length = cs'.length) (h4 : ∀ (i : Nat) v u, cs[i]? = some v → cs'[i]? = some u → EV π v u) : EV π (.fn f as cs) (.fn f as' cs')
  | agg (cs ds) (h : cs.length = ds.length) (h2 : ∀ (i : Nat) v u, cs[i]? = some v → ds[i]? = some u → EV π v u) : EV π (.agg cs) (.agg ds)
  | tup (cs ds) (h : cs.length = ds.length) (h2 : ∀ (i : Nat) v u, cs[i]? = some v → ds[i]? = some u → EV π v u) : EV π (.tup cs) (.tup ds)
  | ifc (t v u) (h : EV π v u) : EV π (.ifc t v) (.ifc t u)

def EVL (π : List Nat) (cs ds : List V) : Prop := cs.length = ds.length ∧ ∀ (i : Nat) v u, cs[i]? = some v → ds[i]? = some u → EV π v u

theorem EVL.nil {π : List Nat} : EVL π [] [] := ⟨rfl, fun i v u h => by simp at h⟩
theorem EVL.cons {π : List Nat} {v u : V} {cs ds : List V} (h : EV π v u) (hl : EVL π cs ds) : EVL π (v :: cs) (u :: ds) :=
  ⟨by simp [hl.1], fun i w y hw hy => by
    cases i with
    | zero => simp at hw hy; subst hw; subst hy; exact h
    | succ i => exact hl.2 i w y (by simpa using hw) (by simpa using hy)⟩

/-- A slot list that stands for as much as another. -/
def EE (π : List Nat) (env' env : List (Nat × V)) : Prop := ∀ p ∈ env', EV π p.2 (get p.1 env)

def EBk (π : List Nat) (nx : Nat) (bl : Blks) (id : Nat) (B : Blk) : Prop := ∃ i, π[id]? = some i ∧ match B with
  | .cells cs fz => ∃ ds, bget i bl = some (.cells ds fz) ∧ EVL π cs ds
  | .arr t xs fz => bget i bl = some (.arr t xs fz) ∨ (xs = [] ∧ nx ≤ i)
  | .loop st j d env ps as bd N => ∃ d0 env0, bget i bl = some (.loop st j d0 env0 ps as bd N) ∧ π[d]? = some d0 ∧ EE π env env0
  | .dfr => bget i bl = some .dfr

structure Ent2 (base : Nat) (π : List Nat) (S S' : St) : Prop where
  pre : π.take base = List.range base
  nx : S'.H.next = π.length
  ms : S'.ms.map (fun i => π[i]?) = S.ms.map some
  env : EE π S'.env S.env
  bl : ∀ p ∈ S'.H.bl, EBk π S.H.next S.H.bl p.1 p.2
  inj : ∀ p ∈ S'.H.bl, ∀ q ∈ S'.H.bl, π[p.1]? = π[q.1]? → p.1 = q.1

section
variable {P : Program} {N : Nat} {Y : Ctx} {ι ι' : Iota} {μ μ' : Mu} {H : Heap} {w w' : World} {out : Option Nat} {base : Nat} {π : List Nat}

theorem RelL.ren {cs ds : List V} {xs : List Value} (h : cs.length = ds.length) (ih : ∀ (i : Nat) v u, cs[i]? = some v → ds[i]? = some u → ∀ {x : Value}, Rel ι μ u x → Rel ι (μ.ren π) v x) (hr : RelL ι μ ds xs) : RelL ι (μ.ren π) cs xs :=
  ⟨h.trans hr.1, fun i v x hv hx => by
    have hi : i < ds.length := by have := (List.getElem?_eq_some_iff.1 hv).1; omega
    exact ih i v ds[i] hv (by simp [hi]) (hr.2 i ds[i] x (by simp [hi]) hx)⟩

theorem EV.rel {v' v : V} (h : EV π v' v) : ∀ {x : Value}, Rel ι μ v x → Rel ι (μ.ren π) v' x := by
  induction h with
  | any v => intro x _; exact .any _
  | tf b => intro x hr; cases hr; exact .tf _
  | bool b => intro x hr; cases hr; exact .bool _
  | tfb b => intro x hr; cases hr; exact .bool _
  | int k n => intro x hr; cases hr; exact .int _ _
  | str s => intro x hr; cases hr; exact .str _
  | nilp => intro x hr; cases hr; exact .nilp
  | nilfn => intro x hr; cases hr; exact .nilfn
  | nili => intro x hr; cases hr; exact .nili
  | lst t xs => intro x hr; cases hr with | lst _ _ _ hd => exact .lst t xs _ hd
  | lnil t => intro x hr; cases hr; exact .lst _ _ _ ⟨_, 0, rfl, Nat.le_refl _, .inl rfl⟩
  | nsl => intro x hr; cases hr; exact .nsl _
  | sl id i t lo n hi =>
    intro x hr
    cases hr with
    | sl _ _ _ _ cap L hL h1 h2 h3 => exact .sl id t lo n cap L (by simp [Mu.ren, hi, hL]) h1 h2 h3
    | sl0 => exact .sl0 _ _ _ _
  | snil id t lo => intro x hr; cases hr; exact .sl0 _ _ _ _
  | ptr id i o hi => intro x hr; cases hr with | ptr _ _ L hL => exact .ptr id o L (by simp [Mu.ren, hi, hL])
  | ep id i t j p hi => intro x hr; cases hr with | ep _ _ _ _ L hL => exact .ep id t j p L (by simp [Mu.ren, hi, hL])
  | yl id i hi => intro x hr; cases hr with | yl _ L hL => exact .yl id L (by simp [Mu.ren, hi, hL])
  | ip t y => intro x hr; cases hr with | ip _ _ b o us h1 h2 => exact .ip t y b o us h1 h2
  | ipc cs ds h h2 ih =>
    intro x hr
    cases hr with
    | ipc _ b o gf h1 h3 h4 =>
      have hR : RelL ι μ ds ((List.range ds.length).map gf) := ⟨by simp, fun i v x hv hx => by
        have hi := (List.getElem?_eq_some_iff.1 hv).1
        simp [hi] at hx; subst hx; exact h3 i v hv⟩
      have hR' := RelL.ren h ih hR
      exact .ipc cs b o gf (fun i hi => h1 i (by omega)) (fun i v hv => hR'.2 i v (gf i) hv (by
        have hi := (List.getElem?_eq_some_iff.1 hv).1
        simp [show i < ds.length by omega])) h4
  | fn f as as' cs cs' h h2 h3 h4 ih1 ih2 =>
    intro x hr
    cases hr with
    | fn _ _ _ xs ys q1 q2 q3 q4 =>
      have r1 := RelL.ren h ih1 (xs := xs.toList) ⟨by simpa using q1, fun i v x hv hx => q2 i v x hv (by simpa using hx)⟩
      have r2 := RelL.ren h3 ih2 (xs := ys.toList) ⟨by simpa using q3, fun i v x hv hx => q4 i v x hv (by simpa using hx)⟩
      exact .fn f as cs xs ys (by simpa using r1.1) (fun i v x hv hx => r1.2 i v x hv (by simpa using hx)) (by simpa using r2.1) (fun i v x hv hx => r2.2 i v x hv (by simpa using hx))
  | agg cs ds h h2 ih =>
    intro x hr
    cases hr with
    | agg _ xs q1 q2 q3 =>
      have r1 := RelL.ren h ih (xs := xs.toList) ⟨by simpa using q1, fun i v x hv hx => q2 i v x hv (by simpa using hx)⟩
      exact .agg cs xs (by simpa using r1.1) (fun i v x hv hx => r1.2 i v x hv (by simpa using hx)) q3
  | tup cs ds h h2 ih =>
    intro x hr
    cases hr with
    | tup _ xs q1 q2 =>
      have r1 := RelL.ren h ih (xs := xs.toList) ⟨by simpa using q1, fun i v x hv hx => q2 i v x hv (by simpa using hx)⟩
      exact .tup cs xs (by simpa using r1.1) (fun i v x hv hx => r1.2 i v x hv (by simpa using hx))
  | ifc t v u h ih => intro x hr; cases hr with | ifc _ _ x hx => exact .ifc t v x (ih hx)

theorem EE.rel {tmps : Array Value} {env : List (Nat × V)} (he : EnvR ι μ env tmps) : ∀ {env' : List (Nat × V)}, EE π env' env → EnvR ι (μ.ren π) env' tmps
  | [], _ => fun t => .any _
  | (t, v) :: r, h => fun i => by
    rw [get_cons]; split
    · rename_i e; subst e; exact (h _ (List.mem_cons_self ..)).rel (he _)
    · exact EE.rel he (fun p hp => h p (List.mem_cons_of_mem _ hp)) i

theorem bget_mem : ∀ {bl : Blks} {id : Nat} {b : Blk}, bget id bl = some b → (id, b) ∈ bl
  | [], id, b, h => by simp [bget] at h
  | (s, c) :: r, id, b, h => by
    rw [bget_cons] at h
    split at h
    · rename_i e; subst e; cases h; exact List.mem_cons_self ..
    · exact List.mem_cons_of_mem _ (bget_mem h)

theorem Ent2.rep {S S' : St} (h : Ent2 base π S S') (hbase : Y.base base) {a : Act} (hR : Rep P N Y ι μ S a w) : Rep P N Y ι (μ.ren π) S' a w := by
  have hI := hR.inv
  have hle : Y.m0.le (μ.ren π) := fun id L hL => by
    have hlt : id < base := by
      rcases Nat.lt_or_ge id base with h | h
      · exact h
      · rw [hbase id h] at hL; cases hL
    have : π[id]? = some id := by
      have e1 : (π.take base)[id]? = (List.range base)[id]? := by rw [h.pre]
      rw [List.getElem?_take, if_pos hlt, List.getElem?_range hlt] at e1
      exact e1
    simp [Mu.ren, this, hI.m0 id L hL]
  refine ⟨h.env.rel hR.env, hR.sz, ⟨hI.below, hI.i0, hI.iB, hI.rd, hle, fun id hid => ?_, fun id B hB => ?_, ?_, fun id B hB => ?_⟩, ?_⟩
  · have : π[id]? = none := List.getElem?_eq_none (by rw [← h.nx]; exact hid)
    simp [Mu.ren, this]
  · obtain ⟨i, e1, hb⟩ := h.bl _ (bget_mem hB)
    have hmu : (μ.ren π) id = μ i := by simp only [Mu.ren]; rw [e1]; rfl
    cases B with
    | cells cs fz =>
      obtain ⟨ds, e2, hev⟩ := hb
      obtain ⟨L, vs, hM, hRL⟩ := hI.live i _ e2
      exact ⟨L, vs, ⟨by rw [hmu]; exact hM.mu, hM.old, hM.row, hM.fits, hM.one, hM.fzT, hM.fzF⟩, RelL.ren hev.1 (fun i v u hv hu => fun {x} hr => (hev.2 i v u hv hu).rel hr) hRL⟩
    | arr t xs fz =>
      rcases hb with e2 | ⟨rfl, hge⟩
      · rcases hI.live i _ e2 with ⟨e, hn⟩ | ⟨L, vs, hM, hc, hl⟩
        · exact .inl ⟨e, by rw [hmu]; exact hn⟩
        · exact .inr ⟨L, vs, ⟨by rw [hmu]; exact hM.mu, hM.old, hM.row, hM.fits, hM.one, hM.fzT, hM.fzF⟩, hc, hl⟩
      · exact .inl ⟨rfl, by rw [hmu]; exact hI.nx i hge⟩
    | loop st j d env ps as bd N =>
      obtain ⟨d0, env0, e2, e3, hee⟩ := hb
      obtain ⟨L, r, Ld, q1, q2, q3, q4, q5, q6, q7, q8, q9, q10, q11, q12, q13⟩ := hI.live i _ e2
      exact ⟨L, r, Ld, by rw [hmu]; exact q1, q2, q3, q4, q5, hee.rel q6, q7, q8, q9, q10, q11, by simp only [Mu.ren]; rw [e3]; exact q12, q13⟩
    | dfr =>
      obtain ⟨L, q1, q2, q3⟩ := hI.live i _ hb
      exact ⟨L, by rw [hmu]; exact q1, q2, q3⟩
  · intro id id' B B' L L' hb hb' hm hm' e
    obtain ⟨i, e1, hbk⟩ := h.bl _ (bget_mem hb)
    obtain ⟨i', e1', hbk'⟩ := h.bl _ (bget_mem hb')
    simp only at e1 e1'
    have hmu : (μ.ren π) id = μ i := by simp only [Mu.ren]; rw [e1]; rfl
    have hmu' : (μ.ren π) id' = μ i' := by simp only [Mu.ren]; rw [e1']; rfl
    rw [hmu] at hm; rw [hmu'] at hm'
    have live : ∀ {i : Nat} {B : Blk} {id : Nat} {L : Loc}, EBk π S.H.next S.H.bl id B → π[id]? = some i → μ i = some L → ∃ C, bget i S.H.bl = some C := by
      intro i B id L hbk e hm
      obtain ⟨i2, e2, hb2⟩ := hbk
      rw [e] at e2; cases e2
      cases B with
      | cells cs fz => obtain ⟨ds, e2, _⟩ := hb2; exact ⟨_, e2⟩
      | arr t xs fz =>
        rcases hb2 with e2 | ⟨_, hge⟩
        · exact ⟨_, e2⟩
        · rw [hI.nx i hge] at hm; cases hm
      | loop st j d env ps as bd N => obtain ⟨d0, env0, e2, _⟩ := hb2; exact ⟨_, e2⟩
      | dfr => exact ⟨_, hb2⟩
    obtain ⟨C, hC⟩ := live (h.bl _ (bget_mem hb)) e1 hm
    obtain ⟨C', hC'⟩ := live (h.bl _ (bget_mem hb')) e1' hm'
    have := hI.inj i i' C C' L L' hC hC' hm hm' e
    subst this
    exact h.inj _ (bget_mem hb) _ (bget_mem hb') (e1.trans e1'.symm)
  · obtain ⟨i, e1, _⟩ := h.bl _ (bget_mem hB)
    have := (List.getElem?_eq_some_iff.1 e1).1
    rw [h.nx]; exact this
  · have key : ∀ {ms ms' : List Nat} {ds : List Deferred}, ms'.map (fun i => π[i]?) = ms.map some → MarksR μ ms ds → MarksR (μ.ren π) ms' ds := by
      intro ms
      induction ms with
      | nil => intro ms' ds e hm; cases ms' <;> simp at e; exact hm
      | cons i ms ih =>
        intro ms' ds e hm
        cases ms' with
        | nil => simp at e
        | cons i' ms' =>
          simp only [List.map_cons, List.cons.injEq] at e
          obtain ⟨L, d, ds', q1, q2, q3, q4⟩ := hm
          exact ⟨L, d, ds', q1, by simp [Mu.ren, e.1, q2], q3, ih e.2 q4⟩
    exact key h.ms hR.ms

/-- Rounds, at most so many. -/
def iterF {α β : Type} (step : α → Option (α ⊕ β)) : Nat → α → Option β
  | 0, _ => none
  | n + 1, x => match step x with
    | none => none
    | some (.inl y) => iterF step n y
    | some (.inr b) => some b

/-- What rounds come to, if they end. -/
noncomputable def iter {α β : Type} (step : α → Option (α ⊕ β)) (x : α) : Option β := by
  classical exact if h : ∃ n b, iterF step n x = some b then some h.choose_spec.choose else none

theorem iterF_det {α β : Type} {step : α → Option (α ⊕ β)} : ∀ {n m : Nat} {x : α} {b c : β}, iterF step n x = some b → iterF step m x = some c → b = c
  | 0, _, _, _, _, h, _ => by cases h
  | _ + 1, 0, _, _, _, _, h => by cases h
  | n + 1, m + 1, x, b, c, h, h' => by
    simp only [iterF] at h h'
    split at h
    · cases h
    · rename_i y e; rw [e] at h'; exact iterF_det h h'
    · rename_i b' e; rw [e] at h'; cases h; cases h'; rfl

theorem iter_of {α β : Type} {step : α → Option (α ⊕ β)} {n : Nat} {x : α} {b : β} (h : iterF step n x = some b) : iter step x = some b := by
  unfold iter
  have h' : ∃ n b, iterF step n x = some b := ⟨n, b, h⟩
  rw [dif_pos h']
  exact congrArg some (iterF_det h'.choose_spec.choose_spec h)

theorem iter_some {α β : Type} {step : α → Option (α ⊕ β)} {x : α} {b : β} (h : iter step x = some b) : ∃ n, iterF step n x = some b := by
  unfold iter at h
  split at h
  · rename_i h'; cases h; exact ⟨_, h'.choose_spec.choose_spec⟩
  · cases h

theorem iter_inl {α β : Type} {step : α → Option (α ⊕ β)} {x y : α} {b : β} (h : step x = some (.inl y)) (h' : iter step y = some b) : iter step x = some b := by
  obtain ⟨n, hn⟩ := iter_some h'
  exact iter_of (n := n + 1) (by simp [iterF, h, hn])

theorem iter_inr {α β : Type} {step : α → Option (α ⊕ β)} {x : α} {b : β} (h : step x = some (.inr b)) : iter step x = some b :=
  iter_of (n := 1) (by simp [iterF, h])

/-- Rounds, by what holds at their head for some k, the less the nearer to the end. -/
theorem iter_rule {α β κ : Type} {step : α → Option (α ⊕ β)} (g : κ → α) (m : κ → Nat) (Post : β → Prop) (Inv : κ → Prop)
    (h : ∀ k, Inv k → (∃ k', step (g k) = some (.inl (g k')) ∧ Inv k' ∧ m k' < m k) ∨ ∃ b, step (g k) = some (.inr b) ∧ Post b) : ∀ k, Inv k → ∃ b, iter step (g k) = some b ∧ Post b := by
  intro k
  generalize hn : m k = n
  induction n using Nat.strongRecOn generalizing k with
  | _ n ih =>
    intro hk
    rcases h k hk with ⟨k', h1, h2, h3⟩ | ⟨b, h1, h2⟩
    · obtain ⟨b, q1, q2⟩ := ih (m k') (hn ▸ h3) k' rfl h2
      exact ⟨b, iter_inl h1 q1, q2⟩
    · exact ⟨b, iter_inr h1, h2⟩

/-- A loop whose rounds are a function's. -/
theorem loop_iter (hdraw : DrawOk P N out base) {α β : Type} {I : α → St} {X : β → Ex × St} {step : α → Option (α ⊕ β)} {c : C}
    (hstep : ∀ x r, step x = some r → wpE (std P N out base) c (I x) fun e S' => match r with
      | .inl y => e = .normal ∧ ∃ π, Ent2 base π S' (I y)
      | .inr b => e ≠ .normal ∧ e = (X b).1 ∧ ∃ π, Ent2 base π S' (X b).2)
    {x : α} {b : β} (hx : iter step x = some b) {S : St} {π : List Nat} (hS : Ent2 base π S (I x)) {K : Ex → St → Prop} (hK : K (X b).1 (X b).2) : (std P N out base).loop c S K := by
  obtain ⟨n, hn⟩ := iter_some hx
  intro body hbody Y ι μ a w ho hb hR
  refine wpIn_loop_ghost (fun (n : Nat) a w => ∃ x ι μ, Rep P N Y ι μ (I x) a w ∧ iterF step n x = some b) id (x := n) ⟨x, ι, _, hS.rep hb hR, hn⟩ ?_
  rintro n a w ⟨x, ι, μ, hR, hx⟩
  cases n with
  | zero => cases hx
  | succ n =>
    simp only [iterF] at hx
    split at hx
    · cases hx
    · rename_i y e
      refine wpIn_mono (wpE_sound hdraw body hbody (hstep x _ e) Y ι μ a w ho hb hR) fun e a' w' hp => ?_
      obtain ⟨ι', μ', S', e', h1, h2, rfl, π', h3⟩ := hp
      cases h2
      exact ⟨n, ⟨y, ι', _, h3.rep hb h1, hx⟩, Nat.lt_succ_self n⟩
    · rename_i b' e
      cases hx
      refine wpIn_mono (wpE_sound hdraw body hbody (hstep x _ e) Y ι μ a w ho hb hR) fun e a' w' hp => ?_
      obtain ⟨ι', μ', S', e', h1, h2, hne, h3, π', h4⟩ := hp
      have hp : Post P N Y K e a' w' := ⟨ι', _, _, _, h4.rep hb h1, by rw [← h3]; exact h2, hK⟩
      cases e' with
      | normal => exact absurd rfl hne
      | exit id => cases h2; exact hp
      | ret => cases h2; exact hp
end
end Go.AM
