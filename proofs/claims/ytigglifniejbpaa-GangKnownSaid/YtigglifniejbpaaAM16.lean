/- The small machine's code is the model's: sequences, tests, blocks, loops. -/
import Derived.Test.YtigglifniejbpaaAM15
set_option linter.unusedVariables false
set_option linter.unusedSimpArgs false
namespace Go.AM
section
variable {P : Program} {N : Nat} {Y : Ctx} {ι ι' : Iota} {μ μ' : Mu} {H : Heap} {w w' : World} {out : Option Nat} {base : Nat}

theorem Post.mono {Q Q' : Ex → St → Prop} (h : ∀ e S, Q e S → Q' e S) {e : Exit} {a : Act} (hp : Post P N Y Q e a w) : Post P N Y Q' e a w :=
  let ⟨ι, μ, S, e', hR, he, hq⟩ := hp; ⟨ι, μ, S, e', hR, he, h _ _ hq⟩

theorem awp.mono {c : Code} {S : St} {Q Q' : Ex → St → Prop} (h : awp P N out base c S Q) (hq : ∀ e S, Q e S → Q' e S) : awp P N out base c S Q' :=
  fun Y ι μ a w ho hb hR => wpIn_mono (h Y ι μ a w ho hb hR) fun _ _ _ hp => hp.mono hq

/-- A loop, by what holds at its head for some x, the less the nearer to its end. -/
theorem wpIn_loop_ghost {α : Type} {F : Fence} {n : Nat} {c : Code} {Q : Exit → Act → World → Prop} (I : α → Act → World → Prop) (m : α → Nat) {x : α} {a : Act} {w : World} (h₀ : I x a w)
    (round : ∀ x a w, I x a w → c.wpIn F n P (Exit.then (fun a' w' => ∃ y, I y a' w' ∧ m y < m x) Q) a w) : (Code.loop c).wpIn F n P Q a w := by
  intro b k cs hro hb hr
  have key : ∀ j x a w, m x = j → I x a w →
      ∃ e a' w', Q e a' w' ∧ ArrivesIn (Machine.fenced P F) P (lone (b.atR a (.code c :: .inLoop c :: k)) cs w) b k cs e a' w' := by
    intro j
    induction j using Nat.strongRecOn with
    | _ j ih =>
      intro x a w hn hI
      obtain ⟨e, a₁, w₁, hq, harr⟩ := round x a w hI b (.inLoop c :: k) cs hro hb hr
      cases e with
      | normal =>
        obtain ⟨y, hI₁, hlt⟩ := hq
        obtain ⟨e₂, a₂, w₂, hq₂, harr₂⟩ := ih (m y) (hn ▸ hlt) y a₁ w₁ rfl hI₁
        have h0 : (lone (b.atR a₁ (.inLoop c :: k)) cs w₁).fenced P F := fenced_calm hb hr rfl
        exact ⟨e₂, a₂, w₂, hq₂, .of_steps (StepsIn.trans harr (.one h0 stepR_inLoop)) harr₂⟩
      | exit id => exact ⟨_, a₁, w₁, hq, .pass (x := .inLoop c) rfl (fun _ _ => .inl (by simp)) harr⟩
      | goto l => exact ⟨_, a₁, w₁, hq, .pass (x := .inLoop c) rfl (fun _ _ => .inl (by simp)) harr⟩
      | ret => exact ⟨_, a₁, w₁, hq, .pass (x := .inLoop c) rfl (fun _ _ => .inl (by simp)) harr⟩
      | panic ch => exact ⟨_, a₁, w₁, hq, .pass (x := .inLoop c) rfl (fun _ _ => .inl (by simp)) harr⟩
      | outgrown => exact ⟨_, a₁, w₁, hq, .pass (x := .inLoop c) rfl (fun _ _ => .inl (by simp)) harr⟩
  obtain ⟨e, a', w', hq, harr⟩ := key _ x a w rfl h₀
  exact ⟨e, a', w', hq, .of_steps (.one (fenced_calm hb hr rfl) stepR_loop) harr⟩

theorem stepR_scope {b : Frame} {a : Act} {k : List Item} {cs : List Frame} {c : Code} : step P (lone (b.atR a (.code (.scope c) :: k)) cs w) = .next (lone (b.atR a (.code c :: .inScope c :: k)) cs w) :=
  step_lone_go (by simp [stepG, stepG.exec, Frame.atR])
theorem stepR_inScope {b : Frame} {a : Act} {k : List Item} {cs : List Frame} {c : Code} : step P (lone (b.atR a (.inScope c :: k)) cs w) = .next (lone (b.atR a k) cs w) :=
  step_lone_go (by simp [stepG, stepG.exec, Frame.atR])

theorem wpIn_scope {F : Fence} {n : Nat} {c : Code} {Q : Exit → Act → World → Prop} {a : Act} {w : World} (h : c.wpIn F n P Q a w) (hg : ∀ l a w, ¬ Q (.goto l) a w) : (Code.scope c).wpIn F n P Q a w := by
  intro b k cs hro hb hr
  obtain ⟨e, a₁, w₁, hq, harr⟩ := h b (.inScope c :: k) cs hro hb hr
  have h0 : ∀ a w k, (lone (b.atR a (.code (.scope c) :: k)) cs w).fenced P F := fun a w k => fenced_calm hb hr rfl
  have h1 : ∀ a w k, (lone (b.atR a (.inScope c :: k)) cs w).fenced P F := fun a w k => fenced_calm hb hr rfl
  cases e with
  | normal => exact ⟨.normal, a₁, w₁, hq, .head (h0 _ _ _) stepR_scope (StepsIn.trans harr (.one (h1 _ _ _) stepR_inScope))⟩
  | exit id => exact ⟨.exit id, a₁, w₁, hq, fun k' hk => .head (h0 _ _ _) stepR_scope (harr.1 k' (by simp [exitTo, hk])), fun hro' hk =>
      let ⟨k₁, e1, e2⟩ := harr.2 hro' (by simp [exitTo, hk]); ⟨k₁, e1, .head (h0 _ _ _) stepR_scope e2⟩⟩
  | goto l => exact absurd hq (hg _ _ _)
  | ret => exact ⟨_, a₁, w₁, hq, .of_steps (.one (h0 _ _ _) stepR_scope) harr⟩
  | panic ch => exact ⟨_, a₁, w₁, hq, .of_steps (.one (h0 _ _ _) stepR_scope) harr⟩
  | outgrown => exact ⟨_, a₁, w₁, hq, .of_steps (b := b) (k := k) (cs := cs) (e := .outgrown) (.one (h0 _ _ _) stepR_scope) harr⟩

/-- What a drawn region asks: it is owed apart. -/
def DrawOk (P : Program) (N : Nat) (out : Option Nat) (base : Nat) : Prop := ∀ (id : Nat) (ops : Array Oper) (is : List Itm), trItms P N ops ops.toList = some is → slotsOk (predsOf ops) is = true → edgesOk ops = true →
  ∀ S K, wpDraw (std P N out base) (predsOf ops) is S K → awp P N out base (.region id ops true) S fun e S => match e with | .normal => K S | _ => False

theorem wpE_sound (hdraw : DrawOk P N out base) : ∀ (code : Code) {c : C}, trC P N code = some c → ∀ {S : St} {K : Ex → St → Prop}, wpE (std P N out base) c S K → awp P N out base code S K := by
  intro code
  induction code with
  | skip => 
    intro c h S K hK Y ι μ a w ho hb hR
    cases h; exact wpIn_skip ⟨ι, μ, S, .normal, hR, rfl, hK⟩
  | label l =>
    intro c h S K hK Y ι μ a w ho hb hR
    cases h; exact wpIn_label ⟨ι, μ, S, .normal, hR, rfl, hK⟩
  | ret =>
    intro c h S K hK Y ι μ a w ho hb hR
    cases h; exact wpIn_ret ⟨ι, μ, S, .ret, hR, rfl, hK⟩
  | exit id =>
    intro c h S K hK Y ι μ a w ho hb hR
    cases h; exact wpIn_exit ⟨ι, μ, S, .exit id, hR, rfl, hK⟩
  | goto l => intro c h; cases h
  | refuse why => intro c h; cases h
  | scope b ih =>
    intro c h S K hK Y ι μ a w ho hb hR
    refine wpIn_scope (ih h hK Y ι μ a w ho hb hR) fun l a w hq => ?_
    obtain ⟨_, _, _, e', _, he, _⟩ := hq
    cases e' <;> cases he
  | region id ops draw =>
    intro c h S K hK Y ι μ a w ho hb hR
    simp only [trC] at h
    split at h <;> try (cases h; done)
    rename_i is his
    cases draw with
    | true =>
      simp only at h
      split at h <;> try (cases h; done)
      rename_i hchk
      cases h
      simp only [wpE] at hK
      refine wpIn_mono (hdraw id ops is his hchk.1 hchk.2 S _ hK Y ι μ a w ho hb hR) fun e a w hp => ?_
      obtain ⟨ι', μ', S', e', h1, h2, h3⟩ := hp
      cases e' <;> simp at h3
      exact ⟨ι', μ', S', .normal, h1, h2, h3⟩
    | false =>
      cases h
      simp only [wpE] at hK
      refine wpIn_region ?_
      have := items_ok (Y := Y) (Q := Post P N Y K) (K := fun S => K .normal S) (out := out) (base := base) (fun ι μ S a w hR hK => ⟨ι, μ, S, .normal, hR, rfl, hK⟩) (k := 0) his (fun j => by simp) hR hK
      rwa [Array.length_toList, ← List.range_eq_range'] at this
  | seq x y ihx ihy =>
    intro c h S K hK Y ι μ a w ho hb hR
    simp only [trC] at h
    split at h <;> try (cases h; done)
    rename_i cx cy hx hy
    cases h
    simp only [wpE] at hK
    refine wpIn_seq (wpIn_mono (ihx hx hK Y ι μ a w ho hb hR) fun e a' w' hp => ?_)
    obtain ⟨ι', μ', S', e', h1, h2, h3⟩ := hp
    cases e' with
    | normal => cases h2; exact ihy hy h3 Y ι' μ' a' w' ho hb h1
    | exit id => cases h2; exact ⟨ι', μ', S', .exit id, h1, rfl, h3⟩
    | ret => cases h2; exact ⟨ι', μ', S', .ret, h1, rfl, h3⟩
  | cond c0 x y ihx ihy =>
    intro c h S K hK Y ι μ a w ho hb hR
    simp only [trC] at h
    split at h <;> try (cases h; done)
    rename_i co cx cy hc hx hy
    cases h
    simp only [wpE] at hK
    have rc := trO_rel hR.env hc
    generalize hg : a.eval c0 = cv at rc
    split at hK
    · rename_i hce; rw [hce] at rc; cases rc
      exact wpIn_cond hg (ihx hx hK Y ι μ a w ho hb hR)
    · rename_i hce; rw [hce] at rc; cases rc
      exact wpIn_cond hg (ihy hy hK Y ι μ a w ho hb hR)
    · rename_i t hce; rw [hce] at rc; cases rc
      obtain ⟨k1, k2⟩ := hK
      have hrw : Rep P N Y ι μ (rwO co t S) a w := by
        cases co with
        | c v => exact hR
        | t d =>
          refine ⟨fun i => ?_, hR.sz, hR.inv, hR.ms⟩
          simp only [rwO, rw2, get_setE]
          by_cases hi : d = i
          · subst hi; rw [if_pos rfl]
            have := hR.env d
            have e1 : get d S.env = .bool t := hce
            rw [e1] at this
            generalize a.tmps.getD d undef = x at this
            cases this; exact .tf _
          · rw [if_neg hi]; exact hR.env i
      cases t with
      | true => exact wpIn_cond hg (ihx hx (k1 rfl) Y ι μ a w ho hb hrw)
      | false => exact wpIn_cond hg (ihy hy (k2 rfl) Y ι μ a w ho hb hrw)
    · exact hK.elim
  | block id b ih =>
    intro c h S K hK Y ι μ a w ho hb hR
    simp only [trC] at h
    cases hx : trC P N b <;> simp [hx] at h
    subst h
    simp only [wpE] at hK
    refine wpIn_block (wpIn_mono (ih hx hK Y ι μ a w ho hb hR) fun e a' w' hp => ?_)
    obtain ⟨ι', μ', S', e', h1, h2, h3⟩ := hp
    cases e' with
    | normal => cases h2; exact ⟨ι', μ', S', .normal, h1, rfl, h3⟩
    | exit id' =>
      cases h2
      simp only [Exit.inBlock]
      simp only at h3
      split at h3
      · rename_i hbeq
        rw [if_pos (Nat.eq_of_beq_eq_true hbeq)]
        exact ⟨ι', μ', S', .normal, h1, rfl, h3⟩
      · rename_i hbeq
        rw [if_neg (fun e => by subst e; rw [Nat.beq_refl] at hbeq; cases hbeq)]
        exact ⟨ι', μ', S', .exit id', h1, rfl, h3⟩
    | ret => cases h2; exact ⟨ι', μ', S', .ret, h1, rfl, h3⟩
  | loop b ih =>
    intro c h S K hK
    simp only [trC] at h
    cases hx : trC P N b <;> simp [hx] at h
    subst h
    exact hK b hx
  | rangeFunc f ps x y ihx ihy =>
    intro c h S K hK
    simp only [trC] at h
    split at h <;> try (cases h; done)
    rename_i fo cx cy hf hx hy
    cases h
    exact hK f ps x y hf rfl hx hy
end
end Go.AM
