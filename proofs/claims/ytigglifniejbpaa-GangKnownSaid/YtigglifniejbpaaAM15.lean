/- The small machine's code is the model's: what is said of calls, loops and rounds; a region's items. -/
import Derived.Test.YtigglifniejbpaaAM14
set_option linter.unusedVariables false
set_option linter.unusedSimpArgs false
namespace Go.AM

def Ctx.F (Y : Ctx) : Fence := { Fence.wide with round := Y.ro }

def MarksR (μ : Mu) : List Nat → List Deferred → Prop
  | [], ds => ds = []
  | id :: r, ds => ∃ L d ds', ds = d :: ds' ∧ μ id = some L ∧ d = { target := .collected L.b, args := #[] } ∧ MarksR μ r ds'

structure Rep (P : Program) (N : Nat) (Y : Ctx) (ι : Iota) (μ : Mu) (S : St) (a : Act) (w : World) : Prop where
  env : EnvR ι μ S.env a.tmps
  sz : a.tmps.size = N
  inv : Inv P Y ι μ S.H w
  ms : MarksR μ S.ms a.defers

def ExR : Ex → Exit → Prop
  | .normal, e => e = .normal
  | .exit id, e => e = .exit id
  | .ret, e => e = .ret

/-- Where the names of the caller end. -/
def Ctx.base (Y : Ctx) (b : Nat) : Prop := ∀ id, b ≤ id → Y.m0 id = none

def Post (P : Program) (N : Nat) (Y : Ctx) (Q : Ex → St → Prop) : Exit → Act → World → Prop := fun e a w => ∃ ι μ S e', Rep P N Y ι μ S a w ∧ ExR e' e ∧ Q e' S

/-- Within no round, or within one of the loop of that name. -/
def OutOk (Y : Ctx) : Option Nat → Prop
  | none => Y.ro = none
  | some id => ∃ L, Y.m0 id = some L ∧ Y.ro = some L.b

/-- Code, from whatever the state stands for. 'out': not within a round. -/
def awp (P : Program) (N : Nat) (out : Option Nat) (base : Nat) (c : Code) (S : St) (Q : Ex → St → Prop) : Prop :=
  ∀ Y ι μ a w, OutOk Y out → Y.base base → Rep P N Y ι μ S a w → c.wpIn Y.F 0 P (Post P N Y Q) a w

def Enters (P : Program) (f : Nat) : Prop := ∀ args w, (callFunc f args).run P w = .ok (.enter f args) w

def EndR (P : Program) (Y : Ctx) (ι : Iota) (μ : Mu) (Q : V → Heap → Prop) : Ending → World → Prop := fun e w' =>
  ∃ v ι' μ' r H', e = .returned v ∧ ι.le ι' ∧ μ.le μ' ∧ Inv P Y ι' μ' H' w' ∧ Rel ι' μ' r v ∧ Q r H'

/-- A call of a function. -/
def acall (P : Program) (f : Nat) (vs : List V) (H : Heap) (Q : V → Heap → Prop) : Prop :=
  Enters P f ∧ ∀ Y ι μ w (args : Array Value), Inv P Y ι μ H w → RelL ι μ vs args.toList → CallsIn Fence.wide 0 P f args w (EndR P Y ι μ Q)

/-- A call of yield. -/
def around (P : Program) (id : Nat) (vs : List V) (H : Heap) (Q : V → Heap → Prop) : Prop :=
  ∀ Y ι μ w (args : Array Value) L, Inv P Y ι μ H w → RelL ι μ vs args.toList → μ id = some L →
    ∃ f tmps as bd w1, (Instr.yield L.b args).run P w = .ok (.round L.b f tmps as bd) w1 ∧ RoundIn Fence.wide 0 P L.b f tmps as bd w1 (EndR P Y ι μ Q)

def Readable (ι : Iota) (w : World) : Prop := ∀ b o x, ι b o = some x → w.cell? ⟨b, o, none⟩ = some x

/-- A call whose arguments and result are data. -/
def pcall (P : Program) (f : Nat) (vs : List V) (r : V) : Prop :=
  Enters P f ∧ ∀ ι w (args : Array Value), Readable ι w → RelL ι (fun _ => none) vs args.toList → CallsIn Fence.wide 0 P f args w fun e w' =>
    ∃ v ι', e = .returned v ∧ ι.le ι' ∧ (∀ b o, b < w.heap.size → ι' b o = ι b o) ∧ Readable ι' w' ∧ RowKit.Below w.heap.size w w' ∧ Rel ι' (fun _ => none) r v

def std (P : Program) (N : Nat) (out : Option Nat) (base : Nat) : Ar := mkAr (acall P) (pcall P)
  (fun c S K => ∀ body, trC P N body = some c → awp P N out base (.loop body) S K)
  (around P)
  (fun f ps a b S K => ∀ fo pso ao bo, trO fo = some f → pso.toList = ps → trC P N ao = some a → trC P N bo = some b → awp P N out base (.rangeFunc fo pso ao bo) S K)

section
variable {P : Program} {N : Nat} {Y : Ctx} {ι ι' : Iota} {μ μ' : Mu} {H : Heap} {w w' : World} {out : Option Nat} {base : Nat}

theorem MarksR.mono (hm : μ.le μ') : ∀ {ids : List Nat} {ds : List Deferred}, MarksR μ ids ds → MarksR μ' ids ds
  | [], _, h => h
  | _ :: _, _, ⟨L, d, ds', h1, h2, h3, h4⟩ => ⟨L, d, ds', h1, hm _ _ h2, h3, h4.mono hm⟩

theorem EnvR.put {env : List (Nat × V)} {a : Act} (he : EnvR ι μ env a.tmps) (hsz : a.tmps.size = N) {d : Option Nat} (hd : dstOk N d = true) {v : V} {x : Value} (hv : Rel ι μ v x) :
    EnvR ι μ (put d v env) (a.put d x).tmps ∧ (a.put d x).tmps.size = N ∧ (a.put d x).defers = a.defers := by
  cases d with
  | none => exact ⟨he, hsz, rfl⟩
  | some d =>
    have hd' : d < N := by simpa [dstOk] using hd
    refine ⟨fun t => ?_, by simp [Act.put, hsz], rfl⟩
    simp only [AM.put, get_setE, Act.put]
    by_cases h : d = t
    · subst h
      rw [if_pos rfl]
      have : (a.tmps.setIfInBounds d x).getD d undef = x := by simp [Array.getD, hsz, hd']
      rw [this]; exact hv
    · rw [if_neg h]
      have : (a.tmps.setIfInBounds d x).getD t undef = a.tmps.getD t undef := by
        simp only [Array.getD_eq_getD_getElem?]
        rw [Array.getElem?_setIfInBounds_ne h]
      rw [this]; exact he t

theorem Rep.put {S : St} {a : Act} (h : Rep P N Y ι μ S a w) {d : Option Nat} (hd : dstOk N d = true) {ι' : Iota} {μ' : Mu} (hi : ι.le ι') (hm : μ.le μ') {H' : Heap} {w' : World} (hinv : Inv P Y ι' μ' H' w')
    {v : V} {x : Value} (hv : Rel ι' μ' v x) : Rep P N Y ι' μ' ⟨AM.put d v S.env, H', S.ms⟩ (a.put d x) w' := by
  obtain ⟨h1, h2, h3⟩ := (h.env.mono hi hm).put h.sz hd hv
  exact ⟨h1, h2, hinv, by rw [h3]; exact h.ms.mono hm⟩

theorem yielded_of {env : List (Nat × V)} {a : Act} (he : EnvR ι μ env a.tmps) {ops : Array Oper} {j d : Nat} {o : Oper} (ho : ops[j]? = some o) (hd : o.dst = some d) {b : Bool}
    (hv : get d env = .tf b ∨ get d env = .bool b) : yielded ops a.tmps j = some b := by
  have hr := he d
  have : a.tmps.getD d undef = .bool b := by
    generalize a.tmps.getD d undef = x at hr
    rcases hv with hv | hv <;> rw [hv] at hr <;> cases hr <;> rfl
  rw [Array.getD_eq_getD_getElem?] at this
  unfold yielded
  simp only [ho, Option.bind_some, hd]
  cases hq : a.tmps[d]? with
  | none => rw [hq] at this; cases this
  | some x => rw [hq] at this; simp at this; subst this; rfl

theorem yielded_tup {env : List (Nat × V)} {a : Act} (he : EnvR ι μ env a.tmps) {ops : Array Oper} {j d : Nat} {o : Oper} (ho : ops[j]? = some o) (hd : o.dst = some d) {vs : List V}
    (hv : get d env = .tup vs) : yielded ops a.tmps j = none := by
  have hr := he d
  have : ∃ xs, a.tmps.getD d undef = .tuple xs := by
    generalize a.tmps.getD d undef = x at hr
    rw [hv] at hr; cases hr; exact ⟨_, rfl⟩
  obtain ⟨xs, this⟩ := this
  rw [Array.getD_eq_getD_getElem?] at this
  unfold yielded
  simp only [ho, Option.bind_some, hd]
  cases hq : a.tmps[d]? with
  | none => rfl
  | some x => rw [hq] at this; simp at this; subst this; rfl

theorem Rel.und : Rel ι μ (.tup []) undef := .tup [] _ rfl (fun i v x hv => by simp at hv)

theorem AllB_iff : ∀ {ob : List Bool}, AllB ob → AllT ob
  | [], _ => fun b h => by cases h
  | [b], h => fun b' h' => by cases List.mem_singleton.1 h'; exact h
  | b :: c :: r, h => fun b' h' => by
    rcases List.mem_cons.1 h' with rfl | h'
    · exact h.1
    · exact AllB_iff h.2 b' h'

theorem wpOp_iff {ar : Ar} {dst : Option Nat} {i : I} {S : St} {K : St → Prop} (h : wpOp ar dst i S K) : ∃ ob v u, evI ar i S.env S.H.bl S.H.next = some (ob, v, u) ∧ AllT ob ∧
    K ⟨put dst v S.env, ⟨nextOf i.lays S.H.next S.H.next, bupd u S.H.bl⟩, S.ms⟩ := by
  have hn : nx1 i.lays S.H.next = nextOf i.lays S.H.next S.H.next := by
    unfold nextOf nx1; cases i.lays <;> simp
  unfold wpOp at h
  split at h
  · rename_i v u hev
    rw [hn] at h
    exact ⟨[], v, u, hev, (fun b hb => by cases hb), h⟩
  · rename_i ob v u _ hev
    rw [hn] at h
    exact ⟨ob, v, u, hev, AllB_iff h.1, h.2⟩
  · exact h.elim

/-- What is asked of the rest of a region. -/
def Next (P : Program) (N : Nat) (Y : Ctx) (K : St → Prop) (next : Act → World → Prop) : Prop := ∀ ι μ S a w, Rep P N Y ι μ S a w → K S → next a w

theorem run_call_fn {a : Act} {f : Operand} {args : Array Operand} {tys : Array TypeId} {o : Oper} (ho : o.op = .call { callee := .value f, args := args, argTypes := tys }) {fid : Nat} {xs ys : Array Value}
    (hf : a.eval f = .func (.func fid) xs ys) (hent : Enters P fid) (w : World) : (execOp a.eval o).run P w = .ok (.enter fid (xs ++ args.map a.eval ++ ys)) w := by
  have := hent (xs ++ args.map a.eval ++ ys) w
  simp only [Array.append_assoc] at this
  simp [execOp, ho, resolve, hf, Deferred.ofValue, invoke, this]

theorem op_ok {F : Fence} (hF : ∀ f, F.fn f) (hdep : F.depth = none) {ops : Array Oper} {i : Nat} {rest : List Nat} {o : Oper} (ho : ops[i]? = some o) {a : Act} {w : World} {Q : Exit → Act → World → Prop}
    (hw : Region.wanted o (yielded ops a.tmps) = true) (hdef : ∀ c, o.op ≠ .defer c) {x : Value} {w' : World}
    (hrun : (execOp a.eval o).run P w = .ok (.value x) w' ∨ ((execOp a.eval o).run P w = .ok .skip w' ∧ x = undef)) (hk : wpOpsIn F 0 P ops Q rest (a.put o.dst x) w') :
    wpOpsIn F 0 P ops Q (i :: rest) a w := by
  simp only [wpOpsIn, ho, hw, if_true, Oper.wpIn]
  refine ⟨fun f _ => hF f, ?_⟩
  rw [Oper.semAt_eq _ _ _ hdef]
  rcases hrun with h | ⟨h, rfl⟩ <;> rw [h] <;> exact hk

theorem op_skip {F : Fence} (hF : ∀ f, F.fn f) {ops : Array Oper} {i : Nat} {rest : List Nat} {o : Oper} (ho : ops[i]? = some o) {a : Act} {w : World} {Q : Exit → Act → World → Prop}
    (hw : Region.wanted o (yielded ops a.tmps) = false) (hk : wpOpsIn F 0 P ops Q rest (a.put o.dst undef) w) :
    wpOpsIn F 0 P ops Q (i :: rest) a w := by
  simp only [wpOpsIn, ho, hw, Bool.false_eq_true, if_false]
  exact ⟨fun f _ => hF f, hk⟩

theorem trI_defer {op : Op} {i : I} (h : trI P op = some i) : ∀ c, op ≠ .defer c := fun c e => by subst e; simp [trI] at h

/-- A call, of a function or of yield, as a region's item. -/
theorem call_ok {ops : Array Oper} {i : Nat} {rest : List Nat} {o : Oper} (ho : ops[i]? = some o) {a : Act} {w : World} {Q : Exit → Act → World → Prop} {S : St} (hR : Rep P N Y ι μ S a w)
    (hw : Region.wanted o (yielded ops a.tmps) = true) {f : Operand} {args : Array Operand} {tys : Array TypeId} (hop : o.op = .call { callee := .value f, args := args, argTypes := tys })
    {fo : O} {as : List O} (hf : trO f = some fo) (ha : trOs args.toList = some as) (hd : dstOk N o.dst = true) {ts : List (Option Ty)} {K : St → Prop} (hK : wpCall (std P N out base) o.dst fo as ts S K)
    (hn : Next P N Y K (wpOpsIn Y.F 0 P ops Q rest)) : wpOpsIn Y.F 0 P ops Q (i :: rest) a w := by
  simp only [wpOpsIn, ho, hw, if_true, Oper.wpIn]
  refine ⟨fun f _ => trivial, ?_⟩
  rw [Oper.semAt_eq _ _ _ (by rw [hop]; simp)]
  have rf := trO_rel hR.env hf
  have ra := trOs_rel hR.env ha
  unfold wpCall at hK
  split at hK
  · rename_i fid fs cs hfe
    rw [hfe] at rf
    generalize hg : a.eval f = fv at rf
    cases rf with
    | fn _ _ _ xs ys h1 h2 h3 h4 =>
      obtain ⟨hent, hcall⟩ := hK
      rw [run_call_fn hop hg hent]
      have rl : RelL ι μ (fs ++ normL ts (as.map (·.ev S.env)) ++ cs) (xs ++ args.map a.eval ++ ys).toList := by
        have r1 : RelL ι μ fs xs.toList := ⟨by simpa using h1, fun i v x hv hx => h2 i v x hv (by simpa using hx)⟩
        have r2 : RelL ι μ cs ys.toList := ⟨by simpa using h3, fun i v x hv hx => h4 i v x hv (by simpa using hx)⟩
        have := (r1.append (normL_rel (ts := ts) ra)).append r2
        simpa using this
      refine ⟨fun h => by simp [Ctx.F, Fence.wide] at h, ?_⟩
      refine CallsIn.mono (F := Y.F) (hcall Y ι μ w _ hR.inv rl) ?_
      rintro e w' ⟨v, ι', μ', r, H', rfl, hi, hm, hinv, hv, hq⟩
      exact hn _ _ _ _ _ (hR.put hd hi hm hinv hv) hq
  · rename_i id hfe
    rw [hfe] at rf
    generalize hg : a.eval f = fv at rf
    cases rf with
    | yl _ L hL =>
      obtain ⟨f', tmps, as', bd, w1, hy, hround⟩ := hK Y ι μ w (args.map a.eval) L hR.inv (by simpa using normL_rel (ts := ts) ra) hL
      have : (execOp a.eval o).run P w = .ok (.round L.b f' tmps as' bd) w1 := by
        simp [execOp, hop, resolve, hg, Deferred.ofValue, invoke, hy]
      rw [this]
      refine ⟨fun h => by simp [Ctx.F, Fence.wide] at h, ?_⟩
      refine RoundIn.mono (F := Y.F) hround ?_
      rintro e w' ⟨v, ι', μ', r, H', rfl, hi, hm, hinv, hv, hq⟩
      exact hn _ _ _ _ _ (hR.put hd hi hm hinv hv) hq
  · exact hK.elim

/-- A guard: run, or passed over. -/
theorem guard_ok {ops : Array Oper} {i : Nat} {rest : List Nat} {o : Oper} (ho : ops[i]? = some o) {a : Act} {w : World} {Q : Exit → Act → World → Prop} {S : St} (hR : Rep P N Y ι μ S a w)
    {g : Option (Nat × Bool)} (hg : trG ops o.guard = some g) (hd : dstOk N o.dst = true) {K : St → Prop} {run : St → Prop} (h : wpGuard g o.dst S K run)
    (hn : Next P N Y K (wpOpsIn Y.F 0 P ops Q rest))
    (hrun : ∀ S', Rep P N Y ι μ S' a w → run S' → Region.wanted o (yielded ops a.tmps) = true → wpOpsIn Y.F 0 P ops Q (i :: rest) a w) : wpOpsIn Y.F 0 P ops Q (i :: rest) a w := by
  cases hog : o.guard with
  | none =>
    rw [hog] at hg; cases hg
    exact hrun S hR h (by simp [Region.wanted, hog])
  | some jb =>
    obtain ⟨j, b⟩ := jb
    rw [hog] at hg
    simp only [trG] at hg
    split at hg <;> try (cases hg; done)
    rename_i oj hoj
    split at hg <;> try (cases hg; done)
    rename_i d hdj
    cases hg
    have want : ∀ c, (get d S.env = .tf c ∨ get d S.env = .bool c) → Region.wanted o (yielded ops a.tmps) = (c == b) := fun c hc => by
      simp only [Region.wanted, hog, yielded_of hR.env hoj hdj hc]
      cases c <;> cases b <;> rfl
    have skip : ∀ S', Rep P N Y ι μ S' a w → Region.wanted o (yielded ops a.tmps) = false → K ⟨put o.dst (.tup []) S'.env, S'.H, S'.ms⟩ → wpOpsIn Y.F 0 P ops Q (i :: rest) a w := fun S' hR' hw hk =>
      op_skip (fun _ => trivial) ho hw (hn _ _ _ _ _ (hR'.put hd (Iota.le_refl _) (Mu.le_refl _) hR'.inv Rel.und) hk)
    have rw2ok : ∀ c, get d S.env = .bool c → Rep P N Y ι μ (rw2 d c S) a w := fun c hc =>
      ⟨fun t => by
        simp only [rw2, get_setE]
        by_cases ht : d = t
        · subst ht; rw [if_pos rfl]
          have := hR.env d; rw [hc] at this
          generalize hx : a.tmps.getD d undef = x at this
          cases this; exact .tf _
        · rw [if_neg ht]; exact hR.env t, hR.sz, hR.inv, hR.ms⟩
    simp only [wpGuard] at h
    split at h
    · rename_i c hc
      have hw := want c (.inl hc)
      cases c <;> cases b <;> simp only at h
      · exact hrun S hR h (by rw [hw]; rfl)
      · exact skip S hR (by rw [hw]; rfl) h
      · exact skip S hR (by rw [hw]; rfl) h
      · exact hrun S hR h (by rw [hw]; rfl)
    · rename_i c hc
      have hw := want c (.inr hc)
      have hr2 := rw2ok c hc
      obtain ⟨h1, h2⟩ := h
      cases c with
      | true =>
        have h1 := h1 rfl
        cases b
        · exact skip _ hr2 (by rw [hw]; rfl) h1
        · exact hrun _ hr2 h1 (by rw [hw]; rfl)
      | false =>
        have h2 := h2 rfl
        cases b
        · exact hrun _ hr2 h2 (by rw [hw]; rfl)
        · exact skip _ hr2 (by rw [hw]; rfl) h2
    · rename_i vs hc
      exact skip S hR (by simp only [Region.wanted, hog, yielded_tup hR.env hoj hdj hc]; rfl) h
    · exact h.elim

theorem items_ok {ops : Array Oper} {Q : Exit → Act → World → Prop} {K : St → Prop} (hend : Next P N Y K (Q .normal)) : ∀ {os : List Oper} {is : List Itm} {k : Nat}, trItms P N ops os = some is →
    (∀ j, os[j]? = ops[k + j]?) → ∀ {S : St} {a : Act} {w : World} {ι : Iota} {μ : Mu}, Rep P N Y ι μ S a w → wpItms (std P N out base) is S K → wpOpsIn Y.F 0 P ops Q (List.range' k os.length) a w
  | [], is, k, h, _, S, a, w, ι, μ, hR, hK => by cases h; exact hend _ _ _ _ _ hR hK
  | o :: os, is, k, h, hk, S, a, w, ι, μ, hR, hK => by
    unfold trItms at h
    split at h <;> try (cases h; done)
    rename_i it its hit hits
    cases h
    have ho : ops[k]? = some o := by have := hk 0; simpa using this.symm
    have hk' : ∀ j, os[j]? = ops[k + 1 + j]? := fun j => by have := hk (j + 1); rw [show k + (j + 1) = k + 1 + j by omega] at this; simpa using this
    have hn : Next P N Y (fun S => wpItms (std P N out base) its S K) (wpOpsIn Y.F 0 P ops Q (List.range' (k + 1) os.length)) := fun ι μ S a w hR hK => items_ok hend hits hk' hR hK
    simp only [List.length_cons, List.range'_succ]
    unfold trItm at hit
    split at hit <;> try (cases hit; done)
    rename_i hd
    split at hit <;> try (cases hit; done)
    rename_i g hg
    split at hit
    · rename_i f args tys hop
      split at hit <;> try (cases hit; done)
      rename_i fo as hf ha
      cases hit
      refine guard_ok ho hR hg hd hK hn fun S' hR' hrun hw => ?_
      exact call_ok ho hR' hw hop hf ha hd hrun hn
    · rename_i op _
      split at hit <;> try (cases hit; done)
      rename_i i hi
      cases hit
      refine guard_ok ho hR hg hd hK hn fun S' hR' hrun hw => ?_
      obtain ⟨ob, v, u, hev, hob, hk⟩ := wpOp_iff hrun
      have hnone := hR'.inv.nx S'.H.next (Nat.le_refl _)
      obtain ⟨ι', μ', x, w', hx, hi', hm, _, hinv, hv⟩ := evI_sound hR'.inv hnone hR'.env hi hev hob
      exact op_ok (fun _ => trivial) rfl ho hw (trI_defer hi) hx (hn _ _ _ _ _ (hR'.put hd hi' hm hinv hv) hk)
end
end Go.AM
