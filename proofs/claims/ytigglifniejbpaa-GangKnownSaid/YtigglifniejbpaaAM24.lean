/- A call of yield: a round of the loop. -/
import Derived.Test.YtigglifniejbpaaAM23
set_option linter.unusedVariables false
set_option linter.unusedSimpArgs false
namespace Go.AM

def bindP : List Nat → List V → List (Nat × V) → List (Nat × V)
  | p :: ps, v :: vs, env => bindP ps vs (setE p v env)
  | _, _, env => env

def roundEnd (id : Nat) (Q : V → Heap → Prop) (e : Ex) (S : St) : Prop := match bget id S.H.bl with
  | some (.loop .busy _ d env ps as bd N) => match e with
    | .normal => Q (.tf true) ⟨S.H.next, (id, .loop .ready none d env ps as bd N) :: bdel id S.H.bl⟩
    | .exit i => Q (.tf false) ⟨S.H.next, (id, .loop .done (some (.exit i)) d env ps as bd N) :: bdel id S.H.bl⟩
    | .ret => Q (.tf false) ⟨S.H.next, (id, .loop .done (some .ret) d env ps as bd N) :: bdel id S.H.bl⟩
  | _ => False

/-- What a round asks: the loop's left sides, then its body. -/
def roundS (ar : Nat → Ar) (id : Nat) (vs : List V) (H : Heap) (Q : V → Heap → Prop) : Prop := match bget id H.bl with
  | some (.loop .ready none d env ps as bd N) => vs.length = ps.length ∧ wpE (ar N) as ⟨bindP ps vs env, H, []⟩ fun e S => match e with
    | .normal => match bget id S.H.bl with
      | some (.loop .ready none d' env' ps' as' bd' N') => wpE (ar N) bd ⟨S.env, ⟨S.H.next, (id, .loop .busy none d' env' ps' as' bd' N') :: bdel id S.H.bl⟩, S.ms⟩ (roundEnd id Q)
      | _ => False
    | _ => False
  | _ => False

section
variable {P : Program} {N : Nat} {Y : Ctx} {ι ι' : Iota} {μ μ' : Mu} {H : Heap} {w w' : World} {out : Option Nat} {base : Nat}

theorem bindP_rel : ∀ {ps : List Nat} {vs : List V} {args : List Value} {env : List (Nat × V)} {tmps : Array Value}, RelL ι μ vs args → (∀ p ∈ ps, p < N) → tmps.size = N → EnvR ι μ env tmps →
    EnvR ι μ (bindP ps vs env) ((ps.zip args).foldl (fun t (p, v) => t.setIfInBounds p v) tmps) ∧ ((ps.zip args).foldl (fun (t : Array Value) (p, v) => t.setIfInBounds p v) tmps).size = N
  | [], vs, args, env, tmps, hr, hp, hs, he => by simp only [bindP, List.zip_nil_left, List.foldl_nil]; exact ⟨he, hs⟩
  | p :: ps, [], args, env, tmps, hr, hp, hs, he => by rw [hr.of_nil]; simp only [bindP, List.zip_nil_right, List.foldl_nil]; exact ⟨he, hs⟩
  | p :: ps, v :: vs, args, env, tmps, hr, hp, hs, he => by
    obtain ⟨x, r, rfl, h1, h2⟩ := hr.uncons
    simp only [bindP, List.zip_cons_cons, List.foldl_cons]
    refine bindP_rel h2 (fun q hq => hp q (List.mem_cons_of_mem _ hq)) (by simp [hs]) fun t => ?_
    have hd' : p < N := hp p (List.mem_cons_self ..)
    rw [get_setE]
    by_cases h : p = t
    · subst h
      rw [if_pos rfl]
      have : (tmps.setIfInBounds p x).getD p undef = x := by simp [Array.getD, hs, hd']
      rw [this]; exact h1
    · rw [if_neg h]
      have : (tmps.setIfInBounds p x).getD t undef = tmps.getD t undef := by
        simp only [Array.getD_eq_getD_getElem?]
        rw [Array.getElem?_setIfInBounds_ne h]
      rw [this]; exact he t

theorem around_of {id : Nat} {vs : List V} {Q : V → Heap → Prop} (hdraw : ∀ N, DrawOk P N (some id) H.next) (h : roundS (fun N => std P N (some id) H.next) id vs H Q) : around P id vs H Q := by
  intro Y ι μ w args L hI hr hL
  unfold roundS at h
  split at h <;> try (exact h.elim)
  rename_i d env ps as bd N hb
  obtain ⟨hlen, h⟩ := h
  obtain ⟨L', r, Ld, q1, q2, q3, q4, q5, q6, q7, q8, q9, q10, q11, q12, q13⟩ := hI.live _ _ hb
  rw [hL] at q1; cases q1
  have hnc : ∀ (r : Loop) c e f, Obj.loop r ≠ .cells c e f := fun r c e f => by intro h; cases h
  have hsize : args.size = r.params.size := by have h1 := hr.1; have h2 : r.params.toList.length = ps.length := by rw [q7]
                                               simp at h1 h2; omega
  refine ⟨r.fn, _, r.assign, r.body, w, run_yield q3 hsize, roundIn_of_wpIn trivial ?_⟩
  let Y' : Ctx := ⟨Y.w0, ι, μ, some L.b, Y.x⟩
  obtain ⟨he1, he2⟩ := bindP_rel (env := env) hr q9 q8 q6
  have hzip : (r.params.zip args).foldl (fun tmps (x : Tmp × Value) => tmps.setIfInBounds x.1 x.2) r.tmps = (ps.zip args.toList).foldl (fun (t : Array Value) (p, v) => t.setIfInBounds p v) r.tmps := by
    rw [← Array.foldl_toList, Array.toList_zip, q7]
  have hR : Rep P N Y' ι μ ⟨bindP ps vs env, H, []⟩ { tmps := (r.params.zip args).foldl (fun tmps (x : Tmp × Value) => tmps.setIfInBounds x.1 x.2) r.tmps, defers := [] } w :=
    ⟨by rw [hzip]; exact he1, by rw [hzip]; exact he2, hI.down _, rfl⟩
  have hbase : Y'.base H.next := fun id hid => hI.nx id hid
  have hout : OutOk Y' (some id) := ⟨L, hL, rfl⟩
  refine wpIn_mono (wpE_sound (hdraw N) r.assign q10 h Y' ι μ _ w hout hbase hR) fun e a1 w1 hp => ?_
  obtain ⟨ι1, μ1, S1, e1, hR1, hx1, hq1⟩ := hp
  cases e1 with
  | exit i => exact hq1.elim
  | ret => exact hq1.elim
  | normal =>
    cases hx1
    simp only at hq1
    split at hq1 <;> try (exact hq1.elim)
    rename_i d1 env1 ps1 as1 bd1 N1 hb1
    obtain ⟨L1, r1, Ld1, p1, p2, p3, p4, p5, p6, p7, p8, p9, p10, p11, p12, p13⟩ := hR1.inv.live _ _ hb1
    have hL1 : μ1 id = some L := hR1.inv.m0 _ _ hL
    rw [hL1] at p1; cases p1
    refine ⟨_, run_beginRound p3 p4, ?_⟩
    have hlt1 : L.b < w1.heap.size := (Array.getElem?_eq_some_iff.1 p3).1
    have hI2 := hR1.inv.reObj (o' := .loop { r1 with state := .busy }) (B' := .loop .busy none d1 env1 ps1 as1 bd1 N1) hb1 hL1 p3 (hnc _)
      ⟨L, { r1 with state := .busy }, Ld1, hL1, p2, World.putObj_heap_same hlt1, rfl, p5, p6, p7, p8, p9, p10, p11, p12, p13⟩
    have hR2 : Rep P N Y' ι1 μ1 ⟨S1.env, ⟨S1.H.next, (id, .loop .busy none d1 env1 ps1 as1 bd1 N1) :: bdel id S1.H.bl⟩, S1.ms⟩ a1 (w1.putObj L.b (.loop { r1 with state := .busy })) := ⟨hR1.env, hR1.sz, hI2, hR1.ms⟩
    refine wpIn_mono (wpE_sound (hdraw N) r.body q11 hq1 Y' ι1 μ1 _ _ hout hbase hR2) fun e a3 w3 hp => ?_
    obtain ⟨ι3, μ3, S3, e3, hR3, hx3, hq3⟩ := hp
    unfold roundEnd at hq3
    split at hq3 <;> try (exact hq3.elim)
    rename_i j3 d3 env3 ps3 as3 bd3 N3 hb3
    obtain ⟨L3, r3, Ld3, s1, s2, s3, s4, s5, s6, s7, s8, s9, s10, s11, s12, s13⟩ := hR3.inv.live _ _ hb3
    have hL3 : μ3 id = some L := hR3.inv.m0 _ _ hL
    rw [hL3] at s1; cases s1
    have hlt3 : L.b < w3.heap.size := (Array.getElem?_eq_some_iff.1 s3).1
    have fin : ∀ (jump : Option Code) (st : LState) (j : Option Ex) (v : V), stR st = (if jump.isNone then .ready else .done) → jumpR j jump → v = .tf jump.isNone → Q v ⟨S3.H.next, (id, .loop st j d3 env3 ps3 as3 bd3 N3) :: bdel id S3.H.bl⟩ →
        ∃ v w', (Instr.endRound L.b jump).run P w3 = .ok v w' ∧ EndR P Y ι μ Q (.returned v) w' := fun jump st j v h1 h2 h3 h4 => by
      have hI4 := hR3.inv.reObj (o' := .loop { r3 with state := if jump.isNone then .ready else .done, pending := jump }) (B' := .loop st j d3 env3 ps3 as3 bd3 N3) hb3 hL3 s3 (hnc _)
        ⟨L, { r3 with state := if jump.isNone then .ready else .done, pending := jump }, Ld3, hL3, s2, World.putObj_heap_same hlt3, h1.symm, h2, s6, s7, s8, s9, s10, s11, s12, s13⟩
      obtain ⟨u1, u2, u3⟩ := hI.up hI4
      subst h3
      exact ⟨_, _, run_endRound jump s3, _, ι3, μ3, _, _, rfl, u2, u3, u1, .tf _, h4⟩
    cases e3 with
    | normal => cases hx3; exact fin none .ready none _ rfl rfl rfl hq3
    | exit i => cases hx3; exact fin (some (.exit i)) .done (some (.exit i)) _ rfl rfl rfl hq3
    | ret => cases hx3; exact fin (some .ret) .done (some .ret) _ rfl rfl rfl hq3
end
end Go.AM
