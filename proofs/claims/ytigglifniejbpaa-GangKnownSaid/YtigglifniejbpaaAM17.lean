/- A function's contract: data in, data out. -/
import Derived.Test.YtigglifniejbpaaAM16
set_option linter.unusedVariables false
set_option linter.unusedSimpArgs false
namespace Go.AM

def loadV (bl : Blks) (g : Bool) (k : Nat) : V → Option V
  | .ptr id off => match bget id bl with
    | some (.cells cs _) => match cut off k cs with
      | some vs => wrapC g vs
      | none => none
    | _ => none
  | .ipc cs => match cut 0 k cs with
    | some vs => wrapC g vs
    | none => none
  | _ => none

def resV (S : St) : List RV → Option (List V)
  | [] => some []
  | .t n :: r => match resV S r with
    | some vs => some (get n S.env :: vs)
    | none => none
  | .cell n g k :: r => match loadV S.H.bl g k (get n S.env) with
    | some v => match resV S r with
      | some vs => some (v :: vs)
      | none => none
    | none => none

def mkRes : List V → V
  | [v] => v
  | vs => .tup vs

/-- The blocks for deferred calls are there, and go. -/
def shutAll : List Nat → Blks → Option Blks
  | [], bl => some bl
  | id :: r, bl => match bget id bl with
    | some .dfr => shutAll r (bdel id bl)
    | _ => none

/-- At a function's end: its result as data goes to K. -/
def RetD (ar : Ar) (res : List RV) (tys : List (Option Ty)) (K : V → Prop) : Ex → St → Prop := fun e S => match e with
  | .exit _ => False
  | .normal => RetS ar res tys K S
  | .ret => RetS ar res tys K S
where RetS (ar : Ar) (res : List RV) (tys : List (Option Ty)) (K : V → Prop) (S : St) : Prop := match shutAll S.ms S.H.bl with
  | some bl => match resV ⟨S.env, ⟨S.H.next, bl⟩, []⟩ res with
    | some vs => match fin ar bl 8 (mkRes (normL tys vs)) with
      | some r => K r
      | none => False
    | none => False
  | none => False

/-- At a function's end: its result goes to K, with the heap. -/
def RetH (res : List RV) (tys : List (Option Ty)) (K : V → Heap → Prop) : Ex → St → Prop := fun e S => match e with
  | .exit _ => False
  | .normal => RetS res tys K S
  | .ret => RetS res tys K S
where RetS (res : List RV) (tys : List (Option Ty)) (K : V → Heap → Prop) (S : St) : Prop := match shutAll S.ms S.H.bl with
  | some bl => match resV ⟨S.env, ⟨S.H.next, bl⟩, []⟩ res with
    | some vs => K (mkRes (normL tys vs)) ⟨S.H.next, bl⟩
    | none => False
  | none => False

section
variable {P : Program} {N : Nat} {Y : Ctx} {ι ι' : Iota} {μ μ' : Mu} {H : Heap} {w w' : World} {out : Option Nat} {base : Nat}
  {c1 : Nat → List V → Heap → (V → Heap → Prop) → Prop} {c2 : Nat → List V → V → Prop} {c3 : C → St → (Ex → St → Prop) → Prop}

theorem isData_rel : ∀ {n : Nat} {v : V} {x : Value}, isData n v = true → Rel ι μ v x → Rel ι μ' v x
  | 0, v, x, h, _ => by cases h
  | n + 1, v, x, h, hr => by
    have all : ∀ {cs : List V} {i : Nat} {v : V}, cs.all (isData n) = true → cs[i]? = some v → isData n v = true := fun h hv => List.all_eq_true.1 h _ (List.mem_of_getElem? hv)
    cases hr <;> simp only [isData] at h <;> try (cases h; done)
    case any => exact .any _
    case tf => exact .tf _
    case bool => exact .bool _
    case int => exact .int _ _
    case str => exact .str _
    case nilp => exact .nilp
    case nilfn => exact .nilfn
    case nili => exact .nili
    case lst t xs hd => exact .lst t xs _ hd
    case nsl => exact .nsl _
    case ipc cs b o g h1 h2 h3 => exact .ipc cs b o g h1 (fun i v hv => isData_rel (all h hv) (h2 i v hv)) h3
    case ip t x b o us h1 h2 => exact .ip t x b o us h1 h2
    case fn f fs cs xs ys h1 h2 h3 h4 =>
      simp only [Bool.and_eq_true] at h
      exact .fn f fs cs xs ys h1 (fun i v x hv hx => isData_rel (all h.1 hv) (h2 i v x hv hx)) h3 (fun i v x hv hx => isData_rel (all h.2 hv) (h4 i v x hv hx))
    case agg cs xs h1 h2 h3 => exact .agg cs xs h1 (fun i v x hv hx => isData_rel (all h hv) (h2 i v x hv hx)) h3
    case tup cs xs h1 h2 => exact .tup cs xs h1 (fun i v x hv hx => isData_rel (all h hv) (h2 i v x hv hx))
    case ifc t v x hv => exact .ifc t v x (isData_rel h hv)

/-- All that lies in new blocks is read for ever. -/
noncomputable def Iota.all (ι : Iota) (B : Nat → Prop) (w : World) : Iota := by
  classical exact fun b o => if B b then w.cell? ⟨b, o, none⟩ else ι b o

theorem Iota.all_own {ι : Iota} {B : Nat → Prop} {w : World} {b o : Nat} (h : B b) : ι.all B w b o = w.cell? ⟨b, o, none⟩ := by unfold Iota.all; rw [if_pos h]
theorem Iota.all_not {ι : Iota} {B : Nat → Prop} {w : World} {b o : Nat} (h : ¬ B b) : ι.all B w b o = ι b o := by unfold Iota.all; rw [if_neg h]
theorem Iota.all_rd {ι : Iota} {B : Nat → Prop} {w : World} (hr : ∀ b o x, ι b o = some x → w.cell? ⟨b, o, none⟩ = some x) {b o : Nat} {x : Value} (h : ι.all B w b o = some x) : w.cell? ⟨b, o, none⟩ = some x := by
  unfold Iota.all at h; split at h
  · exact h
  · exact hr _ _ _ h

theorem Iota.le_all (h : ∀ b o x, ι b o = some x → w.cell? ⟨b, o, none⟩ = some x) {B : Nat → Prop} : ι.le (ι.all B w) := fun b o x hx => by
  unfold Iota.all; split
  · exact h _ _ _ hx
  · exact hx

theorem mapO_rel {g : V → Option V} (hg : ∀ v r x, g v = some r → Rel ι μ v x → Rel ι' μ' r x) : ∀ {cs ds : List V} {xs : List Value}, mapO g cs = some ds → RelL ι μ cs xs → RelL ι' μ' ds xs
  | [], ds, xs, h, hr => by cases h; rw [hr.of_nil]; exact .nil
  | v :: r, ds, xs, h, hr => by
    unfold mapO at h
    obtain ⟨x, xs', rfl, h1, h2⟩ := hr.uncons
    split at h <;> try (cases h; done)
    rename_i y hy
    split at h <;> try (cases h; done)
    rename_i ys hys
    cases h
    exact .cons (hg _ _ _ hy h1) (mapO_rel hg hys h2)

theorem fin_rel {ar : Ar} (hsub : ∀ {α : Type} (xs : List α) lo n, ar.sub' xs lo n = (xs.drop lo).take n) {bl : Blks} {nx : Nat} (hI : Inv P Y ι μ ⟨nx, bl⟩ w) :
    ∀ {n : Nat} {v r : V} {x : Value}, fin ar bl n v = some r → Rel ι μ v x → Rel (ι.all Y.own w) (fun _ => none) r x
  | 0, v, r, x, h, _ => by cases h
  | n + 1, v, r, x, h, hr => by
    have hle := Iota.le_all (B := Y.own) hI.rd
    have hreads : ∀ {L : Loc} {vs : List Value} {fz : Bool} {id : Nat}, Mem Y.own ι μ id fz w L vs → Reads (ι.all Y.own w) L.b L.ba vs := fun hM j v hv => by
      rw [Iota.all_own hM.old]
      exact hM.rangeAt j v hv
    have g : ∀ v r x, fin ar bl n v = some r → Rel ι μ v x → Rel (ι.all Y.own w) (fun _ => none) r x := fun v r x h hr => fin_rel hsub hI h hr
    have conv : ∀ {cs ds : List V} {xs : Array Value}, mapO (fin ar bl n) cs = some ds → cs.length = xs.size → (∀ (i : Nat) v x, cs[i]? = some v → xs[i]? = some x → Rel ι μ v x) → RelL (ι.all Y.own w) (fun _ => none) ds xs.toList :=
      fun hm h1 h2 => mapO_rel g hm ⟨by simpa using h1, fun i v x hv hx => h2 i v x hv (by simpa using hx)⟩
    cases hr <;> simp only [fin] at h <;> try (cases h; done)
    case any => cases h; exact .any _
    case tf => cases h; exact .tf _
    case bool => cases h; exact .bool _
    case int => cases h; exact .int _ _
    case str => cases h; exact .str _
    case nilp => cases h; exact .nilp
    case nilfn => cases h; exact .nilfn
    case nili => cases h; exact .nili
    case lst t xs hd => cases h; exact .lst t xs _ (CellsD.mono (t := .list t) hle hd)
    case nsl => cases h; exact .nsl _
    case sl id t lo m cap L hL h1 h2 h3 =>
      split at h <;> try (cases h; done)
      rename_i t' xs fz hb
      split at h <;> try (cases h; done)
      rename_i e; subst e
      cases h
      rw [hsub]
      have hF : Frozen (ι.all Y.own w) μ id t xs := by
        rcases hI.live _ _ hb with ⟨e, hn⟩ | ⟨L', vs, hM, hR, hl⟩
        · exact .inl ⟨e, hn⟩
        · exact .inr ⟨L', vs, hM.mu, hreads hM, CatR.mono (fun _ _ => CellsD.mono hle) hR, hl⟩
      exact .lst _ _ _ (hF.slice (.sl (ι := ι) id t lo m cap L hL h1 h2 h3))
    case sl0 id t lo a =>
      split at h <;> try (cases h; done)
      rename_i t' xs fz hb
      split at h <;> try (cases h; done)
      rename_i e; subst e
      cases h
      rw [hsub]
      exact .lst _ _ _ ⟨a, 0, by simp, by simp, .inl (by simp)⟩
    case ptr id off L hL =>
      split at h <;> try (cases h; done)
      rename_i cs fz hb
      split at h <;> try (cases h; done)
      rename_i ds hds
      split at h <;> try (cases h; done)
      rename_i hoff
      cases h
      obtain ⟨L', vs, hM, hR⟩ := hI.live _ _ hb
      rw [hM.mu] at hL; cases hL
      have hR' := mapO_rel g hds hR
      have hrd := hreads hM
      refine .ipc _ L.b (L.ba + off) (fun i => vs.getD (off + i) .nilIface) (fun i hi => ?_) (fun i v hv => ?_) (fun i => ?_)
      · have hlt : off + i < vs.length := by have := hR'.1; simp at hi; omega
        have : vs[off + i]? = some (vs.getD (off + i) .nilIface) := by simp [List.getD, hlt]
        rw [Nat.add_assoc]; exact hrd _ _ this
      · have hv' : ds[off + i]? = some v := by simpa using hv
        obtain ⟨y, hy, hry⟩ := hR'.at hv'
        simp only [List.getD, hy, Option.getD_some]; exact hry
      · by_cases hlt : off + i < vs.length
        · have : vs.getD (off + i) .nilIface = vs[off + i] := by simp [List.getD, hlt]
          rw [this]; exact hM.one _ (List.getElem_mem hlt)
        · have : vs.getD (off + i) .nilIface = .nilIface := by simp [List.getD, List.getElem?_eq_none (show vs.length ≤ off + i by omega)]
          rw [this]; rfl
    case ipc cs b o gf h1 h2 h3 =>
      split at h <;> try (cases h; done)
      rename_i hall
      cases h
      exact .ipc cs b o gf (fun i hi => hle _ _ _ (h1 i hi)) (fun i v hv => (isData_rel (List.all_eq_true.1 hall _ (List.mem_of_getElem? hv)) (h2 i v hv)).mono hle (Mu.le_refl _)) h3
    case ip t y b o us h1 h2 => cases h; exact .ip t y b o us (h1.mono hle) (CellsD.mono hle h2)
    case fn f fs cs xs ys h1 h2 h3 h4 =>
      split at h <;> try (cases h; done)
      rename_i as bs ha hb
      cases h
      have r1 := conv ha h1 h2
      have r2 := conv hb h3 h4
      exact .fn f as bs xs ys (by simpa using r1.1) (fun i v x hv hx => r1.2 i v x hv (by simpa using hx)) (by simpa using r2.1) (fun i v x hv hx => r2.2 i v x hv (by simpa using hx))
    case agg cs xs h1 h2 h3 =>
      split at h <;> try (cases h; done)
      rename_i ds hds
      cases h
      have r1 := conv hds h1 h2
      exact .agg ds xs (by simpa using r1.1) (fun i v x hv hx => r1.2 i v x hv (by simpa using hx)) h3
    case tup cs xs h1 h2 =>
      split at h <;> try (cases h; done)
      rename_i ds hds
      cases h
      have r1 := conv hds h1 h2
      exact .tup ds xs (by simpa using r1.1) (fun i v x hv hx => r1.2 i v x hv (by simpa using hx))
    case ifc t v x hv =>
      split at h <;> try (cases h; done)
      rename_i r' hr'
      cases h
      exact .ifc t r' x (g _ _ _ hr' hv)
end
end Go.AM
