/- Each operation of the small machine is the model's: all of them. -/
import Derived.Test.YtigglifniejbpaaAM11
set_option linter.unusedVariables false
set_option linter.unusedSimpArgs false
namespace Go.AM
section
variable {P : Program} {Y : Ctx} {ι ι' : Iota} {μ μ' : Mu} {H : Heap} {w w' : World}
  {c1 : Nat → List V → Heap → (V → Heap → Prop) → Prop} {c2 : Nat → List V → V → Prop} {c3 : C → St → (Ex → St → Prop) → Prop}
  {c4 : Nat → List V → Heap → (V → Heap → Prop) → Prop} {c5 : O → List Nat → C → C → St → (Ex → St → Prop) → Prop}

theorem offP_append : ∀ {t t1 : Ty} {p : List Bool} (q : List Bool), t.atP p = some t1 → t.offP (p ++ q) = t.offP p + t1.offP q
  | t, t1, [], q, h => by
    have : t = t1 := by cases t <;> (simp [Ty.atP] at h; exact h)
    subst this
    have h0 : t.offP [] = 0 := by cases t <;> rfl
    simp [h0]
  | .prod a b, t1, false :: p, q, h => by simp only [Ty.atP] at h; simp only [List.cons_append, Ty.offP]; exact offP_append q h
  | .prod a b, t1, true :: p, q, h => by simp only [Ty.atP] at h; simp only [List.cons_append, Ty.offP]; rw [offP_append q h]; omega
  | .unit, t1, b :: p, q, h => by cases b <;> simp [Ty.atP] at h
  | .bool, t1, b :: p, q, h => by cases b <;> simp [Ty.atP] at h
  | .str, t1, b :: p, q, h => by cases b <;> simp [Ty.atP] at h
  | .int k, t1, b :: p, q, h => by cases b <;> simp [Ty.atP] at h
  | .list k, t1, b :: p, q, h => by cases b <;> simp [Ty.atP] at h

theorem Reads.drop' {b o : Nat} {vs : List Value} (h : Reads ι b o vs) (d k : Nat) : Reads ι b (o + d) ((vs.drop d).take k) := h.sub d k

theorem fld_sound {off : Nat} {path : List Bool} {x : O} {env : List (Nat × V)} {bl : Blks} {n : Nat} {ob : List Bool} {v : V} {u : Upd} {px : Value} (hx : Rel ι μ (x.ev env) px)
    (hev : evI (mkAr c1 c2 c3 c4 c5) (.fld off path x) env bl n = some (ob, v, u)) : u = [] ∧ ∃ b o, px = .pointer (some ⟨b, o, none⟩) ∧ Rel ι μ v (.pointer (some ⟨b, o + off, none⟩)) := by
  simp only [evI] at hev
  split at hev <;> try (cases hev; done)
  · rename_i id o hxe
    rw [hxe] at hx
    cases hev
    cases hx with
    | ptr _ _ L hL => exact ⟨rfl, _, _, rfl, by rw [Nat.add_assoc]; exact .ptr id (o + off) L hL⟩
  · rename_i cs hxe
    rw [hxe] at hx
    split at hev <;> try (cases hev; done)
    rename_i hle
    cases hev
    cases hx with
    | ipc _ b o g h1 h2 h3 =>
      refine ⟨rfl, _, _, rfl, .ipc _ b (o + off) (fun i => g (off + i)) (fun i hi => ?_) (fun i v hv => ?_) (fun i => h3 _)⟩
      · rw [Nat.add_assoc]; exact h1 _ (by simp at hi; omega)
      · exact h2 _ v (by simpa using hv)
  · rename_i id t i p hxe
    rw [hxe] at hx
    split at hev <;> try (cases hev; done)
    rename_i t1 hat
    split at hev <;> try (cases hev; done)
    rename_i hoff
    split at hev <;> try (cases hev; done)
    cases hev
    cases hx with
    | ep _ _ _ _ L hL =>
      refine ⟨rfl, _, _, rfl, ?_⟩
      have := Rel.ep (ι := ι) id t i (p ++ path) L hL
      rw [offP_append path hat, hoff, ← Nat.add_assoc] at this
      exact this
  · rename_i t y hxe
    rw [hxe] at hx
    split at hev <;> try (cases hev; done)
    rename_i hoff
    split at hev <;> try (cases hev; done)
    rename_i t2 z hget
    cases hev
    cases hx with
    | ip _ _ b o us h1 h2 =>
      obtain ⟨g1, g2, _⟩ := getP_rel hget h2
      rw [hoff] at g1
      exact ⟨rfl, _, _, rfl, .ip t2 z b (o + off) _ (h1.sub off t2.sz) g1⟩

theorem idx_sound {esz : Nat} {x i : O} {env : List (Nat × V)} {bl : Blks} {n : Nat} {ob : List Bool} {v : V} {u : Upd} {px iv : Value} (hx : Rel ι μ (x.ev env) px) (hi : Rel ι μ (i.ev env) iv)
    (hev : evI (mkAr c1 c2 c3 c4 c5) (.idx esz x i) env bl n = some (ob, v, u)) (hob : AllT ob) :
    u = [] ∧ ∃ k m b o len cap, iv = .int k m ∧ px = .slice (some ⟨b, o, none⟩) len cap ∧ 0 ≤ m ∧ m < len ∧ Rel ι μ v (.pointer (some ⟨b, o + m.toNat * esz, none⟩)) := by
  simp only [evI] at hev
  split at hev <;> try (cases hev; done)
  rename_i k m hie
  rw [hie] at hi
  cases hi
  split at hev <;> try (cases hev; done)
  · rename_i id t lo len hxe
    rw [hxe] at hx
    split at hev <;> try (cases hev; done)
    rename_i hsz
    cases hev
    have hb := hob _ (List.mem_singleton.2 rfl)
    simp only [decide_eq_true_eq] at hb
    have hb1 : m < (len : Int) := hb.2
    cases hx with
    | sl0 => omega
    | sl _ _ _ _ cap L hL h1 h2 h3 =>
      refine ⟨rfl, k, m, _, _, _, _, rfl, rfl, hb.1, hb1, ?_⟩
      have := Rel.ep (ι := ι) id t (lo + m.toNat) [] L hL
      have h0 : t.offP [] = 0 := by cases t <;> rfl
      rw [h0, Nat.add_mul, Nat.add_zero, ← Nat.add_assoc, hsz] at this
      rw [hsz]; exact this
  · rename_i t xs hxe
    rw [hxe] at hx
    split at hev <;> try (cases hev; done)
    rename_i hsz
    cases hev
    have hb := hob _ (List.mem_singleton.2 rfl)
    simp only [decide_eq_true_eq] at hb
    have hb1 : m < (xs.length : Int) := hb.2
    cases hx with
    | lst _ _ _ hd =>
      obtain ⟨a, cap, e, hle, hd⟩ := hd
      cases e
      rcases hd with rfl | ⟨b, o, us, rfl, hrd, hc⟩
      · simp at hb1; omega
      · have hxi : xs[m.toNat]? = some (xs.getD m.toNat t.zero) := by simp [List.getD, show m.toNat < xs.length by omega]
        have hcell := hc.at (fun _ _ => CellsD.length) hxi
        refine ⟨rfl, k, m, _, _, _, _, rfl, rfl, hb.1, hb1, ?_⟩
        rw [← hsz]
        exact .ip t _ b _ _ (hrd.sub (m.toNat * t.sz) t.sz) hcell

theorem minmax_max {k : IntKind} : ∀ {a z : Int} {vs : List V} {xs : List Value}, minmaxI (mkAr c1 c2 c3 c4 c5) true k a vs = some z → RelL ι μ vs xs → (xs.foldlM Builtin.max2 (.int k a)).run P w = .ok (.int k z) w
  | a, z, [], xs, h, hr => by cases h; rw [hr.of_nil]; rfl
  | a, z, v :: r, xs, h, hr => by
    obtain ⟨x, xs', rfl, h1, h2⟩ := hr.uncons
    cases v <;> simp only [minmaxI] at h <;> try (cases h; done)
    split at h <;> try (cases h; done)
    rename_i hk; subst hk
    cases h1
    simp only [List.foldlM_cons, Builtin.max2, Sem.run_bind, Sem.run_pure, Result.andThen_ok]
    exact minmax_max h h2

theorem minmax_min {k : IntKind} : ∀ {a z : Int} {vs : List V} {xs : List Value}, minmaxI (mkAr c1 c2 c3 c4 c5) false k a vs = some z → RelL ι μ vs xs → (xs.foldlM Builtin.min2 (.int k a)).run P w = .ok (.int k z) w
  | a, z, [], xs, h, hr => by cases h; rw [hr.of_nil]; rfl
  | a, z, v :: r, xs, h, hr => by
    obtain ⟨x, xs', rfl, h1, h2⟩ := hr.uncons
    cases v <;> simp only [minmaxI] at h <;> try (cases h; done)
    split at h <;> try (cases h; done)
    rename_i hk; subst hk
    cases h1
    simp only [List.foldlM_cons, Builtin.min2, Sem.run_bind, Sem.run_pure, Result.andThen_ok]
    exact minmax_min h h2

theorem zero1_rel {t : Ty} {v : Value} (h : zero1 t v = true) : CellsD ι t t.zero [v] := by
  unfold zero1 at h
  split at h <;> try (cases h; done)
  · simp at h; subst h; rfl
  · rename_i s
    have : s = ByteArray.empty := ByteArray.size_eq_zero_iff.1 (by simpa using h)
    subst this; rfl
  · simp at h; obtain ⟨rfl, rfl⟩ := h; rfl
  · exact ⟨none, 0, rfl, Nat.le_refl _, .inl rfl⟩

theorem zeroOk_rel : ∀ {t : Ty} {vs r : List Value}, zeroOk t vs = some r → ∃ us, vs = us ++ r ∧ CellsD ι t t.zero us
  | .unit, vs, r, h => by cases h; exact ⟨[], rfl, rfl⟩
  | .bool, vs, r, h => by
    cases vs <;> simp [zeroOk] at h
    obtain ⟨h, rfl⟩ := h; exact ⟨[_], rfl, zero1_rel h⟩
  | .str, vs, r, h => by
    cases vs <;> simp [zeroOk] at h
    obtain ⟨h, rfl⟩ := h; exact ⟨[_], rfl, zero1_rel h⟩
  | .int k, vs, r, h => by
    cases vs <;> simp [zeroOk] at h
    obtain ⟨h, rfl⟩ := h; exact ⟨[_], rfl, zero1_rel h⟩
  | .list t, vs, r, h => by
    cases vs <;> simp [zeroOk] at h
    obtain ⟨h, rfl⟩ := h; exact ⟨[_], rfl, zero1_rel h⟩
  | .prod a b, vs, r, h => by
    simp only [zeroOk] at h
    split at h <;> try (cases h; done)
    rename_i r1 h1
    obtain ⟨us, rfl, hu⟩ := zeroOk_rel h1
    obtain ⟨ws, rfl, hw⟩ := zeroOk_rel h
    exact ⟨us ++ ws, by simp, us, ws, rfl, hu, hw⟩
end
end Go.AM
