/- How the small machine's values and heap stand for the model's. -/
import Derived.Test.YtigglifniejbpaaAM1
set_option linter.unusedVariables false
set_option linter.unusedSimpArgs false
namespace Go.AM

abbrev Iota := Nat → Nat → Option Value
/-- Where a block of the machine lies: the model's block, the offset, how many cells that block has, how many elements are in use. -/
structure Loc where
  b : Nat
  ba : Nat
  tot : Nat
  len : Nat
abbrev Mu := Nat → Option Loc

def Iota.le (i j : Iota) : Prop := ∀ b o x, i b o = some x → j b o = some x
def Mu.le (m n : Mu) : Prop := ∀ id L, m id = some L → n id = some L
theorem Iota.le_refl (i : Iota) : i.le i := fun _ _ _ h => h
theorem Mu.le_refl (i : Mu) : i.le i := fun _ _ h => h
theorem Iota.le_trans {i j k : Iota} (h : i.le j) (h' : j.le k) : i.le k := fun _ _ _ hx => h' _ _ _ (h _ _ _ hx)
theorem Mu.le_trans {i j k : Mu} (h : i.le j) (h' : j.le k) : i.le k := fun _ _ hx => h' _ _ (h _ _ hx)

def Reads (ι : Iota) (b o : Nat) (vs : List Value) : Prop := ∀ j v, vs[j]? = some v → ι b (o + j) = some v

def CatR {α : Type} (D : α → List Value → Prop) : List α → List Value → Prop
  | [], vs => vs = []
  | x :: xs, vs => ∃ us ws, vs = us ++ ws ∧ D x us ∧ CatR D xs ws

def CellsD (ι : Iota) : (t : Ty) → t.den → List Value → Prop
  | .unit, _, vs => vs = []
  | .bool, b, vs => vs = [.bool b]
  | .str, s, vs => vs = [.string s]
  | .int k, n, vs => vs = [.int k n]
  | .list t, xs, vs => ∃ a cap, vs = [.slice a xs.length cap] ∧ xs.length ≤ cap ∧
      (xs = [] ∨ ∃ b o us, a = some ⟨b, o, none⟩ ∧ Reads ι b o us ∧ CatR (CellsD ι t) xs us)
  | .prod a b, x, vs => ∃ us ws, vs = us ++ ws ∧ CellsD ι a x.1 us ∧ CellsD ι b x.2 ws

theorem Reads.mono {ι ι' : Iota} (h : ι.le ι') {b o : Nat} {vs : List Value} (hr : Reads ι b o vs) : Reads ι' b o vs :=
  fun j v hj => h _ _ _ (hr j v hj)

theorem CatR.mono {α : Type} {D E : α → List Value → Prop} (h : ∀ x us, D x us → E x us) : ∀ {xs : List α} {vs : List Value}, CatR D xs vs → CatR E xs vs
  | [], _, hc => hc
  | _ :: _, _, ⟨us, ws, e, h1, h2⟩ => ⟨us, ws, e, h _ _ h1, CatR.mono h h2⟩

theorem CellsD.mono {ι ι' : Iota} (h : ι.le ι') : ∀ {t : Ty} {x : t.den} {vs : List Value}, CellsD ι t x vs → CellsD ι' t x vs
  | .unit, _, _, hc => hc
  | .bool, _, _, hc => hc
  | .str, _, _, hc => hc
  | .int _, _, _, hc => hc
  | .list t, xs, vs, ⟨a, cap, e, hl, hx⟩ => ⟨a, cap, e, hl, hx.imp id fun ⟨b, o, us, ha, hr, hc⟩ =>
      ⟨b, o, us, ha, hr.mono h, CatR.mono (fun x us hd => CellsD.mono (t := t) h hd) hc⟩⟩
  | .prod _ _, _, _, ⟨us, ws, e, h1, h2⟩ => ⟨us, ws, e, CellsD.mono h h1, CellsD.mono h h2⟩

theorem CellsD.length {ι : Iota} : ∀ {t : Ty} {x : t.den} {vs : List Value}, CellsD ι t x vs → vs.length = t.sz
  | .unit, _, _, hc => by simp [CellsD] at hc; subst hc; rfl
  | .bool, _, _, hc => by simp [CellsD] at hc; subst hc; rfl
  | .str, _, _, hc => by simp [CellsD] at hc; subst hc; rfl
  | .int _, _, _, hc => by simp [CellsD] at hc; subst hc; rfl
  | .list _, _, _, ⟨_, _, e, _, _⟩ => by subst e; rfl
  | .prod _ _, _, _, ⟨us, ws, e, h1, h2⟩ => by subst e; simp [Ty.sz, CellsD.length h1, CellsD.length h2]

theorem CellsD.one {ι : Iota} : ∀ {t : Ty} {x : t.den} {vs : List Value}, CellsD ι t x vs → ∀ v ∈ vs, v.oneCell' = true
  | .unit, _, _, hc => by simp [CellsD] at hc; subst hc; simp
  | .bool, _, _, hc => by simp [CellsD] at hc; subst hc; simp [Value.oneCell']
  | .str, _, _, hc => by simp [CellsD] at hc; subst hc; simp [Value.oneCell']
  | .int _, _, _, hc => by simp [CellsD] at hc; subst hc; simp [Value.oneCell']
  | .list _, _, _, ⟨_, _, e, _, _⟩ => by subst e; simp [Value.oneCell']
  | .prod _ _, _, _, ⟨us, ws, e, h1, h2⟩ => by
    subst e; intro v hv; rcases List.mem_append.1 hv with h | h
    · exact CellsD.one h1 v h
    · exact CellsD.one h2 v h

section cat
variable {α : Type} {D : α → List Value → Prop} {n : Nat}
theorem CatR.length (hD : ∀ x us, D x us → us.length = n) : ∀ {xs : List α} {vs : List Value}, CatR D xs vs → vs.length = xs.length * n
  | [], _, hc => by simp [CatR] at hc; subst hc; simp
  | x :: xs, _, ⟨us, ws, e, h1, h2⟩ => by
    subst e; simp [hD _ _ h1, CatR.length hD h2, Nat.add_mul]; omega
theorem CatR.one (hD : ∀ x us, D x us → ∀ v ∈ us, Value.oneCell' v = true) : ∀ {xs : List α} {vs : List Value}, CatR D xs vs → ∀ v ∈ vs, Value.oneCell' v = true
  | [], _, hc => by simp [CatR] at hc; subst hc; simp
  | x :: xs, _, ⟨us, ws, e, h1, h2⟩ => by
    subst e; intro v hv; rcases List.mem_append.1 hv with h | h
    · exact hD _ _ h1 v h
    · exact CatR.one hD h2 v h
theorem CatR.append : ∀ {xs ys : List α} {vs ws : List Value}, CatR D xs vs → CatR D ys ws → CatR D (xs ++ ys) (vs ++ ws)
  | [], _, _, _, hc, h => by simp [CatR] at hc; subst hc; simpa using h
  | x :: xs, _, _, _, ⟨us, ws, e, h1, h2⟩, h => by subst e; exact ⟨us, _, List.append_assoc .., h1, h2.append h⟩
theorem CatR.drop (hD : ∀ x us, D x us → us.length = n) : ∀ (k : Nat) {xs : List α} {vs : List Value}, CatR D xs vs → CatR D (xs.drop k) (vs.drop (k * n))
  | 0, xs, vs, h => by simpa using h
  | k + 1, [], vs, h => by simp [CatR] at h; subst h; simp [CatR]
  | k + 1, x :: xs, vs, ⟨us, ws, e, h1, h2⟩ => by
    subst e
    have hl := hD _ _ h1
    have : (us ++ ws).drop ((k + 1) * n) = ws.drop (k * n) := by
      rw [List.drop_append, List.drop_eq_nil_of_le (by rw [hl, Nat.add_mul]; omega), hl]
      simp [Nat.add_mul]
    rw [this]
    exact CatR.drop hD k h2
theorem CatR.take (hD : ∀ x us, D x us → us.length = n) : ∀ (k : Nat) {xs : List α} {vs : List Value}, CatR D xs vs → CatR D (xs.take k) (vs.take (k * n))
  | 0, xs, vs, h => by simp [CatR]
  | k + 1, [], vs, h => by simp [CatR] at h; subst h; simp [CatR]
  | k + 1, x :: xs, vs, ⟨us, ws, e, h1, h2⟩ => by
    subst e
    have hl := hD _ _ h1
    refine ⟨us, ws.take (k * n), ?_, h1, CatR.take hD k h2⟩
    rw [List.take_append, List.take_of_length_le (by rw [hl, Nat.add_mul]; omega), hl]
    simp [Nat.add_mul]
theorem CatR.at (hD : ∀ x us, D x us → us.length = n) {xs : List α} {vs : List Value} (h : CatR D xs vs) {i : Nat} {x : α} (hx : xs[i]? = some x) :
    D x ((vs.drop (i * n)).take n) := by
  have h1 := h.drop hD i
  obtain ⟨hi, rfl⟩ := List.getElem?_eq_some_iff.1 hx
  rw [List.drop_eq_getElem_cons hi] at h1
  obtain ⟨us, ws, e, hd, _⟩ := h1
  rw [e, List.take_append, List.take_of_length_le (by rw [hD _ _ hd]; exact Nat.le_refl _), hD _ _ hd]
  simpa using hd
theorem CatR.set (hD : ∀ x us, D x us → us.length = n) {xs : List α} {vs : List Value} (h : CatR D xs vs) {i : Nat} (hi : i < xs.length) {y : α} {us : List Value} (hy : D y us) :
    CatR D (xs.set i y) (vs.take (i * n) ++ us ++ vs.drop ((i + 1) * n)) := by
  have h1 := h.take hD i
  have h2 := h.drop hD (i + 1)
  rw [List.set_eq_take_append_cons_drop, if_pos hi, List.append_assoc]
  exact h1.append ⟨us, _, rfl, hy, h2⟩
theorem CatR.rep {y : α} {us : List Value} (hy : D y us) : ∀ k : Nat, CatR D (List.replicate k y) (List.flatten (List.replicate k us))
  | 0 => rfl
  | k + 1 => ⟨us, _, by simp [List.replicate_succ], hy, CatR.rep hy k⟩
end cat

/-- The machine's value stands for the model's. -/
inductive Rel (ι : Iota) (μ : Mu) : V → Value → Prop
  | any (x) : Rel ι μ .any x
  | tf (b) : Rel ι μ (.tf b) (.bool b)
  | bool (b) : Rel ι μ (.bool b) (.bool b)
  | int (k n) : Rel ι μ (.int k n) (.int k n)
  | str (s) : Rel ι μ (.str s) (.string s)
  | nilp : Rel ι μ .nilp (.pointer none)
  | nilfn : Rel ι μ .nilfn .nilFunc
  | nili : Rel ι μ .nili .nilIface
  | lst (t xs x) (h : CellsD ι (.list t) xs [x]) : Rel ι μ (.lst t xs) x
  | nsl (a) : Rel ι μ .nsl (.slice a 0 0)
  | sl (id t lo n cap L) (h : μ id = some L) (h1 : n ≤ cap) (h2 : L.ba + (lo + cap) * t.sz ≤ L.tot) (h3 : lo + n ≤ L.len) :
      Rel ι μ (.sl id t lo n) (.slice (some ⟨L.b, L.ba + lo * t.sz, none⟩) n cap)
  | sl0 (id t lo a) : Rel ι μ (.sl id t lo 0) (.slice a 0 0)
  | ptr (id off L) (h : μ id = some L) : Rel ι μ (.ptr id off) (.pointer (some ⟨L.b, L.ba + off, none⟩))
  | ipc (cs b o) (g : Nat → Value) (h1 : ∀ i, i < cs.length → ι b (o + i) = some (g i)) (h2 : ∀ i v, cs[i]? = some v → Rel ι μ v (g i)) (h3 : ∀ i, (g i).oneCell' = true) :
      Rel ι μ (.ipc cs) (.pointer (some ⟨b, o, none⟩))
  | ep (id t i p L) (h : μ id = some L) : Rel ι μ (.ep id t i p) (.pointer (some ⟨L.b, L.ba + i * t.sz + t.offP p, none⟩))
  | ip (t x b o us) (h1 : Reads ι b o us) (h2 : CellsD ι t x us) : Rel ι μ (.ip t x) (.pointer (some ⟨b, o, none⟩))
  | fn (f fs cs) (xs ys : Array Value) (h1 : fs.length = xs.size) (h2 : ∀ (i : Nat) v x, fs[i]? = some v → xs[i]? = some x → Rel ι μ v x)
      (h3 : cs.length = ys.size) (h4 : ∀ (i : Nat) v x, cs[i]? = some v → ys[i]? = some x → Rel ι μ v x) : Rel ι μ (.fn f fs cs) (.func (.func f) xs ys)
  | yl (id L) (h : μ id = some L) : Rel ι μ (.yl id) (.func (.yield L.b) #[] #[])
  | agg (cs) (xs : Array Value) (h1 : cs.length = xs.size) (h2 : ∀ (i : Nat) v x, cs[i]? = some v → xs[i]? = some x → Rel ι μ v x) (h3 : ∀ x ∈ xs.toList, x.oneCell' = true) : Rel ι μ (.agg cs) (.agg xs)
  | tup (cs) (xs : Array Value) (h1 : cs.length = xs.size) (h2 : ∀ (i : Nat) v x, cs[i]? = some v → xs[i]? = some x → Rel ι μ v x) : Rel ι μ (.tup cs) (.tuple xs)
  | ifc (t v x) (h : Rel ι μ v x) : Rel ι μ (.ifc t v) (.iface t x)

theorem Rel.mono {ι ι' : Iota} {μ μ' : Mu} (hi : ι.le ι') (hm : μ.le μ') {v : V} {x : Value} (h : Rel ι μ v x) : Rel ι' μ' v x := by
  induction h with
  | any x => exact .any x
  | tf b => exact .tf b
  | bool b => exact .bool b
  | int k n => exact .int k n
  | str s => exact .str s
  | nilp => exact .nilp
  | nilfn => exact .nilfn
  | nili => exact .nili
  | lst t xs x h => exact .lst t xs x (CellsD.mono (t := .list t) hi h)
  | nsl a => exact .nsl a
  | sl id t lo n cap L h h1 h2 h3 => exact .sl id t lo n cap L (hm _ _ h) h1 h2 h3
  | sl0 id t lo a => exact .sl0 id t lo a
  | ptr id off L h => exact .ptr id off L (hm _ _ h)
  | ipc cs b o g h1 h2 h3 ih => exact .ipc cs b o g (fun i h => hi _ _ _ (h1 i h)) ih h3
  | ep id t i p L h => exact .ep id t i p L (hm _ _ h)
  | ip t x b o us h1 h2 => exact .ip t x b o us (h1.mono hi) (CellsD.mono hi h2)
  | fn f fs cs xs ys h1 h2 h3 h4 ih1 ih2 => exact .fn f fs cs xs ys h1 ih1 h3 ih2
  | yl id L h => exact .yl id L (hm _ _ h)
  | agg cs xs h1 h2 h3 ih => exact .agg cs xs h1 ih h3
  | tup cs xs h1 h2 ih => exact .tup cs xs h1 ih
  | ifc t v x h ih => exact .ifc t v x ih

def RelL (ι : Iota) (μ : Mu) (cs : List V) (xs : List Value) : Prop :=
  cs.length = xs.length ∧ ∀ (i : Nat) v x, cs[i]? = some v → xs[i]? = some x → Rel ι μ v x

section rell
variable {ι ι' : Iota} {μ μ' : Mu}
theorem RelL.nil : RelL ι μ [] [] := ⟨rfl, fun i v x h => by simp at h⟩
theorem RelL.cons {v : V} {x : Value} {cs : List V} {xs : List Value} (h : Rel ι μ v x) (hl : RelL ι μ cs xs) : RelL ι μ (v :: cs) (x :: xs) :=
  ⟨by simp [hl.1], fun i w y hw hy => by
    cases i with
    | zero => simp at hw hy; subst hw; subst hy; exact h
    | succ i => exact hl.2 i w y (by simpa using hw) (by simpa using hy)⟩
theorem RelL.uncons {v : V} {cs : List V} {xs : List Value} (h : RelL ι μ (v :: cs) xs) : ∃ x r, xs = x :: r ∧ Rel ι μ v x ∧ RelL ι μ cs r := by
  cases xs with
  | nil => exact absurd h.1 (by simp)
  | cons x r => exact ⟨x, r, rfl, h.2 0 v x rfl rfl, by have := h.1; simpa using this, fun i w y hw hy => h.2 (i + 1) w y (by simpa using hw) (by simpa using hy)⟩
theorem RelL.of_nil {xs : List Value} (h : RelL ι μ [] xs) : xs = [] := by have := h.1; cases xs <;> simp_all
theorem RelL.mono (hi : ι.le ι') (hm : μ.le μ') {cs : List V} {xs : List Value} (h : RelL ι μ cs xs) : RelL ι' μ' cs xs :=
  ⟨h.1, fun i v x hv hx => (h.2 i v x hv hx).mono hi hm⟩
theorem RelL.append {cs ds : List V} {xs ys : List Value} (h : RelL ι μ cs xs) (h' : RelL ι μ ds ys) : RelL ι μ (cs ++ ds) (xs ++ ys) := by
  induction cs generalizing xs with
  | nil => rw [h.of_nil]; simpa using h'
  | cons c cs ih => obtain ⟨x, r, rfl, h1, h2⟩ := h.uncons; exact .cons h1 (ih h2)
theorem RelL.drop {cs : List V} {xs : List Value} (h : RelL ι μ cs xs) (k : Nat) : RelL ι μ (cs.drop k) (xs.drop k) :=
  ⟨by simp [h.1], fun i v x hv hx => h.2 (k + i) v x (by simpa using hv) (by simpa using hx)⟩
theorem RelL.take {cs : List V} {xs : List Value} (h : RelL ι μ cs xs) (k : Nat) : RelL ι μ (cs.take k) (xs.take k) :=
  ⟨by simp [h.1], fun i v x hv hx => by
    rw [List.getElem?_take] at hv hx
    split at hv
    · rename_i hk; rw [if_pos hk] at hx; exact h.2 i v x hv hx
    · simp at hv⟩
theorem RelL.at {cs : List V} {xs : List Value} (h : RelL ι μ cs xs) {i : Nat} {v : V} (hv : cs[i]? = some v) : ∃ x, xs[i]? = some x ∧ Rel ι μ v x := by
  have hi := (List.getElem?_eq_some_iff.1 hv).1
  exact ⟨xs[i]'(by rw [← h.1]; exact hi), by simp, h.2 i v _ hv (by simp)⟩
theorem RelL.map_cut {cs vs : List V} {off k : Nat} {xs : List Value} (h : RelL ι μ cs xs) (hc : cut off k cs = some vs) : RelL ι μ vs ((xs.drop off).take k) ∧ vs.length = k ∧ off + k ≤ xs.length := by
  unfold cut at hc
  split at hc
  · rename_i hk
    cases hc
    exact ⟨(h.drop off).take k, by simp; omega, by rw [← h.1]; exact hk⟩
  · cases hc
end rell

/-- The cells of a value. -/
theorem Rel.cells {ι : Iota} {μ : Mu} {v : V} {x : Value} (h : Rel ι μ v x) {cs : List V} (hv : v.cells? = some cs) : RelL ι μ cs x.cells.toList ∧ ∀ u ∈ x.cells.toList, u.oneCell' = true := by
  cases h
  case any => cases hv
  case tup => cases hv
  case agg cs xs h1 h2 h3 =>
    cases hv
    exact ⟨⟨by simpa [Value.cells] using h1, fun i v x hv hx => h2 i v x hv (by simpa [Value.cells] using hx)⟩, h3⟩
  case lst t xs h =>
    obtain ⟨a, cap, e, hl, hx⟩ := h
    cases e
    cases hv
    exact ⟨.cons (.lst t xs _ ⟨a, cap, rfl, hl, hx⟩) .nil, by simp [Value.cells, Value.oneCell']⟩
  case ipc cs b o g h1 h2 h3 => cases hv; exact ⟨.cons (.ipc cs b o g h1 h2 h3) .nil, by simp [Value.cells, Value.oneCell']⟩
  case fn f fs cs xs ys h1 h2 h3 h4 => cases hv; exact ⟨.cons (.fn f fs cs xs ys h1 h2 h3 h4) .nil, by simp [Value.cells, Value.oneCell']⟩
  all_goals
    cases hv
    refine ⟨.cons ?_ .nil, by simp [Value.cells, Value.oneCell']⟩
    first
      | (constructor; done)
      | (constructor <;> assumption)

theorem toVs_rel {ι : Iota} {μ : Mu} : ∀ {t : Ty} {x : t.den} {vs : List Value}, CellsD ι t x vs → RelL ι μ (toVs t x) vs
  | .unit, _, _, h => by simp [CellsD] at h; subst h; exact .nil
  | .bool, _, _, h => by simp [CellsD] at h; subst h; exact .cons (.bool _) .nil
  | .str, _, _, h => by simp [CellsD] at h; subst h; exact .cons (.str _) .nil
  | .int _, _, _, h => by simp [CellsD] at h; subst h; exact .cons (.int _ _) .nil
  | .list t, xs, _, h => by
    obtain ⟨a, cap, e, hl, hx⟩ := h
    subst e
    exact .cons (.lst t xs _ ⟨a, cap, rfl, hl, hx⟩) .nil
  | .prod _ _, _, _, ⟨us, ws, e, h1, h2⟩ => by subst e; exact (toVs_rel h1).append (toVs_rel h2)

/-- A block of data that is written no more. -/
def Frozen (ι : Iota) (μ : Mu) (id : Nat) (t : Ty) (xs : List t.den) : Prop :=
  (xs = [] ∧ μ id = none) ∨ ∃ L vs, μ id = some L ∧ Reads ι L.b L.ba vs ∧ CatR (CellsD ι t) xs vs ∧ xs.length = L.len

theorem castL_some {t t' : Ty} {xs : List t.den} {ys : List t'.den} (h : castL t t' xs = some ys) : ∃ e : t = t', ys = e ▸ xs := by
  unfold castL at h
  split at h
  · rename_i e; cases h; exact ⟨e, rfl⟩
  · cases h

theorem normC_rel {ι : Iota} {μ : Mu} {t : Ty} {v : V} {x : Value} (h : Rel ι μ v x) : Rel ι μ (normC t v) x := by
  unfold normC
  split
  · cases h; exact .lst _ _ _ ⟨_, 0, rfl, Nat.le_refl _, .inl rfl⟩
  · cases h; exact .bool _
  · exact h

theorem zipNorm_rel {ι : Iota} {μ : Mu} : ∀ {ts : List Ty} {cs : List V} {xs : List Value}, RelL ι μ cs xs → RelL ι μ (zipNorm ts cs) xs
  | [], cs, xs, h => by cases cs <;> exact h
  | t :: ts, [], xs, h => h
  | t :: ts, c :: cs, xs, h => by
    obtain ⟨x, r, rfl, h1, h2⟩ := h.uncons
    exact .cons (normC_rel h1) (zipNorm_rel h2)

theorem normV_rel {ι : Iota} {μ : Mu} {ty : Option Ty} {v : V} {x : Value} (h : Rel ι μ v x) : Rel ι μ (normV ty v) x := by
  unfold normV
  split
  · exact h
  · rename_i t
    split
    · rename_i cs
      cases h with
      | agg _ xs h1 h2 h3 =>
        have := zipNorm_rel (ts := cellTys t) (ι := ι) (μ := μ) (cs := cs) (xs := xs.toList) ⟨by simpa using h1, fun i v x hv hx => h2 i v x hv (by simpa using hx)⟩
        exact .agg _ _ (by simpa using this.1) (fun i v x hv hx => this.2 i v x hv (by simpa using hx)) h3
    · exact normC_rel h

theorem normL_rel {ι : Iota} {μ : Mu} : ∀ {ts : List (Option Ty)} {cs : List V} {xs : List Value}, RelL ι μ cs xs → RelL ι μ (normL ts cs) xs
  | [], cs, xs, h => by cases cs <;> exact h
  | t :: ts, [], xs, h => h
  | t :: ts, c :: cs, xs, h => by
    obtain ⟨x, r, rfl, h1, h2⟩ := h.uncons
    exact .cons (normV_rel h1) (normL_rel h2)
end Go.AM
