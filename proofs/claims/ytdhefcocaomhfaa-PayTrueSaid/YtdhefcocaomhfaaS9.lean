/- A harvest's week. A harvest's week is valid. Sugar by the readings, or by what is true. Dues: rounds over farmers. Dues: what a set gives. Dues are those of the level. Dues are those of the level. What payments are. What payments are: each is a due, rounded down, or one more where something was cut off. A harvest's numbers are small. Payments and dues. A harvest's numbers are within their types. More money, a lesser Cap, more sugar. Plain Lean. Dues grow with one's own sugar, and fall with that of others. Least and most, by true sugar; floors of dues. Truths by numbers. The worst and the best truth for one; a round of PayTrue. Bounds hold what is due. PayTrue: a farmer's round, and better scales. -/
import Derived.Test.YtdhefcocaomhfaaR9
set_option linter.unusedSectionVars false
set_option linter.unusedVariables false
set_option linter.unusedSimpArgs false
section
namespace Go.Proofs.Try
open Go.AM Go.Pay
set_option maxRecDepth 100000
abbrev Hv := Int × Int × Int × List Int × List (Int × Int × Int × Int)
structure WfH (h : Hv) : Prop where
 pot : 0 ≤ h.1 ∧ h.1 ≤ 65535
 scale : 0 ≤ h.2.1 ∧ h.2.1 ≤ 255
 lab : 0 ≤ h.2.2.1 ∧ h.2.2.1 ≤ 255
 cap : ∀ x ∈ h.2.2.2.1, 0 ≤ x ∧ x ≤ 65535
 wagon : ∀ x ∈ h.2.2.2.2, (0 ≤ x.1 ∧ x.1 ≤ 255) ∧ (0 ≤ x.2.1 ∧ x.2.1 ≤ 255) ∧ (0 ≤ x.2.2.1 ∧ x.2.2.1 ≤ 255) ∧ (0 ≤ x.2.2.2 ∧ x.2.2.2 ≤ 255)
def namesH : List ByteArray := [bs [100], bs [98], bs [97, 49], bs [99]]
def farmL (caps : List Int) (k : Nat) : List (ByteArray × Int) := (bs [100], 20000) :: (List.range k).map fun i => (namesH.getD (i + 1) (bs []), caps.getD i 0)
def nF (caps : List Int) : Nat := 1 + min 3 caps.length
def farmH (caps : List Int) : List (ByteArray × Int) := if 3 < caps.length then (farmL caps (min 3 caps.length)).set 0 (bs [100], caps.getD 3 0) else farmL caps (min 3 caps.length)
def wagH (n : Nat) (x : Int × Int × Int × Int) : Int × Int × Int × Int := (Int.tmod x.1 n, x.2.1 + x.2.2.1, x.2.2.1, Int.tmod (4 * x.2.2.2) 1001)
def madeL (h : Hv) : Wk := (h.1, Int.tmod h.2.1 20, Int.tmod h.2.2.1 30, farmH h.2.2.2.1, (h.2.2.2.2.take 7).map (wagH (nF h.2.2.2.1)))
theorem farmL_len (caps : List Int) (k : Nat) : (farmL caps k).length = k + 1 := by simp [farmL]
theorem farmH_len (caps : List Int) : (farmH caps).length = nF caps := by
 unfold farmH nF; split <;> simp [farmL_len] <;> omega
theorem farmL_succ (caps : List Int) (k : Nat) : farmL caps (k + 1) = farmL caps k ++ [(namesH.getD (k + 1) (bs []), caps.getD k 0)] := by
 unfold farmL; rw [List.range_succ]; simp
theorem k34 {h : Hv} (hw : WfH h) : run0 (F34 h) = some (madeL h, ()) := by
 have h1 := hw.pot; have h2 := hw.scale; have h3 := hw.lab
 obtain ⟨pot, sc, lb, caps, ws⟩ := h
 simp only at h1 h2 h3
 have hcap := hw.cap; have hwag := hw.wagon
 simp only at hcap hwag
 have gcap : ∀ k, 0 ≤ caps.getD k 0 ∧ caps.getD k 0 ≤ 65535 := fun k => by
  rw [List.getD_eq_getElem?_getD]
  by_cases hk : k < caps.length
  ·rw [List.getElem?_eq_getElem hk]; exact hcap _ (List.getElem_mem _)
  ·rw [List.getElem?_eq_none (by omega)]; simp
 simp only [F34, run_ni, run_nd, run_bd, run_it, run_ret, run_jx]
 rw [need_i64 (by omega) (by omega), need_i64 (by omega) (by omega), need_t (by decide), need_i64 (by omega) (by omega), need_t (by decide)]
 have e0 := iter_count (step := fun a => run (fun _ => none) (g34_0 a)) (min 3 caps.length) (fun k => ((4 : Nat), ((k + 1 : Nat) : Int), pot, sc, lb, caps, ws, (0 : Int), (0 : Int), (0 : Int), pot, Int.tmod sc 20, Int.tmod lb 30, k + 1, namesH, farmL caps k, ()))
  (b := (pot, sc, lb, caps, ws, (0 : Int), (0 : Int), (0 : Int), pot, Int.tmod sc 20, Int.tmod lb 30, min 3 caps.length + 1, farmL caps (min 3 caps.length), ())) (by
   intro k hk
   have t1 : Int.toNat ((((k + 1 : Nat) : Int)) - 1) = k := by omega
   have i1 : inb ((k + 1 : Nat) : Int) ((4 : Nat) : Int) = true := inb_t (by omega) (by omega)
   have i2 : inb (((k + 1 : Nat) : Int) - 1) ((caps.length : Nat) : Int) = true := inb_t (by omega) (by omega)
   have r1 : rng .i64 (((k + 1 : Nat) : Int) - 1) = true := rng_i64 (by omega) (by omega)
   have r2 : rng .i64 (((k + 1 : Nat) : Int) + 1) = true := rng_i64 (by omega) (by omega)
   have r3 : rng .i64 (caps.getD k 0) = true := by have := gcap k; exact rng_i64 (by omega) (by omega)
   have d1 : decide (k + 1 < namesH.length) = true := decide_eq_true (by simp [namesH]; omega)
   have tk : (farmL caps k).take (k + 1) = farmL caps k := List.take_of_length_le (by rw [farmL_len]; exact Nat.le_refl _)
   simp only [g34_0, run_br, run_nb, run_nd, run_ni, run_ret, Int.toNat_natCast, t1, i1, i2, r1, r2, r3, d1, need_true, br_d, Nat.zero_add, List.drop_zero, List.take_succ_cons, List.take_zero, List.length_cons, List.length_nil, tk]
   rw [if_pos (by omega), if_pos (by omega), need_lenbig (by omega), ← farmL_succ]
   rfl) (by
   simp only [g34_0, run_br, br_d, run_ret]
   by_cases hc : ((min 3 caps.length + 1 : Nat) : Int) < 4
   ·rw [if_pos hc, if_neg (by omega)]
   ·rw [if_neg hc])
 refine bind_eq e0 ?_
 simp only [run_br, run_nb, run_nd, run_ni, run_ret, br_d]
 have key : (if (3 : Int) < ((caps.length : Nat) : Int) then
   need (inb 3 ((caps.length : Nat) : Int)) (need (rng .i64 (caps.getD (Int.toNat 3) 0)) (need (inb 0 ((min 3 caps.length + 1 : Nat) : Int)) (need (decide (0 + Int.toNat 0 < (farmL caps (min 3 caps.length)).length))
    (some (Sum.inl (pot, sc, lb, caps, ws, (0 : Int), (0 : Int), (0 : Int), pot, Int.tmod sc 20, Int.tmod lb 30, min 3 caps.length + 1, (farmL caps (min 3 caps.length)).set (0 + Int.toNat 0) (((farmL caps (min 3 caps.length)).getD (0 + Int.toNat 0) (bs [], 0)).1, caps.getD (Int.toNat 3) 0), ())) : Option ((Int × Int × Int × List Int × List (Int × Int × Int × Int) × Int × Int × Int × Int × Int × Int × Nat × List (ByteArray × Int) × Unit) ⊕ (Wk × Unit))))))
   else some (Sum.inl (pot, sc, lb, caps, ws, (0 : Int), (0 : Int), (0 : Int), pot, Int.tmod sc 20, Int.tmod lb 30, min 3 caps.length + 1, farmL caps (min 3 caps.length), ()))) =
   some (Sum.inl (pot, sc, lb, caps, ws, (0 : Int), (0 : Int), (0 : Int), pot, Int.tmod sc 20, Int.tmod lb 30, nF caps, farmH caps, ())) := by
  have g3 := gcap 3
  have en : min 3 caps.length + 1 = nF caps := by unfold nF; omega
  by_cases hc : 3 < caps.length
  ·rw [if_pos (by omega), need_inb (by omega) (by omega), need_i64 (by show _ ≤ caps.getD 3 0; omega) (by show caps.getD 3 0 ≤ _; omega), need_inb (by omega) (by omega), need_d (by rw [farmL_len]; show 0 < _; omega), en]
   unfold farmH; rw [if_pos hc]; rfl
  ·rw [if_neg (by omega), en]
   unfold farmH; rw [if_neg hc]
 refine bind_eq key ?_
 simp only [onS]
 have hn : 0 < nF caps := by unfold nF; omega
 have hn4 : nF caps ≤ 4 := by unfold nF; omega
 refine bind_eq (iter_list (f := fun a => run (fun _ => none) (g34_1 a)) (ws.take 7) (fun k (l : List (Int × Int × Int × Int)) => ((k : Int), pot, sc, lb, caps, ws, (0 : Int), (0 : Int), (0 : Int), pot, Int.tmod sc 20, Int.tmod lb 30, nF caps, l.length, farmH caps, l, ()))
  (fun l r => ((0 : Int), (0 : Int), (0 : Int), pot, Int.tmod sc 20, Int.tmod lb 30, nF caps, (l ++ r.map (wagH (nF caps))).length, farmH caps, l ++ r.map (wagH (nF caps)), ())) (fun pre l => l = pre.map (wagH (nF caps))) ?_ ?_ (s := []) rfl) ?_
 ·rintro pre x post l hx rfl
  left
  have hlt : (ws.take 7).length = pre.length + (post.length + 1) := by rw [hx]; simp
  have hl7 : pre.length < 7 ∧ pre.length < ws.length := by rw [List.length_take] at hlt; omega
  have hd : ws.getD pre.length ((0 : Int), ((0 : Int), ((0 : Int), (0 : Int)))) = x := by
   have := getD_mid (A := pre) (B := post) (x := x) (d := ((0 : Int), ((0 : Int), ((0 : Int), (0 : Int))))) rfl
   rw [← hx, getD_take hl7.1] at this; exact this
  have hxm : x ∈ ws := List.mem_of_mem_take (show x ∈ ws.take 7 by rw [hx]; simp)
  have hb := hwag x hxm
  have i1 : inb (pre.length : Int) ((ws.length : Nat) : Int) = true := inb_t (by omega) (by omega)
  have r1 : rng .i64 ((pre.length : Int) + 1) = true := rng_i64 (by omega) (by omega)
  have q0 : rng .i64 x.1 = true := rng_i64 (by omega) (by omega)
  have q1 : rng .i64 x.2.1 = true := rng_i64 (by omega) (by omega)
  have q2 : rng .i64 x.2.2.1 = true := rng_i64 (by omega) (by omega)
  have q3 : rng .i64 x.2.2.2 = true := rng_i64 (by omega) (by omega)
  have q4 : rng .i64 (x.2.1 + x.2.2.1) = true := rng_i64 (by omega) (by omega)
  have q5 : rng .i64 (4 * x.2.2.2) = true := rng_i64 (by omega) (by omega)
  have z1 : (!(((nF caps : Nat) : Int) == 0)) = true := by simp; omega
  have z2 : (!((1001 : Int) == 0)) = true := by decide
  refine ⟨(pre ++ [x]).map (wagH (nF caps)), ?_, rfl, by simp⟩
  have tk : (pre.map (wagH (nF caps))).take pre.length = pre.map (wagH (nF caps)) := List.take_of_length_le (by simp)
  simp only [g34_1, run_br, run_nb, run_nd, run_ni, run_ret, Int.toNat_natCast, hd, i1, r1, List.getD_cons_zero, List.getD_cons_succ, q0, q1, q2, q3, q4, q5, z1, z2, need_true, br_d, List.drop_zero, List.take_succ_cons, List.take_zero, List.length_cons, List.length_nil, List.length_map, Nat.zero_add, tk]
  rw [if_pos (by omega), if_pos (by omega)]
  simp only [need_d (show 0 < 0 + 1 + 1 + 1 + 1 by omega), need_d (show 1 < 0 + 1 + 1 + 1 + 1 by omega), need_d (show 2 < 0 + 1 + 1 + 1 + 1 by omega), need_d (show 3 < 0 + 1 + 1 + 1 + 1 by omega)]
  simp [wagH, need_lenbig (show pre.length + 1 < 1000000000 by omega)]
 ·rintro l rfl
  simp only [g34_1, run_br, br_d, run_ret]
  by_cases hc : ((ws.take 7).length : Int) < ((ws.length : Nat) : Int)
  ·rw [if_pos hc, if_neg (by rw [List.length_take] at *; omega)]
   simp
  ·rw [if_neg hc]
   simp
 ·simp only [List.nil_append, List.drop_zero, List.take_length]
  rw [List.take_of_length_le (by rw [farmH_len]; exact Nat.le_refl _)]
  rfl
end Go.Proofs.Try
end
section
namespace Go.Proofs.Try
open Go.AM Go.Pay
set_option maxRecDepth 100000
theorem chkF_of : ∀ {fs : List (ByteArray × Int)} {seen : List ByteArray}, (∀ f ∈ fs, nameOk f.1 = true ∧ f.1 ∉ seen ∧ 0 ≤ f.2 ∧ f.2 ≤ 1000000000) → (fs.map (·.1)).Nodup → chkF seen fs = 0
 | [], _, _, _ => rfl
 | f :: r, seen, h, hn => by
  have h1 := h f (List.mem_cons_self ..)
  rw [List.map_cons, List.nodup_cons] at hn
  simp only [chkF]
  rw [if_neg (by rw [h1.1]; simp), if_neg (by rw [memS_iff]; exact h1.2.1), if_neg (not_not_intro h1.2.2)]
  refine chkF_of (fun g hg => ?_) hn.2
  have h2 := h g (List.mem_cons_of_mem _ hg)
  refine ⟨h2.1, fun hm => ?_, h2.2.2⟩
  rcases List.mem_append.1 hm with hm | hm
  ·exact h2.2.1 hm
  ·simp at hm
   exact hn.1 (List.mem_map.2 ⟨g, hg, hm⟩)
theorem chkW_of {n : Int} : ∀ {ws : List (Int × Int × Int × Int)}, (∀ x ∈ ws, 0 ≤ x.1 ∧ x.1 < n ∧ 0 ≤ x.2.2.1 ∧ x.2.2.1 ≤ x.2.1 ∧ x.2.1 ≤ 100000 ∧ 0 ≤ x.2.2.2 ∧ x.2.2.2 ≤ 1000) → chkW n ws = 0
 | [], _ => rfl
 | x :: r, h => by
  have h1 := h x (List.mem_cons_self ..)
  simp only [chkW]
  rw [if_neg (by omega), if_neg (by omega), if_neg (by omega), if_neg (by omega)]
  exact chkW_of fun y hy => h y (List.mem_cons_of_mem _ hy)
theorem chk_of {w : Wk} (h : OkW w) : chk w = 0 := by
 have h0 : chk0 w = 0 := by
  unfold chk0; rw [if_neg (not_not_intro h.pot), if_neg (not_not_intro h.scale), if_neg (not_not_intro h.lab)]
 have h1 : chk1 w = 0 := by
  have := h.some; have := h.many
  unfold chk1; rw [if_neg (by omega), if_neg (by omega)]
  exact chkF_of (fun f hf => ⟨h.name f hf, by simp, h.cap f hf⟩) h.twice
 have h2 : chk2 w = 0 := by
  have := h.wagons
  unfold chk2; rw [if_neg (by omega)]
  exact chkW_of h.wagon
 unfold chk
 rw [h0, h1, h2]; rfl
theorem farmL_names (caps : List Int) : ∀ k, k ≤ 3 → (farmL caps k).map (·.1) = namesH.take (k + 1)
 | 0, _ => rfl
 | 1, _ => rfl
 | 2, _ => rfl
 | 3, _ => rfl
 | _ + 4, h => by omega
theorem farmH_names (caps : List Int) : (farmH caps).map (·.1) = namesH.take (nF caps) := by
 have h := farmL_names caps (min 3 caps.length) (by omega)
 have e : min 3 caps.length + 1 = nF caps := by unfold nF; omega
 rw [e] at h
 unfold farmH
 split
 ·rw [List.map_set, h]
  have h4 : nF caps = 4 := by unfold nF; omega
  rw [h4]; rfl
 ·exact h
theorem farmL_caps {caps : List Int} (hc : ∀ x ∈ caps, 0 ≤ x ∧ x ≤ 65535) (k : Nat) : ∀ f ∈ farmL caps k, 0 ≤ f.2 ∧ f.2 ≤ 65535 := by
 intro f hf
 rcases List.mem_cons.1 hf with rfl | hf
 ·simp
 ·obtain ⟨i, _, rfl⟩ := List.mem_map.1 hf
  simp only
  rw [List.getD_eq_getElem?_getD]
  by_cases hk : i < caps.length
  ·rw [List.getElem?_eq_getElem hk]; exact hc _ (List.getElem_mem _)
  ·rw [List.getElem?_eq_none (by omega)]; simp
theorem farmH_caps {caps : List Int} (hc : ∀ x ∈ caps, 0 ≤ x ∧ x ≤ 65535) : ∀ f ∈ farmH caps, 0 ≤ f.2 ∧ f.2 ≤ 65535 := by
 intro f hf
 unfold farmH at hf
 split at hf
 ·rename_i h3
  rcases List.mem_or_eq_of_mem_set hf with hf | rfl
  ·exact farmL_caps hc _ f hf
  ·simp only
   rw [List.getD_eq_getElem?_getD, List.getElem?_eq_getElem h3]; exact hc _ (List.getElem_mem _)
 ·exact farmL_caps hc _ f hf
theorem made_ok {h : Hv} (hw : WfH h) : OkW (madeL h) where
 pot := by have := hw.pot; show 0 ≤ h.1 ∧ h.1 ≤ _; omega
 scale := by
  have := hw.scale
  show 0 ≤ Int.tmod h.2.1 20 ∧ Int.tmod h.2.1 20 ≤ 1000
  rw [Int.tmod_eq_emod_of_nonneg (by omega)]; omega
 lab := by
  have := hw.lab
  show 0 ≤ Int.tmod h.2.2.1 30 ∧ Int.tmod h.2.2.1 30 ≤ 1000
  rw [Int.tmod_eq_emod_of_nonneg (by omega)]; omega
 some := by show 0 < (farmH h.2.2.2.1).length; rw [farmH_len]; unfold nF; omega
 many := by show (farmH h.2.2.2.1).length ≤ 12; rw [farmH_len]; unfold nF; omega
 cap f hf := by have := farmH_caps hw.cap f hf; omega
 name f hf := by
  have : f.1 ∈ (farmH h.2.2.2.1).map (·.1) := List.mem_map.2 ⟨f, hf, rfl⟩
  rw [farmH_names] at this
  have h2 := List.mem_of_mem_take this
  have key : ∀ x ∈ namesH, nameOk x = true := by decide
  exact key _ h2
 twice := by
  show ((farmH h.2.2.2.1).map (·.1)).Nodup
  rw [farmH_names]
  have : namesH.Nodup := by decide
  exact this.sublist (List.take_sublist ..)
 wagons := by
  show ((h.2.2.2.2.take 7).map (wagH (nF h.2.2.2.1))).length ≤ 50
  rw [List.length_map, List.length_take]; omega
 wagon x hx := by
  obtain ⟨y, hy, rfl⟩ := List.mem_map.1 hx
  have hb := hw.wagon y (List.mem_of_mem_take hy)
  have hn : 0 < nF h.2.2.2.1 := by unfold nF; omega
  show 0 ≤ Int.tmod y.1 _ ∧ Int.tmod y.1 _ < ((farmH h.2.2.2.1).length : Int) ∧ 0 ≤ y.2.2.1 ∧ y.2.2.1 ≤ y.2.1 + y.2.2.1 ∧ y.2.1 + y.2.2.1 ≤ 100000 ∧ 0 ≤ Int.tmod (4 * y.2.2.2) 1001 ∧ Int.tmod (4 * y.2.2.2) 1001 ≤ 1000
  rw [farmH_len, Int.tmod_eq_emod_of_nonneg (by omega), Int.tmod_eq_emod_of_nonneg (by omega)]
  have q1 := Int.emod_nonneg y.1 (show ((nF h.2.2.2.1 : Nat) : Int) ≠ 0 by omega)
  have q2 := Int.emod_lt_of_pos y.1 (show (0 : Int) < ((nF h.2.2.2.1 : Nat) : Int) by omega)
  omega
theorem made_names {w : Wk} (hw : OkW w) : Names w := fun f hf => by
 have := hw.name f hf
 unfold nameOk at this
 simp at this; omega
end Go.Proofs.Try
end
section
namespace Go.Proofs.Try
open Go.AM Go.Pay
set_option maxRecDepth 100000
def hT (truth : List (Int × Int)) (k : Nat) (x : Int × Int × Int × Int) : Int :=
 if k < truth.length then max 0 (x.2.1 - x.2.2.1 + (truth.getD k (0, 0)).1) * min 1000 (max 0 (x.2.2.2 + (truth.getD k (0, 0)).2)) else (x.2.1 - x.2.2.1) * x.2.2.2
def sugT (truth : List (Int × Int)) : Nat → List (Int × Int × Int × Int) → List Int → List Int
 | _, [], l => l
 | k, x :: r, l => sugT truth (k + 1) r (upd (hT truth k) l x)
def OkT (truth : List (Int × Int)) : Prop := ∀ t ∈ truth, (-1000 ≤ t.1 ∧ t.1 ≤ 1000) ∧ (-1000 ≤ t.2 ∧ t.2 ≤ 1000)
theorem OkT.getD {truth : List (Int × Int)} (h : OkT truth) (k : Nat) : (-1000 ≤ (truth.getD k (0, 0)).1 ∧ (truth.getD k (0, 0)).1 ≤ 1000) ∧ (-1000 ≤ (truth.getD k (0, 0)).2 ∧ (truth.getD k (0, 0)).2 ≤ 1000) := by
 rw [List.getD_eq_getElem?_getD]
 by_cases hk : k < truth.length
 ·rw [List.getElem?_eq_getElem hk]; exact h _ (List.getElem_mem _)
 ·rw [List.getElem?_eq_none (by omega)]; simp
theorem sugT_len (truth : List (Int × Int)) : ∀ (ws : List (Int × Int × Int × Int)) (k : Nat) (l : List Int), (sugT truth k ws l).length = l.length
 | [], _, _ => rfl
 | x :: ws, k, l => by rw [sugT, sugT_len truth ws, upd_len]
theorem sugT_nil : ∀ (ws : List (Int × Int × Int × Int)) (k : Nat) (l : List Int), sugT [] k ws l = ws.foldl (upd hRead) l
 | [], _, _ => rfl
 | x :: ws, k, l => by
  rw [sugT, sugT_nil ws, List.foldl_cons]
  congr 1
theorem hT_bd {w : Wk} (hw : OkW w) {truth : List (Int × Int)} (ht : OkT truth) {x : Int × Int × Int × Int} (hx : x ∈ w.2.2.2.2) (k : Nat) : 0 ≤ hT truth k x ∧ hT truth k x ≤ 102000000 := by
 have h1 := hw.wagon x hx
 have h2 := ht.getD k
 unfold hT
 split
 ·exact mul_bd (A := 102000) (B := 1000) (by omega) (by omega) (by omega) (by omega)
 ·have := mul_bd (a := x.2.1 - x.2.2.1) (A := 102000) (b := x.2.2.2) (B := 1000) (by omega) (by omega) (by omega) (by omega)
  omega
theorem k35 {w : Wk} (hw : OkW w) {truth : List (Int × Int)} (ht : OkT truth) : run0 (F35 w truth) = some (sugT truth 0 w.2.2.2.2 (List.replicate w.2.2.2.1.length 0), ()) := by
 have hm := hw.many; have hwg := hw.wagons
 simp only [F35, run_nb, run_nd, run_bd, run_it, run_ret, Int.toNat_natCast]
 rw [need_inbig (by omega) (by omega)]
 refine bind_eq (iter_list (f := fun a => run (fun _ => none) (g35_0 a)) w.2.2.2.2 (fun k (s : Nat × List Int) => (truth, w.2.2.2.1.length, w.2.2.2.2, ((w.2.2.2.2.length : Nat) : Int), (k : Int), s.2, ())) (fun s r => (w.2.2.2.1.length, sugT truth s.1 r s.2, ())) (fun pre s => s.1 = pre.length ∧ s.2.length = w.2.2.2.1.length ∧ Bd (102000000 * pre.length) s.2) ?_ ?_ (s := (0, List.replicate w.2.2.2.1.length 0)) ⟨rfl, by simp, fun y hy => by simp at hy; simp; omega⟩) ?_
 ·rintro pre x post ⟨i, l⟩ hx ⟨hi, hl, hb⟩
  simp only at hi hl hb
  subst hi
  left
  have hlen : w.2.2.2.2.length = pre.length + (post.length + 1) := by rw [hx]; simp
  have hd : w.2.2.2.2.getD pre.length ((0 : Int), ((0 : Int), ((0 : Int), (0 : Int)))) = x := by rw [hx]; exact getD_mid rfl
  have hxm : x ∈ w.2.2.2.2 := by rw [hx]; simp
  have hx1 := hw.wagon x hxm
  have h2 := ht.getD pre.length
  have h3 := hT_bd hw ht hxm pre.length
  have hsm := small_mul (K := 102000000) (n := pre.length) (by omega) (by omega) (by omega)
  have hg := hb.getD hsm.1 x.1.toNat
  have i1 : inb (pre.length : Int) ((w.2.2.2.2.length : Nat) : Int) = true := inb_t (by omega) (by omega)
  have i2 : inb x.1 ((w.2.2.2.1.length : Nat) : Int) = true := inb_t (by omega) (by omega)
  have d1 : decide (x.1.toNat < l.length) = true := decide_eq_true (by omega)
  have r1 : rng .i64 ((pre.length : Int) + 1) = true := rng_i64 (by omega) (by omega)
  have r2 : rng .i64 (x.2.1 - x.2.2.1) = true := rng_i64 (by omega) (by omega)
  have r3 : rng .i64 (x.2.1 - x.2.2.1 + (truth.getD pre.length (0, 0)).1) = true := rng_i64 (by omega) (by omega)
  have r4 : rng .i64 (x.2.2.2 + (truth.getD pre.length (0, 0)).2) = true := rng_i64 (by omega) (by omega)
  refine ⟨(pre.length + 1, upd (hT truth pre.length) l x), ?_, ⟨by simp, by rw [upd_len]; exact hl, ?_⟩, rfl⟩
  ·simp only [g35_0, run_br, run_bd, run_jx, run_nb, run_nd, run_ni, run_ret, Int.toNat_natCast, Nat.zero_add, hd, i1, r1, r2, r3, r4, need_true, br_d, imax_eq, imin_eq]
   rw [if_pos (by omega)]
   unfold upd
   unfold hT at h3 ⊢
   by_cases hk : pre.length < truth.length
   ·have i3 : inb (pre.length : Int) ((truth.length : Nat) : Int) = true := inb_t (by omega) (by omega)
    rw [if_pos (show (pre.length : Int) < ((truth.length : Nat) : Int) by omega)]
    rw [if_pos hk] at h3 ⊢
    simp only [i3, need_true, bindO_s, onS, run_nb, run_nd, run_ni, run_ret, i2, d1, r1, Nat.zero_add]
    rw [need_i64 (by omega) (by omega), need_i64 (by omega) (by omega)]
    rfl
   ·rw [if_neg (show ¬ (pre.length : Int) < ((truth.length : Nat) : Int) by omega)]
    rw [if_neg hk] at h3 ⊢
    simp only [bindO_s, onS, run_nb, run_nd, run_ni, run_ret, i2, d1, r1, need_true, Nat.zero_add]
    rw [need_i64 (by omega) (by omega), need_i64 (by omega) (by omega)]
    rfl
  ·have e : (102000000 : Int) * ((pre ++ [x]).length : Int) = 102000000 * (pre.length : Int) + 102000000 := by rw [List.length_append, List.length_cons, List.length_nil]; omega
   rw [e]
   exact Bd.upd hb hsm.1 h3
 ·rintro s _
  simp only [g35_0, run_br, br_d, run_ret]
  rw [if_neg (by omega)]
  rfl
 ·simp only [List.drop_zero]
  rw [List.take_of_length_le (by rw [sugT_len, List.length_replicate]; exact Nat.le_refl _)]
end Go.Proofs.Try
end
section
namespace Go.Proofs.Try
open Go.AM Go.Pay
set_option maxRecDepth 100000
/-- Who is in a set, as its number says. -/
def bitB (set : Int) (i : Nat) : Bool := ar0.bits Go.AM.IBin.and Go.IntKind.i64 (ar0.shr set (i : Int)) 1 == 1
/-- Every choice among four is a number's. -/
theorem bit_all : ∀ b0 b1 b2 b3 : Bool, ∃ k : Nat, k < 16 ∧ bitB (k : Int) 0 = b0 ∧ bitB (k : Int) 1 = b1 ∧ bitB (k : Int) 2 = b2 ∧ bitB (k : Int) 3 = b3 ∧ (b1 = false → b2 = false → b3 = false → k < 2) ∧ (b2 = false → b3 = false → k < 4) ∧ (b3 = false → k < 8) := by
 intro b0 b1 b2 b3
 refine ⟨b0.toNat + 2 * b1.toNat + 4 * b2.toNat + 8 * b3.toNat, ?_⟩
 revert b0 b1 b2 b3
 decide +kernel
section
variable {w : Wk} {s : List Int} (hw : OkW w) (hs : OkS w s)
include hw hs
theorem k36_0 : run (fun _ => none) (.it g36_0 (s, 0, s, ((s.length : Nat) : Int), 0, w.1, w.2.1, w.2.2.1, w.2.2.2.1, w.2.2.2.2, ())) = some (s, capS (prs w s), w.1, w.2.1, w.2.2.1, w.2.2.2.1, w.2.2.2.2, ()) := by
 have hm := hw.many
 have hz := zs_len hw hs
 have hsl := hs.len
 have key := iter_list (f := fun a => run (fun _ => none) (g36_0 a)) (w.2.2.2.1.zip s) (fun k (p : Int) => (s, p, s, ((s.length : Nat) : Int), (k : Int), w.1, w.2.1, w.2.2.1, w.2.2.2.1, w.2.2.2.2, ()))
  (fun p r => (s, p + capS (r.map fun x => (x.1.2, x.2)), w.1, w.2.1, w.2.2.1, w.2.2.2.1, w.2.2.2.2, ()))
  (fun pre p => p = capS (pre.map fun x => (x.1.2, x.2))) (by
   rintro pre x post p hx rfl
   left
   have hlen : w.2.2.2.1.length = pre.length + (post.length + 1) := by rw [← hz, hx]; simp
   obtain ⟨d1, d2⟩ := zip_at (d := (bs [], (0 : Int))) (e := (0 : Int)) hx
   have i1 : inb (pre.length : Int) ((w.2.2.2.1.length : Nat) : Int) = true := inb_t (by omega) (by omega)
   have i2 : inb (pre.length : Int) ((s.length : Nat) : Int) = true := inb_t (by omega) (by omega)
   have r1 : rng .i64 ((pre.length : Int) + 1) = true := rng_i64 (by omega) (by omega)
   have hg := zs_good hw hs (x := x) (by rw [hx]; simp)
   have hcap := capS_bd hw hs (l := pre) (fun y hy => by rw [hx]; simp [hy])
   refine ⟨capS ((pre ++ [x]).map fun x => (x.1.2, x.2)), ?_, rfl, ?_⟩
   ·simp only [g36_0, run_br, run_nb, run_nd, run_ni, run_ret, Int.toNat_natCast, d1, d2, i1, i2, r1, need_true, br_d]
    rw [if_pos (by omega), List.map_append, capS_append]
    simp only [List.map_cons, List.map_nil, capS_cons, show capS [] = 0 from rfl]
    by_cases hc : 0 < x.2
    ·rw [if_pos hc, if_pos hc, need_i64 (by omega) (by omega)]
     simp
    ·rw [if_neg hc, if_neg hc]
     simp
   ·rw [List.map_append, capS_append]
    simp only [List.map_cons, List.map_nil, capS_cons, show capS [] = 0 from rfl, Int.add_zero, Int.add_assoc]) (by
   rintro p _
   simp only [g36_0, run_br, br_d, run_ret]
   rw [if_neg (by omega)]
   simp [capS]) (s := 0) rfl
 simp only [Int.zero_add] at key
 exact key
/-- Caps and sugar, and who is in the set. -/
def whoL (set : Int) : Nat → List ((ByteArray × Int) × Int) → List Who
 | _, [] => []
 | k, x :: r => ((x.1.2, x.2), bitB set k) :: whoL set (k + 1) r
def allSug (l : List Who) : Bool := l.all fun c => !c.2 || decide (0 < c.1.2)
theorem k36_2 {paid set : Int} (hp : 0 ≤ paid ∧ paid ≤ 1000000000) : run (fun _ => none) (.it g36_2 (s, paid, set, paid, 0, true, s, ((s.length : Nat) : Int), 0, w.1, w.2.1, w.2.2.1, w.2.2.2.1, w.2.2.2.2, ())) =
  some (s, paid, set, paid - capOf (whoL set 0 (w.2.2.2.1.zip s)), sugOf (whoL set 0 (w.2.2.2.1.zip s)), allSug (whoL set 0 (w.2.2.2.1.zip s)), w.1, w.2.1, w.2.2.1, w.2.2.2.1, w.2.2.2.2, ()) := by
 have hm := hw.many
 have hz := zs_len hw hs
 have hsl := hs.len
 have key := iter_list (f := fun a => run (fun _ => none) (g36_2 a)) (w.2.2.2.1.zip s) (fun k (t : Nat × Int × Int × Bool) => (s, paid, set, t.2.1, t.2.2.1, t.2.2.2, s, ((s.length : Nat) : Int), (k : Int), w.1, w.2.1, w.2.2.1, w.2.2.2.1, w.2.2.2.2, ()))
  (fun t r => (s, paid, set, t.2.1 - capOf (whoL set t.1 r), t.2.2.1 + sugOf (whoL set t.1 r), t.2.2.2 && allSug (whoL set t.1 r), w.1, w.2.1, w.2.2.1, w.2.2.2.1, w.2.2.2.2, ()))
  (fun pre t => t.1 = pre.length ∧ (t.2.1 ≤ 1000000000 ∧ -1000000000 * (pre.length : Int) ≤ t.2.1) ∧ (0 ≤ t.2.2.1 ∧ t.2.2.1 ≤ 6000000000 * pre.length)) (by
   rintro pre x post ⟨k, a, b, c⟩ hx ⟨hk, ha, hb⟩
   simp only at hk ha hb
   subst hk
   left
   have hlen : w.2.2.2.1.length = pre.length + (post.length + 1) := by rw [← hz, hx]; simp
   obtain ⟨d1, d2⟩ := zip_at (d := (bs [], (0 : Int))) (e := (0 : Int)) hx
   have i1 : inb (pre.length : Int) ((w.2.2.2.1.length : Nat) : Int) = true := inb_t (by omega) (by omega)
   have i2 : inb (pre.length : Int) ((s.length : Nat) : Int) = true := inb_t (by omega) (by omega)
   have i3 : inb (pre.length : Int) 64 = true := inb_t (by omega) (by omega)
   have r1 : rng .i64 ((pre.length : Int) + 1) = true := rng_i64 (by omega) (by omega)
   have hg := zs_good hw hs (x := x) (by rw [hx]; simp)
   have hbit : (ar0.bits Go.AM.IBin.and Go.IntKind.i64 (ar0.shr set (pre.length : Int)) 1 == 1) = bitB set pre.length := rfl
   have hwh : whoL set pre.length (x :: post) = ((x.1.2, x.2), bitB set pre.length) :: whoL set (pre.length + 1) post := rfl
   have hal : ∀ (y : Who) (l : List Who), allSug (y :: l) = ((!y.2 || decide (0 < y.1.2)) && allSug l) := fun _ _ => rfl
   refine ⟨(pre.length + 1, a - (if bitB set pre.length = true then x.1.2 else 0), b + (if bitB set pre.length = true then 0 else x.2), c && (!bitB set pre.length || decide (0 < x.2))), ?_, ⟨by simp, ?_, ?_⟩, ?_⟩
   ·simp only [g36_2, run_br, run_nb, run_nd, run_ni, run_ret, Int.toNat_natCast, d1, d2, i1, i2, i3, r1, need_true, br_d, hbit, br_if]
    rw [if_pos (by simpa using (show (pre.length : Int) < ((s.length : Nat) : Int) by omega))]
    cases hB : bitB set pre.length
    ·simp only [Bool.false_eq_true, if_false]
     rw [need_i64 (by omega) (by omega)]
     simp
    ·simp only [if_true]
     rw [need_i64 (by omega) (by omega)]
     cases c <;> simp
   ·simp only [List.length_append, List.length_cons, List.length_nil]
    split <;> omega
   ·simp only [List.length_append, List.length_cons, List.length_nil]
    split <;> omega
   ·simp only [hwh, capOf_cons, sugOf_cons, hal, Int.add_assoc, Int.sub_sub, Bool.and_assoc]) (by
   rintro t _
   simp only [g36_2, run_br, br_d, run_ret]
   rw [if_neg (by omega)]
   simp [whoL, capOf, sugOf, allSug]) (s := (0, paid, 0, true)) ⟨rfl, ⟨hp.2, by simp; omega⟩, by simp⟩
 simp only [Int.zero_add, Bool.true_and] at key
 exact key
end
end Go.Proofs.Try
end
section
namespace Go.Proofs.Try
open Go.AM Go.Pay
set_option maxRecDepth 100000
def dueW (num den : Int) (c : Who) : Int := if c.2 = true then c.1.1 * den else num * c.1.2
def agr1 (num den : Int) (c : Who) : Bool := if c.2 = true then decide (c.1.1 * den ≤ num * c.1.2) else decide (num * c.1.2 ≤ c.1.1 * den)
def agrB (num den : Int) (l : List Who) : Bool := l.all (agr1 num den)
theorem agrB_iff {num den : Int} {l : List Who} : agrB num den l = true ↔ Agrees num den l := by
 unfold agrB Agrees
 rw [List.all_eq_true]
 refine ⟨fun h c hc => ?_, fun h c hc => ?_⟩
 ·have := h c hc
  unfold agr1 at this
  split at this
  ·rename_i hh; rw [if_pos hh]; simpa using this
  ·rename_i hh; rw [if_neg hh]; simpa using this
 ·have := h c hc
  unfold agr1
  split
  ·rename_i hh; rw [if_pos hh] at this; simpa using this
  ·rename_i hh; rw [if_neg hh] at this; simpa using this
section
variable {w : Wk} {s : List Int} (hw : OkW w) (hs : OkS w s)
include hw hs
theorem whoL_len {set : Int} : ∀ (k : Nat) (l : List ((ByteArray × Int) × Int)), (whoL set k l).length = l.length
 | _, [] => rfl
 | k, x :: r => by simp [whoL, whoL_len (k + 1) r]
theorem k36_3 {num den paid set : Int} (hn : 0 ≤ num ∧ num ≤ 1000000000) (hd : 0 ≤ den ∧ den ≤ 6000000000) (e1 e2 : Bool) (e3 : Int) (e4 e5 e6 : Bool) :
  run (fun _ => none) (.it g36_3 (s, 0, den, paid, set, true, num, e1, e2, e3, e4, e5, e6, s, ((s.length : Nat) : Int), 0, w.1, w.2.1, w.2.2.1, w.2.2.2.1, w.2.2.2.2, [], ())) =
  some (s, w.2.2.2.1.length, den, paid, set, agrB num den (whoL set 0 (w.2.2.2.1.zip s)), e1, e2, e3, e4, e5, e6, w.1, w.2.1, w.2.2.1, w.2.2.2.1, w.2.2.2.2, (whoL set 0 (w.2.2.2.1.zip s)).map (dueW num den), ()) := by
 have hm := hw.many
 have hz := zs_len hw hs
 have hsl := hs.len
 have key := iter_list (f := fun a => run (fun _ => none) (g36_3 a)) (w.2.2.2.1.zip s) (fun k (t : List Int × Bool) => (s, t.1.length, den, paid, set, t.2, num, e1, e2, e3, e4, e5, e6, s, ((s.length : Nat) : Int), (k : Int), w.1, w.2.1, w.2.2.1, w.2.2.2.1, w.2.2.2.2, t.1, ()))
  (fun t r => (s, (t.1 ++ (whoL set t.1.length r).map (dueW num den)).length, den, paid, set, t.2 && agrB num den (whoL set t.1.length r), e1, e2, e3, e4, e5, e6, w.1, w.2.1, w.2.2.1, w.2.2.2.1, w.2.2.2.2, t.1 ++ (whoL set t.1.length r).map (dueW num den), ()))
  (fun pre t => t.1.length = pre.length) (by
   rintro pre x post ⟨l, c⟩ hx hk
   simp only at hk
   left
   have hlen : w.2.2.2.1.length = pre.length + (post.length + 1) := by rw [← hz, hx]; simp
   obtain ⟨d1, d2⟩ := zip_at (d := (bs [], (0 : Int))) (e := (0 : Int)) hx
   have i1 : inb (pre.length : Int) ((w.2.2.2.1.length : Nat) : Int) = true := inb_t (by omega) (by omega)
   have i2 : inb (pre.length : Int) ((s.length : Nat) : Int) = true := inb_t (by omega) (by omega)
   have i3 : inb (pre.length : Int) 64 = true := inb_t (by omega) (by omega)
   have r1 : rng .i64 ((pre.length : Int) + 1) = true := rng_i64 (by omega) (by omega)
   have hg := zs_good hw hs (x := x) (by rw [hx]; simp)
   have m1 := mul_bd hg.1 hg.2.1 hd.1 hd.2
   have m2 := mul_bd hn.1 hn.2 hg.2.2.1 hg.2.2.2
   have r2 : rng .i64 (x.1.2 * den) = true := rng_i64 (by omega) (by omega)
   have r3 : rng .i64 (num * x.2) = true := rng_i64 (by omega) (by omega)
   have hbit : (ar0.bits Go.AM.IBin.and Go.IntKind.i64 (ar0.shr set (pre.length : Int)) 1 == 1) = bitB set pre.length := rfl
   have hwh : whoL set l.length (x :: post) = ((x.1.2, x.2), bitB set pre.length) :: whoL set (l.length + 1) post := by rw [← hk]; rfl
   have hal : ∀ (y : Who) (m : List Who), agrB num den (y :: m) = (agr1 num den y && agrB num den m) := fun _ _ => rfl
   have tk : l.take l.length = l := List.take_length ..
   refine ⟨(l ++ [dueW num den ((x.1.2, x.2), bitB set pre.length)], c && agr1 num den ((x.1.2, x.2), bitB set pre.length)), ?_, by simp [hk], ?_⟩
   ·simp only [g36_3, run_br, run_nb, run_nd, run_ni, run_ret, Int.toNat_natCast, d1, d2, i1, i2, i3, r1, r2, r3, need_true, br_d, hbit, br_if, List.drop_zero, List.take_succ_cons, List.take_zero, List.length_cons, List.length_nil, Nat.zero_add, tk]
    rw [if_pos (by simpa using (show (pre.length : Int) < ((s.length : Nat) : Int) by omega))]
    simp only [need_lenbig (show l.length + 1 < 1000000000 by omega)]
    unfold dueW agr1
    cases hB : bitB set pre.length <;> cases c <;> simp
   ·simp only [List.length_append, List.length_cons, List.length_nil, Nat.zero_add, hwh, hal, List.map_cons, List.append_assoc, List.cons_append, List.nil_append, Bool.and_assoc]) (by
   rintro t _
   simp only [g36_3, run_br, br_d, run_ret]
   rw [if_neg (by omega)]
   simp [whoL, agrB]) (s := ([], true)) rfl
 simp only [List.length_nil, List.nil_append, Bool.true_and, List.length_map, whoL_len hw hs, hz] at key
 exact key
end
end Go.Proofs.Try
end
section
namespace Go.Proofs.Try
open Go.AM Go.Pay
set_option maxRecDepth 100000
theorem shl_le : ∀ n : Nat, n ≤ 4 → ar0.shl 1 (n : Int) = ((2 ^ n : Nat) : Int)
 | 0, _ => by decide +kernel
 | 1, _ => by decide +kernel
 | 2, _ => by decide +kernel
 | 3, _ => by decide +kernel
 | 4, _ => by decide +kernel
 | n + 5, h => by omega
def numW (paid : Int) (l : List Who) : Int := if sugOf l = 0 then 1000000000 else paid - capOf l
def denW (l : List Who) : Int := max 1 (sugOf l)
def goodB (paid : Int) (l : List Who) : Bool := decide (0 ≤ paid - capOf l) && allSug l && !(decide (0 < paid - capOf l) && decide (sugOf l = 0)) && agrB (numW paid l) (denW l) l
theorem goodB_good {paid : Int} {l : List Who} (h : goodB paid l = true) : Go.Pay.Good l paid 1000000000 (numW paid l) (denW l) := by
 unfold goodB at h
 simp only [Bool.and_eq_true, decide_eq_true_eq, Bool.not_eq_true', Bool.and_eq_false_iff, decide_eq_false_iff_not] at h
 obtain ⟨⟨⟨h1, _⟩, h3⟩, h4⟩ := h
 exact ⟨h1, fun q => h3.elim (fun r => r q.1) (fun r => r q.2), rfl, rfl, agrB_iff.1 h4⟩
section
variable {w : Wk} {s : List Int} (hw : OkW w) (hs : OkS w s)
include hw hs
theorem whoL_sug {set : Int} {zs : List ((ByteArray × Int) × Int)} : ∀ (k : Nat) (l : List ((ByteArray × Int) × Int)), (∀ x ∈ l, 0 ≤ x.2) → 0 ≤ sugOf (whoL set k l) ∧ sugOf (whoL set k l) ≤ (l.map (·.2)).sum
 | _, [], _ => by simp [whoL, sugOf]
 | k, x :: r, h => by
  have h1 := h x (List.mem_cons_self ..)
  have h2 := whoL_sug (set := set) (zs := zs) (k + 1) r fun y hy => h y (List.mem_cons_of_mem _ hy)
  simp only [whoL, sugOf_cons, List.map_cons, List.sum_cons]
  split <;> omega
theorem whoL_cap {set : Int} : ∀ (k : Nat) (l : List ((ByteArray × Int) × Int)), (∀ x ∈ l, 0 ≤ x.1.2 ∧ x.1.2 ≤ 1000000000) → 0 ≤ capOf (whoL set k l)
 | _, [], _ => by simp [whoL, capOf]
 | k, x :: r, h => by
  have h1 := h x (List.mem_cons_self ..)
  have h2 := whoL_cap (set := set) (k + 1) r fun y hy => h y (List.mem_cons_of_mem _ hy)
  simp only [whoL, capOf_cons]
  split <;> omega
theorem k36_1 {paid : Int} (hp : 0 ≤ paid ∧ paid ≤ 1000000000) (hn4 : w.2.2.2.1.length ≤ 4) {set : Nat} (hset : set < 2 ^ w.2.2.2.1.length) :
  run (fun _ => none) (g36_1 (s, paid, (set : Int), w.1, w.2.1, w.2.2.1, w.2.2.2.1, w.2.2.2.2, ())) =
  if goodB paid (whoL set 0 (w.2.2.2.1.zip s)) = true then some (.inr (.inl (w.2.2.2.1.length, denW (whoL set 0 (w.2.2.2.1.zip s)), paid, (whoL set 0 (w.2.2.2.1.zip s)).map (dueW (numW paid (whoL set 0 (w.2.2.2.1.zip s))) (denW (whoL set 0 (w.2.2.2.1.zip s)))), ())))
   else some (.inl (s, paid, ((set + 1 : Nat) : Int), w.1, w.2.1, w.2.2.1, w.2.2.2.1, w.2.2.2.2, ())) := by
 have hsl := hs.len
 have hzg : ∀ x ∈ w.2.2.2.1.zip s, 0 ≤ x.1.2 ∧ x.1.2 ≤ 1000000000 ∧ 0 ≤ x.2 ∧ x.2 ≤ 6000000000 := fun x hx => zs_good hw hs hx
 have hsug := whoL_sug hw hs (set := (set : Int)) (zs := []) 0 (w.2.2.2.1.zip s) fun x hx => (hzg x hx).2.2.1
 have hcap := whoL_cap hw hs (set := (set : Int)) 0 (w.2.2.2.1.zip s) fun x hx => ⟨(hzg x hx).1, (hzg x hx).2.1⟩
 have hsum : ((w.2.2.2.1.zip s).map (·.2)).sum = s.sum := by rw [List.map_snd_zip (by rw [hs.len]; exact Nat.le_refl _)]
 have hall := hs.all
 have h2 := k36_2 hw hs (set := (set : Int)) hp
 have h16 : set < 16 := by
  have : 2 ^ w.2.2.2.1.length ≤ 2 ^ 4 := Nat.pow_le_pow_right (by omega) hn4
  omega
 have i1 : inb ((s.length : Nat) : Int) 64 = true := inb_t (by omega) (by omega)
 have hsh : ar0.shl 1 ((s.length : Nat) : Int) = ((2 ^ w.2.2.2.1.length : Nat) : Int) := by rw [hsl]; exact shl_le _ hn4
 have h216 : (2 ^ w.2.2.2.1.length : Nat) ≤ 16 := by
  have : 2 ^ w.2.2.2.1.length ≤ 2 ^ 4 := Nat.pow_le_pow_right (by omega) hn4
  omega
 have r0 : rng .i64 ((2 ^ w.2.2.2.1.length : Nat) : Int) = true := rng_i64 (by omega) (by omega)
 have r1 : rng .i64 ((set : Int) + 1) = true := rng_i64 (by omega) (by omega)
 have h3 := fun num den hn hd e1 e2 e3 e4 e5 e6 => k36_3 hw hs (num := num) (den := den) (paid := paid) (set := (set : Int)) hn hd e1 e2 e3 e4 e5 e6
 simp only [g36_1, run_br, run_bd, run_jx, run_nb, run_nd, run_ni, run_ret, hsh, i1, r0, need_true, br_d]
 rw [if_pos (by omega), bind_of h2]
 generalize whoL (set : Int) 0 (w.2.2.2.1.zip s) = W at *
 simp only [r1, need_true, br_not, br_eq, br_if, imax_eq]
 unfold goodB
 by_cases c1 : paid - capOf W < 0
 ·rw [if_pos c1, if_neg]
  ·rfl
  ·rw [decide_eq_false (by omega)]; simp
 rw [if_neg c1, decide_eq_true (show 0 ≤ paid - capOf W by omega), Bool.true_and]
 cases c2 : allSug W
 ·simp
 simp only [Bool.not_true, Bool.false_eq_true, if_false, Bool.true_and, beq_iff_eq]
 have hden : 0 ≤ max 1 (sugOf W) ∧ max 1 (sugOf W) ≤ 6000000000 := by omega
 by_cases c3 : 0 < paid - capOf W
 ·rw [if_pos c3]
  by_cases c4 : sugOf W = 0
  ·rw [if_pos c4, if_neg]
   ·rfl
   ·rw [decide_eq_true c3, decide_eq_true c4]; simp
  ·rw [if_neg c4, if_neg c4]
   have hnum : numW paid W = paid - capOf W := by unfold numW; rw [if_neg c4]
   rw [decide_eq_true c3, decide_eq_false c4, hnum]
   simp only [bindO_s, onS, run_bd, Bool.and_false, Bool.not_false, Bool.true_and]
   rw [bind_of (h3 (paid - capOf W) (max 1 (sugOf W)) ⟨by omega, by omega⟩ hden _ _ _ _ _ _)]
   simp only [run_br, br_if, run_ni, run_nd, run_ret, r1, need_true]
   rfl
 ·rw [if_neg c3]
  rw [decide_eq_false c3]
  simp only [Bool.false_and, Bool.not_false, Bool.true_and]
  by_cases c4 : sugOf W = 0
  ·have hnum : numW paid W = 1000000000 := by unfold numW; rw [if_pos c4]
   rw [if_pos c4, hnum]
   simp only [bindO_s, onS, run_bd]
   rw [bind_of (h3 1000000000 (max 1 (sugOf W)) ⟨by omega, by omega⟩ hden _ _ _ _ _ _)]
   simp only [run_br, br_if, run_ni, run_nd, run_ret, r1, need_true]
   rfl
  ·have hnum : numW paid W = paid - capOf W := by unfold numW; rw [if_neg c4]
   rw [if_neg c4, hnum]
   simp only [bindO_s, onS, run_bd]
   rw [bind_of (h3 (paid - capOf W) (max 1 (sugOf W)) ⟨by omega, by omega⟩ hden _ _ _ _ _ _)]
   simp only [run_br, br_if, run_ni, run_nd, run_ret, r1, need_true]
   rfl
end
end Go.Proofs.Try
end
section
namespace Go.Proofs.Try
open Go.AM Go.Pay
set_option maxRecDepth 100000
theorem whoL_fst (set : Int) : ∀ (k : Nat) (l : List ((ByteArray × Int) × Int)), (whoL set k l).map (·.1) = l.map fun x => (x.1.2, x.2)
 | _, [] => rfl
 | k, x :: r => by simp only [whoL, List.map_cons, whoL_fst set (k + 1) r]
/-- Every choice is a number's. -/
theorem who_exists (p : Int × Int → Bool) : ∀ zs : List ((ByteArray × Int) × Int), zs.length ≤ 4 → ∃ k : Nat, k < 2 ^ zs.length ∧ whoL (k : Int) 0 zs = (zs.map fun x => (x.1.2, x.2)).map fun c => (c, p c)
 | [], _ => ⟨0, by simp, rfl⟩
 | [a], _ => by
  obtain ⟨k, _, h0, h1, h2, h3, q1, q2, q3⟩ := bit_all (p (a.1.2, a.2)) false false false
  exact ⟨k, q1 rfl rfl rfl, by simp [whoL, h0]⟩
 | [a, b], _ => by
  obtain ⟨k, _, h0, h1, h2, h3, q1, q2, q3⟩ := bit_all (p (a.1.2, a.2)) (p (b.1.2, b.2)) false false
  exact ⟨k, q2 rfl rfl, by simp [whoL, h0, h1]⟩
 | [a, b, c], _ => by
  obtain ⟨k, _, h0, h1, h2, h3, q1, q2, q3⟩ := bit_all (p (a.1.2, a.2)) (p (b.1.2, b.2)) (p (c.1.2, c.2)) false
  exact ⟨k, q3 rfl, by simp [whoL, h0, h1, h2]⟩
 | [a, b, c, d], _ => by
  obtain ⟨k, hk, h0, h1, h2, h3, q1, q2, q3⟩ := bit_all (p (a.1.2, a.2)) (p (b.1.2, b.2)) (p (c.1.2, c.2)) (p (d.1.2, d.2))
  exact ⟨k, hk, by simp [whoL, h0, h1, h2, h3]⟩
 | _ :: _ :: _ :: _ :: _ :: _, h => by simp at h
section
variable {w : Wk} {s : List Int} (hw : OkW w) (hs : OkS w s)
include hw hs
theorem k36 (hn4 : w.2.2.2.1.length ≤ 4) {lv : Int × Int} (hl : Lv (prs w s) (paidOf w s) lv.1 lv.2) :
  ∃ (due : List Int) (den : Int), run0 (F36 w s) = some (due, den, paidOf w s, ()) ∧ 0 < den ∧ den ≤ max 1 s.sum ∧ due.length = w.2.2.2.1.length ∧ ∀ i, i < w.2.2.2.1.length → due.getD i 0 * lv.2 = D1 lv.1 lv.2 ((prs w s).getD i (0, 0)) * den := by
 have hz := zs_len hw hs
 have hp := paid_bd hw hs
 have hnn := prs_nn hw hs
 obtain ⟨k0, hk0, hW0⟩ := who_exists (fun c => decide (0 < c.2 ∧ c.1 * lv.2 ≤ lv.1 * c.2)) (w.2.2.2.1.zip s) (by omega)
 rw [hz] at hk0
 have hW0' : whoL (k0 : Int) 0 (w.2.2.2.1.zip s) = whoAt lv.1 lv.2 (prs w s) := hW0
 have hg0 : goodB (paidOf w s) (whoL (k0 : Int) 0 (w.2.2.2.1.zip s)) = true := by
  rw [hW0']
  have hg := good_at (M := 1000000000) hnn hl (fun c hc => by
   obtain ⟨x, hx, rfl⟩ := List.mem_map.1 hc
   exact (zs_good hw hs hx).2.1) (by omega)
  unfold goodB
  have ha : allSug (whoAt lv.1 lv.2 (prs w s)) = true := by
   unfold allSug whoAt
   rw [List.all_map, List.all_eq_true]
   intro c _
   by_cases h0 : 0 < c.2
   ·simp [h0]
   ·simp [h0]
  have hag : agrB (numW (paidOf w s) (whoAt lv.1 lv.2 (prs w s))) (denW (whoAt lv.1 lv.2 (prs w s))) (whoAt lv.1 lv.2 (prs w s)) = true := agrB_iff.2 hg.agrees
  rw [ha, hag, decide_eq_true hg.left]
  have hso := hg.some
  by_cases h1 : 0 < paidOf w s - capOf (whoAt lv.1 lv.2 (prs w s))
  ·rw [decide_eq_true h1, decide_eq_false (fun h => hso ⟨h1, h⟩)]; rfl
  ·rw [decide_eq_false h1]; rfl
 have key : ∀ m k : Nat, k + m = k0 → ∃ k1 : Nat, goodB (paidOf w s) (whoL (k1 : Int) 0 (w.2.2.2.1.zip s)) = true ∧ iter (fun a => run (fun _ => none) (g36_1 a)) (s, paidOf w s, (k : Int), w.1, w.2.1, w.2.2.1, w.2.2.2.1, w.2.2.2.2, ()) =
   some (.inl (w.2.2.2.1.length, denW (whoL k1 0 (w.2.2.2.1.zip s)), paidOf w s, (whoL k1 0 (w.2.2.2.1.zip s)).map (dueW (numW (paidOf w s) (whoL k1 0 (w.2.2.2.1.zip s))) (denW (whoL k1 0 (w.2.2.2.1.zip s)))), ())) := by
  intro m
  induction m with
  | zero =>
   intro k hk
   have : k = k0 := by omega
   subst this
   refine ⟨k, hg0, iter_inr ?_⟩
   rw [k36_1 hw hs hp hn4 hk0, if_pos hg0]
  | succ m ih =>
   intro k hk
   have hkl : k < 2 ^ w.2.2.2.1.length := by omega
   by_cases hgk : goodB (paidOf w s) (whoL (k : Int) 0 (w.2.2.2.1.zip s)) = true
   ·refine ⟨k, hgk, iter_inr ?_⟩
    rw [k36_1 hw hs hp hn4 hkl, if_pos hgk]
   ·obtain ⟨k1, h1, h2⟩ := ih (k + 1) (by omega)
    refine ⟨k1, h1, iter_inl ?_ h2⟩
    rw [k36_1 hw hs hp hn4 hkl, if_neg hgk]
 obtain ⟨k1, h1, h2⟩ := key k0 0 (by omega)
 have hg := goodB_good h1
 have hfst : (whoL (k1 : Int) 0 (w.2.2.2.1.zip s)).map (·.1) = prs w s := whoL_fst ..
 have hlen : (whoL (k1 : Int) 0 (w.2.2.2.1.zip s)).length = w.2.2.2.1.length := by rw [whoL_len hw hs, hz]
 have hwn : ∀ c ∈ whoL (k1 : Int) 0 (w.2.2.2.1.zip s), 0 ≤ c.1.2 := fun c hc => (hnn c.1 (by rw [← hfst]; exact List.mem_map.2 ⟨c, hc, rfl⟩)).2
 obtain ⟨hd, hsum⟩ := hg.sum hwn
 rw [hfst] at hsum
 have hsame := D1_same hnn hl.dpos hd hl.sum hsum
 have hds := whoL_sug hw hs (set := (k1 : Int)) (zs := []) 0 (w.2.2.2.1.zip s) fun x hx => (zs_good hw hs hx).2.2.1
 rw [List.map_snd_zip (by rw [hs.len]; exact Nat.le_refl _)] at hds
 generalize hWW : whoL (k1 : Int) 0 (w.2.2.2.1.zip s) = W at *
 refine ⟨W.map (dueW (numW (paidOf w s) W) (denW W)), denW W, ?_, hd, by unfold denW; omega, by rw [List.length_map, hlen], fun i hi => ?_⟩
 ·simp only [F36, run_bd, run_it, run_ret]
  have e0 := k36_0 hw hs
  simp only [run_it] at e0
  rw [bind_of e0]
  simp only []
  have hpd : imin (capS (prs w s)) w.1 = paidOf w s := imin_eq ..
  rw [hpd]
  refine bind_eq h2 ?_
  simp only [run_sl, run_ret, List.drop_zero]
  rw [List.take_of_length_le (by rw [List.length_map, hlen]; exact Nat.le_refl _)]
 ·have hiW : i < W.length := by omega
  have e1 : (W.map (dueW (numW (paidOf w s) W) (denW W))).getD i 0 = dueW (numW (paidOf w s) W) (denW W) W[i] := by
   simp [List.getD_eq_getElem?_getD, List.getElem?_eq_getElem hiW]
  have e2 : (prs w s).getD i (0, 0) = W[i].1 := by
   rw [← hfst]; simp [List.getD_eq_getElem?_getD, List.getElem?_eq_getElem hiW]
  have hm : W[i] ∈ W := List.getElem_mem _
  rw [e1, e2]
  have e3 : dueW (numW (paidOf w s) W) (denW W) W[i] = D1 (numW (paidOf w s) W) (denW W) W[i].1 := (agrees_D1 (hg.agrees _ hm)).symm
  rw [e3]
  exact (hsame W[i].1 (by rw [← hfst]; exact List.mem_map.2 ⟨_, hm, rfl⟩)).symm
end
end Go.Proofs.Try
end
section
namespace Go.Proofs.Try
open Go.AM Go.Pay
set_option maxRecDepth 100000
theorem inc_len (o : List Int) (i : Nat) : (inc o i).length = o.length := by simp [inc]
theorem inc_getD {o : List Int} {i j : Nat} (hj : j < o.length) : (inc o j).getD i 0 = o.getD i 0 + if i = j then 1 else 0 := by
 unfold inc
 by_cases h : i = j
 ·subst h; rw [getD_set_self hj, if_pos rfl]
 ·rw [if_neg h]; simp [List.getD_eq_getElem?_getD, List.getElem?_set_ne (Ne.symm h)]
theorem incs_len : ∀ (N : List Nat) (o : List Int), (N.foldl inc o).length = o.length
 | [], _ => rfl
 | j :: N, o => by rw [List.foldl_cons, incs_len N, inc_len]
theorem incs_getD : ∀ (N : List Nat) (o : List Int), N.Nodup → (∀ j ∈ N, j < o.length) → ∀ i, (N.foldl inc o).getD i 0 = o.getD i 0 + if i ∈ N then 1 else 0
 | [], o, _, _, i => by simp
 | j :: N, o, hn, h, i => by
  rw [List.nodup_cons] at hn
  have hj := h j (List.mem_cons_self ..)
  rw [List.foldl_cons, incs_getD N (inc o j) hn.2 (fun k hk => by rw [inc_len]; exact h k (List.mem_cons_of_mem _ hk)) i, inc_getD hj]
  by_cases hij : i = j
  ·subst hij
   rw [if_pos rfl, if_neg hn.1, if_pos (List.mem_cons_self ..)]; omega
  ·rw [if_neg hij]
   by_cases hi : i ∈ N
   ·rw [if_pos hi, if_pos (List.mem_cons_of_mem _ hi)]; omega
   ·rw [if_neg hi, if_neg (by simp [hij, hi])]; omega
end Go.Proofs.Try
end
section
namespace Go.Proofs.Try
open Go.AM Go.Pay
set_option maxRecDepth 100000
noncomputable def levelW (w : Wk) (s : List Int) : Int × Int := level (clm w s) (paidOf w s)
noncomputable def outsW (w : Wk) (s : List Int) : List Int := outsL (prs w s) (levelW w s)
noncomputable def cutsW (w : Wk) (s : List Int) : List Int := cutsL (prs w s) (levelW w s)
noncomputable def numsW (w : Wk) (s : List Int) : List Nat := (order w s).map fun c => c.2.1.toNat
noncomputable def moreW (w : Wk) (s : List Int) : List Nat := (numsW w s).take (leftOf w s).toNat
def capAt (w : Wk) (i : Nat) : Int := (w.2.2.2.1.getD i (bs [], 0)).2
theorem payL_eq (w : Wk) (s : List Int) : payL w s = (moreW w s).foldl inc (outsW w s) := by
 unfold payL moreW numsW; rw [← List.map_take, List.foldl_map]; rfl
section
variable {w : Wk} {s : List Int} (hw : OkW w) (hs : OkS w s)
include hw hs
theorem prs_at {i : Nat} (hi : i < w.2.2.2.1.length) : (prs w s).getD i (0, 0) = (capAt w i, s.getD i 0) := by
 have h1 := hs.len
 have hz := zs_len hw hs
 unfold prs capAt
 rw [List.getD_eq_getElem?_getD, List.getElem?_map, List.getElem?_eq_getElem (show i < (w.2.2.2.1.zip s).length by omega)]
 simp [List.getD_eq_getElem?_getD, List.getElem?_eq_getElem hi, List.getElem?_eq_getElem (show i < s.length by omega)]
theorem prs_mem {i : Nat} (hi : i < w.2.2.2.1.length) : (capAt w i, s.getD i 0) ∈ prs w s := by
 have h := prs_len hw hs
 rw [← prs_at hw hs hi, List.getD_eq_getElem?_getD, List.getElem?_eq_getElem (by omega)]
 exact List.getElem_mem _
theorem outs_len : (outsW w s).length = w.2.2.2.1.length := by unfold outsW outsL; rw [List.length_map, prs_len hw hs]
theorem cuts_len : (cutsW w s).length = w.2.2.2.1.length := by unfold cutsW cutsL; rw [List.length_map, prs_len hw hs]
theorem outs_at {i : Nat} (hi : i < w.2.2.2.1.length) : (outsW w s).getD i 0 = (dueOf (capAt w i, s.getD i 0) (levelW w s)).1 := by
 have h := prs_len hw hs
 rw [← prs_at hw hs hi]
 unfold outsW outsL
 simp [List.getD_eq_getElem?_getD, List.getElem?_eq_getElem (show i < (prs w s).length by omega)]
theorem cuts_at {i : Nat} (hi : i < w.2.2.2.1.length) : (cutsW w s).getD i 0 = (dueOf (capAt w i, s.getD i 0) (levelW w s)).2 := by
 have h := prs_len hw hs
 rw [← prs_at hw hs hi]
 unfold cutsW cutsL
 simp [List.getD_eq_getElem?_getD, List.getElem?_eq_getElem (show i < (prs w s).length by omega)]
theorem nums_perm : (numsW w s).Perm (List.range w.2.2.2.1.length) := by
 refine ((isort_perm _).map _).trans ?_
 unfold clm
 rw [clmL_nums, zs_len hw hs, List.range_eq_range']
theorem nums_sorted : (numsW w s).Pairwise fun a b => better (cutsW w s) (nameOf w) b a = false := by
 unfold numsW
 rw [List.pairwise_map]
 exact isort_sorted (ordC (n := w.2.2.2.1.length) (name_ne hw hs)) (clm_goodN hw hs)
theorem nums_nodup : (numsW w s).Nodup := (nums_perm hw hs).nodup_iff.2 List.nodup_range
theorem nums_len : (numsW w s).length = w.2.2.2.1.length := by rw [(nums_perm hw hs).length_eq, List.length_range]
theorem more_lt : ∀ j ∈ moreW w s, j < w.2.2.2.1.length := fun j hj => by
 have := List.mem_of_mem_take hj
 rw [(nums_perm hw hs).mem_iff] at this
 simpa using this
theorem more_nodup : (moreW w s).Nodup := (nums_nodup hw hs).sublist (List.take_sublist ..)
theorem more_len : ((moreW w s).length : Int) = leftOf w s := by
 have h1 := left_ok hw hs
 have h2 := left_le hw hs
 unfold moreW
 rw [List.length_take, nums_len hw hs]
 omega
theorem payW_len : (payL w s).length = w.2.2.2.1.length := by rw [payL_eq, incs_len, outs_len hw hs]
theorem payL_get {i : Nat} (hi : i < w.2.2.2.1.length) : (payL w s).getD i 0 = (outsW w s).getD i 0 + if i ∈ moreW w s then 1 else 0 := by
 rw [payL_eq, incs_getD _ _ (more_nodup hw hs) (fun j hj => by rw [outs_len hw hs]; exact more_lt hw hs j hj)]
theorem more_pos {i : Nat} (hi : i ∈ moreW w s) : 0 < (cutsW w s).getD i 0 := by
 obtain ⟨A, B, hAB⟩ := List.append_of_mem hi
 have hl := left_ok hw hs
 have hlen := more_len hw hs
 have hN : numsW w s = A ++ i :: (B ++ (numsW w s).drop (leftOf w s).toNat) := by
  have := List.take_append_drop (leftOf w s).toNat (numsW w s)
  unfold moreW at hAB
  rw [hAB] at this
  refine this.symm.trans ?_
  simp
 refine first_pos (nums_perm hw hs) (nums_sorted hw hs) hN (cuts_len hw hs) ?_
 rw [hAB, List.length_append, List.length_cons] at hlen
 have : leftOf w s ≤ posN (cutsW w s) := hl.2
 omega
theorem levelW_lv : Lv (prs w s) (paidOf w s) (levelW w s).1 (levelW w s).2 := lv_prog hw hs
/-- Each payment with what was cut off. -/
theorem payL_at {i : Nat} (hi : i < w.2.2.2.1.length) : ∃ o c : Int, (dueOf (capAt w i, s.getD i 0) (levelW w s)) = (o, c) ∧ o * (levelW w s).2 + c = D1 (levelW w s).1 (levelW w s).2 (capAt w i, s.getD i 0) ∧ 0 ≤ c ∧ c < (levelW w s).2 ∧ 0 ≤ o ∧ o ≤ capAt w i ∧ (0 < c → o < capAt w i) ∧
  ((payL w s).getD i 0 = o ∧ i ∉ moreW w s ∨ ((payL w s).getD i 0 = o + 1 ∧ 0 < c ∧ i ∈ moreW w s)) := by
 have hl := levelW_lv hw hs
 have hx : OkL (levelW w s) := level_ok hw hs
 have hm := prs_mem hw hs hi
 have hn := prs_nn hw hs _ hm
 obtain ⟨z, hz, hz2⟩ := List.mem_map.1 hm
 have hg := zs_good hw hs hz
 have hc1 : z.1.2 = capAt w i := congrArg Prod.fst hz2
 have hc2 : z.2 = s.getD i 0 := congrArg Prod.snd hz2
 have hb := dueOf_bd (c := (capAt w i, s.getD i 0)) ⟨hn.1, by simp only; omega⟩ ⟨hn.2, by simp only; omega⟩ hx
 have hD := dueOf_D1 (c := (capAt w i, s.getD i 0)) hl.dpos
 have hcut : (dueOf (capAt w i, s.getD i 0) (levelW w s)).2 < (levelW w s).2 := (cutsL_bd hl.dpos (prs w s) _ (List.mem_map.2 ⟨_, hm, rfl⟩)).2
 have hlt : 0 < (dueOf (capAt w i, s.getD i 0) (levelW w s)).2 → (dueOf (capAt w i, s.getD i 0) (levelW w s)).1 < capAt w i := by
  intro hc
  have h1 : D1 (levelW w s).1 (levelW w s).2 (capAt w i, s.getD i 0) ≤ capAt w i * (levelW w s).2 := by unfold D1; exact Int.min_le_right ..
  rcases Int.lt_or_le (dueOf (capAt w i, s.getD i 0) (levelW w s)).1 (capAt w i) with h | h
  ·exact h
  ·have := Int.mul_le_mul_of_nonneg_right h (Int.le_of_lt hl.dpos)
   omega
 refine ⟨_, _, rfl, hD, hb.2.2.1, hcut, hb.1, hb.2.1, hlt, ?_⟩
 have h1 := payL_get hw hs hi
 rw [outs_at hw hs hi] at h1
 by_cases hmo : i ∈ moreW w s
 ·right
  rw [if_pos hmo] at h1
  have h2 := more_pos hw hs hmo
  rw [cuts_at hw hs hi] at h2
  exact ⟨h1, h2, hmo⟩
 ·left
  rw [if_neg hmo] at h1
  exact ⟨by rw [h1]; exact Int.add_zero _, hmo⟩
end
end Go.Proofs.Try
end
section
namespace Go.Proofs.Try
open Go.AM Go.Pay
set_option maxRecDepth 100000
theorem ediv_bd {x M : Int} (g : Nat) (h : x ≤ M) (hM : 0 ≤ M) : x / (g : Int) ≤ M := by
 rcases Int.lt_or_le x 0 with hx | hx
 ·rcases Nat.eq_zero_or_pos g with rfl | hg
  ·simpa using hM
  ·have := Int.ediv_neg_of_neg_of_pos hx (show (0 : Int) < (g : Int) by omega)
   omega
 ·have := Int.ediv_le_self (g : Int) hx
  omega
theorem red_bd {a b N D : Int} (ha : a ≤ N) (hb : b ≤ D) (hN : 0 ≤ N) (hD : 0 ≤ D) : (red a b).1 ≤ N ∧ (red a b).2 ≤ D := ⟨ediv_bd _ ha hN, ediv_bd _ hb hD⟩
theorem payLv_bd {N D : Int} (hN : 0 ≤ N) (hD : 0 ≤ D) : ∀ (r : List (Int × Int)) (left sugar : Int) (last : Int × Int), left ≤ N → sugar ≤ D → last.1 ≤ N → last.2 ≤ D → (∀ c ∈ r, 0 ≤ c.1 ∧ c.1 ≤ N ∧ 0 ≤ c.2 ∧ c.2 ≤ D) → (payLv r left sugar last).1 ≤ N ∧ (payLv r left sugar last).2 ≤ D
 | [], _, _, _, _, _, h1, h2, _ => ⟨h1, h2⟩
 | c :: r, left, sugar, last, hl, hs, _, _, hc => by
  have h := hc c (List.mem_cons_self ..)
  unfold payLv
  split
  ·exact red_bd hl hs hN hD
  ·have hr := red_bd h.2.1 h.2.2.2 hN hD
   exact payLv_bd hN hD r _ _ _ (by omega) (by omega) hr.1 hr.2 fun x hx => hc x (List.mem_cons_of_mem _ hx)
theorem OkS.le_sum {w : Wk} {s : List Int} (h : OkS w s) : 0 ≤ s.sum ∧ ∀ x ∈ s, x ≤ s.sum := by
 have key : ∀ s : List Int, (∀ x ∈ s, 0 ≤ x) → 0 ≤ s.sum ∧ ∀ x ∈ s, x ≤ s.sum := by
  intro s
  induction s with
  | nil => intro _; simp
  | cons y l ih =>
   intro h
   have h1 := h y (List.mem_cons_self ..)
   have h2 := ih fun x hx => h x (List.mem_cons_of_mem _ hx)
   refine ⟨by simp only [List.sum_cons]; omega, fun x hx => ?_⟩
   rcases List.mem_cons.1 hx with rfl | hx
   ·simp only [List.sum_cons]; omega
   ·have := h2.2 x hx; simp only [List.sum_cons]; omega
 exact key s h.nn
theorem levelW_bd {w : Wk} {s : List Int} (hw : OkW w) (hs : OkS w s) {N D : Int} (hN : ∀ f ∈ w.2.2.2.1, f.2 ≤ N) (hp : w.1 ≤ N) (hD : s.sum ≤ D) (hD1 : 1 ≤ D) : (levelW w s).1 ≤ N ∧ (levelW w s).2 ≤ D := by
 have hpot := hw.pot
 have hle := hs.le_sum
 have e : sugC (clm w s) = s.sum := by
  have h1 : sugC (clm w s) = sug ((clm w s).map pr) := rfl
  rw [h1, clm_pr, sug_prs hs]
 refine payLv_bd (by omega) (by omega) _ _ _ _ ?_ ?_ ?_ ?_ ?_
 ·unfold paidOf; omega
 ·rw [e]; omega
 ·simp only; omega
 ·simp only; omega
 ·intro c hc
  obtain ⟨x, hx, rfl⟩ := List.mem_map.1 hc
  have hx2 : x ∈ kept (clm w s) := (isort_perm _).mem_iff.1 hx
  have hx3 : x ∈ clm w s := (List.mem_filter.1 hx2).1
  have hx4 := clmL_mem hx3
  have hg := zs_good hw hs hx4
  have h5 := hN _ (List.of_mem_zip hx4).1
  have h6 := hle.2 _ (List.of_mem_zip hx4).2
  refine ⟨hg.1, h5, hg.2.2.1, ?_⟩
  show x.2.2 ≤ D
  exact Int.le_trans h6 hD
/-- A week by numbers. -/
structure HvW (w : Wk) : Prop where
 ok : OkW w
 n5 : w.2.2.2.1.length ≤ 5
 pot : w.1 ≤ 100000
 cap : ∀ f ∈ w.2.2.2.1, f.2 ≤ 100000
 seven : w.2.2.2.2.length ≤ 7
 net : ∀ x ∈ w.2.2.2.2, x.2.1 - x.2.2.1 ≤ 255
 scale : w.2.1 ≤ 19
 lab : w.2.2.1 ≤ 29
theorem made_hv {h : Hv} (hh : WfH h) : HvW (madeL h) where
 ok := made_ok hh
 n5 := by show (farmH h.2.2.2.1).length ≤ 5; rw [farmH_len]; unfold nF; omega
 pot := by have := hh.pot; show h.1 ≤ _; omega
 cap f hf := by have := farmH_caps hh.cap f hf; omega
 seven := by
  show ((h.2.2.2.2.take 7).map (wagH (nF h.2.2.2.1))).length ≤ 7
  rw [List.length_map, List.length_take]; omega
 net x hx := by
  obtain ⟨y, hy, rfl⟩ := List.mem_map.1 hx
  have hb := hh.wagon y (List.mem_of_mem_take hy)
  show y.2.1 + y.2.2.1 - y.2.2.1 ≤ 255
  omega
 scale := by
  have := hh.scale
  show Int.tmod h.2.1 20 ≤ 19
  rw [Int.tmod_eq_emod_of_nonneg (by omega)]; omega
 lab := by
  have := hh.lab
  show Int.tmod h.2.2.1 30 ≤ 29
  rw [Int.tmod_eq_emod_of_nonneg (by omega)]; omega
theorem made_n4 (h : Hv) : (madeL h).2.2.2.1.length ≤ 4 := by
 show (farmH h.2.2.2.1).length ≤ 4; rw [farmH_len]; unfold nF; omega
theorem sum_rep (n : Nat) : (List.replicate n (0 : Int)).sum = 0 := by
 induction n with
 | zero => rfl
 | succ n ih => rw [List.replicate_succ, List.sum_cons, ih]; rfl
theorem HvW.sum {w : Wk} (h : HvW w) : 0 ≤ (sRead w).sum ∧ (sRead w).sum ≤ 2100000 := by
 refine ⟨(okS_read h.ok).le_sum.1, ?_⟩
 have := foldl_upd_sum (h := hRead) (K := 255000) w.2.2.2.2 (List.replicate w.2.2.2.1.length 0) (fun x hx => by have := h.ok.wagon x hx; rw [List.length_replicate]; omega) (fun x hx => by
  have h1 := h.ok.wagon x hx
  have h2 := h.net x hx
  have := mul_bd (a := x.2.1 - x.2.2.1) (A := 255) (b := x.2.2.2) (B := 1000) (by omega) (by omega) (by omega) (by omega)
  show 0 ≤ (x.2.1 - x.2.2.1) * x.2.2.2 ∧ (x.2.1 - x.2.2.1) * x.2.2.2 ≤ 255000
  omega)
 rw [sum_rep] at this
 have h7 := h.seven
 show (w.2.2.2.2.foldl (upd hRead) (List.replicate w.2.2.2.1.length 0)).sum ≤ 2100000
 omega
theorem HvW.level {w : Wk} (h : HvW w) {s : List Int} (hs : OkS w s) (hD : s.sum ≤ 2100000) : (levelW w s).1 ≤ 100000 ∧ (levelW w s).2 ≤ 2100000 :=
 levelW_bd h.ok hs h.cap h.pot hD (by omega)
theorem HvW.cap_at {w : Wk} (h : HvW w) {i : Nat} (hi : i < w.2.2.2.1.length) : 0 ≤ capAt w i ∧ capAt w i ≤ 100000 := by
 have hm : w.2.2.2.1.getD i (bs [], 0) ∈ w.2.2.2.1 := by
  rw [List.getD_eq_getElem?_getD, List.getElem?_eq_getElem hi]; exact List.getElem_mem _
 exact ⟨(h.ok.cap _ hm).1, h.cap _ hm⟩
theorem OkS.at {w : Wk} {s : List Int} (hs : OkS w s) {i : Nat} (hi : i < w.2.2.2.1.length) : 0 ≤ s.getD i 0 ∧ s.getD i 0 ≤ s.sum := by
 have hm : s.getD i 0 ∈ s := by
  rw [List.getD_eq_getElem?_getD, List.getElem?_eq_getElem (by rw [hs.len]; exact hi)]; exact List.getElem_mem _
 exact ⟨hs.nn _ hm, hs.le_sum.2 _ hm⟩
/-- Dues by numbers. -/
theorem HvW.due {w : Wk} (h : HvW w) {s : List Int} (hs : OkS w s) (hD : s.sum ≤ 2100000) (hn4 : w.2.2.2.1.length ≤ 4) : ∃ (due : List Int) (den : Int), run0 (F36 w s) = some (due, den, paidOf w s, ()) ∧ 0 < den ∧ den ≤ 2100000 ∧ due.length = w.2.2.2.1.length ∧
  ∀ i, i < w.2.2.2.1.length → due.getD i 0 * (levelW w s).2 = D1 (levelW w s).1 (levelW w s).2 (capAt w i, s.getD i 0) * den ∧ 0 ≤ due.getD i 0 ∧ due.getD i 0 ≤ capAt w i * den ∧ due.getD i 0 ≤ 210000000000 := by
 obtain ⟨due, den, h1, h2, h3, h4, h5⟩ := k36 h.ok hs hn4 (levelW_lv h.ok hs)
 refine ⟨due, den, h1, h2, by omega, h4, fun i hi => ?_⟩
 have h6 := h5 i hi
 rw [prs_at h.ok hs hi] at h6
 have hl := levelW_lv h.ok hs
 have hc := h.cap_at hi
 have hsi := hs.at hi
 have hD0 : 0 ≤ D1 (levelW w s).1 (levelW w s).2 (capAt w i, s.getD i 0) ∧ D1 (levelW w s).1 (levelW w s).2 (capAt w i, s.getD i 0) ≤ capAt w i * (levelW w s).2 := by
  unfold D1
  have := Int.mul_nonneg hl.nneg hsi.1
  have := Int.mul_nonneg hc.1 (Int.le_of_lt hl.dpos)
  simp only
  omega
 have hd := hl.dpos
 generalize D1 (levelW w s).1 (levelW w s).2 (capAt w i, s.getD i 0) = D at *
 generalize (levelW w s).2 = d at *
 generalize due.getD i 0 = u at *
 have g1 : 0 ≤ u := by
  have := Int.mul_nonneg hD0.1 (Int.le_of_lt h2)
  rw [← h6] at this
  exact Int.le_of_mul_le_mul_right (a := d) (by omega) hd
 have g2 : u ≤ capAt w i * den := by
  apply Int.le_of_mul_le_mul_right (a := d) _ hd
  have := Int.mul_le_mul_of_nonneg_right hD0.2 (Int.le_of_lt h2)
  rw [h6, Int.mul_right_comm]; exact this
 have g3 := mul_bd hc.1 hc.2 (Int.le_of_lt h2) (show den ≤ 2100000 by omega)
 exact ⟨h6, g1, g2, by omega⟩
end Go.Proofs.Try
end
section
namespace Go.Proofs.Try
open Go.AM Go.Pay
set_option maxRecDepth 100000
section
variable {w : Wk} (hv : HvW w) {s : List Int} (hs : OkS w s) (hD : s.sum ≤ 2100000)
include hv hs hD
omit hD in
omit hv hs hD in
omit hD in
end
end Go.Proofs.Try
end
section
namespace Go.Proofs.Try
open Go.AM Go.Pay
abbrev hvT : Ty := .prod (.int .u16) (.prod (.int .u8) (.prod (.int .u8) (.prod (.list (.int .u16)) (.list (.prod (.int .u8) (.prod (.int .u8) (.prod (.int .u8) (.int .u8))))))))
theorem u8_min : IntKind.u8.min = 0 := by decide
theorem u8_max : IntKind.u8.max = 255 := by decide
theorem u16_min : IntKind.u16.min = 0 := by decide
theorem u16_max : IntKind.u16.max = 65535 := by decide
theorem wfH_of {h : Hv} (hW : Wf hvT h) : WfH h := by
 obtain ⟨h1, h2, h3, h4, h5⟩ := hW
 simp only [Wf, u8_min, u8_max, u16_min, u16_max] at h1 h2 h3 h4 h5
 exact ⟨h1, h2, h3, h4.2, fun x hx => h5.2 x hx⟩
end Go.Proofs.Try
end
section
namespace Go.Pay
theorem capS_app (a b : List (Int × Int)) : capS (a ++ b) = capS a + capS b := by
 induction a with
 | nil => simp [capS]
 | cons x a ih => rw [List.cons_append, capS_cons, capS_cons, ih]; omega
/-- At a level that gives all the Caps, one gets the Cap. -/
theorem capped_all {cs : List (Int × Int)} {n d : Int} (hn : 0 ≤ n) (hd : 0 < d) (hcs : Nn cs) (h : DD n d cs = capS cs * d) : ∀ c ∈ cs, D1 n d c = (if 0 < c.2 then c.1 else 0) * d := by
 have h1 : ∀ c : Int × Int, 0 ≤ c.1 ∧ 0 ≤ c.2 → D1 n d c ≤ (if 0 < c.2 then c.1 else 0) * d := by
  intro c hc
  unfold D1
  split
  ·exact Int.min_le_right ..
  ·have : c.2 = 0 := by omega
   rw [this, Int.mul_zero, Int.zero_mul]; exact Int.min_le_left ..
 have h2 : ∀ cs : List (Int × Int), capS cs * d = (cs.map fun c => (if 0 < c.2 then c.1 else 0) * d).sum := by
  intro cs
  induction cs with
  | nil => simp [capS]
  | cons c cs ih => rw [capS_cons, Int.add_mul, List.map_cons, List.sum_cons, ih]
 exact sum_eq_of_le (f := fun c => D1 n d c) (fun c hc => h1 c (hcs c hc)) (by rw [← h2]; exact h)
theorem D1_top {n d : Int} (hn : 0 ≤ n) {c : Int × Int} (hc : 0 ≤ c.1 ∧ 0 ≤ c.2) : D1 n d c ≤ (if 0 < c.2 then c.1 else 0) * d := by
 unfold D1
 split
 ·exact Int.min_le_right ..
 ·have : c.2 = 0 := by omega
  rw [this, Int.mul_zero, Int.zero_mul]; exact Int.min_le_left ..
theorem DD_le_of {n d n' d' : Int} {k k' : Int} {l : List (Int × Int)} (h : ∀ c ∈ l, D1 n d c * k ≤ D1 n' d' c * k') : DD n d l * k ≤ DD n' d' l * k' := by
 induction l with
 | nil => simp [DD]
 | cons c l ih =>
  have h1 := h c (List.mem_cons_self ..)
  have h2 := ih fun x hx => h x (List.mem_cons_of_mem _ hx)
  rw [DD_cons, DD_cons, Int.add_mul, Int.add_mul]; omega
theorem more_sugar {A B : List (Int × Int)} {c c' : Int × Int} {pot all all' n d n' d' : Int} (hcs : Nn (A ++ c :: B)) (hcs' : Nn (A ++ c' :: B)) (h : Lv (A ++ c :: B) all n d) (h' : Lv (A ++ c' :: B) all' n' d')
  (ha : all = min (capS (A ++ c :: B)) pot) (ha' : all' = min (capS (A ++ c' :: B)) pot) (h1 : c'.1 = c.1) (h2 : c.2 ≤ c'.2) : (∀ e ∈ A ++ B, D1 n' d' e * d ≤ D1 n d e * d') ∧ D1 n d c * d' ≤ D1 n' d' c' * d := by
 have hd := h.dpos
 have hd' := h'.dpos
 have hc := hcs c (by simp)
 have hcap : capS (A ++ c :: B) ≤ capS (A ++ c' :: B) := by
  rw [capS_app, capS_app, capS_cons, capS_cons, h1]
  split
  ·rw [if_pos (by omega)]; omega
  ·split <;> omega
 have hle : all ≤ all' := by omega
 have hs := h.sum
 have hs' := h'.sum
 rw [DD_append, DD_cons] at hs hs'
 have sub : ∀ e ∈ A ++ B, e ∈ A ++ c :: B := fun e he => by rcases List.mem_append.1 he with h | h <;> simp [h]
 have hAB : ∀ n d : Int, DD n d (A ++ B) = DD n d A + DD n d B := fun _ _ => DD_append
 -- as much in all, by both denominators
 have tot : (D1 n d c + DD n d (A ++ B)) * d' = all * d * d' := by rw [hAB, ← hs]; congr 1; omega
 have tot' : (D1 n' d' c' + DD n' d' (A ++ B)) * d = all' * d * d' := by
  rw [hAB, Int.mul_right_comm, ← hs']; congr 1; omega
 have hall : all * d * d' ≤ all' * d * d' := Int.mul_le_mul_of_nonneg_right (Int.mul_le_mul_of_nonneg_right hle (Int.le_of_lt hd)) (Int.le_of_lt hd')
 rw [Int.add_mul] at tot tot'
 rcases Int.le_total (n' * d) (n * d') with hlv | hlv
 ·have hoth : ∀ e ∈ A ++ B, D1 n' d' e * d ≤ D1 n d e * d' := fun e he => D1_mono hd' hd hlv (hcs e (sub e he)).2
  refine ⟨hoth, ?_⟩
  have := DD_le_of hoth
  omega
 ·have own : D1 n d c * d' ≤ D1 n' d' c' * d := by
   have q1 := D1_mono hd hd' hlv hc.2
   have q2 : D1 n' d' c ≤ D1 n' d' c' := by
    unfold D1
    rw [h1]
    have := Int.mul_le_mul_of_nonneg_left h2 h'.nneg
    omega
   exact Int.le_trans q1 (Int.mul_le_mul_of_nonneg_right q2 (Int.le_of_lt hd))
  refine ⟨?_, own⟩
  by_cases hp : all = capS (A ++ c :: B)
  ·intro e he
   have hsum := h.sum
   rw [hp] at hsum
   have h3 := capped_all h.nneg hd hcs hsum e (sub e he)
   have h4 := D1_top (d := d') h'.nneg (hcs e (sub e he))
   rw [h3]
   have := Int.mul_le_mul_of_nonneg_right h4 (Int.le_of_lt hd)
   rw [Int.mul_right_comm] at this; exact this
  ·have heq : all' = all := by omega
   rw [heq] at tot'
   have hge : ∀ e ∈ A ++ B, D1 n d e * d' ≤ D1 n' d' e * d := fun e he => D1_mono hd hd' hlv (hcs e (sub e he)).2
   have h5 := DD_le_of hge
   have h6 : DD n d (A ++ B) * d' = DD n' d' (A ++ B) * d := by omega
   have h7 := sum_eq_of_le (f := fun c => D1 n d c * d') (g := fun c => D1 n' d' c * d) hge (by rw [DD_mul, DD_mul]; exact h6)
   exact fun e he => Int.le_of_eq (h7 e he).symm
theorem set_split {α : Type} {l : List α} {f : Nat} (hf : f < l.length) (c' : α) : l = l.take f ++ l[f] :: l.drop (f + 1) ∧ l.set f c' = l.take f ++ c' :: l.drop (f + 1) := by
 constructor
 ·rw [List.getElem_cons_drop, List.take_append_drop]
 ·rw [List.set_eq_take_append_cons_drop, if_pos hf]
theorem mem_others {α : Type} {l : List α} {f i : Nat} (hi : i < l.length) (hne : i ≠ f) : l[i] ∈ l.take f ++ l.drop (f + 1) := by
 rw [List.mem_append]
 rcases Nat.lt_or_ge i f with h | h
 ·left
  rw [List.mem_take_iff_getElem]
  exact ⟨i, by omega, rfl⟩
 ·right
  rw [List.mem_drop_iff_getElem]
  exact ⟨i - (f + 1), by omega, by congr 1; omega⟩
end Go.Pay
end
section
namespace Go.Proofs.Try
open Go.AM Go.Pay
set_option maxRecDepth 100000
/-- One's due is no more by s than by t. -/
def Dle (w : Wk) (s t : List Int) (i : Nat) : Prop := D1 (levelW w s).1 (levelW w s).2 (capAt w i, s.getD i 0) * (levelW w t).2 ≤ D1 (levelW w t).1 (levelW w t).2 (capAt w i, t.getD i 0) * (levelW w s).2
theorem frac_trans {a b c d e f : Int} (hb : 0 < b) (hd : 0 < d) (hf : 0 < f) (h1 : a * d ≤ c * b) (h2 : c * f ≤ e * d) : a * f ≤ e * b := by
 apply Int.le_of_mul_le_mul_right (a := d) _ hd
 have q1 := Int.mul_le_mul_of_nonneg_right h1 (Int.le_of_lt hf)
 have q2 := Int.mul_le_mul_of_nonneg_right h2 (Int.le_of_lt hb)
 have e1 : a * f * d = a * d * f := Int.mul_right_comm ..
 have e2 : c * b * f = c * f * b := Int.mul_right_comm ..
 have e3 : e * b * d = e * d * b := Int.mul_right_comm ..
 omega
section
variable {w : Wk} {s t u : List Int} {i k : Nat}
theorem Dle.refl : Dle w s s i := Int.le_refl _
theorem Dle.trans (hw : OkW w) (hs : OkS w s) (ht : OkS w t) (hu : OkS w u) (h1 : Dle w s t i) (h2 : Dle w t u i) : Dle w s u i :=
 frac_trans (levelW_lv hw hs).dpos (levelW_lv hw ht).dpos (levelW_lv hw hu).dpos h1 h2
theorem prsL_len (hw : OkW w) (hs : OkS w s) : (prs w s).length = w.2.2.2.1.length := by
 have := hs.len
 simp [prs, List.length_zip, this]
theorem prs_set (hw : OkW w) (hs : OkS w s) {z : Int} (hz : OkS w (s.set k z)) (hk : k < w.2.2.2.1.length) : prs w (s.set k z) = (prs w s).set k (capAt w k, z) := by
 have l1 := prsL_len hw hs
 have l2 := prsL_len hw hz
 apply List.ext_getElem
 ·simp [l1, l2]
 ·intro j h1 h2
  have hj : j < w.2.2.2.1.length := by omega
  have e1 := prs_at hw hz hj
  have e2 := prs_at hw hs hj
  have g1 : (prs w (s.set k z)).getD j (0, 0) = (prs w (s.set k z))[j] := by simp [List.getD, h1]
  have h3 : j < (prs w s).length := by omega
  have g2 : (prs w s).getD j (0, 0) = (prs w s)[j] := by simp [List.getD, h3]
  rw [← g1, e1, List.getElem_set]
  by_cases e : k = j
  ·subst e
   have := hs.len
   rw [if_pos rfl]; simp [List.getD, this, hk]
  ·rw [if_neg e, ← g2, e2]
   simp [List.getD, List.getElem?_set_ne e]
theorem prsL_nn (hw : OkW w) (hs : OkS w s) : Nn (prs w s) := by
 intro c hc
 obtain ⟨x, hx, rfl⟩ := List.mem_map.1 hc
 have := List.of_mem_zip hx
 exact ⟨(hw.cap _ this.1).1, hs.nn _ this.2⟩
/-- One farmer's sugar is another. -/
theorem due_step (hw : OkW w) (hs : OkS w s) {z : Int} (hz : OkS w (s.set k z)) (hk : k < w.2.2.2.1.length) (hi : i < w.2.2.2.1.length) (h1 : k = i → s.getD k 0 ≤ z) (h2 : k ≠ i → z ≤ s.getD k 0) : Dle w s (s.set k z) i := by
 have l1 := prsL_len hw hs
 have hk' : k < (prs w s).length := by omega
 have hsp := set_split hk' (capAt w k, z)
 have ek := prs_at hw hs hk
 have gk : (prs w s)[k] = (capAt w k, s.getD k 0) := by rw [← ek]; simp [List.getD, hk']
 rw [← prs_set hw hs hz hk, gk] at hsp
 have ei := prs_at hw hs hi
 have hi' : i < (prs w s).length := by omega
 have gi : (prs w s)[i] = (capAt w i, s.getD i 0) := by rw [← ei]; simp [List.getD, hi']
 obtain ⟨A, B, hl1, hl2, hmem⟩ : ∃ A B, prs w s = A ++ (capAt w k, s.getD k 0) :: B ∧ prs w (s.set k z) = A ++ (capAt w k, z) :: B ∧ (k ≠ i → (capAt w i, s.getD i 0) ∈ A ++ B) :=
  ⟨_, _, hsp.1, hsp.2, fun e => by have := mem_others (f := k) hi' (fun h => e h.symm); rw [gi] at this; exact this⟩
 have lv1 := levelW_lv hw hs
 have lv2 := levelW_lv hw hz
 have n1 := prsL_nn hw hs
 have n2 := prsL_nn hw hz
 have p1 : paidOf w s = min (capS (prs w s)) w.1 := rfl
 have p2 : paidOf w (s.set k z) = min (capS (prs w (s.set k z))) w.1 := rfl
 have hsl := hs.len
 have gz : (s.set k z).getD k 0 = z := by simp [List.getD, hsl, hk]
 rw [hl1] at lv1 n1 p1
 rw [hl2] at lv2 n2 p2
 by_cases e : k = i
 ·subst e
  have := (more_sugar n1 n2 lv1 lv2 p1 p2 rfl (h1 rfl)).2
  unfold Dle
  rw [gz]; exact this
 ·have h3 := (more_sugar n2 n1 lv2 lv1 p2 p1 rfl (h2 e)).1 _ (hmem e)
  have gz2 : (s.set k z).getD i 0 = s.getD i 0 := by simp [List.getD, List.getElem?_set_ne e]
  unfold Dle
  rw [gz2]; exact h3
theorem leL_of : ∀ {l m : List Int}, l.length = m.length → (∀ j, j < l.length → l.getD j 0 ≤ m.getD j 0) → LeL l m
 | [], [], _, _ => .nil
 | a :: l, b :: m, h, hh => by
  refine .cons (by simpa using hh 0 (by simp)) (leL_of (by simpa using h) fun j hj => ?_)
  simpa using hh (j + 1) (by simpa using hj)
/-- Sugar is at most as much as what can be reckoned with. -/
theorem OkS.below (ht : OkS w t) (hl : s.length = w.2.2.2.1.length) (h : ∀ j, j < w.2.2.2.1.length → 0 ≤ s.getD j 0 ∧ s.getD j 0 ≤ t.getD j 0) : OkS w s := by
 refine ⟨hl, fun x hx => ?_, ?_⟩
 ·obtain ⟨j, hj, rfl⟩ := List.getElem_of_mem hx
  have := (h j (by omega)).1
  simpa [List.getD, hj] using this
 ·have := (leL_of (l := s) (m := t) (by rw [hl, ht.len]) fun j hj => (h j (by omega)).2).sum
  have := ht.all
  omega
/-- The first k by t, the others by s. -/
def mixK (s t : List Int) (k : Nat) : List Int := (List.range s.length).map fun j => if j < k then t.getD j 0 else s.getD j 0
theorem mixK_len : (mixK s t k).length = s.length := by simp [mixK]
theorem mixK_get {j : Nat} (hj : j < s.length) : (mixK s t k).getD j 0 = if j < k then t.getD j 0 else s.getD j 0 := by simp [mixK, List.getD, hj]
theorem mixK_zero : mixK s t 0 = s := by
 apply List.ext_getElem
 ·simp [mixK]
 ·intro j h1 h2
  simp [mixK, List.getD, h2]
theorem mixK_end (h : s.length = t.length) : mixK s t s.length = t := by
 apply List.ext_getElem
 ·simp [mixK, h]
 ·intro j h1 h2
  have : j < s.length := by omega
  simp [mixK, List.getD, h2, this]
theorem mixK_step (hk : k < s.length) : mixK s t (k + 1) = (mixK s t k).set k (t.getD k 0) := by
 apply List.ext_getElem
 ·simp [mixK]
 ·intro j h1 h2
  rw [List.getElem_set]
  by_cases e : k = j
  ·subst e; simp [mixK]
  ·simp only [e, if_false]
   simp only [mixK, List.getElem_map, List.getElem_range]
   by_cases h : j < k
   ·rw [if_pos (by omega), if_pos h]
   ·rw [if_neg (by omega), if_neg h]
theorem due_mono {m : List Int} (hw : OkW w) (hm : OkS w m) (hsl : s.length = w.2.2.2.1.length) (htl : t.length = w.2.2.2.1.length) (hs : ∀ j, j < w.2.2.2.1.length → 0 ≤ s.getD j 0 ∧ s.getD j 0 ≤ m.getD j 0) (ht : ∀ j, j < w.2.2.2.1.length → 0 ≤ t.getD j 0 ∧ t.getD j 0 ≤ m.getD j 0)
  (hi : i < w.2.2.2.1.length) (h1 : s.getD i 0 ≤ t.getD i 0) (h2 : ∀ j, j < w.2.2.2.1.length → j ≠ i → t.getD j 0 ≤ s.getD j 0) : Dle w s t i := by
 have ok : ∀ k, OkS w (mixK s t k) := fun k => hm.below (by rw [mixK_len, hsl]) fun j hj => by
  rw [mixK_get (by omega)]
  split
  ·exact ht j hj
  ·exact hs j hj
 have key : ∀ k, k ≤ w.2.2.2.1.length → Dle w s (mixK s t k) i := by
  intro k
  induction k with
  | zero => intro _; rw [mixK_zero]; exact Dle.refl
  | succ k ih =>
   intro hk
   have g : (mixK s t k).getD k 0 = s.getD k 0 := by rw [mixK_get (by omega), if_neg (by omega)]
   have hst := mixK_step (s := s) (t := t) (k := k) (by omega)
   have ok1 := ok (k + 1)
   refine Dle.trans hw (hm.below hsl hs) (ok k) ok1 (ih (by omega)) ?_
   rw [hst] at ok1 ⊢
   refine due_step hw (ok k) ok1 (by omega) hi (fun e => ?_) (fun e => ?_)
   ·rw [g]; subst e; exact h1
   ·rw [g]; exact h2 k (by omega) e
 have := key s.length (by omega)
 rw [mixK_end (by omega)] at this
 exact this
end
end Go.Proofs.Try
end
section
namespace Go.Proofs.Try
open Go.AM Go.Pay
set_option maxRecDepth 100000
/-! Whole cents. -/
theorem fl_le {a b o c o' c' d d' : Int} (hd : 0 < d) (hd' : 0 < d') (h : a * d' ≤ b * d) (e : o * d + c = a) (h0 : 0 ≤ c) (e' : o' * d' + c' = b) (h1 : c' < d') : o ≤ o' := by
 have q1 : o * d ≤ a := by omega
 have q2 : b < (o' + 1) * d' := by rw [Int.add_mul]; omega
 have q3 : o * d * d' ≤ a * d' := Int.mul_le_mul_of_nonneg_right q1 (Int.le_of_lt hd')
 have q4 : b * d < (o' + 1) * d' * d := Int.mul_lt_mul_of_pos_right q2 hd
 have e3 : o * d * d' = o * (d * d') := Int.mul_assoc ..
 have e4 : (o' + 1) * d' * d = (o' + 1) * (d * d') := by rw [Int.mul_assoc, Int.mul_comm d' d]
 have hp : 0 < d * d' := Int.mul_pos hd hd'
 have : o * (d * d') < (o' + 1) * (d * d') := by omega
 have := Int.lt_of_mul_lt_mul_right this (Int.le_of_lt hp)
 omega
theorem up_le {a b o c o' c' d d' : Int} (hd : 0 < d) (hd' : 0 < d') (h : a * d' ≤ b * d) (e : o * d + c = a) (h0 : 0 ≤ c) (e' : o' * d' + c' = b) (h0' : 0 ≤ c') (h1' : c' < d') : o + min c 1 ≤ o' + min c' 1 := by
 have hH : b ≤ (o' + min c' 1) * d' := by
  rw [Int.add_mul]
  rcases Int.lt_or_le 0 c' with hc | hc
  ·rw [Int.min_eq_right (by omega)]; omega
  ·have : c' = 0 := by omega
   subst this
   rw [show min (0 : Int) 1 = 0 by decide]; omega
 generalize o' + min c' 1 = H at *
 have q1 : b * d ≤ H * d' * d := Int.mul_le_mul_of_nonneg_right hH (Int.le_of_lt hd)
 have e4 : H * d' * d = H * d * d' := Int.mul_right_comm ..
 have q2 : a ≤ H * d := Int.le_of_mul_le_mul_right (a := d') (by omega) hd'
 rcases Int.lt_or_le 0 c with hc | hc
 ·rw [Int.min_eq_right (by omega)]
  have : o * d < H * d := by omega
  have := Int.lt_of_mul_lt_mul_right this (Int.le_of_lt hd)
  omega
 ·have : c = 0 := by omega
  subst this
  have : o * d ≤ H * d := by omega
  have := Int.le_of_mul_le_mul_right this hd
  rw [show min (0 : Int) 1 = 0 by decide]; omega
/-- A due by another denominator. -/
theorem due_fl {u D o c d den : Int} (hd : 0 < d) (hden : 0 < den) (hu : u * d = D * den) (e : o * d + c = D) (h0 : 0 ≤ c) (h1 : c < d) : o * den ≤ u ∧ u < (o + 1) * den ∧ u ≤ (o + min c 1) * den ∧ (0 < c → o * den < u) := by
 have k1 : o * d * den + c * den = u * d := by rw [hu, ← e, Int.add_mul]
 have k2 : o * den * d = o * d * den := Int.mul_right_comm ..
 have k3 : 0 ≤ c * den := Int.mul_nonneg h0 (Int.le_of_lt hden)
 have k4 : c * den < d * den := Int.mul_lt_mul_of_pos_right h1 hden
 have k5 : den * d = d * den := Int.mul_comm ..
 have a1 : o * den ≤ u := Int.le_of_mul_le_mul_right (a := d) (by omega) hd
 have a2 : u < (o + 1) * den := by
  refine Int.lt_of_mul_lt_mul_right (a := d) ?_ (Int.le_of_lt hd)
  rw [Int.add_mul, Int.add_mul, Int.one_mul]; omega
 refine ⟨a1, a2, ?_, fun hc => ?_⟩
 ·rcases Int.lt_or_le 0 c with hc | hc
  ·rw [Int.min_eq_right (by omega)]; omega
  ·have : c = 0 := by omega
   subst this
   have : u * d = o * den * d := by omega
   have := Int.eq_of_mul_eq_mul_right (Int.ne_of_gt hd) this
   rw [show min (0 : Int) 1 = 0 by decide, Int.add_zero]; omega
 ·have : 0 < c * den := Int.mul_pos hc hden
  exact Int.lt_of_mul_lt_mul_right (a := d) (by omega) (Int.le_of_lt hd)
theorem fl_eq {u o den : Int} (hden : 0 < den) (h1 : o * den ≤ u) (h2 : u < (o + 1) * den) (h0 : 0 ≤ u) : Int.tdiv u den = o := by
 rw [Int.tdiv_eq_ediv_of_nonneg h0]
 have e : (o + 1) * den = o * den + den := by rw [Int.add_mul]; omega
 apply Int.le_antisymm
 ·have := (Int.ediv_lt_iff_lt_mul hden).2 h2; omega
 ·exact (Int.le_ediv_iff_mul_le hden).2 h1
/-! What wagons bring, for each farmer. -/
def sumAt (h : Int × Int × Int × Int → Int) (ws : List (Int × Int × Int × Int)) (j : Nat) : Int := ((ws.filter fun x => x.1.toNat == j).map h).sum
theorem foldl_at (h : Int × Int × Int × Int → Int) : ∀ (ws : List (Int × Int × Int × Int)) (l : List Int) (j : Nat), j < l.length → (ws.foldl (upd h) l).getD j 0 = l.getD j 0 + sumAt h ws j
 | [], l, j, _ => by simp [sumAt]
 | x :: ws, l, j, hj => by
  rw [List.foldl_cons, foldl_at h ws _ j (by rw [upd_len]; exact hj)]
  unfold sumAt upd
  by_cases e : x.1.toNat = j
  ·subst e
   simp [List.getD, hj]; omega
  ·have e' : (x.1.toNat == j) = false := by simpa using e
   rw [List.filter_cons, e']
   simp [List.getD, List.getElem?_set_ne e]
theorem sugarL_at {h : Int × Int × Int × Int → Int} {n : Nat} {ws : List (Int × Int × Int × Int)} {j : Nat} (hj : j < n) : (sugarL h n ws).getD j 0 = sumAt h ws j := by
 unfold sugarL
 rw [foldl_at h ws _ j (by simpa using hj)]
 simp [List.getD, hj]
theorem sumAt_congr {h h' : Int × Int × Int × Int → Int} {ws : List (Int × Int × Int × Int)} {j : Nat} (hh : ∀ x ∈ ws, x.1.toNat = j → h x = h' x) : sumAt h ws j = sumAt h' ws j := by
 unfold sumAt
 congr 1
 apply List.map_congr_left
 intro x hx
 obtain ⟨h1, h2⟩ := List.mem_filter.1 hx
 exact hh x h1 (by simpa using h2)
variable {w : Wk}
/-- The truth lies within the bounds of scales and lab. -/
def Within (w : Wk) (truth : List (Int × Int)) : Prop := ∀ t ∈ truth, (-(2 * w.2.1) ≤ t.1 ∧ t.1 ≤ 2 * w.2.1) ∧ (-w.2.2.1 ≤ t.2 ∧ t.2 ≤ w.2.2.1)
theorem hT_within (hw : OkW w) {truth : List (Int × Int)} (ht : Within w truth) {x : Int × Int × Int × Int} (hx : x ∈ w.2.2.2.2) (k : Nat) : hLeast w x ≤ hT truth k x ∧ hT truth k x ≤ hMost w x := by
 have h1 := hw.wagon x hx
 have h2 := hw.scale
 have h3 := hw.lab
 have g : ∀ {a b c d : Int}, 0 ≤ a → a ≤ c → 0 ≤ b → b ≤ d → a * b ≤ c * d := fun ha hac hb hbd => Int.le_trans (Int.mul_le_mul_of_nonneg_right hac hb) (Int.mul_le_mul_of_nonneg_left hbd (by omega))
 unfold hLeast hMost hT
 split
 ·rename_i hk
  have ht' := ht (truth.getD k (0, 0)) (by rw [List.getD_eq_getElem?_getD, List.getElem?_eq_getElem hk]; exact List.getElem_mem _)
  exact ⟨g (by omega) (by omega) (by omega) (by omega), g (by omega) (by omega) (by omega) (by omega)⟩
 ·exact ⟨g (by omega) (by omega) (by omega) (by omega), g (by omega) (by omega) (by omega) (by omega)⟩
theorem sugT_ge {truth : List (Int × Int)} {h : Int × Int × Int × Int → Int} : ∀ {ws : List (Int × Int × Int × Int)} {k : Nat} {l m : List Int}, (∀ x ∈ ws, ∀ k, h x ≤ hT truth k x) → LeL l m → LeL (ws.foldl (upd h) l) (sugT truth k ws m)
 | [], _, _, _, _, hl => hl
 | x :: ws, k, l, m, hh, hl => by
  refine sugT_ge (ws := ws) (fun y hy => hh y (List.mem_cons_of_mem _ hy)) ?_
  exact hl.set (by have := hl.getD x.1.toNat; have := hh x (List.mem_cons_self ..) k; omega) _
theorem sugT_le {truth : List (Int × Int)} {h : Int × Int × Int × Int → Int} : ∀ {ws : List (Int × Int × Int × Int)} {k : Nat} {l m : List Int}, (∀ x ∈ ws, ∀ k, hT truth k x ≤ h x) → LeL m l → LeL (sugT truth k ws m) (ws.foldl (upd h) l)
 | [], _, _, _, _, hl => hl
 | x :: ws, k, l, m, hh, hl => by
  refine sugT_le (ws := ws) (fun y hy => hh y (List.mem_cons_of_mem _ hy)) ?_
  exact hl.set (by have := hl.getD x.1.toNat; have := hh x (List.mem_cons_self ..) k; omega) _
/-- True sugar by the numbers of the truth. -/
noncomputable def sTrue (w : Wk) (truth : List (Int × Int)) : List Int := sugT truth 0 w.2.2.2.2 (List.replicate w.2.2.2.1.length 0)
theorem sTrue_len {truth : List (Int × Int)} : (sTrue w truth).length = w.2.2.2.1.length := by
 unfold sTrue; rw [sugT_len, List.length_replicate]
theorem sTrue_within (hw : OkW w) {truth : List (Int × Int)} (ht : Within w truth) (j : Nat) : (sLeast w).getD j 0 ≤ (sTrue w truth).getD j 0 ∧ (sTrue w truth).getD j 0 ≤ (sMost w).getD j 0 :=
 ⟨(sugT_ge (fun x hx k => (hT_within hw ht hx k).1) (LeL.refl _)).getD j, (sugT_le (fun x hx k => (hT_within hw ht hx k).2) (LeL.refl _)).getD j⟩
/-- The truths that are worst and best for one. -/
def lowT (w : Wk) : Int × Int := (-2 * w.2.1, -w.2.2.1)
def highT (w : Wk) : Int × Int := (2 * w.2.1, w.2.2.1)
def oneT (a b : Int × Int) (i : Nat) (ws : List (Int × Int × Int × Int)) : List (Int × Int) := ws.map fun x => if x.1 = (i : Int) then a else b
theorem sugT_map {g : Int × Int × Int × Int → Int × Int} {h : Int × Int × Int × Int → Int} : ∀ {ws pre : List (Int × Int × Int × Int)} {l : List Int},
  (∀ x ∈ ws, max 0 (x.2.1 - x.2.2.1 + (g x).1) * min 1000 (max 0 (x.2.2.2 + (g x).2)) = h x) → sugT ((pre ++ ws).map g) pre.length ws l = ws.foldl (upd h) l
 | [], _, _, _ => rfl
 | x :: ws, pre, l, hh => by
  have e : hT ((pre ++ x :: ws).map g) pre.length x = h x := by
   rw [← hh x (List.mem_cons_self ..)]
   unfold hT
   rw [if_pos (by simp)]
   simp [List.getD]
  have ih := sugT_map (g := g) (h := h) (ws := ws) (pre := pre ++ [x]) (l := upd (hT ((pre ++ x :: ws).map g) pre.length) l x) (fun y hy => hh y (List.mem_cons_of_mem _ hy))
  rw [List.append_assoc, List.singleton_append, List.length_append, List.length_cons, List.length_nil] at ih
  rw [sugT, ih, List.foldl_cons]
  congr 1
  unfold upd; rw [e]
theorem hT_low (hw : OkW w) {x : Int × Int × Int × Int} (hx : x ∈ w.2.2.2.2) : max 0 (x.2.1 - x.2.2.1 + (lowT w).1) * min 1000 (max 0 (x.2.2.2 + (lowT w).2)) = hLeast w x := by
 have h1 := hw.wagon x hx
 have h3 := hw.lab
 unfold lowT hLeast
 congr 1
 ·congr 1; simp only; omega
 ·simp only; omega
theorem hT_high (hw : OkW w) {x : Int × Int × Int × Int} (hx : x ∈ w.2.2.2.2) : max 0 (x.2.1 - x.2.2.1 + (highT w).1) * min 1000 (max 0 (x.2.2.2 + (highT w).2)) = hMost w x := by
 have h1 := hw.wagon x hx
 have h2 := hw.scale
 have h3 := hw.lab
 unfold highT hMost
 congr 1
 ·simp only; omega
 ·simp only; omega
theorem getD_mix {own others : List Int} {i j : Nat} (hi : i < others.length) : (mix own others i).getD j 0 = if j = i then own.getD i 0 else others.getD j 0 := by
 unfold mix
 by_cases e : j = i
 ·subst e; simp [List.getD, hi]
 ·rw [if_neg e]; simp [List.getD, List.getElem?_set_ne (fun h => e h.symm)]
theorem ext_at {l m : List Int} (h : l.length = m.length) (hh : ∀ j, j < l.length → l.getD j 0 = m.getD j 0) : l = m := by
 apply List.ext_getElem h
 intro j h1 h2
 have := hh j h1
 simpa [List.getD, h1, h2] using this
theorem sTrue_one (hw : OkW w) {i : Nat} (hi : i < w.2.2.2.1.length) :
  sTrue w (oneT (lowT w) (highT w) i w.2.2.2.2) = mix (sLeast w) (sMost w) i ∧ sTrue w (oneT (highT w) (lowT w) i w.2.2.2.2) = mix (sMost w) (sLeast w) i := by
 have l1 := sLeast_len w
 have l2 := sMost_len w
 have gen : ∀ {a b : Int × Int} {ha hb : Int × Int × Int × Int → Int}, (∀ x ∈ w.2.2.2.2, max 0 (x.2.1 - x.2.2.1 + a.1) * min 1000 (max 0 (x.2.2.2 + a.2)) = ha x) → (∀ x ∈ w.2.2.2.2, max 0 (x.2.1 - x.2.2.1 + b.1) * min 1000 (max 0 (x.2.2.2 + b.2)) = hb x) →
   sTrue w (oneT a b i w.2.2.2.2) = mix (sugarL ha w.2.2.2.1.length w.2.2.2.2) (sugarL hb w.2.2.2.1.length w.2.2.2.2) i := by
  intro a b ha hb h1 h2
  have := sugT_map (g := fun x => if x.1 = (i : Int) then a else b) (h := fun x => if x.1 = (i : Int) then ha x else hb x) (ws := w.2.2.2.2) (pre := []) (l := List.replicate w.2.2.2.1.length 0) (fun x hx => by
   try dsimp only
   split
   ·exact h1 x hx
   ·exact h2 x hx)
  refine Eq.trans (show _ = _ from this) ?_
  refine ext_at (by rw [foldl_upd_len]; simp [mix, sugarL_len]) fun j hj => ?_
  rw [foldl_upd_len, List.length_replicate] at hj
  rw [getD_mix (by rw [sugarL_len]; exact hi), foldl_at _ _ _ _ (by simpa using hj), sugarL_at hi, sugarL_at hj]
  have z : (List.replicate w.2.2.2.1.length (0 : Int)).getD j 0 = 0 := by simp [List.getD, hj]
  rw [z, Int.zero_add]
  by_cases e : j = i
  ·subst e
   rw [if_pos rfl]
   exact sumAt_congr fun x hx hxj => by
    have := hw.wagon x hx
    rw [if_pos (by omega)]
  ·rw [if_neg e]
   exact sumAt_congr fun x hx hxj => by
    have := hw.wagon x hx
    rw [if_neg (by omega)]
 exact ⟨gen (fun x hx => hT_low hw hx) (fun x hx => hT_high hw hx), gen (fun x hx => hT_high hw hx) (fun x hx => hT_low hw hx)⟩
end Go.Proofs.Try
end
section
namespace Go.Proofs.Try
open Go.AM Go.Pay
set_option maxRecDepth 100000
/-- Rounds that count up and keep something. -/
theorem iter_inv {A B S : Type} {f : A → Option (A ⊕ B)} (N : Nat) (mk : Nat → S → A) (fin : S → B) (Inv : Nat → S → Prop)
    (hs : ∀ k st, k < N → Inv k st → ∃ st', f (mk k st) = some (.inl (mk (k + 1) st')) ∧ Inv (k + 1) st') (he : ∀ st, Inv N st → f (mk N st) = some (.inr (fin st))) {s : S} (h0 : Inv 0 s) :
    ∃ st, iter f (mk 0 s) = some (fin st) ∧ Inv N st := by
  have key : ∀ m k s, k + m = N → Inv k s → ∃ st, iter f (mk k s) = some (fin st) ∧ Inv N st := by
    intro m
    induction m with
    | zero => intro k s hk hi; have e : k = N := by omega
              subst e; exact ⟨s, iter_inr (he s hi), hi⟩
    | succ m ih =>
      intro k s hk hi
      obtain ⟨s', h1, h2⟩ := hs k s (by omega) hi
      obtain ⟨st, h3, h4⟩ := ih (k + 1) s' (by omega) h2
      exact ⟨st, iter_inl h1 h3, h4⟩
  exact key N 0 s (by omega) h0
theorem tmod_bd {a b : Int} (ha : 0 ≤ a) (hb : 0 < b) : 0 ≤ Int.tmod a b ∧ Int.tmod a b < b := ⟨Int.tmod_nonneg b ha, Int.tmod_lt_of_pos a hb⟩
theorem k37 {w : Wk} (hv : HvW w) {by' : List Int} (hb : ∀ z ∈ by', 0 ≤ z ∧ z ≤ 255) : ∃ truth : List (Int × Int), run0 (F37 w by') = some (truth, ()) ∧ Within w truth := by
  have h7 := hv.seven
  have hsc := hv.ok.scale
  have hlb := hv.ok.lab
  have hsc2 := hv.scale
  have hlb2 := hv.lab
  have hz : ∀ i : Nat, 0 ≤ by'.getD i 0 ∧ by'.getD i 0 ≤ 255 := fun i => by
    by_cases hi : i < by'.length
    · rw [show by'.getD i 0 = by'[i] by simp [List.getD, hi]]; exact hb _ (List.getElem_mem hi)
    · rw [show by'.getD i 0 = 0 by simp [List.getD, hi]]; omega
  have key := iter_inv (f := fun a => run (fun _ => none) (g37_0 a)) w.2.2.2.2.length (fun i (st : List (Int × Int)) => (by', st.length, ((w.2.2.2.2.length : Nat) : Int), (i : Int), w.1, w.2.1, w.2.2.1, w.2.2.2.1, w.2.2.2.2, st, ()))
    (fun st => (st.length, st, ())) (fun k st => st.length = k ∧ Within w st) ?_ ?_ (s := []) ⟨rfl, fun t ht => by simp at ht⟩
  · obtain ⟨st, h1, h2, h3⟩ := key
    refine ⟨st, ?_, h3⟩
    simp only [F37, run_bd, run_it, run_ret]
    refine bind_eq h1 ?_
    simp
  · rintro i st hi ⟨h1, h2⟩
    have hni : rng .i64 ((i : Int) + 1) = true := rng_i64 (by omega) (by omega)
    have main : ∀ t : Int × Int, ((-(2 * w.2.1) ≤ t.1 ∧ t.1 ≤ 2 * w.2.1) ∧ (-w.2.2.1 ≤ t.2 ∧ t.2 ≤ w.2.2.1)) → (st ++ [t]).length = i + 1 ∧ Within w (st ++ [t]) := fun t ht => by
      refine ⟨by simp [h1], fun u hu => ?_⟩
      rcases List.mem_append.1 hu with hu | hu
      · exact h2 u hu
      · rcases List.mem_singleton.1 hu with rfl; exact ht
    simp only [g37_0, run_br, run_jx, run_nd, run_ni, run_nb, run_ret, br_d]
    rw [if_pos (by omega)]
    by_cases h0 : (0 : Int) < ((by'.length : Nat) : Int)
    · have n0 : (!(((by'.length : Nat) : Int) == 0)) = true := by rw [beq_eq_false_iff_ne.2 (show ((by'.length : Nat) : Int) ≠ 0 by omega)]; rfl
      have m1 := tmod_bd (a := 2 * (i : Int)) (by omega) h0
      have m2 := tmod_bd (a := 2 * (i : Int) + 1) (by omega) h0
      have a1 := hz (Int.toNat (Int.tmod (2 * (i : Int)) ((by'.length : Nat) : Int)))
      have a2 := hz (Int.toNat (Int.tmod (2 * (i : Int) + 1) ((by'.length : Nat) : Int)))
      generalize by'.getD (Int.toNat (Int.tmod (2 * (i : Int)) ((by'.length : Nat) : Int))) 0 = A at *
      generalize by'.getD (Int.toNat (Int.tmod (2 * (i : Int) + 1) ((by'.length : Nat) : Int))) 0 = B at *
      have t1 := tmod_bd (a := A) (b := 4 * w.2.1 + 1) a1.1 (by omega)
      have t2 := tmod_bd (a := B) (b := 2 * w.2.2.1 + 1) a2.1 (by omega)
      have z1 : (!((4 * w.2.1 + 1) == (0 : Int))) = true := by rw [beq_eq_false_iff_ne.2 (by omega)]; rfl
      have z2 : (!((2 * w.2.2.1 + 1) == (0 : Int))) = true := by rw [beq_eq_false_iff_ne.2 (by omega)]; rfl
      have hm := main (Int.tmod A (4 * w.2.1 + 1) - 2 * w.2.1, Int.tmod B (2 * w.2.2.1 + 1) - w.2.2.1) (by omega)
      refine ⟨st ++ [(Int.tmod A (4 * w.2.1 + 1) - 2 * w.2.1, Int.tmod B (2 * w.2.2.1 + 1) - w.2.2.1)], ?_, hm⟩
      rw [if_pos h0, need_t (rng_i64 (by omega) (by omega)), need_t n0, need_inb m1.1 m1.2, need_t (rng_i64 (by omega) (by omega)), need_t (rng_i64 (by omega) (by omega)), need_t (rng_i64 (by omega) (by omega)), need_t n0, need_inb m2.1 m2.2, need_t (rng_i64 (by omega) (by omega)), need_t (rng_i64 (by omega) (by omega)), need_t (rng_i64 (by omega) (by omega)), need_t z1, need_t (rng_i64 (by omega) (by omega)), need_t (rng_i64 (by omega) (by omega)), need_t (rng_i64 (by omega) (by omega)), need_t (rng_i64 (by omega) (by omega)), need_t z2, need_t (rng_i64 (by omega) (by omega))]
      simp only [bindO_s, onS, List.drop_zero, List.take_length]
      rw [need_lenbig (by simp; omega), need_t hni]
      simp
    · rw [if_neg h0]
      refine ⟨st ++ [(0, 0)], ?_, main (0, 0) (by simp; omega)⟩
      simp only [bindO_s, onS, List.drop_zero, List.take_length]
      rw [need_lenbig (by simp; omega), need_t hni]
      simp
  · rintro st ⟨h1, _⟩
    simp only [g37_0, run_br, run_ret, br_d]
    rw [if_neg (by omega)]
end Go.Proofs.Try
end
section
namespace Go.Proofs.Try
open Go.AM Go.Pay
set_option maxRecDepth 100000
theorem dt1' {α : Type} (x : α) : List.take 1 (List.drop 0 [x]) = [x] := rfl
theorem k9_1 {i : Nat} {S L : Int} {v9 v11 v118 v130 v144 v158 v170 : (List (Int × Int))} {v13 v15 v16 v114 v126 v140 v154 v166 b0 : List Int} {v17 v99 v100 v115 v117 v119 v122 v127 v129 v131 v134 v135 v136 v141 v143 v145 v148 v149 v150 v155 v157 v159 v162 v167 v169 v171 v174 c1_0 : Int} {v123 v137 v151 v163 v175 : Bool} {c1_3 : (List (ByteArray × Int))} {c1_4 ws : (List (Int × Int × Int × Int))} {lo hi : Int × Int} (hlo : lo = (-2 * S, 0 - L)) (hhi : hi = (2 * S, L)) (hS : 0 ≤ S ∧ S ≤ 1000) (hL : 0 ≤ L ∧ L ≤ 1000) (hws : ws.length ≤ 1000) :
  iter (fun a => run (fun _ => none) (g9_1 a)) (v9, v11, v13, v15, v16, v17, (i : Int), 0, 0, v99, v100, v114, v115, v117, v118, v119, v122, v123, v126, v127, v129, v130, v131, v134, v135, v136, v137, v140, v141, v143, v144, v145, v148, v149, v150, v151, v154, v155, v157, v158, v159, v162, v163, v166, v167, v169, v170, v171, v174, v175, ws, ((ws.length : Nat) : Int), (0 : Int), b0, c1_0, S, L, c1_3, c1_4, [], [], ()) =
   some (v9, v11, v13, v15, v16, v17, (i : Int), (oneT lo hi i ws).length, (oneT hi lo i ws).length, v99, v100, v114, v115, v117, v118, v119, v122, v123, v126, v127, v129, v130, v131, v134, v135, v136, v137, v140, v141, v143, v144, v145, v148, v149, v150, v151, v154, v155, v157, v158, v159, v162, v163, v166, v167, v169, v170, v171, v174, v175, b0, c1_0, S, L, c1_3, c1_4, (oneT lo hi i ws), (oneT hi lo i ws), ()) := by
 have key := iter_list ws (f := fun a => run (fun _ => none) (g9_1 a)) (fun k (st : List (Int × Int) × List (Int × Int)) => (v9, v11, v13, v15, v16, v17, (i : Int), st.1.length, st.2.length, v99, v100, v114, v115, v117, v118, v119, v122, v123, v126, v127, v129, v130, v131, v134, v135, v136, v137, v140, v141, v143, v144, v145, v148, v149, v150, v151, v154, v155, v157, v158, v159, v162, v163, v166, v167, v169, v170, v171, v174, v175, ws, ((ws.length : Nat) : Int), (k : Int), b0, c1_0, S, L, c1_3, c1_4, st.1, st.2, ()))
  (fun st r => (v9, v11, v13, v15, v16, v17, (i : Int), (st.1 ++ oneT lo hi i r).length, (st.2 ++ oneT hi lo i r).length, v99, v100, v114, v115, v117, v118, v119, v122, v123, v126, v127, v129, v130, v131, v134, v135, v136, v137, v140, v141, v143, v144, v145, v148, v149, v150, v151, v154, v155, v157, v158, v159, v162, v163, v166, v167, v169, v170, v171, v174, v175, b0, c1_0, S, L, c1_3, c1_4, (st.1 ++ oneT lo hi i r), (st.2 ++ oneT hi lo i r), ())) (fun pre st => st.1.length = pre.length ∧ st.2.length = pre.length) ?_ ?_ (s := ([], [])) ⟨rfl, rfl⟩
 ·exact key
 ·rintro pre x post ⟨A, B⟩ hx ⟨h1, h2⟩
  simp only at h1 h2
  left
  have hlen : ws.length = pre.length + (post.length + 1) := by rw [hx]; simp
  have hd : ws.getD pre.length ((0 : Int), ((0 : Int), ((0 : Int), (0 : Int)))) = x := by rw [hx]; exact getD_mid rfl
  have hin : inb (pre.length : Int) ((ws.length : Nat) : Int) = true := inb_t (by omega) (by omega)
  have hni : rng .i64 ((pre.length : Int) + 1) = true := rng_i64 (by omega) (by omega)
  have r1 : rng .i64 (-2 * S) = true := rng_i64 (by omega) (by omega)
  have r2 : rng .i64 (0 - L) = true := rng_i64 (by omega) (by omega)
  have r3 : rng .i64 (2 * S) = true := rng_i64 (by omega) (by omega)
  refine ⟨(A ++ oneT lo hi i [x], B ++ oneT hi lo i [x]), ?_, ⟨by simp [oneT, h1], by simp [oneT, h2]⟩, by simp [oneT]⟩
  simp only [g9_1, run_br, run_nb, run_nd, run_ni, run_ret, Int.toNat_natCast, hd, br_d, br_eq, hin, hni, r1, r2, r3, need_true, dt1', List.drop_zero, List.take_length, List.length_cons, List.length_nil]
  rw [if_pos (by omega), need_lenbig (by simp; omega), need_lenbig (by simp; omega), need_lenbig (by simp; omega), need_lenbig (by simp; omega)]
  subst hlo hhi
  by_cases e : x.1 = (i : Int) <;> simp [oneT, e, List.getD]
 ·rintro ⟨A, B⟩ -
  simp only [g9_1, run_br, run_ret, br_d]
  rw [if_neg (by omega)]
  simp [oneT]
end Go.Proofs.Try
end
section
namespace Go.Proofs.Try
open Go.AM Go.Pay
set_option maxRecDepth 100000
theorem mul_le_mul' {a b c d : Int} (ha : 0 ≤ a) (hac : a ≤ c) (hb : 0 ≤ b) (hbd : b ≤ d) : a * b ≤ c * d := Int.le_trans (Int.mul_le_mul_of_nonneg_right hac hb) (Int.mul_le_mul_of_nonneg_left hbd (by omega))
section
variable {w : Wk} {i : Nat}
theorem least_le_most (hw : OkW w) (j : Nat) : (sLeast w).getD j 0 ≤ (sMost w).getD j 0 := (sLeast_le hw).getD j
theorem OkS.get0 {s : List Int} (hs : OkS w s) (j : Nat) : 0 ≤ s.getD j 0 := by
 by_cases hj : j < s.length
 ·rw [show s.getD j 0 = s[j] by simp [List.getD, hj]]; exact hs.nn _ (List.getElem_mem hj)
 ·rw [show s.getD j 0 = 0 by simp [List.getD, hj]]; omega
theorem read_within (hw : OkW w) (j : Nat) : (sLeast w).getD j 0 ≤ (sRead w).getD j 0 ∧ (sRead w).getD j 0 ≤ (sMost w).getD j 0 := by
 have h := sTrue_within hw (truth := []) (fun t ht => by simp at ht) j
 have e : sTrue w [] = sRead w := by unfold sTrue; rw [sugT_nil]; rfl
 rw [e] at h; exact h
/-- Of two weeks with as much in all the one with narrower sugar. -/
structure Bet (w : Wk) (s : List Int) : Prop where
 len : s.length = w.2.2.2.1.length
 lo : ∀ j, (sLeast w).getD j 0 ≤ s.getD j 0
 hi : ∀ j, s.getD j 0 ≤ (sMost w).getD j 0
theorem Bet.ok {s : List Int} (h : Bet w s) (hw : OkW w) : OkS w s :=
 (okS_most hw).below h.len fun j _ => ⟨Int.le_trans ((okS_least hw).get0 j) (h.lo j), h.hi j⟩
theorem bet_least (hw : OkW w) : Bet w (sLeast w) := ⟨sLeast_len w, fun _ => Int.le_refl _, least_le_most hw⟩
theorem bet_most (hw : OkW w) : Bet w (sMost w) := ⟨sMost_len w, least_le_most hw, fun _ => Int.le_refl _⟩
theorem bet_read (hw : OkW w) : Bet w (sRead w) := ⟨(okS_read hw).len, fun j => (read_within hw j).1, fun j => (read_within hw j).2⟩
theorem bet_true (hw : OkW w) {truth : List (Int × Int)} (ht : Within w truth) : Bet w (sTrue w truth) := ⟨sTrue_len, fun j => (sTrue_within hw ht j).1, fun j => (sTrue_within hw ht j).2⟩
theorem Bet.mix {s t : List Int} (hs : Bet w s) (ht : Bet w t) (hi : i < w.2.2.2.1.length) : Bet w (mix s t i) := by
 have g : ∀ j, (Try.mix s t i).getD j 0 = if j = i then s.getD i 0 else t.getD j 0 := fun j => getD_mix (by rw [ht.len]; exact hi)
 refine ⟨by simp [Try.mix, ht.len], fun j => ?_, fun j => ?_⟩
 ·rw [g]; split
  ·rename_i e; subst e; exact hs.lo j
  ·exact ht.lo j
 ·rw [g]; split
  ·rename_i e; subst e; exact hs.hi j
  ·exact ht.hi j
theorem bet_mono {s t : List Int} (hw : OkW w) (hs : Bet w s) (ht : Bet w t) (hi : i < w.2.2.2.1.length) (h1 : s.getD i 0 ≤ t.getD i 0) (h2 : ∀ j, j ≠ i → t.getD j 0 ≤ s.getD j 0) : Dle w s t i :=
 due_mono hw (okS_most hw) hs.len ht.len (fun j _ => ⟨(hs.ok hw).get0 j, hs.hi j⟩) (fun j _ => ⟨(ht.ok hw).get0 j, ht.hi j⟩) hi h1 fun j _ hj => h2 j hj
/-- What is due lies between what is due for the worst and the best. -/
theorem worst_best {s : List Int} (hw : OkW w) (hs : Bet w s) (hi : i < w.2.2.2.1.length) : Dle w (mix (sLeast w) (sMost w) i) s i ∧ Dle w s (mix (sMost w) (sLeast w) i) i := by
 have g1 : ∀ j, (mix (sLeast w) (sMost w) i).getD j 0 = if j = i then (sLeast w).getD i 0 else (sMost w).getD j 0 := fun j => getD_mix (by rw [sMost_len]; exact hi)
 have g2 : ∀ j, (mix (sMost w) (sLeast w) i).getD j 0 = if j = i then (sMost w).getD i 0 else (sLeast w).getD j 0 := fun j => getD_mix (by rw [sLeast_len]; exact hi)
 refine ⟨bet_mono hw ((bet_least hw).mix (bet_most hw) hi) hs hi (by rw [g1, if_pos rfl]; exact hs.lo i) (fun j hj => by rw [g1, if_neg hj]; exact hs.hi j),
  bet_mono hw hs ((bet_most hw).mix (bet_least hw) hi) hi (by rw [g2, if_pos rfl]; exact hs.hi i) (fun j hj => by rw [g2, if_neg hj]; exact hs.lo j)⟩
/-- What is due, in whole cents and the rest. -/
theorem due_parts (hw : OkW w) {s : List Int} (hs : OkS w s) (hi : i < w.2.2.2.1.length) : ∃ o c : Int, dueAt w s i = (o, c) ∧ o * (levelW w s).2 + c = D1 (levelW w s).1 (levelW w s).2 (capAt w i, s.getD i 0) ∧ 0 ≤ c ∧ c < (levelW w s).2 ∧ 0 ≤ o ∧ o ≤ capAt w i := by
 obtain ⟨o, c, h1, h2, h3, h4, h5, h6, _⟩ := payL_at hw hs hi
 exact ⟨o, c, h1, h2, h3, h4, h5, h6⟩
theorem bnd_within (hw : OkW w) {s : List Int} (hs : Bet w s) (hi : i < w.2.2.2.1.length) {o c : Int} (h : dueAt w s i = (o, c)) : (bnd w i).1 ≤ o ∧ o + min c 1 ≤ (bnd w i).2 := by
 have hlo := (bet_least hw).mix (bet_most hw) hi
 have hhi := (bet_most hw).mix (bet_least hw) hi
 obtain ⟨o1, c1, e1, p1, q1, r1, _, _⟩ := due_parts hw (hlo.ok hw) hi
 obtain ⟨o2, c2, e2, p2, q2, r2, _, _⟩ := due_parts hw (hhi.ok hw) hi
 obtain ⟨o', c', e3, p3, q3, r3, _, _⟩ := due_parts hw (hs.ok hw) hi
 rw [h] at e3
 obtain ⟨rfl, rfl⟩ := Prod.mk.inj e3
 have wb := worst_best hw hs hi
 have d1 := (levelW_lv hw (hlo.ok hw)).dpos
 have d2 := (levelW_lv hw (hhi.ok hw)).dpos
 have d3 := (levelW_lv hw (hs.ok hw)).dpos
 unfold bnd
 rw [e1, e2]
 exact ⟨fl_le d1 d3 wb.1 p1 q1 p3 r3, up_le d3 d2 wb.2 p3 q3 p2 q2 r2⟩
theorem bnd_bd (hw : OkW w) (hv : HvW w) (hi : i < w.2.2.2.1.length) : 0 ≤ (bnd w i).1 ∧ (bnd w i).1 ≤ 100000 ∧ 0 ≤ (bnd w i).2 ∧ (bnd w i).2 ≤ 100001 := by
 have hlo := (bet_least hw).mix (bet_most hw) hi
 have hhi := (bet_most hw).mix (bet_least hw) hi
 obtain ⟨o1, c1, e1, p1, q1, r1, s1, t1⟩ := due_parts hw (hlo.ok hw) hi
 obtain ⟨o2, c2, e2, p2, q2, r2, s2, t2⟩ := due_parts hw (hhi.ok hw) hi
 have hc := hv.cap_at hi
 unfold bnd
 rw [e1, e2]
 simp only
 omega
/-- The most that can be in truth. -/
theorem sum_foldl {h : Int × Int × Int × Int → Int} {K : Int} (hv : HvW w) (hK : 0 ≤ K ∧ K ≤ 293000) (hh : ∀ x ∈ w.2.2.2.2, 0 ≤ h x ∧ h x ≤ K) : (sugarL h w.2.2.2.1.length w.2.2.2.2).sum ≤ 2100000 := by
 have := foldl_upd_sum (h := h) (K := K) w.2.2.2.2 (List.replicate w.2.2.2.1.length 0) (fun x hx => by have := hv.ok.wagon x hx; rw [List.length_replicate]; omega) hh
 rw [sum_rep] at this
 have h7 := hv.seven
 have h8 : K * (w.2.2.2.2.length : Int) ≤ 293000 * 7 := mul_le_mul' hK.1 hK.2 (by omega) (by omega)
 show (w.2.2.2.2.foldl (upd h) (List.replicate w.2.2.2.1.length 0)).sum ≤ 2100000
 omega
theorem most_sum (hv : HvW w) : (sMost w).sum ≤ 2100000 := by
 refine sum_foldl (K := 293000) hv (by omega) fun x hx => ?_
 have h1 := hv.ok.wagon x hx
 have h2 := hv.net x hx
 have h3 := hv.scale
 have h4 := hv.ok.scale
 have h5 := hv.lab
 have h6 := hv.ok.lab
 have := mul_bd (a := x.2.1 - x.2.2.1 + 2 * w.2.1) (A := 293) (b := min 1000 (x.2.2.2 + w.2.2.1)) (B := 1000) (by omega) (by omega) (by omega) (by omega)
 unfold hMost
 omega
theorem Bet.sum {s : List Int} (h : Bet w s) (hv : HvW w) : s.sum ≤ 2100000 := by
 have h1 := (leL_of (l := s) (m := sMost w) (by rw [h.len, sMost_len]) fun j _ => h.hi j).sum
 have := most_sum hv
 omega
end
end Go.Proofs.Try
end
section
namespace Go.Proofs.Try
open Go.AM Go.Pay
set_option maxRecDepth 100000
theorem map_getD {α : Type} {f : Nat → α} {n i : Nat} {d : α} (hi : i < n) : ((List.range n).map f).getD i d = f i := by simp [List.getD, hi]
theorem zipP_getD {a b : List Int} {i : Nat} (h1 : i < a.length) (h2 : i < b.length) : (a.zip b).getD i (0, 0) = (a.getD i 0, b.getD i 0) := by
 have h : i < (a.zip b).length := by simp; omega
 rw [List.getD_eq_getElem?_getD, List.getElem?_eq_getElem h]
 simp [List.getD, h1, h2]
section
variable {w : Wk}
theorem okT_of (hv : HvW w) {truth : List (Int × Int)} (h : Within w truth) : OkT truth := fun t ht => by
 have := h t ht
 have := hv.scale; have := hv.lab; have := hv.ok.scale; have := hv.ok.lab
 omega
theorem one_within (hw : OkW w) (i : Nat) : Within w (oneT (lowT w) (highT w) i w.2.2.2.2) ∧ Within w (oneT (highT w) (lowT w) i w.2.2.2.2) := by
 have h1 := hw.scale
 have h2 := hw.lab
 have l : (-(2 * w.2.1) ≤ (lowT w).1 ∧ (lowT w).1 ≤ 2 * w.2.1) ∧ (-w.2.2.1 ≤ (lowT w).2 ∧ (lowT w).2 ≤ w.2.2.1) := by unfold lowT; simp only; omega
 have h : (-(2 * w.2.1) ≤ (highT w).1 ∧ (highT w).1 ≤ 2 * w.2.1) ∧ (-w.2.2.1 ≤ (highT w).2 ∧ (highT w).2 ≤ w.2.2.1) := by unfold highT; simp only; omega
 constructor <;> intro t ht <;> obtain ⟨x, _, rfl⟩ := List.mem_map.1 ht <;> split <;> assumption
theorem k9_0 (hv : HvW w) (hn4 : w.2.2.2.1.length ≤ 4) {s due b0 : List Int} {den : Int} (hs : Bet w s) (hden : 0 < den) (hden1 : den ≤ 2100000) (hdl : due.length = w.2.2.2.1.length)
  (hda : ∀ i, i < w.2.2.2.1.length → due.getD i 0 * (levelW w s).2 = D1 (levelW w s).1 (levelW w s).2 (capAt w i, s.getD i 0) * den ∧ 0 ≤ due.getD i 0 ∧ due.getD i 0 ≤ capAt w i * den ∧ due.getD i 0 ≤ 210000000000) :
  iter (fun a => run (fun _ => none) (g9_0 a)) ((sLeast w).zip (sMost w), (List.range w.2.2.2.1.length).map (bnd w), payL w (sRead w), s, due, den, ((w.2.2.2.1.length : Nat) : Int), (0 : Int), b0, w.1, w.2.1, w.2.2.1, w.2.2.2.1, w.2.2.2.2, ()) =
   some (.inr ((List.range w.2.2.2.1.length).map (bnd w), b0, w.1, w.2.1, w.2.2.1, w.2.2.2.1, w.2.2.2.2, ())) := by
 have hw := hv.ok
 have hm := hw.many
 have key := iter_inv (f := fun a => run (fun _ => none) (g9_0 a)) w.2.2.2.1.length (fun i (_ : Unit) => ((sLeast w).zip (sMost w), (List.range w.2.2.2.1.length).map (bnd w), payL w (sRead w), s, due, den, ((w.2.2.2.1.length : Nat) : Int), (i : Int), b0, w.1, w.2.1, w.2.2.1, w.2.2.2.1, w.2.2.2.2, ()))
  (fun _ => Sum.inr ((List.range w.2.2.2.1.length).map (bnd w), b0, w.1, w.2.1, w.2.2.1, w.2.2.2.1, w.2.2.2.2, ())) (fun _ _ => True) ?_ ?_ (s := ()) trivial
 ·obtain ⟨_, h, _⟩ := key; exact h
 ·rintro i _ hi _
  refine ⟨(), ?_, trivial⟩
  have hlo := (bet_least hw).mix (bet_most hw) hi
  have hhi := (bet_most hw).mix (bet_least hw) hi
  have l1 := sLeast_len w
  have l2 := sMost_len w
  have lsp : ((sLeast w).zip (sMost w)).length = w.2.2.2.1.length := by simp [l1, l2]
  have lbn : ((List.range w.2.2.2.1.length).map (bnd w)).length = w.2.2.2.1.length := by simp
  have lpy : (payL w (sRead w)).length = w.2.2.2.1.length := payW_len hw (okS_read hw)
  have gsp : ((sLeast w).zip (sMost w)).getD i (0, 0) = ((sLeast w).getD i 0, (sMost w).getD i 0) := zipP_getD (by omega) (by omega)
  have gbn : ((List.range w.2.2.2.1.length).map (bnd w)).getD i (0, 0) = bnd w i := map_getD hi
  -- true sugar and dues
  obtain ⟨o, c, e, p, q, r, _, _⟩ := due_parts hw (hs.ok hw) hi
  obtain ⟨u1, u2, u3, u4⟩ := hda i hi
  have bw := bnd_within hw hs hi e
  have bb := bnd_bd hw hv hi
  have dpos := (levelW_lv hw (hs.ok hw)).dpos
  have df := due_fl dpos hden u1 p q r
  have c1 : (bnd w i).1 * den ≤ due.getD i 0 := Int.le_trans (Int.mul_le_mul_of_nonneg_right bw.1 (Int.le_of_lt hden)) df.1
  have c2 : due.getD i 0 ≤ (bnd w i).2 * den := Int.le_trans df.2.2.1 (Int.mul_le_mul_of_nonneg_right bw.2 (Int.le_of_lt hden))
  have m1 := mul_bd bb.1 bb.2.1 (Int.le_of_lt hden) hden1
  have m2 := mul_bd bb.2.2.1 bb.2.2.2 (Int.le_of_lt hden) hden1
  -- payments
  obtain ⟨o', c', e', p', q', r', _, _, _, hp⟩ := payL_at hw (okS_read hw) hi
  have bp := bnd_within hw (bet_read hw) hi e'
  have c3 : (bnd w i).1 ≤ (payL w (sRead w)).getD i 0 ∧ (payL w (sRead w)).getD i 0 ≤ (bnd w i).2 := by
   rcases hp with ⟨h, _⟩ | ⟨h, hc, _⟩ <;> rw [h] <;> omega
  -- the worst and the best
  have hT := sTrue_one hw hi
  have w1 := one_within hw i
  have k1 := k35 hw (okT_of hv w1.1)
  have k2 := k35 hw (okT_of hv w1.2)
  rw [show sugT (oneT (lowT w) (highT w) i w.2.2.2.2) 0 w.2.2.2.2 (List.replicate w.2.2.2.1.length 0) = mix (sLeast w) (sMost w) i from hT.1] at k1
  rw [show sugT (oneT (highT w) (lowT w) i w.2.2.2.2) 0 w.2.2.2.2 (List.replicate w.2.2.2.1.length 0) = mix (sMost w) (sLeast w) i from hT.2] at k2
  obtain ⟨due1, den1, f1, f2, f3, f4, f5⟩ := hv.due (hlo.ok hw) (hlo.sum hv) hn4
  obtain ⟨due2, den2, g1, g2, g3, g4, g5⟩ := hv.due (hhi.ok hw) (hhi.sum hv) hn4
  obtain ⟨o1, c1', e1, p1, q1, r1, s1, t1⟩ := due_parts hw (hlo.ok hw) hi
  obtain ⟨o2, c2', e2, p2, q2, r2, s2, t2⟩ := due_parts hw (hhi.ok hw) hi
  have df1 := due_fl (levelW_lv hw (hlo.ok hw)).dpos f2 (f5 i hi).1 p1 q1 r1
  have df2 := due_fl (levelW_lv hw (hhi.ok hw)).dpos g2 (g5 i hi).1 p2 q2 r2
  have eb : bnd w i = (o1, o2 + min c2' 1) := by unfold bnd; rw [e1, e2]
  have v1 : Int.tdiv (due1.getD i 0) den1 = (bnd w i).1 := by rw [eb]; exact fl_eq f2 df1.1 df1.2.1 (f5 i hi).2.1
  have v2 : Int.tdiv (due2.getD i 0 + den2 - 1) den2 = (bnd w i).2 := by
   rw [eb]
   have a1 := df2.2.2.1
   have a2 := df2.2.2.2
   have a3 := df2.1
   refine fl_eq g2 ?_ ?_ (by have := (g5 i hi).2.1; omega)
   ·show (o2 + min c2' 1) * den2 ≤ _
    rcases Int.lt_or_le 0 c2' with hc | hc
    ·rw [Int.min_eq_right (by omega), Int.add_mul]; have := a2 hc; omega
    ·have : c2' = 0 := by omega
     subst this
     rw [show min (0 : Int) 1 = 0 by decide, Int.add_zero]; omega
   ·show _ < (o2 + min c2' 1 + 1) * den2
    rw [Int.add_mul _ 1]; omega
  have gm1 : (mix (sLeast w) (sMost w) i).getD i 0 = (sLeast w).getD i 0 := by rw [getD_mix (by omega), if_pos rfl]
  have gm2 : (mix (sMost w) (sLeast w) i).getD i 0 = (sMost w).getD i 0 := by rw [getD_mix (by omega), if_pos rfl]
  have hin : inb (i : Int) ((w.2.2.2.1.length : Nat) : Int) = true := inb_t (by omega) (by omega)
  have hni : rng .i64 ((i : Int) + 1) = true := rng_i64 (by omega) (by omega)
  have ds := hs.len
  simp only [g9_0, run_br, run_bd, run_it, run_nb, run_nd, run_ni, run_ret, Int.toNat_natCast, br_d, gsp, gbn, lsp, lbn, lpy, ds, hdl, hin, need_true]
  rw [if_pos (by omega), if_neg (by have := hs.lo i; omega), if_neg (by have := hs.hi i; omega), need_t (rng_i64 (by omega) (by omega)), if_neg (by omega), need_t (rng_i64 (by omega) (by omega)), if_neg (by omega), if_neg (by omega), if_neg (by omega)]
  refine bind_eq (k9_1 (lo := lowT w) (hi := highT w) (S := w.2.1) (L := w.2.2.1) (by unfold lowT; simp) rfl hw.scale hw.lab (by have := hw.wagons; omega)) ?_
  dsimp only
  simp only [List.drop_zero, List.take_length]
  refine bind_eq k1 ?_
  refine bind_eq k2 ?_
  have lm1 := hlo.len
  have lm2 := hhi.len
  simp only [lm1, lm2, lsp, lbn, hin, need_true, Int.toNat_natCast, gm1, gm2, gsp, beq_self_eq_true, Bool.not_true, brO_false, gbn]
  refine bind_eq f1 ?_
  have z1 : (!(den1 == (0 : Int))) = true := by rw [beq_eq_false_iff_ne.2 (by omega)]; rfl
  have z2 : (!(den2 == (0 : Int))) = true := by rw [beq_eq_false_iff_ne.2 (by omega)]; rfl
  simp only [f4, hin, need_true, z1, Int.toNat_natCast, v1, beq_self_eq_true, Bool.not_true, brO_false, lbn, gbn]
  rw [need_t (rng_i64 (by omega) (by omega))]
  refine bind_eq g1 ?_
  have gb := (g5 i hi).2
  simp only [g4, hin, need_true, z2, Int.toNat_natCast, v2, beq_self_eq_true, Bool.not_true, brO_false, lbn, gbn, hni]
  rw [need_t (rng_i64 (by omega) (by omega)), need_t (rng_i64 (by omega) (by omega)), need_t (rng_i64 (by omega) (by omega))]
  simp
 ·rintro _ _
  simp only [g9_0, run_br, run_ret, br_d]
  rw [if_neg (by omega)]
/-- With better scales. -/
def betterW (w : Wk) (S L : Int) : Wk := (w.1, S, L, w.2.2.2.1, w.2.2.2.2)
theorem better_ok (hw : OkW w) {S L : Int} (hS : 0 ≤ S ∧ S ≤ w.2.1) (hL : 0 ≤ L ∧ L ≤ w.2.2.1) : OkW (betterW w S L) := by
 have h1 := hw.scale
 have h2 := hw.lab
 exact ⟨hw.pot, ⟨hS.1, by show S ≤ 1000; omega⟩, ⟨hL.1, by show L ≤ 1000; omega⟩, hw.some, hw.many, hw.cap, hw.name, hw.twice, hw.wagons, hw.wagon⟩
theorem better_bnd (hw : OkW w) {S L : Int} (hS : 0 ≤ S ∧ S ≤ w.2.1) (hL : 0 ≤ L ∧ L ≤ w.2.2.1) {i : Nat} (hi : i < w.2.2.2.1.length) : (bnd w i).1 ≤ (bnd (betterW w S L) i).1 ∧ (bnd (betterW w S L) i).2 ≤ (bnd w i).2 := by
 have ho := better_ok hw hS hL
 have h1 := hw.scale
 have h2 := hw.lab
 have hle : ∀ x ∈ w.2.2.2.2, hLeast w x ≤ hLeast (betterW w S L) x ∧ hMost (betterW w S L) x ≤ hMost w x := fun x hx => by
  have h3 := hw.wagon x hx
  unfold hLeast hMost betterW
  simp only
  exact ⟨mul_le_mul' (by omega) (by omega) (by omega) (by omega), mul_le_mul' (by omega) (by omega) (by omega) (by omega)⟩
 have ll : ∀ j, (sLeast w).getD j 0 ≤ (sLeast (betterW w S L)).getD j 0 := (LeL.foldl (fun x hx => (hle x hx).1) (LeL.refl _)).getD
 have mm : ∀ j, (sMost (betterW w S L)).getD j 0 ≤ (sMost w).getD j 0 := (LeL.foldl (fun x hx => (hle x hx).2) (LeL.refl _)).getD
 have lm := least_le_most ho
 have b1 : Bet w (sLeast (betterW w S L)) := ⟨sLeast_len (betterW w S L), ll, fun j => Int.le_trans (lm j) (mm j)⟩
 have b2 : Bet w (sMost (betterW w S L)) := ⟨sMost_len (betterW w S L), fun j => Int.le_trans (ll j) (lm j), mm⟩
 obtain ⟨o1, c1, e1, _⟩ := due_parts hw ((b1.mix b2 hi).ok hw) hi
 obtain ⟨o2, c2, e2, _⟩ := due_parts hw ((b2.mix b1 hi).ok hw) hi
 have q1 := (bnd_within hw (b1.mix b2 hi) hi e1).1
 have q2 := (bnd_within hw (b2.mix b1 hi) hi e2).2
 have eb : bnd (betterW w S L) i = (o1, o2 + min c2 1) := by
  unfold bnd
  rw [show dueAt (betterW w S L) (mix (sLeast (betterW w S L)) (sMost (betterW w S L)) i) i = dueAt w (mix (sLeast (betterW w S L)) (sMost (betterW w S L)) i) i from rfl, e1,
   show dueAt (betterW w S L) (mix (sMost (betterW w S L)) (sLeast (betterW w S L)) i) i = dueAt w (mix (sMost (betterW w S L)) (sLeast (betterW w S L)) i) i from rfl, e2]
 rw [eb]; exact ⟨q1, q2⟩
theorem k9_2 {n : Nat} {f g : Nat → Int × Int} (hn : n ≤ 1000) (h : ∀ i, i < n → (f i).1 ≤ (g i).1 ∧ (g i).2 ≤ (f i).2) :
  iter (fun a => run (fun _ => none) (g9_2 a)) ((List.range n).map f, (List.range n).map g, (n : Int), (0 : Int), ()) = some (.inr ()) := by
 have key := iter_inv (f := fun a => run (fun _ => none) (g9_2 a)) n (fun i (_ : Unit) => ((List.range n).map f, (List.range n).map g, (n : Int), (i : Int), ())) (fun _ => Sum.inr ()) (fun _ _ => True) ?_ ?_ (s := ()) trivial
 ·obtain ⟨_, h, _⟩ := key; exact h
 ·rintro i _ hi _
  refine ⟨(), ?_, trivial⟩
  have hh := h i hi
  have hin : inb (i : Int) ((n : Nat) : Int) = true := inb_t (by omega) (by omega)
  have hni : rng .i64 ((i : Int) + 1) = true := rng_i64 (by omega) (by omega)
  simp only [g9_2, run_br, run_nb, run_ni, run_ret, Int.toNat_natCast, br_d, List.length_map, List.length_range, map_getD hi, hin, hni, need_true]
  rw [if_pos (by omega), if_neg (by omega), if_neg (by omega)]
  simp
 ·rintro _ _
  simp only [g9_2, run_br, run_ret, br_d]
  rw [if_neg (by omega)]
end
theorem law9h (h : Hv) (a1 : List Int) (a2 : Int × Int) (hW : WfAll [hvT, .list (.int .u8), .prod (.int .u8) (.int .u8)] (h, a1, a2, ())) : run0 (F9 h a1 a2) = some (true, ()) := by
 have hh := wfH_of hW.1
 have hb : ∀ z ∈ a1, 0 ≤ z ∧ z ≤ 255 := fun z hz => by
  have := hW.2.1.2 z hz
  simp only [Wf, u8_min, u8_max] at this; exact this
 have hb2 : (0 ≤ a2.1 ∧ a2.1 ≤ 255) ∧ (0 ≤ a2.2 ∧ a2.2 ≤ 255) := by
  have := hW.2.2.1
  simp only [Wf, u8_min, u8_max] at this; exact this
 have hv := made_hv hh
 have hw := hv.ok
 have hn := made_names hw
 have hc := chk_of hw
 have hn4 := made_n4 h
 have e17 : run0 (F17 (madeL h)) = some (sRead (madeL h), (sLeast (madeL h)).zip (sMost (madeL h)), 0, ()) := by rw [k17 _ hn]; unfold sugar; rw [if_pos hc]
 have e26 : run0 (F26 (madeL h)) = some (payL (madeL h) (sRead (madeL h)), 0, ()) := by rw [k26 _ hn]; unfold pays; rw [if_pos hc]
 have e30 : run0 (F30 (madeL h)) = some ((List.range (madeL h).2.2.2.1.length).map (bnd (madeL h)), 0, ()) := by rw [k30 _ hn]; unfold bound; rw [if_pos hc]
 have e34 := k34 hh
 obtain ⟨truth, e37, hwt⟩ := k37 hv hb
 have e35 := k35 hw (okT_of hv hwt)
 have hs := bet_true hw hwt
 obtain ⟨due, den, hdue, hden, hden1, hdl, hda⟩ := hv.due (hs.ok hw) (hs.sum hv) hn4
 have k9 := k9_0 hv hn4 (b0 := a2.1 :: a2.2 :: []) hs hden (by omega) hdl hda
 have l1 := sLeast_len (madeL h)
 have l2 := sMost_len (madeL h)
 have lsp : ((sLeast (madeL h)).zip (sMost (madeL h))).length = (madeL h).2.2.2.1.length := by simp [l1, l2]
 have lpy : (payL (madeL h) (sRead (madeL h))).length = (madeL h).2.2.2.1.length := payW_len hw (okS_read hw)
 generalize madeL h = w at *
 have hsc := hw.scale
 have hlb := hw.lab
 have t1 := tmod_bd (a := a2.1) (b := w.2.1 + 1) hb2.1.1 (by omega)
 have t2 := tmod_bd (a := a2.2) (b := w.2.2.1 + 1) hb2.2.1 (by omega)
 have hS : 0 ≤ w.2.1 - Int.tmod a2.1 (w.2.1 + 1) ∧ w.2.1 - Int.tmod a2.1 (w.2.1 + 1) ≤ w.2.1 := by omega
 have hL : 0 ≤ w.2.2.1 - Int.tmod a2.2 (w.2.2.1 + 1) ∧ w.2.2.1 - Int.tmod a2.2 (w.2.2.1 + 1) ≤ w.2.2.1 := by omega
 have ho := better_ok hw hS hL
 have e30' : run0 (F30 (betterW w (w.2.1 - Int.tmod a2.1 (w.2.1 + 1)) (w.2.2.1 - Int.tmod a2.2 (w.2.2.1 + 1)))) = some ((List.range w.2.2.2.1.length).map (bnd (betterW w (w.2.1 - Int.tmod a2.1 (w.2.1 + 1)) (w.2.2.1 - Int.tmod a2.2 (w.2.2.1 + 1)))), 0, ()) := by
  rw [k30 _ (made_names ho)]; unfold bound; rw [if_pos (chk_of ho)]; rfl
 have hm := hw.many
 simp only [F9, run_bd]
 refine bind_eq e34 ?_
 dsimp only
 refine bind_eq e17 ?_
 refine bind_eq e30 ?_
 refine bind_eq e26 ?_
 simp only [run_br, run_bd, run_it, run_ret, br_not, br_eq, lsp, lpy, List.length_map, List.length_range, if_true]
 refine bind_eq e37 ?_
 refine bind_eq e35 ?_
 refine bind_eq hdue ?_
 refine bind_eq k9 ?_
 simp only [run_sr, run_nd, run_ni, run_bd, run_br, run_it, run_ret, List.length_cons, List.length_nil, List.getD_cons_zero, List.getD_cons_succ]
 have z1 : (!((w.2.1 + 1) == (0 : Int))) = true := by rw [beq_eq_false_iff_ne.2 (by omega)]; rfl
 have z2 : (!((w.2.2.1 + 1) == (0 : Int))) = true := by rw [beq_eq_false_iff_ne.2 (by omega)]; rfl
 rw [need_d (by omega), need_t (rng_i64 (by omega) (by omega)), need_t (rng_i64 (by omega) (by omega)), need_t z1, need_t (rng_i64 (by omega) (by omega)), need_d (by omega), need_t (rng_i64 (by omega) (by omega)), need_t (rng_i64 (by omega) (by omega)), need_t z2, need_t (rng_i64 (by omega) (by omega))]
 refine bind_eq e30' ?_
 simp only [br_not, br_eq, List.length_map, List.length_range, if_true]
 refine bind_eq (k9_2 (by omega) fun i hi => better_bnd hw hS hL hi) ?_
 simp only [run_sr, run_bd, run_ret, works_ok, bindO_s]
end Go.Proofs.Try
end
