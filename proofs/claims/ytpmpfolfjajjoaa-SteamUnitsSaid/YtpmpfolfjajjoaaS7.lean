/- The sum of units as the program walks it. The sum of units: F33. The sum of units: F33, its last rounds. Sum, Most. What the statements hand in. The chapter's examples, reckoned through. Is a point in a polygon taken so many times: F32. Can: F13. A point of the sum as corners' mix: F34. Divide: F14. The sum does not depend on the units' order; it moves with a unit. Units that move, units in another order. SteamUnits: its law. -/
import Derived.Test.YtpmpfolfjajjoaaR7
set_option linter.unusedSectionVars false
set_option linter.unusedVariables false
set_option linter.unusedSimpArgs false
section
namespace Go.Proofs.Try
open Go.AM Go.Geo
set_option maxRecDepth 100000
theorem bd0 {K : Int} (h : 0 ≤ K) : Bd K ((0 : Int), (0 : Int)) := ⟨by simp; omega, by simp; omega, by simp; omega, by simp; omega⟩
theorem k35 {a b : Pt} (ha : Bd 1000000000 a) (hb : Bd 1000000000 b) : run0 (F35 a b) = some (add a b, ()) := by
 have h1 := ha.1; have h2 := ha.2; have h3 := hb.1; have h4 := hb.2
 obtain ⟨a1, a2, a3, a4⟩ := ha; obtain ⟨b1, b2, b3, b4⟩ := hb
 simp only [F35, run_ni, run_ret]
 rw [need_i64 (by omega) (by omega), need_i64 (by omega) (by omega)]
 rfl
theorem kH55v {l : List Pt} (hl : l.length ≤ 1000) : run0 (FH55_v1 l.length l) = some (l.length, l, l, ()) := by
 have d1 : decide ((0 : Nat) + ((l.drop 0).take l.length).length < bigL) = true := decide_eq_true (by rw [bigL_eq]; simp; omega)
 simp only [FH55_v1, run_br, run_am, run_nd, run_ret, d1, need_true]
 cases l with
 | nil => simp
 | cons a l =>
  rw [br_f (by simp; omega)]
  simp
theorem set_last {α : Type} {l : List α} {x : α} (h : l ≠ []) : l.set (l.length - 1) x = l.dropLast ++ [x] := by
 have e := List.dropLast_concat_getLast h
 have : l.length - 1 = l.dropLast.length := by simp
 rw [this]
 conv => lhs; rw [← e]
 exact set_mid (A := l.dropLast) (B := []) (by simp)
theorem last_len {α : Type} {l : List α} (h : l ≠ []) {x : α} : (l.dropLast ++ [x]).length = l.length := by
 cases l with
 | nil => exact (h rfl).elim
 | cons a l => simp
theorem in33 {l : List Pt} {ls : List (List Pt)} {n k : Nat} {v16 v17 c1 c2 : Int} {b3 : List Pt} {B : List OwF} (hl : l.length ≤ 1000) (hb : ∀ p ∈ l, Bd 1000 p) (hB : B.length ≤ 100000) :
  run0 (g33_1 (n, ls, v16, v17, l, B.length, c1, c2, b3, (k : Int), B, ())) = some (n, ls, v16, v17, (B ++ (sidesL l).map fun s => (s, (k : Int))).length, c1, c2, b3, (B ++ (sidesL l).map fun s => (s, (k : Int))), ()) := by
 have hgd : ∀ i, Bd 1000 (l.getD i (0, 0)) := fun i => by
  by_cases h : i < l.length
  ·exact hb _ (getD_mem h)
  ·rw [getD_out _ (by omega)]; exact bd0 (by omega)
 obtain ⟨r, q1, q2⟩ := iter_ex (step := fun s => run0 (g33_1i_0 s)) l.length (fun i s => s = (l, l, ((l.length : Nat) : Int), (i : Int), n, ls, v16, v17, l, (B ++ ((sidesL l).take i).map fun s => (s, (k : Int))).length, c1, c2, b3, (k : Int), (B ++ ((sidesL l).take i).map fun s => (s, (k : Int))), ()))
  (fun r => r = ((B ++ (sidesL l).map fun s => (s, (k : Int))).length, c1, c2, (k : Int), n, ls, v16, v17, l, b3, (B ++ (sidesL l).map fun s => (s, (k : Int))), ())) (fun i s hi hs => by
   subst hs
   have j1 : inb (i : Int) ((l.length : Nat) : Int) = true := inb_t (by omega) (by omega)
   have r3 : rng .i64 ((i : Int) + 1) = true := rng_i64 (by omega) (by omega)
   by_cases h1 : 1 < l.length
   ·have hsl : (sidesL l).length = l.length := by unfold sidesL; rw [if_pos h1]; simp
    have e1 : (sidesL l).take (i + 1) = (sidesL l).take i ++ [(l.getD i (0, 0), sub (l.getD ((i + 1) % l.length) (0, 0)) (l.getD i (0, 0)))] := by
     rw [List.take_succ_eq_append_getElem (by omega)]
     simp [sidesL, h1]
    have tm : Int.tmod ((i : Int) + 1) ((l.length : Nat) : Int) = (((i + 1) % l.length : Nat) : Int) := by
     have e : ((i : Int) + 1) = ((i + 1 : Nat) : Int) := by omega
     rw [e]; exact Int.ofNat_tmod _ _
    have hlt : (i + 1) % l.length < l.length := Nat.mod_lt _ (by omega)
    have j2 : inb (((i + 1) % l.length : Nat) : Int) ((l.length : Nat) : Int) = true := inb_t (Int.natCast_nonneg _) (Int.ofNat_lt.2 hlt)
    have z0 : (!(((l.length : Nat) : Int) == 0)) = true := by rw [Bool.not_eq_true', beq_eq_false_iff_ne]; omega
    have lb : ((sidesL l).take i).length ≤ 1000 := by rw [List.length_take]; omega
    have hM : (B ++ ((sidesL l).take i).map fun s => ((s, (k : Int)) : OwF)).length ≤ 200000 := by rw [List.length_append, List.length_map]; omega
    have em : (B ++ ((sidesL l).take (i + 1)).map fun s => ((s, (k : Int)) : OwF)) = (B ++ ((sidesL l).take i).map fun s => ((s, (k : Int)) : OwF)) ++ [((l.getD i (0, 0), sub (l.getD ((i + 1) % l.length) (0, 0)) (l.getD i (0, 0))), (k : Int))] := by
     rw [e1]; simp
    generalize (B ++ ((sidesL l).take i).map fun s => ((s, (k : Int)) : OwF)) = M at hM em
    have d1 : ∀ x : OwF, decide (M.length + (List.take 1 (List.drop 0 [x])).length < bigL) = true := fun x => decide_eq_true (by rw [bigL_eq]; simp; omega)
    rw [em]
    refine ⟨_, ?_, rfl⟩
    simp only [g33_1i_0, run_br, run_nb, run_ni, run_nd, run_bd, run_ret, j1, r3, need_true, br_d, tm, Int.toNat_natCast, z0, j2, pr_eta]
    rw [if_pos (by omega), if_pos (by omega), bind_of (k49 ((hgd _).le (by omega)) ((hgd _).le (by omega)))]
    simp only [d1, need_true]
    simp
   ·have hsl : sidesL l = [] := by unfold sidesL; rw [if_neg h1]
    refine ⟨_, ?_, rfl⟩
    simp only [g33_1i_0, run_br, run_nb, run_ni, run_nd, run_bd, run_ret, j1, r3, need_true, br_d]
    rw [if_pos (by omega), if_neg (by omega)]
    simp [hsl]) (fun s hs => by
   subst hs
   refine ⟨_, ?_, rfl⟩
   have : (sidesL l).take l.length = sidesL l := List.take_of_length_le (by unfold sidesL; split <;> simp)
   simp only [g33_1i_0, run_br, run_ret, br_d, this]
   rw [if_neg (by omega)]) (x := (l, l, ((l.length : Nat) : Int), 0, n, ls, v16, v17, l, B.length, c1, c2, b3, (k : Int), B, ())) (by simp)
 subst q2
 simp only [g33_1, run_bd, run_it, run_ret]
 rw [bind_of q1]
end Go.Proofs.Try
end
section
namespace Go.Proofs.Try
open Go.AM Go.Geo
set_option maxRecDepth 100000
theorem cs_hd {a : Pt} {ds : List Pt} : (cs a ds).getD 0 (0, 0) = a ∧ 0 < (cs a ds).length := by
 unfold cs
 cases ds with
 | nil => simp
 | cons d r => simp [vs]
theorem sm_bd {l : List Pt} {K : Int} {n : Nat} (hn : l.length ≤ n) (h : ∀ p ∈ l, Bd K p) (hK : 0 ≤ K) : Bd (K * n) (sm l) := by
 induction l generalizing n with
 | nil => simp only [sm]; exact bd0 (Int.mul_nonneg hK (Int.natCast_nonneg _))
 | cons a l ih =>
  obtain ⟨m, rfl⟩ : ∃ m, n = m + 1 := ⟨n - 1, by simp at hn; omega⟩
  have := bd_add (h a (by simp)) (ih (n := m) (by simpa using hn) fun p hp => h p (by simp [hp]))
  refine this.le ?_
  have e : K * ((m + 1 : Nat) : Int) = K * m + K := by rw [Int.natCast_add, Int.mul_add]; simp
  omega
structure OkS (U : List Pol) : Prop where
 len : U.length ≤ 4
 sd : ∀ x ∈ U, Sd x.2
 bd : ∀ l ∈ csU U, ∀ p ∈ l, Bd 1000 p
 sz : ∀ l ∈ csU U, l.length ≤ 1000
 tot : (ownL (csU U)).length ≤ 19
theorem csU_get {U : List Pol} {k : Nat} (h : k < U.length) : (csU U).getD k [] = cs U[k].1 U[k].2 := by
 simp [csU, List.getD, h]
theorem OkS.hd {U : List Pol} (h : OkS U) {x : Pol} (hx : x ∈ U) : Bd 1000 x.1 := by
 have hm : cs x.1 x.2 ∈ csU U := List.mem_map.2 ⟨x, hx, rfl⟩
 have := h.bd _ hm _ (getD_mem (d := (0, 0)) (cs_hd (a := x.1) (ds := x.2)).2)
 rwa [cs_hd.1] at this
theorem ownL_take_len (ls : List (List Pt)) : ∀ k, (ownL (ls.take k)).length ≤ (ownL ls).length := by
 intro k
 have : ∀ m, (ownL (ls.take k)).length ≤ (ownL (ls.take (k + m))).length := by
  intro m
  induction m with
  | zero => exact Nat.le_refl _
  | succ m ih =>
   refine Nat.le_trans ih ?_
   by_cases h : k + m < ls.length
   ·rw [show k + (m + 1) = (k + m) + 1 by omega, List.take_succ_eq_append_getElem h, ownL_snoc]; simp
   ·rw [List.take_of_length_le (by omega), List.take_of_length_le (by omega)]; exact Nat.le_refl _
 have := this ls.length
 have e : ls.take (k + ls.length) = ls := List.take_of_length_le (by omega)
 rw [e] at this
 exact this
theorem it33_0 {U : List Pol} (h : OkS U) : iter (fun s => run0 (g33_0 s)) (0, csU U, (((csU U).length : Nat) : Int), 0, 0, 0, 0, [], [], ()) = some (U.length, (ownL (csU U)).length, (a0U U).1, (a0U U).2, U.map (·.1), ownL (csU U), ()) := by
 have hlU : (csU U).length = U.length := by simp [csU]
 obtain ⟨r, q1, q2⟩ := iter_ex (step := fun s => run0 (g33_0 s)) U.length (fun k s => s = (k, csU U, (((csU U).length : Nat) : Int), (k : Int), (ownL ((csU U).take k)).length, (sm ((U.take k).map (·.1))).1, (sm ((U.take k).map (·.1))).2, (U.take k).map (·.1), ownL ((csU U).take k), ()))
  (fun r => r = (U.length, (ownL (csU U)).length, (a0U U).1, (a0U U).2, U.map (·.1), ownL (csU U), ())) (fun k s hk hs => by
   subst hs
   have hU := h.len
   have j1 : inb (k : Int) (((csU U).length : Nat) : Int) = true := inb_t (by omega) (by omega)
   have r3 : rng .i64 ((k : Int) + 1) = true := rng_i64 (by omega) (by omega)
   have hx : U[k] ∈ U := List.getElem_mem hk
   have hm : cs U[k].1 U[k].2 ∈ csU U := List.mem_map.2 ⟨_, hx, rfl⟩
   have g1 := csU_get hk
   obtain ⟨g2, g3⟩ := cs_hd (a := U[k].1) (ds := U[k].2)
   have j2 : inb (0 : Int) (((cs U[k].1 U[k].2).length : Nat) : Int) = true := inb_t (by omega) (by omega)
   have hsb : Bd 1000000 (sm ((U.take k).map (·.1))) := by
    refine (sm_bd (n := 4) (K := 1000) (by simp; omega) (fun p hp => ?_) (by omega)).le (by omega)
    obtain ⟨y, hy, rfl⟩ := List.mem_map.1 hp
    exact h.hd (List.mem_of_mem_take hy)
   have d1 : ∀ x : Pt, decide (k + (List.take 1 (List.drop 0 [x])).length < bigL) = true := fun x => decide_eq_true (by rw [bigL_eq]; simp; omega)
   have eB : (U.take (k + 1)).map (·.1) = (U.take k).map (·.1) ++ [U[k].1] := by rw [List.take_succ_eq_append_getElem hk, List.map_append]; rfl
   have eS : sm ((U.take (k + 1)).map (·.1)) = add (sm ((U.take k).map (·.1))) U[k].1 := by rw [eB, sm_append]; simp [sm, add_zero]
   have eO : ownL ((csU U).take (k + 1)) = ownL ((csU U).take k) ++ (sidesL (cs U[k].1 U[k].2)).map fun s => (s, (k : Int)) := by
    rw [List.take_succ_eq_append_getElem (by omega), ownL_snoc]
    have : (csU U)[k]'(by omega) = cs U[k].1 U[k].2 := by simp [csU]
    rw [this, List.length_take, Nat.min_eq_left (by omega)]
   have hle : (ownL ((csU U).take k)).length ≤ 100000 := by have := ownL_take_len (csU U) k; have := h.tot; omega
   have tk : ((U.take k).map (·.1)).take k = (U.take k).map (·.1) := List.take_of_length_le (by simp; omega)
   refine ⟨_, ?_, rfl⟩
   simp only [g33_0, run_br, run_nb, run_ni, run_nd, run_bd, run_ret, j1, r3, need_true, br_d, Int.toNat_natCast, g1, j2, Int.toNat_zero, g2, pr_eta, F37]
   rw [if_pos (by omega), bind_of (k35 (hsb.le (by omega)) ((h.hd hx).le (by omega)))]
   simp only [d1, need_true, bindO_s]
   rw [bind_of (in33 (h.sz _ hm) (h.bd _ hm) hle)]
   simp only [r3, need_true]
   rw [eO, eS, eB, List.drop_zero, List.drop_zero, tk]
   simp) (fun s hs => by
   subst hs
   refine ⟨_, ?_, rfl⟩
   simp only [g33_0, run_br, run_ret, br_d, hlU]
   rw [if_neg (by omega), ← hlU, List.take_length, hlU, List.take_length]
   rfl) (x := (0, csU U, (((csU U).length : Nat) : Int), 0, 0, 0, 0, [], [], ())) (by simp [sm, ownL])
 rw [q1, q2]
/-- What holds after so many sides. -/
structure SB (U : List Pol) (k : Nat) (s : SSt) : Prop where
 at_ : Bd (4000 + 2000 * k) s.1
 len : s.2.1.length = U.length
 now : ∀ p ∈ s.2.1, Bd (1000 + 2000 * k) p
 c : s.2.2.1 ≠ [] ∧ s.2.2.1.length ≤ k + 1
 l2 : s.2.2.2.1.length = s.2.2.1.length
 d : Bd 2000 s.2.2.2.2
theorem SB.step {U : List Pol} {k : Nat} {s : SSt} (h : SB U k s) {x : Go.Geo.Own} (hx : Bd 2000 x.1) : SB U (k + 1) (sst s x) := by
 have e : (4000 + 2000 * ((k + 1 : Nat) : Int)) = 4000 + 2000 * (k : Int) + 2000 := by omega
 have hl : (if s.2.2.2.2 ≠ (0, 0) ∧ sam s.2.2.2.2 x.1 then s.2.2.1.dropLast else s.2.2.1).length ≤ s.2.2.1.length := by split <;> simp
 refine ⟨?_, ?_, ?_, ⟨by simp [sst], ?_⟩, ?_, hx⟩
 ·rw [e]; exact bd_add h.at_ hx
 ·simp only [sst, List.length_set]; exact h.len
 ·intro p hp
  rcases List.mem_or_eq_of_mem_set hp with hp | rfl
  ·exact (h.now p hp).le (by omega)
  ·have : Bd (1000 + 2000 * (k : Int)) (s.2.1.getD x.2 (0, 0)) := by
    by_cases hi : x.2 < s.2.1.length
    ·exact h.now _ (getD_mem hi)
    ·rw [getD_out _ (by omega)]; exact bd0 (by omega)
   exact (bd_add this hx).le (by omega)
 ·have := h.c.2
  simp only [sst, List.length_append, List.length_singleton]; omega
 ·simp only [sst, List.length_append, List.length_singleton]
  split
  ·simp [h.l2]
  ·rw [h.l2]
end Go.Proofs.Try
end
section
namespace Go.Proofs.Try
open Go.AM Go.Geo
set_option maxRecDepth 100000
def fs (U : List Pol) (L : List OwF) : SSt := (L.map prj).foldl sst (st0 U)
theorem eqz (a b : Int) : (a == 0 && (b == 0 && true)) = decide ((a, b) = ((0 : Int), (0 : Int))) := by
 by_cases h1 : a = 0 <;> by_cases h2 : b = 0 <;> simp [h1, h2]
theorem h0_eq {d e : Pt} : (((if h0 d = true then (0 : Int) else 1) == (if h0 e = true then (0 : Int) else 1)) = true) ↔ h0 d = h0 e := by
 cases h0 d <;> cases h0 e <;> simp
abbrev S33 := Nat × Nat × Int × Int × Nat × Int × Int × (List (Int × Int)) × Nat × Nat × Int × Int × (List (((Int × Int) × Int × Int) × Int)) × (List (Int × Int)) × (List (List (Int × Int))) × Unit
def S33.mk (U : List Pol) (L : List OwF) (k : Nat) (s : SSt) : S33 := (U.length, L.length, ((L.length : Nat) : Int), (k : Int), L.length, s.1.1, s.1.2, s.2.1, s.2.2.1.length, s.2.2.2.1.length, s.2.2.2.2.1, s.2.2.2.2.2, L, s.2.2.1, s.2.2.2.1, ())
theorem sst_y {a d e : Pt} {now cor : List Pt} {prt : List (List Pt)} {o : Nat} (h : d ≠ (0, 0) ∧ sam d e) : sst (a, now, cor, prt, d) (e, o) = (add a e, now.set o (add (now.getD o (0, 0)) e), cor.dropLast ++ [add a e], prt.dropLast ++ [now.set o (add (now.getD o (0, 0)) e)], e) := by
 unfold sst; simp only []; rw [if_pos h, if_pos h]
theorem sst_n {a d e : Pt} {now cor : List Pt} {prt : List (List Pt)} {o : Nat} (h : ¬ (d ≠ (0, 0) ∧ sam d e)) : sst (a, now, cor, prt, d) (e, o) = (add a e, now.set o (add (now.getD o (0, 0)) e), cor ++ [add a e], prt ++ [now.set o (add (now.getD o (0, 0)) e)], e) := by
 unfold sst; simp only []; rw [if_neg h, if_neg h]
theorem st33 {U : List Pol} {L : List OwF} {k : Nat} (hU : U.length ≤ 4) (hL : L.length ≤ 19) (hg : ∀ x ∈ L, GoodO x ∧ x.2 < U.length) (hk : k < L.length) {s : SSt} (hs : SB U k s) :
  run0 (g33_2 (S33.mk U L k s)) = some (.inl (S33.mk U L (k + 1) (sst s (prj L[k])))) := by
 obtain ⟨⟨xb, x0, x1⟩, xu⟩ := hg _ (List.getElem_mem hk)
 have gx : L.getD k ((((0 : Int), (0 : Int)), ((0 : Int), (0 : Int))), (0 : Int)) = L[k] := getD_el _ hk
 obtain ⟨o, ho⟩ : ∃ o : Nat, L[k].2 = (o : Int) := ⟨L[k].2.toNat, by omega⟩
 have hou : o < U.length := by omega
 have eP : prj L[k] = (L[k].1.2, o) := by simp [prj, ho]
 generalize L[k] = x at *
 obtain ⟨hat, hln, hnow, ⟨hc1, hc2⟩, hl2, hd⟩ := hs
 obtain ⟨at_, now, cor, prt, d⟩ := s
 simp only at hat hln hnow hc1 hc2 hl2 hd
 have hp1 : prt ≠ [] := fun e => by rw [e] at hl2; simp at hl2; exact hc1 (List.length_eq_zero_iff.1 hl2.symm)
 have j1 : inb (k : Int) ((L.length : Nat) : Int) = true := inb_t (by omega) (by omega)
 have d0 : decide (0 + k < L.length) = true := decide_eq_true (by omega)
 have r3 : rng .i64 ((k : Int) + 1) = true := rng_i64 (by omega) (by omega)
 have j2 : inb (o : Int) ((U.length : Nat) : Int) = true := inb_t (by omega) (by omega)
 have d2 : decide (0 + o < now.length) = true := decide_eq_true (by omega)
 have lc : 0 < cor.length := List.length_pos_iff.2 hc1
 have r4 : rng .i64 (((cor.length : Nat) : Int) - 1) = true := rng_i64 (by omega) (by omega)
 have j3 : inb (((cor.length : Nat) : Int) - 1) ((cor.length : Nat) : Int) = true := inb_t (by omega) (by omega)
 have t3 : Int.toNat (((cor.length : Nat) : Int) - 1) = cor.length - 1 := by omega
 have d3 : decide (cor.length - 1 < cor.length) = true := decide_eq_true (by omega)
 have gn : Bd (1000 + 2000 * (k : Int)) (now.getD o (0, 0)) := hnow _ (getD_mem (by omega))
 have d4 : ∀ x : Pt, decide (cor.length + (List.take 1 (List.drop 0 [x])).length < bigL) = true := fun x => decide_eq_true (by rw [bigL_eq]; simp; omega)
 have d5 : ∀ x : List Pt, decide (cor.length + (List.take 1 (List.drop 0 [x])).length < bigL) = true := fun x => decide_eq_true (by rw [bigL_eq]; simp; omega)
 have c55 := kH55v (l := now) (by omega)
 rw [hln] at c55
 have tk : ∀ y : Pt, ((now.set o y).drop 0).take U.length = now.set o y := fun y => by rw [List.drop_zero]; exact List.take_of_length_le (by simp [hln])
 unfold S33.mk
 simp only [g33_2, run_br, run_nb, run_ni, run_nd, run_bd, run_ret, run_jx, Int.toNat_natCast, Nat.zero_add, j1, gx, need_true, br_d, pr_eta]
 rw [if_pos (by omega)]
 rw [need_t (by simpa using d0)]
 rw [bind_of (k35 (hat.le (by omega)) (xb.le (by omega)))]
 rw [bind_of c55]
 simp only [ho, j2, need_true, Int.toNat_natCast]
 rw [need_t (by simpa using d2), bind_of (k35 (gn.le (by omega)) (xb.le (by omega)))]
 rw [need_t (by simpa using d2)]
 simp only [k53, bindO_s, r4, need_true, t3, j3, d3, hl2, d4, d5, tk, pr_eta]
 have i4 : (((k + 1 : Nat) : Int)) = (k : Int) + 1 := by omega
 have napp : ¬ (d ≠ (0, 0) ∧ sam d x.1.2) → some (Sum.inl (U.length, L.length, ((L.length : Nat) : Int), (k : Int) + 1, L.length, (add at_ x.1.2).1, (add at_ x.1.2).2, now.set o (add (now.getD o (0, 0)) x.1.2), cor.length + (List.take 1 (List.drop 0 [add at_ x.1.2])).length,
   cor.length + (List.take 1 (List.drop 0 [now.set o (add (now.getD o (0, 0)) x.1.2)])).length, x.1.2.1, x.1.2.2, L, List.take cor.length (List.drop 0 cor) ++ List.take 1 (List.drop 0 [add at_ x.1.2]), List.take cor.length (List.drop 0 prt) ++ List.take 1 (List.drop 0 [now.set o (add (now.getD o (0, 0)) x.1.2)]), ())) =
   some (Sum.inl (β := Nat × Nat × Nat × (List (((Int × Int) × Int × Int) × Int)) × (List (Int × Int)) × (List (List (Int × Int))) × Unit) (S33.mk U L (k + 1) (sst (at_, now, cor, prt, d) (x.1.2, o)))) := by
  intro hn
  have e5 : List.take cor.length (List.drop 0 prt) = prt := by rw [← hl2]; simp
  rw [sst_n hn, e5]
  simp only [S33.mk, i4]
  simp [hl2]
 rw [eP]
 by_cases e1 : h0 d = h0 x.1.2
 ·rw [br_t (h0_eq.2 e1), bind_of (k48 (hd.le (by omega)) (xb.le (by omega)))]
  by_cases e2 : cr d x.1.2 = 0
  ·rw [br_t (by simp [e2]), eqz]
   by_cases e3 : d = (0, 0)
   ·rw [br_f (by simp [e3])]
    simp only [bindO_s, onS, r3, need_true]
    exact napp fun h => h.1 e3
   ·rw [br_t (by simp [e3])]
    simp only [bindO_s, onS, r3, need_true]
    rw [sst_y ⟨e3, e1, e2⟩]
    simp only [S33.mk, i4]
    rw [set_last hc1, last_len hc1, last_len hp1]
    have := set_last (x := now.set o (add (now.getD o (0, 0)) x.1.2)) hp1
    rw [hl2] at this
    rw [this, hl2]
  ·rw [br_f (by simp [e2])]
   simp only [bindO_s, onS, r3, need_true]
   exact napp fun h => e2 h.2.2
 ·rw [br_f (by rw [← Bool.not_eq_true, h0_eq]; exact e1)]
  simp only [bindO_s, onS, r3, need_true]
  exact napp fun h => e1 h.2.1
theorem it33_2 {U : List Pol} {L : List OwF} (hU : U.length ≤ 4) (hL : L.length ≤ 19) (hg : ∀ x ∈ L, GoodO x ∧ x.2 < U.length) (h0 : SB U 0 (st0 U)) :
  iter (fun s => run0 (g33_2 s)) (S33.mk U L 0 (st0 U)) = some (L.length, (fs U L).2.2.1.length, (fs U L).2.2.2.1.length, L, (fs U L).2.2.1, (fs U L).2.2.2.1, ()) ∧ SB U L.length (fs U L) := by
 have hsb : ∀ k, k ≤ L.length → SB U k (fs U (L.take k)) := by
  intro k
  induction k with
  | zero => intro _; exact h0
  | succ k ih =>
   intro hk
   have hk1 : k < L.length := by omega
   have e : fs U (L.take (k + 1)) = sst (fs U (L.take k)) (prj L[k]) := by
    unfold fs; rw [List.take_succ_eq_append_getElem hk1, List.map_append, List.foldl_append]; rfl
   rw [e]
   exact (ih (by omega)).step (hg _ (List.getElem_mem hk1)).1.bd
 have hall := hsb _ (Nat.le_refl _)
 rw [List.take_length] at hall
 refine ⟨?_, hall⟩
 obtain ⟨r, q1, q2⟩ := iter_ex (step := fun s => run0 (g33_2 s)) L.length (fun k s => s = S33.mk U L k (fs U (L.take k)))
  (fun r => r = (L.length, (fs U L).2.2.1.length, (fs U L).2.2.2.1.length, L, (fs U L).2.2.1, (fs U L).2.2.2.1, ())) (fun k s hk hs => by
   subst hs
   refine ⟨_, st33 hU hL hg hk (hsb k (by omega)), ?_⟩
   unfold fs; rw [List.take_succ_eq_append_getElem hk, List.map_append, List.foldl_append]; rfl) (fun s hs => by
   subst hs
   rw [List.take_length]
   refine ⟨_, ?_, rfl⟩
   unfold S33.mk
   simp only [g33_2, run_br, run_ret, br_d]
   rw [if_neg (by omega)]) (x := S33.mk U L 0 (st0 U)) rfl
 rw [q1, q2]
theorem OkS.good {U : List Pol} (h : OkS U) : ∀ x ∈ isort ltO (ownL (csU U)), GoodO x ∧ x.2 < U.length := by
 intro x hx
 have hx := (isort_perm _).mem_iff.1 hx
 have hn := (ownL_sorted (csU U)).2 x hx
 rw [show (csU U).length = U.length by simp [csU]] at hn
 have hl := h.len
 refine ⟨⟨?_, hn.1, by omega⟩, hn.2⟩
 unfold ownL at hx
 obtain ⟨z, hz, hx⟩ := List.mem_flatten.1 hx
 obtain ⟨⟨l, i⟩, hli, rfl⟩ := List.mem_map.1 hz
 obtain ⟨s, hs, rfl⟩ := List.mem_map.1 hx
 have hl : l ∈ csU U := List.fst_mem_of_mem_zipIdx hli
 have hgd : ∀ i, Bd 1000 (l.getD i (0, 0)) := fun i => by
  by_cases hh : i < l.length
  ·exact h.bd _ hl _ (getD_mem hh)
  ·rw [getD_out _ (by omega)]; exact bd0 (by omega)
 unfold sidesL at hs
 split at hs
 ·obtain ⟨j, -, rfl⟩ := List.mem_map.1 hs
  exact (bd_sub (hgd _) (hgd _)).le (by omega)
 ·cases hs
theorem OkS.sb0 {U : List Pol} (h : OkS U) : SB U 0 (st0 U) := by
 have hb : ∀ p ∈ U.map (·.1), Bd 1000 p := fun p hp => by
  obtain ⟨y, hy, rfl⟩ := List.mem_map.1 hp
  exact h.hd hy
 refine ⟨?_, by simp [st0], fun p hp => (hb p hp).le (by simp), ⟨by simp [st0], by simp [st0]⟩, by simp [st0], bd0 (by omega)⟩
 exact (sm_bd (n := 4) (K := 1000) (by have := h.len; simp; omega) hb (by omega)).le (by simp)
/-- The sum. -/
theorem k33 {U : List Pol} (h : OkS U) : run0 (F33 (csU U)) = some (addU U, ()) := by
 have hg := h.good
 have ht := h.tot
 have hlen : (isort ltO (ownL (csU U))).length = (ownL (csU U)).length := isort_length _
 obtain ⟨q, hb⟩ := it33_2 h.len (by omega) hg h.sb0
 have efs : fs U (isort ltO (ownL (csU U))) = (srtS U).foldl sst (st0 U) := by unfold fs; rw [srt_own h.sd]
 rw [efs] at q hb
 simp only [F33, run_bd, run_it, run_br, run_ni, run_nd, run_ret]
 rw [bind_of (it33_0 h), bind_of (kH50 (fun x hx => (hg x ((isort_perm _).mem_iff.2 hx)).1) ht)]
 have e0 : (U.length, (ownL (csU U)).length, (((ownL (csU U)).length : Nat) : Int), (0 : Int), (ownL (csU U)).length, (a0U U).1, (a0U U).2, U.map (·.1), (1 : Nat), (1 : Nat), (0 : Int), (0 : Int), isort ltO (ownL (csU U)), [((a0U U).1, (a0U U).2)], [((U.map (·.1)).drop 0).take U.length], ()) = S33.mk U (isort ltO (ownL (csU U))) 0 (st0 U) := by
  unfold S33.mk
  rw [hlen, List.drop_zero, List.take_of_length_le (by simp)]
  simp [st0]
 simp only [e0]
 rw [bind_of q]
 have hc := hb.c.1
 have hl := hb.l2
 have hk := hb.c.2
 generalize hs : (srtS U).foldl sst (st0 U) = s at hb hc hl hk
 have hpos : 0 < s.2.2.1.length := List.length_pos_iff.2 hc
 have r1 : rng .i64 (((s.2.2.1.length : Nat) : Int) - 1) = true := rng_i64 (by omega) (by omega)
 have d1 : decide ((0 : Int) ≤ ((s.2.2.1.length : Nat) : Int) - 1) = true := decide_eq_true (by omega)
 have d2 : decide (((s.2.2.1.length : Nat) : Int) - 1 ≤ ((s.2.2.1.length : Nat) : Int)) = true := decide_eq_true (by omega)
 have t1 : Int.toNat (((s.2.2.1.length : Nat) : Int) - 1) = s.2.2.1.length - 1 := by omega
 have t2 : s.2.2.1.take (s.2.2.1.length - 1) = s.2.2.1.dropLast := List.dropLast_eq_take.symm
 have t3 : s.2.2.2.1.take (s.2.2.1.length - 1) = s.2.2.2.1.dropLast := by rw [← hl]; exact List.dropLast_eq_take.symm
 have hall : (ownL (csU U)).length = (allS U 0).length := by rw [← ownL_prj h.sd, List.length_map]
 simp only [hl, r1, d1, d2, t1, need_true, br_d, List.drop_zero, Nat.zero_add, Int.toNat_zero, Nat.sub_zero, t2, t3, Int.le_refl, decide_true]
 unfold addU
 by_cases he : allS U 0 = []
 ·have e1 : srtS U = [] := List.Perm.eq_nil (he ▸ srtS_perm U)
  rw [e1] at hs
  simp only [List.foldl_nil] at hs
  subst hs
  rw [if_neg (by rw [hlen, hall, he]; simp), if_pos he, List.take_length]
  rw [← hl, List.take_length]
 ·have e2 : 0 < (allS U 0).length := List.length_pos_iff.2 he
  rw [if_pos (by rw [hlen]; omega), if_neg he, hs]
end Go.Proofs.Try
end
section
namespace Go.Proofs.Try
open Go.AM Go.Geo
set_option maxRecDepth 100000
theorem OkS.take {U : List Pol} (h : OkS U) : ∀ x ∈ U, Sd x.2 ∧ (∀ p ∈ cs x.1 x.2, Bd 1000 p) ∧ (cs x.1 x.2).length ≤ 1000 := fun x hx => by
 have hm : cs x.1 x.2 ∈ csU U := List.mem_map.2 ⟨x, hx, rfl⟩
 exact ⟨h.sd x hx, h.bd _ hm, h.sz _ hm⟩
theorem k59 {a K : Int} (h0 : 0 ≤ K) (h1 : K ≤ 1000000000) : run0 (F59 a K) = some (decide (-K ≤ a ∧ a ≤ K), ()) := by
 simp only [F59, run_ni, run_br, run_ret, br_d]
 rw [need_i64 (by omega) (by omega)]
 by_cases h : 0 - K ≤ a
 ·rw [if_pos h]
  have : (-K ≤ a ∧ a ≤ K) ↔ a ≤ K := by omega
  simp only [this]
 ·rw [if_neg h]
  have : ¬ (-K ≤ a ∧ a ≤ K) := by omega
  simp [this]
theorem k16 {U : List Pol} (h : OkS U) (h2 : OkU (csU U)) : run0 (F16 (csU U)) = some ((addU U).1, 0, ()) := by
 simp only [F16, run_bd, run_br, run_ret]
 rw [bind_of (k29 h2), beq_self_eq_true, Bool.not_true, br_false, bind_of (k33 h)]
end Go.Proofs.Try
end
section
namespace Go.Proofs.Try
open Go.AM Go.Geo
set_option maxRecDepth 100000
theorem ownL_len (m : Nat) : ∀ n (ls : List (List Pt)), ls.length = n → (∀ l ∈ ls, l.length ≤ m) → (ownL ls).length ≤ m * n := by
 intro n
 induction n with
 | zero => intro ls hl _; rw [List.length_eq_zero_iff.1 hl]; simp [ownL]
 | succ n ih =>
  intro ls hl hm
  have hne : ls ≠ [] := fun e => by rw [e] at hl; simp at hl
  have e := List.dropLast_concat_getLast hne
  have i1 := ih ls.dropLast (by simp; omega) fun l h => hm l (List.dropLast_subset _ h)
  have i2 := hm _ (List.getLast_mem hne)
  have i3 : (sidesL (ls.getLast hne)).length ≤ (ls.getLast hne).length := by unfold sidesL; split <;> simp
  rw [← e, ownL_snoc, List.length_append, List.length_map, Nat.mul_succ]
  omega
theorem uns_len {x : List (List Pt)} (hb : ∀ a ∈ x, ∀ p ∈ a, Bd 128 p) : ∀ l ∈ uns x, l.length ≤ 4 := by
 intro l hl
 obtain ⟨a, ha, rfl⟩ := List.mem_map.1 hl
 obtain ⟨c1, c2, -⟩ := cl_facts (hb a (List.mem_of_mem_take ha))
 exact Nat.le_trans (hull_len c1).1 c2
theorem csU_len {U : List Pol} : (csU U).length = U.length := by simp [csU]
/-- The units of a statement. -/
structure Us (x : List (List Pt)) (U : List Pol) : Prop where
 eq : uns x = csU U
 s : OkS U
 u : OkU (csU U)
 l3 : U.length ≤ 3
 l4 : ∀ l ∈ csU U, l.length ≤ 4
 bd : ∀ l ∈ csU U, ∀ p ∈ l, Bd 16 p
theorem us_of {x : List (List Pt)} (h : WfX x) : ∃ U, Us x U := by
 obtain ⟨h1, h2, h3, U, hU, hs⟩ := uns_ok h.bd
 have h4 := uns_len h.bd
 rw [← hU] at h1 h2 h3 h4
 have hl : U.length ≤ 3 := by rw [← csU_len]; exact h2
 refine ⟨U, hU.symm, ⟨by omega, hs, h1.bd, fun l hl => ?_, ?_⟩, h1, hl, h4, h3⟩
 ·have := h4 l hl; omega
 ·have := ownL_len 4 _ (csU U) rfl h4
  omega
theorem Us.sums {x : List (List Pt)} {U : List Pol} (h : Us x U) : run0 (F11 (csU U)) = some (Go.Geo.sums (csU U), ()) ∧ (Go.Geo.sums (csU U)).length ≤ 64 ∧ ∀ p ∈ Go.Geo.sums (csU U), Bd 3000 p :=
 k11 (by rw [csU_len]; exact h.l3) h.l4 h.s.bd
/-- The sum's corners. -/
abbrev sC (U : List Pol) : List Pt := cs (a0U U) (dsU U)
theorem addU_len {U : List Pol} (h : OkS U) : (addU U).1.length ≤ 20 := by
 have ht := h.tot
 have hlen : (isort ltO (ownL (csU U))).length = (ownL (csU U)).length := isort_length _
 have hb := (it33_2 h.len (by omega) h.good h.sb0).2
 have efs : fs U (isort ltO (ownL (csU U))) = (srtS U).foldl sst (st0 U) := by unfold fs; rw [srt_own h.sd]
 rw [efs] at hb
 have := hb.c.2
 unfold addU
 split
 ·simp [st0]
 ·simp only [List.length_dropLast]; omega
theorem Us.sum {x : List (List Pt)} {U : List Pol} (h : Us x U) : run0 (F16 (csU U)) = some (sC U, 0, ()) ∧ IsSum U (a0U U) (dsU U) ∧ (∀ p ∈ sC U, Bd 3000 p) ∧ (sC U).length ≤ 20 := by
 obtain ⟨a1, -, a3⟩ := addU_ok h.s.sd
 refine ⟨by rw [k16 h.s h.u, a1], a3, fun p hp => h.sums.2.2 p (isSum_sub a3 p hp), by have := addU_len h.s; rw [a1] at this; exact this⟩
theorem i8_min : IntKind.i8.min = -128 := by decide
theorem i8_max : IntKind.i8.max = 127 := by decide
abbrev tP : Ty := .prod (.int .i8) (.int .i8)
abbrev tX : Ty := .list (.list tP)
theorem pt_of {p : Pt} (h : Wf tP p) : Bd 128 p := by
 obtain ⟨h1, h2⟩ := h
 simp only [Wf, i8_min, i8_max] at h1 h2
 have a1 : p.1 ≤ (127 : Int) := h1.2
 have a2 : p.2 ≤ (127 : Int) := h2.2
 exact ⟨by omega, by omega, by omega, by omega⟩
theorem wfX_of {x : List (List Pt)} (h : Wf tX x) : WfX x := by
 have e : maxLen = 9223372036854775807 := by decide
 obtain ⟨h1, h2⟩ := h
 exact ⟨by rw [← e]; exact h1, fun a ha => by rw [← e]; exact (h2 a ha).1, fun a ha p hp => pt_of ((h2 a ha).2 p hp)⟩
end Go.Proofs.Try
end
section
namespace Go.Proofs.Try
open Go.AM
set_option maxRecDepth 100000
theorem works_ok : run0 F18 = some (true, ()) := cmp_done 200 (by kernel_rfl)
end Go.Proofs.Try
end
section
namespace Go.Proofs.Try
open Go.AM Go.Geo
set_option maxRecDepth 100000
theorem k49b {a b : Pt} (ha : Bd 100000000000000000 a) (hb : Bd 100000000000000000 b) : run0 (F49 a b) = some (sub a b, ()) := by
 obtain ⟨h1, h2, h3, h4⟩ := ha
 obtain ⟨g1, g2, g3, g4⟩ := hb
 simp only [F49, run_ni, run_ret]
 rw [need_i64 (by omega) (by omega), need_i64 (by omega) (by omega)]
 rfl
theorem k48b {a b : Pt} (ha : Bd 10000 a) (hb : Bd 100000000000000 b) : run0 (F48 a b) = some (cr a b, ()) := by
 obtain ⟨h1, h2, h3, h4⟩ := ha
 obtain ⟨g1, g2, g3, g4⟩ := hb
 have m1 := mulb h1 h2 g3 g4
 have m2 := mulb h3 h4 g1 g2
 simp only [F48, run_ni, run_ret]
 rw [need_i64 (by omega) (by omega), need_i64 (by omega) (by omega), need_i64 (by omega) (by omega)]
 rfl
theorem bd_tms {n K : Int} {p : Pt} (h0 : 0 ≤ n) (h1 : n ≤ K) (hp : Bd 100000 p) : Bd (K * 100000) (tms n p) := by
 obtain ⟨p1, p2, p3, p4⟩ := hp
 have a := mulb (K := K) (a := n) (by omega) h1 p1 p2
 have b := mulb (K := K) (a := n) (by omega) h1 p3 p4
 exact ⟨a.1, a.2, b.1, b.2⟩
theorem bd_tms2 {n K M : Int} {p : Pt} (h0 : 0 ≤ n) (h1 : n ≤ K) (hp : Bd M p) : Bd (K * M) (tms n p) := by
 obtain ⟨p1, p2, p3, p4⟩ := hp
 have a := mulb (K := K) (a := n) (by omega) h1 p1 p2
 have b := mulb (K := K) (a := n) (by omega) h1 p3 p4
 exact ⟨a.1, a.2, b.1, b.2⟩
theorem k36 {n : Int} {p : Pt} (h0 : 0 ≤ n) (h1 : n ≤ 1000000000) (hp : Bd 100000 p) : run0 (F36 p n) = some (tms n p, ()) := by
 obtain ⟨b1, b2, b3, b4⟩ := bd_tms h0 h1 hp
 simp only [tms] at b1 b2 b3 b4
 simp only [F36, run_ni, run_ret]
 rw [need_i64 (by omega) (by omega), need_i64 (by omega) (by omega)]
 rfl
def mnL (f : Pt → Int) (b : Int) (l : List Pt) : Int := l.foldl (fun s q => imin s (f q)) b
def mxL (f : Pt → Int) (b : Int) (l : List Pt) : Int := l.foldl (fun s q => imax s (f q)) b
theorem mnL_ok {f : Pt → Int} : ∀ {l : List Pt} {b : Int}, mnL f b l ≤ b ∧ (∀ v ∈ l, mnL f b l ≤ f v) ∧ (mnL f b l = b ∨ ∃ v ∈ l, mnL f b l = f v)
 | [], b => ⟨Int.le_refl _, by simp, .inl rfl⟩
 | x :: l, b => by
  have e : mnL f b (x :: l) = mnL f (imin b (f x)) l := rfl
  have hm : imin b (f x) ≤ b ∧ imin b (f x) ≤ f x ∧ (imin b (f x) = b ∨ imin b (f x) = f x) := by unfold imin; split <;> omega
  obtain ⟨h1, h2, h3⟩ := mnL_ok (f := f) (l := l) (b := imin b (f x))
  rw [e]
  refine ⟨by omega, fun v hv => ?_, ?_⟩
  ·rcases List.mem_cons.1 hv with rfl | hv
   ·omega
   ·exact h2 v hv
  ·rcases h3 with h | ⟨v, hv, h⟩
   ·rcases hm.2.2 with h' | h'
    ·left; omega
    ·right; exact ⟨x, by simp, by omega⟩
   ·exact .inr ⟨v, by simp [hv], h⟩
theorem mxL_ok {f : Pt → Int} : ∀ {l : List Pt} {b : Int}, b ≤ mxL f b l ∧ (∀ v ∈ l, f v ≤ mxL f b l) ∧ (mxL f b l = b ∨ ∃ v ∈ l, mxL f b l = f v)
 | [], b => ⟨Int.le_refl _, by simp, .inl rfl⟩
 | x :: l, b => by
  have e : mxL f b (x :: l) = mxL f (imax b (f x)) l := rfl
  have hm : b ≤ imax b (f x) ∧ f x ≤ imax b (f x) ∧ (imax b (f x) = b ∨ imax b (f x) = f x) := by unfold imax; split <;> omega
  obtain ⟨h1, h2, h3⟩ := mxL_ok (f := f) (l := l) (b := imax b (f x))
  rw [e]
  refine ⟨by omega, fun v hv => ?_, ?_⟩
  ·rcases List.mem_cons.1 hv with rfl | hv
   ·omega
   ·exact h2 v hv
  ·rcases h3 with h | ⟨v, hv, h⟩
   ·rcases hm.2.2 with h' | h'
    ·left; omega
    ·right; exact ⟨x, by simp, by omega⟩
   ·exact .inr ⟨v, by simp [hv], h⟩
theorem mnL_le {f : Pt → Int} {l : List Pt} {d : Pt} (hd : d ∈ l) {n x : Int} (hn : 0 ≤ n) : n * mnL f (f d) l ≤ x ↔ ∃ v ∈ l, n * f v ≤ x := by
 obtain ⟨h1, h2, h3⟩ := mnL_ok (f := f) (l := l) (b := f d)
 constructor
 ·intro h
  rcases h3 with e | ⟨v, hv, e⟩
  ·exact ⟨d, hd, by rw [← e]; exact h⟩
  ·exact ⟨v, hv, by rw [← e]; exact h⟩
 ·rintro ⟨v, hv, h⟩
  have := Int.mul_le_mul_of_nonneg_left (h2 v hv) hn
  omega
theorem mxL_le {f : Pt → Int} {l : List Pt} {d : Pt} (hd : d ∈ l) {n x : Int} (hn : 0 ≤ n) : x ≤ n * mxL f (f d) l ↔ ∃ v ∈ l, x ≤ n * f v := by
 obtain ⟨h1, h2, h3⟩ := mxL_ok (f := f) (l := l) (b := f d)
 constructor
 ·intro h
  rcases h3 with e | ⟨v, hv, e⟩
  ·exact ⟨d, hd, by rw [← e]; exact h⟩
  ·exact ⟨v, hv, by rw [← e]; exact h⟩
 ·rintro ⟨v, hv, h⟩
  have := Int.mul_le_mul_of_nonneg_left (h2 v hv) hn
  omega
theorem mnL_snoc {f : Pt → Int} {b : Int} {l : List Pt} {x : Pt} : mnL f b (l ++ [x]) = imin (mnL f b l) (f x) := by unfold mnL; rw [List.foldl_append]; rfl
theorem mxL_snoc {f : Pt → Int} {b : Int} {l : List Pt} {x : Pt} : mxL f b (l ++ [x]) = imax (mxL f b l) (f x) := by unfold mxL; rw [List.foldl_append]; rfl
theorem cs_side {a : Pt} {ds : List Pt} (h : Sd ds) (hne : ds ≠ []) {i : Nat} (hi : i < ds.length) : (cs a ds).getD i (0, 0) = vtx a ds i ∧ sub ((cs a ds).getD ((i + 1) % ds.length) (0, 0)) (vtx a ds i) = ds[i] := by
 have h1 := cs_get (a := a) hne hi
 refine ⟨h1, ?_⟩
 have q := congrArg (fun l => l[i]?) (sidesL_cs (a := a) h)
 simp only [sd_get hi] at q
 unfold sidesL at q
 rw [cs_len hne, if_pos (show 1 < ds.length from two_le h hne), List.getElem?_map, List.getElem?_range hi] at q
 simp only [Option.map_some, Option.some.injEq, Prod.mk.injEq] at q
 rw [← h1]; exact q.2
theorem k32 {a p : Pt} {ds : List Pt} {n : Int} (hs : Sd ds) (hl : ds.length ≤ 1000) (h0 : 0 ≤ n) (h1 : n ≤ 1000000000) (hb : ∀ v ∈ cs a ds, Bd 3000 v) (hp : Bd 10000000000000 p) [Decidable (Has a ds n p)] :
  run0 (F32 (cs a ds) p n) = some (decide (Has a ds n p), ()) := by
 have hfst : a ∈ cs a ds := cs_first
 obtain ⟨hd1, hd2⟩ := cs_hd (a := a) (ds := ds)
 have j0 : ∀ m : Nat, 0 < m → inb (0 : Int) ((m : Nat) : Int) = true := fun m hm => inb_t (by omega) (by omega)
 by_cases hne : ds = []
 ·subst hne
  have e : cs a [] = [a] := by simp [cs]
  rw [e] at hb ⊢
  have hh : Has a [] n p ↔ p = tms n a := by
   constructor
   ·intro h; exact h.1 rfl
   ·intro h
    refine ⟨fun _ => h, by simp [sd], ?_, ?_, ?_, ?_⟩ <;> (rw [e]; exact ⟨a, by simp, by rw [h]; simp [tms]⟩)
  have ha := hb a (by simp)
  simp only [F32, run_br, run_nb, run_bd, run_ret, List.length_singleton]
  rw [br_t (show (((1 : Nat) : Int) == 1) = true from rfl), need_t (j0 1 (by omega))]
  have g : ([a] : List Pt).getD (Int.toNat 0) (0, 0) = a := rfl
  simp only [g, pr_eta]
  rw [bind_of (k36 h0 h1 (ha.le (by omega)))]
  congr 2
  rw [Bool.and_true, show decide (Has a [] n p) = decide (p = tms n a) from decide_eq_decide.2 hh]
  by_cases h : p = tms n a
  ·simp [h]
  ·rw [decide_eq_false h, ← Bool.not_eq_true, Bool.and_eq_true, beq_iff_eq, beq_iff_eq]
   exact fun ⟨x, y⟩ => h (Prod.ext x.symm y.symm)
 ·have h2 := two_le hs hne
  have hcl := cs_len (a := a) hne
  have hgd : ∀ i, Bd 3000 ((cs a ds).getD i (0, 0)) := fun i => by
   by_cases hh : i < (cs a ds).length
   ·exact hb _ (getD_mem hh)
   ·rw [getD_out _ (by omega)]; exact bd0 (by omega)
  have q := iter_find (step := fun s => run0 (g32_0i_0 s)) (γ := Nat) (b := .inr (p.1, p.2, n, mnL (·.1) a.1 (cs a ds), mnL (·.2) a.2 (cs a ds), mxL (·.1) a.1 (cs a ds), mxL (·.2) a.2 (cs a ds), cs a ds, ()))
   ds.length (fun k => (cs a ds, cs a ds, (((cs a ds).length : Nat) : Int), (k : Int), cs a ds, p.1, p.2, n, mnL (·.1) a.1 ((cs a ds).take k), mnL (·.2) a.2 ((cs a ds).take k), mxL (·.1) a.1 ((cs a ds).take k), mxL (·.2) a.2 ((cs a ds).take k), ()))
   (fun k => if cr (ds.getD k (0, 0)) (sub p (tms n (vtx a ds k))) < 0 then some k else none)
   (fun k => .inl (p.1, p.2, n, mnL (·.1) a.1 ((cs a ds).take k), mnL (·.2) a.2 ((cs a ds).take k), mxL (·.1) a.1 ((cs a ds).take k), mxL (·.2) a.2 ((cs a ds).take k), cs a ds, ()))
   (fun k hk _ => by
    obtain ⟨s1, s2⟩ := cs_side (a := a) hs hne hk
    have j1 : inb (k : Int) (((cs a ds).length : Nat) : Int) = true := inb_t (by omega) (by omega)
    have r3 : rng .i64 ((k : Int) + 1) = true := rng_i64 (by omega) (by omega)
    have tm : Int.tmod ((k : Int) + 1) (((cs a ds).length : Nat) : Int) = (((k + 1) % (cs a ds).length : Nat) : Int) := by
     have e : ((k : Int) + 1) = ((k + 1 : Nat) : Int) := by omega
     rw [e]; exact Int.ofNat_tmod _ _
    have hlt : (k + 1) % (cs a ds).length < (cs a ds).length := Nat.mod_lt _ (by omega)
    have j2 : inb (((k + 1) % (cs a ds).length : Nat) : Int) (((cs a ds).length : Nat) : Int) = true := inb_t (Int.natCast_nonneg _) (Int.ofNat_lt.2 hlt)
    have z0 : (!((((cs a ds).length : Nat) : Int) == 0)) = true := by rw [Bool.not_eq_true', beq_eq_false_iff_ne]; omega
    have b1 := hgd k
    have b2 := hgd ((k + 1) % (cs a ds).length)
    have eN : ds.getD k (0, 0) = ds[k] := getD_el _ hk
    have tk : (cs a ds).take (k + 1) = (cs a ds).take k ++ [(cs a ds).getD k (0, 0)] := take_succ_getD _ (by omega)
    have s3 : sub ((cs a ds).getD ((k + 1) % (cs a ds).length) (0, 0)) ((cs a ds).getD k (0, 0)) = ds[k] := by rw [hcl, s1]; exact s2
    have bt := bd_tms2 h0 h1 b1
    simp only [g32_0i_0, run_br, run_nb, run_ni, run_nd, run_bd, run_ret, j1, r3, need_true, br_d, tm, Int.toNat_natCast, z0, j2, pr_eta]
    rw [if_pos (by omega), if_pos (by omega), bind_of (k49 (b2.le (by omega)) (b1.le (by omega))), s3]
    have b3 : Bd 6000 ds[k] := by rw [← s3]; exact (bd_sub b2 b1).le (by omega)
    rw [bind_of (k36 h0 h1 (b1.le (by omega)))]
    simp only [pr_eta]
    rw [bind_of (k49b (hp.le (by omega)) (bt.le (by omega)))]
    simp only [pr_eta]
    rw [bind_of (k48b (b3.le (by omega)) ((bd_sub hp bt).le (by omega)))]
    rw [eN, ← s1]
    by_cases hc : cr ds[k] (sub p (tms n ((cs a ds).getD k (0, 0)))) < 0
    ·rw [if_pos hc, if_pos hc]
    ·rw [if_neg hc, if_neg hc, tk, mnL_snoc, mnL_snoc, mxL_snoc, mxL_snoc]
     rfl) (fun _ => by
    simp only [g32_0i_0, run_br, run_ret, br_d]
    rw [if_neg (by omega), ← hcl, List.take_length])
  simp only [F32, g32_0, F37, run_br, run_nb, run_bd, run_it, run_ret, bindO_s]
  rw [br_f (by rw [beq_eq_false_iff_ne]; omega), need_t (j0 _ hd2), need_t (j0 _ hd2)]
  have hd1' : (cs a ds).getD (Int.toNat 0) (0, 0) = a := hd1
  simp only [hd1']
  have q' : iter (fun s => run0 (g32_0i_0 s)) (cs a ds, cs a ds, (((cs a ds).length : Nat) : Int), 0, cs a ds, p.1, p.2, n, a.1, a.2, a.1, a.2, ()) = _ := q
  by_cases hall : ∃ k, k < ds.length ∧ cr (ds.getD k (0, 0)) (sub p (tms n (vtx a ds k))) < 0
  ·have hnot : ¬ Has a ds n p := fun hh => by
    obtain ⟨k, hk, hc⟩ := hall
    have := hh.2.1 _ _ (sd_at (a := a) hk)
    rw [getD_el _ hk] at hc
    omega
   cases hf : (List.range ds.length).findSome? (fun k => if cr (ds.getD k (0, 0)) (sub p (tms n (vtx a ds k))) < 0 then some k else none) with
   | none =>
    obtain ⟨k, hk, hc⟩ := hall
    have := List.findSome?_eq_none_iff.1 hf k (List.mem_range.2 hk)
    rw [if_pos hc] at this; cases this
   | some k =>
    rw [hf] at q'
    rw [bind_of q']
    simp only [Option.elim_some, bindO_s, run_sl, run_ret]
    rw [decide_eq_false hnot]
  ·have hf : (List.range ds.length).findSome? (fun k => if cr (ds.getD k (0, 0)) (sub p (tms n (vtx a ds k))) < 0 then some k else none) = none := by
    rw [List.findSome?_eq_none_iff]
    intro k hk
    rw [if_neg fun hc => hall ⟨k, List.mem_range.1 hk, hc⟩]
   rw [hf] at q'
   rw [bind_of q']
   simp only [Option.elim_none, run_sr, run_bd, run_br, run_ret, bindO_s]
   have bmn : Bd 3000 (mnL (·.1) a.1 (cs a ds), mnL (·.2) a.2 (cs a ds)) := by
    have ha := hb a hfst
    obtain ⟨-, -, e1⟩ := mnL_ok (f := (·.1)) (l := cs a ds) (b := a.1)
    obtain ⟨-, -, e2⟩ := mnL_ok (f := (·.2)) (l := cs a ds) (b := a.2)
    have c1 : -3000 ≤ mnL (·.1) a.1 (cs a ds) ∧ mnL (·.1) a.1 (cs a ds) ≤ 3000 := by
     rcases e1 with e | ⟨v, hv, e⟩
     ·rw [e]; exact ⟨ha.1, ha.2.1⟩
     ·rw [e]; have := hb v hv; exact ⟨this.1, this.2.1⟩
    have c2 : -3000 ≤ mnL (·.2) a.2 (cs a ds) ∧ mnL (·.2) a.2 (cs a ds) ≤ 3000 := by
     rcases e2 with e | ⟨v, hv, e⟩
     ·rw [e]; exact ⟨ha.2.2.1, ha.2.2.2⟩
     ·rw [e]; have := hb v hv; exact ⟨this.2.2.1, this.2.2.2⟩
    exact ⟨c1.1, c1.2, c2.1, c2.2⟩
   have bmx : Bd 3000 (mxL (·.1) a.1 (cs a ds), mxL (·.2) a.2 (cs a ds)) := by
    have ha := hb a hfst
    obtain ⟨-, -, e1⟩ := mxL_ok (f := (·.1)) (l := cs a ds) (b := a.1)
    obtain ⟨-, -, e2⟩ := mxL_ok (f := (·.2)) (l := cs a ds) (b := a.2)
    have c1 : -3000 ≤ mxL (·.1) a.1 (cs a ds) ∧ mxL (·.1) a.1 (cs a ds) ≤ 3000 := by
     rcases e1 with e | ⟨v, hv, e⟩
     ·rw [e]; exact ⟨ha.1, ha.2.1⟩
     ·rw [e]; have := hb v hv; exact ⟨this.1, this.2.1⟩
    have c2 : -3000 ≤ mxL (·.2) a.2 (cs a ds) ∧ mxL (·.2) a.2 (cs a ds) ≤ 3000 := by
     rcases e2 with e | ⟨v, hv, e⟩
     ·rw [e]; exact ⟨ha.2.2.1, ha.2.2.2⟩
     ·rw [e]; have := hb v hv; exact ⟨this.2.2.1, this.2.2.2⟩
    exact ⟨c1.1, c1.2, c2.1, c2.2⟩
   rw [bind_of (k36 h0 h1 (bmn.le (by omega))), bind_of (k36 h0 h1 (bmx.le (by omega)))]
   simp only [tms, br_d]
   have hh : Has a ds n p ↔ n * mnL (·.1) a.1 (cs a ds) ≤ p.1 ∧ p.1 ≤ n * mxL (·.1) a.1 (cs a ds) ∧ n * mnL (·.2) a.2 (cs a ds) ≤ p.2 ∧ p.2 ≤ n * mxL (·.2) a.2 (cs a ds) := by
    rw [mnL_le hfst h0, mxL_le hfst h0, mnL_le hfst h0, mxL_le hfst h0]
    constructor
    ·intro h; exact h.2.2
    ·intro h
     refine ⟨fun e => (hne e).elim, fun v d hvd => ?_, h⟩
     obtain ⟨i, hi, e⟩ := List.getElem_of_mem hvd
     rw [sd_len] at hi
     have e' : (sd a ds)[i]? = some (v, d) := by rw [List.getElem?_eq_getElem (by rw [sd_len]; exact hi), e]
     rw [sd_get hi] at e'
     simp only [Option.some.injEq, Prod.mk.injEq] at e'
     rcases Int.lt_or_le (cr d (sub p (tms n v))) 0 with hc | hc
     ·exact (hall ⟨i, hi, by rw [getD_el _ hi, e'.1, e'.2]; exact hc⟩).elim
     ·exact hc
   rw [show decide (Has a ds n p) = decide _ from decide_eq_decide.2 hh]
   by_cases t1 : n * mnL (·.1) a.1 (cs a ds) ≤ p.1 <;> by_cases t2 : p.1 ≤ n * mxL (·.1) a.1 (cs a ds) <;> by_cases t3 : n * mnL (·.2) a.2 (cs a ds) ≤ p.2 <;> simp [t1, t2, t3] <;> exact decide_eq_decide.2 Iff.rfl
theorem k31 {ls : List (List Pt)} (h : OkU ls) {p : Pt} (hp : Bd 100000 p) : run0 (F31 ls p) = some (0, ()) := by
 obtain ⟨u1, u2, u3, u4⟩ := hp
 simp only [F31, F41, run_bd, run_br, run_ret]
 rw [bind_of (k29 h), beq_self_eq_true, br_true, bind_of (k59 (by omega) (by omega)), decide_eq_true (by omega), br_true, bind_of (k59 (by omega) (by omega)), decide_eq_true (by omega)]
 simp only [bindO_s, Bool.not_true, br_false]
theorem Us.dsl {x : List (List Pt)} {U : List Pol} (h : Us x U) : (dsU U).length ≤ 20 := by
 by_cases hne : dsU U = []
 ·rw [hne]; simp
 ·rw [← cs_len (a := a0U U) hne]; exact h.sum.2.2.2
noncomputable instance (a : Pt) (ds : List Pt) (n : Int) (p : Pt) : Decidable (Has a ds n p) := Classical.propDecidable _
/-- Can: F13. -/
theorem k13 {x : List (List Pt)} {U : List Pol} (h : Us x U) {p : Pt} (hp : Bd 100000 p) : run0 (F13 (csU U) p) = some (decide (Has (a0U U) (dsU U) 1 p), 0, ()) := by
 obtain ⟨a1, -, a3⟩ := addU_ok h.s.sd
 have hl := h.dsl
 simp only [F13, run_bd, run_br, run_ret, pr_eta]
 rw [bind_of (k31 h.u hp), beq_self_eq_true, Bool.not_true, br_false, bind_of (k33 h.s)]
 simp only [a1]
 rw [bind_of (k32 a3.sd (by omega) (by omega) (by omega) h.sum.2.2.1 (hp.le (by omega)))]
/-- What can be is among the sums. -/
theorem Us.can {x : List (List Pt)} {U : List Pol} (h : Us x U) {p : Pt} : Has (a0U U) (dsU U) 1 p ↔ amB (Go.Geo.sums (csU U)) p = true := by
 rw [amB_iff]; exact (isSum_among h.s.sd h.sum.2.1 p).symm
end Go.Proofs.Try
end
section
namespace Go.Proofs.Try
open Go.AM Go.Geo
set_option maxRecDepth 100000
/-- A mix of three corners. -/
structure Mix (C : List Pt) (p : Pt) (i0 i1 i2 : Nat) (w0 w1 w2 : Int) : Prop where
 n0 : i0 < C.length
 n1 : i1 < C.length
 n2 : i2 < C.length
 p0 : 0 ≤ w0
 p1 : 0 ≤ w1
 p2 : 0 ≤ w2
 one : 1 ≤ w0 + w1 + w2
 le : w0 + w1 + w2 ≤ 1000000000
 eq : add (add (tms w0 (C.getD i0 (0, 0))) (tms w1 (C.getD i1 (0, 0)))) (tms w2 (C.getD i2 (0, 0))) = tms (w0 + w1 + w2) p
end Go.Proofs.Try
end
section
namespace Go.Proofs.Try
open Go.AM Go.Geo
set_option maxRecDepth 100000
def mk (n : Nat) (f : Nat → Pt) : List Pt := (List.range n).map f
theorem mk_len {n : Nat} {f : Nat → Pt} : (mk n f).length = n := by simp [mk]
theorem mk_self {l : List Pt} : mk l.length (fun i => l.getD i (0, 0)) = l := by
 apply List.ext_getElem?
 intro j
 unfold mk
 by_cases h : j < l.length
 ·simp [h]
 ·simp [h]
theorem mk_succ {n : Nat} {f : Nat → Pt} : mk (n + 1) f = mk n f ++ [f n] := by unfold mk; rw [List.range_succ, List.map_append]; rfl
/-- One more corner, so many times. -/
def acc (f : Nat → Pt) (w : Int) (now : List Pt) : Nat → Pt := fun i => add (f i) (tms w (now.getD i (0, 0)))
end Go.Proofs.Try
end
section
namespace Go.Geo
open Go.AM
theorem sorted_eq : ∀ {l k : List Pt}, (∀ d ∈ l, d ≠ (0, 0)) → (∀ d ∈ k, d ≠ (0, 0)) → l.Pairwise al → k.Pairwise al → (∀ d, d ∈ l ↔ d ∈ k) → l = k
 | [], [], _, _, _, _, _ => rfl
 | [], b :: k, _, _, _, _, h => by have := (h b).2 (by simp); cases this
 | a :: l, [], _, _, _, _, h => by have := (h a).1 (by simp); cases this
 | a :: l, b :: k, zl, zk, pl, pk, h => by
  rw [List.pairwise_cons] at pl pk
  have e : a = b := by
   rcases List.mem_cons.1 ((h a).1 (by simp)) with e | ha
   ·exact e
   ·rcases List.mem_cons.1 ((h b).2 (by simp)) with e | hb
    ·exact e.symm
    ·exact (al_asym (zk b (by simp)) (zl a (by simp)) (pk.1 a ha) (pl.1 b hb)).elim
  subst e
  rw [sorted_eq (fun d hd => zl d (by simp [hd])) (fun d hd => zk d (by simp [hd])) pl.2 pk.2 fun d => ⟨fun hd => ?_, fun hd => ?_⟩]
  ·rcases List.mem_cons.1 ((h d).1 (by simp [hd])) with rfl | h'
   ·exact (al_irr (pl.1 _ hd)).elim
   ·exact h'
  ·rcases List.mem_cons.1 ((h d).2 (by simp [hd])) with rfl | h'
   ·exact (al_irr (pk.1 _ hd)).elim
   ·exact h'
/-- What the sides put together are. -/
structure G2 (l R : List Pt) : Prop where
 sum : ∀ e ∈ R, e = sm (l.filter (fun x => decide (sam e x)))
 all : ∀ x ∈ l, ∃ e ∈ R, sam e x
theorem filt_none {l : List Pt} {d : Pt} {e : Pt} (h : ¬ sam e d) : (l ++ [d]).filter (fun x => decide (sam e x)) = l.filter (fun x => decide (sam e x)) := by
 rw [List.filter_append, List.filter_cons_of_neg (by simpa using h)]; simp
theorem g2_step {l R : List Pt} {last d : Pt} (h : GI l R last) (g : G2 l R) (nz : ∀ x ∈ l, x ≠ (0, 0)) (zd : d ≠ (0, 0)) (hs : ∀ x ∈ l, ¬ al d x) : G2 (l ++ [d]) (gstep (R, last) d).1 := by
 unfold gstep
 simp only
 by_cases hl : l = []
 ·subst hl
  obtain ⟨rfl, rfl⟩ := h.emp rfl
  rw [if_neg (fun h => h.1 rfl)]
  refine ⟨fun e he => ?_, fun x hx => ⟨d, by simp, ?_⟩⟩
  ·rw [List.mem_singleton] at he; subst he
   simp [sam_self, sm, add_zero]
  ·simp at hx; subst hx; exact sam_self _
 ·obtain ⟨hm, e, t, rfl, hel⟩ := h.hd hl
  have zl := nz _ hm
  have ze := h.nz e (by simp)
  have hp := List.pairwise_cons.1 h.srt
  by_cases hsd : sam last d
  ·rw [if_pos ⟨zl, hsd⟩]
   have hed := sam_trans ze zl zd hel hsd
   obtain ⟨s1, s2⟩ := sam_add ze zd hed
   refine ⟨fun f hf => ?_, fun x hx => ?_⟩
   ·rcases List.mem_cons.1 hf with rfl | hf
    ·have ec : l.filter (fun x => decide (sam (add e d) x)) = l.filter (fun x => decide (sam e x)) := by
      refine List.filter_congr fun x hx => decide_eq_decide.2 ⟨fun q => ?_, fun q => ?_⟩
      ·exact sam_trans ze s2 (nz x hx) (sam_symm s1) q
      ·exact sam_trans s2 ze (nz x hx) s1 q
     have hd' : sam (add e d) d := sam_trans s2 ze zd s1 hed
     rw [List.filter_append, ec, List.filter_cons_of_pos (by simpa using hd'), List.filter_nil, sm_append, ← g.sum e (by simp)]
     simp [sm, add_zero]
    ·have hfe : al f e := hp.1 f hf
     have zf := h.nz f (by simp [hf])
     rw [filt_none (fun q => not_al_sam (sam_trans zf zd ze q (sam_symm hed)) hfe)]
     exact g.sum f (by simp [hf])
   ·rcases List.mem_append.1 hx with hx | hx
    ·obtain ⟨f, hf, q⟩ := g.all x hx
     rcases List.mem_cons.1 hf with rfl | hf
     ·exact ⟨add f d, by simp, sam_trans s2 ze (nz x hx) s1 q⟩
     ·exact ⟨f, by simp [hf], q⟩
    ·rw [List.mem_singleton] at hx; subst hx
     exact ⟨add e x, by simp, sam_trans s2 ze zd s1 hed⟩
  ·rw [if_neg (fun h => hsd h.2)]
   have hald : al last d := by
    rcases tri last d with h1 | h1 | h1
    ·exact h1
    ·exact (hsd h1).elim
    ·exact (hs _ hm h1).elim
   have hed := sam_al ze zl zd hel hald
   have hall : ∀ f ∈ e :: t, al f d := fun f hf => by
    rcases List.mem_cons.1 hf with rfl | hf
    ·exact hed
    ·exact al_trans (h.nz f (by simp [hf])) ze zd (hp.1 f hf) hed
   refine ⟨fun f hf => ?_, fun x hx => ?_⟩
   ·rcases List.mem_cons.1 hf with rfl | hf
    ·have e0 : l.filter (fun x => decide (sam f x)) = [] := by
      rw [List.filter_eq_nil_iff]
      intro x hx q
      obtain ⟨g', hg, q'⟩ := g.all x hx
      exact not_al_sam (sam_trans (h.nz g' hg) (nz x hx) zd q' (sam_symm (of_decide_eq_true q))) (hall g' hg)
     rw [List.filter_append, e0, List.filter_cons_of_pos (by simpa using sam_self f)]
     simp [sm, add_zero]
    ·rw [filt_none (fun q => not_al_sam q (hall f hf))]
     exact g.sum f hf
   ·rcases List.mem_append.1 hx with hx | hx
    ·obtain ⟨f, hf, q⟩ := g.all x hx
     exact ⟨f, by simp at hf ⊢; exact .inr hf, q⟩
    ·rw [List.mem_singleton] at hx; subst hx
     exact ⟨x, by simp, sam_self x⟩
theorem g2_ok {l : List Pt} (nz : ∀ x ∈ l, x ≠ (0, 0)) (hs : l.Pairwise (fun x y => ¬ al y x)) : G2 l (grp l).1 := by
 have key : ∀ n (k : List Pt), k.length = n → (∀ x ∈ k, x ≠ (0, 0)) → k.Pairwise (fun x y => ¬ al y x) → G2 k (grp k).1 := by
  intro n
  induction n with
  | zero => intro k hk _ _; rw [List.length_eq_zero_iff.1 hk]; exact ⟨by simp [grp], by simp⟩
  | succ n ih =>
   intro k hk hn hp
   have hne : k ≠ [] := fun e => by rw [e] at hk; simp at hk
   have e := List.dropLast_concat_getLast hne
   have hl : k.dropLast.length = n := by rw [List.length_dropLast]; omega
   rw [← e] at hn hp ⊢
   rw [List.pairwise_append] at hp
   rw [grp_snoc]
   have h := ih _ hl (fun x hx => hn x (List.mem_append_left _ hx)) hp.1
   exact g2_step (grp_ok (fun x hx => hn x (List.mem_append_left _ hx)) hp.1) h (fun x hx => hn x (List.mem_append_left _ hx)) (hn _ (by simp)) (fun x hx => hp.2.2 x hx _ (by simp))
 exact key _ l rfl nz hs
theorem sds_perm {l k : List Pt} (nz : ∀ x ∈ l, x ≠ (0, 0)) (hl : l.Pairwise (fun x y => ¬ al y x)) (hk : k.Pairwise (fun x y => ¬ al y x)) (hp : l.Perm k) : sds l = sds k := by
 have nk : ∀ x ∈ k, x ≠ (0, 0) := fun x hx => nz x (hp.mem_iff.2 hx)
 have one : ∀ {l k : List Pt}, (∀ x ∈ l, x ≠ (0, 0)) → (∀ x ∈ k, x ≠ (0, 0)) → l.Pairwise (fun x y => ¬ al y x) → k.Pairwise (fun x y => ¬ al y x) → l.Perm k → ∀ e ∈ (grp l).1, e ∈ (grp k).1 := by
  intro l k nz nk hl hk hp e he
  have a := g2_ok nz hl
  have b := g2_ok nk hk
  have ga := grp_ok nz hl
  have gb := grp_ok nk hk
  have ze := ga.nz e he
  have e1 := a.sum e he
  have hne : l.filter (fun x => decide (sam e x)) ≠ [] := fun q => by rw [q] at e1; exact ze e1
  obtain ⟨x, hx⟩ := List.exists_mem_of_ne_nil _ hne
  rw [List.mem_filter] at hx
  have hsx := of_decide_eq_true hx.2
  have zx := nz x hx.1
  obtain ⟨f, hf, q⟩ := b.all x (hp.mem_iff.1 hx.1)
  have zf := gb.nz f hf
  have hfe : sam f e := sam_trans zf zx ze q (sam_symm hsx)
  have e2 := b.sum f hf
  have ec : k.filter (fun x => decide (sam f x)) = k.filter (fun x => decide (sam e x)) := by
   refine List.filter_congr fun y hy => decide_eq_decide.2 ⟨fun q => ?_, fun q => ?_⟩
   ·exact sam_trans ze zf (nk y hy) (sam_symm hfe) q
   ·exact sam_trans zf ze (nk y hy) hfe q
  rw [ec, sm_perm ((hp.filter _).symm), ← e1] at e2
  rw [← e2]; exact hf
 refine sorted_eq (fun d hd => ?_) (fun d hd => ?_) (List.pairwise_reverse.2 (grp_ok nz hl).srt) (List.pairwise_reverse.2 (grp_ok nk hk).srt) fun d => ?_
 ·exact (grp_ok nz hl).nz d (by simpa [sds] using hd)
 ·exact (grp_ok nk hk).nz d (by simpa [sds] using hd)
 ·simp only [sds, List.mem_reverse]
  exact ⟨one nz nk hl hk hp d, one nk nz hk hl hp.symm d⟩
theorem dsU_perm {U V : List Pol} (hU : ∀ x ∈ U, Sd x.2) (hV : ∀ x ∈ V, Sd x.2) (hp : U.Perm V) : dsU U = dsU V := by
 have hnz : ∀ y ∈ (srtS U).map (·.1), y ≠ (0, 0) := fun y hy => by
  obtain ⟨z, hz, rfl⟩ := List.mem_map.1 hy
  exact allS_nz hU z ((srtS_perm U).mem_iff.1 hz)
 have fl : ∀ W : List Pol, ((srtS W).map (·.1)).Perm (W.flatMap (·.2)) := fun W => by rw [← allS_map (k := 0)]; exact (srtS_perm W).map _
 have hfm : (U.flatMap (·.2)).Perm (V.flatMap (·.2)) := by
  have key : ∀ {U V : List Pol}, U.Perm V → (U.flatMap (·.2)).Perm (V.flatMap (·.2)) := by
   intro U V h
   induction h with
   | nil => exact .refl _
   | cons x _ ih => simp only [List.flatMap_cons]; exact ih.append_left _
   | swap x y l =>
    simp only [List.flatMap_cons]
    rw [← List.append_assoc, ← List.append_assoc]
    exact List.perm_append_comm.append_right _
   | trans _ _ h1 h2 => exact h1.trans h2
  exact key hp
 exact sds_perm hnz (srtS_sorted hU) (srtS_sorted hV) ((fl U).trans (hfm.trans (fl V).symm))
theorem a0U_perm {U V : List Pol} (hp : U.Perm V) : a0U U = a0U V := sm_perm (hp.map _)
/-- The first unit moves. -/
def mv (t : Pt) : List Pol → List Pol
 | [] => []
 | x :: r => (add x.1 t, x.2) :: r
theorem allS_mv {t : Pt} {U : List Pol} {k : Nat} : allS (mv t U) k = allS U k := by
 cases U with
 | nil => rfl
 | cons x r => simp [mv, allS]
theorem dsU_mv {t : Pt} {U : List Pol} : dsU (mv t U) = dsU U := by
 unfold dsU srtS; rw [allS_mv]
theorem a0U_mv {t : Pt} {U : List Pol} (h : U ≠ []) : a0U (mv t U) = add (a0U U) t := by
 cases U with
 | nil => exact (h rfl).elim
 | cons x r => simp only [mv, a0U, List.map_cons, sm, add]; exact Prod.ext (by simp only []; omega) (by simp only []; omega)
theorem vs_mv {a t : Pt} {ds : List Pt} : vs (add a t) ds = (vs a ds).map (fun v => add v t) := by
 induction ds generalizing a with
 | nil => rfl
 | cons d r ih =>
  simp only [vs, List.map_cons]
  rw [← ih]
  congr 2
  simp only [add]; exact Prod.ext (by simp only []; omega) (by simp only []; omega)
theorem cs_mv {a t : Pt} {ds : List Pt} : cs (add a t) ds = (cs a ds).map (fun v => add v t) := by
 unfold cs
 split
 ·rfl
 ·exact vs_mv
theorem csU_mv {t : Pt} {U : List Pol} : csU (mv t U) = (match csU U with | [] => [] | l :: r => l.map (fun v => add v t) :: r) := by
 cases U with
 | nil => rfl
 | cons x r => simp [mv, csU, cs_mv]
end Go.Geo
end
section
namespace Go.Proofs.Try
open Go.AM Go.Geo
set_option maxRecDepth 100000
theorem kH25 {a : List Pt} (hl : a.length ≤ 9223372036854775807) (hb : ∀ p ∈ a, Bd 128 p) : run0 (FH25 a) = some ((cl a).length, cl a, ()) := by
 simp only [FH25, run_bd, run_it, run_ret]
 have key : iter (fun s => run0 (gH25_0 s)) (a, 1, 0, [((1 : Int), (1 : Int))], ()) = some ((cl a).length, cl a, ()) := by
  by_cases h0 : a = []
  ·subst h0
   refine iter_inr ?_
   simp only [gH25_0, run_br, br_d, run_ret, List.length_nil]
   rw [if_neg (by omega)]; rfl
  have hcl : cl a = (a.take 4).map oct := by unfold cl; rw [if_neg h0]
  have ha : 0 < a.length := List.length_pos_iff.2 h0
  obtain ⟨r, q1, q2⟩ := iter_ex (step := fun s => run0 (gH25_0 s)) (min a.length 4) (fun k s => s = (a, (if k = 0 then 1 else k), ((k : Nat) : Int), (if k = 0 then [((1 : Int), (1 : Int))] else (a.take k).map oct), ())) (fun r => r = ((cl a).length, cl a, ()))
   (fun k s hk hs => by
    subst hs
    have hk1 : k < a.length := by omega
    have g1 : a.getD k ((0 : Int), (0 : Int)) = a[k] := by simp [List.getD, hk1]
    obtain ⟨b1, b2, b3, b4⟩ := hb a[k] (List.getElem_mem hk1)
    have t1 := td8 b1 b2
    have t2 := td8 b3 b4
    have i1 : inb (k : Int) ((a.length : Nat) : Int) = true := inb_t (by omega) (by omega)
    have r1 : rng .i64 a[k].1 = true := rng_i64 (by omega) (by omega)
    have r2 : rng .i64 (Int.tdiv a[k].1 8) = true := rng_i64 (by omega) (by omega)
    have r3 : rng .i64 a[k].2 = true := rng_i64 (by omega) (by omega)
    have r4 : rng .i64 (Int.tdiv a[k].2 8) = true := rng_i64 (by omega) (by omega)
    have r5 : rng .i64 ((k : Int) + 1) = true := rng_i64 (by omega) (by omega)
    have d1 : (!((8 : Int) == (0 : Int))) = true := rfl
    have htk : (a.take (k + 1)).map oct = (a.take k).map oct ++ [oct a[k]] := by rw [List.take_succ_eq_append_getElem hk1, List.map_append]; rfl
    refine ⟨_, ?_, rfl⟩
    simp only [gH25_0, run_br, run_jx, br_d, br_eq, run_ret]
    rw [if_pos (by omega), if_pos (by omega)]
    by_cases hk0 : k = 0
    ·subst hk0
     rw [if_pos (by omega)]
     simp only [bindO_s, onS, run_nb, run_ni, run_nd, run_ret, Int.toNat_natCast, g1, i1, r1, r2, r3, r4, r5, d1, need_true]
     rw [need_lenbig (by simp)]
     rw [htk]
     simp [oct]
    ·rw [if_neg (by omega)]
     simp only [bindO_s, onS, run_nb, run_ni, run_nd, run_ret, Int.toNat_natCast, g1, i1, r1, r2, r3, r4, r5, d1, need_true, if_neg hk0]
     rw [need_lenbig (by simp; omega)]
     rw [htk]
     have e : ((a.take k).map oct).take k = (a.take k).map oct := List.take_of_length_le (by simp; omega)
     simp only [List.drop_zero, e]
     simp [oct])
   (fun s hs => by
    subst hs
    refine ⟨_, ?_, rfl⟩
    have hm : ¬ min a.length 4 = 0 := by omega
    have e : a.take (min a.length 4) = a.take 4 := by rw [Nat.min_comm, ← List.take_eq_take_min]
    have el : (cl a).length = min a.length 4 := by rw [hcl]; simp; omega
    simp only [if_neg hm, e, ← hcl]
    simp only [gH25_0, run_br, br_d, run_ret]
    by_cases h4 : a.length < 4
    ·rw [if_neg (by omega), el]
    ·rw [el, Nat.min_eq_right (by omega)]
     split
     ·rw [if_neg (by omega)]
     ·rfl) (x := (a, 1, 0, [((1 : Int), (1 : Int))], ())) (by simp)
  rw [q1, q2]
 exact bind_eq key rfl
def tr (t : Pt) (v : Pt) : Pt := add v t
theorem turn_tr (t a b c : Pt) : turn (tr t a) (tr t b) (tr t c) = turn a b c := by simp only [turn, tr, add]; grind
theorem kp_tr (t x : Pt) (st : List Pt) : kp (tr t x) (st.map (tr t)) = (kp x st).map (tr t) := by
 induction st with
 | nil => rfl
 | cons b r ih =>
  cases r with
  | nil => rfl
  | cons a r =>
   simp only [List.map_cons, kp, turn_tr] at ih ⊢
   split
   ·rfl
   ·exact ih
theorem chn_tr (t : Pt) (l : List Pt) : chn (l.map (tr t)) = (chn l).map (tr t) := by
 have : ∀ l st : List Pt, (l.map (tr t)).foldl (fun s p => kp p s) (st.map (tr t)) = (l.foldl (fun s p => kp p s) st).map (tr t) := by
  intro l
  induction l with
  | nil => intro st; rfl
  | cons x l ih => intro st; rw [List.map_cons, List.foldl_cons, kp_tr, ih, List.foldl_cons]
 exact this l []
theorem hullS_tr (t : Pt) (l : List Pt) : hullS (l.map (tr t)) = (hullS l).map (tr t) := by
 unfold hullS
 rw [List.length_map]
 split
 ·rfl
 ·rw [← List.map_reverse, chn_tr, chn_tr, ← List.map_reverse, ← List.map_reverse, List.map_append, List.map_dropLast, List.map_dropLast]
theorem tr_inj {t a b : Pt} : tr t a = tr t b ↔ a = b := by
 constructor
 ·intro h
  have h1 := congrArg Prod.fst h; have h2 := congrArg Prod.snd h
  simp only [tr, add] at h1 h2
  exact Prod.ext (by omega) (by omega)
 ·rintro rfl; rfl
theorem cmpct_tr (t : Pt) : ∀ l : List Pt, cmpct (l.map (tr t)) = (cmpct l).map (tr t)
 | [] => rfl
 | [a] => rfl
 | a :: b :: r => by
  have ih := cmpct_tr t (b :: r)
  simp only [List.map_cons] at ih
  simp only [List.map_cons, cmpct, tr_inj, ih]
  split <;> rfl
theorem ltP_tr (t a b : Pt) : ltP (tr t a) (tr t b) = ltP a b := by
 rw [Bool.eq_iff_iff, ltP_iff, ltP_iff, lx_iff, lx_iff]
 simp only [tr, add]; omega
theorem hullP_tr (t : Pt) (l : List Pt) : hullP (l.map (tr t)) = (hullP l).map (tr t) := by
 unfold hullP srtP
 have e : isort ltP (l.map (tr t)) = (isort ltP l).map (tr t) := by
  have := isort_map (f := tr t) (lt := ltP) (l := l)
  rw [← this]
  exact congrArg (List.map (tr t)) (isort_congr (List.pairwise_of_forall fun _ _ => ltP_tr t _ _))
 rw [e, cmpct_tr, hullS_tr]
theorem mv_len (t : Pt) (U : List Pol) : (mv t U).length = U.length := by cases U <;> rfl
theorem csU_mv_mem {t : Pt} {U : List Pol} {l : List Pt} (h : l ∈ csU (mv t U)) : l ∈ csU U ∨ ∃ k ∈ csU U, l = k.map (tr t) := by
 rw [csU_mv] at h
 cases hc : csU U with
 | nil => rw [hc] at h; cases h
 | cons k r =>
  rw [hc] at h
  rcases List.mem_cons.1 h with rfl | h
  ·exact .inr ⟨k, by simp, rfl⟩
  ·exact .inl (by simp [h])
theorem okU_mv {x : List (List Pt)} {U : List Pol} (h : Us x U) {t : Pt} (ht : Bd 128 t) : OkU (csU (mv t U)) ∧ OkS (mv t U) := by
 have hb : ∀ l ∈ csU (mv t U), ∀ p ∈ l, Bd 1000 p := by
  intro l hl p hp
  rcases csU_mv_mem hl with hl | ⟨k, hk, rfl⟩
  ·exact h.s.bd l hl p hp
  ·obtain ⟨q, hq, rfl⟩ := List.mem_map.1 hp
   exact (bd_add (h.bd k hk q hq) ht).le (by omega)
 have h4 : ∀ l ∈ csU (mv t U), l.length ≤ 4 := by
  intro l hl
  rcases csU_mv_mem hl with hl | ⟨k, hk, rfl⟩
  ·exact h.l4 l hl
  ·rw [List.length_map]; exact h.l4 k hk
 have hl3 := h.l3
 refine ⟨⟨by rw [csU_len, mv_len]; omega, fun l hl => ?_, fun l hl => by have := h4 l hl; omega, hb, fun l hl => ?_⟩, ⟨by rw [mv_len]; omega, fun y hy => ?_, hb, fun l hl => by have := h4 l hl; omega, ?_⟩⟩
 ·rcases csU_mv_mem hl with hl | ⟨k, hk, rfl⟩
  ·exact h.u.ne l hl
  ·simpa using h.u.ne k hk
 ·rcases csU_mv_mem hl with hl | ⟨k, hk, rfl⟩
  ·exact h.u.hull l hl
  ·rw [hullP_tr, h.u.hull k hk]
 ·cases U with
  | nil => cases hy
  | cons z r =>
   rcases List.mem_cons.1 hy with rfl | hy
   ·exact h.s.sd z (by simp)
   ·exact h.s.sd y (by simp [hy])
 ·have := ownL_len 4 _ (csU (mv t U)) rfl h4
  rw [csU_len, mv_len] at this
  omega
theorem csU_rev {U : List Pol} : csU U.reverse = (csU U).reverse := by simp [csU]
theorem okU_rev {x : List (List Pt)} {U : List Pol} (h : Us x U) : OkU (csU U.reverse) ∧ OkS U.reverse := by
 have hm : ∀ l, l ∈ csU U.reverse → l ∈ csU U := fun l hl => by rw [csU_rev, List.mem_reverse] at hl; exact hl
 have hl3 := h.l3
 refine ⟨⟨by rw [csU_len, List.length_reverse]; omega, fun l hl => h.u.ne l (hm l hl), fun l hl => h.u.le l (hm l hl), fun l hl => h.u.bd l (hm l hl), fun l hl => h.u.hull l (hm l hl)⟩,
  ⟨by simp; omega, fun y hy => h.s.sd y (by simpa using hy), fun l hl => h.s.bd l (hm l hl), fun l hl => h.s.sz l (hm l hl), ?_⟩⟩
 have := ownL_len 4 _ (csU U.reverse) rfl fun l hl => h.l4 l (hm l hl)
 rw [csU_len, List.length_reverse] at this
 omega
theorem sum_rev {x : List (List Pt)} {U : List Pol} (h : Us x U) : run0 (F16 (csU U.reverse)) = some (sC U, 0, ()) := by
 obtain ⟨o1, o2⟩ := okU_rev h
 rw [k16 o2 o1, (addU_ok o2.sd).1, a0U_perm (List.reverse_perm U), dsU_perm o2.sd h.s.sd (List.reverse_perm U)]
theorem sum_mv {x : List (List Pt)} {U : List Pol} (h : Us x U) {t : Pt} (ht : Bd 128 t) : run0 (F16 (csU (mv t U))) = some (if U = [] then sC U else (sC U).map (tr t), 0, ()) := by
 obtain ⟨o1, o2⟩ := okU_mv h ht
 rw [k16 o2 o1, (addU_ok o2.sd).1, dsU_mv]
 by_cases hU : U = []
 ·rw [if_pos hU, hU]; rfl
 ·rw [if_neg hU, a0U_mv hU, cs_mv]; rfl
/-- One more unit, in which all may be left out. -/
theorem sel_bd {K : Int} (hK : 0 ≤ K) : ∀ {ps : List Pt} {ls : List (List Pt)}, Sel ps ls → (∀ l ∈ ls, ∀ p ∈ l, Bd K p) → ps.length = ls.length ∧ ∀ p ∈ ps, Bd K p
 | [], [], _, _ => ⟨rfl, by simp⟩
 | p :: ps, l :: ls, h, hb => by
  obtain ⟨i1, i2⟩ := sel_bd hK h.2 fun l hl => hb l (by simp [hl])
  refine ⟨by simp [i1], fun q hq => ?_⟩
  rcases List.mem_cons.1 hq with rfl | hq
  ·exact hb l (by simp) q h.1
  ·exact i2 q hq
theorem more {x : List (List Pt)} {U : List Pol} (h : Us x U) {c : List Pt} (hl : c.length ≤ 5) (hb : ∀ p ∈ c, Bd 16 p) (h0 : (0, 0) ∈ c) :
  ∃ y : Pol, csU (U ++ [y]) = csU U ++ [hullP c] ∧ OkU (csU (U ++ [y])) ∧ OkS (U ++ [y]) ∧ (∀ p, Has (a0U U) (dsU U) 1 p → Has (a0U (U ++ [y])) (dsU (U ++ [y])) 1 p) ∧ (∀ v ∈ sC (U ++ [y]), Bd 3000 v) := by
 have hne : c ≠ [] := fun e => by rw [e] at h0; cases h0
 obtain ⟨v, m, ds, hh⟩ := hullP_ok hne
 have e : hullP c = cs v ds := hh.eq
 have eU : csU (U ++ [(v, ds)]) = csU U ++ [hullP c] := by rw [e]; simp [csU]
 have hin := hull_in hne
 obtain ⟨hl2, hne2⟩ := hull_len hne
 have hbb : ∀ l ∈ csU (U ++ [(v, ds)]), ∀ p ∈ l, Bd 16 p := by
  intro l hl' p hp
  rw [eU] at hl'
  rcases List.mem_append.1 hl' with hl' | hl'
  ·exact h.bd l hl' p hp
  ·rw [List.mem_singleton] at hl'; subst hl'; exact hb p (hin p hp)
 have hl5 : ∀ l ∈ csU (U ++ [(v, ds)]), l.length ≤ 5 := by
  intro l hl'
  rw [eU] at hl'
  rcases List.mem_append.1 hl' with hl' | hl'
  ·have := h.l4 l hl'; omega
  ·rw [List.mem_singleton] at hl'; subst hl'; omega
 have hsd : ∀ y ∈ U ++ [(v, ds)], Sd y.2 := by
  intro y hy
  rcases List.mem_append.1 hy with hy | hy
  ·exact h.s.sd y hy
  ·rw [List.mem_singleton] at hy; subst hy; exact hh.sd
 have hl3 := h.l3
 have htot : (ownL (csU (U ++ [(v, ds)]))).length ≤ 19 := by
  rw [eU, ownL_snoc, List.length_append, List.length_map]
  have h1 := ownL_len 4 _ (csU U) rfl h.l4
  rw [csU_len] at h1
  have h2 : (sidesL (hullP c)).length ≤ (hullP c).length := by unfold sidesL; split <;> simp
  omega
 have oS : OkS (U ++ [(v, ds)]) := ⟨by simp; omega, hsd, fun l hl' p hp => (hbb l hl' p hp).le (by omega), fun l hl' => by have := hl5 l hl'; omega, htot⟩
 have hsum := (addU_ok hsd).2.2
 refine ⟨(v, ds), eU, ⟨by rw [csU_len]; simp; omega, fun l hl' => ?_, fun l hl' => by have := hl5 l hl'; omega, oS.bd, fun l hl' => ?_⟩, oS, fun p hp => ?_, fun w hw => ?_⟩
 ·rw [eU] at hl'
  rcases List.mem_append.1 hl' with hl' | hl'
  ·exact h.u.ne l hl'
  ·rw [List.mem_singleton] at hl'; subst hl'; exact hne2
 ·rw [eU] at hl'
  rcases List.mem_append.1 hl' with hl' | hl'
  ·exact h.u.hull l hl'
  ·rw [List.mem_singleton] at hl'; subst hl'
   rw [hullP_cs (srtP_sorted _) hh (l := hullP c) (fun p => by rw [e]), e]
 ·rw [has_sup hsum.sd (by omega), sup_cs hsum.sd (by omega)]
  rw [has_sup h.sum.2.1.sd (by omega), sup_cs h.sum.2.1.sd (by omega)] at hp
  intro u
  have h1 := hp u
  rw [h.sum.2.1.mx u] at h1
  rw [hsum.mx u]
  have h2 : mxU u (U ++ [(v, ds)]) = mxU u U + (dt u v + mF u ds) := by simp [mxU, List.sum_append]
  obtain ⟨w, hw, h3⟩ := hh.sup (0, 0) (mem_srtP.2 h0) u
  have h4 := mx_le (u := u) hh.sd hw
  have h5 : dt u (0, 0) = 0 := by simp [dt]
  omega
 ·obtain ⟨ps, hs, rfl⟩ := hsum.sel w hw
  obtain ⟨b1, b2⟩ := sel_bd (by omega) hs hbb
  have hl4 : ps.length ≤ 4 := by rw [b1, csU_len]; simp; omega
  exact (sm_bd hl4 b2 (by omega)).le (by omega)
theorem k13b {U : List Pol} (h : OkS U) (hu : OkU (csU U)) (hb : ∀ v ∈ sC U, Bd 3000 v) {p : Pt} (hp : Bd 100000 p) : run0 (F13 (csU U) p) = some (decide (Has (a0U U) (dsU U) 1 p), 0, ()) := by
 obtain ⟨a1, -, a3⟩ := addU_ok h.sd
 have hl : (dsU U).length ≤ 1000 := by
  have := addU_len h
  rw [a1] at this
  by_cases hne : dsU U = []
  ·rw [hne]; simp
  ·rw [cs_len hne] at this; omega
 simp only [F13, run_bd, run_br, run_ret, pr_eta]
 rw [bind_of (k31 hu hp), beq_self_eq_true, Bool.not_true, br_false, bind_of (k33 h)]
 simp only [a1]
 rw [bind_of (k32 a3.sd (by omega) (by omega) (by omega) hb (hp.le (by omega)))]
end Go.Proofs.Try
end
section
namespace Go.Proofs.Try
open Go.AM Go.Geo
set_option maxRecDepth 100000
theorem k23 {l : List Pt} (hl : l.length ≤ 1000) : run0 (F23 l l) = some (true, ()) := by
 obtain ⟨r, q1, q2⟩ := iter_ex (step := fun s => run0 (g23_0 s)) l.length (fun k s => s = (l, l, (k : Int), ())) (fun r => r = .inr ()) (fun k s hk hs => by
   subst hs
   have j1 : inb (k : Int) ((l.length : Nat) : Int) = true := inb_t (by omega) (by omega)
   have r3 : rng .i64 ((k : Int) + 1) = true := rng_i64 (by omega) (by omega)
   refine ⟨_, ?_, rfl⟩
   simp only [g23_0, run_br, run_nb, run_ni, run_ret, Int.toNat_natCast, j1, r3, need_true, beq_self_eq_true, Bool.and_self, Bool.not_true, br_false]
   rw [br_t (decide_eq_true (by omega))]
   rfl) (fun s hs => by
   subst hs
   refine ⟨_, ?_, rfl⟩
   simp only [g23_0, run_br, run_ret]
   rw [br_f (decide_eq_false (by omega))]) (x := (l, l, 0, ())) (by simp)
 simp only [F23, run_br, run_bd, run_it, run_ret, beq_self_eq_true, Bool.not_true, br_false]
 rw [bind_of q1, q2]
 rfl
section
variable {z : List Pt} {ls : List (List Pt)} {t : Pt} {b0 : List Int}
theorem it7_1 {n1 n2 k : Nat} {v37 v38 : Int} {l : List Pt} {b2 b3 : List (List Pt)} (hl : l.length ≤ 1000) (hb : ∀ v ∈ l, Bd 1000 v) (ht : Bd 128 t) :
  iter (fun s => run0 (g7_1 s)) (z, ls, n1, n2, (k : Int), 0, v37, v38, l, ((l.length : Nat) : Int), 0, b0, [t.1, t.2], b2, b3, [], ()) = some (z, ls, n1, n2, l.length, v37, v38, b0, [t.1, t.2], b2, b3, (if k = 0 then l.map (tr t) else l), ()) := by
 have hgen : ∃ w : Nat → Pt, (∀ i, i < l.length → w i = if k = 0 then tr t (l.getD i (0, 0)) else l.getD i (0, 0)) ∧ mk l.length w = (if k = 0 then l.map (tr t) else l) := by
  refine ⟨fun i => if k = 0 then tr t (l.getD i (0, 0)) else l.getD i (0, 0), fun i _ => rfl, ?_⟩
  by_cases hk : k = 0
  ·simp only [if_pos hk]
   conv => rhs; rw [← mk_self (l := l)]
   unfold mk; rw [List.map_map]; rfl
  ·simp only [if_neg hk]; exact mk_self
 obtain ⟨w, hw, hmk⟩ := hgen
 obtain ⟨r, q1, q2⟩ := iter_ex (step := fun s => run0 (g7_1 s)) l.length (fun i s => s = (z, ls, n1, n2, (k : Int), i, v37, v38, l, ((l.length : Nat) : Int), (i : Int), b0, [t.1, t.2], b2, b3, mk i w, ()))
  (fun r => r = (z, ls, n1, n2, l.length, v37, v38, b0, [t.1, t.2], b2, b3, mk l.length w, ())) (fun i s hi hs => by
   subst hs
   have j1 : inb (i : Int) ((l.length : Nat) : Int) = true := inb_t (by omega) (by omega)
   have r3 : rng .i64 ((i : Int) + 1) = true := rng_i64 (by omega) (by omega)
   have d1 : ∀ y : Pt, decide (i + (List.take 1 (List.drop 0 [y])).length < bigL) = true := fun y => decide_eq_true (by rw [bigL_eq]; simp; omega)
   have tk : (mk i w).take i = mk i w := List.take_of_length_le (by rw [mk_len]; omega)
   have hwi := hw i hi
   obtain ⟨e1, e2, e3, e4⟩ := hb _ (getD_mem (d := ((0 : Int), (0 : Int))) hi)
   obtain ⟨f1, f2, f3, f4⟩ := ht
   have g0 : [t.1, t.2].getD 0 0 = t.1 := rfl
   have g1 : [t.1, t.2].getD 1 0 = t.2 := rfl
   have l0 : decide ((0 : Nat) < [t.1, t.2].length) = true := rfl
   have l1 : decide ((1 : Nat) < [t.1, t.2].length) = true := rfl
   refine ⟨_, ?_, rfl⟩
   simp only [g7_1, run_br, run_jx, run_nb, run_ni, run_nd, run_ret, Int.toNat_natCast, j1, need_true, g0, g1, l0, l1]
   rw [br_t (decide_eq_true (by omega)), mk_succ, hwi]
   by_cases hk : k = 0
   ·rw [br_t (by simp [hk]), if_pos hk, need_i64 (by omega) (by omega), need_i64 (by omega) (by omega), need_i64 (by omega) (by omega), need_i64 (by omega) (by omega)]
    simp only [bindO_s, onS, d1, r3, need_true]
    simp only [List.drop_zero, tk]
    rfl
   ·rw [br_f (by simp [hk]), if_neg hk]
    simp only [bindO_s, onS, d1, r3, need_true]
    simp only [List.drop_zero, tk]
    rfl) (fun s hs => by
   subst hs
   refine ⟨_, ?_, rfl⟩
   simp only [g7_1, run_br, run_ret]
   rw [br_f (decide_eq_false (by omega))]) (x := (z, ls, n1, n2, (k : Int), 0, v37, v38, l, ((l.length : Nat) : Int), 0, b0, [t.1, t.2], b2, b3, [], ())) (by simp [mk])
 rw [q1, q2, hmk]
theorem mv_take {U : List Pol} {k : Nat} (hk : k < U.length) : (csU (mv t U)).take (k + 1) = (csU (mv t U)).take k ++ [if k = 0 then ((csU U).getD k []).map (tr t) else (csU U).getD k []] := by
 have hlen : (csU (mv t U)).length = U.length := by rw [csU_len, mv_len]
 rw [List.take_succ_eq_append_getElem (by omega)]
 congr 2
 cases U with
 | nil => simp at hk
 | cons x r =>
  cases k with
  | zero =>
   simp [mv, csU, cs_mv]
   intro a b _; rfl
  | succ k =>
   simp at hk
   simp [mv, csU, hk]
theorem it7_0 {x : List (List Pt)} {U : List Pol} (h : Us x U) (ht : Bd 128 t) :
  iter (fun s => run0 (g7_0 s)) (z, csU U, 0, 0, (((csU U).length : Nat) : Int), 0, b0, [t.1, t.2], [], [], ()) = some (z, csU U, U.length, U.length, b0, [t.1, t.2], csU U.reverse, csU (mv t U), ()) := by
 have hl3 := h.l3
 have hlU := csU_len (U := U)
 have hlm : (csU (mv t U)).length = U.length := by rw [csU_len, mv_len]
 have hlr : (csU U.reverse).length = U.length := by rw [csU_len, List.length_reverse]
 obtain ⟨r, q1, q2⟩ := iter_ex (step := fun s => run0 (g7_0 s)) U.length (fun k s => s = (z, csU U, k, k, (((csU U).length : Nat) : Int), (k : Int), b0, [t.1, t.2], (csU U.reverse).take k, (csU (mv t U)).take k, ()))
  (fun r => r = (z, csU U, U.length, U.length, b0, [t.1, t.2], csU U.reverse, csU (mv t U), ())) (fun k s hk hs => by
   subst hs
   have j1 : inb (k : Int) (((csU U).length : Nat) : Int) = true := inb_t (by omega) (by omega)
   have r3 : rng .i64 ((k : Int) + 1) = true := rng_i64 (by omega) (by omega)
   have j2 : inb ((((csU U).length : Nat) : Int) - 1 - (k : Int)) (((csU U).length : Nat) : Int) = true := inb_t (by omega) (by omega)
   have t2 : Int.toNat ((((csU U).length : Nat) : Int) - 1 - (k : Int)) = U.length - 1 - k := by omega
   have d1 : ∀ y : List Pt, decide (k + (List.take 1 (List.drop 0 [y])).length < bigL) = true := fun y => decide_eq_true (by rw [bigL_eq]; simp; omega)
   have hm : (csU U).getD k [] ∈ csU U := getD_mem (by omega)
   have eR : (csU U.reverse).take (k + 1) = (csU U.reverse).take k ++ [(csU U).getD (U.length - 1 - k) []] := by
    have hkl : k < (csU U.reverse).length := by omega
    have hk2 : U.length - 1 - k < (csU U).length := by omega
    have hg : (csU U.reverse)[k] = (csU U).getD (U.length - 1 - k) [] := by
     rw [getD_el _ hk2]
     simp only [csU_rev, List.getElem_reverse, hlU]
    rw [List.take_succ_eq_append_getElem hkl, hg]
   have tk1 : ((csU U.reverse).take k).take k = (csU U.reverse).take k := List.take_of_length_le (by simp; omega)
   have tk2 : ((csU (mv t U)).take k).take k = (csU (mv t U)).take k := List.take_of_length_le (by simp; omega)
   refine ⟨_, ?_, rfl⟩
   simp only [g7_0, run_br, run_nb, run_ni, run_nd, run_bd, run_it, run_ret, Int.toNat_natCast, j1, j2, t2, d1, need_true]
   rw [br_t (decide_eq_true (by omega)), need_i64 (by omega) (by omega), need_i64 (by omega) (by omega)]
   refine bind_eq (it7_1 (h.s.sz _ hm) (h.s.bd _ hm) ht) ?_
   have ec : (if k = 0 then ((csU U).getD k []).map (tr t) else (csU U).getD k []).length = ((csU U).getD k []).length := by split <;> simp
   have tk3 : (if k = 0 then ((csU U).getD k []).map (tr t) else (csU U).getD k []).take ((csU U).getD k []).length = (if k = 0 then ((csU U).getD k []).map (tr t) else (csU U).getD k []) := List.take_of_length_le (by omega)
   simp only [List.drop_zero, tk3]
   have d1' : ∀ y : List Pt, decide (k + (List.take 1 [y]).length < bigL) = true := d1
   simp only [d1', r3, need_true, tk1, tk2, eR, mv_take hk]
   rfl) (fun s hs => by
   subst hs
   refine ⟨_, ?_, rfl⟩
   simp only [g7_0, run_br, run_ret]
   rw [br_f (decide_eq_false (by omega)), List.take_of_length_le (by omega), List.take_of_length_le (by omega)]) (x := (z, csU U, 0, 0, (((csU U).length : Nat) : Int), 0, b0, [t.1, t.2], [], [], ())) (by simp)
 rw [q1, q2]
theorem it7_2 {C : List Pt} (hl : C.length ≤ 1000) (hb : ∀ v ∈ C, Bd 3000 v) (ht : Bd 128 t) (hlen : ls.length ≤ 1000) :
  iter (fun s => run0 (g7_2 s)) (z, ls, (if ls.length = 0 then C else C.map (tr t)), C, ((C.length : Nat) : Int), 0, b0, [t.1, t.2], ()) = some (.inr (z, ls, b0, ())) := by
 obtain ⟨r, q1, q2⟩ := iter_ex (step := fun s => run0 (g7_2 s)) C.length (fun k s => s = (z, ls, (if ls.length = 0 then C else C.map (tr t)), C, ((C.length : Nat) : Int), (k : Int), b0, [t.1, t.2], ()))
  (fun r => r = .inr (z, ls, b0, ())) (fun k s hk hs => by
   subst hs
   have j1 : inb (k : Int) ((C.length : Nat) : Int) = true := inb_t (by omega) (by omega)
   have r3 : rng .i64 ((k : Int) + 1) = true := rng_i64 (by omega) (by omega)
   obtain ⟨e1, e2, e3, e4⟩ := hb _ (getD_mem (d := ((0 : Int), (0 : Int))) hk)
   obtain ⟨f1, f2, f3, f4⟩ := ht
   have g0 : [t.1, t.2].getD 0 0 = t.1 := rfl
   have g1 : [t.1, t.2].getD 1 0 = t.2 := rfl
   have l0 : decide ((0 : Nat) < [t.1, t.2].length) = true := rfl
   have l1 : decide ((1 : Nat) < [t.1, t.2].length) = true := rfl
   refine ⟨_, ?_, rfl⟩
   simp only [g7_2, run_br, run_jx, run_nb, run_ni, run_nd, run_ret, Int.toNat_natCast, j1, need_true, g0, g1, l0, l1]
   rw [br_t (decide_eq_true (by omega))]
   by_cases hn : ls.length = 0
   ·rw [br_f (decide_eq_false (by omega)), if_pos hn]
    simp only [bindO_s, onS, Int.toNat_natCast, j1, r3, need_true, beq_self_eq_true, Bool.and_self, Bool.not_true, br_false]
    rfl
   ·have hj : inb (k : Int) (((C.map (tr t)).length : Nat) : Int) = true := by rw [List.length_map]; exact j1
    have hg : (C.map (tr t)).getD k (0, 0) = ((C.getD k (0, 0)).1 + t.1, (C.getD k (0, 0)).2 + t.2) := by
     rw [List.getD_eq_getElem?_getD, List.getElem?_map, List.getElem?_eq_getElem hk, getD_el _ hk]; rfl
    rw [br_t (decide_eq_true (by omega)), if_neg hn, need_i64 (by omega) (by omega), need_i64 (by omega) (by omega), need_i64 (by omega) (by omega), need_i64 (by omega) (by omega)]
    simp only [bindO_s, onS, Int.toNat_natCast, hj, hg, r3, need_true, beq_self_eq_true, Bool.and_self, Bool.not_true, br_false]
    rfl) (fun s hs => by
   subst hs
   refine ⟨_, ?_, rfl⟩
   simp only [g7_2, run_br, run_ret]
   rw [br_f (decide_eq_false (by omega))]) (x := (z, ls, (if ls.length = 0 then C else C.map (tr t)), C, ((C.length : Nat) : Int), 0, b0, [t.1, t.2], ())) (by simp)
 rw [q1, q2]
end
theorem law7 {x : List (List Pt)} {z : List Pt} {a t : Pt} (h : WfX x) (hz : ∀ v ∈ z, Bd 128 v) (hzl : z.length ≤ 9223372036854775807) (ha : Bd 128 a) (ht : Bd 128 t) : run0 (F7 x z a t) = some (true, ()) := by
 obtain ⟨U, hU⟩ := us_of h
 obtain ⟨q16, hsum, hbC, hlC'⟩ := hU.sum
 have hlC : (cs (a0U U) (dsU U)).length ≤ 20 := hlC'
 have hl3 := hU.l3
 have hlU := csU_len (U := U)
 obtain ⟨a1, a2, a3, a4⟩ := ha
 have d1 := td_bd 3 (by omega) a1 a2
 have d2 := td_bd 3 (by omega) a3 a4
 have hp : Bd 100000 (Int.tdiv a.1 3, Int.tdiv a.2 3) := ⟨by simp only; omega, by simp only; omega, by simp only; omega, by simp only; omega⟩
 have z3 : (!((3 : Int) == 0)) = true := rfl
 have g0 : [a.1, a.2].getD 0 0 = a.1 := rfl
 have g1 : [a.1, a.2].getD 1 0 = a.2 := rfl
 have l0 : decide ((0 : Nat) < [a.1, a.2].length) = true := rfl
 have l1 : decide ((1 : Nat) < [a.1, a.2].length) = true := rfl
 obtain ⟨c1, c2, c3⟩ := cl_facts hz
 have hcb : ∀ p ∈ cl z ++ [(0, 0)], Bd 16 p := fun p hp => by
  rcases List.mem_append.1 hp with hp | hp
  ·exact c3 p hp
  ·rw [List.mem_singleton] at hp; subst hp; exact bd0 (by omega)
 obtain ⟨y, eU, o1, o2, hmore, hb2⟩ := more hU (c := cl z ++ [(0, 0)]) (by simp; omega) hcb (by simp)
 have q24 := k24 (l := cl z ++ [(0, 0)]) (by simp) (by simp; omega) (fun p hp => (hcb p hp).le (by omega))
 have tkr : (csU U.reverse).take U.length = csU U.reverse := List.take_of_length_le (by rw [csU_len, List.length_reverse]; omega)
 have tkm : (csU (mv t U)).take U.length = csU (mv t U) := List.take_of_length_le (by rw [csU_len, mv_len]; omega)
 have q7m := sum_mv hU ht
 have eC : (if U = [] then sC U else (sC U).map (tr t)) = (if (csU U).length = 0 then sC U else (sC U).map (tr t)) := by
  rw [csU_len]
  by_cases e : U = []
  ·rw [if_pos e, if_pos (by rw [e]; rfl)]
  ·rw [if_neg e, if_neg (fun q => e (List.length_eq_zero_iff.1 q))]
 rw [eC] at q7m
 simp only [F7, run_bd, run_br, run_ni, run_nd, run_it, run_ret]
 rw [bind_of (k10 h), Bool.not_true, br_false]
 simp only [hU.eq]
 refine bind_eq (it7_0 hU ht) ?_
 simp only [List.drop_zero, tkr, tkm]
 rw [bind_of q16, bind_of (sum_rev hU), bind_of q7m]
 simp only [beq_self_eq_true, Bool.not_true, br_false]
 rw [bind_of (k23 (show (cs (a0U U) (dsU U)).length ≤ 1000 by omega))]
 simp only [Bool.not_true, br_false]
 have elen : (if (csU U).length = 0 then sC U else (sC U).map (tr t)).length = (sC U).length := by split <;> simp
 rw [br_f (by rw [elen]; simp)]
 refine bind_eq (it7_2 (show (cs (a0U U) (dsU U)).length ≤ 1000 by omega) hbC ht (by omega)) ?_
 simp only [run_sr, run_bd, run_br, run_ni, run_nd, run_ret, g0, g1, l0, l1, z3, need_true]
 rw [bind_of (kH25 hzl hz)]
 have dl : ∀ v : Pt, decide ((cl z).length + (List.take 1 (List.drop 0 [v])).length < bigL) = true := fun v => decide_eq_true (by rw [bigL_eq]; simp; omega)
 have tcl : (cl z).take (cl z).length = cl z := List.take_length
 have tcl2 : ∀ v : Pt, (cl z ++ List.take 1 [v]).take ((cl z).length + (List.take 1 [v]).length) = cl z ++ [v] := fun v => by rw [List.take_of_length_le (by simp)]; rfl
 simp only [dl, need_true, List.drop_zero, tcl, tcl2]
 rw [need_d (by rw [bigL_eq]; simp; omega), bind_of q24]
 simp only [beq_self_eq_true, Bool.not_true, br_false]
 rw [need_i64 (by omega) (by omega), need_i64 (by omega) (by omega), need_i64 (by omega) (by omega), need_i64 (by omega) (by omega)]
 generalize Int.tdiv a.1 3 = p1 at *
 generalize Int.tdiv a.2 3 = p2 at *
 rw [bind_of (k13 hU hp)]
 have ed : ∀ v : List Pt, ((([] : List (List Pt)).take 0 ++ csU U).take (0 + (csU U).length) ++ List.take 1 [v]).take (0 + (csU U).length + (List.take 1 [v]).length) = csU U ++ [v] := fun v => by
  simp
  exact List.take_of_length_le (by simp)
 rw [need_d (by rw [bigL_eq]; omega), need_d (by rw [bigL_eq]; simp; omega), ed, ← eU, bind_of (k13b o2 o1 hb2 hp)]
 simp only [beq_self_eq_true, br_true]
 by_cases hh : Has (a0U U) (dsU U) 1 (p1, p2)
 ·rw [decide_eq_true hh, decide_eq_true (hmore _ hh), Bool.not_true, br_false, br_true, bind_of works_ok]
 ·rw [decide_eq_false hh, Bool.not_false, br_true, bind_of works_ok]
theorem law7h (x : List (List Pt)) (z : List Pt) (a t : Pt) (hW : WfAll [tX, .list tP, tP, tP] (x, z, a, t, ())) : run0 (F7 x z a t) = some (true, ()) := by
 have e : maxLen = 9223372036854775807 := by decide
 exact law7 (wfX_of hW.1) (fun v hv => pt_of (hW.2.1.2 v hv)) (by rw [← e]; exact hW.2.1.1) (pt_of hW.2.2.1) (pt_of hW.2.2.2.1)
end Go.Proofs.Try
end
