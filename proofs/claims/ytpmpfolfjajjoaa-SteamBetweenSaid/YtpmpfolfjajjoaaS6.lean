/- The sum of units as the program walks it. The sum of units: F33. The sum of units: F33, its last rounds. Sum, Most. What the statements hand in. The chapter's examples, reckoned through. Is a point in a polygon taken so many times: F32. Can: F13. A point of the sum as corners' mix: F34. Divide: F14. Divided: F20. Prove: F15; its check: F17; a part among a unit's corners: F19. A part among a unit's corners: F19. The rounds of SteamEither. Points of the sum. Heats at a power: F22. Heats: F22. The rounds of SteamBetween. SteamBetween: its law. -/
import Derived.Test.YtpmpfolfjajjoaaR6
set_option linter.unusedSectionVars false
set_option linter.unusedVariables false
set_option linter.unusedSimpArgs false
section
namespace Go.Proofs.Try
open Go.AM Go.Geo
set_option maxRecDepth 100000
theorem bd0 {K : Int} (h : 0 ≤ K) : Bd K ((0 : Int), (0 : Int)) := ⟨by simp; omega, by simp; omega, by simp; omega, by simp; omega⟩
theorem k35 {a b : Pt} (ha : Bd 1000000000 a) (hb : Bd 1000000000 b) : run0 (F35 a b) = some (add a b, ()) := by
 have h1 := ha.1; have h2 := ha.2; have h3 := hb.1; have h4 := hb.2
 obtain ⟨a1, a2, a3, a4⟩ := ha; obtain ⟨b1, b2, b3, b4⟩ := hb
 simp only [F35, run_ni, run_ret]
 rw [need_i64 (by omega) (by omega), need_i64 (by omega) (by omega)]
 rfl
theorem kH55v {l : List Pt} (hl : l.length ≤ 1000) : run0 (FH55_v1 l.length l) = some (l.length, l, l, ()) := by
 have d1 : decide ((0 : Nat) + ((l.drop 0).take l.length).length < bigL) = true := decide_eq_true (by rw [bigL_eq]; simp; omega)
 simp only [FH55_v1, run_br, run_am, run_nd, run_ret, d1, need_true]
 cases l with
 | nil => simp
 | cons a l =>
  rw [br_f (by simp; omega)]
  simp
theorem set_last {α : Type} {l : List α} {x : α} (h : l ≠ []) : l.set (l.length - 1) x = l.dropLast ++ [x] := by
 have e := List.dropLast_concat_getLast h
 have : l.length - 1 = l.dropLast.length := by simp
 rw [this]
 conv => lhs; rw [← e]
 exact set_mid (A := l.dropLast) (B := []) (by simp)
theorem last_len {α : Type} {l : List α} (h : l ≠ []) {x : α} : (l.dropLast ++ [x]).length = l.length := by
 cases l with
 | nil => exact (h rfl).elim
 | cons a l => simp
theorem in33 {l : List Pt} {ls : List (List Pt)} {n k : Nat} {v16 v17 c1 c2 : Int} {b3 : List Pt} {B : List OwF} (hl : l.length ≤ 1000) (hb : ∀ p ∈ l, Bd 1000 p) (hB : B.length ≤ 100000) :
  run0 (g33_1 (n, ls, v16, v17, l, B.length, c1, c2, b3, (k : Int), B, ())) = some (n, ls, v16, v17, (B ++ (sidesL l).map fun s => (s, (k : Int))).length, c1, c2, b3, (B ++ (sidesL l).map fun s => (s, (k : Int))), ()) := by
 have hgd : ∀ i, Bd 1000 (l.getD i (0, 0)) := fun i => by
  by_cases h : i < l.length
  ·exact hb _ (getD_mem h)
  ·rw [getD_out _ (by omega)]; exact bd0 (by omega)
 obtain ⟨r, q1, q2⟩ := iter_ex (step := fun s => run0 (g33_1i_0 s)) l.length (fun i s => s = (l, l, ((l.length : Nat) : Int), (i : Int), n, ls, v16, v17, l, (B ++ ((sidesL l).take i).map fun s => (s, (k : Int))).length, c1, c2, b3, (k : Int), (B ++ ((sidesL l).take i).map fun s => (s, (k : Int))), ()))
  (fun r => r = ((B ++ (sidesL l).map fun s => (s, (k : Int))).length, c1, c2, (k : Int), n, ls, v16, v17, l, b3, (B ++ (sidesL l).map fun s => (s, (k : Int))), ())) (fun i s hi hs => by
   subst hs
   have j1 : inb (i : Int) ((l.length : Nat) : Int) = true := inb_t (by omega) (by omega)
   have r3 : rng .i64 ((i : Int) + 1) = true := rng_i64 (by omega) (by omega)
   by_cases h1 : 1 < l.length
   ·have hsl : (sidesL l).length = l.length := by unfold sidesL; rw [if_pos h1]; simp
    have e1 : (sidesL l).take (i + 1) = (sidesL l).take i ++ [(l.getD i (0, 0), sub (l.getD ((i + 1) % l.length) (0, 0)) (l.getD i (0, 0)))] := by
     rw [List.take_succ_eq_append_getElem (by omega)]
     simp [sidesL, h1]
    have tm : Int.tmod ((i : Int) + 1) ((l.length : Nat) : Int) = (((i + 1) % l.length : Nat) : Int) := by
     have e : ((i : Int) + 1) = ((i + 1 : Nat) : Int) := by omega
     rw [e]; exact Int.ofNat_tmod _ _
    have hlt : (i + 1) % l.length < l.length := Nat.mod_lt _ (by omega)
    have j2 : inb (((i + 1) % l.length : Nat) : Int) ((l.length : Nat) : Int) = true := inb_t (Int.natCast_nonneg _) (Int.ofNat_lt.2 hlt)
    have z0 : (!(((l.length : Nat) : Int) == 0)) = true := by rw [Bool.not_eq_true', beq_eq_false_iff_ne]; omega
    have lb : ((sidesL l).take i).length ≤ 1000 := by rw [List.length_take]; omega
    have hM : (B ++ ((sidesL l).take i).map fun s => ((s, (k : Int)) : OwF)).length ≤ 200000 := by rw [List.length_append, List.length_map]; omega
    have em : (B ++ ((sidesL l).take (i + 1)).map fun s => ((s, (k : Int)) : OwF)) = (B ++ ((sidesL l).take i).map fun s => ((s, (k : Int)) : OwF)) ++ [((l.getD i (0, 0), sub (l.getD ((i + 1) % l.length) (0, 0)) (l.getD i (0, 0))), (k : Int))] := by
     rw [e1]; simp
    generalize (B ++ ((sidesL l).take i).map fun s => ((s, (k : Int)) : OwF)) = M at hM em
    have d1 : ∀ x : OwF, decide (M.length + (List.take 1 (List.drop 0 [x])).length < bigL) = true := fun x => decide_eq_true (by rw [bigL_eq]; simp; omega)
    rw [em]
    refine ⟨_, ?_, rfl⟩
    simp only [g33_1i_0, run_br, run_nb, run_ni, run_nd, run_bd, run_ret, j1, r3, need_true, br_d, tm, Int.toNat_natCast, z0, j2, pr_eta]
    rw [if_pos (by omega), if_pos (by omega), bind_of (k49 ((hgd _).le (by omega)) ((hgd _).le (by omega)))]
    simp only [d1, need_true]
    simp
   ·have hsl : sidesL l = [] := by unfold sidesL; rw [if_neg h1]
    refine ⟨_, ?_, rfl⟩
    simp only [g33_1i_0, run_br, run_nb, run_ni, run_nd, run_bd, run_ret, j1, r3, need_true, br_d]
    rw [if_pos (by omega), if_neg (by omega)]
    simp [hsl]) (fun s hs => by
   subst hs
   refine ⟨_, ?_, rfl⟩
   have : (sidesL l).take l.length = sidesL l := List.take_of_length_le (by unfold sidesL; split <;> simp)
   simp only [g33_1i_0, run_br, run_ret, br_d, this]
   rw [if_neg (by omega)]) (x := (l, l, ((l.length : Nat) : Int), 0, n, ls, v16, v17, l, B.length, c1, c2, b3, (k : Int), B, ())) (by simp)
 subst q2
 simp only [g33_1, run_bd, run_it, run_ret]
 rw [bind_of q1]
end Go.Proofs.Try
end
section
namespace Go.Proofs.Try
open Go.AM Go.Geo
set_option maxRecDepth 100000
theorem cs_hd {a : Pt} {ds : List Pt} : (cs a ds).getD 0 (0, 0) = a ∧ 0 < (cs a ds).length := by
 unfold cs
 cases ds with
 | nil => simp
 | cons d r => simp [vs]
theorem sm_bd {l : List Pt} {K : Int} {n : Nat} (hn : l.length ≤ n) (h : ∀ p ∈ l, Bd K p) (hK : 0 ≤ K) : Bd (K * n) (sm l) := by
 induction l generalizing n with
 | nil => simp only [sm]; exact bd0 (Int.mul_nonneg hK (Int.natCast_nonneg _))
 | cons a l ih =>
  obtain ⟨m, rfl⟩ : ∃ m, n = m + 1 := ⟨n - 1, by simp at hn; omega⟩
  have := bd_add (h a (by simp)) (ih (n := m) (by simpa using hn) fun p hp => h p (by simp [hp]))
  refine this.le ?_
  have e : K * ((m + 1 : Nat) : Int) = K * m + K := by rw [Int.natCast_add, Int.mul_add]; simp
  omega
structure OkS (U : List Pol) : Prop where
 len : U.length ≤ 4
 sd : ∀ x ∈ U, Sd x.2
 bd : ∀ l ∈ csU U, ∀ p ∈ l, Bd 1000 p
 sz : ∀ l ∈ csU U, l.length ≤ 1000
 tot : (ownL (csU U)).length ≤ 19
theorem csU_get {U : List Pol} {k : Nat} (h : k < U.length) : (csU U).getD k [] = cs U[k].1 U[k].2 := by
 simp [csU, List.getD, h]
theorem OkS.hd {U : List Pol} (h : OkS U) {x : Pol} (hx : x ∈ U) : Bd 1000 x.1 := by
 have hm : cs x.1 x.2 ∈ csU U := List.mem_map.2 ⟨x, hx, rfl⟩
 have := h.bd _ hm _ (getD_mem (d := (0, 0)) (cs_hd (a := x.1) (ds := x.2)).2)
 rwa [cs_hd.1] at this
theorem ownL_take_len (ls : List (List Pt)) : ∀ k, (ownL (ls.take k)).length ≤ (ownL ls).length := by
 intro k
 have : ∀ m, (ownL (ls.take k)).length ≤ (ownL (ls.take (k + m))).length := by
  intro m
  induction m with
  | zero => exact Nat.le_refl _
  | succ m ih =>
   refine Nat.le_trans ih ?_
   by_cases h : k + m < ls.length
   ·rw [show k + (m + 1) = (k + m) + 1 by omega, List.take_succ_eq_append_getElem h, ownL_snoc]; simp
   ·rw [List.take_of_length_le (by omega), List.take_of_length_le (by omega)]; exact Nat.le_refl _
 have := this ls.length
 have e : ls.take (k + ls.length) = ls := List.take_of_length_le (by omega)
 rw [e] at this
 exact this
theorem it33_0 {U : List Pol} (h : OkS U) : iter (fun s => run0 (g33_0 s)) (0, csU U, (((csU U).length : Nat) : Int), 0, 0, 0, 0, [], [], ()) = some (U.length, (ownL (csU U)).length, (a0U U).1, (a0U U).2, U.map (·.1), ownL (csU U), ()) := by
 have hlU : (csU U).length = U.length := by simp [csU]
 obtain ⟨r, q1, q2⟩ := iter_ex (step := fun s => run0 (g33_0 s)) U.length (fun k s => s = (k, csU U, (((csU U).length : Nat) : Int), (k : Int), (ownL ((csU U).take k)).length, (sm ((U.take k).map (·.1))).1, (sm ((U.take k).map (·.1))).2, (U.take k).map (·.1), ownL ((csU U).take k), ()))
  (fun r => r = (U.length, (ownL (csU U)).length, (a0U U).1, (a0U U).2, U.map (·.1), ownL (csU U), ())) (fun k s hk hs => by
   subst hs
   have hU := h.len
   have j1 : inb (k : Int) (((csU U).length : Nat) : Int) = true := inb_t (by omega) (by omega)
   have r3 : rng .i64 ((k : Int) + 1) = true := rng_i64 (by omega) (by omega)
   have hx : U[k] ∈ U := List.getElem_mem hk
   have hm : cs U[k].1 U[k].2 ∈ csU U := List.mem_map.2 ⟨_, hx, rfl⟩
   have g1 := csU_get hk
   obtain ⟨g2, g3⟩ := cs_hd (a := U[k].1) (ds := U[k].2)
   have j2 : inb (0 : Int) (((cs U[k].1 U[k].2).length : Nat) : Int) = true := inb_t (by omega) (by omega)
   have hsb : Bd 1000000 (sm ((U.take k).map (·.1))) := by
    refine (sm_bd (n := 4) (K := 1000) (by simp; omega) (fun p hp => ?_) (by omega)).le (by omega)
    obtain ⟨y, hy, rfl⟩ := List.mem_map.1 hp
    exact h.hd (List.mem_of_mem_take hy)
   have d1 : ∀ x : Pt, decide (k + (List.take 1 (List.drop 0 [x])).length < bigL) = true := fun x => decide_eq_true (by rw [bigL_eq]; simp; omega)
   have eB : (U.take (k + 1)).map (·.1) = (U.take k).map (·.1) ++ [U[k].1] := by rw [List.take_succ_eq_append_getElem hk, List.map_append]; rfl
   have eS : sm ((U.take (k + 1)).map (·.1)) = add (sm ((U.take k).map (·.1))) U[k].1 := by rw [eB, sm_append]; simp [sm, add_zero]
   have eO : ownL ((csU U).take (k + 1)) = ownL ((csU U).take k) ++ (sidesL (cs U[k].1 U[k].2)).map fun s => (s, (k : Int)) := by
    rw [List.take_succ_eq_append_getElem (by omega), ownL_snoc]
    have : (csU U)[k]'(by omega) = cs U[k].1 U[k].2 := by simp [csU]
    rw [this, List.length_take, Nat.min_eq_left (by omega)]
   have hle : (ownL ((csU U).take k)).length ≤ 100000 := by have := ownL_take_len (csU U) k; have := h.tot; omega
   have tk : ((U.take k).map (·.1)).take k = (U.take k).map (·.1) := List.take_of_length_le (by simp; omega)
   refine ⟨_, ?_, rfl⟩
   simp only [g33_0, run_br, run_nb, run_ni, run_nd, run_bd, run_ret, j1, r3, need_true, br_d, Int.toNat_natCast, g1, j2, Int.toNat_zero, g2, pr_eta, F37]
   rw [if_pos (by omega), bind_of (k35 (hsb.le (by omega)) ((h.hd hx).le (by omega)))]
   simp only [d1, need_true, bindO_s]
   rw [bind_of (in33 (h.sz _ hm) (h.bd _ hm) hle)]
   simp only [r3, need_true]
   rw [eO, eS, eB, List.drop_zero, List.drop_zero, tk]
   simp) (fun s hs => by
   subst hs
   refine ⟨_, ?_, rfl⟩
   simp only [g33_0, run_br, run_ret, br_d, hlU]
   rw [if_neg (by omega), ← hlU, List.take_length, hlU, List.take_length]
   rfl) (x := (0, csU U, (((csU U).length : Nat) : Int), 0, 0, 0, 0, [], [], ())) (by simp [sm, ownL])
 rw [q1, q2]
/-- What holds after so many sides. -/
structure SB (U : List Pol) (k : Nat) (s : SSt) : Prop where
 at_ : Bd (4000 + 2000 * k) s.1
 len : s.2.1.length = U.length
 now : ∀ p ∈ s.2.1, Bd (1000 + 2000 * k) p
 c : s.2.2.1 ≠ [] ∧ s.2.2.1.length ≤ k + 1
 l2 : s.2.2.2.1.length = s.2.2.1.length
 d : Bd 2000 s.2.2.2.2
theorem SB.step {U : List Pol} {k : Nat} {s : SSt} (h : SB U k s) {x : Go.Geo.Own} (hx : Bd 2000 x.1) : SB U (k + 1) (sst s x) := by
 have e : (4000 + 2000 * ((k + 1 : Nat) : Int)) = 4000 + 2000 * (k : Int) + 2000 := by omega
 have hl : (if s.2.2.2.2 ≠ (0, 0) ∧ sam s.2.2.2.2 x.1 then s.2.2.1.dropLast else s.2.2.1).length ≤ s.2.2.1.length := by split <;> simp
 refine ⟨?_, ?_, ?_, ⟨by simp [sst], ?_⟩, ?_, hx⟩
 ·rw [e]; exact bd_add h.at_ hx
 ·simp only [sst, List.length_set]; exact h.len
 ·intro p hp
  rcases List.mem_or_eq_of_mem_set hp with hp | rfl
  ·exact (h.now p hp).le (by omega)
  ·have : Bd (1000 + 2000 * (k : Int)) (s.2.1.getD x.2 (0, 0)) := by
    by_cases hi : x.2 < s.2.1.length
    ·exact h.now _ (getD_mem hi)
    ·rw [getD_out _ (by omega)]; exact bd0 (by omega)
   exact (bd_add this hx).le (by omega)
 ·have := h.c.2
  simp only [sst, List.length_append, List.length_singleton]; omega
 ·simp only [sst, List.length_append, List.length_singleton]
  split
  ·simp [h.l2]
  ·rw [h.l2]
end Go.Proofs.Try
end
section
namespace Go.Proofs.Try
open Go.AM Go.Geo
set_option maxRecDepth 100000
def fs (U : List Pol) (L : List OwF) : SSt := (L.map prj).foldl sst (st0 U)
theorem eqz (a b : Int) : (a == 0 && (b == 0 && true)) = decide ((a, b) = ((0 : Int), (0 : Int))) := by
 by_cases h1 : a = 0 <;> by_cases h2 : b = 0 <;> simp [h1, h2]
theorem h0_eq {d e : Pt} : (((if h0 d = true then (0 : Int) else 1) == (if h0 e = true then (0 : Int) else 1)) = true) ↔ h0 d = h0 e := by
 cases h0 d <;> cases h0 e <;> simp
abbrev S33 := Nat × Nat × Int × Int × Nat × Int × Int × (List (Int × Int)) × Nat × Nat × Int × Int × (List (((Int × Int) × Int × Int) × Int)) × (List (Int × Int)) × (List (List (Int × Int))) × Unit
def S33.mk (U : List Pol) (L : List OwF) (k : Nat) (s : SSt) : S33 := (U.length, L.length, ((L.length : Nat) : Int), (k : Int), L.length, s.1.1, s.1.2, s.2.1, s.2.2.1.length, s.2.2.2.1.length, s.2.2.2.2.1, s.2.2.2.2.2, L, s.2.2.1, s.2.2.2.1, ())
theorem sst_y {a d e : Pt} {now cor : List Pt} {prt : List (List Pt)} {o : Nat} (h : d ≠ (0, 0) ∧ sam d e) : sst (a, now, cor, prt, d) (e, o) = (add a e, now.set o (add (now.getD o (0, 0)) e), cor.dropLast ++ [add a e], prt.dropLast ++ [now.set o (add (now.getD o (0, 0)) e)], e) := by
 unfold sst; simp only []; rw [if_pos h, if_pos h]
theorem sst_n {a d e : Pt} {now cor : List Pt} {prt : List (List Pt)} {o : Nat} (h : ¬ (d ≠ (0, 0) ∧ sam d e)) : sst (a, now, cor, prt, d) (e, o) = (add a e, now.set o (add (now.getD o (0, 0)) e), cor ++ [add a e], prt ++ [now.set o (add (now.getD o (0, 0)) e)], e) := by
 unfold sst; simp only []; rw [if_neg h, if_neg h]
theorem st33 {U : List Pol} {L : List OwF} {k : Nat} (hU : U.length ≤ 4) (hL : L.length ≤ 19) (hg : ∀ x ∈ L, GoodO x ∧ x.2 < U.length) (hk : k < L.length) {s : SSt} (hs : SB U k s) :
  run0 (g33_2 (S33.mk U L k s)) = some (.inl (S33.mk U L (k + 1) (sst s (prj L[k])))) := by
 obtain ⟨⟨xb, x0, x1⟩, xu⟩ := hg _ (List.getElem_mem hk)
 have gx : L.getD k ((((0 : Int), (0 : Int)), ((0 : Int), (0 : Int))), (0 : Int)) = L[k] := getD_el _ hk
 obtain ⟨o, ho⟩ : ∃ o : Nat, L[k].2 = (o : Int) := ⟨L[k].2.toNat, by omega⟩
 have hou : o < U.length := by omega
 have eP : prj L[k] = (L[k].1.2, o) := by simp [prj, ho]
 generalize L[k] = x at *
 obtain ⟨hat, hln, hnow, ⟨hc1, hc2⟩, hl2, hd⟩ := hs
 obtain ⟨at_, now, cor, prt, d⟩ := s
 simp only at hat hln hnow hc1 hc2 hl2 hd
 have hp1 : prt ≠ [] := fun e => by rw [e] at hl2; simp at hl2; exact hc1 (List.length_eq_zero_iff.1 hl2.symm)
 have j1 : inb (k : Int) ((L.length : Nat) : Int) = true := inb_t (by omega) (by omega)
 have d0 : decide (0 + k < L.length) = true := decide_eq_true (by omega)
 have r3 : rng .i64 ((k : Int) + 1) = true := rng_i64 (by omega) (by omega)
 have j2 : inb (o : Int) ((U.length : Nat) : Int) = true := inb_t (by omega) (by omega)
 have d2 : decide (0 + o < now.length) = true := decide_eq_true (by omega)
 have lc : 0 < cor.length := List.length_pos_iff.2 hc1
 have r4 : rng .i64 (((cor.length : Nat) : Int) - 1) = true := rng_i64 (by omega) (by omega)
 have j3 : inb (((cor.length : Nat) : Int) - 1) ((cor.length : Nat) : Int) = true := inb_t (by omega) (by omega)
 have t3 : Int.toNat (((cor.length : Nat) : Int) - 1) = cor.length - 1 := by omega
 have d3 : decide (cor.length - 1 < cor.length) = true := decide_eq_true (by omega)
 have gn : Bd (1000 + 2000 * (k : Int)) (now.getD o (0, 0)) := hnow _ (getD_mem (by omega))
 have d4 : ∀ x : Pt, decide (cor.length + (List.take 1 (List.drop 0 [x])).length < bigL) = true := fun x => decide_eq_true (by rw [bigL_eq]; simp; omega)
 have d5 : ∀ x : List Pt, decide (cor.length + (List.take 1 (List.drop 0 [x])).length < bigL) = true := fun x => decide_eq_true (by rw [bigL_eq]; simp; omega)
 have c55 := kH55v (l := now) (by omega)
 rw [hln] at c55
 have tk : ∀ y : Pt, ((now.set o y).drop 0).take U.length = now.set o y := fun y => by rw [List.drop_zero]; exact List.take_of_length_le (by simp [hln])
 unfold S33.mk
 simp only [g33_2, run_br, run_nb, run_ni, run_nd, run_bd, run_ret, run_jx, Int.toNat_natCast, Nat.zero_add, j1, gx, need_true, br_d, pr_eta]
 rw [if_pos (by omega)]
 rw [need_t (by simpa using d0)]
 rw [bind_of (k35 (hat.le (by omega)) (xb.le (by omega)))]
 rw [bind_of c55]
 simp only [ho, j2, need_true, Int.toNat_natCast]
 rw [need_t (by simpa using d2), bind_of (k35 (gn.le (by omega)) (xb.le (by omega)))]
 rw [need_t (by simpa using d2)]
 simp only [k53, bindO_s, r4, need_true, t3, j3, d3, hl2, d4, d5, tk, pr_eta]
 have i4 : (((k + 1 : Nat) : Int)) = (k : Int) + 1 := by omega
 have napp : ¬ (d ≠ (0, 0) ∧ sam d x.1.2) → some (Sum.inl (U.length, L.length, ((L.length : Nat) : Int), (k : Int) + 1, L.length, (add at_ x.1.2).1, (add at_ x.1.2).2, now.set o (add (now.getD o (0, 0)) x.1.2), cor.length + (List.take 1 (List.drop 0 [add at_ x.1.2])).length,
   cor.length + (List.take 1 (List.drop 0 [now.set o (add (now.getD o (0, 0)) x.1.2)])).length, x.1.2.1, x.1.2.2, L, List.take cor.length (List.drop 0 cor) ++ List.take 1 (List.drop 0 [add at_ x.1.2]), List.take cor.length (List.drop 0 prt) ++ List.take 1 (List.drop 0 [now.set o (add (now.getD o (0, 0)) x.1.2)]), ())) =
   some (Sum.inl (β := Nat × Nat × Nat × (List (((Int × Int) × Int × Int) × Int)) × (List (Int × Int)) × (List (List (Int × Int))) × Unit) (S33.mk U L (k + 1) (sst (at_, now, cor, prt, d) (x.1.2, o)))) := by
  intro hn
  have e5 : List.take cor.length (List.drop 0 prt) = prt := by rw [← hl2]; simp
  rw [sst_n hn, e5]
  simp only [S33.mk, i4]
  simp [hl2]
 rw [eP]
 by_cases e1 : h0 d = h0 x.1.2
 ·rw [br_t (h0_eq.2 e1), bind_of (k48 (hd.le (by omega)) (xb.le (by omega)))]
  by_cases e2 : cr d x.1.2 = 0
  ·rw [br_t (by simp [e2]), eqz]
   by_cases e3 : d = (0, 0)
   ·rw [br_f (by simp [e3])]
    simp only [bindO_s, onS, r3, need_true]
    exact napp fun h => h.1 e3
   ·rw [br_t (by simp [e3])]
    simp only [bindO_s, onS, r3, need_true]
    rw [sst_y ⟨e3, e1, e2⟩]
    simp only [S33.mk, i4]
    rw [set_last hc1, last_len hc1, last_len hp1]
    have := set_last (x := now.set o (add (now.getD o (0, 0)) x.1.2)) hp1
    rw [hl2] at this
    rw [this, hl2]
  ·rw [br_f (by simp [e2])]
   simp only [bindO_s, onS, r3, need_true]
   exact napp fun h => e2 h.2.2
 ·rw [br_f (by rw [← Bool.not_eq_true, h0_eq]; exact e1)]
  simp only [bindO_s, onS, r3, need_true]
  exact napp fun h => e1 h.2.1
theorem it33_2 {U : List Pol} {L : List OwF} (hU : U.length ≤ 4) (hL : L.length ≤ 19) (hg : ∀ x ∈ L, GoodO x ∧ x.2 < U.length) (h0 : SB U 0 (st0 U)) :
  iter (fun s => run0 (g33_2 s)) (S33.mk U L 0 (st0 U)) = some (L.length, (fs U L).2.2.1.length, (fs U L).2.2.2.1.length, L, (fs U L).2.2.1, (fs U L).2.2.2.1, ()) ∧ SB U L.length (fs U L) := by
 have hsb : ∀ k, k ≤ L.length → SB U k (fs U (L.take k)) := by
  intro k
  induction k with
  | zero => intro _; exact h0
  | succ k ih =>
   intro hk
   have hk1 : k < L.length := by omega
   have e : fs U (L.take (k + 1)) = sst (fs U (L.take k)) (prj L[k]) := by
    unfold fs; rw [List.take_succ_eq_append_getElem hk1, List.map_append, List.foldl_append]; rfl
   rw [e]
   exact (ih (by omega)).step (hg _ (List.getElem_mem hk1)).1.bd
 have hall := hsb _ (Nat.le_refl _)
 rw [List.take_length] at hall
 refine ⟨?_, hall⟩
 obtain ⟨r, q1, q2⟩ := iter_ex (step := fun s => run0 (g33_2 s)) L.length (fun k s => s = S33.mk U L k (fs U (L.take k)))
  (fun r => r = (L.length, (fs U L).2.2.1.length, (fs U L).2.2.2.1.length, L, (fs U L).2.2.1, (fs U L).2.2.2.1, ())) (fun k s hk hs => by
   subst hs
   refine ⟨_, st33 hU hL hg hk (hsb k (by omega)), ?_⟩
   unfold fs; rw [List.take_succ_eq_append_getElem hk, List.map_append, List.foldl_append]; rfl) (fun s hs => by
   subst hs
   rw [List.take_length]
   refine ⟨_, ?_, rfl⟩
   unfold S33.mk
   simp only [g33_2, run_br, run_ret, br_d]
   rw [if_neg (by omega)]) (x := S33.mk U L 0 (st0 U)) rfl
 rw [q1, q2]
theorem OkS.good {U : List Pol} (h : OkS U) : ∀ x ∈ isort ltO (ownL (csU U)), GoodO x ∧ x.2 < U.length := by
 intro x hx
 have hx := (isort_perm _).mem_iff.1 hx
 have hn := (ownL_sorted (csU U)).2 x hx
 rw [show (csU U).length = U.length by simp [csU]] at hn
 have hl := h.len
 refine ⟨⟨?_, hn.1, by omega⟩, hn.2⟩
 unfold ownL at hx
 obtain ⟨z, hz, hx⟩ := List.mem_flatten.1 hx
 obtain ⟨⟨l, i⟩, hli, rfl⟩ := List.mem_map.1 hz
 obtain ⟨s, hs, rfl⟩ := List.mem_map.1 hx
 have hl : l ∈ csU U := List.fst_mem_of_mem_zipIdx hli
 have hgd : ∀ i, Bd 1000 (l.getD i (0, 0)) := fun i => by
  by_cases hh : i < l.length
  ·exact h.bd _ hl _ (getD_mem hh)
  ·rw [getD_out _ (by omega)]; exact bd0 (by omega)
 unfold sidesL at hs
 split at hs
 ·obtain ⟨j, -, rfl⟩ := List.mem_map.1 hs
  exact (bd_sub (hgd _) (hgd _)).le (by omega)
 ·cases hs
theorem OkS.sb0 {U : List Pol} (h : OkS U) : SB U 0 (st0 U) := by
 have hb : ∀ p ∈ U.map (·.1), Bd 1000 p := fun p hp => by
  obtain ⟨y, hy, rfl⟩ := List.mem_map.1 hp
  exact h.hd hy
 refine ⟨?_, by simp [st0], fun p hp => (hb p hp).le (by simp), ⟨by simp [st0], by simp [st0]⟩, by simp [st0], bd0 (by omega)⟩
 exact (sm_bd (n := 4) (K := 1000) (by have := h.len; simp; omega) hb (by omega)).le (by simp)
/-- The sum. -/
theorem k33 {U : List Pol} (h : OkS U) : run0 (F33 (csU U)) = some (addU U, ()) := by
 have hg := h.good
 have ht := h.tot
 have hlen : (isort ltO (ownL (csU U))).length = (ownL (csU U)).length := isort_length _
 obtain ⟨q, hb⟩ := it33_2 h.len (by omega) hg h.sb0
 have efs : fs U (isort ltO (ownL (csU U))) = (srtS U).foldl sst (st0 U) := by unfold fs; rw [srt_own h.sd]
 rw [efs] at q hb
 simp only [F33, run_bd, run_it, run_br, run_ni, run_nd, run_ret]
 rw [bind_of (it33_0 h), bind_of (kH50 (fun x hx => (hg x ((isort_perm _).mem_iff.2 hx)).1) ht)]
 have e0 : (U.length, (ownL (csU U)).length, (((ownL (csU U)).length : Nat) : Int), (0 : Int), (ownL (csU U)).length, (a0U U).1, (a0U U).2, U.map (·.1), (1 : Nat), (1 : Nat), (0 : Int), (0 : Int), isort ltO (ownL (csU U)), [((a0U U).1, (a0U U).2)], [((U.map (·.1)).drop 0).take U.length], ()) = S33.mk U (isort ltO (ownL (csU U))) 0 (st0 U) := by
  unfold S33.mk
  rw [hlen, List.drop_zero, List.take_of_length_le (by simp)]
  simp [st0]
 simp only [e0]
 rw [bind_of q]
 have hc := hb.c.1
 have hl := hb.l2
 have hk := hb.c.2
 generalize hs : (srtS U).foldl sst (st0 U) = s at hb hc hl hk
 have hpos : 0 < s.2.2.1.length := List.length_pos_iff.2 hc
 have r1 : rng .i64 (((s.2.2.1.length : Nat) : Int) - 1) = true := rng_i64 (by omega) (by omega)
 have d1 : decide ((0 : Int) ≤ ((s.2.2.1.length : Nat) : Int) - 1) = true := decide_eq_true (by omega)
 have d2 : decide (((s.2.2.1.length : Nat) : Int) - 1 ≤ ((s.2.2.1.length : Nat) : Int)) = true := decide_eq_true (by omega)
 have t1 : Int.toNat (((s.2.2.1.length : Nat) : Int) - 1) = s.2.2.1.length - 1 := by omega
 have t2 : s.2.2.1.take (s.2.2.1.length - 1) = s.2.2.1.dropLast := List.dropLast_eq_take.symm
 have t3 : s.2.2.2.1.take (s.2.2.1.length - 1) = s.2.2.2.1.dropLast := by rw [← hl]; exact List.dropLast_eq_take.symm
 have hall : (ownL (csU U)).length = (allS U 0).length := by rw [← ownL_prj h.sd, List.length_map]
 simp only [hl, r1, d1, d2, t1, need_true, br_d, List.drop_zero, Nat.zero_add, Int.toNat_zero, Nat.sub_zero, t2, t3, Int.le_refl, decide_true]
 unfold addU
 by_cases he : allS U 0 = []
 ·have e1 : srtS U = [] := List.Perm.eq_nil (he ▸ srtS_perm U)
  rw [e1] at hs
  simp only [List.foldl_nil] at hs
  subst hs
  rw [if_neg (by rw [hlen, hall, he]; simp), if_pos he, List.take_length]
  rw [← hl, List.take_length]
 ·have e2 : 0 < (allS U 0).length := List.length_pos_iff.2 he
  rw [if_pos (by rw [hlen]; omega), if_neg he, hs]
end Go.Proofs.Try
end
section
namespace Go.Proofs.Try
open Go.AM Go.Geo
set_option maxRecDepth 100000
theorem OkS.take {U : List Pol} (h : OkS U) : ∀ x ∈ U, Sd x.2 ∧ (∀ p ∈ cs x.1 x.2, Bd 1000 p) ∧ (cs x.1 x.2).length ≤ 1000 := fun x hx => by
 have hm : cs x.1 x.2 ∈ csU U := List.mem_map.2 ⟨x, hx, rfl⟩
 exact ⟨h.sd x hx, h.bd _ hm, h.sz _ hm⟩
theorem k59 {a K : Int} (h0 : 0 ≤ K) (h1 : K ≤ 1000000000) : run0 (F59 a K) = some (decide (-K ≤ a ∧ a ≤ K), ()) := by
 simp only [F59, run_ni, run_br, run_ret, br_d]
 rw [need_i64 (by omega) (by omega)]
 by_cases h : 0 - K ≤ a
 ·rw [if_pos h]
  have : (-K ≤ a ∧ a ≤ K) ↔ a ≤ K := by omega
  simp only [this]
 ·rw [if_neg h]
  have : ¬ (-K ≤ a ∧ a ≤ K) := by omega
  simp [this]
theorem k16 {U : List Pol} (h : OkS U) (h2 : OkU (csU U)) : run0 (F16 (csU U)) = some ((addU U).1, 0, ()) := by
 simp only [F16, run_bd, run_br, run_ret]
 rw [bind_of (k29 h2), beq_self_eq_true, Bool.not_true, br_false, bind_of (k33 h)]
end Go.Proofs.Try
end
section
namespace Go.Proofs.Try
open Go.AM Go.Geo
set_option maxRecDepth 100000
theorem ownL_len (m : Nat) : ∀ n (ls : List (List Pt)), ls.length = n → (∀ l ∈ ls, l.length ≤ m) → (ownL ls).length ≤ m * n := by
 intro n
 induction n with
 | zero => intro ls hl _; rw [List.length_eq_zero_iff.1 hl]; simp [ownL]
 | succ n ih =>
  intro ls hl hm
  have hne : ls ≠ [] := fun e => by rw [e] at hl; simp at hl
  have e := List.dropLast_concat_getLast hne
  have i1 := ih ls.dropLast (by simp; omega) fun l h => hm l (List.dropLast_subset _ h)
  have i2 := hm _ (List.getLast_mem hne)
  have i3 : (sidesL (ls.getLast hne)).length ≤ (ls.getLast hne).length := by unfold sidesL; split <;> simp
  rw [← e, ownL_snoc, List.length_append, List.length_map, Nat.mul_succ]
  omega
theorem uns_len {x : List (List Pt)} (hb : ∀ a ∈ x, ∀ p ∈ a, Bd 128 p) : ∀ l ∈ uns x, l.length ≤ 4 := by
 intro l hl
 obtain ⟨a, ha, rfl⟩ := List.mem_map.1 hl
 obtain ⟨c1, c2, -⟩ := cl_facts (hb a (List.mem_of_mem_take ha))
 exact Nat.le_trans (hull_len c1).1 c2
theorem csU_len {U : List Pol} : (csU U).length = U.length := by simp [csU]
/-- The units of a statement. -/
structure Us (x : List (List Pt)) (U : List Pol) : Prop where
 eq : uns x = csU U
 s : OkS U
 u : OkU (csU U)
 l3 : U.length ≤ 3
 l4 : ∀ l ∈ csU U, l.length ≤ 4
 bd : ∀ l ∈ csU U, ∀ p ∈ l, Bd 16 p
theorem us_of {x : List (List Pt)} (h : WfX x) : ∃ U, Us x U := by
 obtain ⟨h1, h2, h3, U, hU, hs⟩ := uns_ok h.bd
 have h4 := uns_len h.bd
 rw [← hU] at h1 h2 h3 h4
 have hl : U.length ≤ 3 := by rw [← csU_len]; exact h2
 refine ⟨U, hU.symm, ⟨by omega, hs, h1.bd, fun l hl => ?_, ?_⟩, h1, hl, h4, h3⟩
 ·have := h4 l hl; omega
 ·have := ownL_len 4 _ (csU U) rfl h4
  omega
theorem Us.sums {x : List (List Pt)} {U : List Pol} (h : Us x U) : run0 (F11 (csU U)) = some (Go.Geo.sums (csU U), ()) ∧ (Go.Geo.sums (csU U)).length ≤ 64 ∧ ∀ p ∈ Go.Geo.sums (csU U), Bd 3000 p :=
 k11 (by rw [csU_len]; exact h.l3) h.l4 h.s.bd
/-- The sum's corners. -/
abbrev sC (U : List Pol) : List Pt := cs (a0U U) (dsU U)
theorem addU_len {U : List Pol} (h : OkS U) : (addU U).1.length ≤ 20 := by
 have ht := h.tot
 have hlen : (isort ltO (ownL (csU U))).length = (ownL (csU U)).length := isort_length _
 have hb := (it33_2 h.len (by omega) h.good h.sb0).2
 have efs : fs U (isort ltO (ownL (csU U))) = (srtS U).foldl sst (st0 U) := by unfold fs; rw [srt_own h.sd]
 rw [efs] at hb
 have := hb.c.2
 unfold addU
 split
 ·simp [st0]
 ·simp only [List.length_dropLast]; omega
theorem Us.sum {x : List (List Pt)} {U : List Pol} (h : Us x U) : run0 (F16 (csU U)) = some (sC U, 0, ()) ∧ IsSum U (a0U U) (dsU U) ∧ (∀ p ∈ sC U, Bd 3000 p) ∧ (sC U).length ≤ 20 := by
 obtain ⟨a1, -, a3⟩ := addU_ok h.s.sd
 refine ⟨by rw [k16 h.s h.u, a1], a3, fun p hp => h.sums.2.2 p (isSum_sub a3 p hp), by have := addU_len h.s; rw [a1] at this; exact this⟩
theorem i8_min : IntKind.i8.min = -128 := by decide
theorem i8_max : IntKind.i8.max = 127 := by decide
abbrev tP : Ty := .prod (.int .i8) (.int .i8)
abbrev tX : Ty := .list (.list tP)
theorem pt_of {p : Pt} (h : Wf tP p) : Bd 128 p := by
 obtain ⟨h1, h2⟩ := h
 simp only [Wf, i8_min, i8_max] at h1 h2
 have a1 : p.1 ≤ (127 : Int) := h1.2
 have a2 : p.2 ≤ (127 : Int) := h2.2
 exact ⟨by omega, by omega, by omega, by omega⟩
theorem wfX_of {x : List (List Pt)} (h : Wf tX x) : WfX x := by
 have e : maxLen = 9223372036854775807 := by decide
 obtain ⟨h1, h2⟩ := h
 exact ⟨by rw [← e]; exact h1, fun a ha => by rw [← e]; exact (h2 a ha).1, fun a ha p hp => pt_of ((h2 a ha).2 p hp)⟩
end Go.Proofs.Try
end
section
namespace Go.Proofs.Try
open Go.AM
set_option maxRecDepth 100000
theorem works_ok : run0 F18 = some (true, ()) := cmp_done 200 (by kernel_rfl)
end Go.Proofs.Try
end
section
namespace Go.Proofs.Try
open Go.AM Go.Geo
set_option maxRecDepth 100000
theorem k49b {a b : Pt} (ha : Bd 100000000000000000 a) (hb : Bd 100000000000000000 b) : run0 (F49 a b) = some (sub a b, ()) := by
 obtain ⟨h1, h2, h3, h4⟩ := ha
 obtain ⟨g1, g2, g3, g4⟩ := hb
 simp only [F49, run_ni, run_ret]
 rw [need_i64 (by omega) (by omega), need_i64 (by omega) (by omega)]
 rfl
theorem k48b {a b : Pt} (ha : Bd 10000 a) (hb : Bd 100000000000000 b) : run0 (F48 a b) = some (cr a b, ()) := by
 obtain ⟨h1, h2, h3, h4⟩ := ha
 obtain ⟨g1, g2, g3, g4⟩ := hb
 have m1 := mulb h1 h2 g3 g4
 have m2 := mulb h3 h4 g1 g2
 simp only [F48, run_ni, run_ret]
 rw [need_i64 (by omega) (by omega), need_i64 (by omega) (by omega), need_i64 (by omega) (by omega)]
 rfl
theorem bd_tms {n K : Int} {p : Pt} (h0 : 0 ≤ n) (h1 : n ≤ K) (hp : Bd 100000 p) : Bd (K * 100000) (tms n p) := by
 obtain ⟨p1, p2, p3, p4⟩ := hp
 have a := mulb (K := K) (a := n) (by omega) h1 p1 p2
 have b := mulb (K := K) (a := n) (by omega) h1 p3 p4
 exact ⟨a.1, a.2, b.1, b.2⟩
theorem bd_tms2 {n K M : Int} {p : Pt} (h0 : 0 ≤ n) (h1 : n ≤ K) (hp : Bd M p) : Bd (K * M) (tms n p) := by
 obtain ⟨p1, p2, p3, p4⟩ := hp
 have a := mulb (K := K) (a := n) (by omega) h1 p1 p2
 have b := mulb (K := K) (a := n) (by omega) h1 p3 p4
 exact ⟨a.1, a.2, b.1, b.2⟩
theorem k36 {n : Int} {p : Pt} (h0 : 0 ≤ n) (h1 : n ≤ 1000000000) (hp : Bd 100000 p) : run0 (F36 p n) = some (tms n p, ()) := by
 obtain ⟨b1, b2, b3, b4⟩ := bd_tms h0 h1 hp
 simp only [tms] at b1 b2 b3 b4
 simp only [F36, run_ni, run_ret]
 rw [need_i64 (by omega) (by omega), need_i64 (by omega) (by omega)]
 rfl
def mnL (f : Pt → Int) (b : Int) (l : List Pt) : Int := l.foldl (fun s q => imin s (f q)) b
def mxL (f : Pt → Int) (b : Int) (l : List Pt) : Int := l.foldl (fun s q => imax s (f q)) b
theorem mnL_ok {f : Pt → Int} : ∀ {l : List Pt} {b : Int}, mnL f b l ≤ b ∧ (∀ v ∈ l, mnL f b l ≤ f v) ∧ (mnL f b l = b ∨ ∃ v ∈ l, mnL f b l = f v)
 | [], b => ⟨Int.le_refl _, by simp, .inl rfl⟩
 | x :: l, b => by
  have e : mnL f b (x :: l) = mnL f (imin b (f x)) l := rfl
  have hm : imin b (f x) ≤ b ∧ imin b (f x) ≤ f x ∧ (imin b (f x) = b ∨ imin b (f x) = f x) := by unfold imin; split <;> omega
  obtain ⟨h1, h2, h3⟩ := mnL_ok (f := f) (l := l) (b := imin b (f x))
  rw [e]
  refine ⟨by omega, fun v hv => ?_, ?_⟩
  ·rcases List.mem_cons.1 hv with rfl | hv
   ·omega
   ·exact h2 v hv
  ·rcases h3 with h | ⟨v, hv, h⟩
   ·rcases hm.2.2 with h' | h'
    ·left; omega
    ·right; exact ⟨x, by simp, by omega⟩
   ·exact .inr ⟨v, by simp [hv], h⟩
theorem mxL_ok {f : Pt → Int} : ∀ {l : List Pt} {b : Int}, b ≤ mxL f b l ∧ (∀ v ∈ l, f v ≤ mxL f b l) ∧ (mxL f b l = b ∨ ∃ v ∈ l, mxL f b l = f v)
 | [], b => ⟨Int.le_refl _, by simp, .inl rfl⟩
 | x :: l, b => by
  have e : mxL f b (x :: l) = mxL f (imax b (f x)) l := rfl
  have hm : b ≤ imax b (f x) ∧ f x ≤ imax b (f x) ∧ (imax b (f x) = b ∨ imax b (f x) = f x) := by unfold imax; split <;> omega
  obtain ⟨h1, h2, h3⟩ := mxL_ok (f := f) (l := l) (b := imax b (f x))
  rw [e]
  refine ⟨by omega, fun v hv => ?_, ?_⟩
  ·rcases List.mem_cons.1 hv with rfl | hv
   ·omega
   ·exact h2 v hv
  ·rcases h3 with h | ⟨v, hv, h⟩
   ·rcases hm.2.2 with h' | h'
    ·left; omega
    ·right; exact ⟨x, by simp, by omega⟩
   ·exact .inr ⟨v, by simp [hv], h⟩
theorem mnL_le {f : Pt → Int} {l : List Pt} {d : Pt} (hd : d ∈ l) {n x : Int} (hn : 0 ≤ n) : n * mnL f (f d) l ≤ x ↔ ∃ v ∈ l, n * f v ≤ x := by
 obtain ⟨h1, h2, h3⟩ := mnL_ok (f := f) (l := l) (b := f d)
 constructor
 ·intro h
  rcases h3 with e | ⟨v, hv, e⟩
  ·exact ⟨d, hd, by rw [← e]; exact h⟩
  ·exact ⟨v, hv, by rw [← e]; exact h⟩
 ·rintro ⟨v, hv, h⟩
  have := Int.mul_le_mul_of_nonneg_left (h2 v hv) hn
  omega
theorem mxL_le {f : Pt → Int} {l : List Pt} {d : Pt} (hd : d ∈ l) {n x : Int} (hn : 0 ≤ n) : x ≤ n * mxL f (f d) l ↔ ∃ v ∈ l, x ≤ n * f v := by
 obtain ⟨h1, h2, h3⟩ := mxL_ok (f := f) (l := l) (b := f d)
 constructor
 ·intro h
  rcases h3 with e | ⟨v, hv, e⟩
  ·exact ⟨d, hd, by rw [← e]; exact h⟩
  ·exact ⟨v, hv, by rw [← e]; exact h⟩
 ·rintro ⟨v, hv, h⟩
  have := Int.mul_le_mul_of_nonneg_left (h2 v hv) hn
  omega
theorem mnL_snoc {f : Pt → Int} {b : Int} {l : List Pt} {x : Pt} : mnL f b (l ++ [x]) = imin (mnL f b l) (f x) := by unfold mnL; rw [List.foldl_append]; rfl
theorem mxL_snoc {f : Pt → Int} {b : Int} {l : List Pt} {x : Pt} : mxL f b (l ++ [x]) = imax (mxL f b l) (f x) := by unfold mxL; rw [List.foldl_append]; rfl
theorem cs_side {a : Pt} {ds : List Pt} (h : Sd ds) (hne : ds ≠ []) {i : Nat} (hi : i < ds.length) : (cs a ds).getD i (0, 0) = vtx a ds i ∧ sub ((cs a ds).getD ((i + 1) % ds.length) (0, 0)) (vtx a ds i) = ds[i] := by
 have h1 := cs_get (a := a) hne hi
 refine ⟨h1, ?_⟩
 have q := congrArg (fun l => l[i]?) (sidesL_cs (a := a) h)
 simp only [sd_get hi] at q
 unfold sidesL at q
 rw [cs_len hne, if_pos (show 1 < ds.length from two_le h hne), List.getElem?_map, List.getElem?_range hi] at q
 simp only [Option.map_some, Option.some.injEq, Prod.mk.injEq] at q
 rw [← h1]; exact q.2
theorem k32 {a p : Pt} {ds : List Pt} {n : Int} (hs : Sd ds) (hl : ds.length ≤ 1000) (h0 : 0 ≤ n) (h1 : n ≤ 1000000000) (hb : ∀ v ∈ cs a ds, Bd 3000 v) (hp : Bd 10000000000000 p) [Decidable (Has a ds n p)] :
  run0 (F32 (cs a ds) p n) = some (decide (Has a ds n p), ()) := by
 have hfst : a ∈ cs a ds := cs_first
 obtain ⟨hd1, hd2⟩ := cs_hd (a := a) (ds := ds)
 have j0 : ∀ m : Nat, 0 < m → inb (0 : Int) ((m : Nat) : Int) = true := fun m hm => inb_t (by omega) (by omega)
 by_cases hne : ds = []
 ·subst hne
  have e : cs a [] = [a] := by simp [cs]
  rw [e] at hb ⊢
  have hh : Has a [] n p ↔ p = tms n a := by
   constructor
   ·intro h; exact h.1 rfl
   ·intro h
    refine ⟨fun _ => h, by simp [sd], ?_, ?_, ?_, ?_⟩ <;> (rw [e]; exact ⟨a, by simp, by rw [h]; simp [tms]⟩)
  have ha := hb a (by simp)
  simp only [F32, run_br, run_nb, run_bd, run_ret, List.length_singleton]
  rw [br_t (show (((1 : Nat) : Int) == 1) = true from rfl), need_t (j0 1 (by omega))]
  have g : ([a] : List Pt).getD (Int.toNat 0) (0, 0) = a := rfl
  simp only [g, pr_eta]
  rw [bind_of (k36 h0 h1 (ha.le (by omega)))]
  congr 2
  rw [Bool.and_true, show decide (Has a [] n p) = decide (p = tms n a) from decide_eq_decide.2 hh]
  by_cases h : p = tms n a
  ·simp [h]
  ·rw [decide_eq_false h, ← Bool.not_eq_true, Bool.and_eq_true, beq_iff_eq, beq_iff_eq]
   exact fun ⟨x, y⟩ => h (Prod.ext x.symm y.symm)
 ·have h2 := two_le hs hne
  have hcl := cs_len (a := a) hne
  have hgd : ∀ i, Bd 3000 ((cs a ds).getD i (0, 0)) := fun i => by
   by_cases hh : i < (cs a ds).length
   ·exact hb _ (getD_mem hh)
   ·rw [getD_out _ (by omega)]; exact bd0 (by omega)
  have q := iter_find (step := fun s => run0 (g32_0i_0 s)) (γ := Nat) (b := .inr (p.1, p.2, n, mnL (·.1) a.1 (cs a ds), mnL (·.2) a.2 (cs a ds), mxL (·.1) a.1 (cs a ds), mxL (·.2) a.2 (cs a ds), cs a ds, ()))
   ds.length (fun k => (cs a ds, cs a ds, (((cs a ds).length : Nat) : Int), (k : Int), cs a ds, p.1, p.2, n, mnL (·.1) a.1 ((cs a ds).take k), mnL (·.2) a.2 ((cs a ds).take k), mxL (·.1) a.1 ((cs a ds).take k), mxL (·.2) a.2 ((cs a ds).take k), ()))
   (fun k => if cr (ds.getD k (0, 0)) (sub p (tms n (vtx a ds k))) < 0 then some k else none)
   (fun k => .inl (p.1, p.2, n, mnL (·.1) a.1 ((cs a ds).take k), mnL (·.2) a.2 ((cs a ds).take k), mxL (·.1) a.1 ((cs a ds).take k), mxL (·.2) a.2 ((cs a ds).take k), cs a ds, ()))
   (fun k hk _ => by
    obtain ⟨s1, s2⟩ := cs_side (a := a) hs hne hk
    have j1 : inb (k : Int) (((cs a ds).length : Nat) : Int) = true := inb_t (by omega) (by omega)
    have r3 : rng .i64 ((k : Int) + 1) = true := rng_i64 (by omega) (by omega)
    have tm : Int.tmod ((k : Int) + 1) (((cs a ds).length : Nat) : Int) = (((k + 1) % (cs a ds).length : Nat) : Int) := by
     have e : ((k : Int) + 1) = ((k + 1 : Nat) : Int) := by omega
     rw [e]; exact Int.ofNat_tmod _ _
    have hlt : (k + 1) % (cs a ds).length < (cs a ds).length := Nat.mod_lt _ (by omega)
    have j2 : inb (((k + 1) % (cs a ds).length : Nat) : Int) (((cs a ds).length : Nat) : Int) = true := inb_t (Int.natCast_nonneg _) (Int.ofNat_lt.2 hlt)
    have z0 : (!((((cs a ds).length : Nat) : Int) == 0)) = true := by rw [Bool.not_eq_true', beq_eq_false_iff_ne]; omega
    have b1 := hgd k
    have b2 := hgd ((k + 1) % (cs a ds).length)
    have eN : ds.getD k (0, 0) = ds[k] := getD_el _ hk
    have tk : (cs a ds).take (k + 1) = (cs a ds).take k ++ [(cs a ds).getD k (0, 0)] := take_succ_getD _ (by omega)
    have s3 : sub ((cs a ds).getD ((k + 1) % (cs a ds).length) (0, 0)) ((cs a ds).getD k (0, 0)) = ds[k] := by rw [hcl, s1]; exact s2
    have bt := bd_tms2 h0 h1 b1
    simp only [g32_0i_0, run_br, run_nb, run_ni, run_nd, run_bd, run_ret, j1, r3, need_true, br_d, tm, Int.toNat_natCast, z0, j2, pr_eta]
    rw [if_pos (by omega), if_pos (by omega), bind_of (k49 (b2.le (by omega)) (b1.le (by omega))), s3]
    have b3 : Bd 6000 ds[k] := by rw [← s3]; exact (bd_sub b2 b1).le (by omega)
    rw [bind_of (k36 h0 h1 (b1.le (by omega)))]
    simp only [pr_eta]
    rw [bind_of (k49b (hp.le (by omega)) (bt.le (by omega)))]
    simp only [pr_eta]
    rw [bind_of (k48b (b3.le (by omega)) ((bd_sub hp bt).le (by omega)))]
    rw [eN, ← s1]
    by_cases hc : cr ds[k] (sub p (tms n ((cs a ds).getD k (0, 0)))) < 0
    ·rw [if_pos hc, if_pos hc]
    ·rw [if_neg hc, if_neg hc, tk, mnL_snoc, mnL_snoc, mxL_snoc, mxL_snoc]
     rfl) (fun _ => by
    simp only [g32_0i_0, run_br, run_ret, br_d]
    rw [if_neg (by omega), ← hcl, List.take_length])
  simp only [F32, g32_0, F37, run_br, run_nb, run_bd, run_it, run_ret, bindO_s]
  rw [br_f (by rw [beq_eq_false_iff_ne]; omega), need_t (j0 _ hd2), need_t (j0 _ hd2)]
  have hd1' : (cs a ds).getD (Int.toNat 0) (0, 0) = a := hd1
  simp only [hd1']
  have q' : iter (fun s => run0 (g32_0i_0 s)) (cs a ds, cs a ds, (((cs a ds).length : Nat) : Int), 0, cs a ds, p.1, p.2, n, a.1, a.2, a.1, a.2, ()) = _ := q
  by_cases hall : ∃ k, k < ds.length ∧ cr (ds.getD k (0, 0)) (sub p (tms n (vtx a ds k))) < 0
  ·have hnot : ¬ Has a ds n p := fun hh => by
    obtain ⟨k, hk, hc⟩ := hall
    have := hh.2.1 _ _ (sd_at (a := a) hk)
    rw [getD_el _ hk] at hc
    omega
   cases hf : (List.range ds.length).findSome? (fun k => if cr (ds.getD k (0, 0)) (sub p (tms n (vtx a ds k))) < 0 then some k else none) with
   | none =>
    obtain ⟨k, hk, hc⟩ := hall
    have := List.findSome?_eq_none_iff.1 hf k (List.mem_range.2 hk)
    rw [if_pos hc] at this; cases this
   | some k =>
    rw [hf] at q'
    rw [bind_of q']
    simp only [Option.elim_some, bindO_s, run_sl, run_ret]
    rw [decide_eq_false hnot]
  ·have hf : (List.range ds.length).findSome? (fun k => if cr (ds.getD k (0, 0)) (sub p (tms n (vtx a ds k))) < 0 then some k else none) = none := by
    rw [List.findSome?_eq_none_iff]
    intro k hk
    rw [if_neg fun hc => hall ⟨k, List.mem_range.1 hk, hc⟩]
   rw [hf] at q'
   rw [bind_of q']
   simp only [Option.elim_none, run_sr, run_bd, run_br, run_ret, bindO_s]
   have bmn : Bd 3000 (mnL (·.1) a.1 (cs a ds), mnL (·.2) a.2 (cs a ds)) := by
    have ha := hb a hfst
    obtain ⟨-, -, e1⟩ := mnL_ok (f := (·.1)) (l := cs a ds) (b := a.1)
    obtain ⟨-, -, e2⟩ := mnL_ok (f := (·.2)) (l := cs a ds) (b := a.2)
    have c1 : -3000 ≤ mnL (·.1) a.1 (cs a ds) ∧ mnL (·.1) a.1 (cs a ds) ≤ 3000 := by
     rcases e1 with e | ⟨v, hv, e⟩
     ·rw [e]; exact ⟨ha.1, ha.2.1⟩
     ·rw [e]; have := hb v hv; exact ⟨this.1, this.2.1⟩
    have c2 : -3000 ≤ mnL (·.2) a.2 (cs a ds) ∧ mnL (·.2) a.2 (cs a ds) ≤ 3000 := by
     rcases e2 with e | ⟨v, hv, e⟩
     ·rw [e]; exact ⟨ha.2.2.1, ha.2.2.2⟩
     ·rw [e]; have := hb v hv; exact ⟨this.2.2.1, this.2.2.2⟩
    exact ⟨c1.1, c1.2, c2.1, c2.2⟩
   have bmx : Bd 3000 (mxL (·.1) a.1 (cs a ds), mxL (·.2) a.2 (cs a ds)) := by
    have ha := hb a hfst
    obtain ⟨-, -, e1⟩ := mxL_ok (f := (·.1)) (l := cs a ds) (b := a.1)
    obtain ⟨-, -, e2⟩ := mxL_ok (f := (·.2)) (l := cs a ds) (b := a.2)
    have c1 : -3000 ≤ mxL (·.1) a.1 (cs a ds) ∧ mxL (·.1) a.1 (cs a ds) ≤ 3000 := by
     rcases e1 with e | ⟨v, hv, e⟩
     ·rw [e]; exact ⟨ha.1, ha.2.1⟩
     ·rw [e]; have := hb v hv; exact ⟨this.1, this.2.1⟩
    have c2 : -3000 ≤ mxL (·.2) a.2 (cs a ds) ∧ mxL (·.2) a.2 (cs a ds) ≤ 3000 := by
     rcases e2 with e | ⟨v, hv, e⟩
     ·rw [e]; exact ⟨ha.2.2.1, ha.2.2.2⟩
     ·rw [e]; have := hb v hv; exact ⟨this.2.2.1, this.2.2.2⟩
    exact ⟨c1.1, c1.2, c2.1, c2.2⟩
   rw [bind_of (k36 h0 h1 (bmn.le (by omega))), bind_of (k36 h0 h1 (bmx.le (by omega)))]
   simp only [tms, br_d]
   have hh : Has a ds n p ↔ n * mnL (·.1) a.1 (cs a ds) ≤ p.1 ∧ p.1 ≤ n * mxL (·.1) a.1 (cs a ds) ∧ n * mnL (·.2) a.2 (cs a ds) ≤ p.2 ∧ p.2 ≤ n * mxL (·.2) a.2 (cs a ds) := by
    rw [mnL_le hfst h0, mxL_le hfst h0, mnL_le hfst h0, mxL_le hfst h0]
    constructor
    ·intro h; exact h.2.2
    ·intro h
     refine ⟨fun e => (hne e).elim, fun v d hvd => ?_, h⟩
     obtain ⟨i, hi, e⟩ := List.getElem_of_mem hvd
     rw [sd_len] at hi
     have e' : (sd a ds)[i]? = some (v, d) := by rw [List.getElem?_eq_getElem (by rw [sd_len]; exact hi), e]
     rw [sd_get hi] at e'
     simp only [Option.some.injEq, Prod.mk.injEq] at e'
     rcases Int.lt_or_le (cr d (sub p (tms n v))) 0 with hc | hc
     ·exact (hall ⟨i, hi, by rw [getD_el _ hi, e'.1, e'.2]; exact hc⟩).elim
     ·exact hc
   rw [show decide (Has a ds n p) = decide _ from decide_eq_decide.2 hh]
   by_cases t1 : n * mnL (·.1) a.1 (cs a ds) ≤ p.1 <;> by_cases t2 : p.1 ≤ n * mxL (·.1) a.1 (cs a ds) <;> by_cases t3 : n * mnL (·.2) a.2 (cs a ds) ≤ p.2 <;> simp [t1, t2, t3] <;> exact decide_eq_decide.2 Iff.rfl
theorem k31 {ls : List (List Pt)} (h : OkU ls) {p : Pt} (hp : Bd 100000 p) : run0 (F31 ls p) = some (0, ()) := by
 obtain ⟨u1, u2, u3, u4⟩ := hp
 simp only [F31, F41, run_bd, run_br, run_ret]
 rw [bind_of (k29 h), beq_self_eq_true, br_true, bind_of (k59 (by omega) (by omega)), decide_eq_true (by omega), br_true, bind_of (k59 (by omega) (by omega)), decide_eq_true (by omega)]
 simp only [bindO_s, Bool.not_true, br_false]
theorem Us.dsl {x : List (List Pt)} {U : List Pol} (h : Us x U) : (dsU U).length ≤ 20 := by
 by_cases hne : dsU U = []
 ·rw [hne]; simp
 ·rw [← cs_len (a := a0U U) hne]; exact h.sum.2.2.2
noncomputable instance (a : Pt) (ds : List Pt) (n : Int) (p : Pt) : Decidable (Has a ds n p) := Classical.propDecidable _
/-- Can: F13. -/
theorem k13 {x : List (List Pt)} {U : List Pol} (h : Us x U) {p : Pt} (hp : Bd 100000 p) : run0 (F13 (csU U) p) = some (decide (Has (a0U U) (dsU U) 1 p), 0, ()) := by
 obtain ⟨a1, -, a3⟩ := addU_ok h.s.sd
 have hl := h.dsl
 simp only [F13, run_bd, run_br, run_ret, pr_eta]
 rw [bind_of (k31 h.u hp), beq_self_eq_true, Bool.not_true, br_false, bind_of (k33 h.s)]
 simp only [a1]
 rw [bind_of (k32 a3.sd (by omega) (by omega) (by omega) h.sum.2.2.1 (hp.le (by omega)))]
/-- What can be is among the sums. -/
theorem Us.can {x : List (List Pt)} {U : List Pol} (h : Us x U) {p : Pt} : Has (a0U U) (dsU U) 1 p ↔ amB (Go.Geo.sums (csU U)) p = true := by
 rw [amB_iff]; exact (isSum_among h.s.sd h.sum.2.1 p).symm
end Go.Proofs.Try
end
section
namespace Go.Proofs.Try
open Go.AM Go.Geo
set_option maxRecDepth 100000
theorem tms1 (p : Pt) : tms 1 p = p := by simp [tms]
theorem turn_sub (a b p : Pt) : turn a b p = cr (sub a p) (sub b p) := by simp only [turn, cr, sub]; grind
theorem has_bd {a p : Pt} {ds : List Pt} {K : Int} (hb : ∀ v ∈ cs a ds, Bd K v) (hh : Has a ds 1 p) : Bd K p := by
 obtain ⟨-, -, ⟨v1, m1, e1⟩, ⟨v2, m2, e2⟩, ⟨v3, m3, e3⟩, ⟨v4, m4, e4⟩⟩ := hh
 have := hb _ m1; have := hb _ m2; have := hb _ m3; have := hb _ m4
 unfold Bd at *
 omega
theorem crb {a b : Pt} (ha : Bd 6000 a) (hb : Bd 6000 b) : -72000000 ≤ cr a b ∧ cr a b ≤ 72000000 := by
 obtain ⟨h1, h2, h3, h4⟩ := ha
 obtain ⟨g1, g2, g3, g4⟩ := hb
 have m1 := mulb h1 h2 g3 g4
 have m2 := mulb h3 h4 g1 g2
 unfold cr; omega
/-- A mix of three corners. -/
structure Mix (C : List Pt) (p : Pt) (i0 i1 i2 : Nat) (w0 w1 w2 : Int) : Prop where
 n0 : i0 < C.length
 n1 : i1 < C.length
 n2 : i2 < C.length
 p0 : 0 ≤ w0
 p1 : 0 ≤ w1
 p2 : 0 ≤ w2
 one : 1 ≤ w0 + w1 + w2
 le : w0 + w1 + w2 ≤ 1000000000
 eq : add (add (tms w0 (C.getD i0 (0, 0))) (tms w1 (C.getD i1 (0, 0)))) (tms w2 (C.getD i2 (0, 0))) = tms (w0 + w1 + w2) p
theorem cr0 {x y u v : Int} (s1 : 0 ≤ x * v - y * u) (s2 : 0 ≤ -x * (v - y) - -y * (u - x)) : x * v = y * u := by
 have := Int.mul_comm x y
 simp only [Int.mul_sub, Int.neg_mul] at s2
 omega
theorem mix3 (a b c p : Pt) : add (add (tms (cr (sub b p) (sub c p)) a) (tms (cr (sub c p) (sub a p)) b)) (tms (cr (sub a p) (sub b p)) c) = tms (cr (sub b p) (sub c p) + cr (sub c p) (sub a p) + cr (sub a p) (sub b p)) p := by
 simp only [add, tms, cr, sub]
 exact Prod.ext (by simp only []; grind) (by simp only []; grind)
theorem mix3_sum (a b c p : Pt) : cr (sub b p) (sub c p) + cr (sub c p) (sub a p) + cr (sub a p) (sub b p) = turn a b c := by
 simp only [cr, sub, turn]; grind
theorem k34 {a p : Pt} {ds : List Pt} (hs : Sd ds) (hl : ds.length ≤ 1000) (hb : ∀ v ∈ cs a ds, Bd 3000 v) (hh : Has a ds 1 p) :
  ∃ (i0 i1 i2 : Nat) (w0 w1 w2 : Int), run0 (F34 (cs a ds) p) = some (((i0 : Int), (i1 : Int), (i2 : Int)), (w0, w1, w2), ()) ∧ Mix (cs a ds) p i0 i1 i2 w0 w1 w2 := by
 have hp := has_bd hb hh
 have hfst : a ∈ cs a ds := cs_first
 have ha := hb a hfst
 obtain ⟨hd1, hd2⟩ := cs_hd (a := a) (ds := ds)
 have j0 : inb (0 : Int) (((cs a ds).length : Nat) : Int) = true := inb_t (by omega) (by omega)
 by_cases h3 : 3 ≤ ds.length
 ·have hne : ds ≠ [] := fun e => by rw [e] at h3; simp at h3
  have hcl := cs_len (a := a) hne
  have hgd : ∀ i, Bd 3000 ((cs a ds).getD i (0, 0)) := fun i => by
   by_cases hi : i < (cs a ds).length
   ·exact hb _ (getD_mem hi)
   ·rw [getD_out _ (by omega)]; exact bd0 (by omega)
  let A : Pt := sub a p
  let V : Nat → Pt := fun i => sub ((cs a ds).getD i (0, 0)) p
  have bA : Bd 6000 A := (bd_sub ha hp).le (by omega)
  have bV : ∀ i, Bd 6000 (V i) := fun i => (bd_sub (hgd i) hp).le (by omega)
  let ok : Nat → Prop := fun k => 0 ≤ cr (V (k + 1)) (V (k + 2)) ∧ 0 ≤ cr (V (k + 2)) A ∧ 0 ≤ cr A (V (k + 1))
  have q := iter_find (step := fun s => run0 (g34_0 s)) (γ := Nat) (b := .inr ((List.replicate 3 (0 : Int)), (List.replicate 3 (0 : Int)), ()))
   (ds.length - 2) (fun k => (cs a ds, ((k + 1 : Nat) : Int), p.1, p.2, (List.replicate 3 (0 : Int)), (List.replicate 3 (0 : Int)), ()))
   (fun k => if ok k then some k else none)
   (fun k => .inl ([(0 : Int), ((k + 1 : Nat) : Int), ((k + 2 : Nat) : Int)], [cr (V (k + 1)) (V (k + 2)), cr (V (k + 2)) A, cr A (V (k + 1))], ()))
   (fun k hk _ => by
    have e2 : ((k + 1 : Nat) : Int) + 1 = ((k + 2 : Nat) : Int) := by omega
    have j1 : inb ((k + 1 : Nat) : Int) (((cs a ds).length : Nat) : Int) = true := inb_t (by omega) (by omega)
    have j2 : inb ((k + 2 : Nat) : Int) (((cs a ds).length : Nat) : Int) = true := inb_t (by omega) (by omega)
    have r3 : rng .i64 ((k + 2 : Nat) : Int) = true := rng_i64 (by omega) (by omega)
    have hd1' : (cs a ds).getD (Int.toNat 0) (0, 0) = a := hd1
    simp only [g34_0, run_br, run_nb, run_ni, run_nd, run_bd, run_ret, e2, j0, j1, j2, r3, need_true, br_d, Int.toNat_natCast, pr_eta, hd1']
    rw [if_pos (by omega), bind_of (k49 (ha.le (by omega)) (hp.le (by omega))), bind_of (k49 ((hgd _).le (by omega)) (hp.le (by omega))), bind_of (k49 ((hgd _).le (by omega)) (hp.le (by omega)))]
    simp only [pr_eta]
    rw [bind_of (k48 ((bV (k + 1)).le (by omega)) ((bV (k + 2)).le (by omega))), bind_of (k48 ((bV (k + 2)).le (by omega)) (bA.le (by omega))), bind_of (k48 (bA.le (by omega)) ((bV (k + 1)).le (by omega)))]
    simp only []
    by_cases c1 : 0 ≤ cr (V (k + 1)) (V (k + 2))
    ·by_cases c2 : 0 ≤ cr (V (k + 2)) A
     ·by_cases c3 : 0 ≤ cr A (V (k + 1))
      ·rw [if_pos c1, if_pos c2, if_pos c3, if_pos (show ok k from ⟨c1, c2, c3⟩)]
      ·rw [if_pos c1, if_pos c2, if_neg c3, if_neg (show ¬ ok k from fun h => c3 h.2.2)]
     ·rw [if_pos c1, if_neg c2, if_neg (show ¬ ok k from fun h => c2 h.2.1)]
    ·rw [if_neg c1, if_neg (show ¬ ok k from fun h => c1 h.1)]) (fun _ => by
    have e2 : ((ds.length - 2 + 1 : Nat) : Int) + 1 = ((ds.length : Nat) : Int) := by omega
    simp only [g34_0, run_br, run_ni, run_ret, br_d, e2]
    rw [need_i64 (by omega) (by omega), if_neg (by omega)])
  obtain ⟨i, i1, i2, f1, f2, f3⟩ := fan hs (by omega) hh h3
  simp only [tms1] at f1 f2 f3
  have eV : ∀ j, j < ds.length → V j = sub (vtx a ds j) p := fun j hj => by show sub _ _ = _; rw [cs_get hne hj]
  have okk : ok (i - 1) := by
   have e1 : i - 1 + 1 = i := by omega
   have e2 : i - 1 + 2 = i + 1 := by omega
   show 0 ≤ cr (V (i - 1 + 1)) (V (i - 1 + 2)) ∧ 0 ≤ cr (V (i - 1 + 2)) A ∧ 0 ≤ cr A (V (i - 1 + 1))
   rw [e1, e2, eV i (by omega), eV (i + 1) (by omega)]
   rw [turn_sub] at f1 f2 f3
   exact ⟨f1, f2, f3⟩
  cases hf : (List.range (ds.length - 2)).findSome? (fun k => if ok k then some k else none) with
  | none =>
   have := List.findSome?_eq_none_iff.1 hf (i - 1) (List.mem_range.2 (by omega))
   rw [if_pos okk] at this; cases this
  | some k =>
   obtain ⟨k', hk', e⟩ := List.exists_of_findSome?_eq_some hf
   have hok : ok k ∧ k < ds.length - 2 := by
    by_cases ho : ok k'
    ·rw [if_pos ho] at e; cases e; exact ⟨ho, List.mem_range.1 hk'⟩
    ·rw [if_neg ho] at e; cases e
   obtain ⟨⟨c1, c2, c3⟩, hk⟩ := hok
   rw [hf] at q
   have q' : iter (fun s => run0 (g34_0 s)) (cs a ds, 1, p.1, p.2, (List.replicate 3 (0 : Int)), (List.replicate 3 (0 : Int)), ()) = _ := q
   have b1 := crb (bV (k + 1)) (bV (k + 2))
   have b2 := crb (bV (k + 2)) bA
   have b3 := crb bA (bV (k + 1))
   have hsum : cr (V (k + 1)) (V (k + 2)) + cr (V (k + 2)) A + cr A (V (k + 1)) = turn a (vtx a ds (k + 1)) (vtx a ds (k + 2)) := by
    rw [eV _ (by omega), eV _ (by omega)]; exact mix3_sum _ _ _ _
   have hpos := conv_at (a := a) hs (i := k + 1) (by omega) (by omega)
   refine ⟨0, k + 1, k + 2, _, _, _, ?_, ⟨by omega, by omega, by omega, c1, c2, c3, ?_, by omega, ?_⟩⟩
   ·simp only [F34, run_br, run_nb, run_ni, run_nd, run_bd, run_it, run_ret, j0, need_true]
    rw [need_i64 (by omega) (by omega), need_inb (by omega) (by omega), br_f (by rw [beq_eq_false_iff_ne]; omega), br_f (by rw [beq_eq_false_iff_ne]; omega), bind_of q']
    simp only [Option.elim_some, run_sl, run_ret]
    rfl
   ·rw [hsum]; exact hpos
   ·rw [hd1]
    have := mix3 a ((cs a ds).getD (k + 1) (0, 0)) ((cs a ds).getD (k + 2) (0, 0)) p
    exact this
 ·rcases two_of hs h3 with rfl | ⟨d, rfl, hdz⟩
  ·have e : cs a [] = [a] := by simp [cs]
   have hpa : p = a := by have := hh.1 rfl; rw [tms1] at this; exact this
   refine ⟨0, 0, 0, 1, 0, 0, ?_, ⟨by rw [e]; simp, by rw [e]; simp, by rw [e]; simp, by omega, by omega, by omega, by omega, by omega, ?_⟩⟩
   ·rw [e]
    simp only [F34, run_br, run_nb, run_ni, run_nd, run_bd, run_it, run_ret, List.length_singleton]
    rw [need_inb (by omega) (by omega), need_i64 (by omega) (by omega), need_inb (by omega) (by omega), br_t (show (((1 : Nat) : Int) == 1) = true from rfl)]
    rfl
   ·rw [e, hpa]; simp [tms, add]
  ·have e : cs a [d, neg d] = [a, add a d] := by simp [cs, vs]
   have hh0 : h0 d = true := by
    have := hs.srt
    simp only [List.pairwise_cons, List.mem_singleton, forall_eq] at this
    rcases this.1 with ⟨h, -⟩ | ⟨-, h⟩
    ·exact h
    ·exfalso; simp only [cr, neg] at h; grind
   rw [h0_iff] at hh0
   have s1 := hh.2.1 a d (by simp [sd])
   have s2 := hh.2.1 (add a d) (neg d) (by simp [sd])
   simp only [tms1] at s1 s2
   have hcr : d.1 * (p.2 - a.2) = d.2 * (p.1 - a.1) := by
    simp only [cr, neg, sub, add] at s1 s2
    exact cr0 s1 (by
     have e1 : p.2 - (a.2 + d.2) = p.2 - a.2 - d.2 := by omega
     have e2 : p.1 - (a.1 + d.1) = p.1 - a.1 - d.1 := by omega
     rw [e1, e2] at s2; exact s2)
   have box : (p.1 ≤ a.1 ∨ p.1 ≤ a.1 + d.1) ∧ (a.1 ≤ p.1 ∨ a.1 + d.1 ≤ p.1) ∧ (p.2 ≤ a.2 ∨ p.2 ≤ a.2 + d.2) ∧ (a.2 ≤ p.2 ∨ a.2 + d.2 ≤ p.2) := by
    obtain ⟨-, -, ⟨v1, m1, e1⟩, ⟨v2, m2, e2⟩, ⟨v3, m3, e3⟩, ⟨v4, m4, e4⟩⟩ := hh
    rw [e] at m1 m2 m3 m4
    simp only [List.mem_cons, List.not_mem_nil, or_false] at m1 m2 m3 m4
    refine ⟨?_, ?_, ?_, ?_⟩
    ·rcases m2 with rfl | rfl
     ·left; omega
     ·right; simp only [add] at e2; omega
    ·rcases m1 with rfl | rfl
     ·left; omega
     ·right; simp only [add] at e1; omega
    ·rcases m4 with rfl | rfl
     ·left; omega
     ·right; simp only [add] at e4; omega
    ·rcases m3 with rfl | rfl
     ·left; omega
     ·right; simp only [add] at e3; omega
   have hbd2 := hb (add a d) (by rw [e]; simp)
   rw [e]
   have w : ∀ w0 w1 : Int, run0 (F34 [a, add a d] p) = some (((0 : Int), (1 : Int), (0 : Int)), (w0, w1, (0 : Int)), ()) → 0 ≤ w0 → 0 ≤ w1 → 1 ≤ w0 + w1 → w0 + w1 ≤ 1000000000 → w1 * d.1 = (w0 + w1) * (p.1 - a.1) → w1 * d.2 = (w0 + w1) * (p.2 - a.2) →
     ∃ (i0 i1 i2 : Nat) (w0 w1 w2 : Int), run0 (F34 [a, add a d] p) = some (((i0 : Int), (i1 : Int), (i2 : Int)), (w0, w1, w2), ()) ∧ Mix [a, add a d] p i0 i1 i2 w0 w1 w2 := by
    intro w0 w1 hr a1 a2 a3 a4 a5 a6
    refine ⟨0, 1, 0, w0, w1, 0, hr, ⟨by simp, by simp, by simp, a1, a2, by omega, by omega, by omega, ?_⟩⟩
    simp only [List.getD_cons_zero, List.getD_cons_succ, tms, add]
    exact Prod.ext (by simp only []; grind) (by simp only []; grind)
   have ed : sub (add a d) a = d := by simp only [sub, add]; exact Prod.ext (by simp only []; omega) (by simp only []; omega)
   have run : run0 (F34 [a, add a d] p) = brO (d.1 == 0) (need (rng .i64 (d.2 - (sub p a).2)) (some (((0 : Int), (1 : Int), (0 : Int)), (d.2 - (sub p a).2, (sub p a).2, (0 : Int)), ()))) (need (rng .i64 (d.1 - (sub p a).1)) (some (((0 : Int), (1 : Int), (0 : Int)), (d.1 - (sub p a).1, (sub p a).1, (0 : Int)), ()))) := by
    have g1 : [a, add a d].getD (Int.toNat (((2 : Nat) : Int) - 1)) (0, 0) = add a d := rfl
    have g0 : [a, add a d].getD (Int.toNat 0) (0, 0) = a := rfl
    simp only [F34, run_br, run_nb, run_ni, run_nd, run_bd, run_it, run_ret, List.length_cons, List.length_nil, Nat.zero_add, g1, g0, pr_eta]
    rw [need_inb (by omega) (by omega), need_i64 (by omega) (by omega), need_inb (by omega) (by omega), br_f (show (((1 + 1 : Nat) : Int) == 1) = false from rfl), br_t (show (((1 + 1 : Nat) : Int) == 2) = true from rfl)]
    rw [bind_of (k49 (hbd2.le (by omega)) (ha.le (by omega))), bind_of (k49 (hp.le (by omega)) (ha.le (by omega))), ed]
    rfl
   obtain ⟨p1, p2, p3, p4⟩ := hp
   obtain ⟨x1, x2, x3, x4⟩ := ha
   obtain ⟨y1, y2, y3, y4⟩ := hbd2
   simp only [add] at y1 y2 y3 y4
   by_cases hz : d.1 = 0
   ·rw [hz, Int.zero_mul] at hcr
    have hd2 : 0 < d.2 := by omega
    have hp1 : p.1 - a.1 = 0 := by
     rcases Int.mul_eq_zero.1 hcr.symm with h | h
     ·omega
     ·exact h
    refine w (d.2 - (p.2 - a.2)) (p.2 - a.2) ?_ (by omega) (by omega) (by omega) (by omega) ?_ ?_
    ·rw [run, br_t (by simp [hz])]
     show need (rng .i64 (d.2 - (p.2 - a.2))) _ = _
     rw [need_i64 (by omega) (by omega)]
     rfl
    ·rw [hz, hp1]; simp
    ·grind
   ·have hd1 : 0 < d.1 := by omega
    refine w (d.1 - (p.1 - a.1)) (p.1 - a.1) ?_ (by omega) (by omega) (by omega) (by omega) ?_ ?_
    ·rw [run, br_f (by simp [hz])]
     show need (rng .i64 (d.1 - (p.1 - a.1))) _ = _
     rw [need_i64 (by omega) (by omega)]
     rfl
    ·grind
    ·grind
end Go.Proofs.Try
end
section
namespace Go.Proofs.Try
open Go.AM Go.Geo
set_option maxRecDepth 100000
theorem k35b {a b : Pt} (ha : Bd 100000000000000000 a) (hb : Bd 100000000000000000 b) : run0 (F35 a b) = some (add a b, ()) := by
 obtain ⟨a1, a2, a3, a4⟩ := ha; obtain ⟨b1, b2, b3, b4⟩ := hb
 simp only [F35, run_ni, run_ret]
 rw [need_i64 (by omega) (by omega), need_i64 (by omega) (by omega)]
 rfl
def mk (n : Nat) (f : Nat → Pt) : List Pt := (List.range n).map f
theorem mk_len {n : Nat} {f : Nat → Pt} : (mk n f).length = n := by simp [mk]
theorem mk_get {n i : Nat} {f : Nat → Pt} (h : i < n) : (mk n f).getD i (0, 0) = f i := by simp [mk, List.getD, h]
theorem mk_set {n i : Nat} {f : Nat → Pt} {x : Pt} : (mk n f).set i x = mk n (fun j => if j = i then x else f j) := by
 apply List.ext_getElem?
 intro j
 unfold mk
 rw [List.getElem?_set]
 by_cases h : j < n
 ·by_cases e : i = j
  ·subst e; simp [h]
  ·rw [if_neg e]; simp [h, Ne.symm e]
 ·by_cases e : i = j
  ·subst e; simp [h]
  ·rw [if_neg e]; simp [h]
theorem mk_rep {n : Nat} : List.replicate n ((0 : Int), (0 : Int)) = mk n (fun _ => (0, 0)) := by
 apply List.ext_getElem?
 intro j
 unfold mk
 by_cases h : j < n
 ·simp [h]
 ·simp [h]
theorem mk_congr {n : Nat} {f g : Nat → Pt} (h : ∀ i, i < n → f i = g i) : mk n f = mk n g := List.map_congr_left fun i hi => h i (List.mem_range.1 hi)
theorem mk_self {l : List Pt} : mk l.length (fun i => l.getD i (0, 0)) = l := by
 apply List.ext_getElem?
 intro j
 unfold mk
 by_cases h : j < l.length
 ·simp [h]
 ·simp [h]
theorem mk_succ {n : Nat} {f : Nat → Pt} : mk (n + 1) f = mk n f ++ [f n] := by unfold mk; rw [List.range_succ, List.map_append]; rfl
theorem sm_snoc (l : List Pt) (x : Pt) : sm (l ++ [x]) = add (sm l) x := by rw [sm_append]; simp [sm, add_zero]
theorem sm_mk_add {n : Nat} {f g : Nat → Pt} {w : Int} : sm (mk n (fun i => add (f i) (tms w (g i)))) = add (sm (mk n f)) (tms w (sm (mk n g))) := by
 induction n with
 | zero => simp [mk, sm, add, tms]
 | succ n ih =>
  rw [mk_succ, mk_succ, mk_succ, sm_snoc, sm_snoc, sm_snoc, ih]
  simp only [add, tms]
  exact Prod.ext (by simp only []; grind) (by simp only []; grind)
theorem sm_mk_zero {n : Nat} : sm (mk n (fun _ => (0, 0))) = (0, 0) := by
 induction n with
 | zero => rfl
 | succ n ih => rw [mk_succ, sm_snoc, ih]; rfl
theorem prt_mem {U : List Pol} (hs : ∀ x ∈ U, Sd x.2) {now : List Pt} {v : Pt} (h : Prt U now v) {i : Nat} {x : Pol} (hx : U[i]? = some x) : now.getD i (0, 0) ∈ cs x.1 x.2 := by
 obtain ⟨j, hj, e⟩ := h.pt i x hx
 have hS := hs x (List.mem_of_getElem? hx)
 rw [List.getD_eq_getElem?_getD, e, Option.getD_some]
 by_cases hl : j < x.2.length
 ·exact cs_mem hl
 ·have e2 : j = x.2.length := by omega
  subst e2
  have := vtx_last (a := x.1) hS
  unfold vtx at this
  rw [this]; exact cs_first
/-- One more corner, so many times. -/
def acc (f : Nat → Pt) (w : Int) (now : List Pt) : Nat → Pt := fun i => add (f i) (tms w (now.getD i (0, 0)))
theorem it14_1 {n k : Nat} {wk w0 w1 w2 W : Int} {ls P : List (List Pt)} {C : List Pt} {at_ : List Int} {f : Nat → Pt} {v40 : Int × Int × Int} {c0 : Int} {i : Nat} (hn : n = ls.length) (hn4 : n ≤ 1000) (hk : k < 3) (hat : at_.length = 3) (hai : at_.getD k 0 = (i : Int)) (hi : i < P.length)
  (hlen : (P.getD i []).length = n) (h0 : 0 ≤ wk) (h1 : wk ≤ 1000000000) (hb : ∀ j, Bd 3000 ((P.getD i []).getD j (0, 0))) (hf : ∀ j, j < n → Bd 10000000000000 (f j)) :
  iter (fun s => run0 (g14_1 s)) (ls, (k : Int), wk, v40, (k : Int), (((ls).length : Nat) : Int), 0, c0, C, P, at_, W, n, mk n f, ()) =
   some (ls, v40, (k : Int), c0, C, P, at_, W, n, mk n (acc f wk (P.getD i [])), ()) := by
 obtain ⟨r, q1, q2⟩ := iter_ex (step := fun s => run0 (g14_1 s)) n (fun m s => s = (ls, (k : Int), wk, v40, (k : Int), ((ls.length : Nat) : Int), (m : Int), c0, C, P, at_, W, n, mk n (fun j => if j < m then acc f wk (P.getD i []) j else f j), ()))
  (fun r => r = (ls, v40, (k : Int), c0, C, P, at_, W, n, mk n (acc f wk (P.getD i [])), ())) (fun m s hm hs => by
   subst hs
   have j1 : inb (m : Int) ((n : Nat) : Int) = true := inb_t (by omega) (by omega)
   have j2 : inb (k : Int) 3 = true := inb_t (by omega) (by omega)
   have j3 : inb (i : Int) ((P.length : Nat) : Int) = true := inb_t (by omega) (by omega)
   have j4 : inb (m : Int) (((P.getD i []).length : Nat) : Int) = true := inb_t (by omega) (by omega)
   have r3 : rng .i64 ((m : Int) + 1) = true := rng_i64 (by omega) (by omega)
   have d1 : decide (k < at_.length) = true := decide_eq_true (by omega)
   have d2 : ∀ g : Nat → Pt, decide (m < (mk n g).length) = true := fun g => decide_eq_true (by rw [mk_len]; exact hm)
   have em : (mk n (fun j => if j < m then acc f wk (P.getD i []) j else f j)).set m (acc f wk (P.getD i []) m) = mk n (fun j => if j < m + 1 then acc f wk (P.getD i []) j else f j) := by
    rw [mk_set]
    refine mk_congr fun j _ => ?_
    by_cases e : j = m
    ·subst e; simp
    ·simp only [if_neg e]
     by_cases h : j < m
     ·rw [if_pos h, if_pos (by omega)]
     ·rw [if_neg h, if_neg (by omega)]
   refine ⟨_, ?_, rfl⟩
   simp only [g14_1, run_br, run_nb, run_ni, run_nd, run_bd, run_ret, Int.toNat_natCast, Nat.zero_add, j1, j2, r3, d1, d2, need_true, br_d, hai, j3, j4, pr_eta]
   rw [if_pos (by omega), bind_of (k36 h0 h1 ((hb m).le (by omega)))]
   rw [mk_get hm, if_neg (by omega)]
   simp only [pr_eta]
   rw [bind_of (k35b ((hf m hm).le (by omega)) ((bd_tms2 h0 h1 (hb m)).le (by omega)))]
   show some (Sum.inl (ls, (k : Int), wk, v40, (k : Int), ((ls.length : Nat) : Int), (m : Int) + 1, c0, C, P, at_, W, n, (mk n (fun j => if j < m then acc f wk (P.getD i []) j else f j)).set m (acc f wk (P.getD i []) m), ())) = _
   rw [em]
   rfl) (fun s hs => by
   subst hs
   refine ⟨_, ?_, rfl⟩
   simp only [g14_1, run_br, run_ret, br_d]
   rw [if_neg (by omega)]
   rw [mk_congr (g := acc f wk (P.getD i [])) fun j hj => if_pos hj]) (x := (ls, (k : Int), wk, v40, (k : Int), ((ls.length : Nat) : Int), 0, c0, C, P, at_, W, n, mk n f, ())) (by simp)
 rw [q1, q2]
theorem r14 {n k : Nat} {wk w0 w1 w2 W : Int} {ls P : List (List Pt)} {C : List Pt} {at_ : List Int} {f : Nat → Pt} {c0 : Int} {i : Nat} (hn : n = ls.length) (hn4 : n ≤ 1000) (hk : k < 3) (hat : at_.length = 3) (hai : at_.getD k 0 = (i : Int)) (hi : i < P.length) (hwk : [w0, w1, w2].getD k 0 = wk)
  (hlen : (P.getD i []).length = n) (h0 : 0 ≤ wk) (h1 : wk ≤ 1000000000) (hW : 0 ≤ W) (hW2 : W ≤ 10000000000) (hb : ∀ j, Bd 3000 ((P.getD i []).getD j (0, 0))) (hf : ∀ j, j < n → Bd 10000000000000 (f j)) :
  run0 (g14_0 (ls, (w0, w1, w2), (k : Int), c0, C, P, at_, W, n, mk n f, ())) = some (.inl (ls, (w0, w1, w2), ((k + 1 : Nat) : Int), c0, C, P, at_, W + wk, n, mk n (acc f wk (P.getD i [])), ())) := by
 have j2 : inb (k : Int) 3 = true := inb_t (by omega) (by omega)
 simp only [g14_0, run_br, run_nb, run_ni, run_nd, run_bd, run_it, run_ret, Int.toNat_natCast, j2, need_true, br_d, hwk]
 rw [if_pos (by omega), need_i64 (by omega) (by omega)]
 refine bind_eq (it14_1 (w0 := 0) (w1 := 0) (w2 := 0) hn hn4 hk hat hai hi hlen h0 h1 hb hf) ?_
 simp only []
 rw [need_i64 (by omega) (by omega)]
 rfl
theorem acc_bd {f : Nat → Pt} {w K : Int} {now : List Pt} {n : Nat} (h0 : 0 ≤ w) (h1 : w ≤ 1000000000) (hb : ∀ j, Bd 3000 (now.getD j (0, 0))) (hf : ∀ j, j < n → Bd K (f j)) : ∀ j, j < n → Bd (K + 3000000000000) (acc f w now j) := fun j hj =>
 bd_add (hf j hj) ((bd_tms2 h0 h1 (hb j)).le (by omega))
theorem prt_bd {U : List Pol} (h : OkS U) {now : List Pt} {v : Pt} (hp : Prt U now v) : ∀ j, Bd 3000 (now.getD j (0, 0)) := fun j => by
 by_cases hj : j < now.length
 ·rw [hp.len] at hj
  have e : U[j]? = some U[j] := List.getElem?_eq_getElem hj
  have := prt_mem h.sd hp e
  exact ((h.take _ (List.getElem_mem hj)).2.1 _ this).le (by omega)
 ·rw [getD_out _ (by omega)]; exact bd0 (by omega)
/-- Divide. -/
theorem k14 {x : List (List Pt)} {U : List Pol} (h : Us x U) {p : Pt} (hp : Bd 100000 p) :
  (¬ Has (a0U U) (dsU U) 1 p → run0 (F14 (csU U) p) = some ((0, []), 10, ())) ∧
  (Has (a0U U) (dsU U) 1 p → ∃ (W : Int) (f : Nat → Pt), run0 (F14 (csU U) p) = some ((W, mk U.length f), 0, ()) ∧ 1 ≤ W ∧ W ≤ 1000000000 ∧ (∀ (i : Nat) (y : Pol), U[i]? = some y → Has y.1 y.2 W (f i)) ∧ sm (mk U.length f) = tms W p) := by
 obtain ⟨a1, a2, a3⟩ := addU_ok h.s.sd
 have hl := h.dsl
 have hn4 := h.l3
 have q32 := k32 a3.sd (by omega) (by omega) (by omega) h.sum.2.2.1 (hp.le (by omega) : Bd 10000000000000 p) (n := 1)
 constructor
 ·intro hnot
  simp only [F14, run_bd, run_br, run_ret, pr_eta]
  rw [bind_of (k31 h.u hp), beq_self_eq_true, Bool.not_true, br_false, bind_of (k33 h.s)]
  simp only [a1]
  rw [bind_of q32, decide_eq_false hnot, Bool.not_false, br_true]
 ·intro hh
  obtain ⟨i0, i1, i2, w0, w1, w2, q34, hm⟩ := k34 a3.sd (by omega) h.sum.2.2.1 hh
  -- the parts
  have hprt : ∀ i, i < (cs (a0U U) (dsU U)).length → i < (addU U).2.length ∧ Prt U ((addU U).2.getD i []) ((cs (a0U U) (dsU U)).getD i (0, 0)) := by
   intro i hi
   have hpl := a2.1
   rw [a1] at hpl
   obtain ⟨now, e, hP⟩ := a2.2 i ((cs (a0U U) (dsU U)).getD i (0, 0)) (by rw [a1, List.getD_eq_getElem?_getD, List.getElem?_eq_getElem hi]; rfl)
   refine ⟨by omega, ?_⟩
   rw [List.getD_eq_getElem?_getD, e]
   exact hP
  obtain ⟨l0, P0⟩ := hprt _ hm.n0
  obtain ⟨l1, P1⟩ := hprt _ hm.n1
  obtain ⟨l2, P2⟩ := hprt _ hm.n2
  have hm0 := hm.p0; have hm1 := hm.p1; have hm2 := hm.p2; have hone := hm.one; have hle := hm.le
  have b0 := prt_bd h.s P0
  have b1 := prt_bd h.s P1
  have b2 := prt_bd h.s P2
  have z0 : ∀ j, j < U.length → Bd 0 ((fun _ => ((0 : Int), (0 : Int))) j) := fun j _ => bd0 (by omega)
  have c0 := acc_bd (n := U.length) hm0 (by omega) b0 z0
  have c1 := acc_bd (n := U.length) hm1 (by omega) b1 c0
  let f0 : Nat → Pt := acc (fun _ => (0, 0)) w0 ((addU U).2.getD i0 [])
  let f1 : Nat → Pt := acc f0 w1 ((addU U).2.getD i1 [])
  let f2 : Nat → Pt := acc f1 w2 ((addU U).2.getD i2 [])
  have t0 := r14 (n := U.length) (k := 0) (wk := w0) (w0 := w0) (w1 := w1) (w2 := w2) (W := 0) (ls := csU U) (P := (addU U).2) (C := cs (a0U U) (dsU U)) (at_ := [(i0 : Int), (i1 : Int), (i2 : Int)]) (f := fun _ => (0, 0)) (c0 := 0) (i := i0) csU_len.symm (by omega) (by omega) rfl rfl l0 rfl P0.len hm0 (by omega) (by omega) (by omega) b0 (fun j hj => (z0 j hj).le (by omega))
  have t1 := r14 (n := U.length) (k := 1) (wk := w1) (w0 := w0) (w1 := w1) (w2 := w2) (W := 0 + w0) (ls := csU U) (P := (addU U).2) (C := cs (a0U U) (dsU U)) (at_ := [(i0 : Int), (i1 : Int), (i2 : Int)]) (f := f0) (c0 := 0) (i := i1) csU_len.symm (by omega) (by omega) rfl rfl l1 rfl P1.len hm1 (by omega) (by omega) (by omega) b1 (fun j hj => (c0 j hj).le (by omega))
  have t2 := r14 (n := U.length) (k := 2) (wk := w2) (w0 := w0) (w1 := w1) (w2 := w2) (W := 0 + w0 + w1) (ls := csU U) (P := (addU U).2) (C := cs (a0U U) (dsU U)) (at_ := [(i0 : Int), (i1 : Int), (i2 : Int)]) (f := f1) (c0 := 0) (i := i2) csU_len.symm (by omega) (by omega) rfl rfl l2 rfl P2.len hm2 (by omega) (by omega) (by omega) b2 (fun j hj => (c1 j hj).le (by omega))
  have t3 : run0 (g14_0 (csU U, (w0, w1, w2), ((2 + 1 : Nat) : Int), 0, cs (a0U U) (dsU U), (addU U).2, [(i0 : Int), (i1 : Int), (i2 : Int)], 0 + w0 + w1 + w2, U.length, mk U.length f2, ())) = some (.inr (0, 0 + w0 + w1 + w2, U.length, mk U.length f2, ())) := by
   simp only [g14_0, run_br, run_ret, br_d]
   rw [if_neg (by omega)]
  have q : iter (fun s => run0 (g14_0 s)) (csU U, (w0, w1, w2), 0, 0, cs (a0U U) (dsU U), (addU U).2, [(i0 : Int), (i1 : Int), (i2 : Int)], 0, U.length, mk U.length (fun _ => (0, 0)), ()) = some (0, 0 + w0 + w1 + w2, U.length, mk U.length f2, ()) :=
   iter_inl (step := fun s => run0 (g14_0 s)) t0 (iter_inl (step := fun s => run0 (g14_0 s)) t1 (iter_inl (step := fun s => run0 (g14_0 s)) t2 (iter_inr (step := fun s => run0 (g14_0 s)) t3)))
  have hW : 0 + w0 + w1 + w2 = w0 + w1 + w2 := by omega
  rw [hW] at q
  refine ⟨w0 + w1 + w2, f2, ?_, hone, hle, ?_, ?_⟩
  ·simp only [F14, run_bd, run_br, run_nb, run_it, run_ret, pr_eta]
   rw [bind_of (k31 h.u hp), beq_self_eq_true, Bool.not_true, br_false, bind_of (k33 h.s)]
   simp only [a1]
   rw [bind_of q32, decide_eq_true hh, Bool.not_true, br_false, bind_of q34]
   rw [csU_len, need_inbig (by omega) (by omega), Int.toNat_natCast, mk_rep]
   refine bind_eq q ?_
   simp only [List.drop_zero]
   rw [List.take_of_length_le (by rw [mk_len]; omega)]
  ·intro i y hy
   have hS := h.s.sd y (List.mem_of_getElem? hy)
   refine has_of hS (by omega) fun u => ?_
   obtain ⟨v, hv, e⟩ := mx_at (u := u) (a := y.1) hS
   refine ⟨v, hv, ?_⟩
   have e0 := mx_le (u := u) hS (prt_mem h.s.sd P0 hy)
   have e1 := mx_le (u := u) hS (prt_mem h.s.sd P1 hy)
   have e2 := mx_le (u := u) hS (prt_mem h.s.sd P2 hy)
   rw [← e] at e0 e1 e2
   have m0 := Int.mul_le_mul_of_nonneg_left e0 hm0
   have m1 := Int.mul_le_mul_of_nonneg_left e1 hm1
   have m2 := Int.mul_le_mul_of_nonneg_left e2 hm2
   show dt u (add (add (add (0, 0) (tms w0 _)) (tms w1 _)) (tms w2 _)) ≤ _
   rw [dt_add, dt_add, dt_add, dt_tms, dt_tms, dt_tms]
   have z : dt u (0, 0) = 0 := by simp [dt]
   rw [z, Int.add_mul, Int.add_mul]
   omega
  ·show sm (mk U.length (fun i => add (f1 i) (tms w2 (((addU U).2.getD i2 []).getD i (0, 0))))) = _
   rw [sm_mk_add]
   show add (sm (mk U.length (fun i => add (f0 i) (tms w1 (((addU U).2.getD i1 []).getD i (0, 0)))))) _ = _
   rw [sm_mk_add]
   show add (add (sm (mk U.length (fun i => add (0, 0) (tms w0 (((addU U).2.getD i0 []).getD i (0, 0)))))) _) _ = _
   rw [sm_mk_add (f := fun _ => (0, 0)), sm_mk_zero]
   have s0 : mk U.length (fun i => ((addU U).2.getD i0 []).getD i (0, 0)) = (addU U).2.getD i0 [] := by rw [← P0.len]; exact mk_self
   have s1 : mk U.length (fun i => ((addU U).2.getD i1 []).getD i (0, 0)) = (addU U).2.getD i1 [] := by rw [← P1.len]; exact mk_self
   have s2 : mk U.length (fun i => ((addU U).2.getD i2 []).getD i (0, 0)) = (addU U).2.getD i2 [] := by rw [← P2.len]; exact mk_self
   rw [s0, s1, s2, P0.sum, P1.sum, P2.sum, zero_add]
   exact hm.eq
end Go.Proofs.Try
end
section
namespace Go.Proofs.Try
open Go.AM Go.Geo
set_option maxRecDepth 100000
theorem k59b {a K : Int} (h0 : 0 ≤ K) (h1 : K ≤ 1000000000000000) : run0 (F59 a K) = some (decide (-K ≤ a ∧ a ≤ K), ()) := by
 simp only [F59, run_ni, run_br, run_ret, br_d]
 rw [need_i64 (by omega) (by omega)]
 by_cases h : 0 - K ≤ a
 ·rw [if_pos h]
  have : (-K ≤ a ∧ a ≤ K) ↔ a ≤ K := by omega
  simp only [this]
 ·rw [if_neg h]
  have : ¬ (-K ≤ a ∧ a ≤ K) := by omega
  simp [this]
noncomputable instance (K : Int) (p : Pt) : Decidable (Bd K p) := Classical.propDecidable _
theorem k41 {q : Pt} {K : Int} (h0 : 0 ≤ K) (h1 : K ≤ 1000000000000000) : run0 (F41 q K) = some (decide (Bd K q), ()) := by
 simp only [F41, run_bd, run_br, run_ret]
 rw [bind_of (k59b h0 h1), br_d]
 by_cases h : -K ≤ q.1 ∧ q.1 ≤ K
 ·rw [if_pos h, bind_of (k59b h0 h1)]
  have : Bd K q ↔ -K ≤ q.2 ∧ q.2 ≤ K := ⟨fun h => h.2.2, fun g => ⟨h.1, h.2, g⟩⟩
  rw [decide_eq_decide.2 this]
 ·rw [if_neg h, decide_eq_false fun g => h ⟨g.1, g.2.1⟩]
theorem has_bdn {a p : Pt} {ds : List Pt} {n K : Int} (hn : 0 ≤ n) (hb : ∀ v ∈ cs a ds, Bd K v) (hh : Has a ds n p) : Bd (K * n) p := by
 obtain ⟨-, -, ⟨v1, m1, e1⟩, ⟨v2, m2, e2⟩, ⟨v3, m3, e3⟩, ⟨v4, m4, e4⟩⟩ := hh
 have a1 := Int.mul_le_mul_of_nonneg_left (hb _ m1).1 hn
 have a2 := Int.mul_le_mul_of_nonneg_left (hb _ m2).2.1 hn
 have a3 := Int.mul_le_mul_of_nonneg_left (hb _ m3).2.2.1 hn
 have a4 := Int.mul_le_mul_of_nonneg_left (hb _ m4).2.2.2 hn
 rw [Int.mul_neg] at a1 a3
 rw [Int.mul_comm K n]
 exact ⟨by omega, by omega, by omega, by omega⟩
/-- A part lies in its unit taken so many times. -/
def okR (U : List Pol) (W : Int) (runs : List Pt) (i : Nat) : Prop := Bd (1000 * W) (runs.getD i (0, 0)) ∧ Has (U.getD i ((0, 0), [])).1 (U.getD i ((0, 0), [])).2 W (runs.getD i (0, 0))
noncomputable instance (U : List Pol) (W : Int) (runs : List Pt) (i : Nat) : Decidable (okR U W runs i) := Classical.propDecidable _
theorem k20 {x : List (List Pt)} {U : List Pol} (h : Us x U) {p : Pt} (hp : Bd 100000 p) {W : Int} {runs : List Pt} (h0 : 1 ≤ W) (h1 : W ≤ 1000000000) (hl : runs.length = U.length) :
  ∃ z, run0 (F20 (csU U) p (W, runs)) = some (z, ()) ∧ ((z = 10 ∧ ¬ ∀ i, i < U.length → okR U W runs i) ∨ ((∀ i, i < U.length → okR U W runs i) ∧ z = if sm runs = tms W p then 0 else 19)) := by
 have h3 := h.l3
 have hsum : ∀ k, k ≤ U.length → (∀ j, j < k → okR U W runs j) → Bd (1000000000000 * k) (sm (runs.take k)) := by
  intro k hk hj
  refine sm_bd (by simp; omega) (fun q hq => ?_) (by omega)
  obtain ⟨j, hj1, e⟩ := List.getElem_of_mem hq
  rw [List.length_take] at hj1
  have := (hj j (by omega)).1
  rw [getD_el _ (by omega)] at this
  rw [List.getElem_take] at e
  rw [e] at this
  exact this.le (by omega)
 have q := iter_find (step := fun s => run0 (g20_0 s)) (γ := Unit) (b := .inr (p.1, p.2, W, runs, (sm runs).1, (sm runs).2, ()))
  U.length (fun k => (csU U, runs, ((runs.length : Nat) : Int), (k : Int), p.1, p.2, W, runs, (sm (runs.take k)).1, (sm (runs.take k)).2, ()))
  (fun k => if okR U W runs k then none else some ())
  (fun _ => .inl (10, ()))
  (fun k hk hpre => by
   have hok : ∀ j, j < k → okR U W runs j := fun j hj => by
    have := hpre j hj
    by_cases ho : okR U W runs j
    ·exact ho
    ·rw [if_neg ho] at this; cases this
   have bS := hsum k (by omega) hok
   have j1 : inb (k : Int) ((runs.length : Nat) : Int) = true := inb_t (by omega) (by omega)
   have j2 : inb (k : Int) (((csU U).length : Nat) : Int) = true := inb_t (by omega) (by rw [csU_len]; omega)
   have r3 : rng .i64 ((k : Int) + 1) = true := rng_i64 (by omega) (by omega)
   have gU : U.getD k ((0, 0), []) = U[k] := getD_el _ hk
   have hx : U[k] ∈ U := List.getElem_mem hk
   obtain ⟨t1, t2, t3⟩ := h.s.take _ hx
   have hlen : U[k].2.length ≤ 1000 := by
    by_cases hne : U[k].2 = []
    ·rw [hne]; simp
    ·rw [← cs_len (a := U[k].1) hne]; exact t3
   have eT : sm (runs.take (k + 1)) = add (sm (runs.take k)) (runs.getD k (0, 0)) := by
    rw [take_succ_getD (0, 0) (by omega), sm_snoc]
   simp only [g20_0, run_br, run_nb, run_ni, run_nd, run_bd, run_ret, Int.toNat_natCast, j1, j2, need_true, pr_eta]
   rw [br_t (decide_eq_true (by omega)), need_i64 (by omega) (by omega), bind_of (k41 (by omega) (by omega))]
   by_cases c1 : Bd (1000 * W) (runs.getD k (0, 0))
   ·rw [decide_eq_true c1, Bool.not_true, br_false, csU_get hk]
    have q32 := k32 t1 hlen (by omega) h1 (fun v hv => (t2 v hv).le (by omega)) (c1.le (by omega) : Bd 10000000000000 (runs.getD k (0, 0))) (n := W)
    rw [bind_of q32]
    by_cases c2 : Has U[k].1 U[k].2 W (runs.getD k (0, 0))
    ·rw [decide_eq_true c2, Bool.not_true, br_false, bind_of (k35b (bS.le (by omega)) (c1.le (by omega)))]
     rw [if_pos (show okR U W runs k from ⟨c1, by rw [gU]; exact c2⟩)]
     simp only [r3, need_true, eT]
     rfl
    ·rw [decide_eq_false c2, Bool.not_false, br_true, if_neg (show ¬ okR U W runs k from fun ho => c2 (by have := ho.2; rw [gU] at this; exact this))]
   ·rw [decide_eq_false c1, Bool.not_false, br_true, if_neg (show ¬ okR U W runs k from fun ho => c1 ho.1)]) (fun _ => by
   simp only [g20_0, run_br, run_ret]
   rw [br_f (decide_eq_false (by omega)), ← hl, List.take_length])
 have q' : iter (fun s => run0 (g20_0 s)) (csU U, runs, ((runs.length : Nat) : Int), 0, p.1, p.2, W, runs, 0, 0, ()) = _ := q
 have start : ∀ z, (bindO (iter (fun s => run0 (g20_0 s)) (csU U, runs, ((runs.length : Nat) : Int), 0, p.1, p.2, W, runs, 0, 0, ())) fun z4 => run0 (.sm z4 (fun z5 => .ret (z5.1, ())) fun z6 => .bd (F36 (z6.1, z6.2.1) z6.2.2.1) fun y7 => .br (!((z6.2.2.2.2.1 == y7.1.1) && ((z6.2.2.2.2.2.1 == y7.1.2) && true))) (.ret ((19 : Int), ())) (.ret ((0 : Int), ())))) = some (z, ()) → run0 (F20 (csU U) p (W, runs)) = some (z, ()) := by
  intro z hz
  simp only [F20, run_bd, run_br, run_it, run_ret, pr_eta]
  rw [bind_of (k31 h.u hp), beq_self_eq_true, Bool.not_true, br_false, br_f (decide_eq_false (by omega)), br_f (decide_eq_false (by omega)), csU_len, hl, beq_self_eq_true, Bool.not_true, br_false]
  rw [hl] at hz
  exact hz
 by_cases hall : ∀ i, i < U.length → okR U W runs i
 ·have hf : (List.range U.length).findSome? (fun k => if okR U W runs k then none else some ()) = none := by
   rw [List.findSome?_eq_none_iff]
   intro k hk
   rw [if_pos (hall k (List.mem_range.1 hk))]
  rw [hf] at q'
  refine ⟨_, start (if sm runs = tms W p then 0 else 19) ?_, .inr ⟨hall, rfl⟩⟩
  rw [bind_of q']
  simp only [Option.elim_none, run_sr, run_bd, run_br, run_ret]
  have hk := k36 (p := p) (n := W) (by omega) h1 hp
  rw [bind_of hk]
  simp only []
  by_cases e : sm runs = tms W p
  ·rw [if_pos e, e]; simp
  ·rw [if_neg e, br_t ?_]
   rw [Bool.not_eq_true', ← Bool.not_eq_true, Bool.and_true, Bool.and_eq_true, beq_iff_eq, beq_iff_eq]
   exact fun g => e (Prod.ext g.1 g.2)
 ·refine ⟨10, start 10 ?_, .inl ⟨rfl, hall⟩⟩
  cases hf : (List.range U.length).findSome? (fun k => if okR U W runs k then none else some ()) with
  | none =>
   exfalso
   refine hall fun i hi => ?_
   have := List.findSome?_eq_none_iff.1 hf i (List.mem_range.2 hi)
   by_cases ho : okR U W runs i
   ·exact ho
   ·rw [if_neg ho] at this; cases this
  | some u =>
   rw [hf] at q'
   rw [bind_of q']
   simp only [Option.elim_some, run_sl, run_ret]
theorem okR_of {U : List Pol} (h : OkS U) {W : Int} {f : Nat → Pt} (hW : 0 ≤ W) (hf : ∀ (i : Nat) (y : Pol), U[i]? = some y → Has y.1 y.2 W (f i)) : ∀ i, i < U.length → okR U W (mk U.length f) i := by
 intro i hi
 have e : U[i]? = some U[i] := List.getElem?_eq_getElem hi
 have hh := hf i _ e
 unfold okR
 rw [mk_get hi, getD_el _ hi]
 exact ⟨has_bdn hW (h.take _ (List.getElem_mem hi)).2.1 hh, hh⟩
/-- What was divided is well divided. -/
theorem k20_ok {x : List (List Pt)} {U : List Pol} (h : Us x U) {p : Pt} (hp : Bd 100000 p) {W : Int} {f : Nat → Pt} (h0 : 1 ≤ W) (h1 : W ≤ 1000000000) (hf : ∀ (i : Nat) (y : Pol), U[i]? = some y → Has y.1 y.2 W (f i)) (hs : sm (mk U.length f) = tms W p) :
  run0 (F20 (csU U) p (W, mk U.length f)) = some (0, ()) := by
 obtain ⟨z, q, hz⟩ := k20 h hp h0 h1 (runs := mk U.length f) mk_len
 rcases hz with ⟨-, hn⟩ | ⟨-, e⟩
 ·exact (hn (okR_of h.s (by omega) hf)).elim
 ·rw [if_pos hs] at e; rw [q, e]
end Go.Proofs.Try
end
section
namespace Go.Proofs.Try
open Go.AM Go.Geo
set_option maxRecDepth 100000
/-- What lies beyond the most cannot be. -/
theorem Us.beyond {x : List (List Pt)} {U : List Pol} (h : Us x U) {p u : Pt} (hc : mxU u U < dt u p) : ¬ Has (a0U U) (dsU U) 1 p := fun hh => by
 have hs := (has_sup h.sum.2.1.sd (by omega)).1 hh
 rw [sup_cs h.sum.2.1.sd (by omega)] at hs
 have := hs u
 rw [h.sum.2.1.mx u, Int.one_mul] at this
 omega
end Go.Proofs.Try
end
section
namespace Go.Proofs.Try
open Go.AM Go.Geo
set_option maxRecDepth 100000
section
variable {ls : List (List Pt)} {S C : List Pt} {v9 : Bool} {v13 v14 v15 v16 c00 c01 c10 : Int} {c11 : List Pt} {v17 : List Pt}
end
end Go.Proofs.Try
end
section
namespace Go.Proofs.Try
open Go.AM Go.Geo
set_option maxRecDepth 100000
theorem Us.in_sum {x : List (List Pt)} {U : List Pol} (h : Us x U) {s : Pt} (hs : s ∈ Go.Geo.sums (csU U)) : Has (a0U U) (dsU U) 1 s := by
 rw [has_sup h.sum.2.1.sd (by omega), isSum_sup h.s.sd h.sum.2.1]
 exact fun u => ⟨s, hs, by omega⟩
theorem bind_ex {A X P : Type} {o : Option A} {f : A → Option X} {y : Option X} (g : P → A) (Q : P → Prop) (h : ∃ p, o = some (g p) ∧ Q p) (h2 : ∀ p, Q p → f (g p) = y) : bindO o f = y := by
 obtain ⟨p, e, hq⟩ := h
 rw [e, bindO_s]; exact h2 p hq
end Go.Proofs.Try
end
section
namespace Go.Proofs.Try
open Go.AM Go.Geo
set_option maxRecDepth 100000
theorem k43 {a b : Int} (hb : b ≠ 0) (h1 : -1000000000000 ≤ a) (h2 : a ≤ 1000000000000) : run0 (F43 a b) = some (Int.fdiv a b, ()) ∧ -1000000000001 ≤ Int.fdiv a b ∧ Int.fdiv a b ≤ 1000000000001 := by
 have hn := Int.natAbs_tdiv_le_natAbs a b
 have ht : -1000000000000 ≤ Int.tdiv a b ∧ Int.tdiv a b ≤ 1000000000000 := by omega
 have hd := @Int.dvd_iff_tmod_eq_zero b a
 have hf := @Int.fdiv_eq_tdiv a b
 have hz : (!(b == 0)) = true := by simp [hb]
 have ef : Int.fdiv a b = if Int.tmod a b = 0 then Int.tdiv a b else if decide (a < 0) = decide (b < 0) then Int.tdiv a b else Int.tdiv a b - 1 := by
  rw [hf]
  by_cases e : Int.tmod a b = 0
  ·rw [if_pos (hd.2 e), if_pos e]; omega
  ·rw [if_neg (fun g => e (hd.1 g)), if_neg e]
   by_cases ha : 0 ≤ a <;> by_cases hb' : 0 ≤ b
   ·rw [if_pos ha, if_pos hb', decide_eq_false (by omega), decide_eq_false (by omega), if_pos rfl]; omega
   ·rw [if_pos ha, if_neg hb', decide_eq_false (by omega), decide_eq_true (by omega), if_neg (by simp)]
   ·rw [if_neg ha, if_pos hb', decide_eq_true (by omega), decide_eq_false (by omega), if_neg (by simp), Int.sign_eq_one_of_pos (by omega)]
   ·rw [if_neg ha, if_neg hb', decide_eq_true (by omega), decide_eq_true (by omega), if_pos rfl, Int.sign_eq_neg_one_of_neg (by omega)]; omega
 constructor
 ·simp only [F43, run_nd, run_ni, run_br, run_ret, hz, need_true]
  rw [need_i64 (by omega) (by omega), need_i64 (by omega) (by omega), ef]
  by_cases e : Int.tmod a b = 0
  ·rw [if_pos e, br_f (by simp [e])]
  ·rw [if_neg e, br_t (by simp [e])]
   by_cases g : decide (a < 0) = decide (b < 0)
   ·rw [if_pos g, br_f (by simp [g])]
   ·rw [if_neg g, br_t (by simpa using g)]
 ·rw [ef]; split
  ·omega
  ·split <;> omega
/-- What the pieces so far say. -/
structure Pc (a : Pt) (ds : List Pt) (y : Int) (seen : Int → Int → Prop) (mn mx : Int) : Prop where
 all : ∀ l h, seen l h → mn ≤ l ∧ h ≤ mx
 mn : mn = 1125899906842624 ∨ ∃ l h, Meet a ds y l h ∧ mn = l
 mx : mx = -1125899906842624 ∨ ∃ l h, Meet a ds y l h ∧ mx = h
theorem Pc.put {a : Pt} {ds : List Pt} {y : Int} {seen seen' : Int → Int → Prop} {mn mx l h : Int} (q : Pc a ds y seen mn mx) (hm : Meet a ds y l h) (hs : ∀ l' h', seen' l' h' → seen l' h' ∨ (l' = l ∧ h' = h)) : Pc a ds y seen' (imin mn l) (imax mx h) := by
 have e1 : imin mn l ≤ mn ∧ imin mn l ≤ l ∧ (imin mn l = mn ∨ imin mn l = l) := by unfold imin; split <;> omega
 have e2 : mx ≤ imax mx h ∧ h ≤ imax mx h ∧ (imax mx h = mx ∨ imax mx h = h) := by unfold imax; split <;> omega
 refine ⟨fun l' h' g => ?_, ?_, ?_⟩
 ·rcases hs l' h' g with g | ⟨rfl, rfl⟩
  ·have := q.all l' h' g; omega
  ·omega
 ·rcases e1.2.2 with e | e
  ·rw [e]; exact q.mn
  ·right; exact ⟨l, h, hm, e⟩
 ·rcases e2.2.2 with e | e
  ·rw [e]; exact q.mx
  ·right; exact ⟨l, h, hm, e⟩
theorem Pc.keep {a : Pt} {ds : List Pt} {y : Int} {seen seen' : Int → Int → Prop} {mn mx : Int} (q : Pc a ds y seen mn mx) (hs : ∀ l' h', seen' l' h' → seen l' h') : Pc a ds y seen' mn mx :=
 ⟨fun l h g => q.all l h (hs l h g), q.mn, q.mx⟩
/-- Seen at corners; seen at sides. -/
def seenP (y : Int) (L : List Pt) (l h : Int) : Prop := ∃ v ∈ L, v.2 = y ∧ l = v.1 ∧ h = v.1
def seenS (y : Int) (L : List (Pt × Pt)) (l h : Int) : Prop := ∃ s ∈ L, decide (s.1.2 < y) ≠ decide ((add s.1 s.2).2 < y) ∧ l = loOf s.1 s.2 y ∧ h = hiOf s.1 s.2 y
theorem it22_0 {a : Pt} {ds C : List Pt} {y : Int} (hC : C = cs a ds) (hl : C.length ≤ 1000) :
  ∃ mn mx, iter (fun s => run0 (g22_0 s)) (0, C, C, ((C.length : Nat) : Int), 0, y, 0, 0, 1125899906842624, -1125899906842624, ()) = some (0, C, y, 0, 0, mn, mx, ()) ∧ Pc a ds y (seenP y C) mn mx := by
 obtain ⟨r, q1, mn, mx, q2, q3⟩ := iter_ex (step := fun s => run0 (g22_0 s)) C.length (fun k s => ∃ mn mx, s = (0, C, C, ((C.length : Nat) : Int), (k : Int), y, 0, 0, mn, mx, ()) ∧ Pc a ds y (seenP y (C.take k)) mn mx)
  (fun r => ∃ mn mx, r = (0, C, y, 0, 0, mn, mx, ()) ∧ Pc a ds y (seenP y C) mn mx) (fun k s hk hs => by
   obtain ⟨mn, mx, rfl, hP⟩ := hs
   have j1 : inb (k : Int) ((C.length : Nat) : Int) = true := inb_t (by omega) (by omega)
   have r3 : rng .i64 ((k : Int) + 1) = true := rng_i64 (by omega) (by omega)
   have hm : C.getD k (0, 0) ∈ cs a ds := by rw [← hC]; exact getD_mem hk
   have eT := take_succ_getD ((0 : Int), (0 : Int)) hk
   simp only [g22_0, FH42, run_br, run_nb, run_ni, run_bd, run_ret, Int.toNat_natCast, j1, r3, need_true, br_d, br_eq, bindO_s]
   rw [if_pos (by omega)]
   by_cases c : (C.getD k (0, 0)).2 = y
   ·rw [if_pos c]
    refine ⟨_, rfl, _, _, rfl, hP.put (Meet.pt hm c) ?_⟩
    rintro l' h' ⟨v, hv, e1, e2, e3⟩
    rw [eT] at hv
    rcases List.mem_append.1 hv with hv | hv
    ·exact .inl ⟨v, hv, e1, e2, e3⟩
    ·rw [List.mem_singleton] at hv; subst hv; exact .inr ⟨e2, e3⟩
   ·rw [if_neg c]
    refine ⟨_, rfl, _, _, rfl, hP.keep ?_⟩
    rintro l' h' ⟨v, hv, e1, e2, e3⟩
    rw [eT] at hv
    rcases List.mem_append.1 hv with hv | hv
    ·exact ⟨v, hv, e1, e2, e3⟩
    ·rw [List.mem_singleton] at hv; subst hv; exact (c e1).elim) (fun s hs => by
   obtain ⟨mn, mx, rfl, hP⟩ := hs
   rw [List.take_length] at hP
   refine ⟨_, ?_, mn, mx, rfl, hP⟩
   simp only [g22_0, run_br, run_ret]
   rw [br_f (decide_eq_false (by omega))]) (x := (0, C, C, ((C.length : Nat) : Int), 0, y, 0, 0, 1125899906842624, -1125899906842624, ())) ⟨_, _, rfl, ⟨fun l h g => by obtain ⟨v, hv, -⟩ := g; simp at hv, .inl rfl, .inl rfl⟩⟩
 exact ⟨mn, mx, by rw [q1, q2], q3⟩
theorem it22_1 {a : Pt} {ds : List Pt} {y mn mx : Int} (hs : Sd ds) (hl : (cs a ds).length ≤ 1000) (hb : ∀ v ∈ cs a ds, Bd 3000 v) (hy : -100000 ≤ y ∧ y ≤ 100000) (hP : Pc a ds y (seenP y (cs a ds)) mn mx) :
  ∃ mn' mx', run0 (g22_1 (0, cs a ds, y, 0, 0, mn, mx, ())) = some (0, 0, mn', mx', ()) ∧ Pc a ds y (fun l h => seenP y (cs a ds) l h ∨ seenS y (sd a ds) l h) mn' mx' := by
 have hlen : (sd a ds).length = ds.length := sd_len a ds
 by_cases hne : ds = []
 ·subst hne
  have e : cs a [] = [a] := by simp [cs]
  rw [e] at hP ⊢
  refine ⟨mn, mx, ?_, hP.keep fun l h g => ?_⟩
  ·simp only [g22_1, run_bd, run_it, run_ret, List.length_singleton]
   have t1 : run0 (g22_1i_0 ([a], [a], ((1 : Nat) : Int), 0, 0, [a], y, 0, 0, mn, mx, ())) = some (.inl ([a], [a], ((1 : Nat) : Int), 1, 0, [a], y, 0, 0, mn, mx, ())) := by
    simp only [g22_1i_0, run_br, run_nb, run_ni, run_bd, run_ret, List.length_singleton]
    rw [br_t (by rfl), need_inb (by omega) (by omega), br_f (by rfl), need_i64 (by omega) (by omega)]
    rfl
   have t2 : run0 (g22_1i_0 ([a], [a], ((1 : Nat) : Int), 1, 0, [a], y, 0, 0, mn, mx, ())) = some (.inr (y, 0, 0, mn, mx, 0, [a], ())) := by
    simp only [g22_1i_0, run_br, run_nb, run_ni, run_bd, run_ret, List.length_singleton]
    rw [br_f (by rfl)]
   rw [bind_of (iter_inl (step := fun s => run0 (g22_1i_0 s)) t1 (iter_inr (step := fun s => run0 (g22_1i_0 s)) t2))]
  ·rcases g with g | ⟨s, hs, -⟩
   ·first | exact g | (rw [e] at g; exact g)
   ·simp [sd] at hs
 have h2 := two_le hs hne
 have hcl := cs_len (a := a) hne
 have hgd : ∀ i, Bd 3000 ((cs a ds).getD i (0, 0)) := fun i => by
  by_cases hi : i < (cs a ds).length
  ·exact hb _ (getD_mem hi)
  ·rw [getD_out _ (by omega)]; exact bd0 (by omega)
 obtain ⟨r, q1, mn', mx', q2, q3⟩ := iter_ex (step := fun s => run0 (g22_1i_0 s)) ds.length (fun k s => ∃ mn mx, s = (cs a ds, cs a ds, (((cs a ds).length : Nat) : Int), (k : Int), 0, cs a ds, y, 0, 0, mn, mx, ()) ∧ Pc a ds y (fun l h => seenP y (cs a ds) l h ∨ seenS y ((sd a ds).take k) l h) mn mx)
  (fun r => ∃ mn mx, r = (y, 0, 0, mn, mx, 0, cs a ds, ()) ∧ Pc a ds y (fun l h => seenP y (cs a ds) l h ∨ seenS y (sd a ds) l h) mn mx) (fun k s hk hs' => by
   obtain ⟨mn, mx, rfl, hP⟩ := hs'
   obtain ⟨s1, s2⟩ := cs_side (a := a) hs hne hk
   have j1 : inb (k : Int) (((cs a ds).length : Nat) : Int) = true := inb_t (by omega) (by omega)
   have r3 : rng .i64 ((k : Int) + 1) = true := rng_i64 (by omega) (by omega)
   have tm : Int.tmod ((k : Int) + 1) (((cs a ds).length : Nat) : Int) = (((k + 1) % (cs a ds).length : Nat) : Int) := by
    have e : ((k : Int) + 1) = ((k + 1 : Nat) : Int) := by omega
    rw [e]; exact Int.ofNat_tmod _ _
   have hlt : (k + 1) % (cs a ds).length < (cs a ds).length := Nat.mod_lt _ (by omega)
   have j2 : inb (((k + 1) % (cs a ds).length : Nat) : Int) (((cs a ds).length : Nat) : Int) = true := inb_t (Int.natCast_nonneg _) (Int.ofNat_lt.2 hlt)
   have z0 : (!((((cs a ds).length : Nat) : Int) == 0)) = true := by rw [Bool.not_eq_true', beq_eq_false_iff_ne]; omega
   have b1 := hgd k
   have b2 := hgd ((k + 1) % (cs a ds).length)
   have s3 : sub ((cs a ds).getD ((k + 1) % (cs a ds).length) (0, 0)) ((cs a ds).getD k (0, 0)) = ds[k] := by rw [hcl, s1]; exact s2
   have b3 : Bd 6000 ds[k] := by rw [← s3]; exact (bd_sub b2 b1).le (by omega)
   have hside : ((cs a ds).getD k (0, 0), ds[k]) ∈ sd a ds := by rw [s1]; exact sd_at hk
   have eT : (sd a ds).take (k + 1) = (sd a ds).take k ++ [((cs a ds).getD k (0, 0), ds[k])] := by
    have hkl : k < (sd a ds).length := by omega
    have hg : (sd a ds)[k] = ((cs a ds).getD k (0, 0), ds[k]) := by
     have := sd_get (a := a) hk
     rw [List.getElem?_eq_getElem hkl] at this
     rw [Option.some.inj this, s1]
    rw [List.take_succ_eq_append_getElem hkl, hg]
   have eN : ds[k] = ds.getD k (0, 0) := (getD_el _ hk).symm
   rw [eN] at s3 b3 hside eT
   generalize hv : (cs a ds).getD k (0, 0) = v at s3 b1 hside eT
   generalize ds.getD k (0, 0) = d at s3 b3 hside eT
   simp only [g22_1i_0, FH42, run_br, run_nb, run_ni, run_nd, run_bd, run_ret, j1, r3, need_true, br_d, tm, Int.toNat_natCast, z0, j2, pr_eta, hv, bindO_s]
   rw [if_pos (by omega), if_pos (by omega), bind_of (k49 (b2.le (by omega)) (b1.le (by omega))), s3]
   simp only [pr_eta]
   rw [bind_of (k35 (b1.le (by omega)) (b3.le (by omega)))]
   simp only []
   by_cases c : decide (v.2 < y) = decide ((add v d).2 < y)
   ·rw [br_f (by rw [c]; simp)]
    refine ⟨_, rfl, _, _, rfl, hP.keep ?_⟩
    rintro l' h' (g | ⟨s, hs1, e1, e2, e3⟩)
    ·exact .inl g
    ·rw [eT] at hs1
     rcases List.mem_append.1 hs1 with hs1 | hs1
     ·exact .inr ⟨s, hs1, e1, e2, e3⟩
     ·rw [List.mem_singleton] at hs1; subst hs1; exact (e1 c).elim
   ·have hd0 : d.2 ≠ 0 := fun e => c (by simp only [add, e, Int.add_zero])
    obtain ⟨v1, v2, v3, v4⟩ := b1
    obtain ⟨d1, d2, d3, d4⟩ := b3
    have m := mulb (a := y - v.2) (b := d.1) (K := 103000) (M := 6000) (by omega) (by omega) d1 d2
    obtain ⟨q1, q2, q3⟩ := k43 (a := 0 - (y - v.2) * d.1) hd0 (by omega) (by omega)
    obtain ⟨p1, p2, p3⟩ := k43 (a := (y - v.2) * d.1) hd0 (by omega) (by omega)
    rw [br_t (by simpa using c), need_i64 (by omega) (by omega), need_i64 (by omega) (by omega), need_i64 (by omega) (by omega), bind_of q1]
    simp only []
    rw [need_i64 (by omega) (by omega), bind_of p1]
    simp only []
    rw [need_i64 (by omega) (by omega)]
    have eL : v.1 - Int.fdiv (0 - (y - v.2) * d.1) d.2 = loOf v d y := by unfold loOf; rw [Int.zero_sub]
    have eH : v.1 + Int.fdiv ((y - v.2) * d.1) d.2 = hiOf v d y := rfl
    rw [eL, eH]
    refine ⟨_, rfl, _, _, rfl, hP.put (Meet.side hside c) ?_⟩
    rintro l' h' (g | ⟨s, hs1, e1, e2, e3⟩)
    ·exact .inl (.inl g)
    ·rw [eT] at hs1
     rcases List.mem_append.1 hs1 with hs1 | hs1
     ·exact .inl (.inr ⟨s, hs1, e1, e2, e3⟩)
     ·rw [List.mem_singleton] at hs1; subst hs1; exact .inr ⟨e2, e3⟩) (fun s hs' => by
   obtain ⟨mn, mx, rfl, hP⟩ := hs'
   rw [List.take_of_length_le (by omega)] at hP
   refine ⟨_, ?_, mn, mx, rfl, hP⟩
   simp only [g22_1i_0, run_br, run_ret]
   rw [br_f (decide_eq_false (by omega))]) (x := (cs a ds, cs a ds, (((cs a ds).length : Nat) : Int), 0, 0, cs a ds, y, 0, 0, mn, mx, ())) ⟨mn, mx, rfl, hP.keep fun l h g => by
    rcases g with g | ⟨s, hs1, -⟩
    ·exact g
    ·simp at hs1⟩
 refine ⟨mn', mx', ?_, q3⟩
 simp only [g22_1, run_bd, run_it, run_ret]
 rw [bind_of q1, q2]
end Go.Proofs.Try
end
section
namespace Go.Proofs.Try
open Go.AM Go.Geo
set_option maxRecDepth 100000
theorem k22 {x : List (List Pt)} {U : List Pol} (h : Us x U) {y : Int} (hy : -100 ≤ y ∧ y ≤ 100) :
  ∃ lo hi e, run0 (F22 (csU U) y) = some ((lo, hi), e, ()) ∧ ((e = 0 ∧ ∀ t, -1000000 ≤ t → t ≤ 1000000 → (Has (a0U U) (dsU U) 1 (t, y) ↔ lo ≤ t ∧ t ≤ hi)) ∨ (e = 5 ∧ lo = 0 ∧ hi = 0 ∧ ∀ t, -1000000 ≤ t → t ≤ 1000000 → ¬ Has (a0U U) (dsU U) 1 (t, y))) := by
 obtain ⟨a1, -, a3⟩ := addU_ok h.s.sd
 have hl : (cs (a0U U) (dsU U)).length ≤ 20 := h.sum.2.2.2
 obtain ⟨mn, mx, q1, P1⟩ := it22_0 (a := a0U U) (ds := dsU U) (y := y) rfl (by omega)
 obtain ⟨mn', mx', q2, P2⟩ := it22_1 a3.sd (by omega) h.sum.2.2.1 (by omega) P1
 have hh : ∀ t, -1000000 ≤ t → t ≤ 1000000 → (Has (a0U U) (dsU U) 1 (t, y) ↔ mn' ≤ t ∧ t ≤ mx') := by
  intro t t0 t1
  have seen : ∀ l h, Meet (a0U U) (dsU U) y l h → mn' ≤ l ∧ h ≤ mx' := fun l h hm => P2.all l h (by
   cases hm with
   | pt hv e => exact .inl ⟨_, hv, e, rfl, rfl⟩
   | side hv c => exact .inr ⟨_, hv, c, rfl, rfl⟩)
  constructor
  ·intro g
   obtain ⟨⟨l1, h1, m1, e1⟩, l2, h2, m2, e2⟩ := in_meet a3.sd g
   have := seen _ _ m1; have := seen _ _ m2
   omega
  ·rintro ⟨g1, g2⟩
   rcases P2.mn with e | ⟨l1, h1, m1, e⟩
   ·omega
   ·rcases P2.mx with e' | ⟨l2, h2, m2, e'⟩
    ·omega
    ·exact meet_in a3.sd m1 m2 (by omega) (by omega)
 have start : ∀ z, (brO (decide (mx' < mn')) (some (((0 : Int), (0 : Int)), ((5 : Int), ()))) (some ((mn', mx'), ((0 : Int), ())))) = some z → run0 (F22 (csU U) y) = some z := by
  intro z hz
  simp only [F22, F37, run_bd, run_br, run_it, run_ret, bindO_s]
  rw [bind_of (k31 h.u (p := (0, y)) ⟨by simp, by simp, by simp only; omega, by simp only; omega⟩), beq_self_eq_true, Bool.not_true, br_false, bind_of (k33 h.s)]
  simp only [a1]
  refine bind_eq q1 ?_
  refine bind_eq q2 ?_
  exact hz
 by_cases c : mx' < mn'
 ·refine ⟨0, 0, 5, start _ (by rw [br_t (decide_eq_true c)]), .inr ⟨rfl, rfl, rfl, fun t t0 t1 g => ?_⟩⟩
  have := (hh t t0 t1).1 g
  omega
 ·exact ⟨mn', mx', 0, start _ (by rw [br_f (decide_eq_false c)]), .inl ⟨rfl, hh⟩⟩
theorem it6_0 {v3 c0 c1 c2 c3 : Int} {ls : List (List Pt)} : ∀ (n m : Nat), iter (fun s => run0 (g6_0 s)) (v3, ls, (m : Int), (n : Int), c0, c1, c2, c3, ()) = some (v3, ls, ((Nat.gcd m n : Nat) : Int), c0, c1, c2, c3, ()) := by
 intro n
 induction n using Nat.strongRecOn with
 | ind n ih =>
  intro m
  by_cases hn : n = 0
  ·subst hn
   refine iter_inr ?_
   simp only [g6_0, run_br, run_ret, Nat.gcd_zero_right]
   rw [br_f (decide_eq_false (by omega))]
  ·have e : Nat.gcd m n = Nat.gcd n (m % n) := by rw [Nat.gcd_comm, Nat.gcd_rec, Nat.gcd_comm]
   rw [e]
   refine iter_inl (step := fun s => run0 (g6_0 s)) ?_ (ih (m % n) (Nat.mod_lt _ (by omega)) n)
   have t : Int.tmod (m : Int) (n : Int) = ((m % n : Nat) : Int) := Int.ofNat_tmod m n
   simp only [g6_0, run_br, run_nd, run_ret, t]
   rw [br_t (decide_eq_true (by omega)), need_t (by rw [Bool.not_eq_true', beq_eq_false_iff_ne]; omega)]
/-- A point between two. -/
theorem Us.seg {x : List (List Pt)} {U : List Pol} (h : Us x U) {s t p : Pt} {g k : Int} (hs : s ∈ Go.Geo.sums (csU U)) (ht : t ∈ Go.Geo.sums (csU U)) (hg : 0 < g) (k0 : 0 ≤ k) (k1 : k ≤ g)
  (e1 : g * (p.1 - s.1) = k * (t.1 - s.1)) (e2 : g * (p.2 - s.2) = k * (t.2 - s.2)) : Has (a0U U) (dsU U) 1 p := by
 rw [has_sup h.sum.2.1.sd (by omega), isSum_sup h.s.sd h.sum.2.1]
 intro u
 have e : g * dt u p = (g - k) * dt u s + k * dt u t := by
  simp only [dt]
  have a1 : u.1 * (g * (p.1 - s.1)) = u.1 * (k * (t.1 - s.1)) := by rw [e1]
  have a2 : u.2 * (g * (p.2 - s.2)) = u.2 * (k * (t.2 - s.2)) := by rw [e2]
  grind
 by_cases c1 : dt u p ≤ dt u s
 ·exact ⟨s, hs, by omega⟩
 by_cases c2 : dt u p ≤ dt u t
 ·exact ⟨t, ht, by omega⟩
 exfalso
 have m1 := Int.mul_le_mul_of_nonneg_left (show dt u s ≤ dt u p - 1 by omega) (show 0 ≤ g - k by omega)
 have m2 := Int.mul_le_mul_of_nonneg_left (show dt u t ≤ dt u p - 1 by omega) k0
 have e3 : (g - k) * (dt u p - 1) + k * (dt u p - 1) = g * dt u p - g := by grind
 omega
theorem muls {D k g : Int} (k0 : 0 ≤ k) (k1 : k ≤ g) (h1 : -6000 ≤ D * g) (h2 : D * g ≤ 6000) : -6000 ≤ D * k ∧ D * k ≤ 6000 := by
 rcases Int.lt_or_le D 0 with hD | hD
 ·have := Int.mul_le_mul_of_nonpos_left (show D ≤ 0 by omega) k1
  have := Int.mul_nonneg (show 0 ≤ -D by omega) k0
  rw [Int.neg_mul] at this
  omega
 ·have := Int.mul_le_mul_of_nonneg_left k1 hD
  have := Int.mul_nonneg hD k0
  omega
theorem it6_1 {x : List (List Pt)} {U : List Pol} (h : Us x U) {s t : Pt} (hs : s ∈ Go.Geo.sums (csU U)) (ht : t ∈ Go.Geo.sums (csU U)) {g : Nat} {v3 : Int} (hg : g ≤ 100000) (d1 : (g : Int) ∣ (t.1 - s.1)) (d2 : (g : Int) ∣ (t.2 - s.2)) :
  iter (fun s => run0 (g6_1 s)) (v3, csU U, (g : Int), 0, s.1, s.2, t.1, t.2, ()) = some (.inr (v3, csU U, ())) := by
 obtain ⟨-, -, hbS⟩ := h.sums
 obtain ⟨s1, s2, s3, s4⟩ := hbS s hs
 obtain ⟨t1, t2, t3, t4⟩ := hbS t ht
 obtain ⟨r, q1, q2⟩ := iter_ex (step := fun s => run0 (g6_1 s)) (g + 1) (fun k z => z = (v3, csU U, (g : Int), (k : Int), s.1, s.2, t.1, t.2, ()))
  (fun r => r = .inr (v3, csU U, ())) (fun k z hk hz => by
   subst hz
   have r3 : rng .i64 ((k : Int) + 1) = true := rng_i64 (by omega) (by omega)
   refine ⟨(v3, csU U, (g : Int), ((k + 1 : Nat) : Int), s.1, s.2, t.1, t.2, ()), ?_, rfl⟩
   simp only [g6_1, run_br, run_jx, run_ni, run_nd, run_bd, run_ret]
   rw [br_t (decide_eq_true (by omega))]
   refine bind_ex (fun p : Pt => .inl (v3, csU U, (g : Int), (k : Int), s.1, s.2, t.1, t.2, p.1, p.2, ())) (fun p => Has (a0U U) (dsU U) 1 p) ?_ ?_
   ·by_cases hg0 : 0 < g
    ·have ne : (!((g : Int) == 0)) = true := by rw [Bool.not_eq_true', beq_eq_false_iff_ne]; omega
     have c1 := Int.tdiv_mul_cancel d1
     have c2 := Int.tdiv_mul_cancel d2
     rw [br_t (decide_eq_true (by omega))]
     simp only [ne, need_true]
     generalize Int.tdiv (t.1 - s.1) (g : Int) = D1 at c1 ⊢
     generalize Int.tdiv (t.2 - s.2) (g : Int) = D2 at c2 ⊢
     have m1 := muls (D := D1) (k := k) (g := g) (by omega) (by omega) (by omega) (by omega)
     have m2 := muls (D := D2) (k := k) (g := g) (by omega) (by omega) (by omega) (by omega)
     have n1 := muls (D := D1) (k := 1) (g := g) (by omega) (by omega) (by omega) (by omega)
     have n2 := muls (D := D2) (k := 1) (g := g) (by omega) (by omega) (by omega) (by omega)
     rw [need_i64 (by omega) (by omega), need_i64 (by omega) (by omega), need_i64 (by omega) (by omega), need_i64 (by omega) (by omega), need_i64 (by omega) (by omega), need_i64 (by omega) (by omega), need_i64 (by omega) (by omega), need_i64 (by omega) (by omega)]
     refine ⟨(s.1 + D1 * k, s.2 + D2 * k), rfl, h.seg hs ht (g := g) (k := k) (by omega) (by omega) (by omega) ?_ ?_⟩
     ·rw [← c1]; simp only []; grind
     ·rw [← c2]; simp only []; grind
    ·rw [br_f (decide_eq_false (by omega))]
     exact ⟨s, rfl, h.in_sum hs⟩
   ·intro p hh
    have hp : Bd 100000 p := (has_bd h.sum.2.2.1 hh).le (by omega)
    obtain ⟨W, f, q14, w1, w2, hf, hsum⟩ := (k14 h hp).2 hh
    simp only [onS, pr_eta]
    rw [bind_of (k13 h hp), bind_of q14]
    simp only [decide_eq_true hh, beq_self_eq_true, Bool.not_true, br_false]
    rw [bind_of (k20_ok h hp w1 w2 hf hsum)]
    simp only [beq_self_eq_true, Bool.not_true, br_false, r3, need_true]
    rfl) (fun z hz => by
   subst hz
   refine ⟨_, ?_, rfl⟩
   simp only [g6_1, run_br, run_ret]
   rw [br_f (decide_eq_false (by omega))]) (x := (v3, csU U, (g : Int), 0, s.1, s.2, t.1, t.2, ())) (by simp)
 rw [q1, q2]
theorem it6_2 {x : List (List Pt)} {U : List Pol} (h : Us x U) {y lo hi e : Int} (hy : -100 ≤ y ∧ y ≤ 100) (hk : (e = 0 ∧ ∀ t, -1000000 ≤ t → t ≤ 1000000 → (Has (a0U U) (dsU U) 1 (t, y) ↔ lo ≤ t ∧ t ≤ hi)) ∨ (e = 5 ∧ lo = 0 ∧ hi = 0 ∧ ∀ t, -1000000 ≤ t → t ≤ 1000000 → ¬ Has (a0U U) (dsU U) 1 (t, y))) :
  iter (fun s => run0 (g6_2 s)) (y, e, sC U, -60, lo, hi, ()) = some (.inr (e, lo, hi, ())) := by
 have hl : (cs (a0U U) (dsU U)).length ≤ 20 := h.sum.2.2.2
 obtain ⟨r, q1, q2⟩ := iter_ex (step := fun s => run0 (g6_2 s)) 121 (fun k z => z = (y, e, sC U, (k : Int) - 60, lo, hi, ())) (fun r => r = .inr (e, lo, hi, ())) (fun k z hk' hz => by
   subst hz
   have r3 : rng .i64 ((k : Int) - 60 + 1) = true := rng_i64 (by omega) (by omega)
   refine ⟨(y, e, sC U, ((k + 1 : Nat) : Int) - 60, lo, hi, ()), ?_, rfl⟩
   have ek : ((k + 1 : Nat) : Int) - 60 = (k : Int) - 60 + 1 := by omega
   have hA : amB (sC U) ((k : Int) - 60, y) = true ↔ Has (a0U U) (dsU U) 1 ((k : Int) - 60, y) := by rw [amB_iff]; exact (has_among1 h.sum.2.1.sd).symm
   have q12 := k12 (l := sC U) (p := ((k : Int) - 60, y)) (show (cs (a0U U) (dsU U)).length ≤ 1000000 by omega) (fun v hv => (h.sum.2.2.1 v hv).le (by omega)) ⟨by simp only; omega, by simp only; omega, by simp only; omega, by simp only; omega⟩
   simp only [g6_2, run_br, run_bd, run_ni, run_ret, r3, need_true, ek]
   rw [br_t (decide_eq_true (by omega)), bind_of q12]
   simp only []
   rcases hk with ⟨rfl, hk⟩ | ⟨rfl, -, -, hk⟩
   ·have := hk ((k : Int) - 60) (by omega) (by omega)
    rw [br_t (show ((0 : Int) == 0) = true from rfl)]
    by_cases c : lo ≤ (k : Int) - 60
    ·rw [br_t (decide_eq_true c), br_f ?_]
     have : amB (sC U) ((k : Int) - 60, y) = decide ((k : Int) - 60 ≤ hi) := by
      by_cases c2 : (k : Int) - 60 ≤ hi
      ·rw [decide_eq_true c2, hA, this]; exact ⟨c, c2⟩
      ·rw [decide_eq_false c2, ← Bool.not_eq_true, hA, this]; exact fun g => c2 g.2
     rw [this]; simp
    ·rw [br_f (decide_eq_false c), br_f ?_]
     have : amB (sC U) ((k : Int) - 60, y) = false := by rw [← Bool.not_eq_true, hA, this]; exact fun g => c g.1
     rw [this]; rfl
   ·rw [br_f (show ((5 : Int) == 0) = false from rfl), br_f ?_]
    have : amB (sC U) ((k : Int) - 60, y) = false := by rw [← Bool.not_eq_true, hA]; exact hk _ (by omega) (by omega)
    rw [this]; rfl) (fun z hz => by
   subst hz
   refine ⟨_, ?_, rfl⟩
   simp only [g6_2, run_br, run_ret]
   rw [br_f (decide_eq_false (by omega))]) (x := (y, e, sC U, -60, lo, hi, ())) (by simp)
 rw [q1, q2]
end Go.Proofs.Try
end
section
namespace Go.Proofs.Try
open Go.AM Go.Geo
set_option maxRecDepth 100000
theorem imax_abs (z : Int) (w : Int) (h : w = -z) : imax z w = (z.natAbs : Int) := by unfold imax; split <;> omega
theorem law6 {x : List (List Pt)} {a b c : Int} (h : WfX x) (a0 : 0 ≤ a) (a1 : a ≤ 255) (b0 : 0 ≤ b) (b1 : b ≤ 255) (c0 : -128 ≤ c) (c1 : c ≤ 127) : run0 (F6 x a b c) = some (true, ()) := by
 obtain ⟨U, hU⟩ := us_of h
 obtain ⟨q11, hl, hb⟩ := hU.sums
 have hne := sums_ne hU.s.sd
 have hpos := List.length_pos_iff.2 hne
 generalize hS : Go.Geo.sums (csU U) = S at q11 hl hb hpos
 obtain ⟨i, rfl⟩ := Int.eq_ofNat_of_zero_le a0
 obtain ⟨j, rfl⟩ := Int.eq_ofNat_of_zero_le b0
 have ti : Int.tmod (i : Int) ((S.length : Nat) : Int) = ((i % S.length : Nat) : Int) := Int.ofNat_tmod _ _
 have tj : Int.tmod (j : Int) ((S.length : Nat) : Int) = ((j % S.length : Nat) : Int) := Int.ofNat_tmod _ _
 have hi := Nat.mod_lt i hpos
 have hj := Nat.mod_lt j hpos
 have ji : inb ((i % S.length : Nat) : Int) ((S.length : Nat) : Int) = true := inb_t (Int.natCast_nonneg _) (Int.ofNat_lt.2 hi)
 have jj : inb ((j % S.length : Nat) : Int) ((S.length : Nat) : Int) = true := inb_t (Int.natCast_nonneg _) (Int.ofNat_lt.2 hj)
 have z0 : (!(((S.length : Nat) : Int) == 0)) = true := by rw [Bool.not_eq_true', beq_eq_false_iff_ne]; omega
 have z4 : (!((4 : Int) == 0)) = true := rfl
 have ms : S.getD (i % S.length) (0, 0) ∈ S := getD_mem hi
 have mt : S.getD (j % S.length) (0, 0) ∈ S := getD_mem hj
 generalize hs : S.getD (i % S.length) (0, 0) = s at ms
 generalize hs' : S.getD (j % S.length) (0, 0) = t at mt
 obtain ⟨s1, s2, s3, s4⟩ := hb s ms
 obtain ⟨t1, t2, t3, t4⟩ := hb t mt
 have dc := td_bd 4 (by omega) (a := c) (K := 128) (by omega) (by omega)
 have q16 := hU.sum.1
 simp only [F6, run_bd, run_br, run_ni, run_nd, run_nb, run_it, run_ret]
 rw [bind_of (k10 h), Bool.not_true, br_false]
 simp only [hU.eq]
 rw [bind_of q11]
 simp only [ti, tj, ji, jj, z0, z4, need_true, Int.toNat_natCast, hs, hs']
 rw [need_i64 (by omega) (by omega), need_i64 (by omega) (by omega), need_i64 (by omega) (by omega), need_i64 (by omega) (by omega), need_i64 (by omega) (by omega), need_i64 (by omega) (by omega)]
 rw [imax_abs (s.1 - t.1) (t.1 - s.1) (by omega), imax_abs (s.2 - t.2) (t.2 - s.2) (by omega)]
 rw [bind_of (it6_0 _ _)]
 have g1 : ((Nat.gcd (s.1 - t.1).natAbs (s.2 - t.2).natAbs : Nat) : Int) ∣ (t.1 - s.1) := by
  rw [Int.ofNat_dvd_left, show (t.1 - s.1).natAbs = (s.1 - t.1).natAbs by omega]; exact Nat.gcd_dvd_left _ _
 have g2 : ((Nat.gcd (s.1 - t.1).natAbs (s.2 - t.2).natAbs : Nat) : Int) ∣ (t.2 - s.2) := by
  rw [Int.ofNat_dvd_left, show (t.2 - s.2).natAbs = (s.2 - t.2).natAbs by omega]; exact Nat.gcd_dvd_right _ _
 have gle : Nat.gcd (s.1 - t.1).natAbs (s.2 - t.2).natAbs ≤ 100000 := by
  by_cases e : (s.1 - t.1).natAbs = 0
  ·rw [e, Nat.gcd_zero_left]; omega
  ·have := Nat.gcd_le_left (s.2 - t.2).natAbs (show 0 < (s.1 - t.1).natAbs by omega); omega
 refine bind_eq (it6_1 hU (by rw [hS]; exact ms) (by rw [hS]; exact mt) gle g1 g2) ?_
 simp only [run_sr, run_bd, run_br, run_ni, run_nd, run_it, run_ret, z4, need_true]
 rw [need_i64 (by omega) (by omega), need_i64 (by omega) (by omega)]
 have hy : -100 ≤ Int.tdiv c 4 ∧ Int.tdiv c 4 ≤ 100 := by
  have h1 := Int.mul_tdiv_add_tmod c 4
  have h2 := Int.natAbs_tdiv_le_natAbs c 4
  rcases @td c 4 (by omega) with ⟨p1, p2⟩
  rcases Int.lt_or_le c 0 with q | q
  ·rw [p2 q]; omega
  ·rw [p1 q]; omega
 generalize Int.tdiv c 4 = y at hy ⊢
 obtain ⟨lo, hi', e, q22, hk⟩ := k22 hU hy
 rw [bind_of q22, bind_of q16]
 have q62 := it6_2 hU hy hk
 simp only [beq_self_eq_true, Bool.not_true, br_false]
 rcases hk with ⟨rfl, -⟩ | ⟨rfl, rfl, rfl, -⟩
 ·rw [br_f (show (!((0 : Int) == 0)) = false from rfl)]
  refine bind_eq q62 ?_
  simp only [run_sr, run_bd, run_br, run_ret]
  rw [br_t (show ((0 : Int) == 0) = true from rfl), bind_of works_ok]
 ·rw [br_t (show (!((5 : Int) == 0)) = true from rfl), br_f (show (!((5 : Int) == 5)) = false from rfl)]
  refine bind_eq q62 ?_
  simp only [run_sr, run_bd, run_br, run_ret]
  rw [br_f (show ((5 : Int) == 0) = false from rfl), br_t (show ((0 : Int) == 0 && ((0 : Int) == 0 && true)) = true from rfl), bind_of works_ok]
theorem u8_minB : IntKind.u8.min = 0 := by decide
theorem u8_maxB : IntKind.u8.max = 255 := by decide
theorem law6h (x : List (List Pt)) (a b c : Int) (hW : WfAll [tX, .int .u8, .int .u8, .int .i8] (x, a, b, c, ())) : run0 (F6 x a b c) = some (true, ()) := by
 have h2 := hW.2.1
 have h3 := hW.2.2.1
 have h4 := hW.2.2.2.1
 simp only [Wf, u8_minB, u8_maxB, i8_min, i8_max] at h2 h3 h4
 exact law6 (wfX_of hW.1) h2.1 h2.2 h3.1 h3.2 h4.1 h4.2
end Go.Proofs.Try
end
