/- Functions of the program as functions of data, part 1; printed by a program of mine. -/
import Derived.Test.YtdbjdjjcijgdfaaDoorAMe
import Derived.Test.YtdbjdjjcijgdfaaDoorProg
set_option linter.unusedSectionVars false
set_option linter.unusedVariables false
set_option linter.unusedSimpArgs false
open Go.AM
namespace Go.Proofs.Tryd
set_option maxRecDepth 100000
set_option synthInstance.maxSize 4000
set_option synthInstance.maxHeartbeats 400000
set_option synthInstance.maxSize 4000
set_option synthInstance.maxHeartbeats 400000
theorem mixed : prog.follows .mixedOrders = true := by kernel_rfl
@[reducible] def oo (n : Nat) (i : I) : Itm := .op (some n) none i
@[reducible] def om (n k : Nat) : Itm := .op (some n) none (.mv (.t k))
@[reducible] def ol (n k : Nat) : Itm := .op (some n) none (.load false 1 (.t k))
@[reducible] def og (n k : Nat) (b : Bool) (i : I) : Itm := .op (some n) (some (k, b)) i
@[reducible] def ki (n : Nat) : O := .c (.int .i64 (Int.ofNat n))
@[reducible] def hzI : SP := .c (.hole (.int .i64))
@[reducible] def hzL : SP := .c (.hole (.list (.int .i64)))
@[reducible] def hzM : SP := .c (.hole (.list (.list (.int .i64))))

/- 15 -/
noncomputable def cx15 : Cx := mkCxH [] []
theorem cx15_ok : cx15.Ok prog := mkCxH_ok trivial trivial
@[reducible] def p15_0 : Pat := Pat.mk [(1, .c (.ptr 0 0)), (3, .c (.hole .bool)), (4, hI)] [(0, .cells [.hole (.list (.prod tI tL))] false)] [.slot 1] []
@[reducible] def x15_0 : Outs := [(.exit 0, Pat.mk [(3, .c (.hole .bool))] [] [] [])]
noncomputable def b15_0 : D prog 38 none 0 := dO [] (pick (kd prog f15) [(0, false)]) 0
noncomputable def g15_0 : Bool × Int × (List (Int × List Int)) × Unit → Tr0 ((Bool × Int × (List (Int × List Int)) × Unit) ⊕ ((Bool × Unit))) := fun (v3, v4, c0_0, _) =>
 .br (decide (v4 < (((c0_0).length : Nat) : Int))) (
 .nb v4 (((c0_0).length : Nat) : Int) <|
 .br v3 (
 .ni (v4 + (1 : Int)) <|
 .ret (.inl (true, ((v4 + (1 : Int)), (c0_0, ()))))) (
 .br (decide ((6 : Int) < (((((c0_0).getD (Int.toNat v4) ((0 : Int), [])).2).length : Nat) : Int))) (
 .br (decide ((((((c0_0).getD (Int.toNat v4) ((0 : Int), [])).2).length : Nat) : Int) ≤ (9 : Int))) (
 .ni (v4 + (1 : Int)) <|
 .ret (.inl (true, ((v4 + (1 : Int)), (c0_0, ()))))) (
 .ni (v4 + (1 : Int)) <|
 .ret (.inl ((decide ((40 : Int) < (((((c0_0).getD (Int.toNat v4) ((0 : Int), [])).2).length : Nat) : Int))), ((v4 + (1 : Int)), (c0_0, ())))))) (
 .ni (v4 + (1 : Int)) <|
 .ret (.inl ((decide ((40 : Int) < (((((c0_0).getD (Int.toNat v4) ((0 : Int), [])).2).length : Nat) : Int))), ((v4 + (1 : Int)), (c0_0, ()))))))) (
 .ret (.inr (v3, ())))
theorem s15_0 : ∀ x, roundE (kzO (p15_0.T ⊕ x15_0.T)) cx15 ar0 [] p15_0 x15_0 (b15_0) (fun y => some (.inl y)) (fun b => some (.inr b)) x = run0 (g15_0 x) := fun x => by kernel_rfl
noncomputable def L15_0 : LoopS prog 38 none 0 := mkLoop mixed cx15 cx15_ok [] rfl p15_0 x15_0 rfl (b15_0) (fun x => run0 (g15_0 x)) (s15_0)
noncomputable def dd15 : D prog 38 none 0 := dO [.l L15_0] (kd prog f15) 0
noncomputable def F15 (a0_0 : List (Int × List Int)) : Tr0 (Bool × Unit) :=
 .bd (.it g15_0 ((decide ((20 : Int) < (((a0_0).length : Nat) : Int))), ((0 : Int), (a0_0, ())))) fun z0 =>
 .ret (z0.1, ())
theorem c15_ok : trF prog f15 = some ⟨38, 1, dd15.er, [.t 2], [some .bool]⟩ := by kernel_rfl
noncomputable def ct15 : Ct := ⟨15, [.agg [.hole (.list (.prod tI tL))]], .c (.hole .bool), fun x => run0 (F15 x.1)⟩
theorem ct15_ok : ct15.Ok prog := ct_ok mixed cx15_ok func15 c15_ok (enters_of func15 rfl rfl) dd15 (by kernel_rfl) rfl (fun x => by kernel_rfl)

/- 54 -/
noncomputable def cx54 : Cx := mkCxH [] []
theorem cx54_ok : cx54.Ok prog := mkCxH_ok trivial trivial
noncomputable def dd54 : D prog 8 none 0 := dO [] (kd prog f54) 0
noncomputable def F54 (a0 : Int) (a1 : List Int) : Tr0 ((Int × List Int) × Unit) :=
 .ret ((a0, a1), ())
theorem c54_ok : trF prog f54 = some ⟨8, 2, dd54.er, [.cell 4 true 2], [some (.prod tI tL)]⟩ := by kernel_rfl
noncomputable def ct54 : Ct := ⟨54, [hI, hL], .c (.hole (.prod tI tL)), fun x => run0 (F54 x.1 x.2.1)⟩
theorem ct54_ok : ct54.Ok prog := ct_ok mixed cx54_ok func54 c54_ok (enters_of func54 rfl rfl) dd54 (by kernel_rfl) rfl (fun x => by kernel_rfl)

/- 53 -/
noncomputable def cx53 : Cx := mkCxH [] []
theorem cx53_ok : cx53.Ok prog := mkCxH_ok trivial trivial
noncomputable def dd53 : D prog 5 none 0 := dO [] (kd prog f53) 0
noncomputable def F53 (a0 : List (Int × List Int)) : Tr0 (((List (Int × List Int)) × Unit) × Unit) :=
 .ret ((a0, ()), ())
theorem c53_ok : trF prog f53 = some ⟨5, 1, dd53.er, [.cell 2 true 1], [some (.prod (.list (.prod tI tL)) .unit)]⟩ := by kernel_rfl
noncomputable def ct53 : Ct := ⟨53, [.c (.hole (.list (.prod tI tL)))], .c (.hole (.prod (.list (.prod tI tL)) .unit)), fun x => run0 (F53 x.1)⟩
theorem ct53_ok : ct53.Ok prog := ct_ok mixed cx53_ok func53 c53_ok (enters_of func53 rfl rfl) dd53 (by kernel_rfl) rfl (fun x => by kernel_rfl)

/- 52 -/
noncomputable def cx52 : Cx := mkCxH [ct54, ct53] []
theorem cx52_ok : cx52.Ok prog := mkCxH_ok ⟨ct54_ok, ct53_ok, trivial⟩ trivial
noncomputable def dd52 : D prog 5 none 0 := dO [] (kd prog f52) 0
noncomputable def F52 : Tr0 (((List (Int × List Int)) × Unit) × Unit) :=
 .bd (F54 (6 : Int) (((((4 : Int) :: ((3 : Int) :: ((2 : Int) :: ((1 : Int) :: []))))).drop (0 : Nat)).take (4 : Nat))) fun y0 =>
 .bd (F53 (((((y0.1.1, y0.1.2) :: [])).drop (0 : Nat)).take (1 : Nat))) fun y1 =>
 .ret ((y1.1.1, ()), ())
theorem c52_ok : trF prog f52 = some ⟨5, 0, dd52.er, [.cell 0 true 1], [some (.prod (.list (.prod tI tL)) .unit)]⟩ := by kernel_rfl
noncomputable def ct52 : Ct := ⟨52, [], .c (.hole (.prod (.list (.prod tI tL)) .unit)), fun x => run0 (F52)⟩
theorem ct52_ok : ct52.Ok prog := ct_ok mixed cx52_ok func52 c52_ok (enters_of func52 rfl rfl) dd52 (by kernel_rfl) rfl (fun x => by kernel_rfl)

/- 91 -/
noncomputable def cx91 : Cx := mkCxH [] []
theorem cx91_ok : cx91.Ok prog := mkCxH_ok trivial trivial
noncomputable def dd91 : D prog 9 none 0 := dO [] (kd prog f91) 0
noncomputable def F91 (a0_0 : List (Int × List Int)) : Tr0 (Int × Unit) :=
 .nb (0 : Int) (((a0_0).length : Nat) : Int) <|
 .ret ((((((a0_0).getD (Int.toNat (0 : Int)) ((0 : Int), [])).2).length : Nat) : Int), ())
theorem c91_ok : trF prog f91 = some ⟨9, 1, dd91.er, [.t 2], [some tI]⟩ := by kernel_rfl
noncomputable def ct91 : Ct := ⟨91, [.agg [.hole (.list (.prod tI tL))]], hI, fun x => run0 (F91 x.1)⟩
theorem ct91_ok : ct91.Ok prog := ct_ok mixed cx91_ok func91 c91_ok (enters_of func91 rfl rfl) dd91 (by kernel_rfl) rfl (fun x => by kernel_rfl)

/- 67 -/
noncomputable def cx67 : Cx := mkCxH [] []
theorem cx67_ok : cx67.Ok prog := mkCxH_ok trivial trivial
noncomputable def dd67 : D prog 15 none 0 := dO [] (kd prog f67) 0
noncomputable def F67 (a0 : Int) (a1 : Int) (a2 : Int) : Tr0 (Bool × Unit) :=
 .br (decide (a0 ≤ a1)) (
 .ret ((decide (a1 ≤ a2)), ())) (
 .ret (false, ()))
theorem c67_ok : trF prog f67 = some ⟨15, 3, dd67.er, [.t 6], [some .bool]⟩ := by kernel_rfl
noncomputable def ct67 : Ct := ⟨67, [hI, hI, hI], .c (.hole .bool), fun x => run0 (F67 x.1 x.2.1 x.2.2.1)⟩
theorem ct67_ok : ct67.Ok prog := ct_ok mixed cx67_ok func67 c67_ok (enters_of func67 rfl rfl) dd67 (by kernel_rfl) rfl (fun x => by kernel_rfl)

/- 92 -/
noncomputable def cx92 : Cx := mkCxH [ct67] []
theorem cx92_ok : cx92.Ok prog := mkCxH_ok ⟨ct67_ok, trivial⟩ trivial
noncomputable def dd92 : D prog 6 none 0 := dO [] (kd prog f92) 0
noncomputable def F92 (a0 : Int) : Tr0 (Bool × Unit) :=
 .bd (F67 (0 : Int) a0 (1000000 : Int)) fun y0 =>
 .ret ((!y0.1), ())
theorem c92_ok : trF prog f92 = some ⟨6, 1, dd92.er, [.t 2], [some .bool]⟩ := by kernel_rfl
noncomputable def ct92 : Ct := ⟨92, [hI], .c (.hole .bool), fun x => run0 (F92 x.1)⟩
theorem ct92_ok : ct92.Ok prog := ct_ok mixed cx92_ok func92 c92_ok (enters_of func92 rfl rfl) dd92 (by kernel_rfl) rfl (fun x => by kernel_rfl)

/- 105 -/
noncomputable def cx105 : Cx := mkCxH [ct92] []
theorem cx105_ok : cx105.Ok prog := mkCxH_ok ⟨ct92_ok, trivial⟩ trivial
@[reducible] def p105_0 : Pat := Pat.mk [(0, hL), (1, .c (.fn0 92)), (7, hI), (8, hI)] [] [] []
@[reducible] def x105_0 : Outs := [(.ret, Pat.mk [(4, hI)] [] [] []), (.exit 0, Pat.mk [] [] [] [])]
noncomputable def b105_0 : D prog 19 none 0 := dO [] (pick (kd prog f105) [(0, false)]) 0
noncomputable def g105_0 : List Int × Int × Int × Unit → Tr0 ((List Int × Int × Int × Unit) ⊕ ((Int × Unit) ⊕ ((Unit)))) := fun (v0, v7, v8, _) =>
 .br (decide (v8 < v7)) (
 .nb v8 (((v0).length : Nat) : Int) <|
 .bd (F92 ((v0).getD (Int.toNat v8) (0 : Int))) fun y0 =>
 .br y0.1 (
 .ret (.inr <| .inl <| (v8, ()))) (
 .ni (v8 + (1 : Int)) <|
 .ret (.inl (v0, (v7, ((v8 + (1 : Int)), ())))))) (
 .ret (.inr <| .inr <| ()))
theorem s105_0 : ∀ x, roundE (kzO (p105_0.T ⊕ x105_0.T)) cx105 ar0 [] p105_0 x105_0 (b105_0) (fun y => some (.inl y)) (fun b => some (.inr b)) x = run0 (g105_0 x) := fun x => by kernel_rfl
noncomputable def L105_0 : LoopS prog 19 none 0 := mkLoop mixed cx105 cx105_ok [] rfl p105_0 x105_0 rfl (b105_0) (fun x => run0 (g105_0 x)) (s105_0)
noncomputable def dd105 : D prog 19 none 0 := dO [.l L105_0] (kd prog f105) 0
noncomputable def F105 (a0 : List Int) : Tr0 (Int × Unit) :=
 .bd (.it g105_0 (a0, ((((a0).length : Nat) : Int), ((0 : Int), ())))) fun z1 =>
 .sm z1 (fun z2 =>
 .ret (z2.1, ())) fun z3 =>
 .ret ((-1 : Int), ())
theorem c105_ok : trF prog f105 = some ⟨19, 2, dd105.er, [.t 4], [some tI]⟩ := by kernel_rfl
noncomputable def ct105 : Ct := ⟨105, [hL, .c (.fn0 92)], hI, fun x => run0 (F105 x.1)⟩
theorem ct105_ok : ct105.Ok prog := ct_ok mixed cx105_ok func105 c105_ok (enters_of func105 rfl rfl) dd105 (by kernel_rfl) rfl (fun x => by kernel_rfl)

/- 93 -/
noncomputable def cx93 : Cx := mkCxH [ct105] []
theorem cx93_ok : cx93.Ok prog := mkCxH_ok ⟨ct105_ok, trivial⟩ trivial
noncomputable def dd93 : D prog 9 none 0 := dO [] (kd prog f93) 0
noncomputable def F93 (a0 : List Int) : Tr0 (Bool × Unit) :=
 .bd (F105 a0) fun y0 =>
 .ret ((decide ((0 : Int) ≤ y0.1)), ())
theorem c93_ok : trF prog f93 = some ⟨9, 2, dd93.er, [.t 4], [some .bool]⟩ := by kernel_rfl
noncomputable def ct93 : Ct := ⟨93, [hL, .c (.fn0 92)], .c (.hole .bool), fun x => run0 (F93 x.1)⟩
theorem ct93_ok : ct93.Ok prog := ct_ok mixed cx93_ok func93 c93_ok (enters_of func93 rfl rfl) dd93 (by kernel_rfl) rfl (fun x => by kernel_rfl)

/- 41 -/
noncomputable def cx41 : Cx := mkCxH [ct91, ct67, ct93] []
theorem cx41_ok : cx41.Ok prog := mkCxH_ok ⟨ct91_ok, ct67_ok, ct93_ok, trivial⟩ trivial
@[reducible] def p41_0 : Pat := Pat.mk [(1, .c (.ptr 0 0)), (3, .c (.fn0 92)), (25, .c (.hole (.list (.prod tI tL)))), (26, hI), (27, hI)] [(0, .cells [.hole (.list (.prod tI tL))] false)] [.slot 1] []
@[reducible] def x41_0 : Outs := [(.ret, Pat.mk [(2, hI)] [] [] []), (.exit 1, Pat.mk [] [] [] [])]
noncomputable def b41_0 : D prog 50 none 0 := dO [] (pick (kd prog f41) [(0, false)]) 0
noncomputable def g41_0 : (List (Int × List Int)) × Int × Int × (List (Int × List Int)) × Unit → Tr0 (((List (Int × List Int)) × Int × Int × (List (Int × List Int)) × Unit) ⊕ ((Int × Unit) ⊕ ((Unit)))) := fun (v25, v26, v27, c0_0, _) =>
 .br (decide (v27 < v26)) (
 .nb v27 (((v25).length : Nat) : Int) <|
 .bd (F91 c0_0) fun y2 =>
 .br (!((((((v25).getD (Int.toNat v27) ((0 : Int), [])).2).length : Nat) : Int) == y2.1)) (
 .ret (.inr <| .inl <| ((3 : Int), ()))) (
 .bd (F67 (1 : Int) ((v25).getD (Int.toNat v27) ((0 : Int), [])).1 (10000000 : Int)) fun y3 =>
 .br (!y3.1) (
 .ret (.inr <| .inl <| ((2 : Int), ()))) (
 .bd (F93 ((v25).getD (Int.toNat v27) ((0 : Int), [])).2) fun y4 =>
 .br y4.1 (
 .ret (.inr <| .inl <| ((2 : Int), ()))) (
 .ni (v27 + (1 : Int)) <|
 .ret (.inl (v25, (v26, ((v27 + (1 : Int)), (c0_0, ()))))))))) (
 .ret (.inr <| .inr <| ()))
theorem s41_0 : ∀ x, roundE (kzO (p41_0.T ⊕ x41_0.T)) cx41 ar0 [] p41_0 x41_0 (b41_0) (fun y => some (.inl y)) (fun b => some (.inr b)) x = run0 (g41_0 x) := fun x => by kernel_rfl
noncomputable def L41_0 : LoopS prog 50 none 0 := mkLoop mixed cx41 cx41_ok [] rfl p41_0 x41_0 rfl (b41_0) (fun x => run0 (g41_0 x)) (s41_0)
noncomputable def dd41 : D prog 50 none 0 := dO [.l L41_0] (kd prog f41) 0
noncomputable def F41 (a0_0 : List (Int × List Int)) : Tr0 (Int × Unit) :=
 .br ((((a0_0).length : Nat) : Int) == (0 : Int)) (
 .ret ((4 : Int), ())) (
 .br (decide ((3 : Int) < (((a0_0).length : Nat) : Int))) (
 .ret ((1 : Int), ())) (
 .bd (F91 a0_0) fun y0 =>
 .br (y0.1 == (0 : Int)) (
 .ret ((4 : Int), ())) (
 .bd (F91 a0_0) fun y1 =>
 .br (decide ((9 : Int) < y1.1)) (
 .ret ((1 : Int), ())) (
 .bd (.it g41_0 (a0_0, ((((a0_0).length : Nat) : Int), ((0 : Int), (a0_0, ()))))) fun z5 =>
 .sm z5 (fun z6 =>
 .ret (z6.1, ())) fun z7 =>
 .ret ((0 : Int), ())))))
theorem c41_ok : trF prog f41 = some ⟨50, 1, dd41.er, [.t 2], [some tI]⟩ := by kernel_rfl
noncomputable def ct41 : Ct := ⟨41, [.agg [.hole (.list (.prod tI tL))]], hI, fun x => run0 (F41 x.1)⟩
theorem ct41_ok : ct41.Ok prog := ct_ok mixed cx41_ok func41 c41_ok (enters_of func41 rfl rfl) dd41 (by kernel_rfl) rfl (fun x => by kernel_rfl)

/- 81 -/
noncomputable def cx81 : Cx := mkCxH [] []
theorem cx81_ok : cx81.Ok prog := mkCxH_ok trivial trivial
@[reducible] def p81_0 : Pat := Pat.mk [(1, hI), (5, .c (.sl0 0 (.ifc 55 true (.prod tI tL)))), (9, .c (.hole (.list (.prod tI tL)))), (10, hI), (11, hI)] [(0, .arr (.ifc 55 true (.prod tI tL)) false)] [.slot 5] []
@[reducible] def x81_0 : Outs := [(.exit 0, Pat.mk [(5, .c (.sl0 0 (.ifc 55 true (.prod tI tL))))] [(0, .arr (.ifc 55 true (.prod tI tL)) false)] [.slot 5] [])]
noncomputable def b81_0 : D prog 26 none 0 := dO [] (pick (kd prog f81) [(0, false)]) 0
noncomputable def g81_0 : Int × Nat × (List (Int × List Int)) × Int × Int × (List (Int × List Int)) × Unit → Tr0 ((Int × Nat × (List (Int × List Int)) × Int × Int × (List (Int × List Int)) × Unit) ⊕ ((Nat × (List (Int × List Int)) × Unit))) := fun (v1, nv5, v9, v10, v11, b0, _) =>
 .br (decide (v11 < v10)) (
 .nb v11 (((v9).length : Nat) : Int) <|
 .br (!(v11 == v1)) (
 .nd (decide ((nv5 + ((((((((v9).getD (Int.toNat v11) ((0 : Int), [])).1, ((v9).getD (Int.toNat v11) ((0 : Int), [])).2) :: [])).drop (0 : Nat)).take (1 : Nat))).length) < bigL)) <|
 .ni (v11 + (1 : Int)) <|
 .ret (.inl (v1, ((nv5 + ((((((((v9).getD (Int.toNat v11) ((0 : Int), [])).1, ((v9).getD (Int.toNat v11) ((0 : Int), [])).2) :: [])).drop (0 : Nat)).take (1 : Nat))).length), (v9, (v10, ((v11 + (1 : Int)), (((((b0).drop (0 : Nat)).take nv5) ++ (((((((v9).getD (Int.toNat v11) ((0 : Int), [])).1, ((v9).getD (Int.toNat v11) ((0 : Int), [])).2) :: [])).drop (0 : Nat)).take (1 : Nat))), ())))))))) (
 .ni (v11 + (1 : Int)) <|
 .ret (.inl (v1, (nv5, (v9, (v10, ((v11 + (1 : Int)), (b0, ()))))))))) (
 .ret (.inr (nv5, (b0, ()))))
theorem s81_0 : ∀ x, roundE (kzO (p81_0.T ⊕ x81_0.T)) cx81 ar0 [] p81_0 x81_0 (b81_0) (fun y => some (.inl y)) (fun b => some (.inr b)) x = run0 (g81_0 x) := fun x => by kernel_rfl
noncomputable def L81_0 : LoopS prog 26 none 0 := mkLoop mixed cx81 cx81_ok [] rfl p81_0 x81_0 rfl (b81_0) (fun x => run0 (g81_0 x)) (s81_0)
noncomputable def dd81 : D prog 26 none 0 := dO [.l L81_0] (kd prog f81) 0
noncomputable def F81 (a0_0 : List (Int × List Int)) (a1 : Int) : Tr0 ((List (Int × List Int)) × Unit) :=
 .bd (.it g81_0 (a1, ((0 : Nat), (a0_0, ((((a0_0).length : Nat) : Int), ((0 : Int), ([], ()))))))) fun z0 =>
 .ret ((((z0.2.1).drop (0 : Nat)).take z0.1), ())
theorem c81_ok : trF prog f81 = some ⟨26, 2, dd81.er, [.t 4], [some (.list (.ifc 55 true (.prod tI tL)))]⟩ := by kernel_rfl
noncomputable def ct81 : Ct := ⟨81, [.agg [.hole (.list (.prod tI tL))], hI], .c (.hole (.list (.ifc 55 true (.prod tI tL)))), fun x => run0 (F81 x.1 x.2.1)⟩
theorem ct81_ok : ct81.Ok prog := ct_ok mixed cx81_ok func81 c81_ok (enters_of func81 rfl rfl) dd81 (by kernel_rfl) rfl (fun x => by kernel_rfl)

/- 66 -/
noncomputable def cx66 : Cx := mkCxH [ct41, ct81, ct91] []
theorem cx66_ok : cx66.Ok prog := mkCxH_ok ⟨ct41_ok, ct81_ok, ct91_ok, trivial⟩ trivial
noncomputable def dd66 : D prog 22 none 0 := dO [] (kd prog f66) 0
noncomputable def F66 (a0_0 : List (Int × List Int)) : Tr0 (((List (Int × List Int)) × Int × Int × Int × Unit) ⊕ ((List (Int × List Int)) × (List (Int × List Int)) × Int × Int × Int × Unit)) :=
 .bd (F41 a0_0) fun y0 =>
 .br (!(y0.1 == (0 : Int))) (
 .ret (.inl ([], ((0 : Int), ((0 : Int), (y0.1, ())))))) (
 .bd (F81 a0_0 (-1 : Int)) fun y1 =>
 .bd (F91 a0_0) fun y2 =>
 .bd (F91 a0_0) fun y3 =>
 .nb y3.1 (64 : Int) <|
 .nd (rng .u64 (ar0.shl (1 : Int) y3.1)) <|
 .nd (rng .u64 ((ar0.shl (1 : Int) y3.1) - (1 : Int))) <|
 .ret (.inr (a0_0, (y1.1, (y2.1, (((ar0.shl (1 : Int) y3.1) - (1 : Int)), ((0 : Int), ())))))))
theorem c66_ok : trF prog f66 = some ⟨22, 1, dd66.er, [.cell 2 true 4, .t 3], [some (.prod (.prod (.list (.prod tI tL)) .unit) (.prod (.ifc 55 true (.prod tI tL)) (.prod tI (.int .u64)))), some tI]⟩ := by kernel_rfl
noncomputable def ct66 : Ct := ⟨66, [.agg [.hole (.list (.prod tI tL))]], .alt [.aggs (.cons (.hole (.list (.prod tI tL))) (.cons .nili (.cons (.hole tI) (.cons (.hole (.int .u64)) .nil)))), .hole tI] [.aggs (.cons (.hole (.list (.prod tI tL))) (.cons (.ifcs 132 false (.cons (.hole (.list (.ifc 55 true (.prod tI tL)))) .nil)) (.cons (.hole tI) (.cons (.hole (.int .u64)) .nil)))), .hole tI], fun x => run0 (F66 x.1)⟩
theorem ct66_ok : ct66.Ok prog := ct_ok mixed cx66_ok func66 c66_ok (enters_of func66 rfl rfl) dd66 (by kernel_rfl) rfl (fun x => by kernel_rfl)

/- 82 -/
noncomputable def cx82 : Cx := mkCxH [] []
theorem cx82_ok : cx82.Ok prog := mkCxH_ok trivial trivial
noncomputable def dd82 : D prog 6 none 0 := dO [] (kd prog f82) 0
noncomputable def F82 (a0_0 : List (Int × List Int)) (a0_2 : Int) (a0_3 : Int) (a1 : List Int) : Tr0 ((List (Int × List Int)) × Int × Int × List Int × Unit) :=
 .ret (a0_0, (a0_2, (a0_3, (a1, ()))))
theorem c82_ok : trF prog f82 = some ⟨6, 2, dd82.er, [.t 4], [none]⟩ := by kernel_rfl
noncomputable def ct82 : Ct := ⟨82, [.agg [.hole (.list (.prod tI tL)), .nili, .hole tI, .hole (.int .u64)], hL], .fn 102 [] [.ipcs (.cons (.hole (.list (.prod tI tL))) (.cons .nili (.cons (.hole tI) (.cons (.hole (.int .u64)) .nil)))), .ipc tL], fun x => run0 (F82 x.1 x.2.1 x.2.2.1 x.2.2.2.1)⟩
theorem ct82_ok : ct82.Ok prog := ct_ok mixed cx82_ok func82 c82_ok (enters_of func82 rfl rfl) dd82 (by kernel_rfl) rfl (fun x => by kernel_rfl)

/- 90 -/
noncomputable def cx90 : Cx := mkCxH [] []
theorem cx90_ok : cx90.Ok prog := mkCxH_ok trivial trivial
@[reducible] def p90_0 : Pat := Pat.mk [(0, .c (.hole (.int .u64))), (7, hL), (8, hI), (9, hI)] [] [] []
@[reducible] def x90_0 : Outs := [(.exit 0, Pat.mk [(0, .c (.hole (.int .u64)))] [] [] [])]
noncomputable def b90_0 : D prog 19 none 0 := dO [] (pick (kd prog f90) [(0, false)]) 0
noncomputable def g90_0 : Int × List Int × Int × Int × Unit → Tr0 ((Int × List Int × Int × Int × Unit) ⊕ ((Int × Unit))) := fun (v0, v7, v8, v9, _) =>
 .br (decide (v9 < v8)) (
 .nb v9 (((v7).length : Nat) : Int) <|
 .nb ((v7).getD (Int.toNat v9) (0 : Int)) (64 : Int) <|
 .nd (rng .u64 (ar0.shl (1 : Int) ((v7).getD (Int.toNat v9) (0 : Int)))) <|
 .ni (v9 + (1 : Int)) <|
 .ret (.inl ((ar0.bits Go.AM.IBin.andNot Go.IntKind.u64 v0 (ar0.shl (1 : Int) ((v7).getD (Int.toNat v9) (0 : Int)))), (v7, (v8, ((v9 + (1 : Int)), ())))))) (
 .ret (.inr (v0, ())))
theorem s90_0 : ∀ x, roundE (kzO (p90_0.T ⊕ x90_0.T)) cx90 ar0 [] p90_0 x90_0 (b90_0) (fun y => some (.inl y)) (fun b => some (.inr b)) x = run0 (g90_0 x) := fun x => by kernel_rfl
noncomputable def L90_0 : LoopS prog 19 none 0 := mkLoop mixed cx90 cx90_ok [] rfl p90_0 x90_0 rfl (b90_0) (fun x => run0 (g90_0 x)) (s90_0)
noncomputable def dd90 : D prog 19 none 0 := dO [.l L90_0] (kd prog f90) 0
noncomputable def F90 (a0 : Int) (a1 : List Int) : Tr0 (Int × Unit) :=
 .bd (.it g90_0 (a0, (a1, ((((a1).length : Nat) : Int), ((0 : Int), ()))))) fun z0 =>
 .ret (z0.1, ())
theorem c90_ok : trF prog f90 = some ⟨19, 2, dd90.er, [.t 4], [some (.int .u64)]⟩ := by kernel_rfl
noncomputable def ct90 : Ct := ⟨90, [.c (.hole (.int .u64)), hL], .c (.hole (.int .u64)), fun x => run0 (F90 x.1 x.2.1)⟩
theorem ct90_ok : ct90.Ok prog := ct_ok mixed cx90_ok func90 c90_ok (enters_of func90 rfl rfl) dd90 (by kernel_rfl) rfl (fun x => by kernel_rfl)

/- 77, lent -/
@[reducible] def pH77 : Pat := Pat.mk [(0, .c (.hole (.int .u64)))] [] [] []
@[reducible] def qH77 : Pat := Pat.mk [(0, .fn 100 [] [.ptr 0 0])] [(0, .cells [.hole (.int .u64)] false)] [.part 0 0] []
noncomputable def cxH77 : Cx := mkCxH [] []
theorem cxH77_ok : cxH77.Ok prog := mkCxH_ok trivial trivial
noncomputable def ddH77 : D prog 4 none 0 := dO [] (kd prog f77) 0
noncomputable def FH77 (v0 : Int) : Tr0 (Int × Unit) :=
 .ret (v0, ())
theorem cH77_ok : trF prog f77 = some ⟨4, 1, ddH77.er, [.t 2], [none]⟩ := by kernel_rfl
noncomputable def ht77 : Ht := ⟨77, pH77, qH77, (fun x => run0 (FH77 x.1))⟩
theorem ht77_ok : ht77.Ok prog := ht_ok mixed cxH77_ok rfl func77 cH77_ok (enters_of func77 rfl rfl) ddH77 (by kernel_rfl) rfl rfl ⟨_, rfl⟩ rfl (pre := []) rfl (fun x => by kernel_rfl)

/- 112 -/
noncomputable def cx112 : Cx := mkCxH [] []
theorem cx112_ok : cx112.Ok prog := mkCxH_ok trivial trivial
noncomputable def dd112 : D prog 14 none 0 := dO [] (kd prog f112) 0
noncomputable def F112 (a0 : Int) : Tr0 (Int × Unit) :=
 .br (a0 == (0 : Int)) (
 .ret ((64 : Int), ())) (
 .nb (58 : Int) (64 : Int) <|
 .nb (ar0.shr (Go.IntKind.wrap .u64 ((ar0.bits Go.AM.IBin.and Go.IntKind.u64 a0 (Go.IntKind.wrap .u64 ((0 : Int) - a0))) * (285870213051353865 : Int))) (58 : Int)) (64 : Int) <|
 .nb (ar0.shr (Go.IntKind.wrap .u64 ((ar0.bits Go.AM.IBin.and Go.IntKind.u64 a0 (Go.IntKind.wrap .u64 ((0 : Int) - a0))) * (285870213051353865 : Int))) (58 : Int)) (((((0 : Int) :: ((1 : Int) :: ((56 : Int) :: ((2 : Int) :: ((57 : Int) :: ((49 : Int) :: ((28 : Int) :: ((3 : Int) :: ((61 : Int) :: ((58 : Int) :: ((42 : Int) :: ((50 : Int) :: ((38 : Int) :: ((29 : Int) :: ((17 : Int) :: ((4 : Int) :: ((62 : Int) :: ((47 : Int) :: ((59 : Int) :: ((36 : Int) :: ((45 : Int) :: ((43 : Int) :: ((51 : Int) :: ((22 : Int) :: ((53 : Int) :: ((39 : Int) :: ((33 : Int) :: ((30 : Int) :: ((24 : Int) :: ((18 : Int) :: ((12 : Int) :: ((5 : Int) :: ((63 : Int) :: ((55 : Int) :: ((48 : Int) :: ((27 : Int) :: ((60 : Int) :: ((41 : Int) :: ((37 : Int) :: ((16 : Int) :: ((46 : Int) :: ((35 : Int) :: ((44 : Int) :: ((21 : Int) :: ((52 : Int) :: ((32 : Int) :: ((23 : Int) :: ((11 : Int) :: ((54 : Int) :: ((26 : Int) :: ((40 : Int) :: ((15 : Int) :: ((34 : Int) :: ((20 : Int) :: ((31 : Int) :: ((10 : Int) :: ((25 : Int) :: ((14 : Int) :: ((19 : Int) :: ((9 : Int) :: ((13 : Int) :: ((8 : Int) :: ((7 : Int) :: ((6 : Int) :: []))))))))))))))))))))))))))))))))))))))))))))))))))))))))))))))))).length : Nat) : Int) <|
 .ni ((((0 : Int) :: ((1 : Int) :: ((56 : Int) :: ((2 : Int) :: ((57 : Int) :: ((49 : Int) :: ((28 : Int) :: ((3 : Int) :: ((61 : Int) :: ((58 : Int) :: ((42 : Int) :: ((50 : Int) :: ((38 : Int) :: ((29 : Int) :: ((17 : Int) :: ((4 : Int) :: ((62 : Int) :: ((47 : Int) :: ((59 : Int) :: ((36 : Int) :: ((45 : Int) :: ((43 : Int) :: ((51 : Int) :: ((22 : Int) :: ((53 : Int) :: ((39 : Int) :: ((33 : Int) :: ((30 : Int) :: ((24 : Int) :: ((18 : Int) :: ((12 : Int) :: ((5 : Int) :: ((63 : Int) :: ((55 : Int) :: ((48 : Int) :: ((27 : Int) :: ((60 : Int) :: ((41 : Int) :: ((37 : Int) :: ((16 : Int) :: ((46 : Int) :: ((35 : Int) :: ((44 : Int) :: ((21 : Int) :: ((52 : Int) :: ((32 : Int) :: ((23 : Int) :: ((11 : Int) :: ((54 : Int) :: ((26 : Int) :: ((40 : Int) :: ((15 : Int) :: ((34 : Int) :: ((20 : Int) :: ((31 : Int) :: ((10 : Int) :: ((25 : Int) :: ((14 : Int) :: ((19 : Int) :: ((9 : Int) :: ((13 : Int) :: ((8 : Int) :: ((7 : Int) :: ((6 : Int) :: []))))))))))))))))))))))))))))))))))))))))))))))))))))))))))))))))).getD (Int.toNat (ar0.shr (Go.IntKind.wrap .u64 ((ar0.bits Go.AM.IBin.and Go.IntKind.u64 a0 (Go.IntKind.wrap .u64 ((0 : Int) - a0))) * (285870213051353865 : Int))) (58 : Int))) (0 : Int)) <|
 .ret (((((0 : Int) :: ((1 : Int) :: ((56 : Int) :: ((2 : Int) :: ((57 : Int) :: ((49 : Int) :: ((28 : Int) :: ((3 : Int) :: ((61 : Int) :: ((58 : Int) :: ((42 : Int) :: ((50 : Int) :: ((38 : Int) :: ((29 : Int) :: ((17 : Int) :: ((4 : Int) :: ((62 : Int) :: ((47 : Int) :: ((59 : Int) :: ((36 : Int) :: ((45 : Int) :: ((43 : Int) :: ((51 : Int) :: ((22 : Int) :: ((53 : Int) :: ((39 : Int) :: ((33 : Int) :: ((30 : Int) :: ((24 : Int) :: ((18 : Int) :: ((12 : Int) :: ((5 : Int) :: ((63 : Int) :: ((55 : Int) :: ((48 : Int) :: ((27 : Int) :: ((60 : Int) :: ((41 : Int) :: ((37 : Int) :: ((16 : Int) :: ((46 : Int) :: ((35 : Int) :: ((44 : Int) :: ((21 : Int) :: ((52 : Int) :: ((32 : Int) :: ((23 : Int) :: ((11 : Int) :: ((54 : Int) :: ((26 : Int) :: ((40 : Int) :: ((15 : Int) :: ((34 : Int) :: ((20 : Int) :: ((31 : Int) :: ((10 : Int) :: ((25 : Int) :: ((14 : Int) :: ((19 : Int) :: ((9 : Int) :: ((13 : Int) :: ((8 : Int) :: ((7 : Int) :: ((6 : Int) :: []))))))))))))))))))))))))))))))))))))))))))))))))))))))))))))))))).getD (Int.toNat (ar0.shr (Go.IntKind.wrap .u64 ((ar0.bits Go.AM.IBin.and Go.IntKind.u64 a0 (Go.IntKind.wrap .u64 ((0 : Int) - a0))) * (285870213051353865 : Int))) (58 : Int))) (0 : Int)), ()))
theorem c112_ok : trF prog f112 = some ⟨14, 1, dd112.er, [.t 2], [some tI]⟩ := by kernel_rfl
noncomputable def ct112 : Ct := ⟨112, [.c (.hole (.int .u64))], hI, fun x => run0 (F112 x.1)⟩
theorem ct112_ok : ct112.Ok prog := ct_ok mixed cx112_ok func112 c112_ok (enters_of func112 rfl rfl) dd112 (by kernel_rfl) rfl (fun x => by kernel_rfl)

/- 101 -/
noncomputable def cx101 : Cx := mkCxH [ct112] []
theorem cx101_ok : cx101.Ok prog := mkCxH_ok ⟨ct112_ok, trivial⟩ trivial
noncomputable def dd101 : D prog 8 none 0 := dO [] (kd prog f101) 0
noncomputable def F101 (a0 : Int) : Tr0 (Int × Unit) :=
 .bd (F112 a0) fun y0 =>
 .ret (y0.1, ())
theorem c101_ok : trF prog f101 = some ⟨8, 1, dd101.er, [.t 2], [some tI]⟩ := by kernel_rfl
noncomputable def ct101 : Ct := ⟨101, [.c (.hole (.int .u64))], hI, fun x => run0 (F101 x.1)⟩
theorem ct101_ok : ct101.Ok prog := ct_ok mixed cx101_ok func101 c101_ok (enters_of func101 rfl rfl) dd101 (by kernel_rfl) rfl (fun x => by kernel_rfl)

/- 89 -/
noncomputable def cx89 : Cx := mkCxH [ct101, ct90] [ht77]
theorem cx89_ok : cx89.Ok prog := mkCxH_ok ⟨ct101_ok, ct90_ok, trivial⟩ ⟨⟨ht77_ok, rfl⟩, trivial⟩
noncomputable def ad89_0 : D prog 22 (some 5) 6 := dO [] (pick (kd prog f89) [(0, false)]) 0
noncomputable def bd89_0 : D prog 22 (some 5) 6 := dO [] (pick (kd prog f89) [(0, true)]) 0
noncomputable def cx89_0i : Cx := itCx cx89 (fun kz => rdK kz cx89 ar0 5 6 [8] (ad89_0) (bd89_0))
theorem cx89_0i_ok : (cx89_0i).Ok prog := itCx_ok cx89_ok (fun h => rdK_ok mixed cx89_ok h)
@[reducible] def p89_0i_0 : Pat := Pat.mk [(0, .c (.yl 5)), (1, .c (.ptr 3 0))] [(5, .loop .ready none 4 [(2, .c (.ptr 0 0)), (3, .c (.ptr 1 0)), (4, .c (.ptr 2 0)), (7, .fn 100 [] [.ptr 3 0])] [8] (.reg [.op (some 5) none (.mv (.t 8))]) (.block 1 (.seq (.seq (.draw [[], [0], [], [], [3], [2, 3, 4], [0, 1], [0, 1, 6], [0, 1, 2, 3, 4, 5, 6, 7]] [.op (some 9) none (.fld 1 [true, false] (.t 2)), .op (some 10) none (.load false 1 (.t 9)), .op (some 11) none (.load false 1 (.t 3)), .op (some 12) none (.mv (.t 5)), .op (some 13) none (.bslice tI [.t 12]), .call (some 14) none (.c (.fn 90 [] [])) [.t 11, .t 13] [some (.int .u64), some tL], .op (some 15) none (.ex Xop.nchk [.t 10]), .op (some 16) none (.mv (.t 10))]) (.reg [.call (some 17) none (.m 16 [(55, 84), (132, 83)]) [.t 14] [some (.int .u64)]])) (.cond (.t 17) (.seq (.reg [.op none none (.store 1 (.t 4) (.c (.tf false)))]) .ret) .skip))) 22), (3, .cells [.hole (.int .u64)] false), (4, .dfr), (0, .cells [.hole (.list (.prod tI tL)), .nili, .hole tI, .hole (.int .u64)] false), (1, .cells [.hole (.int .u64)] false), (2, .cells [.tf false] false)] [] []
@[reducible] def x89_0i_0 : Outs := [(.exit 0, Pat.mk [] [(0, .cells [.hole (.list (.prod tI tL)), .nili, .hole tI, .hole (.int .u64)] false), (1, .cells [.hole (.int .u64)] false), (2, .cells [.tf false] false), (3, .cells [.hole (.int .u64)] false), (4, .dfr), (5, .loop .ready none 4 [(2, .c (.ptr 0 0)), (3, .c (.ptr 1 0)), (4, .c (.ptr 2 0)), (7, .fn 100 [] [.ptr 3 0])] [8] (.reg [.op (some 5) none (.mv (.t 8))]) (.block 1 (.seq (.seq (.draw [[], [0], [], [], [3], [2, 3, 4], [0, 1], [0, 1, 6], [0, 1, 2, 3, 4, 5, 6, 7]] [.op (some 9) none (.fld 1 [true, false] (.t 2)), .op (some 10) none (.load false 1 (.t 9)), .op (some 11) none (.load false 1 (.t 3)), .op (some 12) none (.mv (.t 5)), .op (some 13) none (.bslice tI [.t 12]), .call (some 14) none (.c (.fn 90 [] [])) [.t 11, .t 13] [some (.int .u64), some tL], .op (some 15) none (.ex Xop.nchk [.t 10]), .op (some 16) none (.mv (.t 10))]) (.reg [.call (some 17) none (.m 16 [(55, 84), (132, 83)]) [.t 14] [some (.int .u64)]])) (.cond (.t 17) (.seq (.reg [.op none none (.store 1 (.t 4) (.c (.tf false)))]) .ret) .skip))) 22)] [] [])]
noncomputable def b89_0i_0 : D prog 14 none 6 := dO [] (pick (kd prog f100) [(0, false)]) 0
noncomputable def g89_0i_0 : Int × (List (Int × List Int)) × Int × Int × Int × Unit → Tr0 ((Int × (List (Int × List Int)) × Int × Int × Int × Unit) ⊕ (((List (Int × List Int)) × Int × Int × Int × Int × Unit))) := fun (c3_0, c0_0, c0_2, c0_3, c1_0, _) =>
 .br (!(c3_0 == (0 : Int))) (
 .bd (F101 c3_0) fun y1 =>
 .bd (F90 c1_0 ((((y1.1 :: [])).drop (0 : Nat)).take (1 : Nat))) fun y2 =>
 .no) (
 .ret (.inr (c0_0, (c0_2, (c0_3, (c1_0, (c3_0, ())))))))
theorem s89_0i_0 : ∀ x, roundE (kzO (p89_0i_0.T ⊕ x89_0i_0.T)) cx89_0i ar0 [0, 1, 2, 3, 4, 5] p89_0i_0 x89_0i_0 (b89_0i_0) (fun y => some (.inl y)) (fun b => some (.inr b)) x = run0 (g89_0i_0 x) := fun x => by kernel_rfl
noncomputable def L89_0i_0 : LoopS prog 14 none 6 := mkLoop mixed cx89_0i cx89_0i_ok [0, 1, 2, 3, 4, 5] rfl p89_0i_0 x89_0i_0 rfl (b89_0i_0) (fun x => run0 (g89_0i_0 x)) (s89_0i_0)
@[reducible] def p89_0 : Pat := Pat.mk [(2, .c (.ptr 0 0)), (3, .c (.ptr 1 0)), (4, .c (.ptr 2 0)), (7, .fn 100 [] [.ptr 3 0])] [(0, .cells [.hole (.list (.prod tI tL)), .nili, .hole tI, .hole (.int .u64)] false), (1, .cells [.hole (.int .u64)] false), (2, .cells [.tf false] false), (3, .cells [.hole (.int .u64)] false)] [.slot 2, .slot 3, .slot 4, .part 7 0] []
@[reducible] def x89_0 : Outs := [(.normal, Pat.mk [(2, .c (.ptr 0 0)), (3, .c (.ptr 1 0)), (4, .c (.ptr 2 0))] [(0, .cells [.hole (.list (.prod tI tL)), .nili, .hole tI, .hole (.int .u64)] false), (1, .cells [.hole (.int .u64)] false), (2, .cells [.tf false] false), (3, .dfr)] [.slot 2, .slot 3, .slot 4, .mark 0] [3])]
noncomputable def b89_0i : D prog 14 none 6 := dO [.l L89_0i_0] (kd prog f100) 0
theorem ci89_0 : trF prog f100 = some ⟨14, 2, (b89_0i).er, [], []⟩ := by kernel_rfl
noncomputable def g89_0 : (List (Int × List Int)) × Int × Int × Int × Int × Unit → Tr0 (((List (Int × List Int)) × Int × Int × Int × Unit)) := fun (c0_0, c0_2, c0_3, c1_0, c3_0, _) =>
 .bd (.it g89_0i_0 (c3_0, (c0_0, (c0_2, (c0_3, (c1_0, ())))))) fun z3 =>
 .ret ((z3.1, (z3.2.1, (z3.2.2.1, (z3.2.2.2.1, ())))))
theorem s89_0 : ∀ x, rangeE (N := 22) (out := none) (base := 0) (kzO x89_0.T) cx89_0i ar0 [] p89_0 x89_0 ( .t 7) [8] (ad89_0).er (bd89_0).er [] 2 100 (b89_0i) some x = run0 (g89_0 x) := fun x => by kernel_rfl
noncomputable def R89_0 : RangeS prog 22 none 0 := mkRange mixed cx89_0i cx89_0i_ok [] rfl p89_0 x89_0 ( .t 7) [8] rfl (ad89_0).er (bd89_0).er 100 func100 (ci89_0) (enters_of func100 rfl rfl) 6 rfl (b89_0i) rfl (fun x => run0 (g89_0 x)) (s89_0)
noncomputable def dd89 : D prog 22 none 0 := dO [.r R89_0] (kd prog f89) 0
noncomputable def F89 (a0_0 : List (Int × List Int)) (a0_2 : Int) (a0_3 : Int) (a1 : Int) : Tr0 (Bool × Unit) :=
 .bd (FH77 a1) fun y0 =>
 .bd (g89_0 (a0_0, (a0_2, (a0_3, (a1, (y0.1, ())))))) fun z4 =>
 .no
theorem c89_ok : trF prog f89 = some ⟨22, 2, dd89.er, [.cell 4 false 1], [some .bool]⟩ := by kernel_rfl
noncomputable def ct89 : Ct := ⟨89, [.agg [.hole (.list (.prod tI tL)), .nili, .hole tI, .hole (.int .u64)], .c (.hole (.int .u64))], .c (.hole .bool), fun x => run0 (F89 x.1 x.2.1 x.2.2.1 x.2.2.2.1)⟩
theorem ct89_ok : ct89.Ok prog := ct_ok mixed cx89_ok func89 c89_ok (enters_of func89 rfl rfl) dd89 (by kernel_rfl) rfl (fun x => by kernel_rfl)

/- 71 -/
noncomputable def cx71 : Cx := mkCxH [ct101] [ht77]
theorem cx71_ok : cx71.Ok prog := mkCxH_ok ⟨ct101_ok, trivial⟩ ⟨⟨ht77_ok, rfl⟩, trivial⟩
noncomputable def ad71_0 : D prog 13 (some 3) 5 := dO [] (pick (kd prog f71) [(0, false)]) 0
noncomputable def bd71_0 : D prog 13 (some 3) 5 := dO [] (pick (kd prog f71) [(0, true)]) 0
noncomputable def cx71_0i : Cx := itCx cx71 (fun kz => rdK kz cx71 ar0 3 5 [7] (ad71_0) (bd71_0))
theorem cx71_0i_ok : (cx71_0i).Ok prog := itCx_ok cx71_ok (fun h => rdK_ok mixed cx71_ok h)
@[reducible] def p71_0i_0 : Pat := Pat.mk [(0, .c (.yl 3)), (1, .c (.ptr 1 0))] [(3, .loop .ready none 2 [(2, .c .nsl), (3, .c (.ptr 0 0)), (6, .fn 100 [] [.ptr 1 0])] [7] (.reg [.op (some 4) none (.mv (.t 7))]) (.block 1 (.reg [.op (some 8) none (.load false 1 (.t 3)), .op (some 9) none (.mv (.t 4)), .op (some 10) none (.bslice tI [.t 9]), .op (some 11) none (.append 1 (.t 8) (.t 10)), .op none none (.store 1 (.t 3) (.t 11))])) 13), (1, .cells [.hole (.int .u64)] false), (2, .dfr), (0, .cells [.sl0 4 tI] false), (4, .arr tI false)] [.cell 0 0] []
@[reducible] def x71_0i_0 : Outs := [(.exit 0, Pat.mk [] [(0, .cells [.sl0 4 tI] false), (1, .cells [.hole (.int .u64)] false), (2, .dfr), (3, .loop .ready none 2 [(2, .c .nsl), (3, .c (.ptr 0 0)), (6, .fn 100 [] [.ptr 1 0])] [7] (.reg [.op (some 4) none (.mv (.t 7))]) (.block 1 (.reg [.op (some 8) none (.load false 1 (.t 3)), .op (some 9) none (.mv (.t 4)), .op (some 10) none (.bslice tI [.t 9]), .op (some 11) none (.append 1 (.t 8) (.t 10)), .op none none (.store 1 (.t 3) (.t 11))])) 13), (4, .arr tI false)] [.cell 0 0] [])]
noncomputable def b71_0i_0 : D prog 14 none 4 := dO [] (pick (kd prog f100) [(0, false)]) 0
noncomputable def g71_0i_0 : Int × Nat × List Int × Unit → Tr0 ((Int × Nat × List Int × Unit) ⊕ ((Nat × Int × List Int × Unit))) := fun (c1_0, nc0_0, b4, _) =>
 .br (!(c1_0 == (0 : Int))) (
 .bd (F101 c1_0) fun y1 =>
 .nd (decide ((nc0_0 + (((((y1.1 :: [])).drop (0 : Nat)).take (1 : Nat))).length) < bigL)) <|
 .nd (rng .u64 (c1_0 - (1 : Int))) <|
 .ret (.inl ((ar0.bits Go.AM.IBin.and Go.IntKind.u64 c1_0 (c1_0 - (1 : Int))), ((nc0_0 + (((((y1.1 :: [])).drop (0 : Nat)).take (1 : Nat))).length), (((((b4).drop (0 : Nat)).take nc0_0) ++ ((((y1.1 :: [])).drop (0 : Nat)).take (1 : Nat))), ()))))) (
 .ret (.inr (nc0_0, (c1_0, (b4, ())))))
theorem s71_0i_0 : ∀ x, roundE (kzO (p71_0i_0.T ⊕ x71_0i_0.T)) cx71_0i ar0 [0, 1, 2, 3] p71_0i_0 x71_0i_0 (b71_0i_0) (fun y => some (.inl y)) (fun b => some (.inr b)) x = run0 (g71_0i_0 x) := fun x => by kernel_rfl
noncomputable def L71_0i_0 : LoopS prog 14 none 4 := mkLoop mixed cx71_0i cx71_0i_ok [0, 1, 2, 3] rfl p71_0i_0 x71_0i_0 rfl (b71_0i_0) (fun x => run0 (g71_0i_0 x)) (s71_0i_0)
@[reducible] def p71_0 : Pat := Pat.mk [(2, .c .nsl), (3, .c (.ptr 0 0)), (6, .fn 100 [] [.ptr 1 0])] [(0, .cells [.nsl] false), (1, .cells [.hole (.int .u64)] false)] [.slot 3, .part 6 0] []
@[reducible] def x71_0 : Outs := [(.normal, Pat.mk [(3, .c (.ptr 0 0))] [(0, .cells [.sl0 2 tI] false), (1, .dfr), (2, .arr tI false)] [.slot 3, .mark 0, .cell 0 0] [1])]
noncomputable def b71_0i : D prog 14 none 4 := dO [.l L71_0i_0] (kd prog f100) 0
theorem ci71_0 : trF prog f100 = some ⟨14, 2, (b71_0i).er, [], []⟩ := by kernel_rfl
noncomputable def g71_0 : Int × Unit → Tr0 ((Nat × List Int × Unit)) := fun (c1_0, _) =>
 .bd (.it g71_0i_0 (c1_0, ((0 : Nat), ([], ())))) fun z2 =>
 .ret ((z2.1, (z2.2.2.1, ())))
theorem s71_0 : ∀ x, rangeE (N := 13) (out := none) (base := 0) (kzO x71_0.T) cx71_0i ar0 [] p71_0 x71_0 ( .t 6) [7] (ad71_0).er (bd71_0).er [] 2 100 (b71_0i) some x = run0 (g71_0 x) := fun x => by kernel_rfl
noncomputable def R71_0 : RangeS prog 13 none 0 := mkRange mixed cx71_0i cx71_0i_ok [] rfl p71_0 x71_0 ( .t 6) [7] rfl (ad71_0).er (bd71_0).er 100 func100 (ci71_0) (enters_of func100 rfl rfl) 4 rfl (b71_0i) rfl (fun x => run0 (g71_0 x)) (s71_0)
noncomputable def dd71 : D prog 13 none 0 := dO [.r R71_0] (kd prog f71) 0
noncomputable def F71 (a0 : Int) : Tr0 (List Int × Unit) :=
 .bd (FH77 a0) fun y0 =>
 .bd (g71_0 (y0.1, ())) fun z3 =>
 .ret ((((z3.2.1).drop (0 : Nat)).take z3.1), ())
theorem c71_ok : trF prog f71 = some ⟨13, 1, dd71.er, [.t 2], [some tL]⟩ := by kernel_rfl
noncomputable def ct71 : Ct := ⟨71, [.c (.hole (.int .u64))], hL, fun x => run0 (F71 x.1)⟩
theorem ct71_ok : ct71.Ok prog := ct_ok mixed cx71_ok func71 c71_ok (enters_of func71 rfl rfl) dd71 (by kernel_rfl) rfl (fun x => by kernel_rfl)

/- 123 -/
noncomputable def cx123 : Cx := mkCxH [] []
theorem cx123_ok : cx123.Ok prog := mkCxH_ok trivial trivial
noncomputable def dd123 : D prog 25 none 0 := dO [] (kd prog f123) 0
noncomputable def F123 (a0 : Int) : Tr0 (Int × Unit) :=
 .jx (
 .br (decide ((4294967296 : Int) ≤ a0)) (
 .nb (32 : Int) (64 : Int) <|
 .ret (.inl ((ar0.shr a0 (32 : Int)), ((32 : Int), ())))) (
 .ret (.inl (a0, ((0 : Int), ()))))) fun j0 =>
 .jx (
 .br (decide ((65536 : Int) ≤ j0.1)) (
 .nb (16 : Int) (64 : Int) <|
 .ni (j0.2.1 + (16 : Int)) <|
 .ret (.inl ((ar0.shr j0.1 (16 : Int)), ((j0.2.1 + (16 : Int)), ())))) (
 .ret (.inl (j0.1, (j0.2.1, ()))))) fun j1 =>
 .jx (
 .br (decide ((256 : Int) ≤ j1.1)) (
 .nb (8 : Int) (64 : Int) <|
 .ni (j1.2.1 + (8 : Int)) <|
 .ret (.inl ((ar0.shr j1.1 (8 : Int)), ((j1.2.1 + (8 : Int)), ())))) (
 .ret (.inl (j1.1, (j1.2.1, ()))))) fun j2 =>
 .nd (rng .u8 j2.1) <|
 .nb j2.1 (((bs [0, 1, 2, 2, 3, 3, 3, 3, 4, 4, 4, 4, 4, 4, 4, 4, 5, 5, 5, 5, 5, 5, 5, 5, 5, 5, 5, 5, 5, 5, 5, 5, 6, 6, 6, 6, 6, 6, 6, 6, 6, 6, 6, 6, 6, 6, 6, 6, 6, 6, 6, 6, 6, 6, 6, 6, 6, 6, 6, 6, 6, 6, 6, 6, 7, 7, 7, 7, 7, 7, 7, 7, 7, 7, 7, 7, 7, 7, 7, 7, 7, 7, 7, 7, 7, 7, 7, 7, 7, 7, 7, 7, 7, 7, 7, 7, 7, 7, 7, 7, 7, 7, 7, 7, 7, 7, 7, 7, 7, 7, 7, 7, 7, 7, 7, 7, 7, 7, 7, 7, 7, 7, 7, 7, 7, 7, 7, 7, 8, 8, 8, 8, 8, 8, 8, 8, 8, 8, 8, 8, 8, 8, 8, 8, 8, 8, 8, 8, 8, 8, 8, 8, 8, 8, 8, 8, 8, 8, 8, 8, 8, 8, 8, 8, 8, 8, 8, 8, 8, 8, 8, 8, 8, 8, 8, 8, 8, 8, 8, 8, 8, 8, 8, 8, 8, 8, 8, 8, 8, 8, 8, 8, 8, 8, 8, 8, 8, 8, 8, 8, 8, 8, 8, 8, 8, 8, 8, 8, 8, 8, 8, 8, 8, 8, 8, 8, 8, 8, 8, 8, 8, 8, 8, 8, 8, 8, 8, 8, 8, 8, 8, 8, 8, 8, 8, 8, 8, 8, 8, 8, 8, 8, 8, 8, 8, 8, 8, 8, 8, 8, 8, 8, 8, 8, 8, 8]).size : Nat) : Int) <|
 .ni (satL (bs [0, 1, 2, 2, 3, 3, 3, 3, 4, 4, 4, 4, 4, 4, 4, 4, 5, 5, 5, 5, 5, 5, 5, 5, 5, 5, 5, 5, 5, 5, 5, 5, 6, 6, 6, 6, 6, 6, 6, 6, 6, 6, 6, 6, 6, 6, 6, 6, 6, 6, 6, 6, 6, 6, 6, 6, 6, 6, 6, 6, 6, 6, 6, 6, 7, 7, 7, 7, 7, 7, 7, 7, 7, 7, 7, 7, 7, 7, 7, 7, 7, 7, 7, 7, 7, 7, 7, 7, 7, 7, 7, 7, 7, 7, 7, 7, 7, 7, 7, 7, 7, 7, 7, 7, 7, 7, 7, 7, 7, 7, 7, 7, 7, 7, 7, 7, 7, 7, 7, 7, 7, 7, 7, 7, 7, 7, 7, 7, 8, 8, 8, 8, 8, 8, 8, 8, 8, 8, 8, 8, 8, 8, 8, 8, 8, 8, 8, 8, 8, 8, 8, 8, 8, 8, 8, 8, 8, 8, 8, 8, 8, 8, 8, 8, 8, 8, 8, 8, 8, 8, 8, 8, 8, 8, 8, 8, 8, 8, 8, 8, 8, 8, 8, 8, 8, 8, 8, 8, 8, 8, 8, 8, 8, 8, 8, 8, 8, 8, 8, 8, 8, 8, 8, 8, 8, 8, 8, 8, 8, 8, 8, 8, 8, 8, 8, 8, 8, 8, 8, 8, 8, 8, 8, 8, 8, 8, 8, 8, 8, 8, 8, 8, 8, 8, 8, 8, 8, 8, 8, 8, 8, 8, 8, 8, 8, 8, 8, 8, 8, 8, 8, 8, 8, 8, 8, 8]) (Int.toNat j2.1)) <|
 .ni (j2.2.1 + (satL (bs [0, 1, 2, 2, 3, 3, 3, 3, 4, 4, 4, 4, 4, 4, 4, 4, 5, 5, 5, 5, 5, 5, 5, 5, 5, 5, 5, 5, 5, 5, 5, 5, 6, 6, 6, 6, 6, 6, 6, 6, 6, 6, 6, 6, 6, 6, 6, 6, 6, 6, 6, 6, 6, 6, 6, 6, 6, 6, 6, 6, 6, 6, 6, 6, 7, 7, 7, 7, 7, 7, 7, 7, 7, 7, 7, 7, 7, 7, 7, 7, 7, 7, 7, 7, 7, 7, 7, 7, 7, 7, 7, 7, 7, 7, 7, 7, 7, 7, 7, 7, 7, 7, 7, 7, 7, 7, 7, 7, 7, 7, 7, 7, 7, 7, 7, 7, 7, 7, 7, 7, 7, 7, 7, 7, 7, 7, 7, 7, 8, 8, 8, 8, 8, 8, 8, 8, 8, 8, 8, 8, 8, 8, 8, 8, 8, 8, 8, 8, 8, 8, 8, 8, 8, 8, 8, 8, 8, 8, 8, 8, 8, 8, 8, 8, 8, 8, 8, 8, 8, 8, 8, 8, 8, 8, 8, 8, 8, 8, 8, 8, 8, 8, 8, 8, 8, 8, 8, 8, 8, 8, 8, 8, 8, 8, 8, 8, 8, 8, 8, 8, 8, 8, 8, 8, 8, 8, 8, 8, 8, 8, 8, 8, 8, 8, 8, 8, 8, 8, 8, 8, 8, 8, 8, 8, 8, 8, 8, 8, 8, 8, 8, 8, 8, 8, 8, 8, 8, 8, 8, 8, 8, 8, 8, 8, 8, 8, 8, 8, 8, 8, 8, 8, 8, 8, 8, 8]) (Int.toNat j2.1))) <|
 .ret ((j2.2.1 + (satL (bs [0, 1, 2, 2, 3, 3, 3, 3, 4, 4, 4, 4, 4, 4, 4, 4, 5, 5, 5, 5, 5, 5, 5, 5, 5, 5, 5, 5, 5, 5, 5, 5, 6, 6, 6, 6, 6, 6, 6, 6, 6, 6, 6, 6, 6, 6, 6, 6, 6, 6, 6, 6, 6, 6, 6, 6, 6, 6, 6, 6, 6, 6, 6, 6, 7, 7, 7, 7, 7, 7, 7, 7, 7, 7, 7, 7, 7, 7, 7, 7, 7, 7, 7, 7, 7, 7, 7, 7, 7, 7, 7, 7, 7, 7, 7, 7, 7, 7, 7, 7, 7, 7, 7, 7, 7, 7, 7, 7, 7, 7, 7, 7, 7, 7, 7, 7, 7, 7, 7, 7, 7, 7, 7, 7, 7, 7, 7, 7, 8, 8, 8, 8, 8, 8, 8, 8, 8, 8, 8, 8, 8, 8, 8, 8, 8, 8, 8, 8, 8, 8, 8, 8, 8, 8, 8, 8, 8, 8, 8, 8, 8, 8, 8, 8, 8, 8, 8, 8, 8, 8, 8, 8, 8, 8, 8, 8, 8, 8, 8, 8, 8, 8, 8, 8, 8, 8, 8, 8, 8, 8, 8, 8, 8, 8, 8, 8, 8, 8, 8, 8, 8, 8, 8, 8, 8, 8, 8, 8, 8, 8, 8, 8, 8, 8, 8, 8, 8, 8, 8, 8, 8, 8, 8, 8, 8, 8, 8, 8, 8, 8, 8, 8, 8, 8, 8, 8, 8, 8, 8, 8, 8, 8, 8, 8, 8, 8, 8, 8, 8, 8, 8, 8, 8, 8, 8, 8]) (Int.toNat j2.1))), ())
theorem c123_ok : trF prog f123 = some ⟨25, 1, dd123.er, [.t 2], [some tI]⟩ := by kernel_rfl
noncomputable def ct123 : Ct := ⟨123, [.c (.hole (.int .u64))], hI, fun x => run0 (F123 x.1)⟩
theorem ct123_ok : ct123.Ok prog := ct_ok mixed cx123_ok func123 c123_ok (enters_of func123 rfl rfl) dd123 (by kernel_rfl) rfl (fun x => Eq.trans (b := run0 (flat (F123 x.1))) (by kernel_rfl) run_flat)

/- 107 -/
noncomputable def cx107 : Cx := mkCxH [ct123] []
theorem cx107_ok : cx107.Ok prog := mkCxH_ok ⟨ct123_ok, trivial⟩ trivial
noncomputable def dd107 : D prog 8 none 0 := dO [] (kd prog f107) 0
noncomputable def F107 (a0 : Int) : Tr0 (Int × Unit) :=
 .bd (F123 a0) fun y0 =>
 .ret (y0.1, ())
theorem c107_ok : trF prog f107 = some ⟨8, 1, dd107.er, [.t 2], [some tI]⟩ := by kernel_rfl
noncomputable def ct107 : Ct := ⟨107, [.c (.hole (.int .u64))], hI, fun x => run0 (F107 x.1)⟩
theorem ct107_ok : ct107.Ok prog := ct_ok mixed cx107_ok func107 c107_ok (enters_of func107 rfl rfl) dd107 (by kernel_rfl) rfl (fun x => by kernel_rfl)

/- 124 -/
noncomputable def cx124 : Cx := mkCxH [] []
theorem cx124_ok : cx124.Ok prog := mkCxH_ok trivial trivial
noncomputable def dd124 : D prog 6 none 0 := dO [] (kd prog f124) 0
noncomputable def F124 (a0 : Int) : Tr0 (Bool × Unit) :=
 .ret ((!(a0 == a0)), ())
theorem c124_ok : trF prog f124 = some ⟨6, 1, dd124.er, [.t 2], [some .bool]⟩ := by kernel_rfl
noncomputable def ct124 : Ct := ⟨124, [hI], .c (.hole .bool), fun x => run0 (F124 x.1)⟩
theorem ct124_ok : ct124.Ok prog := ct_ok mixed cx124_ok func124 c124_ok (enters_of func124 rfl rfl) dd124 (by kernel_rfl) rfl (fun x => by kernel_rfl)

/- 108 -/
noncomputable def cx108 : Cx := mkCxH [ct124] []
theorem cx108_ok : cx108.Ok prog := mkCxH_ok ⟨ct124_ok, trivial⟩ trivial
noncomputable def dd108 : D prog 20 none 0 := dO [] (kd prog f108) 0
noncomputable def F108 (a0 : Int) (a1 : Int) : Tr0 (Int × Unit) :=
 .bd (F124 a0) fun y0 =>
 .bd (F124 a1) fun y1 =>
 .br y0.1 (
 .br y1.1 (
 .ret ((0 : Int), ())) (
 .ret ((-1 : Int), ()))) (
 .br y1.1 (
 .ret ((1 : Int), ())) (
 .br (decide (a0 < a1)) (
 .ret ((-1 : Int), ())) (
 .br (decide (a1 < a0)) (
 .ret ((1 : Int), ())) (
 .ret ((0 : Int), ())))))
theorem c108_ok : trF prog f108 = some ⟨20, 2, dd108.er, [.t 4], [some tI]⟩ := by kernel_rfl
noncomputable def ct108 : Ct := ⟨108, [hI, hI], hI, fun x => run0 (F108 x.1 x.2.1)⟩
theorem ct108_ok : ct108.Ok prog := ct_ok mixed cx108_ok func108 c108_ok (enters_of func108 rfl rfl) dd108 (by kernel_rfl) rfl (fun x => by kernel_rfl)

/- 95 -/
noncomputable def cx95 : Cx := mkCxH [ct108] []
theorem cx95_ok : cx95.Ok prog := mkCxH_ok ⟨ct108_ok, trivial⟩ trivial
@[reducible] def p95_0 : Pat := Pat.mk [(0, hL), (1, hL), (9, hL), (10, hI), (11, hI)] [] [] []
@[reducible] def x95_0 : Outs := [(.ret, Pat.mk [(4, hI)] [] [] []), (.exit 0, Pat.mk [(0, hL), (1, hL)] [] [] [])]
noncomputable def b95_0 : D prog 36 none 0 := dO [] (pick (kd prog f95) [(0, false)]) 0
noncomputable def g95_0 : List Int × List Int × List Int × Int × Int × Unit → Tr0 ((List Int × List Int × List Int × Int × Int × Unit) ⊕ ((Int × Unit) ⊕ ((List Int × List Int × Unit)))) := fun (v0, v1, v9, v10, v11, _) =>
 .br (decide (v11 < v10)) (
 .nb v11 (((v9).length : Nat) : Int) <|
 .br (decide ((((v1).length : Nat) : Int) ≤ v11)) (
 .ret (.inr <| .inl <| ((1 : Int), ()))) (
 .nb v11 (((v1).length : Nat) : Int) <|
 .bd (F108 ((v9).getD (Int.toNat v11) (0 : Int)) ((v1).getD (Int.toNat v11) (0 : Int))) fun y0 =>
 .br (!(y0.1 == (0 : Int))) (
 .ret (.inr <| .inl <| (y0.1, ()))) (
 .ni (v11 + (1 : Int)) <|
 .ret (.inl (v0, (v1, (v9, (v10, ((v11 + (1 : Int)), ()))))))))) (
 .ret (.inr <| .inr <| (v0, (v1, ()))))
theorem s95_0 : ∀ x, roundE (kzO (p95_0.T ⊕ x95_0.T)) cx95 ar0 [] p95_0 x95_0 (b95_0) (fun y => some (.inl y)) (fun b => some (.inr b)) x = run0 (g95_0 x) := fun x => by kernel_rfl
noncomputable def L95_0 : LoopS prog 36 none 0 := mkLoop mixed cx95 cx95_ok [] rfl p95_0 x95_0 rfl (b95_0) (fun x => run0 (g95_0 x)) (s95_0)
noncomputable def dd95 : D prog 36 none 0 := dO [.l L95_0] (kd prog f95) 0
noncomputable def F95 (a0 : List Int) (a1 : List Int) : Tr0 (Int × Unit) :=
 .bd (.it g95_0 (a0, (a1, (a0, ((((a0).length : Nat) : Int), ((0 : Int), ())))))) fun z1 =>
 .sm z1 (fun z2 =>
 .ret (z2.1, ())) fun z3 =>
 .br (decide ((((z3.1).length : Nat) : Int) < (((z3.2.1).length : Nat) : Int))) (
 .ret ((-1 : Int), ())) (
 .ret ((0 : Int), ()))
theorem c95_ok : trF prog f95 = some ⟨36, 2, dd95.er, [.t 4], [some tI]⟩ := by kernel_rfl
noncomputable def ct95 : Ct := ⟨95, [hL, hL], hI, fun x => run0 (F95 x.1 x.2.1)⟩
theorem ct95_ok : ct95.Ok prog := ct_ok mixed cx95_ok func95 c95_ok (enters_of func95 rfl rfl) dd95 (by kernel_rfl) rfl (fun x => by kernel_rfl)

/- 82 -/
noncomputable def cx82_v1 : Cx := mkCxH [] []
theorem cx82_v1_ok : cx82_v1.Ok prog := mkCxH_ok trivial trivial
noncomputable def dd82_v1 : D prog 6 none 0 := dO [] (kd prog f82) 0
noncomputable def F82_v1 (a0_0 : List (Int × List Int)) (a0_1c0 : List (Int × List Int)) (a0_2 : Int) (a0_3 : Int) (a1 : List Int) : Tr0 ((List (Int × List Int)) × (List (Int × List Int)) × Int × Int × List Int × Unit) :=
 .ret (a0_0, (a0_1c0, (a0_2, (a0_3, (a1, ())))))
theorem c82_v1_ok : trF prog f82 = some ⟨6, 2, dd82_v1.er, [.t 4], [none]⟩ := by kernel_rfl
noncomputable def ct82_v1 : Ct := ⟨82, [.agg [.hole (.list (.prod tI tL)), .ifcs 132 false (.cons (.hole (.list (.ifc 55 true (.prod tI tL)))) .nil), .hole tI, .hole (.int .u64)], hL], .fn 102 [] [.ipcs (.cons (.hole (.list (.prod tI tL))) (.cons (.ifcs 132 false (.cons (.hole (.list (.ifc 55 true (.prod tI tL)))) .nil)) (.cons (.hole tI) (.cons (.hole (.int .u64)) .nil)))), .ipc tL], fun x => run0 (F82_v1 x.1 x.2.1 x.2.2.1 x.2.2.2.1 x.2.2.2.2.1)⟩
theorem ct82_v1_ok : ct82_v1.Ok prog := ct_ok mixed cx82_v1_ok func82 c82_v1_ok (enters_of func82 rfl rfl) dd82_v1 (by kernel_rfl) rfl (fun x => by kernel_rfl)

/- 78 -/
noncomputable def cx78 : Cx := mkCxH [ct101] [ht77]
theorem cx78_ok : cx78.Ok prog := mkCxH_ok ⟨ct101_ok, trivial⟩ ⟨⟨ht77_ok, rfl⟩, trivial⟩
noncomputable def ad78_0 : D prog 18 (some 4) 5 := dO [] (pick (kd prog f78) [(0, false)]) 0
noncomputable def bd78_0 : D prog 18 (some 4) 5 := dO [] (pick (kd prog f78) [(0, true)]) 0
noncomputable def cx78_0i : Cx := itCx cx78 (fun kz => rdK kz cx78 ar0 4 5 [9] (ad78_0) (bd78_0))
theorem cx78_0i_ok : (cx78_0i).Ok prog := itCx_ok cx78_ok (fun h => rdK_ok mixed cx78_ok h)
@[reducible] def p78_0i_0 : Pat := Pat.mk [(0, .c (.yl 4)), (1, .c (.ptr 2 0))] [(4, .loop .ready none 3 [(2, .c (.ptr 0 0)), (4, hI), (5, .c (.ptr 1 0)), (8, .fn 100 [] [.ptr 2 0])] [9] (.reg [.op (some 6) none (.mv (.t 9))]) (.block 1 (.draw [[], [], [1], [], [1, 2, 3], [1, 2, 3, 4], [0, 1, 2, 3, 4, 5], [0, 1, 2, 3, 4, 5, 6]] [.op (some 10) none (.load false 1 (.t 5)), .op (some 11) none (.fld 1 [true] (.t 2)), .op (some 12) none (.load false 1 (.t 11)), .op (some 13) none (.mv (.t 6)), .op (some 14) none (.idx 1 (.t 12) (.t 13)), .op (some 15) none (.load false 1 (.t 14)), .op (some 16) none (.bin .add (.t 10) (.t 15)), .op none none (.store 1 (.t 5) (.t 16))])) 18), (2, .cells [.hole (.int .u64)] false), (3, .dfr), (0, .cells [.hole tI, .hole tL] false), (1, .cells [.hole tI] false)] [] []
@[reducible] def x78_0i_0 : Outs := [(.exit 0, Pat.mk [] [(0, .cells [.hole tI, .hole tL] false), (1, .cells [.hole tI] false), (2, .cells [.hole (.int .u64)] false), (3, .dfr), (4, .loop .ready none 3 [(2, .c (.ptr 0 0)), (4, hI), (5, .c (.ptr 1 0)), (8, .fn 100 [] [.ptr 2 0])] [9] (.reg [.op (some 6) none (.mv (.t 9))]) (.block 1 (.draw [[], [], [1], [], [1, 2, 3], [1, 2, 3, 4], [0, 1, 2, 3, 4, 5], [0, 1, 2, 3, 4, 5, 6]] [.op (some 10) none (.load false 1 (.t 5)), .op (some 11) none (.fld 1 [true] (.t 2)), .op (some 12) none (.load false 1 (.t 11)), .op (some 13) none (.mv (.t 6)), .op (some 14) none (.idx 1 (.t 12) (.t 13)), .op (some 15) none (.load false 1 (.t 14)), .op (some 16) none (.bin .add (.t 10) (.t 15)), .op none none (.store 1 (.t 5) (.t 16))])) 18)] [] [])]
noncomputable def b78_0i_0 : D prog 14 none 5 := dO [] (pick (kd prog f100) [(0, false)]) 0
noncomputable def g78_0i_0 : Int × Int × Int × List Int × Int × Unit → Tr0 ((Int × Int × Int × List Int × Int × Unit) ⊕ ((Int × List Int × Int × Int × Int × Unit))) := fun (w4, c2_0, c0_0, c0_1, c1_0, _) =>
 .br (!(c2_0 == (0 : Int))) (
 .bd (F101 c2_0) fun y1 =>
 .nb y1.1 (((c0_1).length : Nat) : Int) <|
 .ni (c1_0 + ((c0_1).getD (Int.toNat y1.1) (0 : Int))) <|
 .nd (rng .u64 (c2_0 - (1 : Int))) <|
 .ret (.inl (w4, ((ar0.bits Go.AM.IBin.and Go.IntKind.u64 c2_0 (c2_0 - (1 : Int))), (c0_0, (c0_1, ((c1_0 + ((c0_1).getD (Int.toNat y1.1) (0 : Int))), ()))))))) (
 .ret (.inr (c0_0, (c0_1, (c1_0, (c2_0, (w4, ())))))))
theorem s78_0i_0 : ∀ x, roundE (kzO (p78_0i_0.T ⊕ x78_0i_0.T)) cx78_0i ar0 [0, 1, 2, 3, 4] p78_0i_0 x78_0i_0 (b78_0i_0) (fun y => some (.inl y)) (fun b => some (.inr b)) x = run0 (g78_0i_0 x) := fun x => by kernel_rfl
noncomputable def L78_0i_0 : LoopS prog 14 none 5 := mkLoop mixed cx78_0i cx78_0i_ok [0, 1, 2, 3, 4] rfl p78_0i_0 x78_0i_0 rfl (b78_0i_0) (fun x => run0 (g78_0i_0 x)) (s78_0i_0)
@[reducible] def p78_0 : Pat := Pat.mk [(2, .c (.ptr 0 0)), (4, hI), (5, .c (.ptr 1 0)), (8, .fn 100 [] [.ptr 2 0])] [(0, .cells [.hole tI, .hole tL] false), (1, .cells [.hole tI] false), (2, .cells [.hole (.int .u64)] false)] [.slot 2, .slot 5, .part 8 0] []
@[reducible] def x78_0 : Outs := [(.normal, Pat.mk [(5, .c (.ptr 0 0))] [(0, .cells [.hole tI] false), (1, .dfr)] [.slot 5, .mark 0] [1])]
noncomputable def b78_0i : D prog 14 none 5 := dO [.l L78_0i_0] (kd prog f100) 0
theorem ci78_0 : trF prog f100 = some ⟨14, 2, (b78_0i).er, [], []⟩ := by kernel_rfl
noncomputable def g78_0 : Int × Int × List Int × Int × Int × Unit → Tr0 ((Int × Unit)) := fun (v4, c0_0, c0_1, c1_0, c2_0, _) =>
 .bd (.it g78_0i_0 (v4, (c2_0, (c0_0, (c0_1, (c1_0, ())))))) fun z2 =>
 .ret ((z2.2.2.1, ()))
theorem s78_0 : ∀ x, rangeE (N := 18) (out := none) (base := 0) (kzO x78_0.T) cx78_0i ar0 [] p78_0 x78_0 ( .t 8) [9] (ad78_0).er (bd78_0).er [] 2 100 (b78_0i) some x = run0 (g78_0 x) := fun x => by kernel_rfl
noncomputable def R78_0 : RangeS prog 18 none 0 := mkRange mixed cx78_0i cx78_0i_ok [] rfl p78_0 x78_0 ( .t 8) [9] rfl (ad78_0).er (bd78_0).er 100 func100 (ci78_0) (enters_of func100 rfl rfl) 5 rfl (b78_0i) rfl (fun x => run0 (g78_0 x)) (s78_0)
noncomputable def dd78 : D prog 18 none 0 := dO [.r R78_0] (kd prog f78) 0
noncomputable def F78 (a0 : Int × List Int) (a1 : Int) : Tr0 (Int × Unit) :=
 .bd (FH77 a1) fun y0 =>
 .bd (g78_0 ((0 : Int), (a0.1, (a0.2, ((0 : Int), (y0.1, ())))))) fun z3 =>
 .ret (z3.1, ())
theorem c78_ok : trF prog f78 = some ⟨18, 2, dd78.er, [.t 4], [some tI]⟩ := by kernel_rfl
noncomputable def ct78 : Ct := ⟨78, [.c (.hole (.prod tI tL)), .c (.hole (.int .u64))], hI, fun x => run0 (F78 x.1 x.2.1)⟩
theorem ct78_ok : ct78.Ok prog := ct_ok mixed cx78_ok func78 c78_ok (enters_of func78 rfl rfl) dd78 (by kernel_rfl) rfl (fun x => by kernel_rfl)

/- 84 -/
noncomputable def cx84 : Cx := mkCxH [ct78] []
theorem cx84_ok : cx84.Ok prog := mkCxH_ok ⟨ct78_ok, trivial⟩ trivial
noncomputable def dd84 : D prog 11 none 0 := dO [] (kd prog f84) 0
noncomputable def F84 (a0 : Int × List Int) (a1 : Int) : Tr0 (Bool × Unit) :=
 .bd (F78 (a0.1, a0.2) a1) fun y0 =>
 .ret ((decide (a0.1 ≤ y0.1)), ())
theorem c84_ok : trF prog f84 = some ⟨11, 2, dd84.er, [.t 4], [some .bool]⟩ := by kernel_rfl
noncomputable def ct84 : Ct := ⟨84, [.c (.hole (.prod tI tL)), .c (.hole (.int .u64))], .c (.hole .bool), fun x => run0 (F84 x.1 x.2.1)⟩
theorem ct84_ok : ct84.Ok prog := ct_ok mixed cx84_ok func84 c84_ok (enters_of func84 rfl rfl) dd84 (by kernel_rfl) rfl (fun x => by kernel_rfl)

/- 104 -/
noncomputable def cx104 : Cx := mkCxH [ct84] []
theorem cx104_ok : cx104.Ok prog := mkCxH_ok ⟨ct84_ok, trivial⟩ trivial
noncomputable def dd104 : D prog 8 none 0 := dO [] (kd prog f104) 0
noncomputable def F104 (a0c0 : Int) (a0c1 : List Int) (a1 : Int) : Tr0 (Bool × Unit) :=
 .bd (F84 (a0c0, a0c1) a1) fun y0 =>
 .ret ((!y0.1), ())
theorem c104_ok : trF prog f104 = some ⟨8, 2, dd104.er, [.t 3], [some .bool]⟩ := by kernel_rfl
noncomputable def ct104 : Ct := ⟨104, [.c (.ifcs 55 true (.cons (.hole tI) (.cons (.hole tL) .nil))), .c (.ipc (.int .u64))], .c (.hole .bool), fun x => run0 (F104 x.1 x.2.1 x.2.2.1)⟩
theorem ct104_ok : ct104.Ok prog := ct_ok mixed cx104_ok func104 c104_ok (enters_of func104 rfl rfl) dd104 (by kernel_rfl) rfl (fun x => by kernel_rfl)

/- 113 -/
noncomputable def cx113 : Cx := mkCxH [ct104] []
theorem cx113_ok : cx113.Ok prog := mkCxH_ok ⟨ct104_ok, trivial⟩ trivial
@[reducible] def p113_0 : Pat := Pat.mk [(0, .c (.hole (.list (.ifc 55 true (.prod tI tL))))), (1, .fn 104 [] [.ipc (.int .u64)]), (7, hI), (8, hI)] [] [] []
@[reducible] def x113_0 : Outs := [(.ret, Pat.mk [(4, hI)] [] [] []), (.exit 0, Pat.mk [] [] [] [])]
noncomputable def b113_0 : D prog 19 none 0 := dO [] (pick (kd prog f113) [(0, false)]) 0
noncomputable def g113_0 : (List (Int × List Int)) × Int × Int × Int × Unit → Tr0 (((List (Int × List Int)) × Int × Int × Int × Unit) ⊕ ((Int × Unit) ⊕ ((Unit)))) := fun (v0, v1_0, v7, v8, _) =>
 .br (decide (v8 < v7)) (
 .nb v8 (((v0).length : Nat) : Int) <|
 .bd (F104 ((v0).getD (Int.toNat v8) ((0 : Int), [])).1 ((v0).getD (Int.toNat v8) ((0 : Int), [])).2 v1_0) fun y0 =>
 .br y0.1 (
 .ret (.inr <| .inl <| (v8, ()))) (
 .ni (v8 + (1 : Int)) <|
 .ret (.inl (v0, (v1_0, (v7, ((v8 + (1 : Int)), ()))))))) (
 .ret (.inr <| .inr <| ()))
theorem s113_0 : ∀ x, roundE (kzO (p113_0.T ⊕ x113_0.T)) cx113 ar0 [] p113_0 x113_0 (b113_0) (fun y => some (.inl y)) (fun b => some (.inr b)) x = run0 (g113_0 x) := fun x => by kernel_rfl
noncomputable def L113_0 : LoopS prog 19 none 0 := mkLoop mixed cx113 cx113_ok [] rfl p113_0 x113_0 rfl (b113_0) (fun x => run0 (g113_0 x)) (s113_0)
noncomputable def dd113 : D prog 19 none 0 := dO [.l L113_0] (kd prog f113) 0
noncomputable def F113 (a0 : List (Int × List Int)) (a1_0 : Int) : Tr0 (Int × Unit) :=
 .bd (.it g113_0 (a0, (a1_0, ((((a0).length : Nat) : Int), ((0 : Int), ()))))) fun z1 =>
 .sm z1 (fun z2 =>
 .ret (z2.1, ())) fun z3 =>
 .ret ((-1 : Int), ())
theorem c113_ok : trF prog f113 = some ⟨19, 2, dd113.er, [.t 4], [some tI]⟩ := by kernel_rfl
noncomputable def ct113 : Ct := ⟨113, [.c (.hole (.list (.ifc 55 true (.prod tI tL)))), .fn 104 [] [.ipc (.int .u64)]], hI, fun x => run0 (F113 x.1 x.2.1)⟩
theorem ct113_ok : ct113.Ok prog := ct_ok mixed cx113_ok func113 c113_ok (enters_of func113 rfl rfl) dd113 (by kernel_rfl) rfl (fun x => by kernel_rfl)

/- 103 -/
noncomputable def cx103 : Cx := mkCxH [ct113] []
theorem cx103_ok : cx103.Ok prog := mkCxH_ok ⟨ct113_ok, trivial⟩ trivial
noncomputable def dd103 : D prog 9 none 0 := dO [] (kd prog f103) 0
noncomputable def F103 (a0 : List (Int × List Int)) (a1_0 : Int) : Tr0 (Bool × Unit) :=
 .bd (F113 a0 a1_0) fun y0 =>
 .ret ((decide ((0 : Int) ≤ y0.1)), ())
theorem c103_ok : trF prog f103 = some ⟨9, 2, dd103.er, [.t 4], [some .bool]⟩ := by kernel_rfl
noncomputable def ct103 : Ct := ⟨103, [.c (.hole (.list (.ifc 55 true (.prod tI tL)))), .fn 104 [] [.ipc (.int .u64)]], .c (.hole .bool), fun x => run0 (F103 x.1 x.2.1)⟩
theorem ct103_ok : ct103.Ok prog := ct_ok mixed cx103_ok func103 c103_ok (enters_of func103 rfl rfl) dd103 (by kernel_rfl) rfl (fun x => by kernel_rfl)

/- 83 -/
noncomputable def cx83 : Cx := mkCxH [ct103] []
theorem cx83_ok : cx83.Ok prog := mkCxH_ok ⟨ct103_ok, trivial⟩ trivial
noncomputable def dd83 : D prog 9 none 0 := dO [] (kd prog f83) 0
noncomputable def F83 (a0 : List (Int × List Int)) (a1 : Int) : Tr0 (Bool × Unit) :=
 .bd (F103 a0 a1) fun y0 =>
 .ret ((!y0.1), ())
theorem c83_ok : trF prog f83 = some ⟨9, 2, dd83.er, [.t 4], [some .bool]⟩ := by kernel_rfl
noncomputable def ct83 : Ct := ⟨83, [.c (.hole (.list (.ifc 55 true (.prod tI tL)))), .c (.hole (.int .u64))], .c (.hole .bool), fun x => run0 (F83 x.1 x.2.1)⟩
theorem ct83_ok : ct83.Ok prog := ct_ok mixed cx83_ok func83 c83_ok (enters_of func83 rfl rfl) dd83 (by kernel_rfl) rfl (fun x => by kernel_rfl)

/- 89 -/
noncomputable def cx89_v1 : Cx := mkCxH [ct101, ct90, ct83] [ht77]
theorem cx89_v1_ok : cx89_v1.Ok prog := mkCxH_ok ⟨ct101_ok, ct90_ok, ct83_ok, trivial⟩ ⟨⟨ht77_ok, rfl⟩, trivial⟩
noncomputable def ad89_v1_0 : D prog 22 (some 5) 6 := dO [] (pick (kd prog f89) [(0, false)]) 0
noncomputable def bd89_v1_0 : D prog 22 (some 5) 6 := dO [] (pick (kd prog f89) [(0, true)]) 0
noncomputable def cx89_v1_0i : Cx := itCx cx89_v1 (fun kz => rdK kz cx89_v1 ar0 5 6 [8] (ad89_v1_0) (bd89_v1_0))
theorem cx89_v1_0i_ok : (cx89_v1_0i).Ok prog := itCx_ok cx89_v1_ok (fun h => rdK_ok mixed cx89_v1_ok h)
@[reducible] def p89_v1_0i_0 : Pat := Pat.mk [(0, .c (.yl 5)), (1, .c (.ptr 3 0))] [(5, .loop .ready none 4 [(2, .c (.ptr 0 0)), (3, .c (.ptr 1 0)), (4, .c (.ptr 2 0)), (7, .fn 100 [] [.ptr 3 0])] [8] (.reg [.op (some 5) none (.mv (.t 8))]) (.block 1 (.seq (.seq (.draw [[], [0], [], [], [3], [2, 3, 4], [0, 1], [0, 1, 6], [0, 1, 2, 3, 4, 5, 6, 7]] [.op (some 9) none (.fld 1 [true, false] (.t 2)), .op (some 10) none (.load false 1 (.t 9)), .op (some 11) none (.load false 1 (.t 3)), .op (some 12) none (.mv (.t 5)), .op (some 13) none (.bslice tI [.t 12]), .call (some 14) none (.c (.fn 90 [] [])) [.t 11, .t 13] [some (.int .u64), some tL], .op (some 15) none (.ex Xop.nchk [.t 10]), .op (some 16) none (.mv (.t 10))]) (.reg [.call (some 17) none (.m 16 [(55, 84), (132, 83)]) [.t 14] [some (.int .u64)]])) (.cond (.t 17) (.seq (.reg [.op none none (.store 1 (.t 4) (.c (.tf false)))]) .ret) .skip))) 22), (3, .cells [.hole (.int .u64)] false), (4, .dfr), (0, .cells [.hole (.list (.prod tI tL)), .ifcs 132 false (.cons (.hole (.list (.ifc 55 true (.prod tI tL)))) .nil), .hole tI, .hole (.int .u64)] false), (1, .cells [.hole (.int .u64)] false), (2, .cells [.tf false] false)] [] []
@[reducible] def x89_v1_0i_0 : Outs := [(.ret, Pat.mk [] [(0, .cells [.hole (.list (.prod tI tL)), .ifcs 132 false (.cons (.hole (.list (.ifc 55 true (.prod tI tL)))) .nil), .hole tI, .hole (.int .u64)] false), (1, .cells [.hole (.int .u64)] false), (2, .cells [.tf false] false), (3, .cells [.hole (.int .u64)] false), (4, .dfr), (5, .loop .done (some .ret) 4 [(2, .c (.ptr 0 0)), (3, .c (.ptr 1 0)), (4, .c (.ptr 2 0)), (7, .fn 100 [] [.ptr 3 0])] [8] (.reg [.op (some 5) none (.mv (.t 8))]) (.block 1 (.seq (.seq (.draw [[], [0], [], [], [3], [2, 3, 4], [0, 1], [0, 1, 6], [0, 1, 2, 3, 4, 5, 6, 7]] [.op (some 9) none (.fld 1 [true, false] (.t 2)), .op (some 10) none (.load false 1 (.t 9)), .op (some 11) none (.load false 1 (.t 3)), .op (some 12) none (.mv (.t 5)), .op (some 13) none (.bslice tI [.t 12]), .call (some 14) none (.c (.fn 90 [] [])) [.t 11, .t 13] [some (.int .u64), some tL], .op (some 15) none (.ex Xop.nchk [.t 10]), .op (some 16) none (.mv (.t 10))]) (.reg [.call (some 17) none (.m 16 [(55, 84), (132, 83)]) [.t 14] [some (.int .u64)]])) (.cond (.t 17) (.seq (.reg [.op none none (.store 1 (.t 4) (.c (.tf false)))]) .ret) .skip))) 22)] [] []), (.exit 0, Pat.mk [] [(0, .cells [.hole (.list (.prod tI tL)), .ifcs 132 false (.cons (.hole (.list (.ifc 55 true (.prod tI tL)))) .nil), .hole tI, .hole (.int .u64)] false), (1, .cells [.hole (.int .u64)] false), (2, .cells [.tf false] false), (3, .cells [.hole (.int .u64)] false), (4, .dfr), (5, .loop .ready none 4 [(2, .c (.ptr 0 0)), (3, .c (.ptr 1 0)), (4, .c (.ptr 2 0)), (7, .fn 100 [] [.ptr 3 0])] [8] (.reg [.op (some 5) none (.mv (.t 8))]) (.block 1 (.seq (.seq (.draw [[], [0], [], [], [3], [2, 3, 4], [0, 1], [0, 1, 6], [0, 1, 2, 3, 4, 5, 6, 7]] [.op (some 9) none (.fld 1 [true, false] (.t 2)), .op (some 10) none (.load false 1 (.t 9)), .op (some 11) none (.load false 1 (.t 3)), .op (some 12) none (.mv (.t 5)), .op (some 13) none (.bslice tI [.t 12]), .call (some 14) none (.c (.fn 90 [] [])) [.t 11, .t 13] [some (.int .u64), some tL], .op (some 15) none (.ex Xop.nchk [.t 10]), .op (some 16) none (.mv (.t 10))]) (.reg [.call (some 17) none (.m 16 [(55, 84), (132, 83)]) [.t 14] [some (.int .u64)]])) (.cond (.t 17) (.seq (.reg [.op none none (.store 1 (.t 4) (.c (.tf false)))]) .ret) .skip))) 22)] [] [])]
noncomputable def b89_v1_0i_0 : D prog 14 none 6 := dO [] (pick (kd prog f100) [(0, false)]) 0
noncomputable def g89_v1_0i_0 : Int × (List (Int × List Int)) × (List (Int × List Int)) × Int × Int × Int × Unit → Tr0 ((Int × (List (Int × List Int)) × (List (Int × List Int)) × Int × Int × Int × Unit) ⊕ (((List (Int × List Int)) × (List (Int × List Int)) × Int × Int × Int × Int × Unit) ⊕ (((List (Int × List Int)) × (List (Int × List Int)) × Int × Int × Int × Int × Unit)))) := fun (c3_0, c0_0, c0_1c0, c0_2, c0_3, c1_0, _) =>
 .br (!(c3_0 == (0 : Int))) (
 .bd (F101 c3_0) fun y1 =>
 .bd (F90 c1_0 ((((y1.1 :: [])).drop (0 : Nat)).take (1 : Nat))) fun y2 =>
 .bd (F83 c0_1c0 y2.1) fun y3 =>
 .br y3.1 (
 .ret (.inr <| .inl <| (c0_0, (c0_1c0, (c0_2, (c0_3, (c1_0, (c3_0, ())))))))) (
 .nd (rng .u64 (c3_0 - (1 : Int))) <|
 .ret (.inl ((ar0.bits Go.AM.IBin.and Go.IntKind.u64 c3_0 (c3_0 - (1 : Int))), (c0_0, (c0_1c0, (c0_2, (c0_3, (c1_0, ()))))))))) (
 .ret (.inr <| .inr <| (c0_0, (c0_1c0, (c0_2, (c0_3, (c1_0, (c3_0, ()))))))))
theorem s89_v1_0i_0 : ∀ x, roundE (kzO (p89_v1_0i_0.T ⊕ x89_v1_0i_0.T)) cx89_v1_0i ar0 [0, 1, 2, 3, 4, 5] p89_v1_0i_0 x89_v1_0i_0 (b89_v1_0i_0) (fun y => some (.inl y)) (fun b => some (.inr b)) x = run0 (g89_v1_0i_0 x) := fun x => by kernel_rfl
noncomputable def L89_v1_0i_0 : LoopS prog 14 none 6 := mkLoop mixed cx89_v1_0i cx89_v1_0i_ok [0, 1, 2, 3, 4, 5] rfl p89_v1_0i_0 x89_v1_0i_0 rfl (b89_v1_0i_0) (fun x => run0 (g89_v1_0i_0 x)) (s89_v1_0i_0)
@[reducible] def p89_v1_0 : Pat := Pat.mk [(2, .c (.ptr 0 0)), (3, .c (.ptr 1 0)), (4, .c (.ptr 2 0)), (7, .fn 100 [] [.ptr 3 0])] [(0, .cells [.hole (.list (.prod tI tL)), .ifcs 132 false (.cons (.hole (.list (.ifc 55 true (.prod tI tL)))) .nil), .hole tI, .hole (.int .u64)] false), (1, .cells [.hole (.int .u64)] false), (2, .cells [.tf false] false), (3, .cells [.hole (.int .u64)] false)] [.slot 2, .slot 3, .slot 4, .part 7 0] []
@[reducible] def x89_v1_0 : Outs := [(.ret, Pat.mk [(4, .c (.ptr 0 0))] [(0, .cells [.tf false] false), (1, .dfr)] [.slot 4, .mark 0] [1]), (.normal, Pat.mk [(2, .c (.ptr 0 0)), (3, .c (.ptr 1 0)), (4, .c (.ptr 2 0))] [(0, .cells [.hole (.list (.prod tI tL)), .ifcs 132 false (.cons (.hole (.list (.ifc 55 true (.prod tI tL)))) .nil), .hole tI, .hole (.int .u64)] false), (1, .cells [.hole (.int .u64)] false), (2, .cells [.tf false] false), (3, .dfr)] [.slot 2, .slot 3, .slot 4, .mark 0] [3])]
noncomputable def b89_v1_0i : D prog 14 none 6 := dO [.l L89_v1_0i_0] (kd prog f100) 0
theorem ci89_v1_0 : trF prog f100 = some ⟨14, 2, (b89_v1_0i).er, [], []⟩ := by kernel_rfl
noncomputable def g89_v1_0 : (List (Int × List Int)) × (List (Int × List Int)) × Int × Int × Int × Int × Unit → Tr0 ((Unit) ⊕ (((List (Int × List Int)) × (List (Int × List Int)) × Int × Int × Int × Unit))) := fun (c0_0, c0_1c0, c0_2, c0_3, c1_0, c3_0, _) =>
 .bd (.it g89_v1_0i_0 (c3_0, (c0_0, (c0_1c0, (c0_2, (c0_3, (c1_0, ()))))))) fun z4 =>
 .sm z4 (fun z5 =>
 .ret (.inl <| ())) fun z6 =>
 .ret (.inr <| (z6.1, (z6.2.1, (z6.2.2.1, (z6.2.2.2.1, (z6.2.2.2.2.1, ()))))))
theorem s89_v1_0 : ∀ x, rangeE (N := 22) (out := none) (base := 0) (kzO x89_v1_0.T) cx89_v1_0i ar0 [] p89_v1_0 x89_v1_0 ( .t 7) [8] (ad89_v1_0).er (bd89_v1_0).er [] 2 100 (b89_v1_0i) some x = run0 (g89_v1_0 x) := fun x => by kernel_rfl
noncomputable def R89_v1_0 : RangeS prog 22 none 0 := mkRange mixed cx89_v1_0i cx89_v1_0i_ok [] rfl p89_v1_0 x89_v1_0 ( .t 7) [8] rfl (ad89_v1_0).er (bd89_v1_0).er 100 func100 (ci89_v1_0) (enters_of func100 rfl rfl) 6 rfl (b89_v1_0i) rfl (fun x => run0 (g89_v1_0 x)) (s89_v1_0)
noncomputable def dd89_v1 : D prog 22 none 0 := dO [.r R89_v1_0] (kd prog f89) 0
noncomputable def F89_v1 (a0_0 : List (Int × List Int)) (a0_1c0 : List (Int × List Int)) (a0_2 : Int) (a0_3 : Int) (a1 : Int) : Tr0 (Bool × Unit) :=
 .bd (FH77 a1) fun y0 =>
 .bd (g89_v1_0 (a0_0, (a0_1c0, (a0_2, (a0_3, (a1, (y0.1, ()))))))) fun z7 =>
 .sm z7 (fun z8 =>
 .ret (false, ())) fun z9 =>
 .bd (F83 z9.2.1 z9.2.2.2.2.1) fun y10 =>
 .ret (y10.1, ())
theorem c89_v1_ok : trF prog f89 = some ⟨22, 2, dd89_v1.er, [.cell 4 false 1], [some .bool]⟩ := by kernel_rfl
noncomputable def ct89_v1 : Ct := ⟨89, [.agg [.hole (.list (.prod tI tL)), .ifcs 132 false (.cons (.hole (.list (.ifc 55 true (.prod tI tL)))) .nil), .hole tI, .hole (.int .u64)], .c (.hole (.int .u64))], .c (.hole .bool), fun x => run0 (F89_v1 x.1 x.2.1 x.2.2.1 x.2.2.2.1 x.2.2.2.2.1)⟩
theorem ct89_v1_ok : ct89_v1.Ok prog := ct_ok mixed cx89_v1_ok func89 c89_v1_ok (enters_of func89 rfl rfl) dd89_v1 (by kernel_rfl) rfl (fun x => by kernel_rfl)

/- 114, lent -/
@[reducible] def pH114_v1 : Pat := Pat.mk [(0, .c (.sl0 0 tL)), (1, hI), (2, hI), (3, .c (.fn0 95))] [(0, .arr tL false)] [.slot 0] []
@[reducible] def qH114_v1 : Pat := Pat.mk [(0, .c .any)] [(0, .arr tL false)] [] []
noncomputable def cxH114_v1 : Cx := mkCxH [ct95] []
theorem cxH114_v1_ok : cxH114_v1.Ok prog := mkCxH_ok ⟨ct95_ok, trivial⟩ trivial
@[reducible] def pH114_v1_1 : Pat := Pat.mk [(0, .c (.sl0 0 tL)), (1, hI), (2, hI), (3, .c (.fn0 95)), (8, hI), (9, hI)] [(0, .arr tL false)] [] []
@[reducible] def xH114_v1_1 : Outs := [(.exit 2, Pat.mk [(0, .c (.sl0 0 tL)), (1, hI), (2, hI), (3, .c (.fn0 95)), (8, hI)] [(0, .arr tL false)] [] [])]
noncomputable def bH114_v1_1 : D prog 53 none 1 := dO [] (pick (kd prog f114) [(0, false), (0, false)]) 0
noncomputable def gH114_v1_1 : Nat × Int × Int × Int × Int × List (List Int) × Unit → Tr0 ((Nat × Int × Int × Int × Int × List (List Int) × Unit) ⊕ ((Nat × Int × Int × Int × List (List Int) × Unit))) := fun (nv0, v1, v2, v8, v9, b0, _) =>
 .br (decide (v1 < v9)) (
 .nb v9 ((nv0 : Nat) : Int) <|
 .nd (decide (((0 : Nat) + (Int.toNat v9)) < (b0).length)) <|
 .ni (v9 - (1 : Int)) <|
 .nb (v9 - (1 : Int)) ((nv0 : Nat) : Int) <|
 .nd (decide (((0 : Nat) + (Int.toNat (v9 - (1 : Int)))) < (b0).length)) <|
 .bd (F95 ((b0).getD ((0 : Nat) + (Int.toNat v9)) []) ((b0).getD ((0 : Nat) + (Int.toNat (v9 - (1 : Int)))) [])) fun y0 =>
 .br (decide (y0.1 < (0 : Int))) (
 .ni (v9 - (1 : Int)) <|
 .ni (v9 - (1 : Int)) <|
 .nb (v9 - (1 : Int)) ((nv0 : Nat) : Int) <|
 .nd (decide (((0 : Nat) + (Int.toNat (v9 - (1 : Int)))) < (b0).length)) <|
 .nb v9 ((nv0 : Nat) : Int) <|
 .nd (decide (((0 : Nat) + (Int.toNat v9)) < (b0).length)) <|
 .nb v9 ((nv0 : Nat) : Int) <|
 .nd (decide (((0 : Nat) + (Int.toNat v9)) < (b0).length)) <|
 .nb (v9 - (1 : Int)) ((nv0 : Nat) : Int) <|
 .nd (decide (((0 : Nat) + (Int.toNat (v9 - (1 : Int)))) < (((b0).set ((0 : Nat) + (Int.toNat v9)) ((b0).getD ((0 : Nat) + (Int.toNat (v9 - (1 : Int)))) []))).length)) <|
 .ni (v9 - (1 : Int)) <|
 .ret (.inl (nv0, (v1, (v2, (v8, ((v9 - (1 : Int)), (((((b0).set ((0 : Nat) + (Int.toNat v9)) ((b0).getD ((0 : Nat) + (Int.toNat (v9 - (1 : Int)))) []))).set ((0 : Nat) + (Int.toNat (v9 - (1 : Int)))) ((b0).getD ((0 : Nat) + (Int.toNat v9)) [])), ())))))))) (
 .ret (.inr (nv0, (v1, (v2, (v8, (b0, ())))))))) (
 .ret (.inr (nv0, (v1, (v2, (v8, (b0, ())))))))
theorem sH114_v1_1 : ∀ x, roundE (kzO (pH114_v1_1.T ⊕ xH114_v1_1.T)) cxH114_v1 ar0 [0] pH114_v1_1 xH114_v1_1 (bH114_v1_1) (fun y => some (.inl y)) (fun b => some (.inr b)) x = run0 (gH114_v1_1 x) := fun x => by kernel_rfl
noncomputable def LH114_v1_1 : LoopS prog 53 none 1 := mkLoop mixed cxH114_v1 cxH114_v1_ok [0] rfl pH114_v1_1 xH114_v1_1 rfl (bH114_v1_1) (fun x => run0 (gH114_v1_1 x)) (sH114_v1_1)
@[reducible] def pH114_v1_0 : Pat := Pat.mk [(0, .c (.sl0 0 tL)), (1, hI), (2, hI), (3, .c (.fn0 95)), (8, hI)] [(0, .arr tL false)] [] []
@[reducible] def xH114_v1_0 : Outs := [(.exit 0, Pat.mk [] [(0, .arr tL false)] [] [])]
noncomputable def bH114_v1_0 : D prog 53 none 1 := dO [.l LH114_v1_1] (pick (kd prog f114) [(0, false)]) 0
noncomputable def gH114_v1_0 : Nat × Int × Int × Int × List (List Int) × Unit → Tr0 ((Nat × Int × Int × Int × List (List Int) × Unit) ⊕ ((List (List Int) × Unit))) := fun (nv0, v1, v2, v8, b0, _) =>
 .br (decide (v8 < v2)) (
 .bd (.it gH114_v1_1 (nv0, (v1, (v2, (v8, (v8, (b0, ()))))))) fun z1 =>
 .ni (z1.2.2.2.1 + (1 : Int)) <|
 .ret (.inl (z1.1, (z1.2.1, (z1.2.2.1, ((z1.2.2.2.1 + (1 : Int)), (z1.2.2.2.2.1, ()))))))) (
 .ret (.inr (b0, ())))
theorem sH114_v1_0 : ∀ x, roundE (kzO (pH114_v1_0.T ⊕ xH114_v1_0.T)) cxH114_v1 ar0 [0] pH114_v1_0 xH114_v1_0 (bH114_v1_0) (fun y => some (.inl y)) (fun b => some (.inr b)) x = run0 (gH114_v1_0 x) := fun x => by kernel_rfl
noncomputable def LH114_v1_0 : LoopS prog 53 none 1 := mkLoop mixed cxH114_v1 cxH114_v1_ok [0] rfl pH114_v1_0 xH114_v1_0 rfl (bH114_v1_0) (fun x => run0 (gH114_v1_0 x)) (sH114_v1_0)
noncomputable def ddH114_v1 : D prog 53 none 1 := dO [.l LH114_v1_0] (kd prog f114) 0
noncomputable def FH114_v1 (nv0 : Nat) (v1 : Int) (v2 : Int) (b0 : List (List Int)) : Tr0 (List (List Int) × Unit) :=
 .ni (v1 + (1 : Int)) <|
 .bd (.it gH114_v1_0 (nv0, (v1, (v2, ((v1 + (1 : Int)), (b0, ())))))) fun z2 =>
 .ret (z2.1, ())
theorem cH114_v1_ok : trF prog f114 = some ⟨53, 4, ddH114_v1.er, [], []⟩ := by kernel_rfl
noncomputable def ht114_v1 : Ht := ⟨114, pH114_v1, qH114_v1, (fun x => run0 (FH114_v1 x.1 x.2.1 x.2.2.1 x.2.2.2.1))⟩
theorem ht114_v1_ok : ht114_v1.Ok prog := ht_ok mixed cxH114_v1_ok rfl func114 cH114_v1_ok (enters_of func114 rfl rfl) ddH114_v1 (by kernel_rfl) rfl rfl ⟨_, rfl⟩ rfl (pre := [0]) rfl (fun x => by kernel_rfl)

/- 106, lent -/
@[reducible] def pH106_v1 : Pat := Pat.mk [(0, .c (.sl0 0 tL)), (1, hI), (2, hI), (3, hI), (4, .c (.fn0 95))] [(0, .arr tL false)] [.slot 0] []
@[reducible] def qH106_v1 : Pat := Pat.mk [(0, .c .any)] [(0, .arr tL false)] [] []
noncomputable def cxH106_v1 : Cx := mkCxH [] [ht114_v1]
theorem cxH106_v1_ok : cxH106_v1.Ok prog := mkCxH_ok trivial ⟨⟨ht114_v1_ok, rfl⟩, trivial⟩
@[reducible] def pH106_v1_0 : Pat := Pat.mk [(0, .c (.sl0 0 tL)), (1, hI), (2, hI), (3, hI), (4, .c (.fn0 95)), (10, .c (.tf true)), (11, .c (.tf true))] [(0, .arr tL false)] [] []
@[reducible] def xH106_v1_0 : Outs := [(.ret, Pat.mk [] [(0, .arr tL false)] [] [])]
noncomputable def bH106_v1_0 : D prog 148 none 1 := dO [] (pick (kd prog f106) [(0, false)]) 0
noncomputable def gH106_v1_0 : Nat × Int × Int × Int × List (List Int) × Unit → Tr0 ((Nat × Int × Int × Int × List (List Int) × Unit) ⊕ ((List (List Int) × Unit))) := fun (nv0, v1, v2, v3, b0, _) =>
 .ni (v2 - v1) <|
 .br (decide ((v2 - v1) ≤ (12 : Int))) (
 .bd (FH114_v1 nv0 v1 v2 b0) fun y0 =>
 .ret (.inr (y0.1, ()))) (
 .br (v3 == (0 : Int)) (
 .no) (
 .no))
theorem sH106_v1_0 : ∀ x, roundE (kzO (pH106_v1_0.T ⊕ xH106_v1_0.T)) cxH106_v1 ar0 [0] pH106_v1_0 xH106_v1_0 (bH106_v1_0) (fun y => some (.inl y)) (fun b => some (.inr b)) x = run0 (gH106_v1_0 x) := fun x => by kernel_rfl
noncomputable def LH106_v1_0 : LoopS prog 148 none 1 := mkLoop mixed cxH106_v1 cxH106_v1_ok [0] rfl pH106_v1_0 xH106_v1_0 rfl (bH106_v1_0) (fun x => run0 (gH106_v1_0 x)) (sH106_v1_0)
noncomputable def ddH106_v1 : D prog 148 none 1 := dO [.l LH106_v1_0] (kd prog f106) 0
noncomputable def FH106_v1 (nv0 : Nat) (v1 : Int) (v2 : Int) (v3 : Int) (b0 : List (List Int)) : Tr0 (List (List Int) × Unit) :=
 .bd (.it gH106_v1_0 (nv0, (v1, (v2, (v3, (b0, ())))))) fun z1 =>
 .ret (z1.1, ())
theorem cH106_v1_ok : trF prog f106 = some ⟨148, 5, ddH106_v1.er, [], []⟩ := by kernel_rfl
noncomputable def ht106_v1 : Ht := ⟨106, pH106_v1, qH106_v1, (fun x => run0 (FH106_v1 x.1 x.2.1 x.2.2.1 x.2.2.2.1 x.2.2.2.2.1))⟩
theorem ht106_v1_ok : ht106_v1.Ok prog := ht_ok mixed cxH106_v1_ok rfl func106 cH106_v1_ok (enters_of func106 rfl rfl) ddH106_v1 (by kernel_rfl) rfl rfl ⟨_, rfl⟩ rfl (pre := [0]) rfl (fun x => by kernel_rfl)

/- 94, lent -/
@[reducible] def pH94_v1 : Pat := Pat.mk [(0, .c (.sl0 0 tL)), (1, .c (.fn0 95))] [(0, .arr tL false)] [.slot 0] []
@[reducible] def qH94_v1 : Pat := Pat.mk [(0, .c .any)] [(0, .arr tL false)] [] []
noncomputable def cxH94_v1a : Cx := mkCxH [ct107] [ht106_v1]
theorem cxH94_v1a_ok : cxH94_v1a.Ok prog := mkCxH_ok ⟨ct107_ok, trivial⟩ ⟨⟨ht106_v1_ok, rfl⟩, trivial⟩
noncomputable def ddH94_v1a : D prog 14 none 1 := dO [] (kd prog f94) 0
noncomputable def FH94_v1a (nv0 : Nat) (b0 : List (List Int)) : Tr0 (List (List Int) × Unit) :=
 .nd (rng .u64 ((nv0 : Nat) : Int)) <|
 .bd (F107 ((nv0 : Nat) : Int)) fun y0 =>
 .bd (FH106_v1 nv0 (0 : Int) ((nv0 : Nat) : Int) y0.1 b0) fun y1 =>
 .ret (y1.1, ())
theorem cH94_v1a_ok : trF prog f94 = some ⟨14, 2, ddH94_v1a.er, [], []⟩ := by kernel_rfl
noncomputable def ht94_v1a : Ht := ⟨94, pH94_v1, qH94_v1, (fun x => run0 (FH94_v1a x.1 x.2.1))⟩
theorem ht94_v1a_ok : ht94_v1a.Ok prog := ht_ok mixed cxH94_v1a_ok rfl func94 cH94_v1a_ok (enters_of func94 rfl rfl) ddH94_v1a (by kernel_rfl) rfl rfl ⟨_, rfl⟩ rfl (pre := [0]) rfl (fun x => by kernel_rfl)
def ren94 : Go.Shelf.Ren := ⟨fun | 6 => 94 | 15 => 107 | 14 => 106 | 28 => 122 | 29 => 123 | 20 => 114 | 21 => 115 | 22 => 116 | 23 => 117 | 24 => 118 | 25 => 119 | 26 => 120 | 27 => 121 | 46 => 125 | 47 => 126 | 48 => 127 | 49 => 128 | 50 => 129 | 57 => 130 | n => n, fun | 22 => 89 | 24 => 31 | 25 => 142 | 3 => 3 | 39 => 101 | 0 => 0 | 53 => 150 | 55 => 152 | 4 => 4 | 46 => 156 | 45 => 155 | 50 => 160 | 5 => 5 | 9 => 9 | 66 => 164 | 70 => 168 | 76 => 170 | 77 => 171 | n => n, fun | n => n⟩
theorem lay94 : Go.Proofs.SlLaysF.n6 prog ren94 := {
 mixed := by kernel_rfl
 f6 := ⟨f94.name, by decide, func94.trans (congrArg some (by kernel_rfl))⟩
 f14 := ⟨f106.name, by decide, func106.trans (congrArg some (by kernel_rfl))⟩
 f15 := func107.trans (congrArg some (by kernel_rfl))
 f20 := ⟨f114.name, by decide, func114.trans (congrArg some (by kernel_rfl))⟩
 f21 := ⟨f115.name, by decide, func115.trans (congrArg some (by kernel_rfl))⟩
 f22 := ⟨f116.name, by decide, func116.trans (congrArg some (by kernel_rfl))⟩
 f23 := ⟨f117.name, by decide, func117.trans (congrArg some (by kernel_rfl))⟩
 f24 := ⟨f118.name, by decide, func118.trans (congrArg some (by kernel_rfl))⟩
 f25 := ⟨f119.name, by decide, func119.trans (congrArg some (by kernel_rfl))⟩
 f26 := ⟨f120.name, by decide, func120.trans (congrArg some (by kernel_rfl))⟩
 f27 := ⟨f121.name, by decide, func121.trans (congrArg some (by kernel_rfl))⟩
 f28 := func122.trans (congrArg some (by kernel_rfl))
 f29 := func123.trans (congrArg some (by kernel_rfl))
 f46 := ⟨f125.name, by decide, func125.trans (congrArg some (by kernel_rfl))⟩
 f47 := func126.trans (congrArg some (by kernel_rfl))
 f48 := func127.trans (congrArg some (by kernel_rfl))
 f49 := ⟨f128.name, by decide, func128.trans (congrArg some (by kernel_rfl))⟩
 f50 := ⟨f129.name, by decide, func129.trans (congrArg some (by kernel_rfl))⟩
 f57 := ⟨f130.name, by decide, func130.trans (congrArg some (by kernel_rfl))⟩
 t0 := underlying0
 a0 := isAgg0
 z0 := sizeOf0
 v0 := zeroValue0
 t3 := underlying3
 a3 := isAgg3
 z3 := sizeOf3
 v3 := zeroValue3
 t4 := underlying4
 a4 := isAgg4
 z4 := sizeOf4
 v4 := zeroValue4
 t5 := underlying5
 a5 := isAgg5
 z5 := sizeOf5
 v5 := zeroValue5
 t9 := underlying9
 a9 := isAgg9
 z9 := sizeOf9
 v9 := zeroValue9
 t22 := underlying89
 a22 := isAgg89
 z22 := sizeOf89
 v22 := zeroValue89
 a24 := isAgg31
 z24 := sizeOf31
 t25 := underlying142
 a25 := isAgg142
 z25 := sizeOf142
 v25 := zeroValue142
 t39 := underlying101
 a39 := isAgg101
 z39 := sizeOf101
 v39 := zeroValue101
 t45 := underlying155
 a45 := isAgg155
 z45 := sizeOf155
 v45 := zeroValue155
 t46 := underlying156
 a46 := isAgg156
 z46 := sizeOf156
 v46 := zeroValue156
 t50 := underlying160
 a50 := isAgg160
 z50 := sizeOf160
 v50 := zeroValue160
 t53 := underlying150
 a53 := isAgg150
 z53 := sizeOf150
 v53 := zeroValue150
 t55 := underlying152
 a55 := isAgg152
 z55 := sizeOf152
 v55 := zeroValue152
 t66 := underlying164
 a66 := isAgg164
 z66 := sizeOf164
 v66 := zeroValue164
 t70 := underlying168
 a70 := isAgg168
 z70 := sizeOf168
 v70 := zeroValue168
 t76 := underlying170
 a76 := isAgg170
 z76 := sizeOf170
 v76 := zeroValue170
 t77 := underlying171
 a77 := isAgg171
 z77 := sizeOf171
 v77 := zeroValue171 }
noncomputable def FH94_v1 (nv0 : Nat) (b0 : List (List Int)) : Tr0 (List (List Int) × Unit) :=
 .br (decide (nv0 ≤ 12)) (FH94_v1a nv0 b0) (.of (srtO (.list (.int .i64)) (fun a b => run0 (F95 a b)) b0 nv0))
noncomputable def ht94_v1 : Ht := ⟨94, pH94_v1, qH94_v1, (fun x => run0 (FH94_v1 x.1 x.2.1))⟩
theorem ht94_v1_ok : ht94_v1.Ok prog := fun x y h => by
 have h' : brO (decide (x.1 ≤ 12)) (run0 (FH94_v1a x.1 x.2.1)) (srtO (.list (.int .i64)) (fun a b => run0 (F95 a b)) x.2.1 x.1) = some y := h
 rcases cond_some h' with ⟨_, h'⟩ | ⟨_, h'⟩
 · exact ht94_v1a_ok x y h'
 · exact srtO_ok (ρ := ren94) lay94 (enters_of func94 rfl rfl) 95 (fun _ => rfl) rfl (nil_cells _) (fun a b z hz => ct95_ok (a, b, ()) (z, ()) hz) h'

/- 46 -/
noncomputable def cx46 : Cx := mkCxH [ct66, ct82, ct90, ct89_v1, ct71, ct82_v1] [ht94_v1]
theorem cx46_ok : cx46.Ok prog := mkCxH_ok ⟨ct66_ok, ct82_ok, ct90_ok, ct89_v1_ok, ct71_ok, ct82_v1_ok, trivial⟩ ⟨⟨ht94_v1_ok, rfl⟩, trivial⟩
noncomputable def ad46_0 : D prog 30 (some 3) 5 := dO [] (pick (kd prog f46) [(0, false)]) 0
noncomputable def bd46_0 : D prog 30 (some 3) 5 := dO [] (pick (kd prog f46) [(0, true)]) 0
noncomputable def cx46_0i : Cx := itCx cx46 (fun kz => rdK kz cx46 ar0 3 5 [18] (ad46_0) (bd46_0))
theorem cx46_0i_ok : (cx46_0i).Ok prog := itCx_ok cx46_ok (fun h => rdK_ok mixed cx46_ok h)
@[reducible] def p46_0i_0 : Pat := Pat.mk [(0, .c (.yl 3)), (1, .c (.ipcs (.cons (.hole (.list (.prod tI tL))) (.cons (.ifcs 132 false (.cons (.hole (.list (.ifc 55 true (.prod tI tL)))) .nil)) (.cons (.hole tI) (.cons (.hole (.int .u64)) .nil)))))), (2, .c (.ipc tL)), (4, .c (.hole (.int .u64)))] [(3, .loop .ready none 2 [(2, .c .nsl), (3, hI), (4, .c (.ptr 0 0)), (6, .c (.ptr 1 0)), (17, .fn 102 [] [.ipcs (.cons (.hole (.list (.prod tI tL))) (.cons (.ifcs 132 false (.cons (.hole (.list (.ifc 55 true (.prod tI tL)))) .nil)) (.cons (.hole tI) (.cons (.hole (.int .u64)) .nil)))), .ipc tL])] [18] (.reg [.op (some 7) none (.mv (.t 18))]) (.block 1 (.seq (.reg [.op (some 19) none (.load true 4 (.t 4)), .op (some 20) none (.mv (.t 7)), .call (some 21) none (.c (.fn 89 [] [])) [.t 19, .t 20] [some (.prod (.prod (.list (.prod tI tL)) .unit) (.prod (.ifc 55 true (.prod tI tL)) (.prod tI (.int .u64)))), some (.int .u64)]]) (.cond (.t 21) (.draw [[], [], [1], [1, 2], [0, 1, 2, 3], [0, 1, 2, 3, 4]] [.op (some 22) none (.load false 1 (.t 6)), .op (some 23) none (.mv (.t 7)), .call (some 24) none (.c (.fn 71 [] [])) [.t 23] [some (.int .u64)], .op (some 25) none (.bslice tL [.t 24]), .op (some 26) none (.append 1 (.t 22) (.t 25)), .op none none (.store 1 (.t 6) (.t 26))]) .skip))) 30), (2, .dfr), (0, .cells [.hole (.list (.prod tI tL)), .ifcs 132 false (.cons (.hole (.list (.ifc 55 true (.prod tI tL)))) .nil), .hole tI, .hole (.int .u64)] false), (1, .cells [.sl0 4 tL] false), (4, .arr tL false)] [.cell 1 0] []
@[reducible] def x46_0i_0 : Outs := [(.exit 0, Pat.mk [] [(0, .cells [.hole (.list (.prod tI tL)), .ifcs 132 false (.cons (.hole (.list (.ifc 55 true (.prod tI tL)))) .nil), .hole tI, .hole (.int .u64)] false), (1, .cells [.sl0 4 tL] false), (2, .dfr), (3, .loop .ready none 2 [(2, .c .nsl), (3, hI), (4, .c (.ptr 0 0)), (6, .c (.ptr 1 0)), (17, .fn 102 [] [.ipcs (.cons (.hole (.list (.prod tI tL))) (.cons (.ifcs 132 false (.cons (.hole (.list (.ifc 55 true (.prod tI tL)))) .nil)) (.cons (.hole tI) (.cons (.hole (.int .u64)) .nil)))), .ipc tL])] [18] (.reg [.op (some 7) none (.mv (.t 18))]) (.block 1 (.seq (.reg [.op (some 19) none (.load true 4 (.t 4)), .op (some 20) none (.mv (.t 7)), .call (some 21) none (.c (.fn 89 [] [])) [.t 19, .t 20] [some (.prod (.prod (.list (.prod tI tL)) .unit) (.prod (.ifc 55 true (.prod tI tL)) (.prod tI (.int .u64)))), some (.int .u64)]]) (.cond (.t 21) (.draw [[], [], [1], [1, 2], [0, 1, 2, 3], [0, 1, 2, 3, 4]] [.op (some 22) none (.load false 1 (.t 6)), .op (some 23) none (.mv (.t 7)), .call (some 24) none (.c (.fn 71 [] [])) [.t 23] [some (.int .u64)], .op (some 25) none (.bslice tL [.t 24]), .op (some 26) none (.append 1 (.t 22) (.t 25)), .op none none (.store 1 (.t 6) (.t 26))]) .skip))) 30), (4, .arr tL false)] [.cell 1 0] [])]
noncomputable def b46_0i_0 : D prog 22 none 4 := dO [] (pick (kd prog f102) [(0, false)]) 0
noncomputable def g46_0i_0 : (List (Int × List Int)) × (List (Int × List Int)) × Int × Int × List Int × Int × Int × (List (Int × List Int)) × (List (Int × List Int)) × Int × Int × List Int × (List (Int × List Int)) × (List (Int × List Int)) × Int × Int × Nat × List (List Int) × Unit → Tr0 (((List (Int × List Int)) × (List (Int × List Int)) × Int × Int × List Int × Int × Int × (List (Int × List Int)) × (List (Int × List Int)) × Int × Int × List Int × (List (Int × List Int)) × (List (Int × List Int)) × Int × Int × Nat × List (List Int) × Unit) ⊕ (((List (Int × List Int)) × (List (Int × List Int)) × Int × Int × Nat × Int × (List (Int × List Int)) × (List (Int × List Int)) × Int × Int × List Int × List (List Int) × Unit))) := fun (v1c0, v1c1c0, v1c2, v1c3, v2, v4, w3, w17_0c0, w17_0c1c0, w17_0c2, w17_0c3, w17_1, c0_0, c0_1c0, c0_2, c0_3, nc1_0, b4, _) =>
 .br (decide (v4 ≤ v1c3)) (
 .bd (F90 v4 v2) fun y3 =>
 .br (v4 == y3.1) (
 .bd (F89_v1 c0_0 c0_1c0 c0_2 c0_3 v4) fun y4 =>
 .br y4.1 (
 .bd (F71 v4) fun y5 =>
 .nd (decide ((nc1_0 + (((((y5.1 :: [])).drop (0 : Nat)).take (1 : Nat))).length) < bigL)) <|
 .nd (rng .u64 (v4 + (1 : Int))) <|
 .ret (.inl (v1c0, (v1c1c0, (v1c2, (v1c3, (v2, ((v4 + (1 : Int)), (w3, (w17_0c0, (w17_0c1c0, (w17_0c2, (w17_0c3, (w17_1, (c0_0, (c0_1c0, (c0_2, (c0_3, ((nc1_0 + (((((y5.1 :: [])).drop (0 : Nat)).take (1 : Nat))).length), (((((b4).drop (0 : Nat)).take nc1_0) ++ ((((y5.1 :: [])).drop (0 : Nat)).take (1 : Nat))), ())))))))))))))))))))) (
 .nd (rng .u64 (v4 + (1 : Int))) <|
 .ret (.inl (v1c0, (v1c1c0, (v1c2, (v1c3, (v2, ((v4 + (1 : Int)), (w3, (w17_0c0, (w17_0c1c0, (w17_0c2, (w17_0c3, (w17_1, (c0_0, (c0_1c0, (c0_2, (c0_3, (nc1_0, (b4, ()))))))))))))))))))))) (
 .nd (rng .u64 (v4 + (1 : Int))) <|
 .ret (.inl (v1c0, (v1c1c0, (v1c2, (v1c3, (v2, ((v4 + (1 : Int)), (w3, (w17_0c0, (w17_0c1c0, (w17_0c2, (w17_0c3, (w17_1, (c0_0, (c0_1c0, (c0_2, (c0_3, (nc1_0, (b4, ()))))))))))))))))))))) (
 .ret (.inr (c0_0, (c0_1c0, (c0_2, (c0_3, (nc1_0, (w3, (w17_0c0, (w17_0c1c0, (w17_0c2, (w17_0c3, (w17_1, (b4, ()))))))))))))))
theorem s46_0i_0 : ∀ x, roundE (kzO (p46_0i_0.T ⊕ x46_0i_0.T)) cx46_0i ar0 [0, 1, 2, 3] p46_0i_0 x46_0i_0 (b46_0i_0) (fun y => some (.inl y)) (fun b => some (.inr b)) x = run0 (g46_0i_0 x) := fun x => by kernel_rfl
noncomputable def L46_0i_0 : LoopS prog 22 none 4 := mkLoop mixed cx46_0i cx46_0i_ok [0, 1, 2, 3] rfl p46_0i_0 x46_0i_0 rfl (b46_0i_0) (fun x => run0 (g46_0i_0 x)) (s46_0i_0)
@[reducible] def p46_0 : Pat := Pat.mk [(2, .c .nsl), (3, hI), (4, .c (.ptr 0 0)), (6, .c (.ptr 1 0)), (17, .fn 102 [] [.ipcs (.cons (.hole (.list (.prod tI tL))) (.cons (.ifcs 132 false (.cons (.hole (.list (.ifc 55 true (.prod tI tL)))) .nil)) (.cons (.hole tI) (.cons (.hole (.int .u64)) .nil)))), .ipc tL])] [(0, .cells [.hole (.list (.prod tI tL)), .ifcs 132 false (.cons (.hole (.list (.ifc 55 true (.prod tI tL)))) .nil), .hole tI, .hole (.int .u64)] false), (1, .cells [.nsl] false)] [.slot 4, .slot 6] []
@[reducible] def x46_0 : Outs := [(.normal, Pat.mk [(6, .c (.ptr 0 0))] [(0, .cells [.sl0 2 tL] false), (1, .dfr), (2, .arr tL false)] [.slot 6, .mark 0, .cell 0 0] [1])]
noncomputable def b46_0i : D prog 22 none 4 := dO [.l L46_0i_0] (kd prog f102) 0
theorem ci46_0 : trF prog f102 = some ⟨22, 3, (b46_0i).er, [], []⟩ := by kernel_rfl
noncomputable def g46_0 : Int × (List (Int × List Int)) × (List (Int × List Int)) × Int × Int × List Int × (List (Int × List Int)) × (List (Int × List Int)) × Int × Int × Unit → Tr0 ((Nat × List (List Int) × Unit)) := fun (v3, v17_0c0, v17_0c1c0, v17_0c2, v17_0c3, v17_1, c0_0, c0_1c0, c0_2, c0_3, _) =>
 .bd (.it g46_0i_0 (v17_0c0, (v17_0c1c0, (v17_0c2, (v17_0c3, (v17_1, ((0 : Int), (v3, (v17_0c0, (v17_0c1c0, (v17_0c2, (v17_0c3, (v17_1, (c0_0, (c0_1c0, (c0_2, (c0_3, ((0 : Nat), ([], ()))))))))))))))))))) fun z6 =>
 .ret ((z6.2.2.2.2.1, (z6.2.2.2.2.2.2.2.2.2.2.2.1, ())))
theorem s46_0 : ∀ x, rangeE (N := 30) (out := none) (base := 0) (kzO x46_0.T) cx46_0i ar0 [] p46_0 x46_0 ( .t 17) [18] (ad46_0).er (bd46_0).er [] 3 102 (b46_0i) some x = run0 (g46_0 x) := fun x => by kernel_rfl
noncomputable def R46_0 : RangeS prog 30 none 0 := mkRange mixed cx46_0i cx46_0i_ok [] rfl p46_0 x46_0 ( .t 17) [18] rfl (ad46_0).er (bd46_0).er 102 func102 (ci46_0) (enters_of func102 rfl rfl) 4 rfl (b46_0i) rfl (fun x => run0 (g46_0 x)) (s46_0)
noncomputable def dd46 : D prog 30 none 0 := dO [.r R46_0] (kd prog f46) 0
noncomputable def F46 (a0_0 : List (Int × List Int)) : Tr0 (List (List Int) × Int × Unit) :=
 .bd (F66 a0_0) fun y0 =>
 .sm y0 (fun y1 =>
 .br (!(y1.2.2.2.1 == (0 : Int))) (
 .ret ([], (y1.2.2.2.1, ()))) (
 .bd (F82 y1.1 y1.2.1 y1.2.2.1 []) fun y2 =>
 .no)) fun y7 =>
 .br (!(y7.2.2.2.2.1 == (0 : Int))) (
 .ret ([], (y7.2.2.2.2.1, ()))) (
 .bd (F82_v1 y7.1 y7.2.1 y7.2.2.1 y7.2.2.2.1 []) fun y8 =>
 .bd (g46_0 ((0 : Int), (y8.1, (y8.2.1, (y8.2.2.1, (y8.2.2.2.1, (y8.2.2.2.2.1, (y7.1, (y7.2.1, (y7.2.2.1, (y7.2.2.2.1, ()))))))))))) fun z9 =>
 .bd (FH94_v1 z9.1 z9.2.1) fun y10 =>
 .ret ((((y10.1).drop (0 : Nat)).take z9.1), ((0 : Int), ())))
theorem c46_ok : trF prog f46 = some ⟨30, 1, dd46.er, [.t 2, .t 3], [some tLL, some tI]⟩ := by kernel_rfl
noncomputable def ct46 : Ct := ⟨46, [.agg [.hole (.list (.prod tI tL))]], .tup [.hole tLL, .hole tI], fun x => run0 (F46 x.1)⟩
theorem ct46_ok : ct46.Ok prog := ct_ok mixed cx46_ok func46 c46_ok (enters_of func46 rfl rfl) dd46 (by kernel_rfl) rfl (fun x => by kernel_rfl)

/- 73 -/
noncomputable def cx73 : Cx := mkCxH [] []
theorem cx73_ok : cx73.Ok prog := mkCxH_ok trivial trivial
noncomputable def dd73 : D prog 10 none 0 := dO [] (kd prog f73) 0
noncomputable def F73 (a0 : Int) (a1 : Int) : Tr0 (Bool × Unit) :=
 .nb a1 (64 : Int) <|
 .ret (((ar0.bits Go.AM.IBin.and Go.IntKind.u64 (ar0.shr a0 a1) (1 : Int)) == (1 : Int)), ())
theorem c73_ok : trF prog f73 = some ⟨10, 2, dd73.er, [.t 4], [some .bool]⟩ := by kernel_rfl
noncomputable def ct73 : Ct := ⟨73, [.c (.hole (.int .u64)), hI], .c (.hole .bool), fun x => run0 (F73 x.1 x.2.1)⟩
theorem ct73_ok : ct73.Ok prog := ct_ok mixed cx73_ok func73 c73_ok (enters_of func73 rfl rfl) dd73 (by kernel_rfl) rfl (fun x => by kernel_rfl)

/- 88 -/
noncomputable def cx88 : Cx := mkCxH [ct82, ct90, ct73, ct89] []
theorem cx88_ok : cx88.Ok prog := mkCxH_ok ⟨ct82_ok, ct90_ok, ct73_ok, ct89_ok, trivial⟩ trivial
noncomputable def ad88_0 : D prog 47 (some 3) 4 := dO [] (pick (kd prog f88) [(0, false)]) 0
noncomputable def bd88_0 : D prog 47 (some 3) 4 := dO [] (pick (kd prog f88) [(0, true)]) 0
noncomputable def cx88_0i : Cx := itCx cx88 (fun kz => rdK kz cx88 ar0 3 4 [8] (ad88_0) (bd88_0))
theorem cx88_0i_ok : (cx88_0i).Ok prog := itCx_ok cx88_ok (fun h => rdK_ok mixed cx88_ok h)
@[reducible] def p88_0i_0 : Pat := Pat.mk [(0, .c (.yl 3)), (1, .c (.ipcs (.cons (.hole (.list (.prod tI tL))) (.cons .nili (.cons (.hole tI) (.cons (.hole (.int .u64)) .nil)))))), (2, .c (.ipc tL)), (4, .c (.hole (.int .u64)))] [(3, .loop .ready none 2 [(1, .c (.ipcs (.cons (.hole (.list (.prod tI tL))) (.cons .nili (.cons (.hole tI) (.cons (.hole (.int .u64)) .nil)))))), (2, .c (.ptr 0 0)), (3, hI), (4, .c (.ptr 1 0)), (7, .fn 102 [] [.ipcs (.cons (.hole (.list (.prod tI tL))) (.cons .nili (.cons (.hole tI) (.cons (.hole (.int .u64)) .nil)))), .ipc tL])] [8] (.reg [.op (some 5) none (.mv (.t 8))]) (.block 1 (.seq (.reg [.op (some 9) none (.mv (.t 5)), .op (some 10) none (.load false 1 (.t 2)), .call (some 11) none (.c (.fn 73 [] [])) [.t 9, .t 10] [some (.int .u64), some tI], .op (some 12) none (.mv (.t 11)), .op (some 13) (some (12, true)) (.load true 4 (.t 1)), .op (some 14) (some (12, true)) (.mv (.t 5)), .call (some 15) (some (12, true)) (.c (.fn 89 [] [])) [.t 13, .t 14] [some (.prod (.prod (.list (.prod tI tL)) .unit) (.prod (.ifc 55 true (.prod tI tL)) (.prod tI (.int .u64)))), some (.int .u64)], .op (some 16) none (.pick (.t 12) (.t 15) (.c (.tf false)))]) (.cond (.t 16) (.reg [.op none none (.store 1 (.t 4) (.c (.int .i64 (Int.ofNat 0))))]) .skip))) 47), (2, .dfr), (0, .cells [.hole tI] false), (1, .cells [.hole tI] false)] [] []
@[reducible] def x88_0i_0 : Outs := [(.exit 0, Pat.mk [] [(0, .cells [.hole tI] false), (1, .cells [.hole tI] false), (2, .dfr), (3, .loop .ready none 2 [(1, .c (.ipcs (.cons (.hole (.list (.prod tI tL))) (.cons .nili (.cons (.hole tI) (.cons (.hole (.int .u64)) .nil)))))), (2, .c (.ptr 0 0)), (3, hI), (4, .c (.ptr 1 0)), (7, .fn 102 [] [.ipcs (.cons (.hole (.list (.prod tI tL))) (.cons .nili (.cons (.hole tI) (.cons (.hole (.int .u64)) .nil)))), .ipc tL])] [8] (.reg [.op (some 5) none (.mv (.t 8))]) (.block 1 (.seq (.reg [.op (some 9) none (.mv (.t 5)), .op (some 10) none (.load false 1 (.t 2)), .call (some 11) none (.c (.fn 73 [] [])) [.t 9, .t 10] [some (.int .u64), some tI], .op (some 12) none (.mv (.t 11)), .op (some 13) (some (12, true)) (.load true 4 (.t 1)), .op (some 14) (some (12, true)) (.mv (.t 5)), .call (some 15) (some (12, true)) (.c (.fn 89 [] [])) [.t 13, .t 14] [some (.prod (.prod (.list (.prod tI tL)) .unit) (.prod (.ifc 55 true (.prod tI tL)) (.prod tI (.int .u64)))), some (.int .u64)], .op (some 16) none (.pick (.t 12) (.t 15) (.c (.tf false)))]) (.cond (.t 16) (.reg [.op none none (.store 1 (.t 4) (.c (.int .i64 (Int.ofNat 0))))]) .skip))) 47)] [] [])]
noncomputable def b88_0i_0 : D prog 22 none 4 := dO [] (pick (kd prog f102) [(0, false)]) 0
noncomputable def g88_0i_0 : (List (Int × List Int)) × Int × Int × List Int × Int × (List (Int × List Int)) × Int × Int × Int × (List (Int × List Int)) × Int × Int × List Int × Int × Int × Unit → Tr0 (((List (Int × List Int)) × Int × Int × List Int × Int × (List (Int × List Int)) × Int × Int × Int × (List (Int × List Int)) × Int × Int × List Int × Int × Int × Unit) ⊕ ((Int × Int × (List (Int × List Int)) × Int × Int × Int × (List (Int × List Int)) × Int × Int × List Int × Unit))) := fun (v1c0, v1c2, v1c3, v2, v4, w1c0, w1c2, w1c3, w3, w7_0c0, w7_0c2, w7_0c3, w7_1, c0_0, c1_0, _) =>
 .br (decide (v4 ≤ v1c3)) (
 .bd (F90 v4 v2) fun y1 =>
 .br (v4 == y1.1) (
 .bd (F73 v4 c0_0) fun y2 =>
 .br y2.1 (
 .bd (F89 w1c0 w1c2 w1c3 v4) fun y3 =>
 .br y3.1 (
 .nd (rng .u64 (v4 + (1 : Int))) <|
 .ret (.inl (v1c0, (v1c2, (v1c3, (v2, ((v4 + (1 : Int)), (w1c0, (w1c2, (w1c3, (w3, (w7_0c0, (w7_0c2, (w7_0c3, (w7_1, (c0_0, ((0 : Int), ()))))))))))))))))) (
 .nd (rng .u64 (v4 + (1 : Int))) <|
 .ret (.inl (v1c0, (v1c2, (v1c3, (v2, ((v4 + (1 : Int)), (w1c0, (w1c2, (w1c3, (w3, (w7_0c0, (w7_0c2, (w7_0c3, (w7_1, (c0_0, (c1_0, ())))))))))))))))))) (
 .nd (rng .u64 (v4 + (1 : Int))) <|
 .ret (.inl (v1c0, (v1c2, (v1c3, (v2, ((v4 + (1 : Int)), (w1c0, (w1c2, (w1c3, (w3, (w7_0c0, (w7_0c2, (w7_0c3, (w7_1, (c0_0, (c1_0, ())))))))))))))))))) (
 .nd (rng .u64 (v4 + (1 : Int))) <|
 .ret (.inl (v1c0, (v1c2, (v1c3, (v2, ((v4 + (1 : Int)), (w1c0, (w1c2, (w1c3, (w3, (w7_0c0, (w7_0c2, (w7_0c3, (w7_1, (c0_0, (c1_0, ())))))))))))))))))) (
 .ret (.inr (c0_0, (c1_0, (w1c0, (w1c2, (w1c3, (w3, (w7_0c0, (w7_0c2, (w7_0c3, (w7_1, ()))))))))))))
theorem s88_0i_0 : ∀ x, roundE (kzO (p88_0i_0.T ⊕ x88_0i_0.T)) cx88_0i ar0 [0, 1, 2, 3] p88_0i_0 x88_0i_0 (b88_0i_0) (fun y => some (.inl y)) (fun b => some (.inr b)) x = run0 (g88_0i_0 x) := fun x => by kernel_rfl
noncomputable def L88_0i_0 : LoopS prog 22 none 4 := mkLoop mixed cx88_0i cx88_0i_ok [0, 1, 2, 3] rfl p88_0i_0 x88_0i_0 rfl (b88_0i_0) (fun x => run0 (g88_0i_0 x)) (s88_0i_0)
@[reducible] def p88_0 : Pat := Pat.mk [(1, .c (.ipcs (.cons (.hole (.list (.prod tI tL))) (.cons .nili (.cons (.hole tI) (.cons (.hole (.int .u64)) .nil)))))), (2, .c (.ptr 0 0)), (3, hI), (4, .c (.ptr 1 0)), (7, .fn 102 [] [.ipcs (.cons (.hole (.list (.prod tI tL))) (.cons .nili (.cons (.hole tI) (.cons (.hole (.int .u64)) .nil)))), .ipc tL])] [(0, .cells [.hole tI] false), (1, .cells [.hole tI] false)] [.slot 2, .slot 4] []
@[reducible] def x88_0 : Outs := [(.normal, Pat.mk [(1, .c (.ipcs (.cons (.hole (.list (.prod tI tL))) (.cons .nili (.cons (.hole tI) (.cons (.hole (.int .u64)) .nil)))))), (2, .c (.ptr 0 0)), (4, .c (.ptr 1 0))] [(0, .cells [.hole tI] false), (1, .cells [.hole tI] false), (2, .dfr)] [.slot 2, .slot 4, .mark 0] [2])]
noncomputable def b88_0i : D prog 22 none 4 := dO [.l L88_0i_0] (kd prog f102) 0
theorem ci88_0 : trF prog f102 = some ⟨22, 3, (b88_0i).er, [], []⟩ := by kernel_rfl
noncomputable def g88_0 : (List (Int × List Int)) × Int × Int × Int × (List (Int × List Int)) × Int × Int × List Int × Int × Int × Unit → Tr0 (((List (Int × List Int)) × Int × Int × Int × Int × Unit)) := fun (v1c0, v1c2, v1c3, v3, v7_0c0, v7_0c2, v7_0c3, v7_1, c0_0, c1_0, _) =>
 .bd (.it g88_0i_0 (v7_0c0, (v7_0c2, (v7_0c3, (v7_1, ((0 : Int), (v1c0, (v1c2, (v1c3, (v3, (v7_0c0, (v7_0c2, (v7_0c3, (v7_1, (c0_0, (c1_0, ())))))))))))))))) fun z4 =>
 .ret ((v1c0, (v1c2, (v1c3, (z4.1, (z4.2.1, ()))))))
theorem s88_0 : ∀ x, rangeE (N := 47) (out := none) (base := 0) (kzO x88_0.T) cx88_0i ar0 [] p88_0 x88_0 ( .t 7) [8] (ad88_0).er (bd88_0).er [] 3 102 (b88_0i) some x = run0 (g88_0 x) := fun x => by kernel_rfl
noncomputable def R88_0 : RangeS prog 47 none 0 := mkRange mixed cx88_0i cx88_0i_ok [] rfl p88_0 x88_0 ( .t 7) [8] rfl (ad88_0).er (bd88_0).er 102 func102 (ci88_0) (enters_of func102 rfl rfl) 4 rfl (b88_0i) rfl (fun x => run0 (g88_0 x)) (s88_0)
noncomputable def dd88 : D prog 47 none 0 := dO [.r R88_0] (kd prog f88) 0
noncomputable def F88 (a0 : Int) (a1c0 : List (Int × List Int)) (a1c2 : Int) (a1c3 : Int) : Tr0 (Int × Unit) :=
 .bd (F82 a1c0 a1c2 a1c3 []) fun y0 =>
 .bd (g88_0 (a1c0, (a1c2, (a1c3, ((0 : Int), (y0.1, (y0.2.1, (y0.2.2.1, (y0.2.2.2.1, (a0, ((1 : Int), ()))))))))))) fun z5 =>
 .no
theorem c88_ok : trF prog f88 = some ⟨47, 2, dd88.er, [.t 3], [some tI]⟩ := by kernel_rfl
noncomputable def ct88 : Ct := ⟨88, [hI, .c (.ipcs (.cons (.hole (.list (.prod tI tL))) (.cons .nili (.cons (.hole tI) (.cons (.hole (.int .u64)) .nil)))))], hI, fun x => run0 (F88 x.1 x.2.1 x.2.2.1 x.2.2.2.1)⟩
theorem ct88_ok : ct88.Ok prog := ct_ok mixed cx88_ok func88 c88_ok (enters_of func88 rfl rfl) dd88 (by kernel_rfl) rfl (fun x => by kernel_rfl)

/- 87 -/
noncomputable def cx87 : Cx := mkCxH [ct88] []
theorem cx87_ok : cx87.Ok prog := mkCxH_ok ⟨ct88_ok, trivial⟩ trivial
@[reducible] def p87_0 : Pat := Pat.mk [(1, .fn 88 [] [.ipcs (.cons (.hole (.list (.prod tI tL))) (.cons .nili (.cons (.hole tI) (.cons (.hole (.int .u64)) .nil))))]), (5, .c (.sl0 0 tI)), (8, hI), (9, hI)] [(0, .arr tI false)] [.slot 5] []
@[reducible] def x87_0 : Outs := [(.exit 0, Pat.mk [(5, .c (.sl0 0 tI))] [(0, .arr tI false)] [.slot 5] [])]
noncomputable def b87_0 : D prog 20 none 0 := dO [] (pick (kd prog f87) [(0, false)]) 0
noncomputable def g87_0 : (List (Int × List Int)) × Int × Int × Nat × Int × Int × List Int × Unit → Tr0 (((List (Int × List Int)) × Int × Int × Nat × Int × Int × List Int × Unit) ⊕ ((Nat × List Int × Unit))) := fun (v1_0c0, v1_0c2, v1_0c3, nv5, v8, v9, b0, _) =>
 .br (decide (v9 < v8)) (
 .bd (F88 v9 v1_0c0 v1_0c2 v1_0c3) fun y0 =>
 .nd (decide ((nv5 + (((((y0.1 :: [])).drop (0 : Nat)).take (1 : Nat))).length) < bigL)) <|
 .ni (v9 + (1 : Int)) <|
 .ret (.inl (v1_0c0, (v1_0c2, (v1_0c3, ((nv5 + (((((y0.1 :: [])).drop (0 : Nat)).take (1 : Nat))).length), (v8, ((v9 + (1 : Int)), (((((b0).drop (0 : Nat)).take nv5) ++ ((((y0.1 :: [])).drop (0 : Nat)).take (1 : Nat))), ()))))))))) (
 .ret (.inr (nv5, (b0, ()))))
theorem s87_0 : ∀ x, roundE (kzO (p87_0.T ⊕ x87_0.T)) cx87 ar0 [] p87_0 x87_0 (b87_0) (fun y => some (.inl y)) (fun b => some (.inr b)) x = run0 (g87_0 x) := fun x => by kernel_rfl
noncomputable def L87_0 : LoopS prog 20 none 0 := mkLoop mixed cx87 cx87_ok [] rfl p87_0 x87_0 rfl (b87_0) (fun x => run0 (g87_0 x)) (s87_0)
noncomputable def dd87 : D prog 20 none 0 := dO [.l L87_0] (kd prog f87) 0
noncomputable def F87 (a0_0 : List (Int × List Int)) (a0_2 : Int) (a0_3 : Int) (a1_0c0 : List (Int × List Int)) (a1_0c2 : Int) (a1_0c3 : Int) : Tr0 (List Int × Unit) :=
 .bd (.it g87_0 (a1_0c0, (a1_0c2, (a1_0c3, ((0 : Nat), (a0_2, ((0 : Int), ([], ())))))))) fun z1 =>
 .ret ((((z1.2.1).drop (0 : Nat)).take z1.1), ())
theorem c87_ok : trF prog f87 = some ⟨20, 2, dd87.er, [.t 4], [some tL]⟩ := by kernel_rfl
noncomputable def ct87 : Ct := ⟨87, [.agg [.hole (.list (.prod tI tL)), .nili, .hole tI, .hole (.int .u64)], .fn 88 [] [.ipcs (.cons (.hole (.list (.prod tI tL))) (.cons .nili (.cons (.hole tI) (.cons (.hole (.int .u64)) .nil))))]], hL, fun x => run0 (F87 x.1 x.2.1 x.2.2.1 x.2.2.2.1 x.2.2.2.2.1 x.2.2.2.2.2.1)⟩
theorem ct87_ok : ct87.Ok prog := ct_ok mixed cx87_ok func87 c87_ok (enters_of func87 rfl rfl) dd87 (by kernel_rfl) rfl (fun x => by kernel_rfl)

/- 74 -/
noncomputable def cx74 : Cx := mkCxH [] []
theorem cx74_ok : cx74.Ok prog := mkCxH_ok trivial trivial
noncomputable def dd74 : D prog 9 none 0 := dO [] (kd prog f74) 0
noncomputable def F74 (a0 : Int) (a1 : Int) : Tr0 (Int × Unit) :=
 .nb a1 (64 : Int) <|
 .nd (rng .u64 (ar0.shl (1 : Int) a1)) <|
 .ret ((ar0.bits Go.AM.IBin.or Go.IntKind.u64 a0 (ar0.shl (1 : Int) a1)), ())
theorem c74_ok : trF prog f74 = some ⟨9, 2, dd74.er, [.t 4], [some (.int .u64)]⟩ := by kernel_rfl
noncomputable def ct74 : Ct := ⟨74, [.c (.hole (.int .u64)), hI], .c (.hole (.int .u64)), fun x => run0 (F74 x.1 x.2.1)⟩
theorem ct74_ok : ct74.Ok prog := ct_ok mixed cx74_ok func74 c74_ok (enters_of func74 rfl rfl) dd74 (by kernel_rfl) rfl (fun x => by kernel_rfl)

/- 88 -/
noncomputable def cx88_v1 : Cx := mkCxH [ct82_v1, ct90, ct73, ct89_v1, ct83, ct74] []
theorem cx88_v1_ok : cx88_v1.Ok prog := mkCxH_ok ⟨ct82_v1_ok, ct90_ok, ct73_ok, ct89_v1_ok, ct83_ok, ct74_ok, trivial⟩ trivial
noncomputable def ad88_v1_0 : D prog 47 (some 3) 4 := dO [] (pick (kd prog f88) [(0, false)]) 0
noncomputable def bd88_v1_0 : D prog 47 (some 3) 4 := dO [] (pick (kd prog f88) [(0, true)]) 0
noncomputable def cx88_v1_0i : Cx := itCx cx88_v1 (fun kz => rdK kz cx88_v1 ar0 3 4 [8] (ad88_v1_0) (bd88_v1_0))
theorem cx88_v1_0i_ok : (cx88_v1_0i).Ok prog := itCx_ok cx88_v1_ok (fun h => rdK_ok mixed cx88_v1_ok h)
@[reducible] def p88_v1_0i_0 : Pat := Pat.mk [(0, .c (.yl 3)), (1, .c (.ipcs (.cons (.hole (.list (.prod tI tL))) (.cons (.ifcs 132 false (.cons (.hole (.list (.ifc 55 true (.prod tI tL)))) .nil)) (.cons (.hole tI) (.cons (.hole (.int .u64)) .nil)))))), (2, .c (.ipc tL)), (4, .c (.hole (.int .u64)))] [(3, .loop .ready none 2 [(1, .c (.ipcs (.cons (.hole (.list (.prod tI tL))) (.cons (.ifcs 132 false (.cons (.hole (.list (.ifc 55 true (.prod tI tL)))) .nil)) (.cons (.hole tI) (.cons (.hole (.int .u64)) .nil)))))), (2, .c (.ptr 0 0)), (3, hI), (4, .c (.ptr 1 0)), (7, .fn 102 [] [.ipcs (.cons (.hole (.list (.prod tI tL))) (.cons (.ifcs 132 false (.cons (.hole (.list (.ifc 55 true (.prod tI tL)))) .nil)) (.cons (.hole tI) (.cons (.hole (.int .u64)) .nil)))), .ipc tL])] [8] (.reg [.op (some 5) none (.mv (.t 8))]) (.block 1 (.seq (.reg [.op (some 9) none (.mv (.t 5)), .op (some 10) none (.load false 1 (.t 2)), .call (some 11) none (.c (.fn 73 [] [])) [.t 9, .t 10] [some (.int .u64), some tI], .op (some 12) none (.mv (.t 11)), .op (some 13) (some (12, true)) (.load true 4 (.t 1)), .op (some 14) (some (12, true)) (.mv (.t 5)), .call (some 15) (some (12, true)) (.c (.fn 89 [] [])) [.t 13, .t 14] [some (.prod (.prod (.list (.prod tI tL)) .unit) (.prod (.ifc 55 true (.prod tI tL)) (.prod tI (.int .u64)))), some (.int .u64)], .op (some 16) none (.pick (.t 12) (.t 15) (.c (.tf false)))]) (.cond (.t 16) (.reg [.op none none (.store 1 (.t 4) (.c (.int .i64 (Int.ofNat 0))))]) .skip))) 47), (2, .dfr), (0, .cells [.hole tI] false), (1, .cells [.hole tI] false)] [] []
@[reducible] def x88_v1_0i_0 : Outs := [(.exit 0, Pat.mk [] [(0, .cells [.hole tI] false), (1, .cells [.hole tI] false), (2, .dfr), (3, .loop .ready none 2 [(1, .c (.ipcs (.cons (.hole (.list (.prod tI tL))) (.cons (.ifcs 132 false (.cons (.hole (.list (.ifc 55 true (.prod tI tL)))) .nil)) (.cons (.hole tI) (.cons (.hole (.int .u64)) .nil)))))), (2, .c (.ptr 0 0)), (3, hI), (4, .c (.ptr 1 0)), (7, .fn 102 [] [.ipcs (.cons (.hole (.list (.prod tI tL))) (.cons (.ifcs 132 false (.cons (.hole (.list (.ifc 55 true (.prod tI tL)))) .nil)) (.cons (.hole tI) (.cons (.hole (.int .u64)) .nil)))), .ipc tL])] [8] (.reg [.op (some 5) none (.mv (.t 8))]) (.block 1 (.seq (.reg [.op (some 9) none (.mv (.t 5)), .op (some 10) none (.load false 1 (.t 2)), .call (some 11) none (.c (.fn 73 [] [])) [.t 9, .t 10] [some (.int .u64), some tI], .op (some 12) none (.mv (.t 11)), .op (some 13) (some (12, true)) (.load true 4 (.t 1)), .op (some 14) (some (12, true)) (.mv (.t 5)), .call (some 15) (some (12, true)) (.c (.fn 89 [] [])) [.t 13, .t 14] [some (.prod (.prod (.list (.prod tI tL)) .unit) (.prod (.ifc 55 true (.prod tI tL)) (.prod tI (.int .u64)))), some (.int .u64)], .op (some 16) none (.pick (.t 12) (.t 15) (.c (.tf false)))]) (.cond (.t 16) (.reg [.op none none (.store 1 (.t 4) (.c (.int .i64 (Int.ofNat 0))))]) .skip))) 47)] [] [])]
noncomputable def b88_v1_0i_0 : D prog 22 none 4 := dO [] (pick (kd prog f102) [(0, false)]) 0
noncomputable def g88_v1_0i_0 : (List (Int × List Int)) × (List (Int × List Int)) × Int × Int × List Int × Int × (List (Int × List Int)) × (List (Int × List Int)) × Int × Int × Int × (List (Int × List Int)) × (List (Int × List Int)) × Int × Int × List Int × Int × Int × Unit → Tr0 (((List (Int × List Int)) × (List (Int × List Int)) × Int × Int × List Int × Int × (List (Int × List Int)) × (List (Int × List Int)) × Int × Int × Int × (List (Int × List Int)) × (List (Int × List Int)) × Int × Int × List Int × Int × Int × Unit) ⊕ ((Int × Int × (List (Int × List Int)) × (List (Int × List Int)) × Int × Int × Int × (List (Int × List Int)) × (List (Int × List Int)) × Int × Int × List Int × Unit))) := fun (v1c0, v1c1c0, v1c2, v1c3, v2, v4, w1c0, w1c1c0, w1c2, w1c3, w3, w7_0c0, w7_0c1c0, w7_0c2, w7_0c3, w7_1, c0_0, c1_0, _) =>
 .br (decide (v4 ≤ v1c3)) (
 .bd (F90 v4 v2) fun y1 =>
 .br (v4 == y1.1) (
 .bd (F73 v4 c0_0) fun y2 =>
 .br y2.1 (
 .bd (F89_v1 w1c0 w1c1c0 w1c2 w1c3 v4) fun y3 =>
 .br y3.1 (
 .nd (rng .u64 (v4 + (1 : Int))) <|
 .ret (.inl (v1c0, (v1c1c0, (v1c2, (v1c3, (v2, ((v4 + (1 : Int)), (w1c0, (w1c1c0, (w1c2, (w1c3, (w3, (w7_0c0, (w7_0c1c0, (w7_0c2, (w7_0c3, (w7_1, (c0_0, ((0 : Int), ())))))))))))))))))))) (
 .nd (rng .u64 (v4 + (1 : Int))) <|
 .ret (.inl (v1c0, (v1c1c0, (v1c2, (v1c3, (v2, ((v4 + (1 : Int)), (w1c0, (w1c1c0, (w1c2, (w1c3, (w3, (w7_0c0, (w7_0c1c0, (w7_0c2, (w7_0c3, (w7_1, (c0_0, (c1_0, ()))))))))))))))))))))) (
 .nd (rng .u64 (v4 + (1 : Int))) <|
 .ret (.inl (v1c0, (v1c1c0, (v1c2, (v1c3, (v2, ((v4 + (1 : Int)), (w1c0, (w1c1c0, (w1c2, (w1c3, (w3, (w7_0c0, (w7_0c1c0, (w7_0c2, (w7_0c3, (w7_1, (c0_0, (c1_0, ()))))))))))))))))))))) (
 .nd (rng .u64 (v4 + (1 : Int))) <|
 .ret (.inl (v1c0, (v1c1c0, (v1c2, (v1c3, (v2, ((v4 + (1 : Int)), (w1c0, (w1c1c0, (w1c2, (w1c3, (w3, (w7_0c0, (w7_0c1c0, (w7_0c2, (w7_0c3, (w7_1, (c0_0, (c1_0, ()))))))))))))))))))))) (
 .ret (.inr (c0_0, (c1_0, (w1c0, (w1c1c0, (w1c2, (w1c3, (w3, (w7_0c0, (w7_0c1c0, (w7_0c2, (w7_0c3, (w7_1, ()))))))))))))))
theorem s88_v1_0i_0 : ∀ x, roundE (kzO (p88_v1_0i_0.T ⊕ x88_v1_0i_0.T)) cx88_v1_0i ar0 [0, 1, 2, 3] p88_v1_0i_0 x88_v1_0i_0 (b88_v1_0i_0) (fun y => some (.inl y)) (fun b => some (.inr b)) x = run0 (g88_v1_0i_0 x) := fun x => by kernel_rfl
noncomputable def L88_v1_0i_0 : LoopS prog 22 none 4 := mkLoop mixed cx88_v1_0i cx88_v1_0i_ok [0, 1, 2, 3] rfl p88_v1_0i_0 x88_v1_0i_0 rfl (b88_v1_0i_0) (fun x => run0 (g88_v1_0i_0 x)) (s88_v1_0i_0)
@[reducible] def p88_v1_0 : Pat := Pat.mk [(1, .c (.ipcs (.cons (.hole (.list (.prod tI tL))) (.cons (.ifcs 132 false (.cons (.hole (.list (.ifc 55 true (.prod tI tL)))) .nil)) (.cons (.hole tI) (.cons (.hole (.int .u64)) .nil)))))), (2, .c (.ptr 0 0)), (3, hI), (4, .c (.ptr 1 0)), (7, .fn 102 [] [.ipcs (.cons (.hole (.list (.prod tI tL))) (.cons (.ifcs 132 false (.cons (.hole (.list (.ifc 55 true (.prod tI tL)))) .nil)) (.cons (.hole tI) (.cons (.hole (.int .u64)) .nil)))), .ipc tL])] [(0, .cells [.hole tI] false), (1, .cells [.hole tI] false)] [.slot 2, .slot 4] []
@[reducible] def x88_v1_0 : Outs := [(.normal, Pat.mk [(1, .c (.ipcs (.cons (.hole (.list (.prod tI tL))) (.cons (.ifcs 132 false (.cons (.hole (.list (.ifc 55 true (.prod tI tL)))) .nil)) (.cons (.hole tI) (.cons (.hole (.int .u64)) .nil)))))), (2, .c (.ptr 0 0)), (4, .c (.ptr 1 0))] [(0, .cells [.hole tI] false), (1, .cells [.hole tI] false), (2, .dfr)] [.slot 2, .slot 4, .mark 0] [2])]
noncomputable def b88_v1_0i : D prog 22 none 4 := dO [.l L88_v1_0i_0] (kd prog f102) 0
theorem ci88_v1_0 : trF prog f102 = some ⟨22, 3, (b88_v1_0i).er, [], []⟩ := by kernel_rfl
noncomputable def g88_v1_0 : (List (Int × List Int)) × (List (Int × List Int)) × Int × Int × Int × (List (Int × List Int)) × (List (Int × List Int)) × Int × Int × List Int × Int × Int × Unit → Tr0 (((List (Int × List Int)) × (List (Int × List Int)) × Int × Int × Int × Int × Unit)) := fun (v1c0, v1c1c0, v1c2, v1c3, v3, v7_0c0, v7_0c1c0, v7_0c2, v7_0c3, v7_1, c0_0, c1_0, _) =>
 .bd (.it g88_v1_0i_0 (v7_0c0, (v7_0c1c0, (v7_0c2, (v7_0c3, (v7_1, ((0 : Int), (v1c0, (v1c1c0, (v1c2, (v1c3, (v3, (v7_0c0, (v7_0c1c0, (v7_0c2, (v7_0c3, (v7_1, (c0_0, (c1_0, ()))))))))))))))))))) fun z4 =>
 .ret ((v1c0, (v1c1c0, (v1c2, (v1c3, (z4.1, (z4.2.1, ())))))))
theorem s88_v1_0 : ∀ x, rangeE (N := 47) (out := none) (base := 0) (kzO x88_v1_0.T) cx88_v1_0i ar0 [] p88_v1_0 x88_v1_0 ( .t 7) [8] (ad88_v1_0).er (bd88_v1_0).er [] 3 102 (b88_v1_0i) some x = run0 (g88_v1_0 x) := fun x => by kernel_rfl
noncomputable def R88_v1_0 : RangeS prog 47 none 0 := mkRange mixed cx88_v1_0i cx88_v1_0i_ok [] rfl p88_v1_0 x88_v1_0 ( .t 7) [8] rfl (ad88_v1_0).er (bd88_v1_0).er 102 func102 (ci88_v1_0) (enters_of func102 rfl rfl) 4 rfl (b88_v1_0i) rfl (fun x => run0 (g88_v1_0 x)) (s88_v1_0)
noncomputable def dd88_v1 : D prog 47 none 0 := dO [.r R88_v1_0] (kd prog f88) 0
noncomputable def F88_v1 (a0 : Int) (a1c0 : List (Int × List Int)) (a1c1c0 : List (Int × List Int)) (a1c2 : Int) (a1c3 : Int) : Tr0 (Int × Unit) :=
 .bd (F82_v1 a1c0 a1c1c0 a1c2 a1c3 []) fun y0 =>
 .bd (g88_v1_0 (a1c0, (a1c1c0, (a1c2, (a1c3, ((0 : Int), (y0.1, (y0.2.1, (y0.2.2.1, (y0.2.2.2.1, (y0.2.2.2.2.1, (a0, ((1 : Int), ()))))))))))))) fun z5 =>
 .jx (
 .bd (F83 z5.2.1 z5.2.2.2.1) fun y10 =>
 .br y10.1 (
 .bd (F90 z5.2.2.2.1 ((((z5.2.2.2.2.1 :: [])).drop (0 : Nat)).take (1 : Nat))) fun y11 =>
 .bd (F83 z5.2.1 y11.1) fun y12 =>
 .br (!y12.1) (
 .ni (z5.2.2.2.2.2.1 + (2 : Int)) <|
 .ret (.inl (z5.1, (z5.2.1, (z5.2.2.1, (z5.2.2.2.1, (z5.2.2.2.2.1, ((z5.2.2.2.2.2.1 + (2 : Int)), ())))))))) (
 .ret (.inl (z5.1, (z5.2.1, (z5.2.2.1, (z5.2.2.2.1, (z5.2.2.2.2.1, (z5.2.2.2.2.2.1, ()))))))))) (
 .ret (.inl (z5.1, (z5.2.1, (z5.2.2.1, (z5.2.2.2.1, (z5.2.2.2.2.1, (z5.2.2.2.2.2.1, ()))))))))) fun j9 =>
 .bd (F74 (0 : Int) j9.2.2.2.2.1) fun y13 =>
 .bd (F83 j9.2.1 y13.1) fun y14 =>
 .br y14.1 (
 .ni (j9.2.2.2.2.2.1 + (4 : Int)) <|
 .ret ((j9.2.2.2.2.2.1 + (4 : Int)), ())) (
 .ret (j9.2.2.2.2.2.1, ()))
theorem c88_v1_ok : trF prog f88 = some ⟨47, 2, dd88_v1.er, [.t 3], [some tI]⟩ := by kernel_rfl
noncomputable def ct88_v1 : Ct := ⟨88, [hI, .c (.ipcs (.cons (.hole (.list (.prod tI tL))) (.cons (.ifcs 132 false (.cons (.hole (.list (.ifc 55 true (.prod tI tL)))) .nil)) (.cons (.hole tI) (.cons (.hole (.int .u64)) .nil)))))], hI, fun x => run0 (F88_v1 x.1 x.2.1 x.2.2.1 x.2.2.2.1 x.2.2.2.2.1)⟩
theorem ct88_v1_ok : ct88_v1.Ok prog := ct_ok mixed cx88_v1_ok func88 c88_v1_ok (enters_of func88 rfl rfl) dd88_v1 (by kernel_rfl) rfl (fun x => Eq.trans (b := run0 (flat (F88_v1 x.1 x.2.1 x.2.2.1 x.2.2.2.1 x.2.2.2.2.1))) (by kernel_rfl) run_flat)

/- 87 -/
noncomputable def cx87_v1 : Cx := mkCxH [ct88_v1] []
theorem cx87_v1_ok : cx87_v1.Ok prog := mkCxH_ok ⟨ct88_v1_ok, trivial⟩ trivial
@[reducible] def p87_v1_0 : Pat := Pat.mk [(1, .fn 88 [] [.ipcs (.cons (.hole (.list (.prod tI tL))) (.cons (.ifcs 132 false (.cons (.hole (.list (.ifc 55 true (.prod tI tL)))) .nil)) (.cons (.hole tI) (.cons (.hole (.int .u64)) .nil))))]), (5, .c (.sl0 0 tI)), (8, hI), (9, hI)] [(0, .arr tI false)] [.slot 5] []
@[reducible] def x87_v1_0 : Outs := [(.exit 0, Pat.mk [(5, .c (.sl0 0 tI))] [(0, .arr tI false)] [.slot 5] [])]
noncomputable def b87_v1_0 : D prog 20 none 0 := dO [] (pick (kd prog f87) [(0, false)]) 0
noncomputable def g87_v1_0 : (List (Int × List Int)) × (List (Int × List Int)) × Int × Int × Nat × Int × Int × List Int × Unit → Tr0 (((List (Int × List Int)) × (List (Int × List Int)) × Int × Int × Nat × Int × Int × List Int × Unit) ⊕ ((Nat × List Int × Unit))) := fun (v1_0c0, v1_0c1c0, v1_0c2, v1_0c3, nv5, v8, v9, b0, _) =>
 .br (decide (v9 < v8)) (
 .bd (F88_v1 v9 v1_0c0 v1_0c1c0 v1_0c2 v1_0c3) fun y0 =>
 .nd (decide ((nv5 + (((((y0.1 :: [])).drop (0 : Nat)).take (1 : Nat))).length) < bigL)) <|
 .ni (v9 + (1 : Int)) <|
 .ret (.inl (v1_0c0, (v1_0c1c0, (v1_0c2, (v1_0c3, ((nv5 + (((((y0.1 :: [])).drop (0 : Nat)).take (1 : Nat))).length), (v8, ((v9 + (1 : Int)), (((((b0).drop (0 : Nat)).take nv5) ++ ((((y0.1 :: [])).drop (0 : Nat)).take (1 : Nat))), ())))))))))) (
 .ret (.inr (nv5, (b0, ()))))
theorem s87_v1_0 : ∀ x, roundE (kzO (p87_v1_0.T ⊕ x87_v1_0.T)) cx87_v1 ar0 [] p87_v1_0 x87_v1_0 (b87_v1_0) (fun y => some (.inl y)) (fun b => some (.inr b)) x = run0 (g87_v1_0 x) := fun x => by kernel_rfl
noncomputable def L87_v1_0 : LoopS prog 20 none 0 := mkLoop mixed cx87_v1 cx87_v1_ok [] rfl p87_v1_0 x87_v1_0 rfl (b87_v1_0) (fun x => run0 (g87_v1_0 x)) (s87_v1_0)
noncomputable def dd87_v1 : D prog 20 none 0 := dO [.l L87_v1_0] (kd prog f87) 0
noncomputable def F87_v1 (a0_0 : List (Int × List Int)) (a0_1c0 : List (Int × List Int)) (a0_2 : Int) (a0_3 : Int) (a1_0c0 : List (Int × List Int)) (a1_0c1c0 : List (Int × List Int)) (a1_0c2 : Int) (a1_0c3 : Int) : Tr0 (List Int × Unit) :=
 .bd (.it g87_v1_0 (a1_0c0, (a1_0c1c0, (a1_0c2, (a1_0c3, ((0 : Nat), (a0_2, ((0 : Int), ([], ()))))))))) fun z1 =>
 .ret ((((z1.2.1).drop (0 : Nat)).take z1.1), ())
theorem c87_v1_ok : trF prog f87 = some ⟨20, 2, dd87_v1.er, [.t 4], [some tL]⟩ := by kernel_rfl
noncomputable def ct87_v1 : Ct := ⟨87, [.agg [.hole (.list (.prod tI tL)), .ifcs 132 false (.cons (.hole (.list (.ifc 55 true (.prod tI tL)))) .nil), .hole tI, .hole (.int .u64)], .fn 88 [] [.ipcs (.cons (.hole (.list (.prod tI tL))) (.cons (.ifcs 132 false (.cons (.hole (.list (.ifc 55 true (.prod tI tL)))) .nil)) (.cons (.hole tI) (.cons (.hole (.int .u64)) .nil))))]], hL, fun x => run0 (F87_v1 x.1 x.2.1 x.2.2.1 x.2.2.2.1 x.2.2.2.2.1 x.2.2.2.2.2.1 x.2.2.2.2.2.2.1 x.2.2.2.2.2.2.2.1)⟩
theorem ct87_v1_ok : ct87_v1.Ok prog := ct_ok mixed cx87_v1_ok func87 c87_v1_ok (enters_of func87 rfl rfl) dd87_v1 (by kernel_rfl) rfl (fun x => by kernel_rfl)

/- 37 -/
noncomputable def cx37 : Cx := mkCxH [ct66, ct87, ct87_v1] []
theorem cx37_ok : cx37.Ok prog := mkCxH_ok ⟨ct66_ok, ct87_ok, ct87_v1_ok, trivial⟩ trivial
noncomputable def dd37 : D prog 17 none 0 := dO [] (kd prog f37) 0
noncomputable def F37 (a0_0 : List (Int × List Int)) : Tr0 (List Int × Int × Unit) :=
 .bd (F66 a0_0) fun y0 =>
 .sm y0 (fun y1 =>
 .br (!(y1.2.2.2.1 == (0 : Int))) (
 .ret ([], (y1.2.2.2.1, ()))) (
 .bd (F87 y1.1 y1.2.1 y1.2.2.1 y1.1 y1.2.1 y1.2.2.1) fun y2 =>
 .ret (y2.1, ((0 : Int), ())))) fun y3 =>
 .br (!(y3.2.2.2.2.1 == (0 : Int))) (
 .ret ([], (y3.2.2.2.2.1, ()))) (
 .bd (F87_v1 y3.1 y3.2.1 y3.2.2.1 y3.2.2.2.1 y3.1 y3.2.1 y3.2.2.1 y3.2.2.2.1) fun y4 =>
 .ret (y4.1, ((0 : Int), ())))
theorem c37_ok : trF prog f37 = some ⟨17, 1, dd37.er, [.t 2, .t 3], [some tL, some tI]⟩ := by kernel_rfl
noncomputable def ct37 : Ct := ⟨37, [.agg [.hole (.list (.prod tI tL))]], .tup [.hole tL, .hole tI], fun x => run0 (F37 x.1)⟩
theorem ct37_ok : ct37.Ok prog := ct_ok mixed cx37_ok func37 c37_ok (enters_of func37 rfl rfl) dd37 (by kernel_rfl) rfl (fun x => by kernel_rfl)

/- 98 -/
noncomputable def cx98 : Cx := mkCxH [ct82, ct90] []
theorem cx98_ok : cx98.Ok prog := mkCxH_ok ⟨ct82_ok, ct90_ok, trivial⟩ trivial
noncomputable def ad98_0 : D prog 34 (some 3) 4 := dO [] (pick (kd prog f98) [(0, false)]) 0
noncomputable def bd98_0 : D prog 34 (some 3) 4 := dO [] (pick (kd prog f98) [(0, true)]) 0
noncomputable def cx98_0i : Cx := itCx cx98 (fun kz => rdK kz cx98 ar0 3 4 [11] (ad98_0) (bd98_0))
theorem cx98_0i_ok : (cx98_0i).Ok prog := itCx_ok cx98_ok (fun h => rdK_ok mixed cx98_ok h)
@[reducible] def p98_0i_0 : Pat := Pat.mk [(0, .c (.yl 3)), (1, .c (.ipcs (.cons (.hole (.list (.prod tI tL))) (.cons .nili (.cons (.hole tI) (.cons (.hole (.int .u64)) .nil)))))), (2, .c (.ipc tL)), (4, .c (.hole (.int .u64)))] [(3, .loop .ready none 2 [(1, .c (.ipcs (.cons (.hole (.list (.prod tI tL))) (.cons .nili (.cons (.hole tI) (.cons (.hole (.int .u64)) .nil)))))), (2, .c (.ipcs (.cons (.fn0 59) .nil))), (3, .c (.ptr 0 0)), (4, hI), (5, .c (.ptr 1 0)), (10, .fn 102 [] [.ipcs (.cons (.hole (.list (.prod tI tL))) (.cons .nili (.cons (.hole tI) (.cons (.hole (.int .u64)) .nil)))), .ipc tL])] [11] (.reg [.op (some 6) none (.mv (.t 11))]) (.block 1 (.seq (.draw [[], [0], [], [0, 1, 2], [0, 1, 2, 3], [0, 1, 2, 3, 4], [0, 1, 2, 3, 4, 5], [0, 1, 2, 3, 4, 5, 6], [0, 1, 2, 3, 4, 5], [0, 1, 2, 3, 4, 5], [0, 1, 2, 3, 4, 5, 8, 9], [0, 1, 2, 3, 4, 5, 6, 7], [0, 1, 2, 3, 4, 5, 6, 7, 11], [0, 1, 2, 3, 4, 5, 6, 7, 8, 9, 10, 11, 12], [0, 1, 2, 3, 4, 5, 6, 7, 8, 9, 10, 11, 12, 13]] [.op (some 12) none (.fld 1 [true, false] (.t 1)), .op (some 13) none (.load false 1 (.t 12)), .op (some 14) none (.mv (.t 6)), .call (some 15) none (.m 13 [(55, 84), (132, 83)]) [.t 14] [some (.int .u64)], .op (some 16) none (.not (.t 15)), .op (some 17) none (.mv (.t 16)), .op (some 18) (some (17, true)) (.fld 1 [true, false] (.t 1)), .op (some 19) (some (17, true)) (.load false 1 (.t 18)), .op (some 20) (some (17, true)) (.mv (.t 6)), .op (some 21) (some (17, true)) (.load false 1 (.t 3)), .call (some 22) (some (17, true)) (.c (.fn 74 [] [])) [.t 20, .t 21] [some (.int .u64), some tI], .op (some 23) (some (17, true)) (.ex Xop.nchk [.t 19]), .op (some 24) (some (17, true)) (.mv (.t 19)), .call (some 25) (some (17, true)) (.m 24 [(55, 84), (132, 83)]) [.t 22] [some (.int .u64)], .op (some 26) none (.pick (.t 17) (.t 25) (.c (.tf false)))]) (.cond (.t 26) (.draw [[], [], [], [], [1, 2, 3], [0, 1, 2, 3, 4], [0, 1, 2, 3, 4, 5]] [.op (some 27) none (.load false 1 (.t 5)), .op (some 28) none (.load false 1 (.t 2)), .op (some 29) none (.load true 4 (.t 1)), .op (some 30) none (.mv (.t 6)), .call (some 31) none (.t 28) [.t 29, .t 30] [some (.prod (.prod (.list (.prod tI tL)) .unit) (.prod (.ifc 55 true (.prod tI tL)) (.prod tI (.int .u64)))), some (.int .u64)], .op (some 32) none (.bin .add (.t 27) (.t 31)), .op none none (.store 1 (.t 5) (.t 32))]) .skip))) 34), (2, .dfr), (0, .cells [.hole tI] false), (1, .cells [.hole tI] false)] [] []
@[reducible] def x98_0i_0 : Outs := [(.exit 0, Pat.mk [] [(0, .cells [.hole tI] false), (1, .cells [.hole tI] false), (2, .dfr), (3, .loop .ready none 2 [(1, .c (.ipcs (.cons (.hole (.list (.prod tI tL))) (.cons .nili (.cons (.hole tI) (.cons (.hole (.int .u64)) .nil)))))), (2, .c (.ipcs (.cons (.fn0 59) .nil))), (3, .c (.ptr 0 0)), (4, hI), (5, .c (.ptr 1 0)), (10, .fn 102 [] [.ipcs (.cons (.hole (.list (.prod tI tL))) (.cons .nili (.cons (.hole tI) (.cons (.hole (.int .u64)) .nil)))), .ipc tL])] [11] (.reg [.op (some 6) none (.mv (.t 11))]) (.block 1 (.seq (.draw [[], [0], [], [0, 1, 2], [0, 1, 2, 3], [0, 1, 2, 3, 4], [0, 1, 2, 3, 4, 5], [0, 1, 2, 3, 4, 5, 6], [0, 1, 2, 3, 4, 5], [0, 1, 2, 3, 4, 5], [0, 1, 2, 3, 4, 5, 8, 9], [0, 1, 2, 3, 4, 5, 6, 7], [0, 1, 2, 3, 4, 5, 6, 7, 11], [0, 1, 2, 3, 4, 5, 6, 7, 8, 9, 10, 11, 12], [0, 1, 2, 3, 4, 5, 6, 7, 8, 9, 10, 11, 12, 13]] [.op (some 12) none (.fld 1 [true, false] (.t 1)), .op (some 13) none (.load false 1 (.t 12)), .op (some 14) none (.mv (.t 6)), .call (some 15) none (.m 13 [(55, 84), (132, 83)]) [.t 14] [some (.int .u64)], .op (some 16) none (.not (.t 15)), .op (some 17) none (.mv (.t 16)), .op (some 18) (some (17, true)) (.fld 1 [true, false] (.t 1)), .op (some 19) (some (17, true)) (.load false 1 (.t 18)), .op (some 20) (some (17, true)) (.mv (.t 6)), .op (some 21) (some (17, true)) (.load false 1 (.t 3)), .call (some 22) (some (17, true)) (.c (.fn 74 [] [])) [.t 20, .t 21] [some (.int .u64), some tI], .op (some 23) (some (17, true)) (.ex Xop.nchk [.t 19]), .op (some 24) (some (17, true)) (.mv (.t 19)), .call (some 25) (some (17, true)) (.m 24 [(55, 84), (132, 83)]) [.t 22] [some (.int .u64)], .op (some 26) none (.pick (.t 17) (.t 25) (.c (.tf false)))]) (.cond (.t 26) (.draw [[], [], [], [], [1, 2, 3], [0, 1, 2, 3, 4], [0, 1, 2, 3, 4, 5]] [.op (some 27) none (.load false 1 (.t 5)), .op (some 28) none (.load false 1 (.t 2)), .op (some 29) none (.load true 4 (.t 1)), .op (some 30) none (.mv (.t 6)), .call (some 31) none (.t 28) [.t 29, .t 30] [some (.prod (.prod (.list (.prod tI tL)) .unit) (.prod (.ifc 55 true (.prod tI tL)) (.prod tI (.int .u64)))), some (.int .u64)], .op (some 32) none (.bin .add (.t 27) (.t 31)), .op none none (.store 1 (.t 5) (.t 32))]) .skip))) 34)] [] [])]
noncomputable def b98_0i_0 : D prog 22 none 4 := dO [] (pick (kd prog f102) [(0, false)]) 0
noncomputable def g98_0i_0 : (List (Int × List Int)) × Int × Int × List Int × Int × (List (Int × List Int)) × Int × Int × Int × (List (Int × List Int)) × Int × Int × List Int × Int × Int × Unit → Tr0 (((List (Int × List Int)) × Int × Int × List Int × Int × (List (Int × List Int)) × Int × Int × Int × (List (Int × List Int)) × Int × Int × List Int × Int × Int × Unit) ⊕ ((Int × Int × (List (Int × List Int)) × Int × Int × Int × (List (Int × List Int)) × Int × Int × List Int × Unit))) := fun (v1c0, v1c2, v1c3, v2, v4, w1c0, w1c2, w1c3, w4, w10_0c0, w10_0c2, w10_0c3, w10_1, c0_0, c1_0, _) =>
 .br (decide (v4 ≤ v1c3)) (
 .bd (F90 v4 v2) fun y1 =>
 .br (v4 == y1.1) (
 .no) (
 .nd (rng .u64 (v4 + (1 : Int))) <|
 .ret (.inl (v1c0, (v1c2, (v1c3, (v2, ((v4 + (1 : Int)), (w1c0, (w1c2, (w1c3, (w4, (w10_0c0, (w10_0c2, (w10_0c3, (w10_1, (c0_0, (c1_0, ())))))))))))))))))) (
 .ret (.inr (c0_0, (c1_0, (w1c0, (w1c2, (w1c3, (w4, (w10_0c0, (w10_0c2, (w10_0c3, (w10_1, ()))))))))))))
theorem s98_0i_0 : ∀ x, roundE (kzO (p98_0i_0.T ⊕ x98_0i_0.T)) cx98_0i ar0 [0, 1, 2, 3] p98_0i_0 x98_0i_0 (b98_0i_0) (fun y => some (.inl y)) (fun b => some (.inr b)) x = run0 (g98_0i_0 x) := fun x => by kernel_rfl
noncomputable def L98_0i_0 : LoopS prog 22 none 4 := mkLoop mixed cx98_0i cx98_0i_ok [0, 1, 2, 3] rfl p98_0i_0 x98_0i_0 rfl (b98_0i_0) (fun x => run0 (g98_0i_0 x)) (s98_0i_0)
@[reducible] def p98_0 : Pat := Pat.mk [(1, .c (.ipcs (.cons (.hole (.list (.prod tI tL))) (.cons .nili (.cons (.hole tI) (.cons (.hole (.int .u64)) .nil)))))), (2, .c (.ipcs (.cons (.fn0 59) .nil))), (3, .c (.ptr 0 0)), (4, hI), (5, .c (.ptr 1 0)), (10, .fn 102 [] [.ipcs (.cons (.hole (.list (.prod tI tL))) (.cons .nili (.cons (.hole tI) (.cons (.hole (.int .u64)) .nil)))), .ipc tL])] [(0, .cells [.hole tI] false), (1, .cells [.hole tI] false)] [.slot 3, .slot 5] []
@[reducible] def x98_0 : Outs := [(.normal, Pat.mk [(5, .c (.ptr 0 0))] [(0, .cells [.hole tI] false), (1, .dfr)] [.slot 5, .mark 0] [1])]
noncomputable def b98_0i : D prog 22 none 4 := dO [.l L98_0i_0] (kd prog f102) 0
theorem ci98_0 : trF prog f102 = some ⟨22, 3, (b98_0i).er, [], []⟩ := by kernel_rfl
noncomputable def g98_0 : (List (Int × List Int)) × Int × Int × Int × (List (Int × List Int)) × Int × Int × List Int × Int × Int × Unit → Tr0 ((Int × Unit)) := fun (v1c0, v1c2, v1c3, v4, v10_0c0, v10_0c2, v10_0c3, v10_1, c0_0, c1_0, _) =>
 .bd (.it g98_0i_0 (v10_0c0, (v10_0c2, (v10_0c3, (v10_1, ((0 : Int), (v1c0, (v1c2, (v1c3, (v4, (v10_0c0, (v10_0c2, (v10_0c3, (v10_1, (c0_0, (c1_0, ())))))))))))))))) fun z2 =>
 .ret ((z2.2.1, ()))
theorem s98_0 : ∀ x, rangeE (N := 34) (out := none) (base := 0) (kzO x98_0.T) cx98_0i ar0 [] p98_0 x98_0 ( .t 10) [11] (ad98_0).er (bd98_0).er [] 3 102 (b98_0i) some x = run0 (g98_0 x) := fun x => by kernel_rfl
noncomputable def R98_0 : RangeS prog 34 none 0 := mkRange mixed cx98_0i cx98_0i_ok [] rfl p98_0 x98_0 ( .t 10) [11] rfl (ad98_0).er (bd98_0).er 102 func102 (ci98_0) (enters_of func102 rfl rfl) 4 rfl (b98_0i) rfl (fun x => run0 (g98_0 x)) (s98_0)
noncomputable def dd98 : D prog 34 none 0 := dO [.r R98_0] (kd prog f98) 0
noncomputable def F98 (a0 : Int) (a1c0 : List (Int × List Int)) (a1c2 : Int) (a1c3 : Int) : Tr0 (Int × Unit) :=
 .bd (F82 a1c0 a1c2 a1c3 ((((a0 :: [])).drop (0 : Nat)).take (1 : Nat))) fun y0 =>
 .bd (g98_0 (a1c0, (a1c2, (a1c3, ((0 : Int), (y0.1, (y0.2.1, (y0.2.2.1, (y0.2.2.2.1, (a0, ((0 : Int), ()))))))))))) fun z3 =>
 .ret (z3.1, ())
theorem c98_ok : trF prog f98 = some ⟨34, 3, dd98.er, [.t 4], [some tI]⟩ := by kernel_rfl
noncomputable def ct98 : Ct := ⟨98, [hI, .c (.ipcs (.cons (.hole (.list (.prod tI tL))) (.cons .nili (.cons (.hole tI) (.cons (.hole (.int .u64)) .nil))))), .c (.ipcs (.cons (.fn0 59) .nil))], hI, fun x => run0 (F98 x.1 x.2.1 x.2.2.1 x.2.2.2.1)⟩
theorem ct98_ok : ct98.Ok prog := ct_ok mixed cx98_ok func98 c98_ok (enters_of func98 rfl rfl) dd98 (by kernel_rfl) rfl (fun x => by kernel_rfl)

/- 87 -/
noncomputable def cx87_v2 : Cx := mkCxH [ct98] []
theorem cx87_v2_ok : cx87_v2.Ok prog := mkCxH_ok ⟨ct98_ok, trivial⟩ trivial
@[reducible] def p87_v2_0 : Pat := Pat.mk [(1, .fn 98 [] [.ipcs (.cons (.hole (.list (.prod tI tL))) (.cons .nili (.cons (.hole tI) (.cons (.hole (.int .u64)) .nil)))), .ipcs (.cons (.fn0 59) .nil)]), (5, .c (.sl0 0 tI)), (8, hI), (9, hI)] [(0, .arr tI false)] [.slot 5] []
@[reducible] def x87_v2_0 : Outs := [(.exit 0, Pat.mk [(5, .c (.sl0 0 tI))] [(0, .arr tI false)] [.slot 5] [])]
noncomputable def b87_v2_0 : D prog 20 none 0 := dO [] (pick (kd prog f87) [(0, false)]) 0
noncomputable def g87_v2_0 : (List (Int × List Int)) × Int × Int × Nat × Int × Int × List Int × Unit → Tr0 (((List (Int × List Int)) × Int × Int × Nat × Int × Int × List Int × Unit) ⊕ ((Nat × List Int × Unit))) := fun (v1_0c0, v1_0c2, v1_0c3, nv5, v8, v9, b0, _) =>
 .br (decide (v9 < v8)) (
 .bd (F98 v9 v1_0c0 v1_0c2 v1_0c3) fun y0 =>
 .nd (decide ((nv5 + (((((y0.1 :: [])).drop (0 : Nat)).take (1 : Nat))).length) < bigL)) <|
 .ni (v9 + (1 : Int)) <|
 .ret (.inl (v1_0c0, (v1_0c2, (v1_0c3, ((nv5 + (((((y0.1 :: [])).drop (0 : Nat)).take (1 : Nat))).length), (v8, ((v9 + (1 : Int)), (((((b0).drop (0 : Nat)).take nv5) ++ ((((y0.1 :: [])).drop (0 : Nat)).take (1 : Nat))), ()))))))))) (
 .ret (.inr (nv5, (b0, ()))))
theorem s87_v2_0 : ∀ x, roundE (kzO (p87_v2_0.T ⊕ x87_v2_0.T)) cx87_v2 ar0 [] p87_v2_0 x87_v2_0 (b87_v2_0) (fun y => some (.inl y)) (fun b => some (.inr b)) x = run0 (g87_v2_0 x) := fun x => by kernel_rfl
noncomputable def L87_v2_0 : LoopS prog 20 none 0 := mkLoop mixed cx87_v2 cx87_v2_ok [] rfl p87_v2_0 x87_v2_0 rfl (b87_v2_0) (fun x => run0 (g87_v2_0 x)) (s87_v2_0)
noncomputable def dd87_v2 : D prog 20 none 0 := dO [.l L87_v2_0] (kd prog f87) 0
noncomputable def F87_v2 (a0_0 : List (Int × List Int)) (a0_2 : Int) (a0_3 : Int) (a1_0c0 : List (Int × List Int)) (a1_0c2 : Int) (a1_0c3 : Int) : Tr0 (List Int × Unit) :=
 .bd (.it g87_v2_0 (a1_0c0, (a1_0c2, (a1_0c3, ((0 : Nat), (a0_2, ((0 : Int), ([], ())))))))) fun z1 =>
 .ret ((((z1.2.1).drop (0 : Nat)).take z1.1), ())
theorem c87_v2_ok : trF prog f87 = some ⟨20, 2, dd87_v2.er, [.t 4], [some tL]⟩ := by kernel_rfl
noncomputable def ct87_v2 : Ct := ⟨87, [.agg [.hole (.list (.prod tI tL)), .nili, .hole tI, .hole (.int .u64)], .fn 98 [] [.ipcs (.cons (.hole (.list (.prod tI tL))) (.cons .nili (.cons (.hole tI) (.cons (.hole (.int .u64)) .nil)))), .ipcs (.cons (.fn0 59) .nil)]], hL, fun x => run0 (F87_v2 x.1 x.2.1 x.2.2.1 x.2.2.2.1 x.2.2.2.2.1 x.2.2.2.2.2.1)⟩
theorem ct87_v2_ok : ct87_v2.Ok prog := ct_ok mixed cx87_v2_ok func87 c87_v2_ok (enters_of func87 rfl rfl) dd87_v2 (by kernel_rfl) rfl (fun x => by kernel_rfl)

/- 59 -/
noncomputable def cx59 : Cx := mkCxH [] []
theorem cx59_ok : cx59.Ok prog := mkCxH_ok trivial trivial
noncomputable def dd59 : D prog 5 none 0 := dO [] (kd prog f59) 0
noncomputable def F59 (a0_0 : List (Int × List Int)) (a0_1c0 : List (Int × List Int)) (a0_2 : Int) (a0_3 : Int) (a1 : Int) : Tr0 (Int × Unit) :=
 .ret ((1 : Int), ())
theorem c59_ok : trF prog f59 = some ⟨5, 2, dd59.er, [.t 4], [some tI]⟩ := by kernel_rfl
noncomputable def ct59 : Ct := ⟨59, [.agg [.hole (.list (.prod tI tL)), .ifcs 132 false (.cons (.hole (.list (.ifc 55 true (.prod tI tL)))) .nil), .hole tI, .hole (.int .u64)], .c (.hole (.int .u64))], hI, fun x => run0 (F59 x.1 x.2.1 x.2.2.1 x.2.2.2.1 x.2.2.2.2.1)⟩
theorem ct59_ok : ct59.Ok prog := ct_ok mixed cx59_ok func59 c59_ok (enters_of func59 rfl rfl) dd59 (by kernel_rfl) rfl (fun x => by kernel_rfl)

/- 98 -/
noncomputable def cx98_v1 : Cx := mkCxH [ct82_v1, ct90, ct83, ct74, ct59] []
theorem cx98_v1_ok : cx98_v1.Ok prog := mkCxH_ok ⟨ct82_v1_ok, ct90_ok, ct83_ok, ct74_ok, ct59_ok, trivial⟩ trivial
noncomputable def ad98_v1_0 : D prog 34 (some 3) 4 := dO [] (pick (kd prog f98) [(0, false)]) 0
noncomputable def bd98_v1_0 : D prog 34 (some 3) 4 := dO [] (pick (kd prog f98) [(0, true)]) 0
noncomputable def cx98_v1_0i : Cx := itCx cx98_v1 (fun kz => rdK kz cx98_v1 ar0 3 4 [11] (ad98_v1_0) (bd98_v1_0))
theorem cx98_v1_0i_ok : (cx98_v1_0i).Ok prog := itCx_ok cx98_v1_ok (fun h => rdK_ok mixed cx98_v1_ok h)
@[reducible] def p98_v1_0i_0 : Pat := Pat.mk [(0, .c (.yl 3)), (1, .c (.ipcs (.cons (.hole (.list (.prod tI tL))) (.cons (.ifcs 132 false (.cons (.hole (.list (.ifc 55 true (.prod tI tL)))) .nil)) (.cons (.hole tI) (.cons (.hole (.int .u64)) .nil)))))), (2, .c (.ipc tL)), (4, .c (.hole (.int .u64)))] [(3, .loop .ready none 2 [(1, .c (.ipcs (.cons (.hole (.list (.prod tI tL))) (.cons (.ifcs 132 false (.cons (.hole (.list (.ifc 55 true (.prod tI tL)))) .nil)) (.cons (.hole tI) (.cons (.hole (.int .u64)) .nil)))))), (2, .c (.ipcs (.cons (.fn0 59) .nil))), (3, .c (.ptr 0 0)), (4, hI), (5, .c (.ptr 1 0)), (10, .fn 102 [] [.ipcs (.cons (.hole (.list (.prod tI tL))) (.cons (.ifcs 132 false (.cons (.hole (.list (.ifc 55 true (.prod tI tL)))) .nil)) (.cons (.hole tI) (.cons (.hole (.int .u64)) .nil)))), .ipc tL])] [11] (.reg [.op (some 6) none (.mv (.t 11))]) (.block 1 (.seq (.draw [[], [0], [], [0, 1, 2], [0, 1, 2, 3], [0, 1, 2, 3, 4], [0, 1, 2, 3, 4, 5], [0, 1, 2, 3, 4, 5, 6], [0, 1, 2, 3, 4, 5], [0, 1, 2, 3, 4, 5], [0, 1, 2, 3, 4, 5, 8, 9], [0, 1, 2, 3, 4, 5, 6, 7], [0, 1, 2, 3, 4, 5, 6, 7, 11], [0, 1, 2, 3, 4, 5, 6, 7, 8, 9, 10, 11, 12], [0, 1, 2, 3, 4, 5, 6, 7, 8, 9, 10, 11, 12, 13]] [.op (some 12) none (.fld 1 [true, false] (.t 1)), .op (some 13) none (.load false 1 (.t 12)), .op (some 14) none (.mv (.t 6)), .call (some 15) none (.m 13 [(55, 84), (132, 83)]) [.t 14] [some (.int .u64)], .op (some 16) none (.not (.t 15)), .op (some 17) none (.mv (.t 16)), .op (some 18) (some (17, true)) (.fld 1 [true, false] (.t 1)), .op (some 19) (some (17, true)) (.load false 1 (.t 18)), .op (some 20) (some (17, true)) (.mv (.t 6)), .op (some 21) (some (17, true)) (.load false 1 (.t 3)), .call (some 22) (some (17, true)) (.c (.fn 74 [] [])) [.t 20, .t 21] [some (.int .u64), some tI], .op (some 23) (some (17, true)) (.ex Xop.nchk [.t 19]), .op (some 24) (some (17, true)) (.mv (.t 19)), .call (some 25) (some (17, true)) (.m 24 [(55, 84), (132, 83)]) [.t 22] [some (.int .u64)], .op (some 26) none (.pick (.t 17) (.t 25) (.c (.tf false)))]) (.cond (.t 26) (.draw [[], [], [], [], [1, 2, 3], [0, 1, 2, 3, 4], [0, 1, 2, 3, 4, 5]] [.op (some 27) none (.load false 1 (.t 5)), .op (some 28) none (.load false 1 (.t 2)), .op (some 29) none (.load true 4 (.t 1)), .op (some 30) none (.mv (.t 6)), .call (some 31) none (.t 28) [.t 29, .t 30] [some (.prod (.prod (.list (.prod tI tL)) .unit) (.prod (.ifc 55 true (.prod tI tL)) (.prod tI (.int .u64)))), some (.int .u64)], .op (some 32) none (.bin .add (.t 27) (.t 31)), .op none none (.store 1 (.t 5) (.t 32))]) .skip))) 34), (2, .dfr), (0, .cells [.hole tI] false), (1, .cells [.hole tI] false)] [] []
@[reducible] def x98_v1_0i_0 : Outs := [(.exit 0, Pat.mk [] [(0, .cells [.hole tI] false), (1, .cells [.hole tI] false), (2, .dfr), (3, .loop .ready none 2 [(1, .c (.ipcs (.cons (.hole (.list (.prod tI tL))) (.cons (.ifcs 132 false (.cons (.hole (.list (.ifc 55 true (.prod tI tL)))) .nil)) (.cons (.hole tI) (.cons (.hole (.int .u64)) .nil)))))), (2, .c (.ipcs (.cons (.fn0 59) .nil))), (3, .c (.ptr 0 0)), (4, hI), (5, .c (.ptr 1 0)), (10, .fn 102 [] [.ipcs (.cons (.hole (.list (.prod tI tL))) (.cons (.ifcs 132 false (.cons (.hole (.list (.ifc 55 true (.prod tI tL)))) .nil)) (.cons (.hole tI) (.cons (.hole (.int .u64)) .nil)))), .ipc tL])] [11] (.reg [.op (some 6) none (.mv (.t 11))]) (.block 1 (.seq (.draw [[], [0], [], [0, 1, 2], [0, 1, 2, 3], [0, 1, 2, 3, 4], [0, 1, 2, 3, 4, 5], [0, 1, 2, 3, 4, 5, 6], [0, 1, 2, 3, 4, 5], [0, 1, 2, 3, 4, 5], [0, 1, 2, 3, 4, 5, 8, 9], [0, 1, 2, 3, 4, 5, 6, 7], [0, 1, 2, 3, 4, 5, 6, 7, 11], [0, 1, 2, 3, 4, 5, 6, 7, 8, 9, 10, 11, 12], [0, 1, 2, 3, 4, 5, 6, 7, 8, 9, 10, 11, 12, 13]] [.op (some 12) none (.fld 1 [true, false] (.t 1)), .op (some 13) none (.load false 1 (.t 12)), .op (some 14) none (.mv (.t 6)), .call (some 15) none (.m 13 [(55, 84), (132, 83)]) [.t 14] [some (.int .u64)], .op (some 16) none (.not (.t 15)), .op (some 17) none (.mv (.t 16)), .op (some 18) (some (17, true)) (.fld 1 [true, false] (.t 1)), .op (some 19) (some (17, true)) (.load false 1 (.t 18)), .op (some 20) (some (17, true)) (.mv (.t 6)), .op (some 21) (some (17, true)) (.load false 1 (.t 3)), .call (some 22) (some (17, true)) (.c (.fn 74 [] [])) [.t 20, .t 21] [some (.int .u64), some tI], .op (some 23) (some (17, true)) (.ex Xop.nchk [.t 19]), .op (some 24) (some (17, true)) (.mv (.t 19)), .call (some 25) (some (17, true)) (.m 24 [(55, 84), (132, 83)]) [.t 22] [some (.int .u64)], .op (some 26) none (.pick (.t 17) (.t 25) (.c (.tf false)))]) (.cond (.t 26) (.draw [[], [], [], [], [1, 2, 3], [0, 1, 2, 3, 4], [0, 1, 2, 3, 4, 5]] [.op (some 27) none (.load false 1 (.t 5)), .op (some 28) none (.load false 1 (.t 2)), .op (some 29) none (.load true 4 (.t 1)), .op (some 30) none (.mv (.t 6)), .call (some 31) none (.t 28) [.t 29, .t 30] [some (.prod (.prod (.list (.prod tI tL)) .unit) (.prod (.ifc 55 true (.prod tI tL)) (.prod tI (.int .u64)))), some (.int .u64)], .op (some 32) none (.bin .add (.t 27) (.t 31)), .op none none (.store 1 (.t 5) (.t 32))]) .skip))) 34)] [] [])]
noncomputable def b98_v1_0i_0 : D prog 22 none 4 := dO [] (pick (kd prog f102) [(0, false)]) 0
noncomputable def g98_v1_0i_0 : (List (Int × List Int)) × (List (Int × List Int)) × Int × Int × List Int × Int × (List (Int × List Int)) × (List (Int × List Int)) × Int × Int × Int × (List (Int × List Int)) × (List (Int × List Int)) × Int × Int × List Int × Int × Int × Unit → Tr0 (((List (Int × List Int)) × (List (Int × List Int)) × Int × Int × List Int × Int × (List (Int × List Int)) × (List (Int × List Int)) × Int × Int × Int × (List (Int × List Int)) × (List (Int × List Int)) × Int × Int × List Int × Int × Int × Unit) ⊕ ((Int × Int × (List (Int × List Int)) × (List (Int × List Int)) × Int × Int × Int × (List (Int × List Int)) × (List (Int × List Int)) × Int × Int × List Int × Unit))) := fun (v1c0, v1c1c0, v1c2, v1c3, v2, v4, w1c0, w1c1c0, w1c2, w1c3, w4, w10_0c0, w10_0c1c0, w10_0c2, w10_0c3, w10_1, c0_0, c1_0, _) =>
 .br (decide (v4 ≤ v1c3)) (
 .bd (F90 v4 v2) fun y1 =>
 .br (v4 == y1.1) (
 .bd (F83 w1c1c0 v4) fun y2 =>
 .br (!y2.1) (
 .bd (F74 v4 c0_0) fun y3 =>
 .bd (F83 w1c1c0 y3.1) fun y4 =>
 .br y4.1 (
 .bd (F59 w1c0 w1c1c0 w1c2 w1c3 v4) fun y5 =>
 .ni (c1_0 + y5.1) <|
 .nd (rng .u64 (v4 + (1 : Int))) <|
 .ret (.inl (v1c0, (v1c1c0, (v1c2, (v1c3, (v2, ((v4 + (1 : Int)), (w1c0, (w1c1c0, (w1c2, (w1c3, (w4, (w10_0c0, (w10_0c1c0, (w10_0c2, (w10_0c3, (w10_1, (c0_0, ((c1_0 + y5.1), ())))))))))))))))))))) (
 .nd (rng .u64 (v4 + (1 : Int))) <|
 .ret (.inl (v1c0, (v1c1c0, (v1c2, (v1c3, (v2, ((v4 + (1 : Int)), (w1c0, (w1c1c0, (w1c2, (w1c3, (w4, (w10_0c0, (w10_0c1c0, (w10_0c2, (w10_0c3, (w10_1, (c0_0, (c1_0, ()))))))))))))))))))))) (
 .nd (rng .u64 (v4 + (1 : Int))) <|
 .ret (.inl (v1c0, (v1c1c0, (v1c2, (v1c3, (v2, ((v4 + (1 : Int)), (w1c0, (w1c1c0, (w1c2, (w1c3, (w4, (w10_0c0, (w10_0c1c0, (w10_0c2, (w10_0c3, (w10_1, (c0_0, (c1_0, ()))))))))))))))))))))) (
 .nd (rng .u64 (v4 + (1 : Int))) <|
 .ret (.inl (v1c0, (v1c1c0, (v1c2, (v1c3, (v2, ((v4 + (1 : Int)), (w1c0, (w1c1c0, (w1c2, (w1c3, (w4, (w10_0c0, (w10_0c1c0, (w10_0c2, (w10_0c3, (w10_1, (c0_0, (c1_0, ()))))))))))))))))))))) (
 .ret (.inr (c0_0, (c1_0, (w1c0, (w1c1c0, (w1c2, (w1c3, (w4, (w10_0c0, (w10_0c1c0, (w10_0c2, (w10_0c3, (w10_1, ()))))))))))))))
theorem s98_v1_0i_0 : ∀ x, roundE (kzO (p98_v1_0i_0.T ⊕ x98_v1_0i_0.T)) cx98_v1_0i ar0 [0, 1, 2, 3] p98_v1_0i_0 x98_v1_0i_0 (b98_v1_0i_0) (fun y => some (.inl y)) (fun b => some (.inr b)) x = run0 (g98_v1_0i_0 x) := fun x => by kernel_rfl
noncomputable def L98_v1_0i_0 : LoopS prog 22 none 4 := mkLoop mixed cx98_v1_0i cx98_v1_0i_ok [0, 1, 2, 3] rfl p98_v1_0i_0 x98_v1_0i_0 rfl (b98_v1_0i_0) (fun x => run0 (g98_v1_0i_0 x)) (s98_v1_0i_0)
@[reducible] def p98_v1_0 : Pat := Pat.mk [(1, .c (.ipcs (.cons (.hole (.list (.prod tI tL))) (.cons (.ifcs 132 false (.cons (.hole (.list (.ifc 55 true (.prod tI tL)))) .nil)) (.cons (.hole tI) (.cons (.hole (.int .u64)) .nil)))))), (2, .c (.ipcs (.cons (.fn0 59) .nil))), (3, .c (.ptr 0 0)), (4, hI), (5, .c (.ptr 1 0)), (10, .fn 102 [] [.ipcs (.cons (.hole (.list (.prod tI tL))) (.cons (.ifcs 132 false (.cons (.hole (.list (.ifc 55 true (.prod tI tL)))) .nil)) (.cons (.hole tI) (.cons (.hole (.int .u64)) .nil)))), .ipc tL])] [(0, .cells [.hole tI] false), (1, .cells [.hole tI] false)] [.slot 3, .slot 5] []
@[reducible] def x98_v1_0 : Outs := [(.normal, Pat.mk [(5, .c (.ptr 0 0))] [(0, .cells [.hole tI] false), (1, .dfr)] [.slot 5, .mark 0] [1])]
noncomputable def b98_v1_0i : D prog 22 none 4 := dO [.l L98_v1_0i_0] (kd prog f102) 0
theorem ci98_v1_0 : trF prog f102 = some ⟨22, 3, (b98_v1_0i).er, [], []⟩ := by kernel_rfl
noncomputable def g98_v1_0 : (List (Int × List Int)) × (List (Int × List Int)) × Int × Int × Int × (List (Int × List Int)) × (List (Int × List Int)) × Int × Int × List Int × Int × Int × Unit → Tr0 ((Int × Unit)) := fun (v1c0, v1c1c0, v1c2, v1c3, v4, v10_0c0, v10_0c1c0, v10_0c2, v10_0c3, v10_1, c0_0, c1_0, _) =>
 .bd (.it g98_v1_0i_0 (v10_0c0, (v10_0c1c0, (v10_0c2, (v10_0c3, (v10_1, ((0 : Int), (v1c0, (v1c1c0, (v1c2, (v1c3, (v4, (v10_0c0, (v10_0c1c0, (v10_0c2, (v10_0c3, (v10_1, (c0_0, (c1_0, ()))))))))))))))))))) fun z6 =>
 .ret ((z6.2.1, ()))
theorem s98_v1_0 : ∀ x, rangeE (N := 34) (out := none) (base := 0) (kzO x98_v1_0.T) cx98_v1_0i ar0 [] p98_v1_0 x98_v1_0 ( .t 10) [11] (ad98_v1_0).er (bd98_v1_0).er [] 3 102 (b98_v1_0i) some x = run0 (g98_v1_0 x) := fun x => by kernel_rfl
noncomputable def R98_v1_0 : RangeS prog 34 none 0 := mkRange mixed cx98_v1_0i cx98_v1_0i_ok [] rfl p98_v1_0 x98_v1_0 ( .t 10) [11] rfl (ad98_v1_0).er (bd98_v1_0).er 102 func102 (ci98_v1_0) (enters_of func102 rfl rfl) 4 rfl (b98_v1_0i) rfl (fun x => run0 (g98_v1_0 x)) (s98_v1_0)
noncomputable def dd98_v1 : D prog 34 none 0 := dO [.r R98_v1_0] (kd prog f98) 0
noncomputable def F98_v1 (a0 : Int) (a1c0 : List (Int × List Int)) (a1c1c0 : List (Int × List Int)) (a1c2 : Int) (a1c3 : Int) : Tr0 (Int × Unit) :=
 .bd (F82_v1 a1c0 a1c1c0 a1c2 a1c3 ((((a0 :: [])).drop (0 : Nat)).take (1 : Nat))) fun y0 =>
 .bd (g98_v1_0 (a1c0, (a1c1c0, (a1c2, (a1c3, ((0 : Int), (y0.1, (y0.2.1, (y0.2.2.1, (y0.2.2.2.1, (y0.2.2.2.2.1, (a0, ((0 : Int), ()))))))))))))) fun z7 =>
 .ret (z7.1, ())
theorem c98_v1_ok : trF prog f98 = some ⟨34, 3, dd98_v1.er, [.t 4], [some tI]⟩ := by kernel_rfl
noncomputable def ct98_v1 : Ct := ⟨98, [hI, .c (.ipcs (.cons (.hole (.list (.prod tI tL))) (.cons (.ifcs 132 false (.cons (.hole (.list (.ifc 55 true (.prod tI tL)))) .nil)) (.cons (.hole tI) (.cons (.hole (.int .u64)) .nil))))), .c (.ipcs (.cons (.fn0 59) .nil))], hI, fun x => run0 (F98_v1 x.1 x.2.1 x.2.2.1 x.2.2.2.1 x.2.2.2.2.1)⟩
theorem ct98_v1_ok : ct98_v1.Ok prog := ct_ok mixed cx98_v1_ok func98 c98_v1_ok (enters_of func98 rfl rfl) dd98_v1 (by kernel_rfl) rfl (fun x => by kernel_rfl)

/- 87 -/
noncomputable def cx87_v3 : Cx := mkCxH [ct98_v1] []
theorem cx87_v3_ok : cx87_v3.Ok prog := mkCxH_ok ⟨ct98_v1_ok, trivial⟩ trivial
@[reducible] def p87_v3_0 : Pat := Pat.mk [(1, .fn 98 [] [.ipcs (.cons (.hole (.list (.prod tI tL))) (.cons (.ifcs 132 false (.cons (.hole (.list (.ifc 55 true (.prod tI tL)))) .nil)) (.cons (.hole tI) (.cons (.hole (.int .u64)) .nil)))), .ipcs (.cons (.fn0 59) .nil)]), (5, .c (.sl0 0 tI)), (8, hI), (9, hI)] [(0, .arr tI false)] [.slot 5] []
@[reducible] def x87_v3_0 : Outs := [(.exit 0, Pat.mk [(5, .c (.sl0 0 tI))] [(0, .arr tI false)] [.slot 5] [])]
noncomputable def b87_v3_0 : D prog 20 none 0 := dO [] (pick (kd prog f87) [(0, false)]) 0
noncomputable def g87_v3_0 : (List (Int × List Int)) × (List (Int × List Int)) × Int × Int × Nat × Int × Int × List Int × Unit → Tr0 (((List (Int × List Int)) × (List (Int × List Int)) × Int × Int × Nat × Int × Int × List Int × Unit) ⊕ ((Nat × List Int × Unit))) := fun (v1_0c0, v1_0c1c0, v1_0c2, v1_0c3, nv5, v8, v9, b0, _) =>
 .br (decide (v9 < v8)) (
 .bd (F98_v1 v9 v1_0c0 v1_0c1c0 v1_0c2 v1_0c3) fun y0 =>
 .nd (decide ((nv5 + (((((y0.1 :: [])).drop (0 : Nat)).take (1 : Nat))).length) < bigL)) <|
 .ni (v9 + (1 : Int)) <|
 .ret (.inl (v1_0c0, (v1_0c1c0, (v1_0c2, (v1_0c3, ((nv5 + (((((y0.1 :: [])).drop (0 : Nat)).take (1 : Nat))).length), (v8, ((v9 + (1 : Int)), (((((b0).drop (0 : Nat)).take nv5) ++ ((((y0.1 :: [])).drop (0 : Nat)).take (1 : Nat))), ())))))))))) (
 .ret (.inr (nv5, (b0, ()))))
theorem s87_v3_0 : ∀ x, roundE (kzO (p87_v3_0.T ⊕ x87_v3_0.T)) cx87_v3 ar0 [] p87_v3_0 x87_v3_0 (b87_v3_0) (fun y => some (.inl y)) (fun b => some (.inr b)) x = run0 (g87_v3_0 x) := fun x => by kernel_rfl
noncomputable def L87_v3_0 : LoopS prog 20 none 0 := mkLoop mixed cx87_v3 cx87_v3_ok [] rfl p87_v3_0 x87_v3_0 rfl (b87_v3_0) (fun x => run0 (g87_v3_0 x)) (s87_v3_0)
noncomputable def dd87_v3 : D prog 20 none 0 := dO [.l L87_v3_0] (kd prog f87) 0
noncomputable def F87_v3 (a0_0 : List (Int × List Int)) (a0_1c0 : List (Int × List Int)) (a0_2 : Int) (a0_3 : Int) (a1_0c0 : List (Int × List Int)) (a1_0c1c0 : List (Int × List Int)) (a1_0c2 : Int) (a1_0c3 : Int) : Tr0 (List Int × Unit) :=
 .bd (.it g87_v3_0 (a1_0c0, (a1_0c1c0, (a1_0c2, (a1_0c3, ((0 : Nat), (a0_2, ((0 : Int), ([], ()))))))))) fun z1 =>
 .ret ((((z1.2.1).drop (0 : Nat)).take z1.1), ())
theorem c87_v3_ok : trF prog f87 = some ⟨20, 2, dd87_v3.er, [.t 4], [some tL]⟩ := by kernel_rfl
noncomputable def ct87_v3 : Ct := ⟨87, [.agg [.hole (.list (.prod tI tL)), .ifcs 132 false (.cons (.hole (.list (.ifc 55 true (.prod tI tL)))) .nil), .hole tI, .hole (.int .u64)], .fn 98 [] [.ipcs (.cons (.hole (.list (.prod tI tL))) (.cons (.ifcs 132 false (.cons (.hole (.list (.ifc 55 true (.prod tI tL)))) .nil)) (.cons (.hole tI) (.cons (.hole (.int .u64)) .nil)))), .ipcs (.cons (.fn0 59) .nil)]], hL, fun x => run0 (F87_v3 x.1 x.2.1 x.2.2.1 x.2.2.2.1 x.2.2.2.2.1 x.2.2.2.2.2.1 x.2.2.2.2.2.2.1 x.2.2.2.2.2.2.2.1)⟩
theorem ct87_v3_ok : ct87_v3.Ok prog := ct_ok mixed cx87_v3_ok func87 c87_v3_ok (enters_of func87 rfl rfl) dd87_v3 (by kernel_rfl) rfl (fun x => by kernel_rfl)

/- 58 -/
noncomputable def cx58 : Cx := mkCxH [ct66, ct87_v2, ct87_v3] []
theorem cx58_ok : cx58.Ok prog := mkCxH_ok ⟨ct66_ok, ct87_v2_ok, ct87_v3_ok, trivial⟩ trivial
noncomputable def dd58 : D prog 19 none 0 := dO [] (kd prog f58) 0
noncomputable def F58 (a0_0 : List (Int × List Int)) : Tr0 (List Int × Int × Unit) :=
 .bd (F66 a0_0) fun y0 =>
 .sm y0 (fun y1 =>
 .br (!(y1.2.2.2.1 == (0 : Int))) (
 .ret ([], (y1.2.2.2.1, ()))) (
 .bd (F87_v2 y1.1 y1.2.1 y1.2.2.1 y1.1 y1.2.1 y1.2.2.1) fun y2 =>
 .ret (y2.1, ((0 : Int), ())))) fun y3 =>
 .br (!(y3.2.2.2.2.1 == (0 : Int))) (
 .ret ([], (y3.2.2.2.2.1, ()))) (
 .bd (F87_v3 y3.1 y3.2.1 y3.2.2.1 y3.2.2.2.1 y3.1 y3.2.1 y3.2.2.1 y3.2.2.2.1) fun y4 =>
 .ret (y4.1, ((0 : Int), ())))
theorem c58_ok : trF prog f58 = some ⟨19, 2, dd58.er, [.t 4, .t 5], [some tL, some tI]⟩ := by kernel_rfl
noncomputable def ct58 : Ct := ⟨58, [.agg [.hole (.list (.prod tI tL))], .c (.fn0 59)], .tup [.hole tL, .hole tI], fun x => run0 (F58 x.1)⟩
theorem ct58_ok : ct58.Ok prog := ct_ok mixed cx58_ok func58 c58_ok (enters_of func58 rfl rfl) dd58 (by kernel_rfl) rfl (fun x => by kernel_rfl)

/- 18 -/
noncomputable def cx18 : Cx := mkCxH [ct58] []
theorem cx18_ok : cx18.Ok prog := mkCxH_ok ⟨ct58_ok, trivial⟩ trivial
noncomputable def dd18 : D prog 8 none 0 := dO [] (kd prog f18) 0
noncomputable def F18 (a0_0 : List (Int × List Int)) : Tr0 (List Int × Int × Unit) :=
 .bd (F58 a0_0) fun y0 =>
 .ret (y0.1, (y0.2.1, ()))
theorem c18_ok : trF prog f18 = some ⟨8, 1, dd18.er, [.t 2, .t 3], [some tL, some tI]⟩ := by kernel_rfl
noncomputable def ct18 : Ct := ⟨18, [.agg [.hole (.list (.prod tI tL))]], .tup [.hole tL, .hole tI], fun x => run0 (F18 x.1)⟩
theorem ct18_ok : ct18.Ok prog := ct_ok mixed cx18_ok func18 c18_ok (enters_of func18 rfl rfl) dd18 (by kernel_rfl) rfl (fun x => by kernel_rfl)

/- 55 -/
noncomputable def cx55 : Cx := mkCxH [ct54, ct53] []
theorem cx55_ok : cx55.Ok prog := mkCxH_ok ⟨ct54_ok, ct53_ok, trivial⟩ trivial
noncomputable def dd55 : D prog 7 none 0 := dO [] (kd prog f55) 0
noncomputable def F55 : Tr0 (((List (Int × List Int)) × Unit) × Unit) :=
 .bd (F54 (2 : Int) (((((1 : Int) :: ((1 : Int) :: ((0 : Int) :: ((0 : Int) :: []))))).drop (0 : Nat)).take (4 : Nat))) fun y0 =>
 .bd (F54 (1 : Int) (((((0 : Int) :: ((0 : Int) :: ((1 : Int) :: ((1 : Int) :: []))))).drop (0 : Nat)).take (4 : Nat))) fun y1 =>
 .bd (F53 (((((y0.1.1, y0.1.2) :: ((y1.1.1, y1.1.2) :: []))).drop (0 : Nat)).take (2 : Nat))) fun y2 =>
 .ret ((y2.1.1, ()), ())
theorem c55_ok : trF prog f55 = some ⟨7, 0, dd55.er, [.cell 0 true 1], [some (.prod (.list (.prod tI tL)) .unit)]⟩ := by kernel_rfl
noncomputable def ct55 : Ct := ⟨55, [], .c (.hole (.prod (.list (.prod tI tL)) .unit)), fun x => run0 (F55)⟩
theorem ct55_ok : ct55.Ok prog := ct_ok mixed cx55_ok func55 c55_ok (enters_of func55 rfl rfl) dd55 (by kernel_rfl) rfl (fun x => by kernel_rfl)

/- 98 -/
noncomputable def cx98_v2 : Cx := mkCxH [ct82, ct90] []
theorem cx98_v2_ok : cx98_v2.Ok prog := mkCxH_ok ⟨ct82_ok, ct90_ok, trivial⟩ trivial
noncomputable def ad98_v2_0 : D prog 34 (some 3) 4 := dO [] (pick (kd prog f98) [(0, false)]) 0
noncomputable def bd98_v2_0 : D prog 34 (some 3) 4 := dO [] (pick (kd prog f98) [(0, true)]) 0
noncomputable def cx98_v2_0i : Cx := itCx cx98_v2 (fun kz => rdK kz cx98_v2 ar0 3 4 [11] (ad98_v2_0) (bd98_v2_0))
theorem cx98_v2_0i_ok : (cx98_v2_0i).Ok prog := itCx_ok cx98_v2_ok (fun h => rdK_ok mixed cx98_v2_ok h)
@[reducible] def p98_v2_0i_0 : Pat := Pat.mk [(0, .c (.yl 3)), (1, .c (.ipcs (.cons (.hole (.list (.prod tI tL))) (.cons .nili (.cons (.hole tI) (.cons (.hole (.int .u64)) .nil)))))), (2, .c (.ipc tL)), (4, .c (.hole (.int .u64)))] [(3, .loop .ready none 2 [(1, .c (.ipcs (.cons (.hole (.list (.prod tI tL))) (.cons .nili (.cons (.hole tI) (.cons (.hole (.int .u64)) .nil)))))), (2, .c (.ipcs (.cons (.fn 62 .nil (.cons (.ipa tI) .nil)) .nil))), (3, .c (.ptr 0 0)), (4, hI), (5, .c (.ptr 1 0)), (10, .fn 102 [] [.ipcs (.cons (.hole (.list (.prod tI tL))) (.cons .nili (.cons (.hole tI) (.cons (.hole (.int .u64)) .nil)))), .ipc tL])] [11] (.reg [.op (some 6) none (.mv (.t 11))]) (.block 1 (.seq (.draw [[], [0], [], [0, 1, 2], [0, 1, 2, 3], [0, 1, 2, 3, 4], [0, 1, 2, 3, 4, 5], [0, 1, 2, 3, 4, 5, 6], [0, 1, 2, 3, 4, 5], [0, 1, 2, 3, 4, 5], [0, 1, 2, 3, 4, 5, 8, 9], [0, 1, 2, 3, 4, 5, 6, 7], [0, 1, 2, 3, 4, 5, 6, 7, 11], [0, 1, 2, 3, 4, 5, 6, 7, 8, 9, 10, 11, 12], [0, 1, 2, 3, 4, 5, 6, 7, 8, 9, 10, 11, 12, 13]] [.op (some 12) none (.fld 1 [true, false] (.t 1)), .op (some 13) none (.load false 1 (.t 12)), .op (some 14) none (.mv (.t 6)), .call (some 15) none (.m 13 [(55, 84), (132, 83)]) [.t 14] [some (.int .u64)], .op (some 16) none (.not (.t 15)), .op (some 17) none (.mv (.t 16)), .op (some 18) (some (17, true)) (.fld 1 [true, false] (.t 1)), .op (some 19) (some (17, true)) (.load false 1 (.t 18)), .op (some 20) (some (17, true)) (.mv (.t 6)), .op (some 21) (some (17, true)) (.load false 1 (.t 3)), .call (some 22) (some (17, true)) (.c (.fn 74 [] [])) [.t 20, .t 21] [some (.int .u64), some tI], .op (some 23) (some (17, true)) (.ex Xop.nchk [.t 19]), .op (some 24) (some (17, true)) (.mv (.t 19)), .call (some 25) (some (17, true)) (.m 24 [(55, 84), (132, 83)]) [.t 22] [some (.int .u64)], .op (some 26) none (.pick (.t 17) (.t 25) (.c (.tf false)))]) (.cond (.t 26) (.draw [[], [], [], [], [1, 2, 3], [0, 1, 2, 3, 4], [0, 1, 2, 3, 4, 5]] [.op (some 27) none (.load false 1 (.t 5)), .op (some 28) none (.load false 1 (.t 2)), .op (some 29) none (.load true 4 (.t 1)), .op (some 30) none (.mv (.t 6)), .call (some 31) none (.t 28) [.t 29, .t 30] [some (.prod (.prod (.list (.prod tI tL)) .unit) (.prod (.ifc 55 true (.prod tI tL)) (.prod tI (.int .u64)))), some (.int .u64)], .op (some 32) none (.bin .add (.t 27) (.t 31)), .op none none (.store 1 (.t 5) (.t 32))]) .skip))) 34), (2, .dfr), (0, .cells [.hole tI] false), (1, .cells [.hole tI] false)] [] []
@[reducible] def x98_v2_0i_0 : Outs := [(.exit 0, Pat.mk [] [(0, .cells [.hole tI] false), (1, .cells [.hole tI] false), (2, .dfr), (3, .loop .ready none 2 [(1, .c (.ipcs (.cons (.hole (.list (.prod tI tL))) (.cons .nili (.cons (.hole tI) (.cons (.hole (.int .u64)) .nil)))))), (2, .c (.ipcs (.cons (.fn 62 .nil (.cons (.ipa tI) .nil)) .nil))), (3, .c (.ptr 0 0)), (4, hI), (5, .c (.ptr 1 0)), (10, .fn 102 [] [.ipcs (.cons (.hole (.list (.prod tI tL))) (.cons .nili (.cons (.hole tI) (.cons (.hole (.int .u64)) .nil)))), .ipc tL])] [11] (.reg [.op (some 6) none (.mv (.t 11))]) (.block 1 (.seq (.draw [[], [0], [], [0, 1, 2], [0, 1, 2, 3], [0, 1, 2, 3, 4], [0, 1, 2, 3, 4, 5], [0, 1, 2, 3, 4, 5, 6], [0, 1, 2, 3, 4, 5], [0, 1, 2, 3, 4, 5], [0, 1, 2, 3, 4, 5, 8, 9], [0, 1, 2, 3, 4, 5, 6, 7], [0, 1, 2, 3, 4, 5, 6, 7, 11], [0, 1, 2, 3, 4, 5, 6, 7, 8, 9, 10, 11, 12], [0, 1, 2, 3, 4, 5, 6, 7, 8, 9, 10, 11, 12, 13]] [.op (some 12) none (.fld 1 [true, false] (.t 1)), .op (some 13) none (.load false 1 (.t 12)), .op (some 14) none (.mv (.t 6)), .call (some 15) none (.m 13 [(55, 84), (132, 83)]) [.t 14] [some (.int .u64)], .op (some 16) none (.not (.t 15)), .op (some 17) none (.mv (.t 16)), .op (some 18) (some (17, true)) (.fld 1 [true, false] (.t 1)), .op (some 19) (some (17, true)) (.load false 1 (.t 18)), .op (some 20) (some (17, true)) (.mv (.t 6)), .op (some 21) (some (17, true)) (.load false 1 (.t 3)), .call (some 22) (some (17, true)) (.c (.fn 74 [] [])) [.t 20, .t 21] [some (.int .u64), some tI], .op (some 23) (some (17, true)) (.ex Xop.nchk [.t 19]), .op (some 24) (some (17, true)) (.mv (.t 19)), .call (some 25) (some (17, true)) (.m 24 [(55, 84), (132, 83)]) [.t 22] [some (.int .u64)], .op (some 26) none (.pick (.t 17) (.t 25) (.c (.tf false)))]) (.cond (.t 26) (.draw [[], [], [], [], [1, 2, 3], [0, 1, 2, 3, 4], [0, 1, 2, 3, 4, 5]] [.op (some 27) none (.load false 1 (.t 5)), .op (some 28) none (.load false 1 (.t 2)), .op (some 29) none (.load true 4 (.t 1)), .op (some 30) none (.mv (.t 6)), .call (some 31) none (.t 28) [.t 29, .t 30] [some (.prod (.prod (.list (.prod tI tL)) .unit) (.prod (.ifc 55 true (.prod tI tL)) (.prod tI (.int .u64)))), some (.int .u64)], .op (some 32) none (.bin .add (.t 27) (.t 31)), .op none none (.store 1 (.t 5) (.t 32))]) .skip))) 34)] [] [])]
noncomputable def b98_v2_0i_0 : D prog 22 none 4 := dO [] (pick (kd prog f102) [(0, false)]) 0
noncomputable def g98_v2_0i_0 : (List (Int × List Int)) × Int × Int × List Int × Int × (List (Int × List Int)) × Int × Int × List Int × Int × (List (Int × List Int)) × Int × Int × List Int × Int × Int × Unit → Tr0 (((List (Int × List Int)) × Int × Int × List Int × Int × (List (Int × List Int)) × Int × Int × List Int × Int × (List (Int × List Int)) × Int × Int × List Int × Int × Int × Unit) ⊕ ((Int × Int × (List (Int × List Int)) × Int × Int × List Int × Int × (List (Int × List Int)) × Int × Int × List Int × Unit))) := fun (v1c0, v1c2, v1c3, v2, v4, w1c0, w1c2, w1c3, w2c0c0, w4, w10_0c0, w10_0c2, w10_0c3, w10_1, c0_0, c1_0, _) =>
 .br (decide (v4 ≤ v1c3)) (
 .bd (F90 v4 v2) fun y1 =>
 .br (v4 == y1.1) (
 .no) (
 .nd (rng .u64 (v4 + (1 : Int))) <|
 .ret (.inl (v1c0, (v1c2, (v1c3, (v2, ((v4 + (1 : Int)), (w1c0, (w1c2, (w1c3, (w2c0c0, (w4, (w10_0c0, (w10_0c2, (w10_0c3, (w10_1, (c0_0, (c1_0, ()))))))))))))))))))) (
 .ret (.inr (c0_0, (c1_0, (w1c0, (w1c2, (w1c3, (w2c0c0, (w4, (w10_0c0, (w10_0c2, (w10_0c3, (w10_1, ())))))))))))))
theorem s98_v2_0i_0 : ∀ x, roundE (kzO (p98_v2_0i_0.T ⊕ x98_v2_0i_0.T)) cx98_v2_0i ar0 [0, 1, 2, 3] p98_v2_0i_0 x98_v2_0i_0 (b98_v2_0i_0) (fun y => some (.inl y)) (fun b => some (.inr b)) x = run0 (g98_v2_0i_0 x) := fun x => by kernel_rfl
noncomputable def L98_v2_0i_0 : LoopS prog 22 none 4 := mkLoop mixed cx98_v2_0i cx98_v2_0i_ok [0, 1, 2, 3] rfl p98_v2_0i_0 x98_v2_0i_0 rfl (b98_v2_0i_0) (fun x => run0 (g98_v2_0i_0 x)) (s98_v2_0i_0)
@[reducible] def p98_v2_0 : Pat := Pat.mk [(1, .c (.ipcs (.cons (.hole (.list (.prod tI tL))) (.cons .nili (.cons (.hole tI) (.cons (.hole (.int .u64)) .nil)))))), (2, .c (.ipcs (.cons (.fn 62 .nil (.cons (.ipa tI) .nil)) .nil))), (3, .c (.ptr 0 0)), (4, hI), (5, .c (.ptr 1 0)), (10, .fn 102 [] [.ipcs (.cons (.hole (.list (.prod tI tL))) (.cons .nili (.cons (.hole tI) (.cons (.hole (.int .u64)) .nil)))), .ipc tL])] [(0, .cells [.hole tI] false), (1, .cells [.hole tI] false)] [.slot 3, .slot 5] []
@[reducible] def x98_v2_0 : Outs := [(.normal, Pat.mk [(5, .c (.ptr 0 0))] [(0, .cells [.hole tI] false), (1, .dfr)] [.slot 5, .mark 0] [1])]
noncomputable def b98_v2_0i : D prog 22 none 4 := dO [.l L98_v2_0i_0] (kd prog f102) 0
theorem ci98_v2_0 : trF prog f102 = some ⟨22, 3, (b98_v2_0i).er, [], []⟩ := by kernel_rfl
noncomputable def g98_v2_0 : (List (Int × List Int)) × Int × Int × List Int × Int × (List (Int × List Int)) × Int × Int × List Int × Int × Int × Unit → Tr0 ((Int × Unit)) := fun (v1c0, v1c2, v1c3, v2c0c0, v4, v10_0c0, v10_0c2, v10_0c3, v10_1, c0_0, c1_0, _) =>
 .bd (.it g98_v2_0i_0 (v10_0c0, (v10_0c2, (v10_0c3, (v10_1, ((0 : Int), (v1c0, (v1c2, (v1c3, (v2c0c0, (v4, (v10_0c0, (v10_0c2, (v10_0c3, (v10_1, (c0_0, (c1_0, ()))))))))))))))))) fun z2 =>
 .ret ((z2.2.1, ()))
theorem s98_v2_0 : ∀ x, rangeE (N := 34) (out := none) (base := 0) (kzO x98_v2_0.T) cx98_v2_0i ar0 [] p98_v2_0 x98_v2_0 ( .t 10) [11] (ad98_v2_0).er (bd98_v2_0).er [] 3 102 (b98_v2_0i) some x = run0 (g98_v2_0 x) := fun x => by kernel_rfl
noncomputable def R98_v2_0 : RangeS prog 34 none 0 := mkRange mixed cx98_v2_0i cx98_v2_0i_ok [] rfl p98_v2_0 x98_v2_0 ( .t 10) [11] rfl (ad98_v2_0).er (bd98_v2_0).er 102 func102 (ci98_v2_0) (enters_of func102 rfl rfl) 4 rfl (b98_v2_0i) rfl (fun x => run0 (g98_v2_0 x)) (s98_v2_0)
noncomputable def dd98_v2 : D prog 34 none 0 := dO [.r R98_v2_0] (kd prog f98) 0
noncomputable def F98_v2 (a0 : Int) (a1c0 : List (Int × List Int)) (a1c2 : Int) (a1c3 : Int) (a2c0c0 : List Int) : Tr0 (Int × Unit) :=
 .bd (F82 a1c0 a1c2 a1c3 ((((a0 :: [])).drop (0 : Nat)).take (1 : Nat))) fun y0 =>
 .bd (g98_v2_0 (a1c0, (a1c2, (a1c3, (a2c0c0, ((0 : Int), (y0.1, (y0.2.1, (y0.2.2.1, (y0.2.2.2.1, (a0, ((0 : Int), ())))))))))))) fun z3 =>
 .ret (z3.1, ())
theorem c98_v2_ok : trF prog f98 = some ⟨34, 3, dd98_v2.er, [.t 4], [some tI]⟩ := by kernel_rfl
noncomputable def ct98_v2 : Ct := ⟨98, [hI, .c (.ipcs (.cons (.hole (.list (.prod tI tL))) (.cons .nili (.cons (.hole tI) (.cons (.hole (.int .u64)) .nil))))), .c (.ipcs (.cons (.fn 62 .nil (.cons (.ipa tI) .nil)) .nil))], hI, fun x => run0 (F98_v2 x.1 x.2.1 x.2.2.1 x.2.2.2.1 x.2.2.2.2.1)⟩
theorem ct98_v2_ok : ct98_v2.Ok prog := ct_ok mixed cx98_v2_ok func98 c98_v2_ok (enters_of func98 rfl rfl) dd98_v2 (by kernel_rfl) rfl (fun x => by kernel_rfl)

/- 87 -/
noncomputable def cx87_v4 : Cx := mkCxH [ct98_v2] []
theorem cx87_v4_ok : cx87_v4.Ok prog := mkCxH_ok ⟨ct98_v2_ok, trivial⟩ trivial
@[reducible] def p87_v4_0 : Pat := Pat.mk [(1, .fn 98 [] [.ipcs (.cons (.hole (.list (.prod tI tL))) (.cons .nili (.cons (.hole tI) (.cons (.hole (.int .u64)) .nil)))), .ipcs (.cons (.fn 62 .nil (.cons (.ipa tI) .nil)) .nil)]), (5, .c (.sl0 0 tI)), (8, hI), (9, hI)] [(0, .arr tI false)] [.slot 5] []
@[reducible] def x87_v4_0 : Outs := [(.exit 0, Pat.mk [(5, .c (.sl0 0 tI))] [(0, .arr tI false)] [.slot 5] [])]
noncomputable def b87_v4_0 : D prog 20 none 0 := dO [] (pick (kd prog f87) [(0, false)]) 0
noncomputable def g87_v4_0 : (List (Int × List Int)) × Int × Int × List Int × Nat × Int × Int × List Int × Unit → Tr0 (((List (Int × List Int)) × Int × Int × List Int × Nat × Int × Int × List Int × Unit) ⊕ ((Nat × List Int × Unit))) := fun (v1_0c0, v1_0c2, v1_0c3, v1_1c0c0, nv5, v8, v9, b0, _) =>
 .br (decide (v9 < v8)) (
 .bd (F98_v2 v9 v1_0c0 v1_0c2 v1_0c3 v1_1c0c0) fun y0 =>
 .nd (decide ((nv5 + (((((y0.1 :: [])).drop (0 : Nat)).take (1 : Nat))).length) < bigL)) <|
 .ni (v9 + (1 : Int)) <|
 .ret (.inl (v1_0c0, (v1_0c2, (v1_0c3, (v1_1c0c0, ((nv5 + (((((y0.1 :: [])).drop (0 : Nat)).take (1 : Nat))).length), (v8, ((v9 + (1 : Int)), (((((b0).drop (0 : Nat)).take nv5) ++ ((((y0.1 :: [])).drop (0 : Nat)).take (1 : Nat))), ())))))))))) (
 .ret (.inr (nv5, (b0, ()))))
theorem s87_v4_0 : ∀ x, roundE (kzO (p87_v4_0.T ⊕ x87_v4_0.T)) cx87_v4 ar0 [] p87_v4_0 x87_v4_0 (b87_v4_0) (fun y => some (.inl y)) (fun b => some (.inr b)) x = run0 (g87_v4_0 x) := fun x => by kernel_rfl
noncomputable def L87_v4_0 : LoopS prog 20 none 0 := mkLoop mixed cx87_v4 cx87_v4_ok [] rfl p87_v4_0 x87_v4_0 rfl (b87_v4_0) (fun x => run0 (g87_v4_0 x)) (s87_v4_0)
noncomputable def dd87_v4 : D prog 20 none 0 := dO [.l L87_v4_0] (kd prog f87) 0
noncomputable def F87_v4 (a0_0 : List (Int × List Int)) (a0_2 : Int) (a0_3 : Int) (a1_0c0 : List (Int × List Int)) (a1_0c2 : Int) (a1_0c3 : Int) (a1_1c0c0 : List Int) : Tr0 (List Int × Unit) :=
 .bd (.it g87_v4_0 (a1_0c0, (a1_0c2, (a1_0c3, (a1_1c0c0, ((0 : Nat), (a0_2, ((0 : Int), ([], ()))))))))) fun z1 =>
 .ret ((((z1.2.1).drop (0 : Nat)).take z1.1), ())
theorem c87_v4_ok : trF prog f87 = some ⟨20, 2, dd87_v4.er, [.t 4], [some tL]⟩ := by kernel_rfl
noncomputable def ct87_v4 : Ct := ⟨87, [.agg [.hole (.list (.prod tI tL)), .nili, .hole tI, .hole (.int .u64)], .fn 98 [] [.ipcs (.cons (.hole (.list (.prod tI tL))) (.cons .nili (.cons (.hole tI) (.cons (.hole (.int .u64)) .nil)))), .ipcs (.cons (.fn 62 .nil (.cons (.ipa tI) .nil)) .nil)]], hL, fun x => run0 (F87_v4 x.1 x.2.1 x.2.2.1 x.2.2.2.1 x.2.2.2.2.1 x.2.2.2.2.2.1 x.2.2.2.2.2.2.1)⟩
theorem ct87_v4_ok : ct87_v4.Ok prog := ct_ok mixed cx87_v4_ok func87 c87_v4_ok (enters_of func87 rfl rfl) dd87_v4 (by kernel_rfl) rfl (fun x => by kernel_rfl)

/- 110 -/
noncomputable def cx110 : Cx := mkCxH [] []
theorem cx110_ok : cx110.Ok prog := mkCxH_ok trivial trivial
noncomputable def dd110 : D prog 35 none 0 := dO [] (kd prog f110) 0
noncomputable def F110 (a0 : Int) : Tr0 (Int × Unit) :=
 .nb (1 : Int) (64 : Int) <|
 .nd (rng .u64 ((ar0.bits Go.AM.IBin.and Go.IntKind.u64 (ar0.shr a0 (1 : Int)) (6148914691236517205 : Int)) + (ar0.bits Go.AM.IBin.and Go.IntKind.u64 a0 (6148914691236517205 : Int)))) <|
 .nb (2 : Int) (64 : Int) <|
 .nd (rng .u64 ((ar0.bits Go.AM.IBin.and Go.IntKind.u64 (ar0.shr ((ar0.bits Go.AM.IBin.and Go.IntKind.u64 (ar0.shr a0 (1 : Int)) (6148914691236517205 : Int)) + (ar0.bits Go.AM.IBin.and Go.IntKind.u64 a0 (6148914691236517205 : Int))) (2 : Int)) (3689348814741910323 : Int)) + (ar0.bits Go.AM.IBin.and Go.IntKind.u64 ((ar0.bits Go.AM.IBin.and Go.IntKind.u64 (ar0.shr a0 (1 : Int)) (6148914691236517205 : Int)) + (ar0.bits Go.AM.IBin.and Go.IntKind.u64 a0 (6148914691236517205 : Int))) (3689348814741910323 : Int)))) <|
 .nb (4 : Int) (64 : Int) <|
 .nd (rng .u64 ((ar0.shr ((ar0.bits Go.AM.IBin.and Go.IntKind.u64 (ar0.shr ((ar0.bits Go.AM.IBin.and Go.IntKind.u64 (ar0.shr a0 (1 : Int)) (6148914691236517205 : Int)) + (ar0.bits Go.AM.IBin.and Go.IntKind.u64 a0 (6148914691236517205 : Int))) (2 : Int)) (3689348814741910323 : Int)) + (ar0.bits Go.AM.IBin.and Go.IntKind.u64 ((ar0.bits Go.AM.IBin.and Go.IntKind.u64 (ar0.shr a0 (1 : Int)) (6148914691236517205 : Int)) + (ar0.bits Go.AM.IBin.and Go.IntKind.u64 a0 (6148914691236517205 : Int))) (3689348814741910323 : Int))) (4 : Int)) + ((ar0.bits Go.AM.IBin.and Go.IntKind.u64 (ar0.shr ((ar0.bits Go.AM.IBin.and Go.IntKind.u64 (ar0.shr a0 (1 : Int)) (6148914691236517205 : Int)) + (ar0.bits Go.AM.IBin.and Go.IntKind.u64 a0 (6148914691236517205 : Int))) (2 : Int)) (3689348814741910323 : Int)) + (ar0.bits Go.AM.IBin.and Go.IntKind.u64 ((ar0.bits Go.AM.IBin.and Go.IntKind.u64 (ar0.shr a0 (1 : Int)) (6148914691236517205 : Int)) + (ar0.bits Go.AM.IBin.and Go.IntKind.u64 a0 (6148914691236517205 : Int))) (3689348814741910323 : Int))))) <|
 .nb (8 : Int) (64 : Int) <|
 .nd (rng .u64 ((ar0.bits Go.AM.IBin.and Go.IntKind.u64 ((ar0.shr ((ar0.bits Go.AM.IBin.and Go.IntKind.u64 (ar0.shr ((ar0.bits Go.AM.IBin.and Go.IntKind.u64 (ar0.shr a0 (1 : Int)) (6148914691236517205 : Int)) + (ar0.bits Go.AM.IBin.and Go.IntKind.u64 a0 (6148914691236517205 : Int))) (2 : Int)) (3689348814741910323 : Int)) + (ar0.bits Go.AM.IBin.and Go.IntKind.u64 ((ar0.bits Go.AM.IBin.and Go.IntKind.u64 (ar0.shr a0 (1 : Int)) (6148914691236517205 : Int)) + (ar0.bits Go.AM.IBin.and Go.IntKind.u64 a0 (6148914691236517205 : Int))) (3689348814741910323 : Int))) (4 : Int)) + ((ar0.bits Go.AM.IBin.and Go.IntKind.u64 (ar0.shr ((ar0.bits Go.AM.IBin.and Go.IntKind.u64 (ar0.shr a0 (1 : Int)) (6148914691236517205 : Int)) + (ar0.bits Go.AM.IBin.and Go.IntKind.u64 a0 (6148914691236517205 : Int))) (2 : Int)) (3689348814741910323 : Int)) + (ar0.bits Go.AM.IBin.and Go.IntKind.u64 ((ar0.bits Go.AM.IBin.and Go.IntKind.u64 (ar0.shr a0 (1 : Int)) (6148914691236517205 : Int)) + (ar0.bits Go.AM.IBin.and Go.IntKind.u64 a0 (6148914691236517205 : Int))) (3689348814741910323 : Int)))) (1085102592571150095 : Int)) + (ar0.shr (ar0.bits Go.AM.IBin.and Go.IntKind.u64 ((ar0.shr ((ar0.bits Go.AM.IBin.and Go.IntKind.u64 (ar0.shr ((ar0.bits Go.AM.IBin.and Go.IntKind.u64 (ar0.shr a0 (1 : Int)) (6148914691236517205 : Int)) + (ar0.bits Go.AM.IBin.and Go.IntKind.u64 a0 (6148914691236517205 : Int))) (2 : Int)) (3689348814741910323 : Int)) + (ar0.bits Go.AM.IBin.and Go.IntKind.u64 ((ar0.bits Go.AM.IBin.and Go.IntKind.u64 (ar0.shr a0 (1 : Int)) (6148914691236517205 : Int)) + (ar0.bits Go.AM.IBin.and Go.IntKind.u64 a0 (6148914691236517205 : Int))) (3689348814741910323 : Int))) (4 : Int)) + ((ar0.bits Go.AM.IBin.and Go.IntKind.u64 (ar0.shr ((ar0.bits Go.AM.IBin.and Go.IntKind.u64 (ar0.shr a0 (1 : Int)) (6148914691236517205 : Int)) + (ar0.bits Go.AM.IBin.and Go.IntKind.u64 a0 (6148914691236517205 : Int))) (2 : Int)) (3689348814741910323 : Int)) + (ar0.bits Go.AM.IBin.and Go.IntKind.u64 ((ar0.bits Go.AM.IBin.and Go.IntKind.u64 (ar0.shr a0 (1 : Int)) (6148914691236517205 : Int)) + (ar0.bits Go.AM.IBin.and Go.IntKind.u64 a0 (6148914691236517205 : Int))) (3689348814741910323 : Int)))) (1085102592571150095 : Int)) (8 : Int)))) <|
 .nb (16 : Int) (64 : Int) <|
 .nd (rng .u64 (((ar0.bits Go.AM.IBin.and Go.IntKind.u64 ((ar0.shr ((ar0.bits Go.AM.IBin.and Go.IntKind.u64 (ar0.shr ((ar0.bits Go.AM.IBin.and Go.IntKind.u64 (ar0.shr a0 (1 : Int)) (6148914691236517205 : Int)) + (ar0.bits Go.AM.IBin.and Go.IntKind.u64 a0 (6148914691236517205 : Int))) (2 : Int)) (3689348814741910323 : Int)) + (ar0.bits Go.AM.IBin.and Go.IntKind.u64 ((ar0.bits Go.AM.IBin.and Go.IntKind.u64 (ar0.shr a0 (1 : Int)) (6148914691236517205 : Int)) + (ar0.bits Go.AM.IBin.and Go.IntKind.u64 a0 (6148914691236517205 : Int))) (3689348814741910323 : Int))) (4 : Int)) + ((ar0.bits Go.AM.IBin.and Go.IntKind.u64 (ar0.shr ((ar0.bits Go.AM.IBin.and Go.IntKind.u64 (ar0.shr a0 (1 : Int)) (6148914691236517205 : Int)) + (ar0.bits Go.AM.IBin.and Go.IntKind.u64 a0 (6148914691236517205 : Int))) (2 : Int)) (3689348814741910323 : Int)) + (ar0.bits Go.AM.IBin.and Go.IntKind.u64 ((ar0.bits Go.AM.IBin.and Go.IntKind.u64 (ar0.shr a0 (1 : Int)) (6148914691236517205 : Int)) + (ar0.bits Go.AM.IBin.and Go.IntKind.u64 a0 (6148914691236517205 : Int))) (3689348814741910323 : Int)))) (1085102592571150095 : Int)) + (ar0.shr (ar0.bits Go.AM.IBin.and Go.IntKind.u64 ((ar0.shr ((ar0.bits Go.AM.IBin.and Go.IntKind.u64 (ar0.shr ((ar0.bits Go.AM.IBin.and Go.IntKind.u64 (ar0.shr a0 (1 : Int)) (6148914691236517205 : Int)) + (ar0.bits Go.AM.IBin.and Go.IntKind.u64 a0 (6148914691236517205 : Int))) (2 : Int)) (3689348814741910323 : Int)) + (ar0.bits Go.AM.IBin.and Go.IntKind.u64 ((ar0.bits Go.AM.IBin.and Go.IntKind.u64 (ar0.shr a0 (1 : Int)) (6148914691236517205 : Int)) + (ar0.bits Go.AM.IBin.and Go.IntKind.u64 a0 (6148914691236517205 : Int))) (3689348814741910323 : Int))) (4 : Int)) + ((ar0.bits Go.AM.IBin.and Go.IntKind.u64 (ar0.shr ((ar0.bits Go.AM.IBin.and Go.IntKind.u64 (ar0.shr a0 (1 : Int)) (6148914691236517205 : Int)) + (ar0.bits Go.AM.IBin.and Go.IntKind.u64 a0 (6148914691236517205 : Int))) (2 : Int)) (3689348814741910323 : Int)) + (ar0.bits Go.AM.IBin.and Go.IntKind.u64 ((ar0.bits Go.AM.IBin.and Go.IntKind.u64 (ar0.shr a0 (1 : Int)) (6148914691236517205 : Int)) + (ar0.bits Go.AM.IBin.and Go.IntKind.u64 a0 (6148914691236517205 : Int))) (3689348814741910323 : Int)))) (1085102592571150095 : Int)) (8 : Int))) + (ar0.shr ((ar0.bits Go.AM.IBin.and Go.IntKind.u64 ((ar0.shr ((ar0.bits Go.AM.IBin.and Go.IntKind.u64 (ar0.shr ((ar0.bits Go.AM.IBin.and Go.IntKind.u64 (ar0.shr a0 (1 : Int)) (6148914691236517205 : Int)) + (ar0.bits Go.AM.IBin.and Go.IntKind.u64 a0 (6148914691236517205 : Int))) (2 : Int)) (3689348814741910323 : Int)) + (ar0.bits Go.AM.IBin.and Go.IntKind.u64 ((ar0.bits Go.AM.IBin.and Go.IntKind.u64 (ar0.shr a0 (1 : Int)) (6148914691236517205 : Int)) + (ar0.bits Go.AM.IBin.and Go.IntKind.u64 a0 (6148914691236517205 : Int))) (3689348814741910323 : Int))) (4 : Int)) + ((ar0.bits Go.AM.IBin.and Go.IntKind.u64 (ar0.shr ((ar0.bits Go.AM.IBin.and Go.IntKind.u64 (ar0.shr a0 (1 : Int)) (6148914691236517205 : Int)) + (ar0.bits Go.AM.IBin.and Go.IntKind.u64 a0 (6148914691236517205 : Int))) (2 : Int)) (3689348814741910323 : Int)) + (ar0.bits Go.AM.IBin.and Go.IntKind.u64 ((ar0.bits Go.AM.IBin.and Go.IntKind.u64 (ar0.shr a0 (1 : Int)) (6148914691236517205 : Int)) + (ar0.bits Go.AM.IBin.and Go.IntKind.u64 a0 (6148914691236517205 : Int))) (3689348814741910323 : Int)))) (1085102592571150095 : Int)) + (ar0.shr (ar0.bits Go.AM.IBin.and Go.IntKind.u64 ((ar0.shr ((ar0.bits Go.AM.IBin.and Go.IntKind.u64 (ar0.shr ((ar0.bits Go.AM.IBin.and Go.IntKind.u64 (ar0.shr a0 (1 : Int)) (6148914691236517205 : Int)) + (ar0.bits Go.AM.IBin.and Go.IntKind.u64 a0 (6148914691236517205 : Int))) (2 : Int)) (3689348814741910323 : Int)) + (ar0.bits Go.AM.IBin.and Go.IntKind.u64 ((ar0.bits Go.AM.IBin.and Go.IntKind.u64 (ar0.shr a0 (1 : Int)) (6148914691236517205 : Int)) + (ar0.bits Go.AM.IBin.and Go.IntKind.u64 a0 (6148914691236517205 : Int))) (3689348814741910323 : Int))) (4 : Int)) + ((ar0.bits Go.AM.IBin.and Go.IntKind.u64 (ar0.shr ((ar0.bits Go.AM.IBin.and Go.IntKind.u64 (ar0.shr a0 (1 : Int)) (6148914691236517205 : Int)) + (ar0.bits Go.AM.IBin.and Go.IntKind.u64 a0 (6148914691236517205 : Int))) (2 : Int)) (3689348814741910323 : Int)) + (ar0.bits Go.AM.IBin.and Go.IntKind.u64 ((ar0.bits Go.AM.IBin.and Go.IntKind.u64 (ar0.shr a0 (1 : Int)) (6148914691236517205 : Int)) + (ar0.bits Go.AM.IBin.and Go.IntKind.u64 a0 (6148914691236517205 : Int))) (3689348814741910323 : Int)))) (1085102592571150095 : Int)) (8 : Int))) (16 : Int)))) <|
 .nb (32 : Int) (64 : Int) <|
 .nd (rng .u64 ((((ar0.bits Go.AM.IBin.and Go.IntKind.u64 ((ar0.shr ((ar0.bits Go.AM.IBin.and Go.IntKind.u64 (ar0.shr ((ar0.bits Go.AM.IBin.and Go.IntKind.u64 (ar0.shr a0 (1 : Int)) (6148914691236517205 : Int)) + (ar0.bits Go.AM.IBin.and Go.IntKind.u64 a0 (6148914691236517205 : Int))) (2 : Int)) (3689348814741910323 : Int)) + (ar0.bits Go.AM.IBin.and Go.IntKind.u64 ((ar0.bits Go.AM.IBin.and Go.IntKind.u64 (ar0.shr a0 (1 : Int)) (6148914691236517205 : Int)) + (ar0.bits Go.AM.IBin.and Go.IntKind.u64 a0 (6148914691236517205 : Int))) (3689348814741910323 : Int))) (4 : Int)) + ((ar0.bits Go.AM.IBin.and Go.IntKind.u64 (ar0.shr ((ar0.bits Go.AM.IBin.and Go.IntKind.u64 (ar0.shr a0 (1 : Int)) (6148914691236517205 : Int)) + (ar0.bits Go.AM.IBin.and Go.IntKind.u64 a0 (6148914691236517205 : Int))) (2 : Int)) (3689348814741910323 : Int)) + (ar0.bits Go.AM.IBin.and Go.IntKind.u64 ((ar0.bits Go.AM.IBin.and Go.IntKind.u64 (ar0.shr a0 (1 : Int)) (6148914691236517205 : Int)) + (ar0.bits Go.AM.IBin.and Go.IntKind.u64 a0 (6148914691236517205 : Int))) (3689348814741910323 : Int)))) (1085102592571150095 : Int)) + (ar0.shr (ar0.bits Go.AM.IBin.and Go.IntKind.u64 ((ar0.shr ((ar0.bits Go.AM.IBin.and Go.IntKind.u64 (ar0.shr ((ar0.bits Go.AM.IBin.and Go.IntKind.u64 (ar0.shr a0 (1 : Int)) (6148914691236517205 : Int)) + (ar0.bits Go.AM.IBin.and Go.IntKind.u64 a0 (6148914691236517205 : Int))) (2 : Int)) (3689348814741910323 : Int)) + (ar0.bits Go.AM.IBin.and Go.IntKind.u64 ((ar0.bits Go.AM.IBin.and Go.IntKind.u64 (ar0.shr a0 (1 : Int)) (6148914691236517205 : Int)) + (ar0.bits Go.AM.IBin.and Go.IntKind.u64 a0 (6148914691236517205 : Int))) (3689348814741910323 : Int))) (4 : Int)) + ((ar0.bits Go.AM.IBin.and Go.IntKind.u64 (ar0.shr ((ar0.bits Go.AM.IBin.and Go.IntKind.u64 (ar0.shr a0 (1 : Int)) (6148914691236517205 : Int)) + (ar0.bits Go.AM.IBin.and Go.IntKind.u64 a0 (6148914691236517205 : Int))) (2 : Int)) (3689348814741910323 : Int)) + (ar0.bits Go.AM.IBin.and Go.IntKind.u64 ((ar0.bits Go.AM.IBin.and Go.IntKind.u64 (ar0.shr a0 (1 : Int)) (6148914691236517205 : Int)) + (ar0.bits Go.AM.IBin.and Go.IntKind.u64 a0 (6148914691236517205 : Int))) (3689348814741910323 : Int)))) (1085102592571150095 : Int)) (8 : Int))) + (ar0.shr ((ar0.bits Go.AM.IBin.and Go.IntKind.u64 ((ar0.shr ((ar0.bits Go.AM.IBin.and Go.IntKind.u64 (ar0.shr ((ar0.bits Go.AM.IBin.and Go.IntKind.u64 (ar0.shr a0 (1 : Int)) (6148914691236517205 : Int)) + (ar0.bits Go.AM.IBin.and Go.IntKind.u64 a0 (6148914691236517205 : Int))) (2 : Int)) (3689348814741910323 : Int)) + (ar0.bits Go.AM.IBin.and Go.IntKind.u64 ((ar0.bits Go.AM.IBin.and Go.IntKind.u64 (ar0.shr a0 (1 : Int)) (6148914691236517205 : Int)) + (ar0.bits Go.AM.IBin.and Go.IntKind.u64 a0 (6148914691236517205 : Int))) (3689348814741910323 : Int))) (4 : Int)) + ((ar0.bits Go.AM.IBin.and Go.IntKind.u64 (ar0.shr ((ar0.bits Go.AM.IBin.and Go.IntKind.u64 (ar0.shr a0 (1 : Int)) (6148914691236517205 : Int)) + (ar0.bits Go.AM.IBin.and Go.IntKind.u64 a0 (6148914691236517205 : Int))) (2 : Int)) (3689348814741910323 : Int)) + (ar0.bits Go.AM.IBin.and Go.IntKind.u64 ((ar0.bits Go.AM.IBin.and Go.IntKind.u64 (ar0.shr a0 (1 : Int)) (6148914691236517205 : Int)) + (ar0.bits Go.AM.IBin.and Go.IntKind.u64 a0 (6148914691236517205 : Int))) (3689348814741910323 : Int)))) (1085102592571150095 : Int)) + (ar0.shr (ar0.bits Go.AM.IBin.and Go.IntKind.u64 ((ar0.shr ((ar0.bits Go.AM.IBin.and Go.IntKind.u64 (ar0.shr ((ar0.bits Go.AM.IBin.and Go.IntKind.u64 (ar0.shr a0 (1 : Int)) (6148914691236517205 : Int)) + (ar0.bits Go.AM.IBin.and Go.IntKind.u64 a0 (6148914691236517205 : Int))) (2 : Int)) (3689348814741910323 : Int)) + (ar0.bits Go.AM.IBin.and Go.IntKind.u64 ((ar0.bits Go.AM.IBin.and Go.IntKind.u64 (ar0.shr a0 (1 : Int)) (6148914691236517205 : Int)) + (ar0.bits Go.AM.IBin.and Go.IntKind.u64 a0 (6148914691236517205 : Int))) (3689348814741910323 : Int))) (4 : Int)) + ((ar0.bits Go.AM.IBin.and Go.IntKind.u64 (ar0.shr ((ar0.bits Go.AM.IBin.and Go.IntKind.u64 (ar0.shr a0 (1 : Int)) (6148914691236517205 : Int)) + (ar0.bits Go.AM.IBin.and Go.IntKind.u64 a0 (6148914691236517205 : Int))) (2 : Int)) (3689348814741910323 : Int)) + (ar0.bits Go.AM.IBin.and Go.IntKind.u64 ((ar0.bits Go.AM.IBin.and Go.IntKind.u64 (ar0.shr a0 (1 : Int)) (6148914691236517205 : Int)) + (ar0.bits Go.AM.IBin.and Go.IntKind.u64 a0 (6148914691236517205 : Int))) (3689348814741910323 : Int)))) (1085102592571150095 : Int)) (8 : Int))) (16 : Int))) + (ar0.shr (((ar0.bits Go.AM.IBin.and Go.IntKind.u64 ((ar0.shr ((ar0.bits Go.AM.IBin.and Go.IntKind.u64 (ar0.shr ((ar0.bits Go.AM.IBin.and Go.IntKind.u64 (ar0.shr a0 (1 : Int)) (6148914691236517205 : Int)) + (ar0.bits Go.AM.IBin.and Go.IntKind.u64 a0 (6148914691236517205 : Int))) (2 : Int)) (3689348814741910323 : Int)) + (ar0.bits Go.AM.IBin.and Go.IntKind.u64 ((ar0.bits Go.AM.IBin.and Go.IntKind.u64 (ar0.shr a0 (1 : Int)) (6148914691236517205 : Int)) + (ar0.bits Go.AM.IBin.and Go.IntKind.u64 a0 (6148914691236517205 : Int))) (3689348814741910323 : Int))) (4 : Int)) + ((ar0.bits Go.AM.IBin.and Go.IntKind.u64 (ar0.shr ((ar0.bits Go.AM.IBin.and Go.IntKind.u64 (ar0.shr a0 (1 : Int)) (6148914691236517205 : Int)) + (ar0.bits Go.AM.IBin.and Go.IntKind.u64 a0 (6148914691236517205 : Int))) (2 : Int)) (3689348814741910323 : Int)) + (ar0.bits Go.AM.IBin.and Go.IntKind.u64 ((ar0.bits Go.AM.IBin.and Go.IntKind.u64 (ar0.shr a0 (1 : Int)) (6148914691236517205 : Int)) + (ar0.bits Go.AM.IBin.and Go.IntKind.u64 a0 (6148914691236517205 : Int))) (3689348814741910323 : Int)))) (1085102592571150095 : Int)) + (ar0.shr (ar0.bits Go.AM.IBin.and Go.IntKind.u64 ((ar0.shr ((ar0.bits Go.AM.IBin.and Go.IntKind.u64 (ar0.shr ((ar0.bits Go.AM.IBin.and Go.IntKind.u64 (ar0.shr a0 (1 : Int)) (6148914691236517205 : Int)) + (ar0.bits Go.AM.IBin.and Go.IntKind.u64 a0 (6148914691236517205 : Int))) (2 : Int)) (3689348814741910323 : Int)) + (ar0.bits Go.AM.IBin.and Go.IntKind.u64 ((ar0.bits Go.AM.IBin.and Go.IntKind.u64 (ar0.shr a0 (1 : Int)) (6148914691236517205 : Int)) + (ar0.bits Go.AM.IBin.and Go.IntKind.u64 a0 (6148914691236517205 : Int))) (3689348814741910323 : Int))) (4 : Int)) + ((ar0.bits Go.AM.IBin.and Go.IntKind.u64 (ar0.shr ((ar0.bits Go.AM.IBin.and Go.IntKind.u64 (ar0.shr a0 (1 : Int)) (6148914691236517205 : Int)) + (ar0.bits Go.AM.IBin.and Go.IntKind.u64 a0 (6148914691236517205 : Int))) (2 : Int)) (3689348814741910323 : Int)) + (ar0.bits Go.AM.IBin.and Go.IntKind.u64 ((ar0.bits Go.AM.IBin.and Go.IntKind.u64 (ar0.shr a0 (1 : Int)) (6148914691236517205 : Int)) + (ar0.bits Go.AM.IBin.and Go.IntKind.u64 a0 (6148914691236517205 : Int))) (3689348814741910323 : Int)))) (1085102592571150095 : Int)) (8 : Int))) + (ar0.shr ((ar0.bits Go.AM.IBin.and Go.IntKind.u64 ((ar0.shr ((ar0.bits Go.AM.IBin.and Go.IntKind.u64 (ar0.shr ((ar0.bits Go.AM.IBin.and Go.IntKind.u64 (ar0.shr a0 (1 : Int)) (6148914691236517205 : Int)) + (ar0.bits Go.AM.IBin.and Go.IntKind.u64 a0 (6148914691236517205 : Int))) (2 : Int)) (3689348814741910323 : Int)) + (ar0.bits Go.AM.IBin.and Go.IntKind.u64 ((ar0.bits Go.AM.IBin.and Go.IntKind.u64 (ar0.shr a0 (1 : Int)) (6148914691236517205 : Int)) + (ar0.bits Go.AM.IBin.and Go.IntKind.u64 a0 (6148914691236517205 : Int))) (3689348814741910323 : Int))) (4 : Int)) + ((ar0.bits Go.AM.IBin.and Go.IntKind.u64 (ar0.shr ((ar0.bits Go.AM.IBin.and Go.IntKind.u64 (ar0.shr a0 (1 : Int)) (6148914691236517205 : Int)) + (ar0.bits Go.AM.IBin.and Go.IntKind.u64 a0 (6148914691236517205 : Int))) (2 : Int)) (3689348814741910323 : Int)) + (ar0.bits Go.AM.IBin.and Go.IntKind.u64 ((ar0.bits Go.AM.IBin.and Go.IntKind.u64 (ar0.shr a0 (1 : Int)) (6148914691236517205 : Int)) + (ar0.bits Go.AM.IBin.and Go.IntKind.u64 a0 (6148914691236517205 : Int))) (3689348814741910323 : Int)))) (1085102592571150095 : Int)) + (ar0.shr (ar0.bits Go.AM.IBin.and Go.IntKind.u64 ((ar0.shr ((ar0.bits Go.AM.IBin.and Go.IntKind.u64 (ar0.shr ((ar0.bits Go.AM.IBin.and Go.IntKind.u64 (ar0.shr a0 (1 : Int)) (6148914691236517205 : Int)) + (ar0.bits Go.AM.IBin.and Go.IntKind.u64 a0 (6148914691236517205 : Int))) (2 : Int)) (3689348814741910323 : Int)) + (ar0.bits Go.AM.IBin.and Go.IntKind.u64 ((ar0.bits Go.AM.IBin.and Go.IntKind.u64 (ar0.shr a0 (1 : Int)) (6148914691236517205 : Int)) + (ar0.bits Go.AM.IBin.and Go.IntKind.u64 a0 (6148914691236517205 : Int))) (3689348814741910323 : Int))) (4 : Int)) + ((ar0.bits Go.AM.IBin.and Go.IntKind.u64 (ar0.shr ((ar0.bits Go.AM.IBin.and Go.IntKind.u64 (ar0.shr a0 (1 : Int)) (6148914691236517205 : Int)) + (ar0.bits Go.AM.IBin.and Go.IntKind.u64 a0 (6148914691236517205 : Int))) (2 : Int)) (3689348814741910323 : Int)) + (ar0.bits Go.AM.IBin.and Go.IntKind.u64 ((ar0.bits Go.AM.IBin.and Go.IntKind.u64 (ar0.shr a0 (1 : Int)) (6148914691236517205 : Int)) + (ar0.bits Go.AM.IBin.and Go.IntKind.u64 a0 (6148914691236517205 : Int))) (3689348814741910323 : Int)))) (1085102592571150095 : Int)) (8 : Int))) (16 : Int))) (32 : Int)))) <|
 .ni ((((ar0.bits Go.AM.IBin.and Go.IntKind.u64 ((ar0.shr ((ar0.bits Go.AM.IBin.and Go.IntKind.u64 (ar0.shr ((ar0.bits Go.AM.IBin.and Go.IntKind.u64 (ar0.shr a0 (1 : Int)) (6148914691236517205 : Int)) + (ar0.bits Go.AM.IBin.and Go.IntKind.u64 a0 (6148914691236517205 : Int))) (2 : Int)) (3689348814741910323 : Int)) + (ar0.bits Go.AM.IBin.and Go.IntKind.u64 ((ar0.bits Go.AM.IBin.and Go.IntKind.u64 (ar0.shr a0 (1 : Int)) (6148914691236517205 : Int)) + (ar0.bits Go.AM.IBin.and Go.IntKind.u64 a0 (6148914691236517205 : Int))) (3689348814741910323 : Int))) (4 : Int)) + ((ar0.bits Go.AM.IBin.and Go.IntKind.u64 (ar0.shr ((ar0.bits Go.AM.IBin.and Go.IntKind.u64 (ar0.shr a0 (1 : Int)) (6148914691236517205 : Int)) + (ar0.bits Go.AM.IBin.and Go.IntKind.u64 a0 (6148914691236517205 : Int))) (2 : Int)) (3689348814741910323 : Int)) + (ar0.bits Go.AM.IBin.and Go.IntKind.u64 ((ar0.bits Go.AM.IBin.and Go.IntKind.u64 (ar0.shr a0 (1 : Int)) (6148914691236517205 : Int)) + (ar0.bits Go.AM.IBin.and Go.IntKind.u64 a0 (6148914691236517205 : Int))) (3689348814741910323 : Int)))) (1085102592571150095 : Int)) + (ar0.shr (ar0.bits Go.AM.IBin.and Go.IntKind.u64 ((ar0.shr ((ar0.bits Go.AM.IBin.and Go.IntKind.u64 (ar0.shr ((ar0.bits Go.AM.IBin.and Go.IntKind.u64 (ar0.shr a0 (1 : Int)) (6148914691236517205 : Int)) + (ar0.bits Go.AM.IBin.and Go.IntKind.u64 a0 (6148914691236517205 : Int))) (2 : Int)) (3689348814741910323 : Int)) + (ar0.bits Go.AM.IBin.and Go.IntKind.u64 ((ar0.bits Go.AM.IBin.and Go.IntKind.u64 (ar0.shr a0 (1 : Int)) (6148914691236517205 : Int)) + (ar0.bits Go.AM.IBin.and Go.IntKind.u64 a0 (6148914691236517205 : Int))) (3689348814741910323 : Int))) (4 : Int)) + ((ar0.bits Go.AM.IBin.and Go.IntKind.u64 (ar0.shr ((ar0.bits Go.AM.IBin.and Go.IntKind.u64 (ar0.shr a0 (1 : Int)) (6148914691236517205 : Int)) + (ar0.bits Go.AM.IBin.and Go.IntKind.u64 a0 (6148914691236517205 : Int))) (2 : Int)) (3689348814741910323 : Int)) + (ar0.bits Go.AM.IBin.and Go.IntKind.u64 ((ar0.bits Go.AM.IBin.and Go.IntKind.u64 (ar0.shr a0 (1 : Int)) (6148914691236517205 : Int)) + (ar0.bits Go.AM.IBin.and Go.IntKind.u64 a0 (6148914691236517205 : Int))) (3689348814741910323 : Int)))) (1085102592571150095 : Int)) (8 : Int))) + (ar0.shr ((ar0.bits Go.AM.IBin.and Go.IntKind.u64 ((ar0.shr ((ar0.bits Go.AM.IBin.and Go.IntKind.u64 (ar0.shr ((ar0.bits Go.AM.IBin.and Go.IntKind.u64 (ar0.shr a0 (1 : Int)) (6148914691236517205 : Int)) + (ar0.bits Go.AM.IBin.and Go.IntKind.u64 a0 (6148914691236517205 : Int))) (2 : Int)) (3689348814741910323 : Int)) + (ar0.bits Go.AM.IBin.and Go.IntKind.u64 ((ar0.bits Go.AM.IBin.and Go.IntKind.u64 (ar0.shr a0 (1 : Int)) (6148914691236517205 : Int)) + (ar0.bits Go.AM.IBin.and Go.IntKind.u64 a0 (6148914691236517205 : Int))) (3689348814741910323 : Int))) (4 : Int)) + ((ar0.bits Go.AM.IBin.and Go.IntKind.u64 (ar0.shr ((ar0.bits Go.AM.IBin.and Go.IntKind.u64 (ar0.shr a0 (1 : Int)) (6148914691236517205 : Int)) + (ar0.bits Go.AM.IBin.and Go.IntKind.u64 a0 (6148914691236517205 : Int))) (2 : Int)) (3689348814741910323 : Int)) + (ar0.bits Go.AM.IBin.and Go.IntKind.u64 ((ar0.bits Go.AM.IBin.and Go.IntKind.u64 (ar0.shr a0 (1 : Int)) (6148914691236517205 : Int)) + (ar0.bits Go.AM.IBin.and Go.IntKind.u64 a0 (6148914691236517205 : Int))) (3689348814741910323 : Int)))) (1085102592571150095 : Int)) + (ar0.shr (ar0.bits Go.AM.IBin.and Go.IntKind.u64 ((ar0.shr ((ar0.bits Go.AM.IBin.and Go.IntKind.u64 (ar0.shr ((ar0.bits Go.AM.IBin.and Go.IntKind.u64 (ar0.shr a0 (1 : Int)) (6148914691236517205 : Int)) + (ar0.bits Go.AM.IBin.and Go.IntKind.u64 a0 (6148914691236517205 : Int))) (2 : Int)) (3689348814741910323 : Int)) + (ar0.bits Go.AM.IBin.and Go.IntKind.u64 ((ar0.bits Go.AM.IBin.and Go.IntKind.u64 (ar0.shr a0 (1 : Int)) (6148914691236517205 : Int)) + (ar0.bits Go.AM.IBin.and Go.IntKind.u64 a0 (6148914691236517205 : Int))) (3689348814741910323 : Int))) (4 : Int)) + ((ar0.bits Go.AM.IBin.and Go.IntKind.u64 (ar0.shr ((ar0.bits Go.AM.IBin.and Go.IntKind.u64 (ar0.shr a0 (1 : Int)) (6148914691236517205 : Int)) + (ar0.bits Go.AM.IBin.and Go.IntKind.u64 a0 (6148914691236517205 : Int))) (2 : Int)) (3689348814741910323 : Int)) + (ar0.bits Go.AM.IBin.and Go.IntKind.u64 ((ar0.bits Go.AM.IBin.and Go.IntKind.u64 (ar0.shr a0 (1 : Int)) (6148914691236517205 : Int)) + (ar0.bits Go.AM.IBin.and Go.IntKind.u64 a0 (6148914691236517205 : Int))) (3689348814741910323 : Int)))) (1085102592571150095 : Int)) (8 : Int))) (16 : Int))) + (ar0.shr (((ar0.bits Go.AM.IBin.and Go.IntKind.u64 ((ar0.shr ((ar0.bits Go.AM.IBin.and Go.IntKind.u64 (ar0.shr ((ar0.bits Go.AM.IBin.and Go.IntKind.u64 (ar0.shr a0 (1 : Int)) (6148914691236517205 : Int)) + (ar0.bits Go.AM.IBin.and Go.IntKind.u64 a0 (6148914691236517205 : Int))) (2 : Int)) (3689348814741910323 : Int)) + (ar0.bits Go.AM.IBin.and Go.IntKind.u64 ((ar0.bits Go.AM.IBin.and Go.IntKind.u64 (ar0.shr a0 (1 : Int)) (6148914691236517205 : Int)) + (ar0.bits Go.AM.IBin.and Go.IntKind.u64 a0 (6148914691236517205 : Int))) (3689348814741910323 : Int))) (4 : Int)) + ((ar0.bits Go.AM.IBin.and Go.IntKind.u64 (ar0.shr ((ar0.bits Go.AM.IBin.and Go.IntKind.u64 (ar0.shr a0 (1 : Int)) (6148914691236517205 : Int)) + (ar0.bits Go.AM.IBin.and Go.IntKind.u64 a0 (6148914691236517205 : Int))) (2 : Int)) (3689348814741910323 : Int)) + (ar0.bits Go.AM.IBin.and Go.IntKind.u64 ((ar0.bits Go.AM.IBin.and Go.IntKind.u64 (ar0.shr a0 (1 : Int)) (6148914691236517205 : Int)) + (ar0.bits Go.AM.IBin.and Go.IntKind.u64 a0 (6148914691236517205 : Int))) (3689348814741910323 : Int)))) (1085102592571150095 : Int)) + (ar0.shr (ar0.bits Go.AM.IBin.and Go.IntKind.u64 ((ar0.shr ((ar0.bits Go.AM.IBin.and Go.IntKind.u64 (ar0.shr ((ar0.bits Go.AM.IBin.and Go.IntKind.u64 (ar0.shr a0 (1 : Int)) (6148914691236517205 : Int)) + (ar0.bits Go.AM.IBin.and Go.IntKind.u64 a0 (6148914691236517205 : Int))) (2 : Int)) (3689348814741910323 : Int)) + (ar0.bits Go.AM.IBin.and Go.IntKind.u64 ((ar0.bits Go.AM.IBin.and Go.IntKind.u64 (ar0.shr a0 (1 : Int)) (6148914691236517205 : Int)) + (ar0.bits Go.AM.IBin.and Go.IntKind.u64 a0 (6148914691236517205 : Int))) (3689348814741910323 : Int))) (4 : Int)) + ((ar0.bits Go.AM.IBin.and Go.IntKind.u64 (ar0.shr ((ar0.bits Go.AM.IBin.and Go.IntKind.u64 (ar0.shr a0 (1 : Int)) (6148914691236517205 : Int)) + (ar0.bits Go.AM.IBin.and Go.IntKind.u64 a0 (6148914691236517205 : Int))) (2 : Int)) (3689348814741910323 : Int)) + (ar0.bits Go.AM.IBin.and Go.IntKind.u64 ((ar0.bits Go.AM.IBin.and Go.IntKind.u64 (ar0.shr a0 (1 : Int)) (6148914691236517205 : Int)) + (ar0.bits Go.AM.IBin.and Go.IntKind.u64 a0 (6148914691236517205 : Int))) (3689348814741910323 : Int)))) (1085102592571150095 : Int)) (8 : Int))) + (ar0.shr ((ar0.bits Go.AM.IBin.and Go.IntKind.u64 ((ar0.shr ((ar0.bits Go.AM.IBin.and Go.IntKind.u64 (ar0.shr ((ar0.bits Go.AM.IBin.and Go.IntKind.u64 (ar0.shr a0 (1 : Int)) (6148914691236517205 : Int)) + (ar0.bits Go.AM.IBin.and Go.IntKind.u64 a0 (6148914691236517205 : Int))) (2 : Int)) (3689348814741910323 : Int)) + (ar0.bits Go.AM.IBin.and Go.IntKind.u64 ((ar0.bits Go.AM.IBin.and Go.IntKind.u64 (ar0.shr a0 (1 : Int)) (6148914691236517205 : Int)) + (ar0.bits Go.AM.IBin.and Go.IntKind.u64 a0 (6148914691236517205 : Int))) (3689348814741910323 : Int))) (4 : Int)) + ((ar0.bits Go.AM.IBin.and Go.IntKind.u64 (ar0.shr ((ar0.bits Go.AM.IBin.and Go.IntKind.u64 (ar0.shr a0 (1 : Int)) (6148914691236517205 : Int)) + (ar0.bits Go.AM.IBin.and Go.IntKind.u64 a0 (6148914691236517205 : Int))) (2 : Int)) (3689348814741910323 : Int)) + (ar0.bits Go.AM.IBin.and Go.IntKind.u64 ((ar0.bits Go.AM.IBin.and Go.IntKind.u64 (ar0.shr a0 (1 : Int)) (6148914691236517205 : Int)) + (ar0.bits Go.AM.IBin.and Go.IntKind.u64 a0 (6148914691236517205 : Int))) (3689348814741910323 : Int)))) (1085102592571150095 : Int)) + (ar0.shr (ar0.bits Go.AM.IBin.and Go.IntKind.u64 ((ar0.shr ((ar0.bits Go.AM.IBin.and Go.IntKind.u64 (ar0.shr ((ar0.bits Go.AM.IBin.and Go.IntKind.u64 (ar0.shr a0 (1 : Int)) (6148914691236517205 : Int)) + (ar0.bits Go.AM.IBin.and Go.IntKind.u64 a0 (6148914691236517205 : Int))) (2 : Int)) (3689348814741910323 : Int)) + (ar0.bits Go.AM.IBin.and Go.IntKind.u64 ((ar0.bits Go.AM.IBin.and Go.IntKind.u64 (ar0.shr a0 (1 : Int)) (6148914691236517205 : Int)) + (ar0.bits Go.AM.IBin.and Go.IntKind.u64 a0 (6148914691236517205 : Int))) (3689348814741910323 : Int))) (4 : Int)) + ((ar0.bits Go.AM.IBin.and Go.IntKind.u64 (ar0.shr ((ar0.bits Go.AM.IBin.and Go.IntKind.u64 (ar0.shr a0 (1 : Int)) (6148914691236517205 : Int)) + (ar0.bits Go.AM.IBin.and Go.IntKind.u64 a0 (6148914691236517205 : Int))) (2 : Int)) (3689348814741910323 : Int)) + (ar0.bits Go.AM.IBin.and Go.IntKind.u64 ((ar0.bits Go.AM.IBin.and Go.IntKind.u64 (ar0.shr a0 (1 : Int)) (6148914691236517205 : Int)) + (ar0.bits Go.AM.IBin.and Go.IntKind.u64 a0 (6148914691236517205 : Int))) (3689348814741910323 : Int)))) (1085102592571150095 : Int)) (8 : Int))) (16 : Int))) (32 : Int))) <|
 .ret ((ar0.bits Go.AM.IBin.and Go.IntKind.i64 ((((ar0.bits Go.AM.IBin.and Go.IntKind.u64 ((ar0.shr ((ar0.bits Go.AM.IBin.and Go.IntKind.u64 (ar0.shr ((ar0.bits Go.AM.IBin.and Go.IntKind.u64 (ar0.shr a0 (1 : Int)) (6148914691236517205 : Int)) + (ar0.bits Go.AM.IBin.and Go.IntKind.u64 a0 (6148914691236517205 : Int))) (2 : Int)) (3689348814741910323 : Int)) + (ar0.bits Go.AM.IBin.and Go.IntKind.u64 ((ar0.bits Go.AM.IBin.and Go.IntKind.u64 (ar0.shr a0 (1 : Int)) (6148914691236517205 : Int)) + (ar0.bits Go.AM.IBin.and Go.IntKind.u64 a0 (6148914691236517205 : Int))) (3689348814741910323 : Int))) (4 : Int)) + ((ar0.bits Go.AM.IBin.and Go.IntKind.u64 (ar0.shr ((ar0.bits Go.AM.IBin.and Go.IntKind.u64 (ar0.shr a0 (1 : Int)) (6148914691236517205 : Int)) + (ar0.bits Go.AM.IBin.and Go.IntKind.u64 a0 (6148914691236517205 : Int))) (2 : Int)) (3689348814741910323 : Int)) + (ar0.bits Go.AM.IBin.and Go.IntKind.u64 ((ar0.bits Go.AM.IBin.and Go.IntKind.u64 (ar0.shr a0 (1 : Int)) (6148914691236517205 : Int)) + (ar0.bits Go.AM.IBin.and Go.IntKind.u64 a0 (6148914691236517205 : Int))) (3689348814741910323 : Int)))) (1085102592571150095 : Int)) + (ar0.shr (ar0.bits Go.AM.IBin.and Go.IntKind.u64 ((ar0.shr ((ar0.bits Go.AM.IBin.and Go.IntKind.u64 (ar0.shr ((ar0.bits Go.AM.IBin.and Go.IntKind.u64 (ar0.shr a0 (1 : Int)) (6148914691236517205 : Int)) + (ar0.bits Go.AM.IBin.and Go.IntKind.u64 a0 (6148914691236517205 : Int))) (2 : Int)) (3689348814741910323 : Int)) + (ar0.bits Go.AM.IBin.and Go.IntKind.u64 ((ar0.bits Go.AM.IBin.and Go.IntKind.u64 (ar0.shr a0 (1 : Int)) (6148914691236517205 : Int)) + (ar0.bits Go.AM.IBin.and Go.IntKind.u64 a0 (6148914691236517205 : Int))) (3689348814741910323 : Int))) (4 : Int)) + ((ar0.bits Go.AM.IBin.and Go.IntKind.u64 (ar0.shr ((ar0.bits Go.AM.IBin.and Go.IntKind.u64 (ar0.shr a0 (1 : Int)) (6148914691236517205 : Int)) + (ar0.bits Go.AM.IBin.and Go.IntKind.u64 a0 (6148914691236517205 : Int))) (2 : Int)) (3689348814741910323 : Int)) + (ar0.bits Go.AM.IBin.and Go.IntKind.u64 ((ar0.bits Go.AM.IBin.and Go.IntKind.u64 (ar0.shr a0 (1 : Int)) (6148914691236517205 : Int)) + (ar0.bits Go.AM.IBin.and Go.IntKind.u64 a0 (6148914691236517205 : Int))) (3689348814741910323 : Int)))) (1085102592571150095 : Int)) (8 : Int))) + (ar0.shr ((ar0.bits Go.AM.IBin.and Go.IntKind.u64 ((ar0.shr ((ar0.bits Go.AM.IBin.and Go.IntKind.u64 (ar0.shr ((ar0.bits Go.AM.IBin.and Go.IntKind.u64 (ar0.shr a0 (1 : Int)) (6148914691236517205 : Int)) + (ar0.bits Go.AM.IBin.and Go.IntKind.u64 a0 (6148914691236517205 : Int))) (2 : Int)) (3689348814741910323 : Int)) + (ar0.bits Go.AM.IBin.and Go.IntKind.u64 ((ar0.bits Go.AM.IBin.and Go.IntKind.u64 (ar0.shr a0 (1 : Int)) (6148914691236517205 : Int)) + (ar0.bits Go.AM.IBin.and Go.IntKind.u64 a0 (6148914691236517205 : Int))) (3689348814741910323 : Int))) (4 : Int)) + ((ar0.bits Go.AM.IBin.and Go.IntKind.u64 (ar0.shr ((ar0.bits Go.AM.IBin.and Go.IntKind.u64 (ar0.shr a0 (1 : Int)) (6148914691236517205 : Int)) + (ar0.bits Go.AM.IBin.and Go.IntKind.u64 a0 (6148914691236517205 : Int))) (2 : Int)) (3689348814741910323 : Int)) + (ar0.bits Go.AM.IBin.and Go.IntKind.u64 ((ar0.bits Go.AM.IBin.and Go.IntKind.u64 (ar0.shr a0 (1 : Int)) (6148914691236517205 : Int)) + (ar0.bits Go.AM.IBin.and Go.IntKind.u64 a0 (6148914691236517205 : Int))) (3689348814741910323 : Int)))) (1085102592571150095 : Int)) + (ar0.shr (ar0.bits Go.AM.IBin.and Go.IntKind.u64 ((ar0.shr ((ar0.bits Go.AM.IBin.and Go.IntKind.u64 (ar0.shr ((ar0.bits Go.AM.IBin.and Go.IntKind.u64 (ar0.shr a0 (1 : Int)) (6148914691236517205 : Int)) + (ar0.bits Go.AM.IBin.and Go.IntKind.u64 a0 (6148914691236517205 : Int))) (2 : Int)) (3689348814741910323 : Int)) + (ar0.bits Go.AM.IBin.and Go.IntKind.u64 ((ar0.bits Go.AM.IBin.and Go.IntKind.u64 (ar0.shr a0 (1 : Int)) (6148914691236517205 : Int)) + (ar0.bits Go.AM.IBin.and Go.IntKind.u64 a0 (6148914691236517205 : Int))) (3689348814741910323 : Int))) (4 : Int)) + ((ar0.bits Go.AM.IBin.and Go.IntKind.u64 (ar0.shr ((ar0.bits Go.AM.IBin.and Go.IntKind.u64 (ar0.shr a0 (1 : Int)) (6148914691236517205 : Int)) + (ar0.bits Go.AM.IBin.and Go.IntKind.u64 a0 (6148914691236517205 : Int))) (2 : Int)) (3689348814741910323 : Int)) + (ar0.bits Go.AM.IBin.and Go.IntKind.u64 ((ar0.bits Go.AM.IBin.and Go.IntKind.u64 (ar0.shr a0 (1 : Int)) (6148914691236517205 : Int)) + (ar0.bits Go.AM.IBin.and Go.IntKind.u64 a0 (6148914691236517205 : Int))) (3689348814741910323 : Int)))) (1085102592571150095 : Int)) (8 : Int))) (16 : Int))) + (ar0.shr (((ar0.bits Go.AM.IBin.and Go.IntKind.u64 ((ar0.shr ((ar0.bits Go.AM.IBin.and Go.IntKind.u64 (ar0.shr ((ar0.bits Go.AM.IBin.and Go.IntKind.u64 (ar0.shr a0 (1 : Int)) (6148914691236517205 : Int)) + (ar0.bits Go.AM.IBin.and Go.IntKind.u64 a0 (6148914691236517205 : Int))) (2 : Int)) (3689348814741910323 : Int)) + (ar0.bits Go.AM.IBin.and Go.IntKind.u64 ((ar0.bits Go.AM.IBin.and Go.IntKind.u64 (ar0.shr a0 (1 : Int)) (6148914691236517205 : Int)) + (ar0.bits Go.AM.IBin.and Go.IntKind.u64 a0 (6148914691236517205 : Int))) (3689348814741910323 : Int))) (4 : Int)) + ((ar0.bits Go.AM.IBin.and Go.IntKind.u64 (ar0.shr ((ar0.bits Go.AM.IBin.and Go.IntKind.u64 (ar0.shr a0 (1 : Int)) (6148914691236517205 : Int)) + (ar0.bits Go.AM.IBin.and Go.IntKind.u64 a0 (6148914691236517205 : Int))) (2 : Int)) (3689348814741910323 : Int)) + (ar0.bits Go.AM.IBin.and Go.IntKind.u64 ((ar0.bits Go.AM.IBin.and Go.IntKind.u64 (ar0.shr a0 (1 : Int)) (6148914691236517205 : Int)) + (ar0.bits Go.AM.IBin.and Go.IntKind.u64 a0 (6148914691236517205 : Int))) (3689348814741910323 : Int)))) (1085102592571150095 : Int)) + (ar0.shr (ar0.bits Go.AM.IBin.and Go.IntKind.u64 ((ar0.shr ((ar0.bits Go.AM.IBin.and Go.IntKind.u64 (ar0.shr ((ar0.bits Go.AM.IBin.and Go.IntKind.u64 (ar0.shr a0 (1 : Int)) (6148914691236517205 : Int)) + (ar0.bits Go.AM.IBin.and Go.IntKind.u64 a0 (6148914691236517205 : Int))) (2 : Int)) (3689348814741910323 : Int)) + (ar0.bits Go.AM.IBin.and Go.IntKind.u64 ((ar0.bits Go.AM.IBin.and Go.IntKind.u64 (ar0.shr a0 (1 : Int)) (6148914691236517205 : Int)) + (ar0.bits Go.AM.IBin.and Go.IntKind.u64 a0 (6148914691236517205 : Int))) (3689348814741910323 : Int))) (4 : Int)) + ((ar0.bits Go.AM.IBin.and Go.IntKind.u64 (ar0.shr ((ar0.bits Go.AM.IBin.and Go.IntKind.u64 (ar0.shr a0 (1 : Int)) (6148914691236517205 : Int)) + (ar0.bits Go.AM.IBin.and Go.IntKind.u64 a0 (6148914691236517205 : Int))) (2 : Int)) (3689348814741910323 : Int)) + (ar0.bits Go.AM.IBin.and Go.IntKind.u64 ((ar0.bits Go.AM.IBin.and Go.IntKind.u64 (ar0.shr a0 (1 : Int)) (6148914691236517205 : Int)) + (ar0.bits Go.AM.IBin.and Go.IntKind.u64 a0 (6148914691236517205 : Int))) (3689348814741910323 : Int)))) (1085102592571150095 : Int)) (8 : Int))) + (ar0.shr ((ar0.bits Go.AM.IBin.and Go.IntKind.u64 ((ar0.shr ((ar0.bits Go.AM.IBin.and Go.IntKind.u64 (ar0.shr ((ar0.bits Go.AM.IBin.and Go.IntKind.u64 (ar0.shr a0 (1 : Int)) (6148914691236517205 : Int)) + (ar0.bits Go.AM.IBin.and Go.IntKind.u64 a0 (6148914691236517205 : Int))) (2 : Int)) (3689348814741910323 : Int)) + (ar0.bits Go.AM.IBin.and Go.IntKind.u64 ((ar0.bits Go.AM.IBin.and Go.IntKind.u64 (ar0.shr a0 (1 : Int)) (6148914691236517205 : Int)) + (ar0.bits Go.AM.IBin.and Go.IntKind.u64 a0 (6148914691236517205 : Int))) (3689348814741910323 : Int))) (4 : Int)) + ((ar0.bits Go.AM.IBin.and Go.IntKind.u64 (ar0.shr ((ar0.bits Go.AM.IBin.and Go.IntKind.u64 (ar0.shr a0 (1 : Int)) (6148914691236517205 : Int)) + (ar0.bits Go.AM.IBin.and Go.IntKind.u64 a0 (6148914691236517205 : Int))) (2 : Int)) (3689348814741910323 : Int)) + (ar0.bits Go.AM.IBin.and Go.IntKind.u64 ((ar0.bits Go.AM.IBin.and Go.IntKind.u64 (ar0.shr a0 (1 : Int)) (6148914691236517205 : Int)) + (ar0.bits Go.AM.IBin.and Go.IntKind.u64 a0 (6148914691236517205 : Int))) (3689348814741910323 : Int)))) (1085102592571150095 : Int)) + (ar0.shr (ar0.bits Go.AM.IBin.and Go.IntKind.u64 ((ar0.shr ((ar0.bits Go.AM.IBin.and Go.IntKind.u64 (ar0.shr ((ar0.bits Go.AM.IBin.and Go.IntKind.u64 (ar0.shr a0 (1 : Int)) (6148914691236517205 : Int)) + (ar0.bits Go.AM.IBin.and Go.IntKind.u64 a0 (6148914691236517205 : Int))) (2 : Int)) (3689348814741910323 : Int)) + (ar0.bits Go.AM.IBin.and Go.IntKind.u64 ((ar0.bits Go.AM.IBin.and Go.IntKind.u64 (ar0.shr a0 (1 : Int)) (6148914691236517205 : Int)) + (ar0.bits Go.AM.IBin.and Go.IntKind.u64 a0 (6148914691236517205 : Int))) (3689348814741910323 : Int))) (4 : Int)) + ((ar0.bits Go.AM.IBin.and Go.IntKind.u64 (ar0.shr ((ar0.bits Go.AM.IBin.and Go.IntKind.u64 (ar0.shr a0 (1 : Int)) (6148914691236517205 : Int)) + (ar0.bits Go.AM.IBin.and Go.IntKind.u64 a0 (6148914691236517205 : Int))) (2 : Int)) (3689348814741910323 : Int)) + (ar0.bits Go.AM.IBin.and Go.IntKind.u64 ((ar0.bits Go.AM.IBin.and Go.IntKind.u64 (ar0.shr a0 (1 : Int)) (6148914691236517205 : Int)) + (ar0.bits Go.AM.IBin.and Go.IntKind.u64 a0 (6148914691236517205 : Int))) (3689348814741910323 : Int)))) (1085102592571150095 : Int)) (8 : Int))) (16 : Int))) (32 : Int))) (127 : Int)), ())
theorem c110_ok : trF prog f110 = some ⟨35, 1, dd110.er, [.t 2], [some tI]⟩ := by kernel_rfl
noncomputable def ct110 : Ct := ⟨110, [.c (.hole (.int .u64))], hI, fun x => run0 (F110 x.1)⟩
theorem ct110_ok : ct110.Ok prog := ct_ok mixed cx110_ok func110 c110_ok (enters_of func110 rfl rfl) dd110 (by kernel_rfl) rfl (fun x => by kernel_rfl)

/- 99 -/
noncomputable def cx99 : Cx := mkCxH [ct110] []
theorem cx99_ok : cx99.Ok prog := mkCxH_ok ⟨ct110_ok, trivial⟩ trivial
noncomputable def dd99 : D prog 8 none 0 := dO [] (kd prog f99) 0
noncomputable def F99 (a0 : Int) : Tr0 (Int × Unit) :=
 .bd (F110 a0) fun y0 =>
 .ret (y0.1, ())
theorem c99_ok : trF prog f99 = some ⟨8, 1, dd99.er, [.t 2], [some tI]⟩ := by kernel_rfl
noncomputable def ct99 : Ct := ⟨99, [.c (.hole (.int .u64))], hI, fun x => run0 (F99 x.1)⟩
theorem ct99_ok : ct99.Ok prog := ct_ok mixed cx99_ok func99 c99_ok (enters_of func99 rfl rfl) dd99 (by kernel_rfl) rfl (fun x => by kernel_rfl)

/- 63 -/
noncomputable def cx63 : Cx := mkCxH [ct99] []
theorem cx63_ok : cx63.Ok prog := mkCxH_ok ⟨ct99_ok, trivial⟩ trivial
noncomputable def dd63 : D prog 5 none 0 := dO [] (kd prog f63) 0
noncomputable def F63 (a0 : Int) : Tr0 (Int × Unit) :=
 .bd (F99 a0) fun y0 =>
 .ret (y0.1, ())
theorem c63_ok : trF prog f63 = some ⟨5, 1, dd63.er, [.t 2], [some tI]⟩ := by kernel_rfl
noncomputable def ct63 : Ct := ⟨63, [.c (.hole (.int .u64))], hI, fun x => run0 (F63 x.1)⟩
theorem ct63_ok : ct63.Ok prog := ct_ok mixed cx63_ok func63 c63_ok (enters_of func63 rfl rfl) dd63 (by kernel_rfl) rfl (fun x => by kernel_rfl)

/- 62 -/
noncomputable def cx62 : Cx := mkCxH [ct63] []
theorem cx62_ok : cx62.Ok prog := mkCxH_ok ⟨ct63_ok, trivial⟩ trivial
noncomputable def dd62 : D prog 19 none 0 := dO [] (kd prog f62) 0
noncomputable def F62 (a0_0 : List (Int × List Int)) (a0_1c0 : List (Int × List Int)) (a0_2 : Int) (a0_3 : Int) (a1 : Int) (a2 : List Int) : Tr0 (Int × Unit) :=
 .bd (F63 a1) fun y0 =>
 .nb y0.1 (10 : Int) <|
 .nb y0.1 (((a2).length : Nat) : Int) <|
 .ni (a0_2 - (1 : Int)) <|
 .bd (F63 a1) fun y1 =>
 .ni ((a0_2 - (1 : Int)) - y1.1) <|
 .nb ((a0_2 - (1 : Int)) - y1.1) (10 : Int) <|
 .nb ((a0_2 - (1 : Int)) - y1.1) (((a2).length : Nat) : Int) <|
 .ni (((a2).getD (Int.toNat y0.1) (0 : Int)) * ((a2).getD (Int.toNat ((a0_2 - (1 : Int)) - y1.1)) (0 : Int))) <|
 .ret ((((a2).getD (Int.toNat y0.1) (0 : Int)) * ((a2).getD (Int.toNat ((a0_2 - (1 : Int)) - y1.1)) (0 : Int))), ())
theorem c62_ok : trF prog f62 = some ⟨19, 3, dd62.er, [.t 5], [some tI]⟩ := by kernel_rfl
noncomputable def ct62 : Ct := ⟨62, [.agg [.hole (.list (.prod tI tL)), .ifcs 132 false (.cons (.hole (.list (.ifc 55 true (.prod tI tL)))) .nil), .hole tI, .hole (.int .u64)], .c (.hole (.int .u64)), .c (.ipa tI)], hI, fun x => run0 (F62 x.1 x.2.1 x.2.2.1 x.2.2.2.1 x.2.2.2.2.1 x.2.2.2.2.2.1)⟩
theorem ct62_ok : ct62.Ok prog := ct_ok mixed cx62_ok func62 c62_ok (enters_of func62 rfl rfl) dd62 (by kernel_rfl) rfl (fun x => by kernel_rfl)

/- 98 -/
noncomputable def cx98_v3 : Cx := mkCxH [ct82_v1, ct90, ct83, ct74, ct62] []
theorem cx98_v3_ok : cx98_v3.Ok prog := mkCxH_ok ⟨ct82_v1_ok, ct90_ok, ct83_ok, ct74_ok, ct62_ok, trivial⟩ trivial
noncomputable def ad98_v3_0 : D prog 34 (some 3) 4 := dO [] (pick (kd prog f98) [(0, false)]) 0
noncomputable def bd98_v3_0 : D prog 34 (some 3) 4 := dO [] (pick (kd prog f98) [(0, true)]) 0
noncomputable def cx98_v3_0i : Cx := itCx cx98_v3 (fun kz => rdK kz cx98_v3 ar0 3 4 [11] (ad98_v3_0) (bd98_v3_0))
theorem cx98_v3_0i_ok : (cx98_v3_0i).Ok prog := itCx_ok cx98_v3_ok (fun h => rdK_ok mixed cx98_v3_ok h)
@[reducible] def p98_v3_0i_0 : Pat := Pat.mk [(0, .c (.yl 3)), (1, .c (.ipcs (.cons (.hole (.list (.prod tI tL))) (.cons (.ifcs 132 false (.cons (.hole (.list (.ifc 55 true (.prod tI tL)))) .nil)) (.cons (.hole tI) (.cons (.hole (.int .u64)) .nil)))))), (2, .c (.ipc tL)), (4, .c (.hole (.int .u64)))] [(3, .loop .ready none 2 [(1, .c (.ipcs (.cons (.hole (.list (.prod tI tL))) (.cons (.ifcs 132 false (.cons (.hole (.list (.ifc 55 true (.prod tI tL)))) .nil)) (.cons (.hole tI) (.cons (.hole (.int .u64)) .nil)))))), (2, .c (.ipcs (.cons (.fn 62 .nil (.cons (.ipa tI) .nil)) .nil))), (3, .c (.ptr 0 0)), (4, hI), (5, .c (.ptr 1 0)), (10, .fn 102 [] [.ipcs (.cons (.hole (.list (.prod tI tL))) (.cons (.ifcs 132 false (.cons (.hole (.list (.ifc 55 true (.prod tI tL)))) .nil)) (.cons (.hole tI) (.cons (.hole (.int .u64)) .nil)))), .ipc tL])] [11] (.reg [.op (some 6) none (.mv (.t 11))]) (.block 1 (.seq (.draw [[], [0], [], [0, 1, 2], [0, 1, 2, 3], [0, 1, 2, 3, 4], [0, 1, 2, 3, 4, 5], [0, 1, 2, 3, 4, 5, 6], [0, 1, 2, 3, 4, 5], [0, 1, 2, 3, 4, 5], [0, 1, 2, 3, 4, 5, 8, 9], [0, 1, 2, 3, 4, 5, 6, 7], [0, 1, 2, 3, 4, 5, 6, 7, 11], [0, 1, 2, 3, 4, 5, 6, 7, 8, 9, 10, 11, 12], [0, 1, 2, 3, 4, 5, 6, 7, 8, 9, 10, 11, 12, 13]] [.op (some 12) none (.fld 1 [true, false] (.t 1)), .op (some 13) none (.load false 1 (.t 12)), .op (some 14) none (.mv (.t 6)), .call (some 15) none (.m 13 [(55, 84), (132, 83)]) [.t 14] [some (.int .u64)], .op (some 16) none (.not (.t 15)), .op (some 17) none (.mv (.t 16)), .op (some 18) (some (17, true)) (.fld 1 [true, false] (.t 1)), .op (some 19) (some (17, true)) (.load false 1 (.t 18)), .op (some 20) (some (17, true)) (.mv (.t 6)), .op (some 21) (some (17, true)) (.load false 1 (.t 3)), .call (some 22) (some (17, true)) (.c (.fn 74 [] [])) [.t 20, .t 21] [some (.int .u64), some tI], .op (some 23) (some (17, true)) (.ex Xop.nchk [.t 19]), .op (some 24) (some (17, true)) (.mv (.t 19)), .call (some 25) (some (17, true)) (.m 24 [(55, 84), (132, 83)]) [.t 22] [some (.int .u64)], .op (some 26) none (.pick (.t 17) (.t 25) (.c (.tf false)))]) (.cond (.t 26) (.draw [[], [], [], [], [1, 2, 3], [0, 1, 2, 3, 4], [0, 1, 2, 3, 4, 5]] [.op (some 27) none (.load false 1 (.t 5)), .op (some 28) none (.load false 1 (.t 2)), .op (some 29) none (.load true 4 (.t 1)), .op (some 30) none (.mv (.t 6)), .call (some 31) none (.t 28) [.t 29, .t 30] [some (.prod (.prod (.list (.prod tI tL)) .unit) (.prod (.ifc 55 true (.prod tI tL)) (.prod tI (.int .u64)))), some (.int .u64)], .op (some 32) none (.bin .add (.t 27) (.t 31)), .op none none (.store 1 (.t 5) (.t 32))]) .skip))) 34), (2, .dfr), (0, .cells [.hole tI] false), (1, .cells [.hole tI] false)] [] []
@[reducible] def x98_v3_0i_0 : Outs := [(.exit 0, Pat.mk [] [(0, .cells [.hole tI] false), (1, .cells [.hole tI] false), (2, .dfr), (3, .loop .ready none 2 [(1, .c (.ipcs (.cons (.hole (.list (.prod tI tL))) (.cons (.ifcs 132 false (.cons (.hole (.list (.ifc 55 true (.prod tI tL)))) .nil)) (.cons (.hole tI) (.cons (.hole (.int .u64)) .nil)))))), (2, .c (.ipcs (.cons (.fn 62 .nil (.cons (.ipa tI) .nil)) .nil))), (3, .c (.ptr 0 0)), (4, hI), (5, .c (.ptr 1 0)), (10, .fn 102 [] [.ipcs (.cons (.hole (.list (.prod tI tL))) (.cons (.ifcs 132 false (.cons (.hole (.list (.ifc 55 true (.prod tI tL)))) .nil)) (.cons (.hole tI) (.cons (.hole (.int .u64)) .nil)))), .ipc tL])] [11] (.reg [.op (some 6) none (.mv (.t 11))]) (.block 1 (.seq (.draw [[], [0], [], [0, 1, 2], [0, 1, 2, 3], [0, 1, 2, 3, 4], [0, 1, 2, 3, 4, 5], [0, 1, 2, 3, 4, 5, 6], [0, 1, 2, 3, 4, 5], [0, 1, 2, 3, 4, 5], [0, 1, 2, 3, 4, 5, 8, 9], [0, 1, 2, 3, 4, 5, 6, 7], [0, 1, 2, 3, 4, 5, 6, 7, 11], [0, 1, 2, 3, 4, 5, 6, 7, 8, 9, 10, 11, 12], [0, 1, 2, 3, 4, 5, 6, 7, 8, 9, 10, 11, 12, 13]] [.op (some 12) none (.fld 1 [true, false] (.t 1)), .op (some 13) none (.load false 1 (.t 12)), .op (some 14) none (.mv (.t 6)), .call (some 15) none (.m 13 [(55, 84), (132, 83)]) [.t 14] [some (.int .u64)], .op (some 16) none (.not (.t 15)), .op (some 17) none (.mv (.t 16)), .op (some 18) (some (17, true)) (.fld 1 [true, false] (.t 1)), .op (some 19) (some (17, true)) (.load false 1 (.t 18)), .op (some 20) (some (17, true)) (.mv (.t 6)), .op (some 21) (some (17, true)) (.load false 1 (.t 3)), .call (some 22) (some (17, true)) (.c (.fn 74 [] [])) [.t 20, .t 21] [some (.int .u64), some tI], .op (some 23) (some (17, true)) (.ex Xop.nchk [.t 19]), .op (some 24) (some (17, true)) (.mv (.t 19)), .call (some 25) (some (17, true)) (.m 24 [(55, 84), (132, 83)]) [.t 22] [some (.int .u64)], .op (some 26) none (.pick (.t 17) (.t 25) (.c (.tf false)))]) (.cond (.t 26) (.draw [[], [], [], [], [1, 2, 3], [0, 1, 2, 3, 4], [0, 1, 2, 3, 4, 5]] [.op (some 27) none (.load false 1 (.t 5)), .op (some 28) none (.load false 1 (.t 2)), .op (some 29) none (.load true 4 (.t 1)), .op (some 30) none (.mv (.t 6)), .call (some 31) none (.t 28) [.t 29, .t 30] [some (.prod (.prod (.list (.prod tI tL)) .unit) (.prod (.ifc 55 true (.prod tI tL)) (.prod tI (.int .u64)))), some (.int .u64)], .op (some 32) none (.bin .add (.t 27) (.t 31)), .op none none (.store 1 (.t 5) (.t 32))]) .skip))) 34)] [] [])]
noncomputable def b98_v3_0i_0 : D prog 22 none 4 := dO [] (pick (kd prog f102) [(0, false)]) 0
noncomputable def g98_v3_0i_0 : (List (Int × List Int)) × (List (Int × List Int)) × Int × Int × List Int × Int × (List (Int × List Int)) × (List (Int × List Int)) × Int × Int × List Int × Int × (List (Int × List Int)) × (List (Int × List Int)) × Int × Int × List Int × Int × Int × Unit → Tr0 (((List (Int × List Int)) × (List (Int × List Int)) × Int × Int × List Int × Int × (List (Int × List Int)) × (List (Int × List Int)) × Int × Int × List Int × Int × (List (Int × List Int)) × (List (Int × List Int)) × Int × Int × List Int × Int × Int × Unit) ⊕ ((Int × Int × (List (Int × List Int)) × (List (Int × List Int)) × Int × Int × List Int × Int × (List (Int × List Int)) × (List (Int × List Int)) × Int × Int × List Int × Unit))) := fun (v1c0, v1c1c0, v1c2, v1c3, v2, v4, w1c0, w1c1c0, w1c2, w1c3, w2c0c0, w4, w10_0c0, w10_0c1c0, w10_0c2, w10_0c3, w10_1, c0_0, c1_0, _) =>
 .br (decide (v4 ≤ v1c3)) (
 .bd (F90 v4 v2) fun y1 =>
 .br (v4 == y1.1) (
 .bd (F83 w1c1c0 v4) fun y2 =>
 .br (!y2.1) (
 .bd (F74 v4 c0_0) fun y3 =>
 .bd (F83 w1c1c0 y3.1) fun y4 =>
 .br y4.1 (
 .bd (F62 w1c0 w1c1c0 w1c2 w1c3 v4 w2c0c0) fun y5 =>
 .ni (c1_0 + y5.1) <|
 .nd (rng .u64 (v4 + (1 : Int))) <|
 .ret (.inl (v1c0, (v1c1c0, (v1c2, (v1c3, (v2, ((v4 + (1 : Int)), (w1c0, (w1c1c0, (w1c2, (w1c3, (w2c0c0, (w4, (w10_0c0, (w10_0c1c0, (w10_0c2, (w10_0c3, (w10_1, (c0_0, ((c1_0 + y5.1), ()))))))))))))))))))))) (
 .nd (rng .u64 (v4 + (1 : Int))) <|
 .ret (.inl (v1c0, (v1c1c0, (v1c2, (v1c3, (v2, ((v4 + (1 : Int)), (w1c0, (w1c1c0, (w1c2, (w1c3, (w2c0c0, (w4, (w10_0c0, (w10_0c1c0, (w10_0c2, (w10_0c3, (w10_1, (c0_0, (c1_0, ())))))))))))))))))))))) (
 .nd (rng .u64 (v4 + (1 : Int))) <|
 .ret (.inl (v1c0, (v1c1c0, (v1c2, (v1c3, (v2, ((v4 + (1 : Int)), (w1c0, (w1c1c0, (w1c2, (w1c3, (w2c0c0, (w4, (w10_0c0, (w10_0c1c0, (w10_0c2, (w10_0c3, (w10_1, (c0_0, (c1_0, ())))))))))))))))))))))) (
 .nd (rng .u64 (v4 + (1 : Int))) <|
 .ret (.inl (v1c0, (v1c1c0, (v1c2, (v1c3, (v2, ((v4 + (1 : Int)), (w1c0, (w1c1c0, (w1c2, (w1c3, (w2c0c0, (w4, (w10_0c0, (w10_0c1c0, (w10_0c2, (w10_0c3, (w10_1, (c0_0, (c1_0, ())))))))))))))))))))))) (
 .ret (.inr (c0_0, (c1_0, (w1c0, (w1c1c0, (w1c2, (w1c3, (w2c0c0, (w4, (w10_0c0, (w10_0c1c0, (w10_0c2, (w10_0c3, (w10_1, ())))))))))))))))
theorem s98_v3_0i_0 : ∀ x, roundE (kzO (p98_v3_0i_0.T ⊕ x98_v3_0i_0.T)) cx98_v3_0i ar0 [0, 1, 2, 3] p98_v3_0i_0 x98_v3_0i_0 (b98_v3_0i_0) (fun y => some (.inl y)) (fun b => some (.inr b)) x = run0 (g98_v3_0i_0 x) := fun x => by kernel_rfl
noncomputable def L98_v3_0i_0 : LoopS prog 22 none 4 := mkLoop mixed cx98_v3_0i cx98_v3_0i_ok [0, 1, 2, 3] rfl p98_v3_0i_0 x98_v3_0i_0 rfl (b98_v3_0i_0) (fun x => run0 (g98_v3_0i_0 x)) (s98_v3_0i_0)
@[reducible] def p98_v3_0 : Pat := Pat.mk [(1, .c (.ipcs (.cons (.hole (.list (.prod tI tL))) (.cons (.ifcs 132 false (.cons (.hole (.list (.ifc 55 true (.prod tI tL)))) .nil)) (.cons (.hole tI) (.cons (.hole (.int .u64)) .nil)))))), (2, .c (.ipcs (.cons (.fn 62 .nil (.cons (.ipa tI) .nil)) .nil))), (3, .c (.ptr 0 0)), (4, hI), (5, .c (.ptr 1 0)), (10, .fn 102 [] [.ipcs (.cons (.hole (.list (.prod tI tL))) (.cons (.ifcs 132 false (.cons (.hole (.list (.ifc 55 true (.prod tI tL)))) .nil)) (.cons (.hole tI) (.cons (.hole (.int .u64)) .nil)))), .ipc tL])] [(0, .cells [.hole tI] false), (1, .cells [.hole tI] false)] [.slot 3, .slot 5] []
@[reducible] def x98_v3_0 : Outs := [(.normal, Pat.mk [(5, .c (.ptr 0 0))] [(0, .cells [.hole tI] false), (1, .dfr)] [.slot 5, .mark 0] [1])]
noncomputable def b98_v3_0i : D prog 22 none 4 := dO [.l L98_v3_0i_0] (kd prog f102) 0
theorem ci98_v3_0 : trF prog f102 = some ⟨22, 3, (b98_v3_0i).er, [], []⟩ := by kernel_rfl
noncomputable def g98_v3_0 : (List (Int × List Int)) × (List (Int × List Int)) × Int × Int × List Int × Int × (List (Int × List Int)) × (List (Int × List Int)) × Int × Int × List Int × Int × Int × Unit → Tr0 ((Int × Unit)) := fun (v1c0, v1c1c0, v1c2, v1c3, v2c0c0, v4, v10_0c0, v10_0c1c0, v10_0c2, v10_0c3, v10_1, c0_0, c1_0, _) =>
 .bd (.it g98_v3_0i_0 (v10_0c0, (v10_0c1c0, (v10_0c2, (v10_0c3, (v10_1, ((0 : Int), (v1c0, (v1c1c0, (v1c2, (v1c3, (v2c0c0, (v4, (v10_0c0, (v10_0c1c0, (v10_0c2, (v10_0c3, (v10_1, (c0_0, (c1_0, ())))))))))))))))))))) fun z6 =>
 .ret ((z6.2.1, ()))
theorem s98_v3_0 : ∀ x, rangeE (N := 34) (out := none) (base := 0) (kzO x98_v3_0.T) cx98_v3_0i ar0 [] p98_v3_0 x98_v3_0 ( .t 10) [11] (ad98_v3_0).er (bd98_v3_0).er [] 3 102 (b98_v3_0i) some x = run0 (g98_v3_0 x) := fun x => by kernel_rfl
noncomputable def R98_v3_0 : RangeS prog 34 none 0 := mkRange mixed cx98_v3_0i cx98_v3_0i_ok [] rfl p98_v3_0 x98_v3_0 ( .t 10) [11] rfl (ad98_v3_0).er (bd98_v3_0).er 102 func102 (ci98_v3_0) (enters_of func102 rfl rfl) 4 rfl (b98_v3_0i) rfl (fun x => run0 (g98_v3_0 x)) (s98_v3_0)
noncomputable def dd98_v3 : D prog 34 none 0 := dO [.r R98_v3_0] (kd prog f98) 0
noncomputable def F98_v3 (a0 : Int) (a1c0 : List (Int × List Int)) (a1c1c0 : List (Int × List Int)) (a1c2 : Int) (a1c3 : Int) (a2c0c0 : List Int) : Tr0 (Int × Unit) :=
 .bd (F82_v1 a1c0 a1c1c0 a1c2 a1c3 ((((a0 :: [])).drop (0 : Nat)).take (1 : Nat))) fun y0 =>
 .bd (g98_v3_0 (a1c0, (a1c1c0, (a1c2, (a1c3, (a2c0c0, ((0 : Int), (y0.1, (y0.2.1, (y0.2.2.1, (y0.2.2.2.1, (y0.2.2.2.2.1, (a0, ((0 : Int), ())))))))))))))) fun z7 =>
 .ret (z7.1, ())
theorem c98_v3_ok : trF prog f98 = some ⟨34, 3, dd98_v3.er, [.t 4], [some tI]⟩ := by kernel_rfl
noncomputable def ct98_v3 : Ct := ⟨98, [hI, .c (.ipcs (.cons (.hole (.list (.prod tI tL))) (.cons (.ifcs 132 false (.cons (.hole (.list (.ifc 55 true (.prod tI tL)))) .nil)) (.cons (.hole tI) (.cons (.hole (.int .u64)) .nil))))), .c (.ipcs (.cons (.fn 62 .nil (.cons (.ipa tI) .nil)) .nil))], hI, fun x => run0 (F98_v3 x.1 x.2.1 x.2.2.1 x.2.2.2.1 x.2.2.2.2.1 x.2.2.2.2.2.1)⟩
theorem ct98_v3_ok : ct98_v3.Ok prog := ct_ok mixed cx98_v3_ok func98 c98_v3_ok (enters_of func98 rfl rfl) dd98_v3 (by kernel_rfl) rfl (fun x => by kernel_rfl)

/- 87 -/
noncomputable def cx87_v5 : Cx := mkCxH [ct98_v3] []
theorem cx87_v5_ok : cx87_v5.Ok prog := mkCxH_ok ⟨ct98_v3_ok, trivial⟩ trivial
@[reducible] def p87_v5_0 : Pat := Pat.mk [(1, .fn 98 [] [.ipcs (.cons (.hole (.list (.prod tI tL))) (.cons (.ifcs 132 false (.cons (.hole (.list (.ifc 55 true (.prod tI tL)))) .nil)) (.cons (.hole tI) (.cons (.hole (.int .u64)) .nil)))), .ipcs (.cons (.fn 62 .nil (.cons (.ipa tI) .nil)) .nil)]), (5, .c (.sl0 0 tI)), (8, hI), (9, hI)] [(0, .arr tI false)] [.slot 5] []
@[reducible] def x87_v5_0 : Outs := [(.exit 0, Pat.mk [(5, .c (.sl0 0 tI))] [(0, .arr tI false)] [.slot 5] [])]
noncomputable def b87_v5_0 : D prog 20 none 0 := dO [] (pick (kd prog f87) [(0, false)]) 0
noncomputable def g87_v5_0 : (List (Int × List Int)) × (List (Int × List Int)) × Int × Int × List Int × Nat × Int × Int × List Int × Unit → Tr0 (((List (Int × List Int)) × (List (Int × List Int)) × Int × Int × List Int × Nat × Int × Int × List Int × Unit) ⊕ ((Nat × List Int × Unit))) := fun (v1_0c0, v1_0c1c0, v1_0c2, v1_0c3, v1_1c0c0, nv5, v8, v9, b0, _) =>
 .br (decide (v9 < v8)) (
 .bd (F98_v3 v9 v1_0c0 v1_0c1c0 v1_0c2 v1_0c3 v1_1c0c0) fun y0 =>
 .nd (decide ((nv5 + (((((y0.1 :: [])).drop (0 : Nat)).take (1 : Nat))).length) < bigL)) <|
 .ni (v9 + (1 : Int)) <|
 .ret (.inl (v1_0c0, (v1_0c1c0, (v1_0c2, (v1_0c3, (v1_1c0c0, ((nv5 + (((((y0.1 :: [])).drop (0 : Nat)).take (1 : Nat))).length), (v8, ((v9 + (1 : Int)), (((((b0).drop (0 : Nat)).take nv5) ++ ((((y0.1 :: [])).drop (0 : Nat)).take (1 : Nat))), ()))))))))))) (
 .ret (.inr (nv5, (b0, ()))))
theorem s87_v5_0 : ∀ x, roundE (kzO (p87_v5_0.T ⊕ x87_v5_0.T)) cx87_v5 ar0 [] p87_v5_0 x87_v5_0 (b87_v5_0) (fun y => some (.inl y)) (fun b => some (.inr b)) x = run0 (g87_v5_0 x) := fun x => by kernel_rfl
noncomputable def L87_v5_0 : LoopS prog 20 none 0 := mkLoop mixed cx87_v5 cx87_v5_ok [] rfl p87_v5_0 x87_v5_0 rfl (b87_v5_0) (fun x => run0 (g87_v5_0 x)) (s87_v5_0)
noncomputable def dd87_v5 : D prog 20 none 0 := dO [.l L87_v5_0] (kd prog f87) 0
noncomputable def F87_v5 (a0_0 : List (Int × List Int)) (a0_1c0 : List (Int × List Int)) (a0_2 : Int) (a0_3 : Int) (a1_0c0 : List (Int × List Int)) (a1_0c1c0 : List (Int × List Int)) (a1_0c2 : Int) (a1_0c3 : Int) (a1_1c0c0 : List Int) : Tr0 (List Int × Unit) :=
 .bd (.it g87_v5_0 (a1_0c0, (a1_0c1c0, (a1_0c2, (a1_0c3, (a1_1c0c0, ((0 : Nat), (a0_2, ((0 : Int), ([], ())))))))))) fun z1 =>
 .ret ((((z1.2.1).drop (0 : Nat)).take z1.1), ())
theorem c87_v5_ok : trF prog f87 = some ⟨20, 2, dd87_v5.er, [.t 4], [some tL]⟩ := by kernel_rfl
noncomputable def ct87_v5 : Ct := ⟨87, [.agg [.hole (.list (.prod tI tL)), .ifcs 132 false (.cons (.hole (.list (.ifc 55 true (.prod tI tL)))) .nil), .hole tI, .hole (.int .u64)], .fn 98 [] [.ipcs (.cons (.hole (.list (.prod tI tL))) (.cons (.ifcs 132 false (.cons (.hole (.list (.ifc 55 true (.prod tI tL)))) .nil)) (.cons (.hole tI) (.cons (.hole (.int .u64)) .nil)))), .ipcs (.cons (.fn 62 .nil (.cons (.ipa tI) .nil)) .nil)]], hL, fun x => run0 (F87_v5 x.1 x.2.1 x.2.2.1 x.2.2.2.1 x.2.2.2.2.1 x.2.2.2.2.2.1 x.2.2.2.2.2.2.1 x.2.2.2.2.2.2.2.1 x.2.2.2.2.2.2.2.2.1)⟩
theorem ct87_v5_ok : ct87_v5.Ok prog := ct_ok mixed cx87_v5_ok func87 c87_v5_ok (enters_of func87 rfl rfl) dd87_v5 (by kernel_rfl) rfl (fun x => by kernel_rfl)

/- 58 -/
noncomputable def cx58_v1 : Cx := mkCxH [ct66, ct87_v4, ct87_v5] []
theorem cx58_v1_ok : cx58_v1.Ok prog := mkCxH_ok ⟨ct66_ok, ct87_v4_ok, ct87_v5_ok, trivial⟩ trivial
noncomputable def dd58_v1 : D prog 19 none 0 := dO [] (kd prog f58) 0
noncomputable def F58_v1 (a0_0 : List (Int × List Int)) (a1_0 : List Int) : Tr0 (List Int × Int × Unit) :=
 .bd (F66 a0_0) fun y0 =>
 .sm y0 (fun y1 =>
 .br (!(y1.2.2.2.1 == (0 : Int))) (
 .ret ([], (y1.2.2.2.1, ()))) (
 .bd (F87_v4 y1.1 y1.2.1 y1.2.2.1 y1.1 y1.2.1 y1.2.2.1 a1_0) fun y2 =>
 .ret (y2.1, ((0 : Int), ())))) fun y3 =>
 .br (!(y3.2.2.2.2.1 == (0 : Int))) (
 .ret ([], (y3.2.2.2.2.1, ()))) (
 .bd (F87_v5 y3.1 y3.2.1 y3.2.2.1 y3.2.2.2.1 y3.1 y3.2.1 y3.2.2.1 y3.2.2.2.1 a1_0) fun y4 =>
 .ret (y4.1, ((0 : Int), ())))
theorem c58_v1_ok : trF prog f58 = some ⟨19, 2, dd58_v1.er, [.t 4, .t 5], [some tL, some tI]⟩ := by kernel_rfl
noncomputable def ct58_v1 : Ct := ⟨58, [.agg [.hole (.list (.prod tI tL))], .fn 62 [] [.ipa tI]], .tup [.hole tL, .hole tI], fun x => run0 (F58_v1 x.1 x.2.1)⟩
theorem ct58_v1_ok : ct58_v1.Ok prog := ct_ok mixed cx58_v1_ok func58 c58_v1_ok (enters_of func58 rfl rfl) dd58_v1 (by kernel_rfl) rfl (fun x => by kernel_rfl)

/- 20 -/
noncomputable def cx20 : Cx := mkCxH [ct58_v1] []
theorem cx20_ok : cx20.Ok prog := mkCxH_ok ⟨ct58_v1_ok, trivial⟩ trivial
@[reducible] def p20_0 : Pat := Pat.mk [(1, .c (.ptr 0 0)), (4, .c (.pa 1 tI 10)), (5, hI)] [(0, .cells [.hole (.list (.prod tI tL))] false), (1, .arr tI false)] [.slot 1, .slot 4] []
@[reducible] def x20_0 : Outs := [(.exit 0, Pat.mk [(1, .c (.ptr 0 0)), (4, .c (.pa 1 tI 10))] [(0, .cells [.hole (.list (.prod tI tL))] false), (1, .arr tI false)] [.slot 1, .slot 4] [])]
noncomputable def b20_0 : D prog 24 none 0 := dO [] (pick (kd prog f20) [(0, false)]) 0
noncomputable def g20_0 : Int × (List (Int × List Int)) × List Int × Unit → Tr0 ((Int × (List (Int × List Int)) × List Int × Unit) ⊕ (((List (Int × List Int)) × List Int × Unit))) := fun (v5, c0_0, b1, _) =>
 .br (decide (v5 < (10 : Int))) (
 .ni (v5 - (1 : Int)) <|
 .nb (v5 - (1 : Int)) (10 : Int) <|
 .nd (decide ((Int.toNat (v5 - (1 : Int))) < (b1).length)) <|
 .ni (v5 * ((b1).getD (Int.toNat (v5 - (1 : Int))) (0 : Int))) <|
 .nb v5 (10 : Int) <|
 .nd (decide ((Int.toNat v5) < (b1).length)) <|
 .ni (v5 + (1 : Int)) <|
 .ret (.inl ((v5 + (1 : Int)), (c0_0, (((b1).set (Int.toNat v5) (v5 * ((b1).getD (Int.toNat (v5 - (1 : Int))) (0 : Int)))), ()))))) (
 .ret (.inr (c0_0, (b1, ()))))
theorem s20_0 : ∀ x, roundE (kzO (p20_0.T ⊕ x20_0.T)) cx20 ar0 [] p20_0 x20_0 (b20_0) (fun y => some (.inl y)) (fun b => some (.inr b)) x = run0 (g20_0 x) := fun x => by kernel_rfl
noncomputable def L20_0 : LoopS prog 24 none 0 := mkLoop mixed cx20 cx20_ok [] rfl p20_0 x20_0 rfl (b20_0) (fun x => run0 (g20_0 x)) (s20_0)
noncomputable def dd20 : D prog 24 none 0 := dO [.l L20_0] (kd prog f20) 0
noncomputable def F20 (a0_0 : List (Int × List Int)) : Tr0 (List Int × Int × Unit) :=
 .nd (decide ((0 : Nat) < ((List.replicate (10 : Nat) (0 : Int))).length)) <|
 .bd (.it g20_0 ((1 : Int), (a0_0, ((((List.replicate (10 : Nat) (0 : Int))).set (0 : Nat) (1 : Int)), ())))) fun z0 =>
 .bd (F58_v1 z0.1 z0.2.1) fun y1 =>
 .ret (y1.1, (y1.2.1, ()))
theorem c20_ok : trF prog f20 = some ⟨24, 1, dd20.er, [.t 2, .t 3], [some tL, some tI]⟩ := by kernel_rfl
noncomputable def ct20 : Ct := ⟨20, [.agg [.hole (.list (.prod tI tL))]], .tup [.hole tL, .hole tI], fun x => run0 (F20 x.1)⟩
theorem ct20_ok : ct20.Ok prog := ct_ok mixed cx20_ok func20 c20_ok (enters_of func20 rfl rfl) dd20 (by kernel_rfl) rfl (fun x => by kernel_rfl)

/- 22 -/
noncomputable def cx22 : Cx := mkCxH [] []
theorem cx22_ok : cx22.Ok prog := mkCxH_ok trivial trivial
@[reducible] def p22_0 : Pat := Pat.mk [(0, hL), (1, hL), (5, hI)] [] [] []
@[reducible] def x22_0 : Outs := [(.ret, Pat.mk [(4, .c (.tf false))] [] [] []), (.exit 0, Pat.mk [] [] [] [])]
noncomputable def b22_0 : D prog 26 none 0 := dO [] (pick (kd prog f22) [(0, false)]) 0
noncomputable def g22_0 : List Int × List Int × Int × Unit → Tr0 ((List Int × List Int × Int × Unit) ⊕ ((Unit) ⊕ ((Unit)))) := fun (v0, v1, v5, _) =>
 .br (decide (v5 < (((v0).length : Nat) : Int))) (
 .nb v5 (((v0).length : Nat) : Int) <|
 .nb v5 (((v1).length : Nat) : Int) <|
 .br (!(((v0).getD (Int.toNat v5) (0 : Int)) == ((v1).getD (Int.toNat v5) (0 : Int)))) (
 .ret (.inr <| .inl <| ())) (
 .ni (v5 + (1 : Int)) <|
 .ret (.inl (v0, (v1, ((v5 + (1 : Int)), ())))))) (
 .ret (.inr <| .inr <| ()))
theorem s22_0 : ∀ x, roundE (kzO (p22_0.T ⊕ x22_0.T)) cx22 ar0 [] p22_0 x22_0 (b22_0) (fun y => some (.inl y)) (fun b => some (.inr b)) x = run0 (g22_0 x) := fun x => by kernel_rfl
noncomputable def L22_0 : LoopS prog 26 none 0 := mkLoop mixed cx22 cx22_ok [] rfl p22_0 x22_0 rfl (b22_0) (fun x => run0 (g22_0 x)) (s22_0)
noncomputable def dd22 : D prog 26 none 0 := dO [.l L22_0] (kd prog f22) 0
noncomputable def F22 (a0 : List Int) (a1 : List Int) : Tr0 (Bool × Unit) :=
 .br (!((((a0).length : Nat) : Int) == (((a1).length : Nat) : Int))) (
 .ret (false, ())) (
 .bd (.it g22_0 (a0, (a1, ((0 : Int), ())))) fun z0 =>
 .sm z0 (fun z1 =>
 .ret (false, ())) fun z2 =>
 .ret (true, ()))
theorem c22_ok : trF prog f22 = some ⟨26, 2, dd22.er, [.t 4], [some .bool]⟩ := by kernel_rfl
noncomputable def ct22 : Ct := ⟨22, [hL, hL], .c (.hole .bool), fun x => run0 (F22 x.1 x.2.1)⟩
theorem ct22_ok : ct22.Ok prog := ct_ok mixed cx22_ok func22 c22_ok (enters_of func22 rfl rfl) dd22 (by kernel_rfl) rfl (fun x => by kernel_rfl)

/- 49 -/
noncomputable def cx49 : Cx := mkCxH [ct22] []
theorem cx49_ok : cx49.Ok prog := mkCxH_ok ⟨ct22_ok, trivial⟩ trivial
@[reducible] def p49_0 : Pat := Pat.mk [(0, hLL), (1, hLL), (5, hI)] [] [] []
@[reducible] def x49_0 : Outs := [(.ret, Pat.mk [(4, .c (.tf false))] [] [] []), (.exit 0, Pat.mk [] [] [] [])]
noncomputable def b49_0 : D prog 27 none 0 := dO [] (pick (kd prog f49) [(0, false)]) 0
noncomputable def g49_0 : List (List Int) × List (List Int) × Int × Unit → Tr0 ((List (List Int) × List (List Int) × Int × Unit) ⊕ ((Unit) ⊕ ((Unit)))) := fun (v0, v1, v5, _) =>
 .br (decide (v5 < (((v0).length : Nat) : Int))) (
 .nb v5 (((v0).length : Nat) : Int) <|
 .nb v5 (((v1).length : Nat) : Int) <|
 .bd (F22 ((v0).getD (Int.toNat v5) []) ((v1).getD (Int.toNat v5) [])) fun y0 =>
 .br (!y0.1) (
 .ret (.inr <| .inl <| ())) (
 .ni (v5 + (1 : Int)) <|
 .ret (.inl (v0, (v1, ((v5 + (1 : Int)), ())))))) (
 .ret (.inr <| .inr <| ()))
theorem s49_0 : ∀ x, roundE (kzO (p49_0.T ⊕ x49_0.T)) cx49 ar0 [] p49_0 x49_0 (b49_0) (fun y => some (.inl y)) (fun b => some (.inr b)) x = run0 (g49_0 x) := fun x => by kernel_rfl
noncomputable def L49_0 : LoopS prog 27 none 0 := mkLoop mixed cx49 cx49_ok [] rfl p49_0 x49_0 rfl (b49_0) (fun x => run0 (g49_0 x)) (s49_0)
noncomputable def dd49 : D prog 27 none 0 := dO [.l L49_0] (kd prog f49) 0
noncomputable def F49 (a0 : List (List Int)) (a1 : List (List Int)) : Tr0 (Bool × Unit) :=
 .br (!((((a0).length : Nat) : Int) == (((a1).length : Nat) : Int))) (
 .ret (false, ())) (
 .bd (.it g49_0 (a0, (a1, ((0 : Int), ())))) fun z1 =>
 .sm z1 (fun z2 =>
 .ret (false, ())) fun z3 =>
 .ret (true, ()))
theorem c49_ok : trF prog f49 = some ⟨27, 2, dd49.er, [.t 4], [some .bool]⟩ := by kernel_rfl
noncomputable def ct49 : Ct := ⟨49, [hLL, hLL], .c (.hole .bool), fun x => run0 (F49 x.1 x.2.1)⟩
theorem ct49_ok : ct49.Ok prog := ct_ok mixed cx49_ok func49 c49_ok (enters_of func49 rfl rfl) dd49 (by kernel_rfl) rfl (fun x => by kernel_rfl)

/- 68 -/
noncomputable def cx68 : Cx := mkCxH [ct82, ct90, ct74] []
theorem cx68_ok : cx68.Ok prog := mkCxH_ok ⟨ct82_ok, ct90_ok, ct74_ok, trivial⟩ trivial
noncomputable def ad68_0 : D prog 35 (some 6) 7 := dO [] (pick (kd prog f68) [(0, false)]) 0
noncomputable def bd68_0 : D prog 35 (some 6) 7 := dO [] (pick (kd prog f68) [(0, true)]) 0
noncomputable def cx68_0i : Cx := itCx cx68 (fun kz => rdK kz cx68 ar0 6 7 [14] (ad68_0) (bd68_0))
theorem cx68_0i_ok : (cx68_0i).Ok prog := itCx_ok cx68_ok (fun h => rdK_ok mixed cx68_ok h)
@[reducible] def p68_0i_0 : Pat := Pat.mk [(0, .c (.yl 6)), (1, .c (.ipcs (.cons (.hole (.list (.prod tI tL))) (.cons .nili (.cons (.hole tI) (.cons (.hole (.int .u64)) .nil)))))), (2, .c (.ipc tL)), (4, .c (.hole (.int .u64)))] [(6, .loop .ready none 5 [(3, .c (.ptr 0 0)), (4, .c (.ptr 1 0)), (5, .c (.ptr 2 0)), (6, .c (.ptr 3 0)), (7, .c (.ptr 4 0)), (13, .fn 102 [] [.ipcs (.cons (.hole (.list (.prod tI tL))) (.cons .nili (.cons (.hole tI) (.cons (.hole (.int .u64)) .nil)))), .ipc tL])] [14] (.reg [.op (some 8) none (.mv (.t 14))]) (.block 1 (.seq (.draw [[], [0], [], [], [2, 3], [0, 1], [0, 1, 5], [0, 1, 2, 3, 4, 5, 6], [0, 1, 2, 3, 4, 5, 6, 7], [0, 1, 2, 3, 4, 5, 6, 7, 8], [0, 1, 2, 3, 4, 5, 6, 7, 8, 9], [0, 1, 2, 3, 4, 5, 6, 7, 8], [0, 1, 2, 3, 4, 5, 6, 7, 8], [0, 1, 2, 3, 4, 5, 6, 7, 8, 11, 12], [0, 1, 2, 3, 4, 5, 6, 7, 8, 9, 10], [0, 1, 2, 3, 4, 5, 6, 7, 8, 9, 10, 14], [0, 1, 2, 3, 4, 5, 6, 7, 8, 9, 10, 11, 12, 13, 14, 15], [0, 1, 2, 3, 4, 5, 6, 7, 8, 9, 10, 11, 12, 13, 14, 15, 16], [0, 1, 2, 3, 4, 5, 6, 7, 8, 9, 10, 11, 12, 13, 14, 15, 16, 17]] [.op (some 15) none (.fld 1 [true, false] (.t 3)), .op (some 16) none (.load false 1 (.t 15)), .op (some 17) none (.mv (.t 8)), .op (some 18) none (.load false 1 (.t 4)), .call (some 19) none (.c (.fn 74 [] [])) [.t 17, .t 18] [some (.int .u64), some tI], .op (some 20) none (.ex Xop.nchk [.t 16]), .op (some 21) none (.mv (.t 16)), .call (some 22) none (.m 21 [(55, 84), (132, 83)]) [.t 19] [some (.int .u64)], .op (some 23) none (.mv (.t 22)), .op (some 24) (some (23, true)) (.fld 1 [true, false] (.t 3)), .op (some 25) (some (23, true)) (.load false 1 (.t 24)), .op (some 26) (some (23, true)) (.mv (.t 8)), .op (some 27) (some (23, true)) (.load false 1 (.t 5)), .call (some 28) (some (23, true)) (.c (.fn 74 [] [])) [.t 26, .t 27] [some (.int .u64), some tI], .op (some 29) (some (23, true)) (.ex Xop.nchk [.t 25]), .op (some 30) (some (23, true)) (.mv (.t 25)), .call (some 31) (some (23, true)) (.m 30 [(55, 84), (132, 83)]) [.t 28] [some (.int .u64)], .op (some 32) (some (23, true)) (.not (.t 31)), .op (some 33) none (.pick (.t 23) (.t 32) (.c (.tf false)))]) (.cond (.t 33) (.seq (.reg [.op (some 34) none (.mv (.t 8)), .op none none (.store 1 (.t 6) (.t 34)), .op none none (.store 1 (.t 7) (.c (.tf true)))]) .ret) .skip))) 35), (5, .dfr), (0, .cells [.hole (.list (.prod tI tL)), .nili, .hole tI, .hole (.int .u64)] false), (1, .cells [.hole tI] false), (2, .cells [.hole tI] false), (3, .cells [.hole (.int .u64)] false), (4, .cells [.tf false] false)] [] []
@[reducible] def x68_0i_0 : Outs := [(.exit 0, Pat.mk [] [(0, .cells [.hole (.list (.prod tI tL)), .nili, .hole tI, .hole (.int .u64)] false), (1, .cells [.hole tI] false), (2, .cells [.hole tI] false), (3, .cells [.hole (.int .u64)] false), (4, .cells [.tf false] false), (5, .dfr), (6, .loop .ready none 5 [(3, .c (.ptr 0 0)), (4, .c (.ptr 1 0)), (5, .c (.ptr 2 0)), (6, .c (.ptr 3 0)), (7, .c (.ptr 4 0)), (13, .fn 102 [] [.ipcs (.cons (.hole (.list (.prod tI tL))) (.cons .nili (.cons (.hole tI) (.cons (.hole (.int .u64)) .nil)))), .ipc tL])] [14] (.reg [.op (some 8) none (.mv (.t 14))]) (.block 1 (.seq (.draw [[], [0], [], [], [2, 3], [0, 1], [0, 1, 5], [0, 1, 2, 3, 4, 5, 6], [0, 1, 2, 3, 4, 5, 6, 7], [0, 1, 2, 3, 4, 5, 6, 7, 8], [0, 1, 2, 3, 4, 5, 6, 7, 8, 9], [0, 1, 2, 3, 4, 5, 6, 7, 8], [0, 1, 2, 3, 4, 5, 6, 7, 8], [0, 1, 2, 3, 4, 5, 6, 7, 8, 11, 12], [0, 1, 2, 3, 4, 5, 6, 7, 8, 9, 10], [0, 1, 2, 3, 4, 5, 6, 7, 8, 9, 10, 14], [0, 1, 2, 3, 4, 5, 6, 7, 8, 9, 10, 11, 12, 13, 14, 15], [0, 1, 2, 3, 4, 5, 6, 7, 8, 9, 10, 11, 12, 13, 14, 15, 16], [0, 1, 2, 3, 4, 5, 6, 7, 8, 9, 10, 11, 12, 13, 14, 15, 16, 17]] [.op (some 15) none (.fld 1 [true, false] (.t 3)), .op (some 16) none (.load false 1 (.t 15)), .op (some 17) none (.mv (.t 8)), .op (some 18) none (.load false 1 (.t 4)), .call (some 19) none (.c (.fn 74 [] [])) [.t 17, .t 18] [some (.int .u64), some tI], .op (some 20) none (.ex Xop.nchk [.t 16]), .op (some 21) none (.mv (.t 16)), .call (some 22) none (.m 21 [(55, 84), (132, 83)]) [.t 19] [some (.int .u64)], .op (some 23) none (.mv (.t 22)), .op (some 24) (some (23, true)) (.fld 1 [true, false] (.t 3)), .op (some 25) (some (23, true)) (.load false 1 (.t 24)), .op (some 26) (some (23, true)) (.mv (.t 8)), .op (some 27) (some (23, true)) (.load false 1 (.t 5)), .call (some 28) (some (23, true)) (.c (.fn 74 [] [])) [.t 26, .t 27] [some (.int .u64), some tI], .op (some 29) (some (23, true)) (.ex Xop.nchk [.t 25]), .op (some 30) (some (23, true)) (.mv (.t 25)), .call (some 31) (some (23, true)) (.m 30 [(55, 84), (132, 83)]) [.t 28] [some (.int .u64)], .op (some 32) (some (23, true)) (.not (.t 31)), .op (some 33) none (.pick (.t 23) (.t 32) (.c (.tf false)))]) (.cond (.t 33) (.seq (.reg [.op (some 34) none (.mv (.t 8)), .op none none (.store 1 (.t 6) (.t 34)), .op none none (.store 1 (.t 7) (.c (.tf true)))]) .ret) .skip))) 35)] [] [])]
noncomputable def b68_0i_0 : D prog 22 none 7 := dO [] (pick (kd prog f102) [(0, false)]) 0
noncomputable def g68_0i_0 : (List (Int × List Int)) × Int × Int × List Int × Int × (List (Int × List Int)) × Int × Int × List Int × (List (Int × List Int)) × Int × Int × Int × Int × Int × Unit → Tr0 (((List (Int × List Int)) × Int × Int × List Int × Int × (List (Int × List Int)) × Int × Int × List Int × (List (Int × List Int)) × Int × Int × Int × Int × Int × Unit) ⊕ (((List (Int × List Int)) × Int × Int × Int × Int × Int × (List (Int × List Int)) × Int × Int × List Int × Unit))) := fun (v1c0, v1c2, v1c3, v2, v4, w13_0c0, w13_0c2, w13_0c3, w13_1, c0_0, c0_2, c0_3, c1_0, c2_0, c3_0, _) =>
 .br (decide (v4 ≤ v1c3)) (
 .bd (F90 v4 v2) fun y1 =>
 .br (v4 == y1.1) (
 .bd (F74 v4 c1_0) fun y2 =>
 .no) (
 .nd (rng .u64 (v4 + (1 : Int))) <|
 .ret (.inl (v1c0, (v1c2, (v1c3, (v2, ((v4 + (1 : Int)), (w13_0c0, (w13_0c2, (w13_0c3, (w13_1, (c0_0, (c0_2, (c0_3, (c1_0, (c2_0, (c3_0, ())))))))))))))))))) (
 .ret (.inr (c0_0, (c0_2, (c0_3, (c1_0, (c2_0, (c3_0, (w13_0c0, (w13_0c2, (w13_0c3, (w13_1, ()))))))))))))
theorem s68_0i_0 : ∀ x, roundE (kzO (p68_0i_0.T ⊕ x68_0i_0.T)) cx68_0i ar0 [0, 1, 2, 3, 4, 5, 6] p68_0i_0 x68_0i_0 (b68_0i_0) (fun y => some (.inl y)) (fun b => some (.inr b)) x = run0 (g68_0i_0 x) := fun x => by kernel_rfl
noncomputable def L68_0i_0 : LoopS prog 22 none 7 := mkLoop mixed cx68_0i cx68_0i_ok [0, 1, 2, 3, 4, 5, 6] rfl p68_0i_0 x68_0i_0 rfl (b68_0i_0) (fun x => run0 (g68_0i_0 x)) (s68_0i_0)
@[reducible] def p68_0 : Pat := Pat.mk [(3, .c (.ptr 0 0)), (4, .c (.ptr 1 0)), (5, .c (.ptr 2 0)), (6, .c (.ptr 3 0)), (7, .c (.ptr 4 0)), (13, .fn 102 [] [.ipcs (.cons (.hole (.list (.prod tI tL))) (.cons .nili (.cons (.hole tI) (.cons (.hole (.int .u64)) .nil)))), .ipc tL])] [(0, .cells [.hole (.list (.prod tI tL)), .nili, .hole tI, .hole (.int .u64)] false), (1, .cells [.hole tI] false), (2, .cells [.hole tI] false), (3, .cells [.hole (.int .u64)] false), (4, .cells [.tf false] false)] [.slot 3, .slot 4, .slot 5, .slot 6, .slot 7] []
@[reducible] def x68_0 : Outs := [(.normal, Pat.mk [(6, .c (.ptr 0 0)), (7, .c (.ptr 1 0))] [(0, .cells [.hole (.int .u64)] false), (1, .cells [.tf false] false), (2, .dfr)] [.slot 6, .slot 7, .mark 0] [2])]
noncomputable def b68_0i : D prog 22 none 7 := dO [.l L68_0i_0] (kd prog f102) 0
theorem ci68_0 : trF prog f102 = some ⟨22, 3, (b68_0i).er, [], []⟩ := by kernel_rfl
noncomputable def g68_0 : (List (Int × List Int)) × Int × Int × List Int × (List (Int × List Int)) × Int × Int × Int × Int × Int × Unit → Tr0 ((Int × Unit)) := fun (v13_0c0, v13_0c2, v13_0c3, v13_1, c0_0, c0_2, c0_3, c1_0, c2_0, c3_0, _) =>
 .bd (.it g68_0i_0 (v13_0c0, (v13_0c2, (v13_0c3, (v13_1, ((0 : Int), (v13_0c0, (v13_0c2, (v13_0c3, (v13_1, (c0_0, (c0_2, (c0_3, (c1_0, (c2_0, (c3_0, ())))))))))))))))) fun z3 =>
 .ret ((z3.2.2.2.2.2.1, ()))
theorem s68_0 : ∀ x, rangeE (N := 35) (out := none) (base := 0) (kzO x68_0.T) cx68_0i ar0 [] p68_0 x68_0 ( .t 13) [14] (ad68_0).er (bd68_0).er [] 3 102 (b68_0i) some x = run0 (g68_0 x) := fun x => by kernel_rfl
noncomputable def R68_0 : RangeS prog 35 none 0 := mkRange mixed cx68_0i cx68_0i_ok [] rfl p68_0 x68_0 ( .t 13) [14] rfl (ad68_0).er (bd68_0).er 102 func102 (ci68_0) (enters_of func102 rfl rfl) 7 rfl (b68_0i) rfl (fun x => run0 (g68_0 x)) (s68_0)
noncomputable def dd68 : D prog 35 none 0 := dO [.r R68_0] (kd prog f68) 0
noncomputable def F68 (a0_0 : List (Int × List Int)) (a0_2 : Int) (a0_3 : Int) (a1 : Int) (a2 : Int) : Tr0 (Int × Bool × Unit) :=
 .bd (F82 a0_0 a0_2 a0_3 ((((a1 :: (a2 :: []))).drop (0 : Nat)).take (2 : Nat))) fun y0 =>
 .bd (g68_0 (y0.1, (y0.2.1, (y0.2.2.1, (y0.2.2.2.1, (a0_0, (a0_2, (a0_3, (a1, (a2, ((0 : Int), ()))))))))))) fun z4 =>
 .ret ((0 : Int), (false, ()))
theorem c68_ok : trF prog f68 = some ⟨35, 3, dd68.er, [.cell 6 false 1, .cell 7 false 1], [some (.int .u64), some .bool]⟩ := by kernel_rfl
noncomputable def ct68 : Ct := ⟨68, [.agg [.hole (.list (.prod tI tL)), .nili, .hole tI, .hole (.int .u64)], hI, hI], .tup [.hole (.int .u64), .hole .bool], fun x => run0 (F68 x.1 x.2.1 x.2.2.1 x.2.2.2.1 x.2.2.2.2.1)⟩
theorem ct68_ok : ct68.Ok prog := ct_ok mixed cx68_ok func68 c68_ok (enters_of func68 rfl rfl) dd68 (by kernel_rfl) rfl (fun x => by kernel_rfl)

/- 68 -/
noncomputable def cx68_v1 : Cx := mkCxH [ct82_v1, ct90, ct74, ct83] []
theorem cx68_v1_ok : cx68_v1.Ok prog := mkCxH_ok ⟨ct82_v1_ok, ct90_ok, ct74_ok, ct83_ok, trivial⟩ trivial
noncomputable def ad68_v1_0 : D prog 35 (some 6) 7 := dO [] (pick (kd prog f68) [(0, false)]) 0
noncomputable def bd68_v1_0 : D prog 35 (some 6) 7 := dO [] (pick (kd prog f68) [(0, true)]) 0
noncomputable def cx68_v1_0i : Cx := itCx cx68_v1 (fun kz => rdK kz cx68_v1 ar0 6 7 [14] (ad68_v1_0) (bd68_v1_0))
theorem cx68_v1_0i_ok : (cx68_v1_0i).Ok prog := itCx_ok cx68_v1_ok (fun h => rdK_ok mixed cx68_v1_ok h)
@[reducible] def p68_v1_0i_0 : Pat := Pat.mk [(0, .c (.yl 6)), (1, .c (.ipcs (.cons (.hole (.list (.prod tI tL))) (.cons (.ifcs 132 false (.cons (.hole (.list (.ifc 55 true (.prod tI tL)))) .nil)) (.cons (.hole tI) (.cons (.hole (.int .u64)) .nil)))))), (2, .c (.ipc tL)), (4, .c (.hole (.int .u64)))] [(6, .loop .ready none 5 [(3, .c (.ptr 0 0)), (4, .c (.ptr 1 0)), (5, .c (.ptr 2 0)), (6, .c (.ptr 3 0)), (7, .c (.ptr 4 0)), (13, .fn 102 [] [.ipcs (.cons (.hole (.list (.prod tI tL))) (.cons (.ifcs 132 false (.cons (.hole (.list (.ifc 55 true (.prod tI tL)))) .nil)) (.cons (.hole tI) (.cons (.hole (.int .u64)) .nil)))), .ipc tL])] [14] (.reg [.op (some 8) none (.mv (.t 14))]) (.block 1 (.seq (.draw [[], [0], [], [], [2, 3], [0, 1], [0, 1, 5], [0, 1, 2, 3, 4, 5, 6], [0, 1, 2, 3, 4, 5, 6, 7], [0, 1, 2, 3, 4, 5, 6, 7, 8], [0, 1, 2, 3, 4, 5, 6, 7, 8, 9], [0, 1, 2, 3, 4, 5, 6, 7, 8], [0, 1, 2, 3, 4, 5, 6, 7, 8], [0, 1, 2, 3, 4, 5, 6, 7, 8, 11, 12], [0, 1, 2, 3, 4, 5, 6, 7, 8, 9, 10], [0, 1, 2, 3, 4, 5, 6, 7, 8, 9, 10, 14], [0, 1, 2, 3, 4, 5, 6, 7, 8, 9, 10, 11, 12, 13, 14, 15], [0, 1, 2, 3, 4, 5, 6, 7, 8, 9, 10, 11, 12, 13, 14, 15, 16], [0, 1, 2, 3, 4, 5, 6, 7, 8, 9, 10, 11, 12, 13, 14, 15, 16, 17]] [.op (some 15) none (.fld 1 [true, false] (.t 3)), .op (some 16) none (.load false 1 (.t 15)), .op (some 17) none (.mv (.t 8)), .op (some 18) none (.load false 1 (.t 4)), .call (some 19) none (.c (.fn 74 [] [])) [.t 17, .t 18] [some (.int .u64), some tI], .op (some 20) none (.ex Xop.nchk [.t 16]), .op (some 21) none (.mv (.t 16)), .call (some 22) none (.m 21 [(55, 84), (132, 83)]) [.t 19] [some (.int .u64)], .op (some 23) none (.mv (.t 22)), .op (some 24) (some (23, true)) (.fld 1 [true, false] (.t 3)), .op (some 25) (some (23, true)) (.load false 1 (.t 24)), .op (some 26) (some (23, true)) (.mv (.t 8)), .op (some 27) (some (23, true)) (.load false 1 (.t 5)), .call (some 28) (some (23, true)) (.c (.fn 74 [] [])) [.t 26, .t 27] [some (.int .u64), some tI], .op (some 29) (some (23, true)) (.ex Xop.nchk [.t 25]), .op (some 30) (some (23, true)) (.mv (.t 25)), .call (some 31) (some (23, true)) (.m 30 [(55, 84), (132, 83)]) [.t 28] [some (.int .u64)], .op (some 32) (some (23, true)) (.not (.t 31)), .op (some 33) none (.pick (.t 23) (.t 32) (.c (.tf false)))]) (.cond (.t 33) (.seq (.reg [.op (some 34) none (.mv (.t 8)), .op none none (.store 1 (.t 6) (.t 34)), .op none none (.store 1 (.t 7) (.c (.tf true)))]) .ret) .skip))) 35), (5, .dfr), (0, .cells [.hole (.list (.prod tI tL)), .ifcs 132 false (.cons (.hole (.list (.ifc 55 true (.prod tI tL)))) .nil), .hole tI, .hole (.int .u64)] false), (1, .cells [.hole tI] false), (2, .cells [.hole tI] false), (3, .cells [.hole (.int .u64)] false), (4, .cells [.tf false] false)] [] []
@[reducible] def x68_v1_0i_0 : Outs := [(.ret, Pat.mk [] [(0, .cells [.hole (.list (.prod tI tL)), .ifcs 132 false (.cons (.hole (.list (.ifc 55 true (.prod tI tL)))) .nil), .hole tI, .hole (.int .u64)] false), (1, .cells [.hole tI] false), (2, .cells [.hole tI] false), (3, .cells [.hole (.int .u64)] false), (4, .cells [.tf true] false), (5, .dfr), (6, .loop .done (some .ret) 5 [(3, .c (.ptr 0 0)), (4, .c (.ptr 1 0)), (5, .c (.ptr 2 0)), (6, .c (.ptr 3 0)), (7, .c (.ptr 4 0)), (13, .fn 102 [] [.ipcs (.cons (.hole (.list (.prod tI tL))) (.cons (.ifcs 132 false (.cons (.hole (.list (.ifc 55 true (.prod tI tL)))) .nil)) (.cons (.hole tI) (.cons (.hole (.int .u64)) .nil)))), .ipc tL])] [14] (.reg [.op (some 8) none (.mv (.t 14))]) (.block 1 (.seq (.draw [[], [0], [], [], [2, 3], [0, 1], [0, 1, 5], [0, 1, 2, 3, 4, 5, 6], [0, 1, 2, 3, 4, 5, 6, 7], [0, 1, 2, 3, 4, 5, 6, 7, 8], [0, 1, 2, 3, 4, 5, 6, 7, 8, 9], [0, 1, 2, 3, 4, 5, 6, 7, 8], [0, 1, 2, 3, 4, 5, 6, 7, 8], [0, 1, 2, 3, 4, 5, 6, 7, 8, 11, 12], [0, 1, 2, 3, 4, 5, 6, 7, 8, 9, 10], [0, 1, 2, 3, 4, 5, 6, 7, 8, 9, 10, 14], [0, 1, 2, 3, 4, 5, 6, 7, 8, 9, 10, 11, 12, 13, 14, 15], [0, 1, 2, 3, 4, 5, 6, 7, 8, 9, 10, 11, 12, 13, 14, 15, 16], [0, 1, 2, 3, 4, 5, 6, 7, 8, 9, 10, 11, 12, 13, 14, 15, 16, 17]] [.op (some 15) none (.fld 1 [true, false] (.t 3)), .op (some 16) none (.load false 1 (.t 15)), .op (some 17) none (.mv (.t 8)), .op (some 18) none (.load false 1 (.t 4)), .call (some 19) none (.c (.fn 74 [] [])) [.t 17, .t 18] [some (.int .u64), some tI], .op (some 20) none (.ex Xop.nchk [.t 16]), .op (some 21) none (.mv (.t 16)), .call (some 22) none (.m 21 [(55, 84), (132, 83)]) [.t 19] [some (.int .u64)], .op (some 23) none (.mv (.t 22)), .op (some 24) (some (23, true)) (.fld 1 [true, false] (.t 3)), .op (some 25) (some (23, true)) (.load false 1 (.t 24)), .op (some 26) (some (23, true)) (.mv (.t 8)), .op (some 27) (some (23, true)) (.load false 1 (.t 5)), .call (some 28) (some (23, true)) (.c (.fn 74 [] [])) [.t 26, .t 27] [some (.int .u64), some tI], .op (some 29) (some (23, true)) (.ex Xop.nchk [.t 25]), .op (some 30) (some (23, true)) (.mv (.t 25)), .call (some 31) (some (23, true)) (.m 30 [(55, 84), (132, 83)]) [.t 28] [some (.int .u64)], .op (some 32) (some (23, true)) (.not (.t 31)), .op (some 33) none (.pick (.t 23) (.t 32) (.c (.tf false)))]) (.cond (.t 33) (.seq (.reg [.op (some 34) none (.mv (.t 8)), .op none none (.store 1 (.t 6) (.t 34)), .op none none (.store 1 (.t 7) (.c (.tf true)))]) .ret) .skip))) 35)] [] []), (.exit 0, Pat.mk [] [(0, .cells [.hole (.list (.prod tI tL)), .ifcs 132 false (.cons (.hole (.list (.ifc 55 true (.prod tI tL)))) .nil), .hole tI, .hole (.int .u64)] false), (1, .cells [.hole tI] false), (2, .cells [.hole tI] false), (3, .cells [.hole (.int .u64)] false), (4, .cells [.tf false] false), (5, .dfr), (6, .loop .ready none 5 [(3, .c (.ptr 0 0)), (4, .c (.ptr 1 0)), (5, .c (.ptr 2 0)), (6, .c (.ptr 3 0)), (7, .c (.ptr 4 0)), (13, .fn 102 [] [.ipcs (.cons (.hole (.list (.prod tI tL))) (.cons (.ifcs 132 false (.cons (.hole (.list (.ifc 55 true (.prod tI tL)))) .nil)) (.cons (.hole tI) (.cons (.hole (.int .u64)) .nil)))), .ipc tL])] [14] (.reg [.op (some 8) none (.mv (.t 14))]) (.block 1 (.seq (.draw [[], [0], [], [], [2, 3], [0, 1], [0, 1, 5], [0, 1, 2, 3, 4, 5, 6], [0, 1, 2, 3, 4, 5, 6, 7], [0, 1, 2, 3, 4, 5, 6, 7, 8], [0, 1, 2, 3, 4, 5, 6, 7, 8, 9], [0, 1, 2, 3, 4, 5, 6, 7, 8], [0, 1, 2, 3, 4, 5, 6, 7, 8], [0, 1, 2, 3, 4, 5, 6, 7, 8, 11, 12], [0, 1, 2, 3, 4, 5, 6, 7, 8, 9, 10], [0, 1, 2, 3, 4, 5, 6, 7, 8, 9, 10, 14], [0, 1, 2, 3, 4, 5, 6, 7, 8, 9, 10, 11, 12, 13, 14, 15], [0, 1, 2, 3, 4, 5, 6, 7, 8, 9, 10, 11, 12, 13, 14, 15, 16], [0, 1, 2, 3, 4, 5, 6, 7, 8, 9, 10, 11, 12, 13, 14, 15, 16, 17]] [.op (some 15) none (.fld 1 [true, false] (.t 3)), .op (some 16) none (.load false 1 (.t 15)), .op (some 17) none (.mv (.t 8)), .op (some 18) none (.load false 1 (.t 4)), .call (some 19) none (.c (.fn 74 [] [])) [.t 17, .t 18] [some (.int .u64), some tI], .op (some 20) none (.ex Xop.nchk [.t 16]), .op (some 21) none (.mv (.t 16)), .call (some 22) none (.m 21 [(55, 84), (132, 83)]) [.t 19] [some (.int .u64)], .op (some 23) none (.mv (.t 22)), .op (some 24) (some (23, true)) (.fld 1 [true, false] (.t 3)), .op (some 25) (some (23, true)) (.load false 1 (.t 24)), .op (some 26) (some (23, true)) (.mv (.t 8)), .op (some 27) (some (23, true)) (.load false 1 (.t 5)), .call (some 28) (some (23, true)) (.c (.fn 74 [] [])) [.t 26, .t 27] [some (.int .u64), some tI], .op (some 29) (some (23, true)) (.ex Xop.nchk [.t 25]), .op (some 30) (some (23, true)) (.mv (.t 25)), .call (some 31) (some (23, true)) (.m 30 [(55, 84), (132, 83)]) [.t 28] [some (.int .u64)], .op (some 32) (some (23, true)) (.not (.t 31)), .op (some 33) none (.pick (.t 23) (.t 32) (.c (.tf false)))]) (.cond (.t 33) (.seq (.reg [.op (some 34) none (.mv (.t 8)), .op none none (.store 1 (.t 6) (.t 34)), .op none none (.store 1 (.t 7) (.c (.tf true)))]) .ret) .skip))) 35)] [] [])]
noncomputable def b68_v1_0i_0 : D prog 22 none 7 := dO [] (pick (kd prog f102) [(0, false)]) 0
noncomputable def g68_v1_0i_0 : (List (Int × List Int)) × (List (Int × List Int)) × Int × Int × List Int × Int × (List (Int × List Int)) × (List (Int × List Int)) × Int × Int × List Int × (List (Int × List Int)) × (List (Int × List Int)) × Int × Int × Int × Int × Int × Unit → Tr0 (((List (Int × List Int)) × (List (Int × List Int)) × Int × Int × List Int × Int × (List (Int × List Int)) × (List (Int × List Int)) × Int × Int × List Int × (List (Int × List Int)) × (List (Int × List Int)) × Int × Int × Int × Int × Int × Unit) ⊕ (((List (Int × List Int)) × (List (Int × List Int)) × Int × Int × Int × Int × Int × (List (Int × List Int)) × (List (Int × List Int)) × Int × Int × List Int × Unit) ⊕ (((List (Int × List Int)) × (List (Int × List Int)) × Int × Int × Int × Int × Int × (List (Int × List Int)) × (List (Int × List Int)) × Int × Int × List Int × Unit)))) := fun (v1c0, v1c1c0, v1c2, v1c3, v2, v4, w13_0c0, w13_0c1c0, w13_0c2, w13_0c3, w13_1, c0_0, c0_1c0, c0_2, c0_3, c1_0, c2_0, c3_0, _) =>
 .br (decide (v4 ≤ v1c3)) (
 .bd (F90 v4 v2) fun y1 =>
 .br (v4 == y1.1) (
 .bd (F74 v4 c1_0) fun y2 =>
 .bd (F83 c0_1c0 y2.1) fun y3 =>
 .br y3.1 (
 .bd (F74 v4 c2_0) fun y4 =>
 .bd (F83 c0_1c0 y4.1) fun y5 =>
 .br (!y5.1) (
 .ret (.inr <| .inl <| (c0_0, (c0_1c0, (c0_2, (c0_3, (c1_0, (c2_0, (v4, (w13_0c0, (w13_0c1c0, (w13_0c2, (w13_0c3, (w13_1, ())))))))))))))) (
 .nd (rng .u64 (v4 + (1 : Int))) <|
 .ret (.inl (v1c0, (v1c1c0, (v1c2, (v1c3, (v2, ((v4 + (1 : Int)), (w13_0c0, (w13_0c1c0, (w13_0c2, (w13_0c3, (w13_1, (c0_0, (c0_1c0, (c0_2, (c0_3, (c1_0, (c2_0, (c3_0, ()))))))))))))))))))))) (
 .nd (rng .u64 (v4 + (1 : Int))) <|
 .ret (.inl (v1c0, (v1c1c0, (v1c2, (v1c3, (v2, ((v4 + (1 : Int)), (w13_0c0, (w13_0c1c0, (w13_0c2, (w13_0c3, (w13_1, (c0_0, (c0_1c0, (c0_2, (c0_3, (c1_0, (c2_0, (c3_0, ()))))))))))))))))))))) (
 .nd (rng .u64 (v4 + (1 : Int))) <|
 .ret (.inl (v1c0, (v1c1c0, (v1c2, (v1c3, (v2, ((v4 + (1 : Int)), (w13_0c0, (w13_0c1c0, (w13_0c2, (w13_0c3, (w13_1, (c0_0, (c0_1c0, (c0_2, (c0_3, (c1_0, (c2_0, (c3_0, ()))))))))))))))))))))) (
 .ret (.inr <| .inr <| (c0_0, (c0_1c0, (c0_2, (c0_3, (c1_0, (c2_0, (c3_0, (w13_0c0, (w13_0c1c0, (w13_0c2, (w13_0c3, (w13_1, ()))))))))))))))
theorem s68_v1_0i_0 : ∀ x, roundE (kzO (p68_v1_0i_0.T ⊕ x68_v1_0i_0.T)) cx68_v1_0i ar0 [0, 1, 2, 3, 4, 5, 6] p68_v1_0i_0 x68_v1_0i_0 (b68_v1_0i_0) (fun y => some (.inl y)) (fun b => some (.inr b)) x = run0 (g68_v1_0i_0 x) := fun x => by kernel_rfl
noncomputable def L68_v1_0i_0 : LoopS prog 22 none 7 := mkLoop mixed cx68_v1_0i cx68_v1_0i_ok [0, 1, 2, 3, 4, 5, 6] rfl p68_v1_0i_0 x68_v1_0i_0 rfl (b68_v1_0i_0) (fun x => run0 (g68_v1_0i_0 x)) (s68_v1_0i_0)
@[reducible] def p68_v1_0 : Pat := Pat.mk [(3, .c (.ptr 0 0)), (4, .c (.ptr 1 0)), (5, .c (.ptr 2 0)), (6, .c (.ptr 3 0)), (7, .c (.ptr 4 0)), (13, .fn 102 [] [.ipcs (.cons (.hole (.list (.prod tI tL))) (.cons (.ifcs 132 false (.cons (.hole (.list (.ifc 55 true (.prod tI tL)))) .nil)) (.cons (.hole tI) (.cons (.hole (.int .u64)) .nil)))), .ipc tL])] [(0, .cells [.hole (.list (.prod tI tL)), .ifcs 132 false (.cons (.hole (.list (.ifc 55 true (.prod tI tL)))) .nil), .hole tI, .hole (.int .u64)] false), (1, .cells [.hole tI] false), (2, .cells [.hole tI] false), (3, .cells [.hole (.int .u64)] false), (4, .cells [.tf false] false)] [.slot 3, .slot 4, .slot 5, .slot 6, .slot 7] []
@[reducible] def x68_v1_0 : Outs := [(.ret, Pat.mk [(6, .c (.ptr 0 0)), (7, .c (.ptr 1 0))] [(0, .cells [.hole (.int .u64)] false), (1, .cells [.tf true] false), (2, .dfr)] [.slot 6, .slot 7, .mark 0] [2]), (.normal, Pat.mk [(6, .c (.ptr 0 0)), (7, .c (.ptr 1 0))] [(0, .cells [.hole (.int .u64)] false), (1, .cells [.tf false] false), (2, .dfr)] [.slot 6, .slot 7, .mark 0] [2])]
noncomputable def b68_v1_0i : D prog 22 none 7 := dO [.l L68_v1_0i_0] (kd prog f102) 0
theorem ci68_v1_0 : trF prog f102 = some ⟨22, 3, (b68_v1_0i).er, [], []⟩ := by kernel_rfl
noncomputable def g68_v1_0 : (List (Int × List Int)) × (List (Int × List Int)) × Int × Int × List Int × (List (Int × List Int)) × (List (Int × List Int)) × Int × Int × Int × Int × Int × Unit → Tr0 ((Int × Unit) ⊕ ((Int × Unit))) := fun (v13_0c0, v13_0c1c0, v13_0c2, v13_0c3, v13_1, c0_0, c0_1c0, c0_2, c0_3, c1_0, c2_0, c3_0, _) =>
 .bd (.it g68_v1_0i_0 (v13_0c0, (v13_0c1c0, (v13_0c2, (v13_0c3, (v13_1, ((0 : Int), (v13_0c0, (v13_0c1c0, (v13_0c2, (v13_0c3, (v13_1, (c0_0, (c0_1c0, (c0_2, (c0_3, (c1_0, (c2_0, (c3_0, ()))))))))))))))))))) fun z6 =>
 .sm z6 (fun z7 =>
 .ret (.inl <| (z7.2.2.2.2.2.2.1, ()))) fun z8 =>
 .ret (.inr <| (z8.2.2.2.2.2.2.1, ()))
theorem s68_v1_0 : ∀ x, rangeE (N := 35) (out := none) (base := 0) (kzO x68_v1_0.T) cx68_v1_0i ar0 [] p68_v1_0 x68_v1_0 ( .t 13) [14] (ad68_v1_0).er (bd68_v1_0).er [] 3 102 (b68_v1_0i) some x = run0 (g68_v1_0 x) := fun x => by kernel_rfl
noncomputable def R68_v1_0 : RangeS prog 35 none 0 := mkRange mixed cx68_v1_0i cx68_v1_0i_ok [] rfl p68_v1_0 x68_v1_0 ( .t 13) [14] rfl (ad68_v1_0).er (bd68_v1_0).er 102 func102 (ci68_v1_0) (enters_of func102 rfl rfl) 7 rfl (b68_v1_0i) rfl (fun x => run0 (g68_v1_0 x)) (s68_v1_0)
noncomputable def dd68_v1 : D prog 35 none 0 := dO [.r R68_v1_0] (kd prog f68) 0
noncomputable def F68_v1 (a0_0 : List (Int × List Int)) (a0_1c0 : List (Int × List Int)) (a0_2 : Int) (a0_3 : Int) (a1 : Int) (a2 : Int) : Tr0 (Int × Bool × Unit) :=
 .bd (F82_v1 a0_0 a0_1c0 a0_2 a0_3 ((((a1 :: (a2 :: []))).drop (0 : Nat)).take (2 : Nat))) fun y0 =>
 .bd (g68_v1_0 (y0.1, (y0.2.1, (y0.2.2.1, (y0.2.2.2.1, (y0.2.2.2.2.1, (a0_0, (a0_1c0, (a0_2, (a0_3, (a1, (a2, ((0 : Int), ()))))))))))))) fun z9 =>
 .sm z9 (fun z10 =>
 .ret (z10.1, (true, ()))) fun z11 =>
 .ret ((0 : Int), (false, ()))
theorem c68_v1_ok : trF prog f68 = some ⟨35, 3, dd68_v1.er, [.cell 6 false 1, .cell 7 false 1], [some (.int .u64), some .bool]⟩ := by kernel_rfl
noncomputable def ct68_v1 : Ct := ⟨68, [.agg [.hole (.list (.prod tI tL)), .ifcs 132 false (.cons (.hole (.list (.ifc 55 true (.prod tI tL)))) .nil), .hole tI, .hole (.int .u64)], hI, hI], .tup [.hole (.int .u64), .hole .bool], fun x => run0 (F68_v1 x.1 x.2.1 x.2.2.1 x.2.2.2.1 x.2.2.2.2.1 x.2.2.2.2.2.1)⟩
theorem ct68_v1_ok : ct68_v1.Ok prog := ct_ok mixed cx68_v1_ok func68 c68_v1_ok (enters_of func68 rfl rfl) dd68_v1 (by kernel_rfl) rfl (fun x => by kernel_rfl)

/- 23 -/
noncomputable def cx23 : Cx := mkCxH [ct66, ct67, ct68, ct68_v1] []
theorem cx23_ok : cx23.Ok prog := mkCxH_ok ⟨ct66_ok, ct67_ok, ct68_ok, ct68_v1_ok, trivial⟩ trivial
noncomputable def dd23 : D prog 61 none 0 := dO [] (kd prog f23) 0
noncomputable def F23 (a0_0 : List (Int × List Int)) (a1 : Int) (a2 : Int) : Tr0 (Int × Int × Unit) :=
 .bd (F66 a0_0) fun y0 =>
 .sm y0 (fun y1 =>
 .br (!(y1.2.2.2.1 == (0 : Int))) (
 .ret ((0 : Int), (y1.2.2.2.1, ()))) (
 .ni (y1.2.1 - (1 : Int)) <|
 .bd (F67 (0 : Int) a1 (y1.2.1 - (1 : Int))) fun y2 =>
 .br (!y2.1) (
 .ret ((0 : Int), ((5 : Int), ()))) (
 .ni (y1.2.1 - (1 : Int)) <|
 .bd (F67 (0 : Int) a2 (y1.2.1 - (1 : Int))) fun y3 =>
 .br (!y3.1) (
 .ret ((0 : Int), ((5 : Int), ()))) (
 .bd (F68 y1.1 y1.2.1 y1.2.2.1 a1 a2) fun y4 =>
 .bd (F68 y1.1 y1.2.1 y1.2.2.1 a2 a1) fun y5 =>
 .br y4.2.1 (
 .br y5.2.1 (
 .ret ((2 : Int), ((0 : Int), ()))) (
 .br y4.2.1 (
 .ret ((1 : Int), ((0 : Int), ()))) (
 .br y5.2.1 (
 .ret ((-1 : Int), ((0 : Int), ()))) (
 .ret ((0 : Int), ((0 : Int), ())))))) (
 .br y4.2.1 (
 .ret ((1 : Int), ((0 : Int), ()))) (
 .br y5.2.1 (
 .ret ((-1 : Int), ((0 : Int), ()))) (
 .ret ((0 : Int), ((0 : Int), ()))))))))) fun y6 =>
 .br (!(y6.2.2.2.2.1 == (0 : Int))) (
 .ret ((0 : Int), (y6.2.2.2.2.1, ()))) (
 .ni (y6.2.2.1 - (1 : Int)) <|
 .bd (F67 (0 : Int) a1 (y6.2.2.1 - (1 : Int))) fun y7 =>
 .br (!y7.1) (
 .ret ((0 : Int), ((5 : Int), ()))) (
 .ni (y6.2.2.1 - (1 : Int)) <|
 .bd (F67 (0 : Int) a2 (y6.2.2.1 - (1 : Int))) fun y8 =>
 .br (!y8.1) (
 .ret ((0 : Int), ((5 : Int), ()))) (
 .bd (F68_v1 y6.1 y6.2.1 y6.2.2.1 y6.2.2.2.1 a1 a2) fun y9 =>
 .bd (F68_v1 y6.1 y6.2.1 y6.2.2.1 y6.2.2.2.1 a2 a1) fun y10 =>
 .br y9.2.1 (
 .br y10.2.1 (
 .ret ((2 : Int), ((0 : Int), ()))) (
 .br y9.2.1 (
 .ret ((1 : Int), ((0 : Int), ()))) (
 .br y10.2.1 (
 .ret ((-1 : Int), ((0 : Int), ()))) (
 .ret ((0 : Int), ((0 : Int), ())))))) (
 .br y9.2.1 (
 .ret ((1 : Int), ((0 : Int), ()))) (
 .br y10.2.1 (
 .ret ((-1 : Int), ((0 : Int), ()))) (
 .ret ((0 : Int), ((0 : Int), ()))))))))
theorem c23_ok : trF prog f23 = some ⟨61, 3, dd23.er, [.t 6, .t 7], [some tI, some tI]⟩ := by kernel_rfl
noncomputable def ct23 : Ct := ⟨23, [.agg [.hole (.list (.prod tI tL))], hI, hI], .tup [.hole tI, .hole tI], fun x => run0 (F23 x.1 x.2.1 x.2.2.1)⟩
theorem ct23_ok : ct23.Ok prog := ct_ok mixed cx23_ok func23 c23_ok (enters_of func23 rfl rfl) dd23 (by kernel_rfl) rfl (fun x => by kernel_rfl)

/- 56 -/
noncomputable def cx56 : Cx := mkCxH [ct54, ct53] []
theorem cx56_ok : cx56.Ok prog := mkCxH_ok ⟨ct54_ok, ct53_ok, trivial⟩ trivial
noncomputable def dd56 : D prog 7 none 0 := dO [] (kd prog f56) 0
noncomputable def F56 : Tr0 (((List (Int × List Int)) × Unit) × Unit) :=
 .bd (F54 (1 : Int) (((((1 : Int) :: ((0 : Int) :: ((1 : Int) :: ((0 : Int) :: []))))).drop (0 : Nat)).take (4 : Nat))) fun y0 =>
 .bd (F54 (1 : Int) (((((0 : Int) :: ((1 : Int) :: ((0 : Int) :: ((1 : Int) :: []))))).drop (0 : Nat)).take (4 : Nat))) fun y1 =>
 .bd (F53 (((((y0.1.1, y0.1.2) :: ((y1.1.1, y1.1.2) :: []))).drop (0 : Nat)).take (2 : Nat))) fun y2 =>
 .ret ((y2.1.1, ()), ())
theorem c56_ok : trF prog f56 = some ⟨7, 0, dd56.er, [.cell 0 true 1], [some (.prod (.list (.prod tI tL)) .unit)]⟩ := by kernel_rfl
noncomputable def ct56 : Ct := ⟨56, [], .c (.hole (.prod (.list (.prod tI tL)) .unit)), fun x => run0 (F56)⟩
theorem ct56_ok : ct56.Ok prog := ct_ok mixed cx56_ok func56 c56_ok (enters_of func56 rfl rfl) dd56 (by kernel_rfl) rfl (fun x => by kernel_rfl)

/- 25 -/
noncomputable def cx25 : Cx := mkCxH [ct66, ct68_v1, ct71] []
theorem cx25_ok : cx25.Ok prog := mkCxH_ok ⟨ct66_ok, ct68_v1_ok, ct71_ok, trivial⟩ trivial
@[reducible] def p25_1 : Pat := Pat.mk [(2, .c (.ptr 0 0)), (4, .c (.ptr 1 0)), (6, hI), (22, hI), (23, hI), (26, hI), (27, hI)] [(0, .cells [.hole tI, .hole tI, .nsl, .nsl] false), (1, .cells [.hole (.list (.prod tI tL)), .ifcs 132 false (.cons (.hole (.list (.ifc 55 true (.prod tI tL)))) .nil), .hole tI, .hole (.int .u64)] false)] [.slot 2, .slot 4] []
@[reducible] def x25_1 : Outs := [(.ret, Pat.mk [(2, .c (.ptr 0 0)), (3, hI)] [(0, .cells [.hole tI, .hole tI, .hole tL, .hole tL] false)] [.slot 2] []), (.exit 2, Pat.mk [(2, .c (.ptr 0 0)), (4, .c (.ptr 1 0)), (22, hI), (23, hI)] [(0, .cells [.hole tI, .hole tI, .nsl, .nsl] false), (1, .cells [.hole (.list (.prod tI tL)), .ifcs 132 false (.cons (.hole (.list (.ifc 55 true (.prod tI tL)))) .nil), .hole tI, .hole (.int .u64)] false)] [.slot 2, .slot 4] [])]
noncomputable def b25_1 : D prog 58 none 0 := dO [] (pick (kd prog f25) [(0, false), (0, false)]) 0
noncomputable def g25_1 : Int × Int × Int × Int × Int × Int × Int × (List (Int × List Int)) × (List (Int × List Int)) × Int × Int × Unit → Tr0 ((Int × Int × Int × Int × Int × Int × Int × (List (Int × List Int)) × (List (Int × List Int)) × Int × Int × Unit) ⊕ ((Int × Int × Int × List Int × List Int × Unit) ⊕ ((Int × Int × Int × Int × (List (Int × List Int)) × (List (Int × List Int)) × Int × Int × Unit)))) := fun (v6, v22, v23, v26, v27, c0_0, c0_1, c1_0, c1_1c0, c1_2, c1_3, _) =>
 .br (decide (v27 < v26)) (
 .bd (F68_v1 c1_0 c1_1c0 c1_2 c1_3 v6 v27) fun y2 =>
 .bd (F68_v1 c1_0 c1_1c0 c1_2 c1_3 v27 v6) fun y3 =>
 .br y2.2.1 (
 .br y3.2.1 (
 .bd (F71 y2.1) fun y4 =>
 .bd (F71 y3.1) fun y5 =>
 .ret (.inr <| .inl <| ((0 : Int), (v6, (v27, (y4.1, (y5.1, ()))))))) (
 .ni (v27 + (1 : Int)) <|
 .ret (.inl (v6, (v22, (v23, (v26, ((v27 + (1 : Int)), (c0_0, (c0_1, (c1_0, (c1_1c0, (c1_2, (c1_3, ())))))))))))))) (
 .ni (v27 + (1 : Int)) <|
 .ret (.inl (v6, (v22, (v23, (v26, ((v27 + (1 : Int)), (c0_0, (c0_1, (c1_0, (c1_1c0, (c1_2, (c1_3, ())))))))))))))) (
 .ret (.inr <| .inr <| (v22, (v23, (c0_0, (c0_1, (c1_0, (c1_1c0, (c1_2, (c1_3, ()))))))))))
theorem s25_1 : ∀ x, roundE (kzO (p25_1.T ⊕ x25_1.T)) cx25 ar0 [] p25_1 x25_1 (b25_1) (fun y => some (.inl y)) (fun b => some (.inr b)) x = run0 (g25_1 x) := fun x => by kernel_rfl
noncomputable def L25_1 : LoopS prog 58 none 0 := mkLoop mixed cx25 cx25_ok [] rfl p25_1 x25_1 rfl (b25_1) (fun x => run0 (g25_1 x)) (s25_1)
@[reducible] def p25_0 : Pat := Pat.mk [(2, .c (.ptr 0 0)), (4, .c (.ptr 1 0)), (22, hI), (23, hI)] [(0, .cells [.hole tI, .hole tI, .nsl, .nsl] false), (1, .cells [.hole (.list (.prod tI tL)), .ifcs 132 false (.cons (.hole (.list (.ifc 55 true (.prod tI tL)))) .nil), .hole tI, .hole (.int .u64)] false)] [.slot 2, .slot 4] []
@[reducible] def x25_0 : Outs := [(.ret, Pat.mk [(2, .c (.ptr 0 0)), (3, hI)] [(0, .cells [.hole tI, .hole tI, .hole tL, .hole tL] false)] [.slot 2] []), (.exit 0, Pat.mk [(2, .c (.ptr 0 0))] [(0, .cells [.hole tI, .hole tI, .nsl, .nsl] false)] [.slot 2] [])]
noncomputable def b25_0 : D prog 58 none 0 := dO [.l L25_1] (pick (kd prog f25) [(0, false)]) 0
noncomputable def g25_0 : Int × Int × Int × Int × (List (Int × List Int)) × (List (Int × List Int)) × Int × Int × Unit → Tr0 ((Int × Int × Int × Int × (List (Int × List Int)) × (List (Int × List Int)) × Int × Int × Unit) ⊕ ((Int × Int × Int × List Int × List Int × Unit) ⊕ ((Int × Int × Unit)))) := fun (v22, v23, c0_0, c0_1, c1_0, c1_1c0, c1_2, c1_3, _) =>
 .br (decide (v23 < v22)) (
 .bd (.it g25_1 (v23, (v22, (v23, (v23, ((0 : Int), (c0_0, (c0_1, (c1_0, (c1_1c0, (c1_2, (c1_3, ())))))))))))) fun z6 =>
 .sm z6 (fun z7 =>
 .ret (.inr <| .inl <| (z7.1, (z7.2.1, (z7.2.2.1, (z7.2.2.2.1, (z7.2.2.2.2.1, ()))))))) fun z8 =>
 .ni (z8.2.1 + (1 : Int)) <|
 .ret (.inl (z8.1, ((z8.2.1 + (1 : Int)), (z8.2.2.1, (z8.2.2.2.1, (z8.2.2.2.2.1, (z8.2.2.2.2.2.1, (z8.2.2.2.2.2.2.1, (z8.2.2.2.2.2.2.2.1, ())))))))))) (
 .ret (.inr <| .inr <| (c0_0, (c0_1, ()))))
theorem s25_0 : ∀ x, roundE (kzO (p25_0.T ⊕ x25_0.T)) cx25 ar0 [] p25_0 x25_0 (b25_0) (fun y => some (.inl y)) (fun b => some (.inr b)) x = run0 (g25_0 x) := fun x => by kernel_rfl
noncomputable def L25_0 : LoopS prog 58 none 0 := mkLoop mixed cx25 cx25_ok [] rfl p25_0 x25_0 rfl (b25_0) (fun x => run0 (g25_0 x)) (s25_0)
noncomputable def dd25 : D prog 58 none 0 := dO [.l L25_0] (kd prog f25) 0
noncomputable def F25 (a0_0 : List (Int × List Int)) : Tr0 ((Int × Int × (List Int) × List Int) × Int × Unit) :=
 .bd (F66 a0_0) fun y0 =>
 .sm y0 (fun y1 =>
 .br (!(y1.2.2.2.1 == (0 : Int))) (
 .ret (((0 : Int), ((0 : Int), ([], []))), (y1.2.2.2.1, ()))) (
 .no)) fun y9 =>
 .br (!(y9.2.2.2.2.1 == (0 : Int))) (
 .ret (((0 : Int), ((0 : Int), ([], []))), (y9.2.2.2.2.1, ()))) (
 .bd (.it g25_0 (y9.2.2.1, ((0 : Int), ((0 : Int), ((0 : Int), (y9.1, (y9.2.1, (y9.2.2.1, (y9.2.2.2.1, ()))))))))) fun z10 =>
 .sm z10 (fun z11 =>
 .ret ((z11.2.1, (z11.2.2.1, (z11.2.2.2.1, z11.2.2.2.2.1))), (z11.1, ()))) fun z12 =>
 .ret (((0 : Int), ((0 : Int), ([], []))), ((5 : Int), ())))
theorem c25_ok : trF prog f25 = some ⟨58, 1, dd25.er, [.cell 2 true 4, .t 3], [some (.prod tI (.prod tI (.prod tL tL))), some tI]⟩ := by kernel_rfl
noncomputable def ct25 : Ct := ⟨25, [.agg [.hole (.list (.prod tI tL))]], .tup [.hole (.prod tI (.prod tI (.prod tL tL))), .hole tI], fun x => run0 (F25 x.1)⟩
theorem ct25_ok : ct25.Ok prog := ct_ok mixed cx25_ok func25 c25_ok (enters_of func25 rfl rfl) dd25 (by kernel_rfl) rfl (fun x => by kernel_rfl)

/- 72 -/
noncomputable def cx72 : Cx := mkCxH [ct67, ct74] []
theorem cx72_ok : cx72.Ok prog := mkCxH_ok ⟨ct67_ok, ct74_ok, trivial⟩ trivial
@[reducible] def p72_0 : Pat := Pat.mk [(2, .c (.ptr 0 0)), (6, .c (.hole (.int .u64))), (7, hI), (10, hL), (11, hI), (12, hI)] [(0, .cells [.hole (.list (.prod tI tL)), .nili, .hole tI, .hole (.int .u64)] false)] [.slot 2] []
@[reducible] def x72_0 : Outs := [(.ret, Pat.mk [(4, .c (.hole (.int .u64))), (5, hI)] [] [] []), (.exit 0, Pat.mk [(6, .c (.hole (.int .u64)))] [] [] [])]
noncomputable def b72_0 : D prog 33 none 0 := dO [] (pick (kd prog f72) [(0, false)]) 0
noncomputable def g72_0 : Int × Int × List Int × Int × Int × (List (Int × List Int)) × Int × Int × Unit → Tr0 ((Int × Int × List Int × Int × Int × (List (Int × List Int)) × Int × Int × Unit) ⊕ ((Int × Int × Unit) ⊕ ((Int × Unit)))) := fun (v6, v7, v10, v11, v12, c0_0, c0_2, c0_3, _) =>
 .br (decide (v12 < v11)) (
 .nb v12 (((v10).length : Nat) : Int) <|
 .ni (c0_2 - (1 : Int)) <|
 .bd (F67 (0 : Int) ((v10).getD (Int.toNat v12) (0 : Int)) (c0_2 - (1 : Int))) fun y0 =>
 .br (!y0.1) (
 .ret (.inr <| .inl <| ((0 : Int), ((5 : Int), ())))) (
 .br (decide (((v10).getD (Int.toNat v12) (0 : Int)) ≤ v7)) (
 .ret (.inr <| .inl <| ((0 : Int), ((7 : Int), ())))) (
 .bd (F74 v6 ((v10).getD (Int.toNat v12) (0 : Int))) fun y1 =>
 .ni (v12 + (1 : Int)) <|
 .ret (.inl (y1.1, (((v10).getD (Int.toNat v12) (0 : Int)), (v10, (v11, ((v12 + (1 : Int)), (c0_0, (c0_2, (c0_3, ())))))))))))) (
 .ret (.inr <| .inr <| (v6, ())))
theorem s72_0 : ∀ x, roundE (kzO (p72_0.T ⊕ x72_0.T)) cx72 ar0 [] p72_0 x72_0 (b72_0) (fun y => some (.inl y)) (fun b => some (.inr b)) x = run0 (g72_0 x) := fun x => by kernel_rfl
noncomputable def L72_0 : LoopS prog 33 none 0 := mkLoop mixed cx72 cx72_ok [] rfl p72_0 x72_0 rfl (b72_0) (fun x => run0 (g72_0 x)) (s72_0)
noncomputable def dd72 : D prog 33 none 0 := dO [.l L72_0] (kd prog f72) 0
noncomputable def F72 (a0_0 : List (Int × List Int)) (a0_2 : Int) (a0_3 : Int) (a1 : List Int) : Tr0 (Int × Int × Unit) :=
 .bd (.it g72_0 ((0 : Int), ((-1 : Int), (a1, ((((a1).length : Nat) : Int), ((0 : Int), (a0_0, (a0_2, (a0_3, ()))))))))) fun z2 =>
 .sm z2 (fun z3 =>
 .ret (z3.1, (z3.2.1, ()))) fun z4 =>
 .ret (z4.1, ((0 : Int), ()))
theorem c72_ok : trF prog f72 = some ⟨33, 2, dd72.er, [.t 4, .t 5], [some (.int .u64), some tI]⟩ := by kernel_rfl
noncomputable def ct72 : Ct := ⟨72, [.agg [.hole (.list (.prod tI tL)), .nili, .hole tI, .hole (.int .u64)], hL], .tup [.hole (.int .u64), .hole tI], fun x => run0 (F72 x.1 x.2.1 x.2.2.1 x.2.2.2.1)⟩
theorem ct72_ok : ct72.Ok prog := ct_ok mixed cx72_ok func72 c72_ok (enters_of func72 rfl rfl) dd72 (by kernel_rfl) rfl (fun x => by kernel_rfl)

/- 72 -/
noncomputable def cx72_v1 : Cx := mkCxH [ct67, ct74] []
theorem cx72_v1_ok : cx72_v1.Ok prog := mkCxH_ok ⟨ct67_ok, ct74_ok, trivial⟩ trivial
@[reducible] def p72_v1_0 : Pat := Pat.mk [(2, .c (.ptr 0 0)), (6, .c (.hole (.int .u64))), (7, hI), (10, hL), (11, hI), (12, hI)] [(0, .cells [.hole (.list (.prod tI tL)), .ifcs 132 false (.cons (.hole (.list (.ifc 55 true (.prod tI tL)))) .nil), .hole tI, .hole (.int .u64)] false)] [.slot 2] []
@[reducible] def x72_v1_0 : Outs := [(.ret, Pat.mk [(4, .c (.hole (.int .u64))), (5, hI)] [] [] []), (.exit 0, Pat.mk [(6, .c (.hole (.int .u64)))] [] [] [])]
noncomputable def b72_v1_0 : D prog 33 none 0 := dO [] (pick (kd prog f72) [(0, false)]) 0
noncomputable def g72_v1_0 : Int × Int × List Int × Int × Int × (List (Int × List Int)) × (List (Int × List Int)) × Int × Int × Unit → Tr0 ((Int × Int × List Int × Int × Int × (List (Int × List Int)) × (List (Int × List Int)) × Int × Int × Unit) ⊕ ((Int × Int × Unit) ⊕ ((Int × Unit)))) := fun (v6, v7, v10, v11, v12, c0_0, c0_1c0, c0_2, c0_3, _) =>
 .br (decide (v12 < v11)) (
 .nb v12 (((v10).length : Nat) : Int) <|
 .ni (c0_2 - (1 : Int)) <|
 .bd (F67 (0 : Int) ((v10).getD (Int.toNat v12) (0 : Int)) (c0_2 - (1 : Int))) fun y0 =>
 .br (!y0.1) (
 .ret (.inr <| .inl <| ((0 : Int), ((5 : Int), ())))) (
 .br (decide (((v10).getD (Int.toNat v12) (0 : Int)) ≤ v7)) (
 .ret (.inr <| .inl <| ((0 : Int), ((7 : Int), ())))) (
 .bd (F74 v6 ((v10).getD (Int.toNat v12) (0 : Int))) fun y1 =>
 .ni (v12 + (1 : Int)) <|
 .ret (.inl (y1.1, (((v10).getD (Int.toNat v12) (0 : Int)), (v10, (v11, ((v12 + (1 : Int)), (c0_0, (c0_1c0, (c0_2, (c0_3, ()))))))))))))) (
 .ret (.inr <| .inr <| (v6, ())))
theorem s72_v1_0 : ∀ x, roundE (kzO (p72_v1_0.T ⊕ x72_v1_0.T)) cx72_v1 ar0 [] p72_v1_0 x72_v1_0 (b72_v1_0) (fun y => some (.inl y)) (fun b => some (.inr b)) x = run0 (g72_v1_0 x) := fun x => by kernel_rfl
noncomputable def L72_v1_0 : LoopS prog 33 none 0 := mkLoop mixed cx72_v1 cx72_v1_ok [] rfl p72_v1_0 x72_v1_0 rfl (b72_v1_0) (fun x => run0 (g72_v1_0 x)) (s72_v1_0)
noncomputable def dd72_v1 : D prog 33 none 0 := dO [.l L72_v1_0] (kd prog f72) 0
noncomputable def F72_v1 (a0_0 : List (Int × List Int)) (a0_1c0 : List (Int × List Int)) (a0_2 : Int) (a0_3 : Int) (a1 : List Int) : Tr0 (Int × Int × Unit) :=
 .bd (.it g72_v1_0 ((0 : Int), ((-1 : Int), (a1, ((((a1).length : Nat) : Int), ((0 : Int), (a0_0, (a0_1c0, (a0_2, (a0_3, ())))))))))) fun z2 =>
 .sm z2 (fun z3 =>
 .ret (z3.1, (z3.2.1, ()))) fun z4 =>
 .ret (z4.1, ((0 : Int), ()))
theorem c72_v1_ok : trF prog f72 = some ⟨33, 2, dd72_v1.er, [.t 4, .t 5], [some (.int .u64), some tI]⟩ := by kernel_rfl
noncomputable def ct72_v1 : Ct := ⟨72, [.agg [.hole (.list (.prod tI tL)), .ifcs 132 false (.cons (.hole (.list (.ifc 55 true (.prod tI tL)))) .nil), .hole tI, .hole (.int .u64)], hL], .tup [.hole (.int .u64), .hole tI], fun x => run0 (F72_v1 x.1 x.2.1 x.2.2.1 x.2.2.2.1 x.2.2.2.2.1)⟩
theorem ct72_v1_ok : ct72_v1.Ok prog := ct_ok mixed cx72_v1_ok func72 c72_v1_ok (enters_of func72 rfl rfl) dd72_v1 (by kernel_rfl) rfl (fun x => by kernel_rfl)

/- 27 -/
noncomputable def cx27 : Cx := mkCxH [ct66, ct67, ct72_v1, ct73, ct74, ct83] []
theorem cx27_ok : cx27.Ok prog := mkCxH_ok ⟨ct66_ok, ct67_ok, ct72_v1_ok, ct73_ok, ct74_ok, ct83_ok, trivial⟩ trivial
@[reducible] def p27_0 : Pat := Pat.mk [(3, .c (.ptr 0 0)), (5, .c (.ptr 1 0)), (7, .c (.pa 2 (.int .u64) 2)), (50, .c (.sl0 3 tL)), (51, hI), (52, hI)] [(0, .cells [.hole tI, .hole tI, .hole tL, .hole tL] false), (1, .cells [.hole (.list (.prod tI tL)), .ifcs 132 false (.cons (.hole (.list (.ifc 55 true (.prod tI tL)))) .nil), .hole tI, .hole (.int .u64)] false), (2, .arr (.int .u64) false), (3, .arr tL false)] [.slot 3, .slot 5, .slot 7, .slot 50] []
@[reducible] def x27_0 : Outs := [(.ret, Pat.mk [(4, hI)] [] [] []), (.exit 1, Pat.mk [(3, .c (.ptr 0 0)), (5, .c (.ptr 1 0)), (7, .c (.pa 2 (.int .u64) 2))] [(0, .cells [.hole tI, .hole tI, .hole tL, .hole tL] false), (1, .cells [.hole (.list (.prod tI tL)), .ifcs 132 false (.cons (.hole (.list (.ifc 55 true (.prod tI tL)))) .nil), .hole tI, .hole (.int .u64)] false), (2, .arr (.int .u64) false)] [.slot 3, .slot 5, .slot 7] [])]
noncomputable def b27_0 : D prog 135 none 0 := dO [] (pick (kd prog f27) [(0, false)]) 0
noncomputable def g27_0 : Nat × Int × Int × Int × Int × List Int × List Int × (List (Int × List Int)) × (List (Int × List Int)) × Int × Int × List Int × List (List Int) × Unit → Tr0 ((Nat × Int × Int × Int × Int × List Int × List Int × (List (Int × List Int)) × (List (Int × List Int)) × Int × Int × List Int × List (List Int) × Unit) ⊕ ((Int × Unit) ⊕ ((Int × Int × List Int × List Int × (List (Int × List Int)) × (List (Int × List Int)) × Int × Int × List Int × Unit)))) := fun (nv50, v51, v52, c0_0, c0_1, c0_2, c0_3, c1_0, c1_1c0, c1_2, c1_3, b2, b3, _) =>
 .br (decide (v52 < v51)) (
 .nb v52 ((nv50 : Nat) : Int) <|
 .nd (decide (((0 : Nat) + (Int.toNat v52)) < (b3).length)) <|
 .bd (F72_v1 c1_0 c1_1c0 c1_2 c1_3 ((b3).getD ((0 : Nat) + (Int.toNat v52)) [])) fun y4 =>
 .br (!(y4.2.1 == (0 : Int))) (
 .ret (.inr <| .inl <| (y4.2.1, ()))) (
 .nb v52 (2 : Int) <|
 .nd (decide ((Int.toNat v52) < (b2).length)) <|
 .ni (v52 + (1 : Int)) <|
 .ret (.inl (nv50, (v51, ((v52 + (1 : Int)), (c0_0, (c0_1, (c0_2, (c0_3, (c1_0, (c1_1c0, (c1_2, (c1_3, (((b2).set (Int.toNat v52) y4.1), (b3, ())))))))))))))))) (
 .ret (.inr <| .inr <| (c0_0, (c0_1, (c0_2, (c0_3, (c1_0, (c1_1c0, (c1_2, (c1_3, (b2, ())))))))))))
theorem s27_0 : ∀ x, roundE (kzO (p27_0.T ⊕ x27_0.T)) cx27 ar0 [] p27_0 x27_0 (b27_0) (fun y => some (.inl y)) (fun b => some (.inr b)) x = run0 (g27_0 x) := fun x => by kernel_rfl
noncomputable def L27_0 : LoopS prog 135 none 0 := mkLoop mixed cx27 cx27_ok [] rfl p27_0 x27_0 rfl (b27_0) (fun x => run0 (g27_0 x)) (s27_0)
noncomputable def dd27 : D prog 135 none 0 := dO [.l L27_0] (kd prog f27) 0
noncomputable def F27 (a0_0 : List (Int × List Int)) (a1 : Int × Int × (List Int) × List Int) : Tr0 (Int × Unit) :=
 .bd (F66 a0_0) fun y0 =>
 .sm y0 (fun y1 =>
 .br (!(y1.2.2.2.1 == (0 : Int))) (
 .ret (y1.2.2.2.1, ())) (
 .ni (y1.2.1 - (1 : Int)) <|
 .bd (F67 (0 : Int) a1.1 (y1.2.1 - (1 : Int))) fun y2 =>
 .br (!y2.1) (
 .ret ((5 : Int), ())) (
 .ni (y1.2.1 - (1 : Int)) <|
 .bd (F67 (0 : Int) a1.2.1 (y1.2.1 - (1 : Int))) fun y3 =>
 .br (!y3.1) (
 .ret ((5 : Int), ())) (
 .br (a1.1 == a1.2.1) (
 .ret ((6 : Int), ())) (
 .no))))) fun y5 =>
 .br (!(y5.2.2.2.2.1 == (0 : Int))) (
 .ret (y5.2.2.2.2.1, ())) (
 .ni (y5.2.2.1 - (1 : Int)) <|
 .bd (F67 (0 : Int) a1.1 (y5.2.2.1 - (1 : Int))) fun y6 =>
 .br (!y6.1) (
 .ret ((5 : Int), ())) (
 .ni (y5.2.2.1 - (1 : Int)) <|
 .bd (F67 (0 : Int) a1.2.1 (y5.2.2.1 - (1 : Int))) fun y7 =>
 .br (!y7.1) (
 .ret ((5 : Int), ())) (
 .br (a1.1 == a1.2.1) (
 .ret ((6 : Int), ())) (
 .bd (.it g27_0 ((2 : Nat), ((2 : Int), ((0 : Int), (a1.1, (a1.2.1, (a1.2.2.1, (a1.2.2.2, (y5.1, (y5.2.1, (y5.2.2.1, (y5.2.2.2.1, ((List.replicate (2 : Nat) (0 : Int)), ((a1.2.2.1 :: (a1.2.2.2 :: [])), ())))))))))))))) fun z8 =>
 .sm z8 (fun z9 =>
 .ret (z9.1, ())) fun z10 =>
 .nd (decide ((0 : Nat) < (z10.2.2.2.2.2.2.2.2.1).length)) <|
 .nd (decide ((1 : Nat) < (z10.2.2.2.2.2.2.2.2.1).length)) <|
 .bd (F73 (ar0.bits Go.AM.IBin.or Go.IntKind.u64 ((z10.2.2.2.2.2.2.2.2.1).getD (0 : Nat) (0 : Int)) ((z10.2.2.2.2.2.2.2.2.1).getD (1 : Nat) (0 : Int))) z10.1) fun y11 =>
 .br y11.1 (
 .ret ((3 : Int), ())) (
 .bd (F73 (ar0.bits Go.AM.IBin.or Go.IntKind.u64 ((z10.2.2.2.2.2.2.2.2.1).getD (0 : Nat) (0 : Int)) ((z10.2.2.2.2.2.2.2.2.1).getD (1 : Nat) (0 : Int))) z10.2.1) fun y12 =>
 .br y12.1 (
 .ret ((3 : Int), ())) (
 .nd (decide ((0 : Nat) < (z10.2.2.2.2.2.2.2.2.1).length)) <|
 .bd (F74 ((z10.2.2.2.2.2.2.2.2.1).getD (0 : Nat) (0 : Int)) z10.1) fun y13 =>
 .bd (F83 z10.2.2.2.2.2.1 y13.1) fun y14 =>
 .br y14.1 (
 .nd (decide ((1 : Nat) < (z10.2.2.2.2.2.2.2.2.1).length)) <|
 .bd (F74 ((z10.2.2.2.2.2.2.2.2.1).getD (1 : Nat) (0 : Int)) z10.2.1) fun y15 =>
 .bd (F83 z10.2.2.2.2.2.1 y15.1) fun y16 =>
 .br y16.1 (
 .nd (decide ((0 : Nat) < (z10.2.2.2.2.2.2.2.2.1).length)) <|
 .bd (F74 ((z10.2.2.2.2.2.2.2.2.1).getD (0 : Nat) (0 : Int)) z10.2.1) fun y17 =>
 .bd (F83 z10.2.2.2.2.2.1 y17.1) fun y18 =>
 .br (!y18.1) (
 .nd (decide ((1 : Nat) < (z10.2.2.2.2.2.2.2.2.1).length)) <|
 .bd (F74 ((z10.2.2.2.2.2.2.2.2.1).getD (1 : Nat) (0 : Int)) z10.1) fun y19 =>
 .bd (F83 z10.2.2.2.2.2.1 y19.1) fun y20 =>
 .br (!(!y20.1)) (
 .ret ((11 : Int), ())) (
 .ret ((0 : Int), ()))) (
 .ret ((11 : Int), ()))) (
 .ret ((11 : Int), ()))) (
 .ret ((11 : Int), ()))))))))
theorem c27_ok : trF prog f27 = some ⟨135, 2, dd27.er, [.t 4], [some tI]⟩ := by kernel_rfl
noncomputable def ct27 : Ct := ⟨27, [.agg [.hole (.list (.prod tI tL))], .c (.hole (.prod tI (.prod tI (.prod tL tL))))], hI, fun x => run0 (F27 x.1 x.2.1)⟩
theorem ct27_ok : ct27.Ok prog := ct_ok mixed cx27_ok func27 c27_ok (enters_of func27 rfl rfl) dd27 (by kernel_rfl) rfl (fun x => by kernel_rfl)

end Go.Proofs.Tryd

