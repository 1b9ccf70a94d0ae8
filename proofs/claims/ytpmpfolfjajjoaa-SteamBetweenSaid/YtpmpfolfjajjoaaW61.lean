/- Functions of the program as functions of data, part 2; printed by a program of mine. -/
import Derived.Test.YtpmpfolfjajjoaaW60
import Derived.Test.YtpmpfolfjajjoaaProg
set_option linter.unusedSectionVars false
set_option linter.unusedVariables false
set_option linter.unusedSimpArgs false
open Go.AM
namespace Go.Proofs.Try
set_option maxRecDepth 100000
set_option synthInstance.maxSize 4000
set_option synthInstance.maxHeartbeats 400000


/- 6 -/
noncomputable def cx6 : Cx := (mkCxH [ct10, ct11, ct13, ct14, ct20, ct22, ct16, ct12, ct18] [])
theorem cx6_ok : cx6.Ok prog := mkCxH_ok ⟨ct10_ok, ct11_ok, ct13_ok, ct14_ok, ct20_ok, ct22_ok, ct16_ok, ct12_ok, ct18_ok, trivial⟩ trivial
@[reducible] def p6_0 : Pat := Pat.mk [(3, .c (.hole (.int .i8))), (9, .c (.hole (.list (.list (.prod tI tI))))), (12, .c (.ptr 0 0)), (13, .c (.ptr 1 0)), (14, hI), (15, hI)] [(0, .cells [.hole tI, .hole tI] false), (1, .cells [.hole tI, .hole tI] false)] [.slot 12, .slot 13] []
@[reducible] def x6_0 : Outs := [(.exit 0, Pat.mk [(3, .c (.hole (.int .i8))), (9, .c (.hole (.list (.list (.prod tI tI))))), (12, .c (.ptr 0 0)), (13, .c (.ptr 1 0)), (14, hI)] [(0, .cells [.hole tI, .hole tI] false), (1, .cells [.hole tI, .hole tI] false)] [.slot 12, .slot 13] [])]
noncomputable def b6_0 : D prog 201 none 0 := dO [] (pick (kd prog f6) [(0, false)]) 0
noncomputable def g6_0 : Int × (List (List (Int × Int))) × Int × Int × Int × Int × Int × Int × Unit → Tr0 ((Int × (List (List (Int × Int))) × Int × Int × Int × Int × Int × Int × Unit) ⊕ ((Int × (List (List (Int × Int))) × Int × Int × Int × Int × Int × Unit))) := fun (v3, v9, v14, v15, c0_0, c0_1, c1_0, c1_1, _) =>
 .br (decide ((0 : Int) < v15)) (
 .nd (!(v15 == (0 : Int))) <|
 .ret (.inl (v3, (v9, (v15, ((Int.tmod v14 v15), (c0_0, (c0_1, (c1_0, (c1_1, ())))))))))) (
 .ret (.inr (v3, (v9, (v14, (c0_0, (c0_1, (c1_0, (c1_1, ())))))))))
theorem s6_0 : ∀ x, roundE (kzO (p6_0.T ⊕ x6_0.T)) cx6 ar0 [] p6_0 x6_0 (b6_0) (fun y => some (.inl y)) (fun b => some (.inr b)) x = run0 (g6_0 x) := fun x => by kernel_rfl
noncomputable def L6_0 : LoopS prog 201 none 0 := mkLoop mixed cx6 cx6_ok [] rfl p6_0 x6_0 rfl (b6_0) (fun x => run0 (g6_0 x)) (s6_0)
@[reducible] def p6_1 : Pat := Pat.mk [(3, .c (.hole (.int .i8))), (9, .c (.hole (.list (.list (.prod tI tI))))), (12, .c (.ptr 0 0)), (13, .c (.ptr 1 0)), (14, hI), (16, hI)] [(0, .cells [.hole tI, .hole tI] false), (1, .cells [.hole tI, .hole tI] false)] [.slot 12, .slot 13] []
@[reducible] def x6_1 : Outs := [(.ret, Pat.mk [(8, .c (.tf false))] [] [] []), (.exit 2, Pat.mk [(3, .c (.hole (.int .i8))), (9, .c (.hole (.list (.list (.prod tI tI)))))] [] [] [])]
noncomputable def b6_1 : D prog 201 none 0 := dO [] (pick (kd prog f6) [(1, false)]) 0
noncomputable def g6_1 : Int × (List (List (Int × Int))) × Int × Int × Int × Int × Int × Int × Unit → Tr0 ((Int × (List (List (Int × Int))) × Int × Int × Int × Int × Int × Int × Unit) ⊕ ((Unit) ⊕ ((Int × (List (List (Int × Int))) × Unit)))) := fun (v3, v9, v14, v16, c0_0, c0_1, c1_0, c1_1, _) =>
 .br (decide (v16 ≤ v14)) (
 .jx (
 .br (decide ((0 : Int) < v14)) (
 .ni (c1_0 - c0_0) <|
 .nd (!(v14 == (0 : Int))) <|
 .ni (Int.tdiv (c1_0 - c0_0) v14) <|
 .ni ((Int.tdiv (c1_0 - c0_0) v14) * v16) <|
 .ni (c0_0 + ((Int.tdiv (c1_0 - c0_0) v14) * v16)) <|
 .ni (c1_1 - c0_1) <|
 .nd (!(v14 == (0 : Int))) <|
 .ni (Int.tdiv (c1_1 - c0_1) v14) <|
 .ni ((Int.tdiv (c1_1 - c0_1) v14) * v16) <|
 .ni (c0_1 + ((Int.tdiv (c1_1 - c0_1) v14) * v16)) <|
 .ret (.inl (v3, (v9, (v14, (v16, (c0_0, (c0_1, (c1_0, (c1_1, ((c0_0 + ((Int.tdiv (c1_0 - c0_0) v14) * v16)), ((c0_1 + ((Int.tdiv (c1_1 - c0_1) v14) * v16)), ())))))))))))) (
 .ret (.inl (v3, (v9, (v14, (v16, (c0_0, (c0_1, (c1_0, (c1_1, (c0_0, (c0_1, ()))))))))))))) fun j3 =>
 .bd (F13 j3.2.1 (j3.2.2.2.2.2.2.2.2.1, j3.2.2.2.2.2.2.2.2.2.1)) fun y4 =>
 .bd (F14 j3.2.1 (j3.2.2.2.2.2.2.2.2.1, j3.2.2.2.2.2.2.2.2.2.1)) fun y5 =>
 .br (!y4.1) (
 .ret (.inr <| .inl <| ())) (
 .br (!(y4.2.1 == (0 : Int))) (
 .ret (.inr <| .inl <| ())) (
 .br (!(y5.2.1 == (0 : Int))) (
 .ret (.inr <| .inl <| ())) (
 .bd (F20 j3.2.1 (j3.2.2.2.2.2.2.2.2.1, j3.2.2.2.2.2.2.2.2.2.1) (y5.1.1, y5.1.2)) fun y6 =>
 .br (!(y6.1 == (0 : Int))) (
 .ret (.inr <| .inl <| ())) (
 .ni (j3.2.2.2.1 + (1 : Int)) <|
 .ret (.inl (j3.1, (j3.2.1, (j3.2.2.1, ((j3.2.2.2.1 + (1 : Int)), (j3.2.2.2.2.1, (j3.2.2.2.2.2.1, (j3.2.2.2.2.2.2.1, (j3.2.2.2.2.2.2.2.1, ())))))))))))))) (
 .ret (.inr <| .inr <| (v3, (v9, ()))))
theorem s6_1 : ∀ x, roundE (kzO (p6_1.T ⊕ x6_1.T)) cx6 ar0 [] p6_1 x6_1 (b6_1) (fun y => some (.inl y)) (fun b => some (.inr b)) x = run0 (g6_1 x) := fun x => Eq.trans (b := run0 (flat (g6_1 x))) (by kernel_rfl) run_flat
noncomputable def L6_1 : LoopS prog 201 none 0 := mkLoop mixed cx6 cx6_ok [] rfl p6_1 x6_1 rfl (b6_1) (fun x => run0 (g6_1 x)) (s6_1)
@[reducible] def p6_2 : Pat := Pat.mk [(22, hI), (23, .c (.ptr 0 0)), (24, hI), (25, .c (.hole (.list (.prod tI tI)))), (27, hI)] [(0, .cells [.hole tI, .hole tI] false)] [.slot 23] []
@[reducible] def x6_2 : Outs := [(.ret, Pat.mk [(8, .c (.tf false))] [] [] []), (.exit 4, Pat.mk [(23, .c (.ptr 0 0)), (24, hI)] [(0, .cells [.hole tI, .hole tI] false)] [.slot 23] [])]
noncomputable def b6_2 : D prog 201 none 0 := dO [] (pick (kd prog f6) [(2, false)]) 0
noncomputable def g6_2 : Int × Int × (List (Int × Int)) × Int × Int × Int × Unit → Tr0 ((Int × Int × (List (Int × Int)) × Int × Int × Int × Unit) ⊕ ((Unit) ⊕ ((Int × Int × Int × Unit)))) := fun (v22, v24, v25, v27, c0_0, c0_1, _) =>
 .br (decide (v27 ≤ (60 : Int))) (
 .bd (F12 v25 (v27, v22)) fun y12 =>
 .br (v24 == (0 : Int)) (
 .br (decide (c0_0 ≤ v27)) (
 .br (!(y12.1 == (decide (v27 ≤ c0_1)))) (
 .ret (.inr <| .inl <| ())) (
 .ni (v27 + (1 : Int)) <|
 .ret (.inl (v22, (v24, (v25, ((v27 + (1 : Int)), (c0_0, (c0_1, ()))))))))) (
 .br (!(y12.1 == false)) (
 .ret (.inr <| .inl <| ())) (
 .ni (v27 + (1 : Int)) <|
 .ret (.inl (v22, (v24, (v25, ((v27 + (1 : Int)), (c0_0, (c0_1, ())))))))))) (
 .br (!(y12.1 == false)) (
 .ret (.inr <| .inl <| ())) (
 .ni (v27 + (1 : Int)) <|
 .ret (.inl (v22, (v24, (v25, ((v27 + (1 : Int)), (c0_0, (c0_1, ())))))))))) (
 .ret (.inr <| .inr <| (v24, (c0_0, (c0_1, ())))))
theorem s6_2 : ∀ x, roundE (kzO (p6_2.T ⊕ x6_2.T)) cx6 ar0 [] p6_2 x6_2 (b6_2) (fun y => some (.inl y)) (fun b => some (.inr b)) x = run0 (g6_2 x) := fun x => by kernel_rfl
noncomputable def L6_2 : LoopS prog 201 none 0 := mkLoop mixed cx6 cx6_ok [] rfl p6_2 x6_2 rfl (b6_2) (fun x => run0 (g6_2 x)) (s6_2)
noncomputable def dd6 : D prog 201 none 0 := dO [.l L6_0, .l L6_1, .l L6_2] (kd prog f6) 0
noncomputable def F6 (a0 : List (List (Int × Int))) (a1 : Int) (a2 : Int) (a3 : Int) : Tr0 (Bool × Unit) :=
 .bd (F10 a0) fun y0 =>
 .br (!y0.2.1) (
 .ret (false, ())) (
 .bd (F11 y0.1) fun y1 =>
 .ni a1 <|
 .nd (!((((y1.1).length : Nat) : Int) == (0 : Int))) <|
 .nb (Int.tmod a1 (((y1.1).length : Nat) : Int)) (((y1.1).length : Nat) : Int) <|
 .ni a2 <|
 .nd (!((((y1.1).length : Nat) : Int) == (0 : Int))) <|
 .nb (Int.tmod a2 (((y1.1).length : Nat) : Int)) (((y1.1).length : Nat) : Int) <|
 .ni (((y1.1).getD (Int.toNat (Int.tmod a1 (((y1.1).length : Nat) : Int))) ((0 : Int), (0 : Int))).1 - ((y1.1).getD (Int.toNat (Int.tmod a2 (((y1.1).length : Nat) : Int))) ((0 : Int), (0 : Int))).1) <|
 .ni (((y1.1).getD (Int.toNat (Int.tmod a2 (((y1.1).length : Nat) : Int))) ((0 : Int), (0 : Int))).1 - ((y1.1).getD (Int.toNat (Int.tmod a1 (((y1.1).length : Nat) : Int))) ((0 : Int), (0 : Int))).1) <|
 .ni (((y1.1).getD (Int.toNat (Int.tmod a1 (((y1.1).length : Nat) : Int))) ((0 : Int), (0 : Int))).2 - ((y1.1).getD (Int.toNat (Int.tmod a2 (((y1.1).length : Nat) : Int))) ((0 : Int), (0 : Int))).2) <|
 .ni (((y1.1).getD (Int.toNat (Int.tmod a2 (((y1.1).length : Nat) : Int))) ((0 : Int), (0 : Int))).2 - ((y1.1).getD (Int.toNat (Int.tmod a1 (((y1.1).length : Nat) : Int))) ((0 : Int), (0 : Int))).2) <|
 .bd (.it g6_0 (a3, (y0.1, ((imax (((y1.1).getD (Int.toNat (Int.tmod a1 (((y1.1).length : Nat) : Int))) ((0 : Int), (0 : Int))).1 - ((y1.1).getD (Int.toNat (Int.tmod a2 (((y1.1).length : Nat) : Int))) ((0 : Int), (0 : Int))).1) (((y1.1).getD (Int.toNat (Int.tmod a2 (((y1.1).length : Nat) : Int))) ((0 : Int), (0 : Int))).1 - ((y1.1).getD (Int.toNat (Int.tmod a1 (((y1.1).length : Nat) : Int))) ((0 : Int), (0 : Int))).1)), ((imax (((y1.1).getD (Int.toNat (Int.tmod a1 (((y1.1).length : Nat) : Int))) ((0 : Int), (0 : Int))).2 - ((y1.1).getD (Int.toNat (Int.tmod a2 (((y1.1).length : Nat) : Int))) ((0 : Int), (0 : Int))).2) (((y1.1).getD (Int.toNat (Int.tmod a2 (((y1.1).length : Nat) : Int))) ((0 : Int), (0 : Int))).2 - ((y1.1).getD (Int.toNat (Int.tmod a1 (((y1.1).length : Nat) : Int))) ((0 : Int), (0 : Int))).2)), (((y1.1).getD (Int.toNat (Int.tmod a1 (((y1.1).length : Nat) : Int))) ((0 : Int), (0 : Int))).1, (((y1.1).getD (Int.toNat (Int.tmod a1 (((y1.1).length : Nat) : Int))) ((0 : Int), (0 : Int))).2, (((y1.1).getD (Int.toNat (Int.tmod a2 (((y1.1).length : Nat) : Int))) ((0 : Int), (0 : Int))).1, (((y1.1).getD (Int.toNat (Int.tmod a2 (((y1.1).length : Nat) : Int))) ((0 : Int), (0 : Int))).2, ()))))))))) fun z2 =>
 .bd (.it g6_1 (z2.1, (z2.2.1, (z2.2.2.1, ((0 : Int), (z2.2.2.2.1, (z2.2.2.2.2.1, (z2.2.2.2.2.2.1, (z2.2.2.2.2.2.2.1, ()))))))))) fun z7 =>
 .sm z7 (fun z8 =>
 .ret (false, ())) fun z9 =>
 .ni z9.1 <|
 .nd (!((4 : Int) == (0 : Int))) <|
 .ni (Int.tdiv z9.1 (4 : Int)) <|
 .bd (F22 z9.2.1 (Int.tdiv z9.1 (4 : Int))) fun y10 =>
 .bd (F16 z9.2.1) fun y11 =>
 .br (!(y10.2.1 == (0 : Int))) (
 .br (!(y10.2.1 == (5 : Int))) (
 .ret (false, ())) (
 .br (!(y11.2.1 == (0 : Int))) (
 .ret (false, ())) (
 .bd (.it g6_2 ((Int.tdiv z9.1 (4 : Int)), (y10.2.1, (y11.1, ((-60 : Int), (y10.1.1, (y10.1.2, ()))))))) fun z13 =>
 .sm z13 (fun z14 =>
 .ret (false, ())) fun z15 =>
 .br (z15.1 == (0 : Int)) (
 .bd (F18) fun y16 =>
 .ret (y16.1, ())) (
 .br ((z15.2.1 == (0 : Int)) && ((z15.2.2.1 == (0 : Int)) && true)) (
 .bd (F18) fun y17 =>
 .ret (y17.1, ())) (
 .ret (false, ())))))) (
 .br (!(y11.2.1 == (0 : Int))) (
 .ret (false, ())) (
 .bd (.it g6_2 ((Int.tdiv z9.1 (4 : Int)), (y10.2.1, (y11.1, ((-60 : Int), (y10.1.1, (y10.1.2, ()))))))) fun z18 =>
 .sm z18 (fun z19 =>
 .ret (false, ())) fun z20 =>
 .br (z20.1 == (0 : Int)) (
 .bd (F18) fun y21 =>
 .ret (y21.1, ())) (
 .br ((z20.2.1 == (0 : Int)) && ((z20.2.2.1 == (0 : Int)) && true)) (
 .bd (F18) fun y22 =>
 .ret (y22.1, ())) (
 .ret (false, ()))))))
theorem c6_ok : trF prog f6 = some ⟨201, 4, dd6.er, [.t 8], [some .bool]⟩ := by kernel_rfl
noncomputable def ct6 : Ct := ⟨6, [.c (.hole (.list (.list (.prod (.int .i8) (.int .i8))))), .c (.hole (.int .u8)), .c (.hole (.int .u8)), .c (.hole (.int .i8))], .c (.hole .bool), fun x => run0 (F6 x.1 x.2.1 x.2.2.1 x.2.2.2.1)⟩
theorem ct6_ok : ct6.Ok prog := ct_ok mixed cx6_ok func6 c6_ok (enters_of func6 rfl rfl) dd6 (by kernel_rfl) rfl (fun x => by kernel_rfl)

end Go.Proofs.Try

