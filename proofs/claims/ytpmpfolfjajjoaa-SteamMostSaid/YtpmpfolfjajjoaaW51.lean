/- Functions of the program as functions of data, part 2; printed by a program of mine. -/
import Derived.Test.YtpmpfolfjajjoaaW50
import Derived.Test.YtpmpfolfjajjoaaProg
set_option linter.unusedSectionVars false
set_option linter.unusedVariables false
set_option linter.unusedSimpArgs false
open Go.AM
namespace Go.Proofs.Try
set_option maxRecDepth 100000
set_option synthInstance.maxSize 4000
set_option synthInstance.maxHeartbeats 400000


/- 5 -/
noncomputable def cx5 : Cx := (mkCxH [ct10, ct21, ct16, ct18] [])
theorem cx5_ok : cx5.Ok prog := mkCxH_ok ⟨ct10_ok, ct21_ok, ct16_ok, ct18_ok, trivial⟩ trivial
@[reducible] def p5_1 : Pat := Pat.mk [(9, hI), (10, hI), (11, hI), (13, .c (.hole (.list (.prod tI tI)))), (15, hI), (16, hI), (19, hI), (71, .c (.hole (.list (.list (.prod tI tI))))), (72, hI), (73, hI), (90, .c (.hole (.list (.prod tI tI)))), (91, hI), (92, hI)] [] [] []
@[reducible] def x5_1 : Outs := [(.exit 2, Pat.mk [(9, hI), (10, hI), (11, hI), (13, .c (.hole (.list (.prod tI tI)))), (15, hI), (16, hI), (19, hI), (71, .c (.hole (.list (.list (.prod tI tI))))), (72, hI), (73, hI)] [] [] [])]
noncomputable def b5_1 : D prog 141 none 0 := dO [] (pick (kd prog f5) [(0, false), (0, false)]) 0
noncomputable def g5_1 : Int × Int × Int × (List (Int × Int)) × Int × Int × Int × (List (List (Int × Int))) × Int × Int × (List (Int × Int)) × Int × Int × Unit → Tr0 ((Int × Int × Int × (List (Int × Int)) × Int × Int × Int × (List (List (Int × Int))) × Int × Int × (List (Int × Int)) × Int × Int × Unit) ⊕ ((Int × Int × Int × (List (Int × Int)) × Int × Int × Int × (List (List (Int × Int))) × Int × Int × Unit))) := fun (v9, v10, v11, v13, v15, v16, v19, v71, v72, v73, v90, v91, v92, _) =>
 .br (decide (v92 < v91)) (
 .nb v92 (((v90).length : Nat) : Int) <|
 .ni (v9 * ((v90).getD (Int.toNat v92) ((0 : Int), (0 : Int))).1) <|
 .ni (v10 * ((v90).getD (Int.toNat v92) ((0 : Int), (0 : Int))).2) <|
 .ni ((v9 * ((v90).getD (Int.toNat v92) ((0 : Int), (0 : Int))).1) + (v10 * ((v90).getD (Int.toNat v92) ((0 : Int), (0 : Int))).2)) <|
 .ni (v92 + (1 : Int)) <|
 .ret (.inl (v9, (v10, (v11, (v13, (v15, (v16, ((imax v19 ((v9 * ((v90).getD (Int.toNat v92) ((0 : Int), (0 : Int))).1) + (v10 * ((v90).getD (Int.toNat v92) ((0 : Int), (0 : Int))).2))), (v71, (v72, (v73, (v90, (v91, ((v92 + (1 : Int)), ()))))))))))))))) (
 .ret (.inr (v9, (v10, (v11, (v13, (v15, (v16, (v19, (v71, (v72, (v73, ()))))))))))))
theorem s5_1 : ∀ x, roundE (kzO (p5_1.T ⊕ x5_1.T)) cx5 ar0 [] p5_1 x5_1 (b5_1) (fun y => some (.inl y)) (fun b => some (.inr b)) x = run0 (g5_1 x) := fun x => by kernel_rfl
noncomputable def L5_1 : LoopS prog 141 none 0 := mkLoop mixed cx5 cx5_ok [] rfl p5_1 x5_1 rfl (b5_1) (fun x => run0 (g5_1 x)) (s5_1)
@[reducible] def p5_0 : Pat := Pat.mk [(9, hI), (10, hI), (11, hI), (13, .c (.hole (.list (.prod tI tI)))), (15, hI), (16, hI), (71, .c (.hole (.list (.list (.prod tI tI))))), (72, hI), (73, hI)] [] [] []
@[reducible] def x5_0 : Outs := [(.exit 0, Pat.mk [(9, hI), (10, hI), (11, hI), (13, .c (.hole (.list (.prod tI tI)))), (15, hI), (16, hI)] [] [] [])]
noncomputable def b5_0 : D prog 141 none 0 := dO [.l L5_1] (pick (kd prog f5) [(0, false)]) 0
noncomputable def g5_0 : Int × Int × Int × (List (Int × Int)) × Int × Int × (List (List (Int × Int))) × Int × Int × Unit → Tr0 ((Int × Int × Int × (List (Int × Int)) × Int × Int × (List (List (Int × Int))) × Int × Int × Unit) ⊕ ((Int × Int × Int × (List (Int × Int)) × Int × Int × Unit))) := fun (v9, v10, v11, v13, v15, v16, v71, v72, v73, _) =>
 .br (decide (v73 < v72)) (
 .nb v73 (((v71).length : Nat) : Int) <|
 .nb (0 : Int) (((((v71).getD (Int.toNat v73) [])).length : Nat) : Int) <|
 .ni (v9 * ((((v71).getD (Int.toNat v73) [])).getD (Int.toNat (0 : Int)) ((0 : Int), (0 : Int))).1) <|
 .nb (0 : Int) (((((v71).getD (Int.toNat v73) [])).length : Nat) : Int) <|
 .ni (v10 * ((((v71).getD (Int.toNat v73) [])).getD (Int.toNat (0 : Int)) ((0 : Int), (0 : Int))).2) <|
 .ni ((v9 * ((((v71).getD (Int.toNat v73) [])).getD (Int.toNat (0 : Int)) ((0 : Int), (0 : Int))).1) + (v10 * ((((v71).getD (Int.toNat v73) [])).getD (Int.toNat (0 : Int)) ((0 : Int), (0 : Int))).2)) <|
 .bd (.it g5_1 (v9, (v10, (v11, (v13, (v15, (v16, (((v9 * ((((v71).getD (Int.toNat v73) [])).getD (Int.toNat (0 : Int)) ((0 : Int), (0 : Int))).1) + (v10 * ((((v71).getD (Int.toNat v73) [])).getD (Int.toNat (0 : Int)) ((0 : Int), (0 : Int))).2)), (v71, (v72, (v73, (((v71).getD (Int.toNat v73) []), ((((((v71).getD (Int.toNat v73) [])).length : Nat) : Int), ((0 : Int), ())))))))))))))) fun z3 =>
 .ni (z3.2.2.2.2.1 + z3.2.2.2.2.2.2.1) <|
 .ni (z3.2.2.2.2.2.2.2.2.2.1 + (1 : Int)) <|
 .ret (.inl (z3.1, (z3.2.1, (z3.2.2.1, (z3.2.2.2.1, ((z3.2.2.2.2.1 + z3.2.2.2.2.2.2.1), (z3.2.2.2.2.2.1, (z3.2.2.2.2.2.2.2.1, (z3.2.2.2.2.2.2.2.2.1, ((z3.2.2.2.2.2.2.2.2.2.1 + (1 : Int)), ()))))))))))) (
 .ret (.inr (v9, (v10, (v11, (v13, (v15, (v16, ()))))))))
theorem s5_0 : ∀ x, roundE (kzO (p5_0.T ⊕ x5_0.T)) cx5 ar0 [] p5_0 x5_0 (b5_0) (fun y => some (.inl y)) (fun b => some (.inr b)) x = run0 (g5_0 x) := fun x => by kernel_rfl
noncomputable def L5_0 : LoopS prog 141 none 0 := mkLoop mixed cx5 cx5_ok [] rfl p5_0 x5_0 rfl (b5_0) (fun x => run0 (g5_0 x)) (s5_0)
@[reducible] def p5_2 : Pat := Pat.mk [(9, hI), (10, hI), (11, hI), (15, hI), (16, hI), (112, .c (.hole (.list (.prod tI tI)))), (113, hI), (114, hI)] [] [] []
@[reducible] def x5_2 : Outs := [(.exit 4, Pat.mk [(11, hI), (15, hI), (16, hI)] [] [] [])]
noncomputable def b5_2 : D prog 141 none 0 := dO [] (pick (kd prog f5) [(1, false)]) 0
noncomputable def g5_2 : Int × Int × Int × Int × Int × (List (Int × Int)) × Int × Int × Unit → Tr0 ((Int × Int × Int × Int × Int × (List (Int × Int)) × Int × Int × Unit) ⊕ ((Int × Int × Int × Unit))) := fun (v9, v10, v11, v15, v16, v112, v113, v114, _) =>
 .br (decide (v114 < v113)) (
 .nb v114 (((v112).length : Nat) : Int) <|
 .ni (v9 * ((v112).getD (Int.toNat v114) ((0 : Int), (0 : Int))).1) <|
 .ni (v10 * ((v112).getD (Int.toNat v114) ((0 : Int), (0 : Int))).2) <|
 .ni ((v9 * ((v112).getD (Int.toNat v114) ((0 : Int), (0 : Int))).1) + (v10 * ((v112).getD (Int.toNat v114) ((0 : Int), (0 : Int))).2)) <|
 .ni (v114 + (1 : Int)) <|
 .ret (.inl (v9, (v10, (v11, (v15, ((imax v16 ((v9 * ((v112).getD (Int.toNat v114) ((0 : Int), (0 : Int))).1) + (v10 * ((v112).getD (Int.toNat v114) ((0 : Int), (0 : Int))).2))), (v112, (v113, ((v114 + (1 : Int)), ())))))))))) (
 .ret (.inr (v11, (v15, (v16, ())))))
theorem s5_2 : ∀ x, roundE (kzO (p5_2.T ⊕ x5_2.T)) cx5 ar0 [] p5_2 x5_2 (b5_2) (fun y => some (.inl y)) (fun b => some (.inr b)) x = run0 (g5_2 x) := fun x => by kernel_rfl
noncomputable def L5_2 : LoopS prog 141 none 0 := mkLoop mixed cx5 cx5_ok [] rfl p5_2 x5_2 rfl (b5_2) (fun x => run0 (g5_2 x)) (s5_2)
noncomputable def dd5 : D prog 141 none 0 := dO [.l L5_0, .l L5_2] (kd prog f5) 0
noncomputable def F5 (a0 : List (List (Int × Int))) (a1 : Int) (a2 : Int) : Tr0 (Bool × Unit) :=
 .bd (F10 a0) fun y0 =>
 .br (!y0.2.1) (
 .ret (false, ())) (
 .ni a1 <|
 .ni a2 <|
 .bd (F21 y0.1 a1 a2) fun y1 =>
 .bd (F16 y0.1) fun y2 =>
 .br (!(y1.2.1 == (0 : Int))) (
 .ret (false, ())) (
 .br (!(y2.2.1 == (0 : Int))) (
 .ret (false, ())) (
 .br ((((y2.1).length : Nat) : Int) == (0 : Int)) (
 .ret (false, ())) (
 .nb (0 : Int) (((y2.1).length : Nat) : Int) <|
 .ni (a1 * ((y2.1).getD (Int.toNat (0 : Int)) ((0 : Int), (0 : Int))).1) <|
 .nb (0 : Int) (((y2.1).length : Nat) : Int) <|
 .ni (a2 * ((y2.1).getD (Int.toNat (0 : Int)) ((0 : Int), (0 : Int))).2) <|
 .ni ((a1 * ((y2.1).getD (Int.toNat (0 : Int)) ((0 : Int), (0 : Int))).1) + (a2 * ((y2.1).getD (Int.toNat (0 : Int)) ((0 : Int), (0 : Int))).2)) <|
 .bd (.it g5_0 (a1, (a2, (y1.1, (y2.1, ((0 : Int), (((a1 * ((y2.1).getD (Int.toNat (0 : Int)) ((0 : Int), (0 : Int))).1) + (a2 * ((y2.1).getD (Int.toNat (0 : Int)) ((0 : Int), (0 : Int))).2)), (y0.1, ((((y0.1).length : Nat) : Int), ((0 : Int), ())))))))))) fun z4 =>
 .bd (.it g5_2 (z4.1, (z4.2.1, (z4.2.2.1, (z4.2.2.2.2.1, (z4.2.2.2.2.2.1, (z4.2.2.2.1, ((((z4.2.2.2.1).length : Nat) : Int), ((0 : Int), ()))))))))) fun z5 =>
 .br (z5.1 == z5.2.1) (
 .br (z5.1 == z5.2.2.1) (
 .bd (F18) fun y6 =>
 .ret (y6.1, ())) (
 .ret (false, ()))) (
 .ret (false, ()))))))
theorem c5_ok : trF prog f5 = some ⟨141, 3, dd5.er, [.t 6], [some .bool]⟩ := by kernel_rfl
noncomputable def ct5 : Ct := ⟨5, [.c (.hole (.list (.list (.prod (.int .i8) (.int .i8))))), .c (.hole (.int .i16)), .c (.hole (.int .i16))], .c (.hole .bool), fun x => run0 (F5 x.1 x.2.1 x.2.2.1)⟩
theorem ct5_ok : ct5.Ok prog := ct_ok mixed cx5_ok func5 c5_ok (enters_of func5 rfl rfl) dd5 (by kernel_rfl) rfl (fun x => by kernel_rfl)

end Go.Proofs.Try

