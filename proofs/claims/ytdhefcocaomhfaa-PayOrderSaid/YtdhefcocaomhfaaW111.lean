/- Functions of the program as functions of data, part 2; printed by a program of mine. -/
import Derived.Test.YtdhefcocaomhfaaW110
import Derived.Test.YtdhefcocaomhfaaProg
set_option linter.unusedSectionVars false
set_option linter.unusedVariables false
set_option linter.unusedSimpArgs false
open Go.AM
namespace Go.Proofs.Try
set_option maxRecDepth 100000
set_option synthInstance.maxSize 4000
set_option synthInstance.maxHeartbeats 400000


/- 11 -/
noncomputable def cx11 : Cx := mkCxH [ct34, ct38, ct26, ct30, ct16] []
theorem cx11_ok : cx11.Ok prog := mkCxH_ok ⟨ct34_ok, ct38_ok, ct26_ok, ct30_ok, ct16_ok, trivial⟩ trivial
@[reducible] def p11_0 : Pat := Pat.mk [(5, .c (.ptr 0 0)), (6, .c (.ptr 1 0)), (7, .fn 38 [] [.ptr 2 0, .ptr 1 0]), (8, .c (.ptr 3 0)), (38, .c (.hole (.list (.prod .str tI)))), (39, hI), (40, hI)] [(0, .cells [.hole tI, .hole tI, .hole tI, .hole (.list (.prod .str tI)), .hole (.list (.prod tI (.prod tI (.prod tI tI))))] false), (1, .cells [.hole tI] false), (2, .cells [.hole (.int .u8)] false), (3, .cells [.hole tI, .hole tI, .hole tI, .sl0 4 (.prod .str tI), .nsl] false), (4, .arr (.prod .str tI) false)] [.slot 5, .slot 6, .part 7 0, .slot 8, .cell 3 3] []
@[reducible] def x11_0 : Outs := [(.exit 0, Pat.mk [(5, .c (.ptr 0 0)), (6, .c (.ptr 1 0)), (7, .fn 38 [] [.ptr 2 0, .ptr 1 0]), (8, .c (.ptr 3 0))] [(0, .cells [.hole tI, .hole tI, .hole tI, .hole (.list (.prod .str tI)), .hole (.list (.prod tI (.prod tI (.prod tI tI))))] false), (1, .cells [.hole tI] false), (2, .cells [.hole (.int .u8)] false), (3, .cells [.hole tI, .hole tI, .hole tI, .sl0 4 (.prod .str tI), .nsl] false), (4, .arr (.prod .str tI) false)] [.slot 5, .slot 6, .part 7 0, .slot 8, .cell 3 3] [])]
noncomputable def b11_0 : D prog 170 none 0 := dO [] (pick (kd prog f11) [(0, false)]) 0
noncomputable def g11_0 : (List (ByteArray × Int)) × Int × Int × Int × Int × Int × (List (ByteArray × Int)) × (List (Int × Int × Int × Int)) × Int × Int × Int × Int × Int × Nat × (List (ByteArray × Int)) × Unit → Tr0 (((List (ByteArray × Int)) × Int × Int × Int × Int × Int × (List (ByteArray × Int)) × (List (Int × Int × Int × Int)) × Int × Int × Int × Int × Int × Nat × (List (ByteArray × Int)) × Unit) ⊕ ((Int × Int × Int × (List (ByteArray × Int)) × (List (Int × Int × Int × Int)) × Int × Int × Int × Int × Int × Nat × (List (ByteArray × Int)) × Unit))) := fun (v38, v39, v40, c0_0, c0_1, c0_2, c0_3, c0_4, c1_0, c2_0, c3_0, c3_1, c3_2, nc3_3, b4, _) =>
 .br (decide (v40 < v39)) (
 .nb v40 (((v38).length : Nat) : Int) <|
 .bd (F38 v40 c2_0 c1_0) fun y1 =>
 .nb y1.1 ((nc3_3 : Nat) : Int) <|
 .nd (decide (((0 : Nat) + (Int.toNat y1.1)) < (b4).length)) <|
 .ni (v40 + (1 : Int)) <|
 .ret (.inl (v38, (v39, ((v40 + (1 : Int)), (c0_0, (c0_1, (c0_2, (c0_3, (c0_4, (c1_0, (c2_0, (c3_0, (c3_1, (c3_2, (nc3_3, (((b4).set ((0 : Nat) + (Int.toNat y1.1)) (((v38).getD (Int.toNat v40) ((bs []), (0 : Int))).1, ((v38).getD (Int.toNat v40) ((bs []), (0 : Int))).2)), ()))))))))))))))))) (
 .ret (.inr (c0_0, (c0_1, (c0_2, (c0_3, (c0_4, (c1_0, (c2_0, (c3_0, (c3_1, (c3_2, (nc3_3, (b4, ()))))))))))))))
theorem s11_0 : ∀ x, roundE (kzO (p11_0.T ⊕ x11_0.T)) cx11 ar0 [] p11_0 x11_0 (b11_0) (fun y => some (.inl y)) (fun b => some (.inr b)) x = run0 (g11_0 x) := fun x => by kernel_rfl
noncomputable def L11_0 : LoopS prog 170 none 0 := mkLoop mixed cx11 cx11_ok [] rfl p11_0 x11_0 rfl (b11_0) (fun x => run0 (g11_0 x)) (s11_0)
@[reducible] def p11_1 : Pat := Pat.mk [(5, .c (.ptr 0 0)), (6, .c (.ptr 1 0)), (7, .fn 38 [] [.ptr 2 0, .ptr 1 0]), (8, .c (.ptr 3 0)), (55, hI), (56, hI)] [(0, .cells [.hole tI, .hole tI, .hole tI, .hole (.list (.prod .str tI)), .hole (.list (.prod tI (.prod tI (.prod tI tI))))] false), (1, .cells [.hole tI] false), (2, .cells [.hole (.int .u8)] false), (3, .cells [.hole tI, .hole tI, .hole tI, .sl0 4 (.prod .str tI), .sl0 5 (.prod tI (.prod tI (.prod tI tI)))] false), (4, .arr (.prod .str tI) false), (5, .arr (.prod tI (.prod tI (.prod tI tI))) false)] [.slot 5, .slot 6, .part 7 0, .slot 8, .cell 3 3, .cell 3 4] []
@[reducible] def x11_1 : Outs := [(.exit 2, Pat.mk [(5, .c (.ptr 0 0)), (6, .c (.ptr 1 0)), (7, .fn 38 [] [.ptr 2 0, .ptr 1 0]), (8, .c (.ptr 3 0))] [(0, .cells [.hole tI, .hole tI, .hole tI, .hole (.list (.prod .str tI)), .hole (.list (.prod tI (.prod tI (.prod tI tI))))] false), (1, .cells [.hole tI] false), (2, .cells [.hole (.int .u8)] false), (3, .cells [.hole tI, .hole tI, .hole tI, .sl0 4 (.prod .str tI), .sl0 5 (.prod tI (.prod tI (.prod tI tI)))] false), (4, .arr (.prod .str tI) false), (5, .arr (.prod tI (.prod tI (.prod tI tI))) false)] [.slot 5, .slot 6, .part 7 0, .slot 8, .cell 3 3, .cell 3 4] [])]
noncomputable def b11_1 : D prog 170 none 0 := dO [] (pick (kd prog f11) [(1, false)]) 0
noncomputable def g11_1 : Int × Int × Int × Int × Int × (List (ByteArray × Int)) × (List (Int × Int × Int × Int)) × Int × Int × Int × Int × Int × Nat × Nat × (List (ByteArray × Int)) × (List (Int × Int × Int × Int)) × Unit → Tr0 ((Int × Int × Int × Int × Int × (List (ByteArray × Int)) × (List (Int × Int × Int × Int)) × Int × Int × Int × Int × Int × Nat × Nat × (List (ByteArray × Int)) × (List (Int × Int × Int × Int)) × Unit) ⊕ ((Int × Int × Int × (List (ByteArray × Int)) × (List (Int × Int × Int × Int)) × Int × Int × Int × Int × Int × Nat × Nat × (List (ByteArray × Int)) × (List (Int × Int × Int × Int)) × Unit))) := fun (v55, v56, c0_0, c0_1, c0_2, c0_3, c0_4, c1_0, c2_0, c3_0, c3_1, c3_2, nc3_3, nc3_4, b4, b5, _) =>
 .br (decide (v56 < v55)) (
 .ni ((((c0_4).length : Nat) : Int) - (1 : Int)) <|
 .ni (((((c0_4).length : Nat) : Int) - (1 : Int)) - v56) <|
 .nb (((((c0_4).length : Nat) : Int) - (1 : Int)) - v56) (((c0_4).length : Nat) : Int) <|
 .bd (F38 ((c0_4).getD (Int.toNat (((((c0_4).length : Nat) : Int) - (1 : Int)) - v56)) ((0 : Int), ((0 : Int), ((0 : Int), (0 : Int))))).1 c2_0 c1_0) fun y3 =>
 .nd (decide ((nc3_4 + ((((((y3.1, (((c0_4).getD (Int.toNat (((((c0_4).length : Nat) : Int) - (1 : Int)) - v56)) ((0 : Int), ((0 : Int), ((0 : Int), (0 : Int))))).2.1, (((c0_4).getD (Int.toNat (((((c0_4).length : Nat) : Int) - (1 : Int)) - v56)) ((0 : Int), ((0 : Int), ((0 : Int), (0 : Int))))).2.2.1, ((c0_4).getD (Int.toNat (((((c0_4).length : Nat) : Int) - (1 : Int)) - v56)) ((0 : Int), ((0 : Int), ((0 : Int), (0 : Int))))).2.2.2))) :: [])).drop (0 : Nat)).take (1 : Nat))).length) < bigL)) <|
 .ni (v56 + (1 : Int)) <|
 .ret (.inl (v55, ((v56 + (1 : Int)), (c0_0, (c0_1, (c0_2, (c0_3, (c0_4, (c1_0, (c2_0, (c3_0, (c3_1, (c3_2, (nc3_3, ((nc3_4 + ((((((y3.1, (((c0_4).getD (Int.toNat (((((c0_4).length : Nat) : Int) - (1 : Int)) - v56)) ((0 : Int), ((0 : Int), ((0 : Int), (0 : Int))))).2.1, (((c0_4).getD (Int.toNat (((((c0_4).length : Nat) : Int) - (1 : Int)) - v56)) ((0 : Int), ((0 : Int), ((0 : Int), (0 : Int))))).2.2.1, ((c0_4).getD (Int.toNat (((((c0_4).length : Nat) : Int) - (1 : Int)) - v56)) ((0 : Int), ((0 : Int), ((0 : Int), (0 : Int))))).2.2.2))) :: [])).drop (0 : Nat)).take (1 : Nat))).length), (b4, (((((b5).drop (0 : Nat)).take nc3_4) ++ (((((y3.1, (((c0_4).getD (Int.toNat (((((c0_4).length : Nat) : Int) - (1 : Int)) - v56)) ((0 : Int), ((0 : Int), ((0 : Int), (0 : Int))))).2.1, (((c0_4).getD (Int.toNat (((((c0_4).length : Nat) : Int) - (1 : Int)) - v56)) ((0 : Int), ((0 : Int), ((0 : Int), (0 : Int))))).2.2.1, ((c0_4).getD (Int.toNat (((((c0_4).length : Nat) : Int) - (1 : Int)) - v56)) ((0 : Int), ((0 : Int), ((0 : Int), (0 : Int))))).2.2.2))) :: [])).drop (0 : Nat)).take (1 : Nat))), ())))))))))))))))))) (
 .ret (.inr (c0_0, (c0_1, (c0_2, (c0_3, (c0_4, (c1_0, (c2_0, (c3_0, (c3_1, (c3_2, (nc3_3, (nc3_4, (b4, (b5, ()))))))))))))))))
theorem s11_1 : ∀ x, roundE (kzO (p11_1.T ⊕ x11_1.T)) cx11 ar0 [] p11_1 x11_1 (b11_1) (fun y => some (.inl y)) (fun b => some (.inr b)) x = run0 (g11_1 x) := fun x => by kernel_rfl
noncomputable def L11_1 : LoopS prog 170 none 0 := mkLoop mixed cx11 cx11_ok [] rfl p11_1 x11_1 rfl (b11_1) (fun x => run0 (g11_1 x)) (s11_1)
@[reducible] def p11_2 : Pat := Pat.mk [(7, .fn 38 [] [.ptr 0 0, .ptr 1 0]), (13, hL), (15, hL), (17, .c (.hole (.list (.prod tI tI)))), (19, .c (.hole (.list (.prod tI tI)))), (140, hI), (141, hI)] [(0, .cells [.hole (.int .u8)] false), (1, .cells [.hole tI] false)] [.part 7 0, .part 7 1] []
@[reducible] def x11_2 : Outs := [(.ret, Pat.mk [(4, .c (.tf false))] [] [] []), (.exit 4, Pat.mk [] [] [] [])]
noncomputable def b11_2 : D prog 170 none 0 := dO [] (pick (kd prog f11) [(2, false)]) 0
noncomputable def g11_2 : List Int × List Int × (List (Int × Int)) × (List (Int × Int)) × Int × Int × Int × Int × Unit → Tr0 ((List Int × List Int × (List (Int × Int)) × (List (Int × Int)) × Int × Int × Int × Int × Unit) ⊕ ((Unit) ⊕ ((Unit)))) := fun (v13, v15, v17, v19, v140, v141, c0_0, c1_0, _) =>
 .br (decide (v141 < v140)) (
 .nb v141 (((v13).length : Nat) : Int) <|
 .bd (F38 v141 c0_0 c1_0) fun y9 =>
 .nb y9.1 (((v15).length : Nat) : Int) <|
 .br (!(((v13).getD (Int.toNat v141) (0 : Int)) == ((v15).getD (Int.toNat y9.1) (0 : Int)))) (
 .ret (.inr <| .inl <| ())) (
 .nb v141 (((v17).length : Nat) : Int) <|
 .bd (F38 v141 c0_0 c1_0) fun y10 =>
 .nb y10.1 (((v19).length : Nat) : Int) <|
 .br (!((((v17).getD (Int.toNat v141) ((0 : Int), (0 : Int))).1 == ((v19).getD (Int.toNat y10.1) ((0 : Int), (0 : Int))).1) && ((((v17).getD (Int.toNat v141) ((0 : Int), (0 : Int))).2 == ((v19).getD (Int.toNat y10.1) ((0 : Int), (0 : Int))).2) && true))) (
 .ret (.inr <| .inl <| ())) (
 .ni (v141 + (1 : Int)) <|
 .ret (.inl (v13, (v15, (v17, (v19, (v140, ((v141 + (1 : Int)), (c0_0, (c1_0, ())))))))))))) (
 .ret (.inr <| .inr <| ()))
theorem s11_2 : ∀ x, roundE (kzO (p11_2.T ⊕ x11_2.T)) cx11 ar0 [] p11_2 x11_2 (b11_2) (fun y => some (.inl y)) (fun b => some (.inr b)) x = run0 (g11_2 x) := fun x => by kernel_rfl
noncomputable def L11_2 : LoopS prog 170 none 0 := mkLoop mixed cx11 cx11_ok [] rfl p11_2 x11_2 rfl (b11_2) (fun x => run0 (g11_2 x)) (s11_2)
noncomputable def dd11 : D prog 170 none 0 := dO [.l L11_0, .l L11_1, .l L11_2] (kd prog f11) 0
noncomputable def F11 (a0 : Int × Int × Int × (List Int) × List (Int × Int × Int × Int)) (a1 : Int) : Tr0 (Bool × Unit) :=
 .bd (F34 (a0.1, (a0.2.1, (a0.2.2.1, (a0.2.2.2.1, a0.2.2.2.2))))) fun y0 =>
 .nb (((y0.1.2.2.2.1).length : Nat) : Int) ((bigL : Nat) : Int) <|
 .bd (.it g11_0 (y0.1.2.2.2.1, ((((y0.1.2.2.2.1).length : Nat) : Int), ((0 : Int), (y0.1.1, (y0.1.2.1, (y0.1.2.2.1, (y0.1.2.2.2.1, (y0.1.2.2.2.2, ((((y0.1.2.2.2.1).length : Nat) : Int), (a1, (y0.1.1, (y0.1.2.1, (y0.1.2.2.1, ((Int.toNat (((y0.1.2.2.2.1).length : Nat) : Int)), ((List.replicate (Int.toNat (((y0.1.2.2.2.1).length : Nat) : Int)) ((bs []), (0 : Int))), ())))))))))))))))) fun z2 =>
 .bd (.it g11_1 ((((z2.2.2.2.2.1).length : Nat) : Int), ((0 : Int), (z2.1, (z2.2.1, (z2.2.2.1, (z2.2.2.2.1, (z2.2.2.2.2.1, (z2.2.2.2.2.2.1, (z2.2.2.2.2.2.2.1, (z2.2.2.2.2.2.2.2.1, (z2.2.2.2.2.2.2.2.2.1, (z2.2.2.2.2.2.2.2.2.2.1, (z2.2.2.2.2.2.2.2.2.2.2.1, ((0 : Nat), (z2.2.2.2.2.2.2.2.2.2.2.2.1, ([], ()))))))))))))))))) fun z4 =>
 .bd (F26 (z4.1, (z4.2.1, (z4.2.2.1, (z4.2.2.2.1, z4.2.2.2.2.1))))) fun y5 =>
 .bd (F26 (z4.2.2.2.2.2.2.2.1, (z4.2.2.2.2.2.2.2.2.1, (z4.2.2.2.2.2.2.2.2.2.1, ((((z4.2.2.2.2.2.2.2.2.2.2.2.2.1).drop (0 : Nat)).take z4.2.2.2.2.2.2.2.2.2.2.1), (((z4.2.2.2.2.2.2.2.2.2.2.2.2.2.1).drop (0 : Nat)).take z4.2.2.2.2.2.2.2.2.2.2.2.1)))))) fun y6 =>
 .bd (F30 (z4.1, (z4.2.1, (z4.2.2.1, (z4.2.2.2.1, z4.2.2.2.2.1))))) fun y7 =>
 .bd (F30 (z4.2.2.2.2.2.2.2.1, (z4.2.2.2.2.2.2.2.2.1, (z4.2.2.2.2.2.2.2.2.2.1, ((((z4.2.2.2.2.2.2.2.2.2.2.2.2.1).drop (0 : Nat)).take z4.2.2.2.2.2.2.2.2.2.2.1), (((z4.2.2.2.2.2.2.2.2.2.2.2.2.2.1).drop (0 : Nat)).take z4.2.2.2.2.2.2.2.2.2.2.2.1)))))) fun y8 =>
 .br (!(y5.2.1 == (0 : Int))) (
 .ret (false, ())) (
 .br (!(y6.2.1 == (0 : Int))) (
 .ret (false, ())) (
 .br (!(y7.2.1 == (0 : Int))) (
 .ret (false, ())) (
 .br (!(y8.2.1 == (0 : Int))) (
 .ret (false, ())) (
 .br (!((((y5.1).length : Nat) : Int) == z4.2.2.2.2.2.1)) (
 .ret (false, ())) (
 .br (!((((y6.1).length : Nat) : Int) == z4.2.2.2.2.2.1)) (
 .ret (false, ())) (
 .br (!((((y7.1).length : Nat) : Int) == z4.2.2.2.2.2.1)) (
 .ret (false, ())) (
 .br (!((((y8.1).length : Nat) : Int) == z4.2.2.2.2.2.1)) (
 .ret (false, ())) (
 .bd (.it g11_2 (y5.1, (y6.1, (y7.1, (y8.1, ((((y5.1).length : Nat) : Int), ((0 : Int), (z4.2.2.2.2.2.2.1, (z4.2.2.2.2.2.1, ()))))))))) fun z11 =>
 .sm z11 (fun z12 =>
 .ret (false, ())) fun z13 =>
 .bd (F16) fun y14 =>
 .ret (y14.1, ())))))))))
theorem c11_ok : trF prog f11 = some ⟨170, 2, dd11.er, [.t 4], [some .bool]⟩ := by kernel_rfl
noncomputable def ct11 : Ct := ⟨11, [.c (.hole (.prod (.int .u16) (.prod (.int .u8) (.prod (.int .u8) (.prod (.list (.int .u16)) (.list (.prod (.int .u8) (.prod (.int .u8) (.prod (.int .u8) (.int .u8)))))))))), .c (.hole (.int .u8))], .c (.hole .bool), fun x => run0 (F11 x.1 x.2.1)⟩
theorem ct11_ok : ct11.Ok prog := ct_ok mixed cx11_ok func11 c11_ok (enters_of func11 rfl rfl) dd11 (by kernel_rfl) rfl (fun x => by kernel_rfl)

end Go.Proofs.Try

