/- Functions of the program as functions of data, part 2; printed by a program of mine. -/
import Derived.Test.YtdhefcocaomhfaaW120
import Derived.Test.YtdhefcocaomhfaaProg
set_option linter.unusedSectionVars false
set_option linter.unusedVariables false
set_option linter.unusedSimpArgs false
open Go.AM
namespace Go.Proofs.Try
set_option maxRecDepth 100000
set_option synthInstance.maxSize 4000
set_option synthInstance.maxHeartbeats 400000


/- 12 -/
noncomputable def cx12 : Cx := mkCxH [ct34, ct26, ct24, ct35, ct39, ct16] []
theorem cx12_ok : cx12.Ok prog := mkCxH_ok ⟨ct34_ok, ct26_ok, ct24_ok, ct35_ok, ct39_ok, ct16_ok, trivial⟩ trivial
@[reducible] def p12_0 : Pat := Pat.mk [(1, .c (.hole (.int .u8))), (2, .c (.hole (.int .u8))), (3, .c (.hole (.int .u8))), (9, .c (.ptr 0 0)), (12, .c (.ptr 1 0)), (13, .c (.ptr 2 0)), (15, .c (.ptr 3 0)), (16, .fn 39 [] [.ptr 2 0, .ptr 1 0, .ptr 3 0, .ptr 0 0]), (17, .c (.ptr 4 0)), (18, hI), (19, hI), (78, hI), (79, hI)] [(0, .cells [.hole tI, .hole tI, .hole tI, .hole (.list (.prod .str tI)), .hole (.list (.prod tI (.prod tI (.prod tI tI))))] false), (1, .cells [.hole tI] false), (2, .cells [.hole tI] false), (3, .cells [.hole tL] false), (4, .cells [.hole tI, .hole tI, .hole tI, .hole (.list (.prod .str tI)), .hole (.list (.prod tI (.prod tI (.prod tI tI))))] false)] [.slot 9, .slot 12, .slot 13, .slot 15, .slot 17] []
@[reducible] def x12_0 : Outs := [(.ret, Pat.mk [(8, .c (.tf false))] [] [] []), (.exit 0, Pat.mk [(1, .c (.hole (.int .u8))), (2, .c (.hole (.int .u8))), (3, .c (.hole (.int .u8))), (9, .c (.ptr 0 0)), (12, .c (.ptr 1 0)), (13, .c (.ptr 2 0)), (15, .c (.ptr 3 0)), (16, .fn 39 [] [.ptr 2 0, .ptr 1 0, .ptr 3 0, .ptr 0 0])] [(0, .cells [.hole tI, .hole tI, .hole tI, .hole (.list (.prod .str tI)), .hole (.list (.prod tI (.prod tI (.prod tI tI))))] false), (1, .cells [.hole tI] false), (2, .cells [.hole tI] false), (3, .cells [.hole tL] false)] [.slot 9, .slot 12, .slot 13, .slot 15] [])]
noncomputable def b12_0 : D prog 266 none 0 := dO [] (pick (kd prog f12) [(0, false)]) 0
noncomputable def g12_0 : Int × Int × Int × Int × Int × Int × Int × Int × Int × Int × (List (ByteArray × Int)) × (List (Int × Int × Int × Int)) × Int × Int × List Int × Int × Int × Int × (List (ByteArray × Int)) × (List (Int × Int × Int × Int)) × Unit → Tr0 ((Int × Int × Int × Int × Int × Int × Int × Int × Int × Int × (List (ByteArray × Int)) × (List (Int × Int × Int × Int)) × Int × Int × List Int × Int × Int × Int × (List (ByteArray × Int)) × (List (Int × Int × Int × Int)) × Unit) ⊕ ((Unit) ⊕ ((Int × Int × Int × Int × Int × Int × (List (ByteArray × Int)) × (List (Int × Int × Int × Int)) × Int × Int × List Int × Unit)))) := fun (v1, v2, v3, v18, v19, v78, v79, c0_0, c0_1, c0_2, c0_3, c0_4, c1_0, c2_0, c3_0, c4_0, c4_1, c4_2, c4_3, c4_4, _) =>
 .br (decide (v79 < v78)) (
 .bd (F39 v79 (c4_0, (c4_1, (c4_2, (c4_3, c4_4)))) c3_0 v18 v19 c2_0 c1_0 c3_0 (c0_0, (c0_1, (c0_2, (c0_3, c0_4))))) fun y5 =>
 .br y5.1 (
 .ret (.inr <| .inl <| ())) (
 .ni (v79 + (1 : Int)) <|
 .ret (.inl (v1, (v2, (v3, (v18, (v19, (v78, ((v79 + (1 : Int)), (c0_0, (c0_1, (c0_2, (c0_3, (c0_4, (c1_0, (c2_0, (c3_0, (c4_0, (c4_1, (c4_2, (c4_3, (c4_4, ()))))))))))))))))))))))) (
 .ret (.inr <| .inr <| (v1, (v2, (v3, (c0_0, (c0_1, (c0_2, (c0_3, (c0_4, (c1_0, (c2_0, (c3_0, ())))))))))))))
theorem s12_0 : ∀ x, roundE (kzO (p12_0.T ⊕ x12_0.T)) cx12 ar0 [] p12_0 x12_0 (b12_0) (fun y => some (.inl y)) (fun b => some (.inr b)) x = run0 (g12_0 x) := fun x => by kernel_rfl
noncomputable def L12_0 : LoopS prog 266 none 0 := mkLoop mixed cx12 cx12_ok [] rfl p12_0 x12_0 rfl (b12_0) (fun x => run0 (g12_0 x)) (s12_0)
@[reducible] def p12_1 : Pat := Pat.mk [(1, .c (.hole (.int .u8))), (2, .c (.hole (.int .u8))), (9, .c (.ptr 0 0)), (12, .c (.ptr 1 0)), (13, .c (.ptr 2 0)), (15, .c (.ptr 3 0)), (16, .fn 39 [] [.ptr 2 0, .ptr 1 0, .ptr 3 0, .ptr 0 0]), (18, hI), (19, hI), (21, hI), (22, .c (.ptr 4 0)), (134, hI), (135, hI)] [(0, .cells [.hole tI, .hole tI, .hole tI, .hole (.list (.prod .str tI)), .hole (.list (.prod tI (.prod tI (.prod tI tI))))] false), (1, .cells [.hole tI] false), (2, .cells [.hole tI] false), (3, .cells [.hole tL] false), (4, .cells [.hole tI, .hole tI, .hole tI, .sl0 5 (.prod .str tI), .hole (.list (.prod tI (.prod tI (.prod tI tI))))] false), (5, .arr (.prod .str tI) false)] [.slot 9, .slot 12, .slot 13, .slot 15, .slot 22, .cell 4 3] []
@[reducible] def x12_1 : Outs := [(.ret, Pat.mk [(8, .c (.tf false))] [] [] []), (.exit 2, Pat.mk [(1, .c (.hole (.int .u8))), (2, .c (.hole (.int .u8))), (9, .c (.ptr 0 0)), (12, .c (.ptr 1 0)), (13, .c (.ptr 2 0)), (15, .c (.ptr 3 0)), (16, .fn 39 [] [.ptr 2 0, .ptr 1 0, .ptr 3 0, .ptr 0 0])] [(0, .cells [.hole tI, .hole tI, .hole tI, .hole (.list (.prod .str tI)), .hole (.list (.prod tI (.prod tI (.prod tI tI))))] false), (1, .cells [.hole tI] false), (2, .cells [.hole tI] false), (3, .cells [.hole tL] false)] [.slot 9, .slot 12, .slot 13, .slot 15] [])]
noncomputable def b12_1 : D prog 266 none 0 := dO [] (pick (kd prog f12) [(1, false)]) 0
noncomputable def g12_1 : Int × Int × Int × Int × Int × Int × Int × Int × Int × Int × (List (ByteArray × Int)) × (List (Int × Int × Int × Int)) × Int × Int × List Int × Int × Int × Int × Nat × (List (Int × Int × Int × Int)) × (List (ByteArray × Int)) × Unit → Tr0 ((Int × Int × Int × Int × Int × Int × Int × Int × Int × Int × (List (ByteArray × Int)) × (List (Int × Int × Int × Int)) × Int × Int × List Int × Int × Int × Int × Nat × (List (Int × Int × Int × Int)) × (List (ByteArray × Int)) × Unit) ⊕ ((Unit) ⊕ ((Int × Int × Int × Int × Int × (List (ByteArray × Int)) × (List (Int × Int × Int × Int)) × Int × Int × List Int × Unit)))) := fun (v1, v2, v18, v19, v21, v134, v135, c0_0, c0_1, c0_2, c0_3, c0_4, c1_0, c2_0, c3_0, c4_0, c4_1, c4_2, nc4_3, c4_4, b5, _) =>
 .br (decide (v135 < v134)) (
 .br (!(v135 == v21)) (
 .bd (F39 v135 (c4_0, (c4_1, (c4_2, ((((b5).drop (0 : Nat)).take nc4_3), c4_4)))) c3_0 v18 v19 c2_0 c1_0 c3_0 (c0_0, (c0_1, (c0_2, (c0_3, c0_4))))) fun y10 =>
 .br y10.1 (
 .ret (.inr <| .inl <| ())) (
 .ni (v135 + (1 : Int)) <|
 .ret (.inl (v1, (v2, (v18, (v19, (v21, (v134, ((v135 + (1 : Int)), (c0_0, (c0_1, (c0_2, (c0_3, (c0_4, (c1_0, (c2_0, (c3_0, (c4_0, (c4_1, (c4_2, (nc4_3, (c4_4, (b5, ())))))))))))))))))))))))) (
 .ni (v135 + (1 : Int)) <|
 .ret (.inl (v1, (v2, (v18, (v19, (v21, (v134, ((v135 + (1 : Int)), (c0_0, (c0_1, (c0_2, (c0_3, (c0_4, (c1_0, (c2_0, (c3_0, (c4_0, (c4_1, (c4_2, (nc4_3, (c4_4, (b5, ())))))))))))))))))))))))) (
 .ret (.inr <| .inr <| (v1, (v2, (c0_0, (c0_1, (c0_2, (c0_3, (c0_4, (c1_0, (c2_0, (c3_0, ()))))))))))))
theorem s12_1 : ∀ x, roundE (kzO (p12_1.T ⊕ x12_1.T)) cx12 ar0 [] p12_1 x12_1 (b12_1) (fun y => some (.inl y)) (fun b => some (.inr b)) x = run0 (g12_1 x) := fun x => by kernel_rfl
noncomputable def L12_1 : LoopS prog 266 none 0 := mkLoop mixed cx12 cx12_ok [] rfl p12_1 x12_1 rfl (b12_1) (fun x => run0 (g12_1 x)) (s12_1)
@[reducible] def p12_2 : Pat := Pat.mk [(9, .c (.ptr 0 0)), (12, .c (.ptr 1 0)), (13, .c (.ptr 2 0)), (15, .c (.ptr 3 0)), (16, .fn 39 [] [.ptr 2 0, .ptr 1 0, .ptr 3 0, .ptr 0 0]), (18, hI), (19, hI), (24, hI), (25, .c (.ptr 4 0)), (26, hL), (198, hI), (199, hI)] [(0, .cells [.hole tI, .hole tI, .hole tI, .hole (.list (.prod .str tI)), .hole (.list (.prod tI (.prod tI (.prod tI tI))))] false), (1, .cells [.hole tI] false), (2, .cells [.hole tI] false), (3, .cells [.hole tL] false), (4, .cells [.hole tI, .hole tI, .hole tI, .hole (.list (.prod .str tI)), .sl0 5 (.prod tI (.prod tI (.prod tI tI)))] false), (5, .arr (.prod tI (.prod tI (.prod tI tI))) true)] [.slot 9, .slot 12, .slot 13, .slot 15, .slot 25, .cell 4 4] []
@[reducible] def x12_2 : Outs := [(.ret, Pat.mk [(8, .c (.tf false))] [] [] []), (.exit 4, Pat.mk [] [] [] [])]
noncomputable def b12_2 : D prog 266 none 0 := dO [] (pick (kd prog f12) [(2, false)]) 0
noncomputable def g12_2 : Int × Int × Int × List Int × Int × Int × Int × Int × Int × (List (ByteArray × Int)) × (List (Int × Int × Int × Int)) × Int × Int × List Int × Int × Int × Int × (List (ByteArray × Int)) × Nat × (List (Int × Int × Int × Int)) × Unit → Tr0 ((Int × Int × Int × List Int × Int × Int × Int × Int × Int × (List (ByteArray × Int)) × (List (Int × Int × Int × Int)) × Int × Int × List Int × Int × Int × Int × (List (ByteArray × Int)) × Nat × (List (Int × Int × Int × Int)) × Unit) ⊕ ((Unit) ⊕ ((Unit)))) := fun (v18, v19, v24, v26, v198, v199, c0_0, c0_1, c0_2, c0_3, c0_4, c1_0, c2_0, c3_0, c4_0, c4_1, c4_2, c4_3, nc4_4, b5, _) =>
 .br (decide (v199 < v198)) (
 .nb v24 (((c0_4).length : Nat) : Int) <|
 .br (v199 == ((c0_4).getD (Int.toNat v24) ((0 : Int), ((0 : Int), ((0 : Int), (0 : Int))))).1) (
 .bd (F39 v199 (c4_0, (c4_1, (c4_2, (c4_3, (((b5).drop (0 : Nat)).take nc4_4))))) v26 v18 v19 c2_0 c1_0 c3_0 (c0_0, (c0_1, (c0_2, (c0_3, c0_4))))) fun y17 =>
 .br y17.1 (
 .ret (.inr <| .inl <| ())) (
 .nb v24 (((c0_4).length : Nat) : Int) <|
 .br (!(v199 == ((c0_4).getD (Int.toNat v24) ((0 : Int), ((0 : Int), ((0 : Int), (0 : Int))))).1)) (
 .nb v199 (((v26).length : Nat) : Int) <|
 .ni (v18 * ((v26).getD (Int.toNat v199) (0 : Int))) <|
 .nb v199 (((c0_3).length : Nat) : Int) <|
 .ni (((c0_3).getD (Int.toNat v199) ((bs []), (0 : Int))).2 * v19) <|
 .ni ((imin (v18 * ((v26).getD (Int.toNat v199) (0 : Int))) (((c0_3).getD (Int.toNat v199) ((bs []), (0 : Int))).2 * v19)) * c2_0) <|
 .nb v199 (((c3_0).length : Nat) : Int) <|
 .ni (c1_0 * ((c3_0).getD (Int.toNat v199) (0 : Int))) <|
 .nb v199 (((c0_3).length : Nat) : Int) <|
 .ni (((c0_3).getD (Int.toNat v199) ((bs []), (0 : Int))).2 * c2_0) <|
 .ni ((imin (c1_0 * ((c3_0).getD (Int.toNat v199) (0 : Int))) (((c0_3).getD (Int.toNat v199) ((bs []), (0 : Int))).2 * c2_0)) * v19) <|
 .br (decide (((imin (c1_0 * ((c3_0).getD (Int.toNat v199) (0 : Int))) (((c0_3).getD (Int.toNat v199) ((bs []), (0 : Int))).2 * c2_0)) * v19) < ((imin (v18 * ((v26).getD (Int.toNat v199) (0 : Int))) (((c0_3).getD (Int.toNat v199) ((bs []), (0 : Int))).2 * v19)) * c2_0))) (
 .ret (.inr <| .inl <| ())) (
 .ni (v199 + (1 : Int)) <|
 .ret (.inl (v18, (v19, (v24, (v26, (v198, ((v199 + (1 : Int)), (c0_0, (c0_1, (c0_2, (c0_3, (c0_4, (c1_0, (c2_0, (c3_0, (c4_0, (c4_1, (c4_2, (c4_3, (nc4_4, (b5, ()))))))))))))))))))))))) (
 .ni (v199 + (1 : Int)) <|
 .ret (.inl (v18, (v19, (v24, (v26, (v198, ((v199 + (1 : Int)), (c0_0, (c0_1, (c0_2, (c0_3, (c0_4, (c1_0, (c2_0, (c3_0, (c4_0, (c4_1, (c4_2, (c4_3, (nc4_4, (b5, ())))))))))))))))))))))))) (
 .nb v24 (((c0_4).length : Nat) : Int) <|
 .br (!(v199 == ((c0_4).getD (Int.toNat v24) ((0 : Int), ((0 : Int), ((0 : Int), (0 : Int))))).1)) (
 .nb v199 (((v26).length : Nat) : Int) <|
 .ni (v18 * ((v26).getD (Int.toNat v199) (0 : Int))) <|
 .nb v199 (((c0_3).length : Nat) : Int) <|
 .ni (((c0_3).getD (Int.toNat v199) ((bs []), (0 : Int))).2 * v19) <|
 .ni ((imin (v18 * ((v26).getD (Int.toNat v199) (0 : Int))) (((c0_3).getD (Int.toNat v199) ((bs []), (0 : Int))).2 * v19)) * c2_0) <|
 .nb v199 (((c3_0).length : Nat) : Int) <|
 .ni (c1_0 * ((c3_0).getD (Int.toNat v199) (0 : Int))) <|
 .nb v199 (((c0_3).length : Nat) : Int) <|
 .ni (((c0_3).getD (Int.toNat v199) ((bs []), (0 : Int))).2 * c2_0) <|
 .ni ((imin (c1_0 * ((c3_0).getD (Int.toNat v199) (0 : Int))) (((c0_3).getD (Int.toNat v199) ((bs []), (0 : Int))).2 * c2_0)) * v19) <|
 .br (decide (((imin (c1_0 * ((c3_0).getD (Int.toNat v199) (0 : Int))) (((c0_3).getD (Int.toNat v199) ((bs []), (0 : Int))).2 * c2_0)) * v19) < ((imin (v18 * ((v26).getD (Int.toNat v199) (0 : Int))) (((c0_3).getD (Int.toNat v199) ((bs []), (0 : Int))).2 * v19)) * c2_0))) (
 .ret (.inr <| .inl <| ())) (
 .ni (v199 + (1 : Int)) <|
 .ret (.inl (v18, (v19, (v24, (v26, (v198, ((v199 + (1 : Int)), (c0_0, (c0_1, (c0_2, (c0_3, (c0_4, (c1_0, (c2_0, (c3_0, (c4_0, (c4_1, (c4_2, (c4_3, (nc4_4, (b5, ()))))))))))))))))))))))) (
 .ni (v199 + (1 : Int)) <|
 .ret (.inl (v18, (v19, (v24, (v26, (v198, ((v199 + (1 : Int)), (c0_0, (c0_1, (c0_2, (c0_3, (c0_4, (c1_0, (c2_0, (c3_0, (c4_0, (c4_1, (c4_2, (c4_3, (nc4_4, (b5, ())))))))))))))))))))))))) (
 .ret (.inr <| .inr <| ()))
theorem s12_2 : ∀ x, roundE (kzO (p12_2.T ⊕ x12_2.T)) cx12 ar0 [] p12_2 x12_2 (b12_2) (fun y => some (.inl y)) (fun b => some (.inr b)) x = run0 (g12_2 x) := fun x => by kernel_rfl
noncomputable def L12_2 : LoopS prog 266 none 0 := mkLoop mixed cx12 cx12_ok [] rfl p12_2 x12_2 rfl (b12_2) (fun x => run0 (g12_2 x)) (s12_2)
noncomputable def dd12 : D prog 266 none 0 := dO [.l L12_0, .l L12_1, .l L12_2] (kd prog f12) 0
noncomputable def F12 (a0 : Int × Int × Int × (List Int) × List (Int × Int × Int × Int)) (a1 : Int) (a2 : Int) (a3 : Int) : Tr0 (Bool × Unit) :=
 .bd (F34 (a0.1, (a0.2.1, (a0.2.2.1, (a0.2.2.2.1, a0.2.2.2.2))))) fun y0 =>
 .bd (F26 (y0.1.1, (y0.1.2.1, (y0.1.2.2.1, (y0.1.2.2.2.1, y0.1.2.2.2.2))))) fun y1 =>
 .bd (F24 (y0.1.1, (y0.1.2.1, (y0.1.2.2.1, (y0.1.2.2.2.1, y0.1.2.2.2.2))))) fun y2 =>
 .br (!(y1.2.1 == (0 : Int))) (
 .ret (false, ())) (
 .br (!(y2.2.2.1 == (0 : Int))) (
 .ret (false, ())) (
 .br (!((((y1.1).length : Nat) : Int) == (((y0.1.2.2.2.1).length : Nat) : Int))) (
 .ret (false, ())) (
 .bd (F35 (y0.1.1, (y0.1.2.1, (y0.1.2.2.1, (y0.1.2.2.2.1, y0.1.2.2.2.2)))) []) fun y3 =>
 .ni a2 <|
 .ni (y0.1.1 + a2) <|
 .bd (F24 ((y0.1.1 + a2), (y0.1.2.1, (y0.1.2.2.1, (y0.1.2.2.2.1, y0.1.2.2.2.2))))) fun y4 =>
 .br (!(y4.2.2.1 == (0 : Int))) (
 .ret (false, ())) (
 .br (decide (y4.2.1 < (1 : Int))) (
 .ret (false, ())) (
 .bd (.it g12_0 (a1, (a2, (a3, (y4.1, (y4.2.1, ((((y3.1).length : Nat) : Int), ((0 : Int), (y0.1.1, (y0.1.2.1, (y0.1.2.2.1, (y0.1.2.2.2.1, (y0.1.2.2.2.2, (y2.1, (y2.2.1, (y3.1, ((y0.1.1 + a2), (y0.1.2.1, (y0.1.2.2.1, (y0.1.2.2.2.1, (y0.1.2.2.2.2, ()))))))))))))))))))))) fun z6 =>
 .sm z6 (fun z7 =>
 .ret (false, ())) fun z8 =>
 .ni z8.1 <|
 .nd (!((((z8.2.2.2.2.2.2.1).length : Nat) : Int) == (0 : Int))) <|
 .nd (decide (((0 : Nat) + (z8.2.2.2.2.2.2.1).length) < bigL)) <|
 .nb (Int.tmod z8.1 (((z8.2.2.2.2.2.2.1).length : Nat) : Int)) ((((0 : Nat) + (z8.2.2.2.2.2.2.1).length) : Nat) : Int) <|
 .nd (decide (((0 : Nat) + (Int.toNat (Int.tmod z8.1 (((z8.2.2.2.2.2.2.1).length : Nat) : Int)))) < ((((([]).drop (0 : Nat)).take (0 : Nat)) ++ z8.2.2.2.2.2.2.1)).length)) <|
 .nb (Int.tmod z8.1 (((z8.2.2.2.2.2.2.1).length : Nat) : Int)) ((((0 : Nat) + (z8.2.2.2.2.2.2.1).length) : Nat) : Int) <|
 .nd (decide (((0 : Nat) + (Int.toNat (Int.tmod z8.1 (((z8.2.2.2.2.2.2.1).length : Nat) : Int)))) < ((((([]).drop (0 : Nat)).take (0 : Nat)) ++ z8.2.2.2.2.2.2.1)).length)) <|
 .ni z8.2.2.1 <|
 .ni ((10 : Int) * z8.2.2.1) <|
 .ni ((((((([]).drop (0 : Nat)).take (0 : Nat)) ++ z8.2.2.2.2.2.2.1)).getD ((0 : Nat) + (Int.toNat (Int.tmod z8.1 (((z8.2.2.2.2.2.2.1).length : Nat) : Int)))) ((bs []), (0 : Int))).2 - (imin (((((([]).drop (0 : Nat)).take (0 : Nat)) ++ z8.2.2.2.2.2.2.1)).getD ((0 : Nat) + (Int.toNat (Int.tmod z8.1 (((z8.2.2.2.2.2.2.1).length : Nat) : Int)))) ((bs []), (0 : Int))).2 ((10 : Int) * z8.2.2.1))) <|
 .nb (Int.tmod z8.1 (((z8.2.2.2.2.2.2.1).length : Nat) : Int)) ((((0 : Nat) + (z8.2.2.2.2.2.2.1).length) : Nat) : Int) <|
 .nd (decide (((0 : Nat) + (Int.toNat (Int.tmod z8.1 (((z8.2.2.2.2.2.2.1).length : Nat) : Int)))) < ((((([]).drop (0 : Nat)).take (0 : Nat)) ++ z8.2.2.2.2.2.2.1)).length)) <|
 .bd (F24 (z8.2.2.2.1, (z8.2.2.2.2.1, (z8.2.2.2.2.2.1, (((((((((([]).drop (0 : Nat)).take (0 : Nat)) ++ z8.2.2.2.2.2.2.1)).set ((0 : Nat) + (Int.toNat (Int.tmod z8.1 (((z8.2.2.2.2.2.2.1).length : Nat) : Int)))) ((((((([]).drop (0 : Nat)).take (0 : Nat)) ++ z8.2.2.2.2.2.2.1)).getD ((0 : Nat) + (Int.toNat (Int.tmod z8.1 (((z8.2.2.2.2.2.2.1).length : Nat) : Int)))) ((bs []), (0 : Int))).1, ((((((([]).drop (0 : Nat)).take (0 : Nat)) ++ z8.2.2.2.2.2.2.1)).getD ((0 : Nat) + (Int.toNat (Int.tmod z8.1 (((z8.2.2.2.2.2.2.1).length : Nat) : Int)))) ((bs []), (0 : Int))).2 - (imin (((((([]).drop (0 : Nat)).take (0 : Nat)) ++ z8.2.2.2.2.2.2.1)).getD ((0 : Nat) + (Int.toNat (Int.tmod z8.1 (((z8.2.2.2.2.2.2.1).length : Nat) : Int)))) ((bs []), (0 : Int))).2 ((10 : Int) * z8.2.2.1)))))).drop (0 : Nat)).take ((0 : Nat) + (z8.2.2.2.2.2.2.1).length)), z8.2.2.2.2.2.2.2.1))))) fun y9 =>
 .br (!(y9.2.2.1 == (0 : Int))) (
 .ret (false, ())) (
 .br (decide (y9.2.1 < (1 : Int))) (
 .ret (false, ())) (
 .bd (.it g12_1 (z8.1, (z8.2.1, (y9.1, (y9.2.1, ((Int.tmod z8.1 (((z8.2.2.2.2.2.2.1).length : Nat) : Int)), ((((z8.2.2.2.2.2.2.2.2.2.2.1).length : Nat) : Int), ((0 : Int), (z8.2.2.2.1, (z8.2.2.2.2.1, (z8.2.2.2.2.2.1, (z8.2.2.2.2.2.2.1, (z8.2.2.2.2.2.2.2.1, (z8.2.2.2.2.2.2.2.2.1, (z8.2.2.2.2.2.2.2.2.2.1, (z8.2.2.2.2.2.2.2.2.2.2.1, (z8.2.2.2.1, (z8.2.2.2.2.1, (z8.2.2.2.2.2.1, (((0 : Nat) + (z8.2.2.2.2.2.2.1).length), (z8.2.2.2.2.2.2.2.1, ((((((([]).drop (0 : Nat)).take (0 : Nat)) ++ z8.2.2.2.2.2.2.1)).set ((0 : Nat) + (Int.toNat (Int.tmod z8.1 (((z8.2.2.2.2.2.2.1).length : Nat) : Int)))) ((((((([]).drop (0 : Nat)).take (0 : Nat)) ++ z8.2.2.2.2.2.2.1)).getD ((0 : Nat) + (Int.toNat (Int.tmod z8.1 (((z8.2.2.2.2.2.2.1).length : Nat) : Int)))) ((bs []), (0 : Int))).1, ((((((([]).drop (0 : Nat)).take (0 : Nat)) ++ z8.2.2.2.2.2.2.1)).getD ((0 : Nat) + (Int.toNat (Int.tmod z8.1 (((z8.2.2.2.2.2.2.1).length : Nat) : Int)))) ((bs []), (0 : Int))).2 - (imin (((((([]).drop (0 : Nat)).take (0 : Nat)) ++ z8.2.2.2.2.2.2.1)).getD ((0 : Nat) + (Int.toNat (Int.tmod z8.1 (((z8.2.2.2.2.2.2.1).length : Nat) : Int)))) ((bs []), (0 : Int))).2 ((10 : Int) * z8.2.2.1))))), ())))))))))))))))))))))) fun z11 =>
 .sm z11 (fun z12 =>
 .ret (false, ())) fun z13 =>
 .br ((((z13.2.2.2.2.2.2.1).length : Nat) : Int) == (0 : Int)) (
 .bd (F16) fun y14 =>
 .ret (y14.1, ())) (
 .ni z13.1 <|
 .nd (!((((z13.2.2.2.2.2.2.1).length : Nat) : Int) == (0 : Int))) <|
 .nd (decide (((0 : Nat) + (z13.2.2.2.2.2.2.1).length) < bigL)) <|
 .nb (Int.tmod z13.1 (((z13.2.2.2.2.2.2.1).length : Nat) : Int)) ((((0 : Nat) + (z13.2.2.2.2.2.2.1).length) : Nat) : Int) <|
 .nd (decide (((0 : Nat) + (Int.toNat (Int.tmod z13.1 (((z13.2.2.2.2.2.2.1).length : Nat) : Int)))) < ((((([]).drop (0 : Nat)).take (0 : Nat)) ++ z13.2.2.2.2.2.2.1)).length)) <|
 .ni z13.2.1 <|
 .ni ((((((([]).drop (0 : Nat)).take (0 : Nat)) ++ z13.2.2.2.2.2.2.1)).getD ((0 : Nat) + (Int.toNat (Int.tmod z13.1 (((z13.2.2.2.2.2.2.1).length : Nat) : Int)))) ((0 : Int), ((0 : Int), ((0 : Int), (0 : Int))))).2.2.2 + z13.2.1) <|
 .nb (Int.tmod z13.1 (((z13.2.2.2.2.2.2.1).length : Nat) : Int)) ((((0 : Nat) + (z13.2.2.2.2.2.2.1).length) : Nat) : Int) <|
 .nd (decide (((0 : Nat) + (Int.toNat (Int.tmod z13.1 (((z13.2.2.2.2.2.2.1).length : Nat) : Int)))) < ((((([]).drop (0 : Nat)).take (0 : Nat)) ++ z13.2.2.2.2.2.2.1)).length)) <|
 .bd (F35 (z13.2.2.1, (z13.2.2.2.1, (z13.2.2.2.2.1, (z13.2.2.2.2.2.1, ((((((((([]).drop (0 : Nat)).take (0 : Nat)) ++ z13.2.2.2.2.2.2.1)).set ((0 : Nat) + (Int.toNat (Int.tmod z13.1 (((z13.2.2.2.2.2.2.1).length : Nat) : Int)))) ((((((([]).drop (0 : Nat)).take (0 : Nat)) ++ z13.2.2.2.2.2.2.1)).getD ((0 : Nat) + (Int.toNat (Int.tmod z13.1 (((z13.2.2.2.2.2.2.1).length : Nat) : Int)))) ((0 : Int), ((0 : Int), ((0 : Int), (0 : Int))))).1, ((((((([]).drop (0 : Nat)).take (0 : Nat)) ++ z13.2.2.2.2.2.2.1)).getD ((0 : Nat) + (Int.toNat (Int.tmod z13.1 (((z13.2.2.2.2.2.2.1).length : Nat) : Int)))) ((0 : Int), ((0 : Int), ((0 : Int), (0 : Int))))).2.1, ((((((([]).drop (0 : Nat)).take (0 : Nat)) ++ z13.2.2.2.2.2.2.1)).getD ((0 : Nat) + (Int.toNat (Int.tmod z13.1 (((z13.2.2.2.2.2.2.1).length : Nat) : Int)))) ((0 : Int), ((0 : Int), ((0 : Int), (0 : Int))))).2.2.1, (imin (1000 : Int) ((((((([]).drop (0 : Nat)).take (0 : Nat)) ++ z13.2.2.2.2.2.2.1)).getD ((0 : Nat) + (Int.toNat (Int.tmod z13.1 (((z13.2.2.2.2.2.2.1).length : Nat) : Int)))) ((0 : Int), ((0 : Int), ((0 : Int), (0 : Int))))).2.2.2 + z13.2.1))))))).drop (0 : Nat)).take ((0 : Nat) + (z13.2.2.2.2.2.2.1).length)))))) []) fun y15 =>
 .bd (F24 (z13.2.2.1, (z13.2.2.2.1, (z13.2.2.2.2.1, (z13.2.2.2.2.2.1, ((((((((([]).drop (0 : Nat)).take (0 : Nat)) ++ z13.2.2.2.2.2.2.1)).set ((0 : Nat) + (Int.toNat (Int.tmod z13.1 (((z13.2.2.2.2.2.2.1).length : Nat) : Int)))) ((((((([]).drop (0 : Nat)).take (0 : Nat)) ++ z13.2.2.2.2.2.2.1)).getD ((0 : Nat) + (Int.toNat (Int.tmod z13.1 (((z13.2.2.2.2.2.2.1).length : Nat) : Int)))) ((0 : Int), ((0 : Int), ((0 : Int), (0 : Int))))).1, ((((((([]).drop (0 : Nat)).take (0 : Nat)) ++ z13.2.2.2.2.2.2.1)).getD ((0 : Nat) + (Int.toNat (Int.tmod z13.1 (((z13.2.2.2.2.2.2.1).length : Nat) : Int)))) ((0 : Int), ((0 : Int), ((0 : Int), (0 : Int))))).2.1, ((((((([]).drop (0 : Nat)).take (0 : Nat)) ++ z13.2.2.2.2.2.2.1)).getD ((0 : Nat) + (Int.toNat (Int.tmod z13.1 (((z13.2.2.2.2.2.2.1).length : Nat) : Int)))) ((0 : Int), ((0 : Int), ((0 : Int), (0 : Int))))).2.2.1, (imin (1000 : Int) ((((((([]).drop (0 : Nat)).take (0 : Nat)) ++ z13.2.2.2.2.2.2.1)).getD ((0 : Nat) + (Int.toNat (Int.tmod z13.1 (((z13.2.2.2.2.2.2.1).length : Nat) : Int)))) ((0 : Int), ((0 : Int), ((0 : Int), (0 : Int))))).2.2.2 + z13.2.1))))))).drop (0 : Nat)).take ((0 : Nat) + (z13.2.2.2.2.2.2.1).length))))))) fun y16 =>
 .br (!(y16.2.2.1 == (0 : Int))) (
 .ret (false, ())) (
 .br (decide (y16.2.1 < (1 : Int))) (
 .ret (false, ())) (
 .bd (.it g12_2 (y16.1, (y16.2.1, ((Int.tmod z13.1 (((z13.2.2.2.2.2.2.1).length : Nat) : Int)), (y15.1, ((((z13.2.2.2.2.2.2.2.2.2.1).length : Nat) : Int), ((0 : Int), (z13.2.2.1, (z13.2.2.2.1, (z13.2.2.2.2.1, (z13.2.2.2.2.2.1, (z13.2.2.2.2.2.2.1, (z13.2.2.2.2.2.2.2.1, (z13.2.2.2.2.2.2.2.2.1, (z13.2.2.2.2.2.2.2.2.2.1, (z13.2.2.1, (z13.2.2.2.1, (z13.2.2.2.2.1, (z13.2.2.2.2.2.1, (((0 : Nat) + (z13.2.2.2.2.2.2.1).length), ((((((([]).drop (0 : Nat)).take (0 : Nat)) ++ z13.2.2.2.2.2.2.1)).set ((0 : Nat) + (Int.toNat (Int.tmod z13.1 (((z13.2.2.2.2.2.2.1).length : Nat) : Int)))) ((((((([]).drop (0 : Nat)).take (0 : Nat)) ++ z13.2.2.2.2.2.2.1)).getD ((0 : Nat) + (Int.toNat (Int.tmod z13.1 (((z13.2.2.2.2.2.2.1).length : Nat) : Int)))) ((0 : Int), ((0 : Int), ((0 : Int), (0 : Int))))).1, ((((((([]).drop (0 : Nat)).take (0 : Nat)) ++ z13.2.2.2.2.2.2.1)).getD ((0 : Nat) + (Int.toNat (Int.tmod z13.1 (((z13.2.2.2.2.2.2.1).length : Nat) : Int)))) ((0 : Int), ((0 : Int), ((0 : Int), (0 : Int))))).2.1, ((((((([]).drop (0 : Nat)).take (0 : Nat)) ++ z13.2.2.2.2.2.2.1)).getD ((0 : Nat) + (Int.toNat (Int.tmod z13.1 (((z13.2.2.2.2.2.2.1).length : Nat) : Int)))) ((0 : Int), ((0 : Int), ((0 : Int), (0 : Int))))).2.2.1, (imin (1000 : Int) ((((((([]).drop (0 : Nat)).take (0 : Nat)) ++ z13.2.2.2.2.2.2.1)).getD ((0 : Nat) + (Int.toNat (Int.tmod z13.1 (((z13.2.2.2.2.2.2.1).length : Nat) : Int)))) ((0 : Int), ((0 : Int), ((0 : Int), (0 : Int))))).2.2.2 + z13.2.1)))))), ()))))))))))))))))))))) fun z18 =>
 .sm z18 (fun z19 =>
 .ret (false, ())) fun z20 =>
 .bd (F16) fun y21 =>
 .ret (y21.1, ())))))))))))
theorem c12_ok : trF prog f12 = some ⟨266, 4, dd12.er, [.t 8], [some .bool]⟩ := by kernel_rfl
noncomputable def ct12 : Ct := ⟨12, [.c (.hole (.prod (.int .u16) (.prod (.int .u8) (.prod (.int .u8) (.prod (.list (.int .u16)) (.list (.prod (.int .u8) (.prod (.int .u8) (.prod (.int .u8) (.int .u8)))))))))), .c (.hole (.int .u8)), .c (.hole (.int .u8)), .c (.hole (.int .u8))], .c (.hole .bool), fun x => run0 (F12 x.1 x.2.1 x.2.2.1 x.2.2.2.1)⟩
theorem ct12_ok : ct12.Ok prog := ct_ok mixed cx12_ok func12 c12_ok (enters_of func12 rfl rfl) dd12 (by kernel_rfl) rfl (fun x => by kernel_rfl)

end Go.Proofs.Try

