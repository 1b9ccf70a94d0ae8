/- Functions of the program as functions of data, part 2; printed by a program of mine. -/
import Derived.Test.YtdhefcocaomhfaaW100
import Derived.Test.YtdhefcocaomhfaaProg
set_option linter.unusedSectionVars false
set_option linter.unusedVariables false
set_option linter.unusedSimpArgs false
open Go.AM
namespace Go.Proofs.Try
set_option maxRecDepth 100000
set_option synthInstance.maxSize 4000
set_option synthInstance.maxHeartbeats 400000


/- 36 -/
noncomputable def cx36 : Cx := mkCxH [] []
theorem cx36_ok : cx36.Ok prog := mkCxH_ok trivial trivial
@[reducible] def p36_0 : Pat := Pat.mk [(1, hL), (2, .c (.ptr 0 0)), (6, hI), (19, hL), (20, hI), (21, hI)] [(0, .cells [.hole tI, .hole tI, .hole tI, .hole (.list (.prod .str tI)), .hole (.list (.prod tI (.prod tI (.prod tI tI))))] false)] [.slot 2] []
@[reducible] def x36_0 : Outs := [(.exit 0, Pat.mk [(1, hL), (2, .c (.ptr 0 0)), (6, hI)] [(0, .cells [.hole tI, .hole tI, .hole tI, .hole (.list (.prod .str tI)), .hole (.list (.prod tI (.prod tI (.prod tI tI))))] false)] [.slot 2] [])]
noncomputable def b36_0 : D prog 153 none 0 := dO [] (pick (kd prog f36) [(0, false)]) 0
noncomputable def g36_0 : List Int × Int × List Int × Int × Int × Int × Int × Int × (List (ByteArray × Int)) × (List (Int × Int × Int × Int)) × Unit → Tr0 ((List Int × Int × List Int × Int × Int × Int × Int × Int × (List (ByteArray × Int)) × (List (Int × Int × Int × Int)) × Unit) ⊕ ((List Int × Int × Int × Int × Int × (List (ByteArray × Int)) × (List (Int × Int × Int × Int)) × Unit))) := fun (v1, v6, v19, v20, v21, c0_0, c0_1, c0_2, c0_3, c0_4, _) =>
 .br (decide (v21 < v20)) (
 .nb v21 (((v19).length : Nat) : Int) <|
 .br (decide ((0 : Int) < ((v19).getD (Int.toNat v21) (0 : Int)))) (
 .nb v21 (((c0_3).length : Nat) : Int) <|
 .ni (v6 + ((c0_3).getD (Int.toNat v21) ((bs []), (0 : Int))).2) <|
 .ni (v21 + (1 : Int)) <|
 .ret (.inl (v1, ((v6 + ((c0_3).getD (Int.toNat v21) ((bs []), (0 : Int))).2), (v19, (v20, ((v21 + (1 : Int)), (c0_0, (c0_1, (c0_2, (c0_3, (c0_4, ())))))))))))) (
 .ni (v21 + (1 : Int)) <|
 .ret (.inl (v1, (v6, (v19, (v20, ((v21 + (1 : Int)), (c0_0, (c0_1, (c0_2, (c0_3, (c0_4, ()))))))))))))) (
 .ret (.inr (v1, (v6, (c0_0, (c0_1, (c0_2, (c0_3, (c0_4, ())))))))))
theorem s36_0 : ∀ x, roundE (kzO (p36_0.T ⊕ x36_0.T)) cx36 ar0 [] p36_0 x36_0 (b36_0) (fun y => some (.inl y)) (fun b => some (.inr b)) x = run0 (g36_0 x) := fun x => by kernel_rfl
noncomputable def L36_0 : LoopS prog 153 none 0 := mkLoop mixed cx36 cx36_ok [] rfl p36_0 x36_0 rfl (b36_0) (fun x => run0 (g36_0 x)) (s36_0)
@[reducible] def p36_2 : Pat := Pat.mk [(1, hL), (2, .c (.ptr 0 0)), (6, hI), (9, hI), (10, hI), (11, hI), (12, .c (.hole .bool)), (49, hL), (50, hI), (51, hI)] [(0, .cells [.hole tI, .hole tI, .hole tI, .hole (.list (.prod .str tI)), .hole (.list (.prod tI (.prod tI (.prod tI tI))))] false)] [.slot 2] []
@[reducible] def x36_2 : Outs := [(.exit 4, Pat.mk [(1, hL), (2, .c (.ptr 0 0)), (6, hI), (9, hI), (10, hI), (11, hI), (12, .c (.hole .bool))] [(0, .cells [.hole tI, .hole tI, .hole tI, .hole (.list (.prod .str tI)), .hole (.list (.prod tI (.prod tI (.prod tI tI))))] false)] [.slot 2] [])]
noncomputable def b36_2 : D prog 153 none 0 := dO [] (pick (kd prog f36) [(1, false), (0, false)]) 0
noncomputable def g36_2 : List Int × Int × Int × Int × Int × Bool × List Int × Int × Int × Int × Int × Int × (List (ByteArray × Int)) × (List (Int × Int × Int × Int)) × Unit → Tr0 ((List Int × Int × Int × Int × Int × Bool × List Int × Int × Int × Int × Int × Int × (List (ByteArray × Int)) × (List (Int × Int × Int × Int)) × Unit) ⊕ ((List Int × Int × Int × Int × Int × Bool × Int × Int × Int × (List (ByteArray × Int)) × (List (Int × Int × Int × Int)) × Unit))) := fun (v1, v6, v9, v10, v11, v12, v49, v50, v51, c0_0, c0_1, c0_2, c0_3, c0_4, _) =>
 .br (decide (v51 < v50)) (
 .nb v51 (((v49).length : Nat) : Int) <|
 .nb v51 (64 : Int) <|
 .br ((ar0.bits Go.AM.IBin.and Go.IntKind.i64 (ar0.shr v9 v51) (1 : Int)) == (1 : Int)) (
 .nb v51 (((c0_3).length : Nat) : Int) <|
 .ni (v10 - ((c0_3).getD (Int.toNat v51) ((bs []), (0 : Int))).2) <|
 .br v12 (
 .ni (v51 + (1 : Int)) <|
 .ret (.inl (v1, (v6, (v9, ((v10 - ((c0_3).getD (Int.toNat v51) ((bs []), (0 : Int))).2), (v11, ((decide ((0 : Int) < ((v49).getD (Int.toNat v51) (0 : Int)))), (v49, (v50, ((v51 + (1 : Int)), (c0_0, (c0_1, (c0_2, (c0_3, (c0_4, ())))))))))))))))) (
 .ni (v51 + (1 : Int)) <|
 .ret (.inl (v1, (v6, (v9, ((v10 - ((c0_3).getD (Int.toNat v51) ((bs []), (0 : Int))).2), (v11, (false, (v49, (v50, ((v51 + (1 : Int)), (c0_0, (c0_1, (c0_2, (c0_3, (c0_4, ()))))))))))))))))) (
 .ni (v11 + ((v49).getD (Int.toNat v51) (0 : Int))) <|
 .ni (v51 + (1 : Int)) <|
 .ret (.inl (v1, (v6, (v9, (v10, ((v11 + ((v49).getD (Int.toNat v51) (0 : Int))), (v12, (v49, (v50, ((v51 + (1 : Int)), (c0_0, (c0_1, (c0_2, (c0_3, (c0_4, ()))))))))))))))))) (
 .ret (.inr (v1, (v6, (v9, (v10, (v11, (v12, (c0_0, (c0_1, (c0_2, (c0_3, (c0_4, ())))))))))))))
theorem s36_2 : ∀ x, roundE (kzO (p36_2.T ⊕ x36_2.T)) cx36 ar0 [] p36_2 x36_2 (b36_2) (fun y => some (.inl y)) (fun b => some (.inr b)) x = run0 (g36_2 x) := fun x => by kernel_rfl
noncomputable def L36_2 : LoopS prog 153 none 0 := mkLoop mixed cx36 cx36_ok [] rfl p36_2 x36_2 rfl (b36_2) (fun x => run0 (g36_2 x)) (s36_2)
@[reducible] def p36_3 : Pat := Pat.mk [(1, hL), (2, .c (.ptr 0 0)), (4, .c (.sl0 1 tI)), (5, hI), (6, hI), (9, hI), (12, .c (.hole .bool)), (15, hI), (81, .c (.hole .bool)), (82, .c (.hole .bool)), (85, hI), (86, .c (.hole .bool)), (87, .c (.hole .bool)), (90, .c (.hole .bool)), (97, hL), (98, hI), (99, hI)] [(0, .cells [.hole tI, .hole tI, .hole tI, .hole (.list (.prod .str tI)), .hole (.list (.prod tI (.prod tI (.prod tI tI))))] false), (1, .arr tI false)] [.slot 2, .slot 4] []
@[reducible] def x36_3 : Outs := [(.exit 6, Pat.mk [(1, hL), (2, .c (.ptr 0 0)), (4, .c (.sl0 1 tI)), (5, hI), (6, hI), (9, hI), (12, .c (.hole .bool)), (81, .c (.hole .bool)), (82, .c (.hole .bool)), (85, hI), (86, .c (.hole .bool)), (87, .c (.hole .bool)), (90, .c (.hole .bool))] [(0, .cells [.hole tI, .hole tI, .hole tI, .hole (.list (.prod .str tI)), .hole (.list (.prod tI (.prod tI (.prod tI tI))))] false), (1, .arr tI false)] [.slot 2, .slot 4] [])]
noncomputable def b36_3 : D prog 153 none 0 := dO [] (pick (kd prog f36) [(1, false), (1, false)]) 0
noncomputable def g36_3 : List Int × Nat × Int × Int × Int × Bool × Int × Bool × Bool × Int × Bool × Bool × Bool × List Int × Int × Int × Int × Int × Int × (List (ByteArray × Int)) × (List (Int × Int × Int × Int)) × List Int × Unit → Tr0 ((List Int × Nat × Int × Int × Int × Bool × Int × Bool × Bool × Int × Bool × Bool × Bool × List Int × Int × Int × Int × Int × Int × (List (ByteArray × Int)) × (List (Int × Int × Int × Int)) × List Int × Unit) ⊕ ((List Int × Nat × Int × Int × Int × Bool × Bool × Bool × Int × Bool × Bool × Bool × Int × Int × Int × (List (ByteArray × Int)) × (List (Int × Int × Int × Int)) × List Int × Unit))) := fun (v1, nv4, v5, v6, v9, v12, v15, v81, v82, v85, v86, v87, v90, v97, v98, v99, c0_0, c0_1, c0_2, c0_3, c0_4, b1, _) =>
 .br (decide (v99 < v98)) (
 .nb v99 (((v97).length : Nat) : Int) <|
 .nb v99 (((c0_3).length : Nat) : Int) <|
 .ni (((c0_3).getD (Int.toNat v99) ((bs []), (0 : Int))).2 * v5) <|
 .nb v99 (64 : Int) <|
 .br ((ar0.bits Go.AM.IBin.and Go.IntKind.i64 (ar0.shr v9 v99) (1 : Int)) == (1 : Int)) (
 .br v12 (
 .ni (v15 * ((v97).getD (Int.toNat v99) (0 : Int))) <|
 .nd (decide ((nv4 + ((((((((c0_3).getD (Int.toNat v99) ((bs []), (0 : Int))).2 * v5) :: [])).drop (0 : Nat)).take (1 : Nat))).length) < bigL)) <|
 .ni (v99 + (1 : Int)) <|
 .ret (.inl (v1, ((nv4 + ((((((((c0_3).getD (Int.toNat v99) ((bs []), (0 : Int))).2 * v5) :: [])).drop (0 : Nat)).take (1 : Nat))).length), (v5, (v6, (v9, ((decide ((((c0_3).getD (Int.toNat v99) ((bs []), (0 : Int))).2 * v5) ≤ (v15 * ((v97).getD (Int.toNat v99) (0 : Int))))), (v15, (v81, (v82, (v85, (v86, (v87, (v90, (v97, (v98, ((v99 + (1 : Int)), (c0_0, (c0_1, (c0_2, (c0_3, (c0_4, (((((b1).drop (0 : Nat)).take nv4) ++ (((((((c0_3).getD (Int.toNat v99) ((bs []), (0 : Int))).2 * v5) :: [])).drop (0 : Nat)).take (1 : Nat))), ())))))))))))))))))))))))) (
 .nd (decide ((nv4 + ((((((((c0_3).getD (Int.toNat v99) ((bs []), (0 : Int))).2 * v5) :: [])).drop (0 : Nat)).take (1 : Nat))).length) < bigL)) <|
 .ni (v99 + (1 : Int)) <|
 .ret (.inl (v1, ((nv4 + ((((((((c0_3).getD (Int.toNat v99) ((bs []), (0 : Int))).2 * v5) :: [])).drop (0 : Nat)).take (1 : Nat))).length), (v5, (v6, (v9, (false, (v15, (v81, (v82, (v85, (v86, (v87, (v90, (v97, (v98, ((v99 + (1 : Int)), (c0_0, (c0_1, (c0_2, (c0_3, (c0_4, (((((b1).drop (0 : Nat)).take nv4) ++ (((((((c0_3).getD (Int.toNat v99) ((bs []), (0 : Int))).2 * v5) :: [])).drop (0 : Nat)).take (1 : Nat))), ()))))))))))))))))))))))))) (
 .br v12 (
 .ni (v15 * ((v97).getD (Int.toNat v99) (0 : Int))) <|
 .ni (v15 * ((v97).getD (Int.toNat v99) (0 : Int))) <|
 .nd (decide ((nv4 + ((((((v15 * ((v97).getD (Int.toNat v99) (0 : Int))) :: [])).drop (0 : Nat)).take (1 : Nat))).length) < bigL)) <|
 .ni (v99 + (1 : Int)) <|
 .ret (.inl (v1, ((nv4 + ((((((v15 * ((v97).getD (Int.toNat v99) (0 : Int))) :: [])).drop (0 : Nat)).take (1 : Nat))).length), (v5, (v6, (v9, ((decide ((v15 * ((v97).getD (Int.toNat v99) (0 : Int))) ≤ (((c0_3).getD (Int.toNat v99) ((bs []), (0 : Int))).2 * v5))), (v15, (v81, (v82, (v85, (v86, (v87, (v90, (v97, (v98, ((v99 + (1 : Int)), (c0_0, (c0_1, (c0_2, (c0_3, (c0_4, (((((b1).drop (0 : Nat)).take nv4) ++ (((((v15 * ((v97).getD (Int.toNat v99) (0 : Int))) :: [])).drop (0 : Nat)).take (1 : Nat))), ())))))))))))))))))))))))) (
 .ni (v15 * ((v97).getD (Int.toNat v99) (0 : Int))) <|
 .nd (decide ((nv4 + ((((((v15 * ((v97).getD (Int.toNat v99) (0 : Int))) :: [])).drop (0 : Nat)).take (1 : Nat))).length) < bigL)) <|
 .ni (v99 + (1 : Int)) <|
 .ret (.inl (v1, ((nv4 + ((((((v15 * ((v97).getD (Int.toNat v99) (0 : Int))) :: [])).drop (0 : Nat)).take (1 : Nat))).length), (v5, (v6, (v9, (false, (v15, (v81, (v82, (v85, (v86, (v87, (v90, (v97, (v98, ((v99 + (1 : Int)), (c0_0, (c0_1, (c0_2, (c0_3, (c0_4, (((((b1).drop (0 : Nat)).take nv4) ++ (((((v15 * ((v97).getD (Int.toNat v99) (0 : Int))) :: [])).drop (0 : Nat)).take (1 : Nat))), ())))))))))))))))))))))))))) (
 .ret (.inr (v1, (nv4, (v5, (v6, (v9, (v12, (v81, (v82, (v85, (v86, (v87, (v90, (c0_0, (c0_1, (c0_2, (c0_3, (c0_4, (b1, ()))))))))))))))))))))
theorem s36_3 : ∀ x, roundE (kzO (p36_3.T ⊕ x36_3.T)) cx36 ar0 [] p36_3 x36_3 (b36_3) (fun y => some (.inl y)) (fun b => some (.inr b)) x = run0 (g36_3 x) := fun x => by kernel_rfl
noncomputable def L36_3 : LoopS prog 153 none 0 := mkLoop mixed cx36 cx36_ok [] rfl p36_3 x36_3 rfl (b36_3) (fun x => run0 (g36_3 x)) (s36_3)
@[reducible] def p36_1 : Pat := Pat.mk [(1, hL), (2, .c (.ptr 0 0)), (6, hI), (9, hI)] [(0, .cells [.hole tI, .hole tI, .hole tI, .hole (.list (.prod .str tI)), .hole (.list (.prod tI (.prod tI (.prod tI tI))))] false)] [.slot 2] []
@[reducible] def x36_1 : Outs := [(.ret, Pat.mk [(4, .c (.sl0 0 tI)), (5, hI), (6, hI)] [(0, .arr tI false)] [.slot 4] []), (.exit 2, Pat.mk [(1, hL), (6, hI)] [] [] [])]
noncomputable def b36_1 : D prog 153 none 0 := dO [.l L36_2, .l L36_3] (pick (kd prog f36) [(1, false)]) 0
noncomputable def g36_1 : List Int × Int × Int × Int × Int × Int × (List (ByteArray × Int)) × (List (Int × Int × Int × Int)) × Unit → Tr0 ((List Int × Int × Int × Int × Int × Int × (List (ByteArray × Int)) × (List (Int × Int × Int × Int)) × Unit) ⊕ ((Nat × Int × Int × List Int × Unit) ⊕ ((List Int × Int × Unit)))) := fun (v1, v6, v9, c0_0, c0_1, c0_2, c0_3, c0_4, _) =>
 .nb (((v1).length : Nat) : Int) (64 : Int) <|
 .ni (ar0.shl (1 : Int) (((v1).length : Nat) : Int)) <|
 .br (decide (v9 < (ar0.shl (1 : Int) (((v1).length : Nat) : Int)))) (
 .bd (.it g36_2 (v1, (v6, (v9, (v6, ((0 : Int), (true, (v1, ((((v1).length : Nat) : Int), ((0 : Int), (c0_0, (c0_1, (c0_2, (c0_3, (c0_4, ()))))))))))))))) fun z1 =>
 .br (decide (z1.2.2.2.1 < (0 : Int))) (
 .ni (z1.2.2.1 + (1 : Int)) <|
 .ret (.inl (z1.1, (z1.2.1, ((z1.2.2.1 + (1 : Int)), (z1.2.2.2.2.2.2.1, (z1.2.2.2.2.2.2.2.1, (z1.2.2.2.2.2.2.2.2.1, (z1.2.2.2.2.2.2.2.2.2.1, (z1.2.2.2.2.2.2.2.2.2.2.1, ())))))))))) (
 .br (!z1.2.2.2.2.2.1) (
 .ni (z1.2.2.1 + (1 : Int)) <|
 .ret (.inl (z1.1, (z1.2.1, ((z1.2.2.1 + (1 : Int)), (z1.2.2.2.2.2.2.1, (z1.2.2.2.2.2.2.2.1, (z1.2.2.2.2.2.2.2.2.1, (z1.2.2.2.2.2.2.2.2.2.1, (z1.2.2.2.2.2.2.2.2.2.2.1, ())))))))))) (
 .br (decide ((0 : Int) < z1.2.2.2.1)) (
 .br (z1.2.2.2.2.1 == (0 : Int)) (
 .ni (z1.2.2.1 + (1 : Int)) <|
 .ret (.inl (z1.1, (z1.2.1, ((z1.2.2.1 + (1 : Int)), (z1.2.2.2.2.2.2.1, (z1.2.2.2.2.2.2.2.1, (z1.2.2.2.2.2.2.2.2.1, (z1.2.2.2.2.2.2.2.2.2.1, (z1.2.2.2.2.2.2.2.2.2.2.1, ())))))))))) (
 .jx (
 .br (z1.2.2.2.2.1 == (0 : Int)) (
 .ret (.inl (z1.1, ((imax (1 : Int) z1.2.2.2.2.1), (z1.2.1, (z1.2.2.1, (z1.2.2.2.2.2.1, ((1000000000 : Int), (z1.2.2.2.2.2.1, ((!z1.2.2.2.2.2.1), (z1.2.2.2.1, ((decide ((0 : Int) < z1.2.2.2.1)), (z1.2.2.2.2.1, ((z1.2.2.2.2.1 == (0 : Int)), ((z1.2.2.2.2.1 == (0 : Int)), (z1.2.2.2.2.2.2.1, (z1.2.2.2.2.2.2.2.1, (z1.2.2.2.2.2.2.2.2.1, (z1.2.2.2.2.2.2.2.2.2.1, (z1.2.2.2.2.2.2.2.2.2.2.1, ())))))))))))))))))))) (
 .ret (.inl (z1.1, ((imax (1 : Int) z1.2.2.2.2.1), (z1.2.1, (z1.2.2.1, (z1.2.2.2.2.2.1, (z1.2.2.2.1, (z1.2.2.2.2.2.1, ((!z1.2.2.2.2.2.1), (z1.2.2.2.1, ((decide ((0 : Int) < z1.2.2.2.1)), (z1.2.2.2.2.1, ((z1.2.2.2.2.1 == (0 : Int)), ((z1.2.2.2.2.1 == (0 : Int)), (z1.2.2.2.2.2.2.1, (z1.2.2.2.2.2.2.2.1, (z1.2.2.2.2.2.2.2.2.1, (z1.2.2.2.2.2.2.2.2.2.1, (z1.2.2.2.2.2.2.2.2.2.2.1, ()))))))))))))))))))))) fun j2 =>
 .bd (.it g36_3 (j2.1, ((0 : Nat), (j2.2.1, (j2.2.2.1, (j2.2.2.2.1, (j2.2.2.2.2.1, (j2.2.2.2.2.2.1, (j2.2.2.2.2.2.2.1, (j2.2.2.2.2.2.2.2.1, (j2.2.2.2.2.2.2.2.2.1, (j2.2.2.2.2.2.2.2.2.2.1, (true, (j2.2.2.2.2.2.2.2.2.2.2.2.2.1, (j2.1, ((((j2.1).length : Nat) : Int), ((0 : Int), (j2.2.2.2.2.2.2.2.2.2.2.2.2.2.1, (j2.2.2.2.2.2.2.2.2.2.2.2.2.2.2.1, (j2.2.2.2.2.2.2.2.2.2.2.2.2.2.2.2.1, (j2.2.2.2.2.2.2.2.2.2.2.2.2.2.2.2.2.1, (j2.2.2.2.2.2.2.2.2.2.2.2.2.2.2.2.2.2.1, ([], ()))))))))))))))))))))))) fun z3 =>
 .br z3.2.2.2.2.2.1 (
 .ret (.inr <| .inl <| (z3.2.1, (z3.2.2.1, (z3.2.2.2.1, (z3.2.2.2.2.2.2.2.2.2.2.2.2.2.2.2.2.2.1, ())))))) (
 .ni (z3.2.2.2.2.1 + (1 : Int)) <|
 .ret (.inl (z3.1, (z3.2.2.2.1, ((z3.2.2.2.2.1 + (1 : Int)), (z3.2.2.2.2.2.2.2.2.2.2.2.2.1, (z3.2.2.2.2.2.2.2.2.2.2.2.2.2.1, (z3.2.2.2.2.2.2.2.2.2.2.2.2.2.2.1, (z3.2.2.2.2.2.2.2.2.2.2.2.2.2.2.2.1, (z3.2.2.2.2.2.2.2.2.2.2.2.2.2.2.2.2.1, ())))))))))))) (
 .jx (
 .br (z1.2.2.2.2.1 == (0 : Int)) (
 .ret (.inl (z1.1, ((imax (1 : Int) z1.2.2.2.2.1), (z1.2.1, (z1.2.2.1, (z1.2.2.2.2.2.1, ((1000000000 : Int), (z1.2.2.2.2.2.1, ((!z1.2.2.2.2.2.1), (z1.2.2.2.1, ((decide ((0 : Int) < z1.2.2.2.1)), (z1.2.2.2.2.2.2.1, (z1.2.2.2.2.2.2.2.1, (z1.2.2.2.2.2.2.2.2.1, (z1.2.2.2.2.2.2.2.2.2.1, (z1.2.2.2.2.2.2.2.2.2.2.1, ()))))))))))))))))) (
 .ret (.inl (z1.1, ((imax (1 : Int) z1.2.2.2.2.1), (z1.2.1, (z1.2.2.1, (z1.2.2.2.2.2.1, (z1.2.2.2.1, (z1.2.2.2.2.2.1, ((!z1.2.2.2.2.2.1), (z1.2.2.2.1, ((decide ((0 : Int) < z1.2.2.2.1)), (z1.2.2.2.2.2.2.1, (z1.2.2.2.2.2.2.2.1, (z1.2.2.2.2.2.2.2.2.1, (z1.2.2.2.2.2.2.2.2.2.1, (z1.2.2.2.2.2.2.2.2.2.2.1, ())))))))))))))))))) fun j4 =>
 .bd (.it g36_3 (j4.1, ((0 : Nat), (j4.2.1, (j4.2.2.1, (j4.2.2.2.1, (j4.2.2.2.2.1, (j4.2.2.2.2.2.1, (j4.2.2.2.2.2.2.1, (j4.2.2.2.2.2.2.2.1, (j4.2.2.2.2.2.2.2.2.1, (j4.2.2.2.2.2.2.2.2.2.1, (false, (false, (j4.1, ((((j4.1).length : Nat) : Int), ((0 : Int), (j4.2.2.2.2.2.2.2.2.2.2.1, (j4.2.2.2.2.2.2.2.2.2.2.2.1, (j4.2.2.2.2.2.2.2.2.2.2.2.2.1, (j4.2.2.2.2.2.2.2.2.2.2.2.2.2.1, (j4.2.2.2.2.2.2.2.2.2.2.2.2.2.2.1, ([], ()))))))))))))))))))))))) fun z5 =>
 .br z5.2.2.2.2.2.1 (
 .ret (.inr <| .inl <| (z5.2.1, (z5.2.2.1, (z5.2.2.2.1, (z5.2.2.2.2.2.2.2.2.2.2.2.2.2.2.2.2.2.1, ())))))) (
 .ni (z5.2.2.2.2.1 + (1 : Int)) <|
 .ret (.inl (z5.1, (z5.2.2.2.1, ((z5.2.2.2.2.1 + (1 : Int)), (z5.2.2.2.2.2.2.2.2.2.2.2.2.1, (z5.2.2.2.2.2.2.2.2.2.2.2.2.2.1, (z5.2.2.2.2.2.2.2.2.2.2.2.2.2.2.1, (z5.2.2.2.2.2.2.2.2.2.2.2.2.2.2.2.1, (z5.2.2.2.2.2.2.2.2.2.2.2.2.2.2.2.2.1, ())))))))))))))) (
 .ret (.inr <| .inr <| (v1, (v6, ()))))
theorem s36_1 : ∀ x, roundE (kzO (p36_1.T ⊕ x36_1.T)) cx36 ar0 [] p36_1 x36_1 (b36_1) (fun y => some (.inl y)) (fun b => some (.inr b)) x = run0 (g36_1 x) := fun x => Eq.trans (b := run0 (flat (g36_1 x))) (by kernel_rfl) run_flat
noncomputable def L36_1 : LoopS prog 153 none 0 := mkLoop mixed cx36 cx36_ok [] rfl p36_1 x36_1 rfl (b36_1) (fun x => run0 (g36_1 x)) (s36_1)
noncomputable def dd36 : D prog 153 none 0 := dO [.l L36_0, .l L36_1] (kd prog f36) 0
noncomputable def F36 (a0 : Int × Int × Int × (List (ByteArray × Int)) × List (Int × Int × Int × Int)) (a1 : List Int) : Tr0 (List Int × Int × Int × Unit) :=
 .bd (.it g36_0 (a1, ((0 : Int), (a1, ((((a1).length : Nat) : Int), ((0 : Int), (a0.1, (a0.2.1, (a0.2.2.1, (a0.2.2.2.1, (a0.2.2.2.2, ()))))))))))) fun z0 =>
 .bd (.it g36_1 (z0.1, ((imin z0.2.1 z0.2.2.1), ((0 : Int), (z0.2.2.1, (z0.2.2.2.1, (z0.2.2.2.2.1, (z0.2.2.2.2.2.1, (z0.2.2.2.2.2.2.1, ()))))))))) fun z6 =>
 .sm z6 (fun z7 =>
 .ret ((((z7.2.2.2.1).drop (0 : Nat)).take z7.1), (z7.2.1, (z7.2.2.1, ())))) fun z8 =>
 .nb (((z8.1).length : Nat) : Int) ((bigL : Nat) : Int) <|
 .ret (((((List.replicate (Int.toNat (((z8.1).length : Nat) : Int)) (0 : Int))).drop (0 : Nat)).take (Int.toNat (((z8.1).length : Nat) : Int))), ((1 : Int), (z8.2.1, ())))
theorem c36_ok : trF prog f36 = some ⟨153, 2, dd36.er, [.t 4, .t 5, .t 6], [some tL, some tI, some tI]⟩ := by kernel_rfl
noncomputable def ct36 : Ct := ⟨36, [.c (.hole (.prod tI (.prod tI (.prod tI (.prod (.list (.prod .str tI)) (.list (.prod tI (.prod tI (.prod tI tI))))))))), hL], .tup [.hole tL, .hole tI, .hole tI], fun x => run0 (F36 x.1 x.2.1)⟩
theorem ct36_ok : ct36.Ok prog := ct_ok mixed cx36_ok func36 c36_ok (enters_of func36 rfl rfl) dd36 (by kernel_rfl) rfl (fun x => by kernel_rfl)

/- 10 -/
noncomputable def cx10 : Cx := mkCxH [ct34, ct35, ct36, ct26, ct24, ct32, ct16] []
theorem cx10_ok : cx10.Ok prog := mkCxH_ok ⟨ct34_ok, ct35_ok, ct36_ok, ct26_ok, ct24_ok, ct32_ok, ct16_ok, trivial⟩ trivial
@[reducible] def p10_0 : Pat := Pat.mk [(1, .c (.hole (.list (.int .u8)))), (2, .c (.hole (.int .u8))), (3, .c (.hole (.int .u8))), (4, .c (.hole .bool)), (11, .c (.ptr 0 0)), (12, hL), (13, hI), (17, hI), (18, hI), (20, .c (.sl0 1 tI)), (62, hI), (63, hI)] [(0, .cells [.hole tI, .hole tI, .hole tI, .hole (.list (.prod .str tI)), .hole (.list (.prod tI (.prod tI (.prod tI tI))))] false), (1, .arr tI false)] [.slot 11, .slot 20] []
@[reducible] def x10_0 : Outs := [(.exit 0, Pat.mk [(2, .c (.hole (.int .u8))), (3, .c (.hole (.int .u8))), (4, .c (.hole .bool)), (11, .c (.ptr 0 0)), (12, hL), (13, hI), (17, hI), (18, hI), (20, .c (.sl0 1 tI))] [(0, .cells [.hole tI, .hole tI, .hole tI, .hole (.list (.prod .str tI)), .hole (.list (.prod tI (.prod tI (.prod tI tI))))] false), (1, .arr tI false)] [.slot 11, .slot 20] [])]
noncomputable def b10_0 : D prog 129 none 0 := dO [] (pick (kd prog f10) [(0, false)]) 0
noncomputable def g10_0 : List Int × Int × Int × Bool × List Int × Int × Int × Int × Nat × Int × Int × Int × Int × Int × (List (ByteArray × Int)) × (List (Int × Int × Int × Int)) × List Int × Unit → Tr0 ((List Int × Int × Int × Bool × List Int × Int × Int × Int × Nat × Int × Int × Int × Int × Int × (List (ByteArray × Int)) × (List (Int × Int × Int × Int)) × List Int × Unit) ⊕ ((Int × Int × Bool × List Int × Int × Int × Int × Nat × Int × Int × Int × (List (ByteArray × Int)) × (List (Int × Int × Int × Int)) × List Int × Unit))) := fun (v1, v2, v3, v4, v12, v13, v17, v18, nv20, v62, v63, c0_0, c0_1, c0_2, c0_3, c0_4, b1, _) =>
 .br (decide (v63 < v62)) (
 .br (decide (v63 < (((v1).length : Nat) : Int))) (
 .nb v63 ((nv20 : Nat) : Int) <|
 .nd (decide (((0 : Nat) + (Int.toNat v63)) < (b1).length)) <|
 .nb v63 (((v1).length : Nat) : Int) <|
 .ni ((v1).getD (Int.toNat v63) (0 : Int)) <|
 .nd (!((3 : Int) == (0 : Int))) <|
 .ni ((Int.tmod ((v1).getD (Int.toNat v63) (0 : Int)) (3 : Int)) - (1 : Int)) <|
 .ni (((b1).getD ((0 : Nat) + (Int.toNat v63)) (0 : Int)) + ((Int.tmod ((v1).getD (Int.toNat v63) (0 : Int)) (3 : Int)) - (1 : Int))) <|
 .nb v63 ((nv20 : Nat) : Int) <|
 .nd (decide (((0 : Nat) + (Int.toNat v63)) < (b1).length)) <|
 .ni (v63 + (1 : Int)) <|
 .ret (.inl (v1, (v2, (v3, (v4, (v12, (v13, (v17, (v18, (nv20, (v62, ((v63 + (1 : Int)), (c0_0, (c0_1, (c0_2, (c0_3, (c0_4, (((b1).set ((0 : Nat) + (Int.toNat v63)) (((b1).getD ((0 : Nat) + (Int.toNat v63)) (0 : Int)) + ((Int.tmod ((v1).getD (Int.toNat v63) (0 : Int)) (3 : Int)) - (1 : Int)))), ()))))))))))))))))))) (
 .ni (v63 + (1 : Int)) <|
 .ret (.inl (v1, (v2, (v3, (v4, (v12, (v13, (v17, (v18, (nv20, (v62, ((v63 + (1 : Int)), (c0_0, (c0_1, (c0_2, (c0_3, (c0_4, (b1, ())))))))))))))))))))) (
 .ret (.inr (v2, (v3, (v4, (v12, (v13, (v17, (v18, (nv20, (c0_0, (c0_1, (c0_2, (c0_3, (c0_4, (b1, ()))))))))))))))))
theorem s10_0 : ∀ x, roundE (kzO (p10_0.T ⊕ x10_0.T)) cx10 ar0 [] p10_0 x10_0 (b10_0) (fun y => some (.inl y)) (fun b => some (.inr b)) x = run0 (g10_0 x) := fun x => by kernel_rfl
noncomputable def L10_0 : LoopS prog 129 none 0 := mkLoop mixed cx10 cx10_ok [] rfl p10_0 x10_0 rfl (b10_0) (fun x => run0 (g10_0 x)) (s10_0)
@[reducible] def p10_1 : Pat := Pat.mk [(12, hL), (13, hI), (98, .c (.sl0 0 tI)), (99, hI), (100, hI)] [(0, .arr tI false)] [.slot 98] []
@[reducible] def x10_1 : Outs := [(.ret, Pat.mk [(10, .c (.tf false))] [] [] []), (.exit 2, Pat.mk [] [] [] [])]
noncomputable def b10_1 : D prog 129 none 0 := dO [] (pick (kd prog f10) [(1, false)]) 0
noncomputable def g10_1 : List Int × Int × Nat × Int × Int × List Int × Unit → Tr0 ((List Int × Int × Nat × Int × Int × List Int × Unit) ⊕ ((Unit) ⊕ ((Unit)))) := fun (v12, v13, nv98, v99, v100, b0, _) =>
 .br (decide (v100 < v99)) (
 .nb v100 ((nv98 : Nat) : Int) <|
 .nd (decide (((0 : Nat) + (Int.toNat v100)) < (b0).length)) <|
 .ni (((b0).getD ((0 : Nat) + (Int.toNat v100)) (0 : Int)) * v13) <|
 .nb v100 (((v12).length : Nat) : Int) <|
 .ni (((v12).getD (Int.toNat v100) (0 : Int)) - v13) <|
 .br (decide ((((b0).getD ((0 : Nat) + (Int.toNat v100)) (0 : Int)) * v13) ≤ (((v12).getD (Int.toNat v100) (0 : Int)) - v13))) (
 .ret (.inr <| .inl <| ())) (
 .ni (((b0).getD ((0 : Nat) + (Int.toNat v100)) (0 : Int)) * v13) <|
 .nb v100 (((v12).length : Nat) : Int) <|
 .ni (((v12).getD (Int.toNat v100) (0 : Int)) + v13) <|
 .br (decide ((((v12).getD (Int.toNat v100) (0 : Int)) + v13) ≤ (((b0).getD ((0 : Nat) + (Int.toNat v100)) (0 : Int)) * v13))) (
 .ret (.inr <| .inl <| ())) (
 .ni (v100 + (1 : Int)) <|
 .ret (.inl (v12, (v13, (nv98, (v99, ((v100 + (1 : Int)), (b0, ())))))))))) (
 .ret (.inr <| .inr <| ()))
theorem s10_1 : ∀ x, roundE (kzO (p10_1.T ⊕ x10_1.T)) cx10 ar0 [] p10_1 x10_1 (b10_1) (fun y => some (.inl y)) (fun b => some (.inr b)) x = run0 (g10_1 x) := fun x => by kernel_rfl
noncomputable def L10_1 : LoopS prog 129 none 0 := mkLoop mixed cx10 cx10_ok [] rfl p10_1 x10_1 rfl (b10_1) (fun x => run0 (g10_1 x)) (s10_1)
noncomputable def dd10 : D prog 129 none 0 := dO [.l L10_0, .l L10_1] (kd prog f10) 0
noncomputable def F10 (a0 : Int × Int × Int × (List Int) × List (Int × Int × Int × Int)) (a1 : List Int) (a2 : Int) (a3 : Int) (a4 : Bool) : Tr0 (Bool × Unit) :=
 .bd (F34 (a0.1, (a0.2.1, (a0.2.2.1, (a0.2.2.2.1, a0.2.2.2.2))))) fun y0 =>
 .bd (F35 (y0.1.1, (y0.1.2.1, (y0.1.2.2.1, (y0.1.2.2.2.1, y0.1.2.2.2.2)))) []) fun y1 =>
 .bd (F36 (y0.1.1, (y0.1.2.1, (y0.1.2.2.1, (y0.1.2.2.2.1, y0.1.2.2.2.2)))) y1.1) fun y2 =>
 .bd (F26 (y0.1.1, (y0.1.2.1, (y0.1.2.2.1, (y0.1.2.2.2.1, y0.1.2.2.2.2))))) fun y3 =>
 .bd (F24 (y0.1.1, (y0.1.2.1, (y0.1.2.2.1, (y0.1.2.2.2.1, y0.1.2.2.2.2))))) fun y4 =>
 .br (!(y3.2.1 == (0 : Int))) (
 .ret (false, ())) (
 .br (!(y4.2.2.1 == (0 : Int))) (
 .ret (false, ())) (
 .br (!((((y3.1).length : Nat) : Int) == (((y2.1).length : Nat) : Int))) (
 .ret (false, ())) (
 .nd (decide (((0 : Nat) + (y3.1).length) < bigL)) <|
 .bd (.it g10_0 (a1, (a2, (a3, (a4, (y2.1, (y2.2.1, (y4.1, (y4.2.1, (((0 : Nat) + (y3.1).length), (((((0 : Nat) + (y3.1).length) : Nat) : Int), ((0 : Int), (y0.1.1, (y0.1.2.1, (y0.1.2.2.1, (y0.1.2.2.2.1, (y0.1.2.2.2.2, ((((([]).drop (0 : Nat)).take (0 : Nat)) ++ y3.1), ())))))))))))))))))) fun z5 =>
 .jx (
 .br (!z5.2.2.1) (
 .ni z5.1 <|
 .ni z5.2.1 <|
 .ni ((1 : Int) + z5.2.1) <|
 .ret (.inl (z5.2.2.2.1, (z5.2.2.2.2.1, (z5.1, (((1 : Int) + z5.2.1), (z5.2.2.2.2.2.2.2.1, (z5.2.2.2.2.2.2.2.2.1, (z5.2.2.2.2.2.2.2.2.2.1, (z5.2.2.2.2.2.2.2.2.2.2.1, (z5.2.2.2.2.2.2.2.2.2.2.2.1, (z5.2.2.2.2.2.2.2.2.2.2.2.2.1, (z5.2.2.2.2.2.2.2.2.2.2.2.2.2.1, ()))))))))))))) (
 .ret (.inl (z5.2.2.2.1, (z5.2.2.2.2.1, (z5.2.2.2.2.2.1, (z5.2.2.2.2.2.2.1, (z5.2.2.2.2.2.2.2.1, (z5.2.2.2.2.2.2.2.2.1, (z5.2.2.2.2.2.2.2.2.2.1, (z5.2.2.2.2.2.2.2.2.2.2.1, (z5.2.2.2.2.2.2.2.2.2.2.2.1, (z5.2.2.2.2.2.2.2.2.2.2.2.2.1, (z5.2.2.2.2.2.2.2.2.2.2.2.2.2.1, ())))))))))))))) fun j6 =>
 .bd (F32 (j6.2.2.2.2.2.1, (j6.2.2.2.2.2.2.1, (j6.2.2.2.2.2.2.2.1, (j6.2.2.2.2.2.2.2.2.1, j6.2.2.2.2.2.2.2.2.2.1)))) (((j6.2.2.2.2.2.2.2.2.2.2.1).drop (0 : Nat)).take j6.2.2.2.2.1) j6.2.2.1 j6.2.2.2.1) fun y7 =>
 .br (!(y7.1 == (0 : Int))) (
 .bd (F16) fun y8 =>
 .ret (y8.1, ())) (
 .bd (.it g10_1 (j6.1, (j6.2.1, (j6.2.2.2.2.1, (((j6.2.2.2.2.1 : Nat) : Int), ((0 : Int), (j6.2.2.2.2.2.2.2.2.2.2.1, ()))))))) fun z9 =>
 .sm z9 (fun z10 =>
 .ret (false, ())) fun z11 =>
 .bd (F16) fun y12 =>
 .ret (y12.1, ())))))
theorem c10_ok : trF prog f10 = some ⟨129, 5, dd10.er, [.t 10], [some .bool]⟩ := by kernel_rfl
noncomputable def ct10 : Ct := ⟨10, [.c (.hole (.prod (.int .u16) (.prod (.int .u8) (.prod (.int .u8) (.prod (.list (.int .u16)) (.list (.prod (.int .u8) (.prod (.int .u8) (.prod (.int .u8) (.int .u8)))))))))), .c (.hole (.list (.int .u8))), .c (.hole (.int .u8)), .c (.hole (.int .u8)), .c (.hole .bool)], .c (.hole .bool), fun x => run0 (F10 x.1 x.2.1 x.2.2.1 x.2.2.2.1 x.2.2.2.2.1)⟩
theorem ct10_ok : ct10.Ok prog := ct_ok mixed cx10_ok func10 c10_ok (enters_of func10 rfl rfl) dd10 (by kernel_rfl) rfl (fun x => Eq.trans (b := run0 (flat (F10 x.1 x.2.1 x.2.2.1 x.2.2.2.1 x.2.2.2.2.1))) (by kernel_rfl) run_flat)

end Go.Proofs.Try

