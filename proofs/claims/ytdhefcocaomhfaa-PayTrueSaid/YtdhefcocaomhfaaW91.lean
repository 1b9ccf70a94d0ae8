/- Functions of the program as functions of data, part 2; printed by a program of mine. -/
import Derived.Test.YtdhefcocaomhfaaW90
import Derived.Test.YtdhefcocaomhfaaProg
set_option linter.unusedSectionVars false
set_option linter.unusedVariables false
set_option linter.unusedSimpArgs false
open Go.AM
namespace Go.Proofs.Try
set_option maxRecDepth 100000
set_option synthInstance.maxSize 4000
set_option synthInstance.maxHeartbeats 400000


/- 35 -/
noncomputable def cx35 : Cx := mkCxH [] []
theorem cx35_ok : cx35.Ok prog := mkCxH_ok trivial trivial
@[reducible] def p35_0 : Pat := Pat.mk [(1, .c (.hole (.list (.prod tI tI)))), (5, .c (.sl0 0 tI)), (15, .c (.hole (.list (.prod tI (.prod tI (.prod tI tI)))))), (16, hI), (17, hI)] [(0, .arr tI false)] [.slot 5] []
@[reducible] def x35_0 : Outs := [(.exit 0, Pat.mk [(5, .c (.sl0 0 tI))] [(0, .arr tI false)] [.slot 5] [])]
noncomputable def b35_0 : D prog 62 none 0 := dO [] (pick (kd prog f35) [(0, false)]) 0
noncomputable def g35_0 : (List (Int × Int)) × Nat × (List (Int × Int × Int × Int)) × Int × Int × List Int × Unit → Tr0 (((List (Int × Int)) × Nat × (List (Int × Int × Int × Int)) × Int × Int × List Int × Unit) ⊕ ((Nat × List Int × Unit))) := fun (v1, nv5, v15, v16, v17, b0, _) =>
 .br (decide (v17 < v16)) (
 .nb v17 (((v15).length : Nat) : Int) <|
 .ni (((v15).getD (Int.toNat v17) ((0 : Int), ((0 : Int), ((0 : Int), (0 : Int))))).2.1 - ((v15).getD (Int.toNat v17) ((0 : Int), ((0 : Int), ((0 : Int), (0 : Int))))).2.2.1) <|
 .jx (
 .br (decide (v17 < (((v1).length : Nat) : Int))) (
 .nb v17 (((v1).length : Nat) : Int) <|
 .ni ((((v15).getD (Int.toNat v17) ((0 : Int), ((0 : Int), ((0 : Int), (0 : Int))))).2.1 - ((v15).getD (Int.toNat v17) ((0 : Int), ((0 : Int), ((0 : Int), (0 : Int))))).2.2.1) + ((v1).getD (Int.toNat v17) ((0 : Int), (0 : Int))).1) <|
 .nb v17 (((v1).length : Nat) : Int) <|
 .ni (((v15).getD (Int.toNat v17) ((0 : Int), ((0 : Int), ((0 : Int), (0 : Int))))).2.2.2 + ((v1).getD (Int.toNat v17) ((0 : Int), (0 : Int))).2) <|
 .ret (.inl (v1, (nv5, ((imax (0 : Int) ((((v15).getD (Int.toNat v17) ((0 : Int), ((0 : Int), ((0 : Int), (0 : Int))))).2.1 - ((v15).getD (Int.toNat v17) ((0 : Int), ((0 : Int), ((0 : Int), (0 : Int))))).2.2.1) + ((v1).getD (Int.toNat v17) ((0 : Int), (0 : Int))).1)), ((imin (1000 : Int) (imax (0 : Int) (((v15).getD (Int.toNat v17) ((0 : Int), ((0 : Int), ((0 : Int), (0 : Int))))).2.2.2 + ((v1).getD (Int.toNat v17) ((0 : Int), (0 : Int))).2))), (v15, (v16, (v17, (b0, (((v15).getD (Int.toNat v17) ((0 : Int), ((0 : Int), ((0 : Int), (0 : Int))))).1, (((v15).getD (Int.toNat v17) ((0 : Int), ((0 : Int), ((0 : Int), (0 : Int))))).2.1, (((v15).getD (Int.toNat v17) ((0 : Int), ((0 : Int), ((0 : Int), (0 : Int))))).2.2.1, (((v15).getD (Int.toNat v17) ((0 : Int), ((0 : Int), ((0 : Int), (0 : Int))))).2.2.2, ())))))))))))))) (
 .ret (.inl (v1, (nv5, ((((v15).getD (Int.toNat v17) ((0 : Int), ((0 : Int), ((0 : Int), (0 : Int))))).2.1 - ((v15).getD (Int.toNat v17) ((0 : Int), ((0 : Int), ((0 : Int), (0 : Int))))).2.2.1), (((v15).getD (Int.toNat v17) ((0 : Int), ((0 : Int), ((0 : Int), (0 : Int))))).2.2.2, (v15, (v16, (v17, (b0, (((v15).getD (Int.toNat v17) ((0 : Int), ((0 : Int), ((0 : Int), (0 : Int))))).1, (((v15).getD (Int.toNat v17) ((0 : Int), ((0 : Int), ((0 : Int), (0 : Int))))).2.1, (((v15).getD (Int.toNat v17) ((0 : Int), ((0 : Int), ((0 : Int), (0 : Int))))).2.2.1, (((v15).getD (Int.toNat v17) ((0 : Int), ((0 : Int), ((0 : Int), (0 : Int))))).2.2.2, ()))))))))))))))) fun j0 =>
 .nb j0.2.2.2.2.2.2.2.2.1 ((j0.2.1 : Nat) : Int) <|
 .nd (decide (((0 : Nat) + (Int.toNat j0.2.2.2.2.2.2.2.2.1)) < (j0.2.2.2.2.2.2.2.1).length)) <|
 .ni (j0.2.2.1 * j0.2.2.2.1) <|
 .ni (((j0.2.2.2.2.2.2.2.1).getD ((0 : Nat) + (Int.toNat j0.2.2.2.2.2.2.2.2.1)) (0 : Int)) + (j0.2.2.1 * j0.2.2.2.1)) <|
 .nb j0.2.2.2.2.2.2.2.2.1 ((j0.2.1 : Nat) : Int) <|
 .nd (decide (((0 : Nat) + (Int.toNat j0.2.2.2.2.2.2.2.2.1)) < (j0.2.2.2.2.2.2.2.1).length)) <|
 .ni (j0.2.2.2.2.2.2.1 + (1 : Int)) <|
 .ret (.inl (j0.1, (j0.2.1, (j0.2.2.2.2.1, (j0.2.2.2.2.2.1, ((j0.2.2.2.2.2.2.1 + (1 : Int)), (((j0.2.2.2.2.2.2.2.1).set ((0 : Nat) + (Int.toNat j0.2.2.2.2.2.2.2.2.1)) (((j0.2.2.2.2.2.2.2.1).getD ((0 : Nat) + (Int.toNat j0.2.2.2.2.2.2.2.2.1)) (0 : Int)) + (j0.2.2.1 * j0.2.2.2.1))), ())))))))) (
 .ret (.inr (nv5, (b0, ()))))
theorem s35_0 : ∀ x, roundE (kzO (p35_0.T ⊕ x35_0.T)) cx35 ar0 [] p35_0 x35_0 (b35_0) (fun y => some (.inl y)) (fun b => some (.inr b)) x = run0 (g35_0 x) := fun x => Eq.trans (b := run0 (flat (g35_0 x))) (by kernel_rfl) run_flat
noncomputable def L35_0 : LoopS prog 62 none 0 := mkLoop mixed cx35 cx35_ok [] rfl p35_0 x35_0 rfl (b35_0) (fun x => run0 (g35_0 x)) (s35_0)
noncomputable def dd35 : D prog 62 none 0 := dO [.l L35_0] (kd prog f35) 0
noncomputable def F35 (a0 : Int × Int × Int × (List (ByteArray × Int)) × List (Int × Int × Int × Int)) (a1 : List (Int × Int)) : Tr0 (List Int × Unit) :=
 .nb (((a0.2.2.2.1).length : Nat) : Int) ((bigL : Nat) : Int) <|
 .bd (.it g35_0 (a1, ((Int.toNat (((a0.2.2.2.1).length : Nat) : Int)), (a0.2.2.2.2, ((((a0.2.2.2.2).length : Nat) : Int), ((0 : Int), ((List.replicate (Int.toNat (((a0.2.2.2.1).length : Nat) : Int)) (0 : Int)), ()))))))) fun z1 =>
 .ret ((((z1.2.1).drop (0 : Nat)).take z1.1), ())
theorem c35_ok : trF prog f35 = some ⟨62, 2, dd35.er, [.t 4], [some tL]⟩ := by kernel_rfl
noncomputable def ct35 : Ct := ⟨35, [.c (.hole (.prod tI (.prod tI (.prod tI (.prod (.list (.prod .str tI)) (.list (.prod tI (.prod tI (.prod tI tI))))))))), .c (.hole (.list (.prod tI tI)))], hL, fun x => run0 (F35 x.1 x.2.1)⟩
theorem ct35_ok : ct35.Ok prog := ct_ok mixed cx35_ok func35 c35_ok (enters_of func35 rfl rfl) dd35 (by kernel_rfl) rfl (fun x => by kernel_rfl)

/- 36 -/
noncomputable def cx36 : Cx := mkCxH [] []
theorem cx36_ok : cx36.Ok prog := mkCxH_ok trivial trivial
@[reducible] def p36_0 : Pat := Pat.mk [(1, hL), (2, .c (.ptr 0 0)), (6, hI), (19, hL), (20, hI), (21, hI)] [(0, .cells [.hole tI, .hole tI, .hole tI, .hole (.list (.prod .str tI)), .hole (.list (.prod tI (.prod tI (.prod tI tI))))] false)] [.slot 2] []
@[reducible] def x36_0 : Outs := [(.exit 0, Pat.mk [(1, hL), (2, .c (.ptr 0 0)), (6, hI)] [(0, .cells [.hole tI, .hole tI, .hole tI, .hole (.list (.prod .str tI)), .hole (.list (.prod tI (.prod tI (.prod tI tI))))] false)] [.slot 2] [])]
noncomputable def b36_0 : D prog 153 none 0 := dO [] (pick (kd prog f36) [(0, false)]) 0
noncomputable def g36_0 : List Int × Int × List Int × Int × Int × Int × Int × Int × (List (ByteArray × Int)) × (List (Int × Int × Int × Int)) × Unit → Tr0 ((List Int × Int × List Int × Int × Int × Int × Int × Int × (List (ByteArray × Int)) × (List (Int × Int × Int × Int)) × Unit) ⊕ ((List Int × Int × Int × Int × Int × (List (ByteArray × Int)) × (List (Int × Int × Int × Int)) × Unit))) := fun (v1, v6, v19, v20, v21, c0_0, c0_1, c0_2, c0_3, c0_4, _) =>
 .br (decide (v21 < v20)) (
 .nb v21 (((v19).length : Nat) : Int) <|
 .br (decide ((0 : Int) < ((v19).getD (Int.toNat v21) (0 : Int)))) (
 .nb v21 (((c0_3).length : Nat) : Int) <|
 .ni (v6 + ((c0_3).getD (Int.toNat v21) ((bs []), (0 : Int))).2) <|
 .ni (v21 + (1 : Int)) <|
 .ret (.inl (v1, ((v6 + ((c0_3).getD (Int.toNat v21) ((bs []), (0 : Int))).2), (v19, (v20, ((v21 + (1 : Int)), (c0_0, (c0_1, (c0_2, (c0_3, (c0_4, ())))))))))))) (
 .ni (v21 + (1 : Int)) <|
 .ret (.inl (v1, (v6, (v19, (v20, ((v21 + (1 : Int)), (c0_0, (c0_1, (c0_2, (c0_3, (c0_4, ()))))))))))))) (
 .ret (.inr (v1, (v6, (c0_0, (c0_1, (c0_2, (c0_3, (c0_4, ())))))))))
theorem s36_0 : ∀ x, roundE (kzO (p36_0.T ⊕ x36_0.T)) cx36 ar0 [] p36_0 x36_0 (b36_0) (fun y => some (.inl y)) (fun b => some (.inr b)) x = run0 (g36_0 x) := fun x => by kernel_rfl
noncomputable def L36_0 : LoopS prog 153 none 0 := mkLoop mixed cx36 cx36_ok [] rfl p36_0 x36_0 rfl (b36_0) (fun x => run0 (g36_0 x)) (s36_0)
@[reducible] def p36_2 : Pat := Pat.mk [(1, hL), (2, .c (.ptr 0 0)), (6, hI), (9, hI), (10, hI), (11, hI), (12, .c (.hole .bool)), (49, hL), (50, hI), (51, hI)] [(0, .cells [.hole tI, .hole tI, .hole tI, .hole (.list (.prod .str tI)), .hole (.list (.prod tI (.prod tI (.prod tI tI))))] false)] [.slot 2] []
@[reducible] def x36_2 : Outs := [(.exit 4, Pat.mk [(1, hL), (2, .c (.ptr 0 0)), (6, hI), (9, hI), (10, hI), (11, hI), (12, .c (.hole .bool))] [(0, .cells [.hole tI, .hole tI, .hole tI, .hole (.list (.prod .str tI)), .hole (.list (.prod tI (.prod tI (.prod tI tI))))] false)] [.slot 2] [])]
noncomputable def b36_2 : D prog 153 none 0 := dO [] (pick (kd prog f36) [(1, false), (0, false)]) 0
noncomputable def g36_2 : List Int × Int × Int × Int × Int × Bool × List Int × Int × Int × Int × Int × Int × (List (ByteArray × Int)) × (List (Int × Int × Int × Int)) × Unit → Tr0 ((List Int × Int × Int × Int × Int × Bool × List Int × Int × Int × Int × Int × Int × (List (ByteArray × Int)) × (List (Int × Int × Int × Int)) × Unit) ⊕ ((List Int × Int × Int × Int × Int × Bool × Int × Int × Int × (List (ByteArray × Int)) × (List (Int × Int × Int × Int)) × Unit))) := fun (v1, v6, v9, v10, v11, v12, v49, v50, v51, c0_0, c0_1, c0_2, c0_3, c0_4, _) =>
 .br (decide (v51 < v50)) (
 .nb v51 (((v49).length : Nat) : Int) <|
 .nb v51 (64 : Int) <|
 .br ((ar0.bits Go.AM.IBin.and Go.IntKind.i64 (ar0.shr v9 v51) (1 : Int)) == (1 : Int)) (
 .nb v51 (((c0_3).length : Nat) : Int) <|
 .ni (v10 - ((c0_3).getD (Int.toNat v51) ((bs []), (0 : Int))).2) <|
 .br v12 (
 .ni (v51 + (1 : Int)) <|
 .ret (.inl (v1, (v6, (v9, ((v10 - ((c0_3).getD (Int.toNat v51) ((bs []), (0 : Int))).2), (v11, ((decide ((0 : Int) < ((v49).getD (Int.toNat v51) (0 : Int)))), (v49, (v50, ((v51 + (1 : Int)), (c0_0, (c0_1, (c0_2, (c0_3, (c0_4, ())))))))))))))))) (
 .ni (v51 + (1 : Int)) <|
 .ret (.inl (v1, (v6, (v9, ((v10 - ((c0_3).getD (Int.toNat v51) ((bs []), (0 : Int))).2), (v11, (false, (v49, (v50, ((v51 + (1 : Int)), (c0_0, (c0_1, (c0_2, (c0_3, (c0_4, ()))))))))))))))))) (
 .ni (v11 + ((v49).getD (Int.toNat v51) (0 : Int))) <|
 .ni (v51 + (1 : Int)) <|
 .ret (.inl (v1, (v6, (v9, (v10, ((v11 + ((v49).getD (Int.toNat v51) (0 : Int))), (v12, (v49, (v50, ((v51 + (1 : Int)), (c0_0, (c0_1, (c0_2, (c0_3, (c0_4, ()))))))))))))))))) (
 .ret (.inr (v1, (v6, (v9, (v10, (v11, (v12, (c0_0, (c0_1, (c0_2, (c0_3, (c0_4, ())))))))))))))
theorem s36_2 : ∀ x, roundE (kzO (p36_2.T ⊕ x36_2.T)) cx36 ar0 [] p36_2 x36_2 (b36_2) (fun y => some (.inl y)) (fun b => some (.inr b)) x = run0 (g36_2 x) := fun x => by kernel_rfl
noncomputable def L36_2 : LoopS prog 153 none 0 := mkLoop mixed cx36 cx36_ok [] rfl p36_2 x36_2 rfl (b36_2) (fun x => run0 (g36_2 x)) (s36_2)
@[reducible] def p36_3 : Pat := Pat.mk [(1, hL), (2, .c (.ptr 0 0)), (4, .c (.sl0 1 tI)), (5, hI), (6, hI), (9, hI), (12, .c (.hole .bool)), (15, hI), (81, .c (.hole .bool)), (82, .c (.hole .bool)), (85, hI), (86, .c (.hole .bool)), (87, .c (.hole .bool)), (90, .c (.hole .bool)), (97, hL), (98, hI), (99, hI)] [(0, .cells [.hole tI, .hole tI, .hole tI, .hole (.list (.prod .str tI)), .hole (.list (.prod tI (.prod tI (.prod tI tI))))] false), (1, .arr tI false)] [.slot 2, .slot 4] []
@[reducible] def x36_3 : Outs := [(.exit 6, Pat.mk [(1, hL), (2, .c (.ptr 0 0)), (4, .c (.sl0 1 tI)), (5, hI), (6, hI), (9, hI), (12, .c (.hole .bool)), (81, .c (.hole .bool)), (82, .c (.hole .bool)), (85, hI), (86, .c (.hole .bool)), (87, .c (.hole .bool)), (90, .c (.hole .bool))] [(0, .cells [.hole tI, .hole tI, .hole tI, .hole (.list (.prod .str tI)), .hole (.list (.prod tI (.prod tI (.prod tI tI))))] false), (1, .arr tI false)] [.slot 2, .slot 4] [])]
noncomputable def b36_3 : D prog 153 none 0 := dO [] (pick (kd prog f36) [(1, false), (1, false)]) 0
noncomputable def g36_3 : List Int × Nat × Int × Int × Int × Bool × Int × Bool × Bool × Int × Bool × Bool × Bool × List Int × Int × Int × Int × Int × Int × (List (ByteArray × Int)) × (List (Int × Int × Int × Int)) × List Int × Unit → Tr0 ((List Int × Nat × Int × Int × Int × Bool × Int × Bool × Bool × Int × Bool × Bool × Bool × List Int × Int × Int × Int × Int × Int × (List (ByteArray × Int)) × (List (Int × Int × Int × Int)) × List Int × Unit) ⊕ ((List Int × Nat × Int × Int × Int × Bool × Bool × Bool × Int × Bool × Bool × Bool × Int × Int × Int × (List (ByteArray × Int)) × (List (Int × Int × Int × Int)) × List Int × Unit))) := fun (v1, nv4, v5, v6, v9, v12, v15, v81, v82, v85, v86, v87, v90, v97, v98, v99, c0_0, c0_1, c0_2, c0_3, c0_4, b1, _) =>
 .br (decide (v99 < v98)) (
 .nb v99 (((v97).length : Nat) : Int) <|
 .nb v99 (((c0_3).length : Nat) : Int) <|
 .ni (((c0_3).getD (Int.toNat v99) ((bs []), (0 : Int))).2 * v5) <|
 .nb v99 (64 : Int) <|
 .br ((ar0.bits Go.AM.IBin.and Go.IntKind.i64 (ar0.shr v9 v99) (1 : Int)) == (1 : Int)) (
 .br v12 (
 .ni (v15 * ((v97).getD (Int.toNat v99) (0 : Int))) <|
 .nd (decide ((nv4 + ((((((((c0_3).getD (Int.toNat v99) ((bs []), (0 : Int))).2 * v5) :: [])).drop (0 : Nat)).take (1 : Nat))).length) < bigL)) <|
 .ni (v99 + (1 : Int)) <|
 .ret (.inl (v1, ((nv4 + ((((((((c0_3).getD (Int.toNat v99) ((bs []), (0 : Int))).2 * v5) :: [])).drop (0 : Nat)).take (1 : Nat))).length), (v5, (v6, (v9, ((decide ((((c0_3).getD (Int.toNat v99) ((bs []), (0 : Int))).2 * v5) ≤ (v15 * ((v97).getD (Int.toNat v99) (0 : Int))))), (v15, (v81, (v82, (v85, (v86, (v87, (v90, (v97, (v98, ((v99 + (1 : Int)), (c0_0, (c0_1, (c0_2, (c0_3, (c0_4, (((((b1).drop (0 : Nat)).take nv4) ++ (((((((c0_3).getD (Int.toNat v99) ((bs []), (0 : Int))).2 * v5) :: [])).drop (0 : Nat)).take (1 : Nat))), ())))))))))))))))))))))))) (
 .nd (decide ((nv4 + ((((((((c0_3).getD (Int.toNat v99) ((bs []), (0 : Int))).2 * v5) :: [])).drop (0 : Nat)).take (1 : Nat))).length) < bigL)) <|
 .ni (v99 + (1 : Int)) <|
 .ret (.inl (v1, ((nv4 + ((((((((c0_3).getD (Int.toNat v99) ((bs []), (0 : Int))).2 * v5) :: [])).drop (0 : Nat)).take (1 : Nat))).length), (v5, (v6, (v9, (false, (v15, (v81, (v82, (v85, (v86, (v87, (v90, (v97, (v98, ((v99 + (1 : Int)), (c0_0, (c0_1, (c0_2, (c0_3, (c0_4, (((((b1).drop (0 : Nat)).take nv4) ++ (((((((c0_3).getD (Int.toNat v99) ((bs []), (0 : Int))).2 * v5) :: [])).drop (0 : Nat)).take (1 : Nat))), ()))))))))))))))))))))))))) (
 .br v12 (
 .ni (v15 * ((v97).getD (Int.toNat v99) (0 : Int))) <|
 .ni (v15 * ((v97).getD (Int.toNat v99) (0 : Int))) <|
 .nd (decide ((nv4 + ((((((v15 * ((v97).getD (Int.toNat v99) (0 : Int))) :: [])).drop (0 : Nat)).take (1 : Nat))).length) < bigL)) <|
 .ni (v99 + (1 : Int)) <|
 .ret (.inl (v1, ((nv4 + ((((((v15 * ((v97).getD (Int.toNat v99) (0 : Int))) :: [])).drop (0 : Nat)).take (1 : Nat))).length), (v5, (v6, (v9, ((decide ((v15 * ((v97).getD (Int.toNat v99) (0 : Int))) ≤ (((c0_3).getD (Int.toNat v99) ((bs []), (0 : Int))).2 * v5))), (v15, (v81, (v82, (v85, (v86, (v87, (v90, (v97, (v98, ((v99 + (1 : Int)), (c0_0, (c0_1, (c0_2, (c0_3, (c0_4, (((((b1).drop (0 : Nat)).take nv4) ++ (((((v15 * ((v97).getD (Int.toNat v99) (0 : Int))) :: [])).drop (0 : Nat)).take (1 : Nat))), ())))))))))))))))))))))))) (
 .ni (v15 * ((v97).getD (Int.toNat v99) (0 : Int))) <|
 .nd (decide ((nv4 + ((((((v15 * ((v97).getD (Int.toNat v99) (0 : Int))) :: [])).drop (0 : Nat)).take (1 : Nat))).length) < bigL)) <|
 .ni (v99 + (1 : Int)) <|
 .ret (.inl (v1, ((nv4 + ((((((v15 * ((v97).getD (Int.toNat v99) (0 : Int))) :: [])).drop (0 : Nat)).take (1 : Nat))).length), (v5, (v6, (v9, (false, (v15, (v81, (v82, (v85, (v86, (v87, (v90, (v97, (v98, ((v99 + (1 : Int)), (c0_0, (c0_1, (c0_2, (c0_3, (c0_4, (((((b1).drop (0 : Nat)).take nv4) ++ (((((v15 * ((v97).getD (Int.toNat v99) (0 : Int))) :: [])).drop (0 : Nat)).take (1 : Nat))), ())))))))))))))))))))))))))) (
 .ret (.inr (v1, (nv4, (v5, (v6, (v9, (v12, (v81, (v82, (v85, (v86, (v87, (v90, (c0_0, (c0_1, (c0_2, (c0_3, (c0_4, (b1, ()))))))))))))))))))))
theorem s36_3 : ∀ x, roundE (kzO (p36_3.T ⊕ x36_3.T)) cx36 ar0 [] p36_3 x36_3 (b36_3) (fun y => some (.inl y)) (fun b => some (.inr b)) x = run0 (g36_3 x) := fun x => by kernel_rfl
noncomputable def L36_3 : LoopS prog 153 none 0 := mkLoop mixed cx36 cx36_ok [] rfl p36_3 x36_3 rfl (b36_3) (fun x => run0 (g36_3 x)) (s36_3)
@[reducible] def p36_1 : Pat := Pat.mk [(1, hL), (2, .c (.ptr 0 0)), (6, hI), (9, hI)] [(0, .cells [.hole tI, .hole tI, .hole tI, .hole (.list (.prod .str tI)), .hole (.list (.prod tI (.prod tI (.prod tI tI))))] false)] [.slot 2] []
@[reducible] def x36_1 : Outs := [(.ret, Pat.mk [(4, .c (.sl0 0 tI)), (5, hI), (6, hI)] [(0, .arr tI false)] [.slot 4] []), (.exit 2, Pat.mk [(1, hL), (6, hI)] [] [] [])]
noncomputable def b36_1 : D prog 153 none 0 := dO [.l L36_2, .l L36_3] (pick (kd prog f36) [(1, false)]) 0
noncomputable def g36_1 : List Int × Int × Int × Int × Int × Int × (List (ByteArray × Int)) × (List (Int × Int × Int × Int)) × Unit → Tr0 ((List Int × Int × Int × Int × Int × Int × (List (ByteArray × Int)) × (List (Int × Int × Int × Int)) × Unit) ⊕ ((Nat × Int × Int × List Int × Unit) ⊕ ((List Int × Int × Unit)))) := fun (v1, v6, v9, c0_0, c0_1, c0_2, c0_3, c0_4, _) =>
 .nb (((v1).length : Nat) : Int) (64 : Int) <|
 .ni (ar0.shl (1 : Int) (((v1).length : Nat) : Int)) <|
 .br (decide (v9 < (ar0.shl (1 : Int) (((v1).length : Nat) : Int)))) (
 .bd (.it g36_2 (v1, (v6, (v9, (v6, ((0 : Int), (true, (v1, ((((v1).length : Nat) : Int), ((0 : Int), (c0_0, (c0_1, (c0_2, (c0_3, (c0_4, ()))))))))))))))) fun z1 =>
 .br (decide (z1.2.2.2.1 < (0 : Int))) (
 .ni (z1.2.2.1 + (1 : Int)) <|
 .ret (.inl (z1.1, (z1.2.1, ((z1.2.2.1 + (1 : Int)), (z1.2.2.2.2.2.2.1, (z1.2.2.2.2.2.2.2.1, (z1.2.2.2.2.2.2.2.2.1, (z1.2.2.2.2.2.2.2.2.2.1, (z1.2.2.2.2.2.2.2.2.2.2.1, ())))))))))) (
 .br (!z1.2.2.2.2.2.1) (
 .ni (z1.2.2.1 + (1 : Int)) <|
 .ret (.inl (z1.1, (z1.2.1, ((z1.2.2.1 + (1 : Int)), (z1.2.2.2.2.2.2.1, (z1.2.2.2.2.2.2.2.1, (z1.2.2.2.2.2.2.2.2.1, (z1.2.2.2.2.2.2.2.2.2.1, (z1.2.2.2.2.2.2.2.2.2.2.1, ())))))))))) (
 .br (decide ((0 : Int) < z1.2.2.2.1)) (
 .br (z1.2.2.2.2.1 == (0 : Int)) (
 .ni (z1.2.2.1 + (1 : Int)) <|
 .ret (.inl (z1.1, (z1.2.1, ((z1.2.2.1 + (1 : Int)), (z1.2.2.2.2.2.2.1, (z1.2.2.2.2.2.2.2.1, (z1.2.2.2.2.2.2.2.2.1, (z1.2.2.2.2.2.2.2.2.2.1, (z1.2.2.2.2.2.2.2.2.2.2.1, ())))))))))) (
 .jx (
 .br (z1.2.2.2.2.1 == (0 : Int)) (
 .ret (.inl (z1.1, ((imax (1 : Int) z1.2.2.2.2.1), (z1.2.1, (z1.2.2.1, (z1.2.2.2.2.2.1, ((1000000000 : Int), (z1.2.2.2.2.2.1, ((!z1.2.2.2.2.2.1), (z1.2.2.2.1, ((decide ((0 : Int) < z1.2.2.2.1)), (z1.2.2.2.2.1, ((z1.2.2.2.2.1 == (0 : Int)), ((z1.2.2.2.2.1 == (0 : Int)), (z1.2.2.2.2.2.2.1, (z1.2.2.2.2.2.2.2.1, (z1.2.2.2.2.2.2.2.2.1, (z1.2.2.2.2.2.2.2.2.2.1, (z1.2.2.2.2.2.2.2.2.2.2.1, ())))))))))))))))))))) (
 .ret (.inl (z1.1, ((imax (1 : Int) z1.2.2.2.2.1), (z1.2.1, (z1.2.2.1, (z1.2.2.2.2.2.1, (z1.2.2.2.1, (z1.2.2.2.2.2.1, ((!z1.2.2.2.2.2.1), (z1.2.2.2.1, ((decide ((0 : Int) < z1.2.2.2.1)), (z1.2.2.2.2.1, ((z1.2.2.2.2.1 == (0 : Int)), ((z1.2.2.2.2.1 == (0 : Int)), (z1.2.2.2.2.2.2.1, (z1.2.2.2.2.2.2.2.1, (z1.2.2.2.2.2.2.2.2.1, (z1.2.2.2.2.2.2.2.2.2.1, (z1.2.2.2.2.2.2.2.2.2.2.1, ()))))))))))))))))))))) fun j2 =>
 .bd (.it g36_3 (j2.1, ((0 : Nat), (j2.2.1, (j2.2.2.1, (j2.2.2.2.1, (j2.2.2.2.2.1, (j2.2.2.2.2.2.1, (j2.2.2.2.2.2.2.1, (j2.2.2.2.2.2.2.2.1, (j2.2.2.2.2.2.2.2.2.1, (j2.2.2.2.2.2.2.2.2.2.1, (true, (j2.2.2.2.2.2.2.2.2.2.2.2.2.1, (j2.1, ((((j2.1).length : Nat) : Int), ((0 : Int), (j2.2.2.2.2.2.2.2.2.2.2.2.2.2.1, (j2.2.2.2.2.2.2.2.2.2.2.2.2.2.2.1, (j2.2.2.2.2.2.2.2.2.2.2.2.2.2.2.2.1, (j2.2.2.2.2.2.2.2.2.2.2.2.2.2.2.2.2.1, (j2.2.2.2.2.2.2.2.2.2.2.2.2.2.2.2.2.2.1, ([], ()))))))))))))))))))))))) fun z3 =>
 .br z3.2.2.2.2.2.1 (
 .ret (.inr <| .inl <| (z3.2.1, (z3.2.2.1, (z3.2.2.2.1, (z3.2.2.2.2.2.2.2.2.2.2.2.2.2.2.2.2.2.1, ())))))) (
 .ni (z3.2.2.2.2.1 + (1 : Int)) <|
 .ret (.inl (z3.1, (z3.2.2.2.1, ((z3.2.2.2.2.1 + (1 : Int)), (z3.2.2.2.2.2.2.2.2.2.2.2.2.1, (z3.2.2.2.2.2.2.2.2.2.2.2.2.2.1, (z3.2.2.2.2.2.2.2.2.2.2.2.2.2.2.1, (z3.2.2.2.2.2.2.2.2.2.2.2.2.2.2.2.1, (z3.2.2.2.2.2.2.2.2.2.2.2.2.2.2.2.2.1, ())))))))))))) (
 .jx (
 .br (z1.2.2.2.2.1 == (0 : Int)) (
 .ret (.inl (z1.1, ((imax (1 : Int) z1.2.2.2.2.1), (z1.2.1, (z1.2.2.1, (z1.2.2.2.2.2.1, ((1000000000 : Int), (z1.2.2.2.2.2.1, ((!z1.2.2.2.2.2.1), (z1.2.2.2.1, ((decide ((0 : Int) < z1.2.2.2.1)), (z1.2.2.2.2.2.2.1, (z1.2.2.2.2.2.2.2.1, (z1.2.2.2.2.2.2.2.2.1, (z1.2.2.2.2.2.2.2.2.2.1, (z1.2.2.2.2.2.2.2.2.2.2.1, ()))))))))))))))))) (
 .ret (.inl (z1.1, ((imax (1 : Int) z1.2.2.2.2.1), (z1.2.1, (z1.2.2.1, (z1.2.2.2.2.2.1, (z1.2.2.2.1, (z1.2.2.2.2.2.1, ((!z1.2.2.2.2.2.1), (z1.2.2.2.1, ((decide ((0 : Int) < z1.2.2.2.1)), (z1.2.2.2.2.2.2.1, (z1.2.2.2.2.2.2.2.1, (z1.2.2.2.2.2.2.2.2.1, (z1.2.2.2.2.2.2.2.2.2.1, (z1.2.2.2.2.2.2.2.2.2.2.1, ())))))))))))))))))) fun j4 =>
 .bd (.it g36_3 (j4.1, ((0 : Nat), (j4.2.1, (j4.2.2.1, (j4.2.2.2.1, (j4.2.2.2.2.1, (j4.2.2.2.2.2.1, (j4.2.2.2.2.2.2.1, (j4.2.2.2.2.2.2.2.1, (j4.2.2.2.2.2.2.2.2.1, (j4.2.2.2.2.2.2.2.2.2.1, (false, (false, (j4.1, ((((j4.1).length : Nat) : Int), ((0 : Int), (j4.2.2.2.2.2.2.2.2.2.2.1, (j4.2.2.2.2.2.2.2.2.2.2.2.1, (j4.2.2.2.2.2.2.2.2.2.2.2.2.1, (j4.2.2.2.2.2.2.2.2.2.2.2.2.2.1, (j4.2.2.2.2.2.2.2.2.2.2.2.2.2.2.1, ([], ()))))))))))))))))))))))) fun z5 =>
 .br z5.2.2.2.2.2.1 (
 .ret (.inr <| .inl <| (z5.2.1, (z5.2.2.1, (z5.2.2.2.1, (z5.2.2.2.2.2.2.2.2.2.2.2.2.2.2.2.2.2.1, ())))))) (
 .ni (z5.2.2.2.2.1 + (1 : Int)) <|
 .ret (.inl (z5.1, (z5.2.2.2.1, ((z5.2.2.2.2.1 + (1 : Int)), (z5.2.2.2.2.2.2.2.2.2.2.2.2.1, (z5.2.2.2.2.2.2.2.2.2.2.2.2.2.1, (z5.2.2.2.2.2.2.2.2.2.2.2.2.2.2.1, (z5.2.2.2.2.2.2.2.2.2.2.2.2.2.2.2.1, (z5.2.2.2.2.2.2.2.2.2.2.2.2.2.2.2.2.1, ())))))))))))))) (
 .ret (.inr <| .inr <| (v1, (v6, ()))))
theorem s36_1 : ∀ x, roundE (kzO (p36_1.T ⊕ x36_1.T)) cx36 ar0 [] p36_1 x36_1 (b36_1) (fun y => some (.inl y)) (fun b => some (.inr b)) x = run0 (g36_1 x) := fun x => Eq.trans (b := run0 (flat (g36_1 x))) (by kernel_rfl) run_flat
noncomputable def L36_1 : LoopS prog 153 none 0 := mkLoop mixed cx36 cx36_ok [] rfl p36_1 x36_1 rfl (b36_1) (fun x => run0 (g36_1 x)) (s36_1)
noncomputable def dd36 : D prog 153 none 0 := dO [.l L36_0, .l L36_1] (kd prog f36) 0
noncomputable def F36 (a0 : Int × Int × Int × (List (ByteArray × Int)) × List (Int × Int × Int × Int)) (a1 : List Int) : Tr0 (List Int × Int × Int × Unit) :=
 .bd (.it g36_0 (a1, ((0 : Int), (a1, ((((a1).length : Nat) : Int), ((0 : Int), (a0.1, (a0.2.1, (a0.2.2.1, (a0.2.2.2.1, (a0.2.2.2.2, ()))))))))))) fun z0 =>
 .bd (.it g36_1 (z0.1, ((imin z0.2.1 z0.2.2.1), ((0 : Int), (z0.2.2.1, (z0.2.2.2.1, (z0.2.2.2.2.1, (z0.2.2.2.2.2.1, (z0.2.2.2.2.2.2.1, ()))))))))) fun z6 =>
 .sm z6 (fun z7 =>
 .ret ((((z7.2.2.2.1).drop (0 : Nat)).take z7.1), (z7.2.1, (z7.2.2.1, ())))) fun z8 =>
 .nb (((z8.1).length : Nat) : Int) ((bigL : Nat) : Int) <|
 .ret (((((List.replicate (Int.toNat (((z8.1).length : Nat) : Int)) (0 : Int))).drop (0 : Nat)).take (Int.toNat (((z8.1).length : Nat) : Int))), ((1 : Int), (z8.2.1, ())))
theorem c36_ok : trF prog f36 = some ⟨153, 2, dd36.er, [.t 4, .t 5, .t 6], [some tL, some tI, some tI]⟩ := by kernel_rfl
noncomputable def ct36 : Ct := ⟨36, [.c (.hole (.prod tI (.prod tI (.prod tI (.prod (.list (.prod .str tI)) (.list (.prod tI (.prod tI (.prod tI tI))))))))), hL], .tup [.hole tL, .hole tI, .hole tI], fun x => run0 (F36 x.1 x.2.1)⟩
theorem ct36_ok : ct36.Ok prog := ct_ok mixed cx36_ok func36 c36_ok (enters_of func36 rfl rfl) dd36 (by kernel_rfl) rfl (fun x => by kernel_rfl)

/- 37 -/
noncomputable def cx37 : Cx := mkCxH [] []
theorem cx37_ok : cx37.Ok prog := mkCxH_ok trivial trivial
@[reducible] def p37_0 : Pat := Pat.mk [(1, .c (.hole (.list (.int .u8)))), (2, .c (.ptr 0 0)), (5, .c (.sl0 1 (.prod tI tI))), (12, hI), (13, hI)] [(0, .cells [.hole tI, .hole tI, .hole tI, .hole (.list (.prod .str tI)), .hole (.list (.prod tI (.prod tI (.prod tI tI))))] false), (1, .arr (.prod tI tI) false)] [.slot 2, .slot 5] []
@[reducible] def x37_0 : Outs := [(.exit 0, Pat.mk [(5, .c (.sl0 0 (.prod tI tI)))] [(0, .arr (.prod tI tI) false)] [.slot 5] [])]
noncomputable def b37_0 : D prog 65 none 0 := dO [] (pick (kd prog f37) [(0, false)]) 0
noncomputable def g37_0 : List Int × Nat × Int × Int × Int × Int × Int × (List (ByteArray × Int)) × (List (Int × Int × Int × Int)) × (List (Int × Int)) × Unit → Tr0 ((List Int × Nat × Int × Int × Int × Int × Int × (List (ByteArray × Int)) × (List (Int × Int × Int × Int)) × (List (Int × Int)) × Unit) ⊕ ((Nat × (List (Int × Int)) × Unit))) := fun (v1, nv5, v12, v13, c0_0, c0_1, c0_2, c0_3, c0_4, b1, _) =>
 .br (decide (v13 < v12)) (
 .jx (
 .br (decide ((0 : Int) < (((v1).length : Nat) : Int))) (
 .ni ((2 : Int) * v13) <|
 .nd (!((((v1).length : Nat) : Int) == (0 : Int))) <|
 .nb (Int.tmod ((2 : Int) * v13) (((v1).length : Nat) : Int)) (((v1).length : Nat) : Int) <|
 .ni ((v1).getD (Int.toNat (Int.tmod ((2 : Int) * v13) (((v1).length : Nat) : Int))) (0 : Int)) <|
 .ni ((2 : Int) * v13) <|
 .ni (((2 : Int) * v13) + (1 : Int)) <|
 .nd (!((((v1).length : Nat) : Int) == (0 : Int))) <|
 .nb (Int.tmod (((2 : Int) * v13) + (1 : Int)) (((v1).length : Nat) : Int)) (((v1).length : Nat) : Int) <|
 .ni ((v1).getD (Int.toNat (Int.tmod (((2 : Int) * v13) + (1 : Int)) (((v1).length : Nat) : Int))) (0 : Int)) <|
 .ni ((4 : Int) * c0_1) <|
 .ni (((4 : Int) * c0_1) + (1 : Int)) <|
 .nd (!((((4 : Int) * c0_1) + (1 : Int)) == (0 : Int))) <|
 .ni ((2 : Int) * c0_1) <|
 .ni ((Int.tmod ((v1).getD (Int.toNat (Int.tmod ((2 : Int) * v13) (((v1).length : Nat) : Int))) (0 : Int)) (((4 : Int) * c0_1) + (1 : Int))) - ((2 : Int) * c0_1)) <|
 .ni ((2 : Int) * c0_2) <|
 .ni (((2 : Int) * c0_2) + (1 : Int)) <|
 .nd (!((((2 : Int) * c0_2) + (1 : Int)) == (0 : Int))) <|
 .ni ((Int.tmod ((v1).getD (Int.toNat (Int.tmod (((2 : Int) * v13) + (1 : Int)) (((v1).length : Nat) : Int))) (0 : Int)) (((2 : Int) * c0_2) + (1 : Int))) - c0_2) <|
 .ret (.inl (v1, (nv5, (v12, (v13, (c0_0, (c0_1, (c0_2, (c0_3, (c0_4, (b1, ((((Int.tmod ((v1).getD (Int.toNat (Int.tmod ((2 : Int) * v13) (((v1).length : Nat) : Int))) (0 : Int)) (((4 : Int) * c0_1) + (1 : Int))) - ((2 : Int) * c0_1)) :: (((Int.tmod ((v1).getD (Int.toNat (Int.tmod (((2 : Int) * v13) + (1 : Int)) (((v1).length : Nat) : Int))) (0 : Int)) (((2 : Int) * c0_2) + (1 : Int))) - c0_2) :: [])), ()))))))))))))) (
 .ret (.inl (v1, (nv5, (v12, (v13, (c0_0, (c0_1, (c0_2, (c0_3, (c0_4, (b1, (((0 : Int) :: ((0 : Int) :: [])), ())))))))))))))) fun j0 =>
 .nd (decide ((j0.2.1 + ((((((((j0.2.2.2.2.2.2.2.2.2.2.1).getD (0 : Nat) (0 : Int)), ((j0.2.2.2.2.2.2.2.2.2.2.1).getD (1 : Nat) (0 : Int))) :: [])).drop (0 : Nat)).take (1 : Nat))).length) < bigL)) <|
 .ni (j0.2.2.2.1 + (1 : Int)) <|
 .ret (.inl (j0.1, ((j0.2.1 + ((((((((j0.2.2.2.2.2.2.2.2.2.2.1).getD (0 : Nat) (0 : Int)), ((j0.2.2.2.2.2.2.2.2.2.2.1).getD (1 : Nat) (0 : Int))) :: [])).drop (0 : Nat)).take (1 : Nat))).length), (j0.2.2.1, ((j0.2.2.2.1 + (1 : Int)), (j0.2.2.2.2.1, (j0.2.2.2.2.2.1, (j0.2.2.2.2.2.2.1, (j0.2.2.2.2.2.2.2.1, (j0.2.2.2.2.2.2.2.2.1, (((((j0.2.2.2.2.2.2.2.2.2.1).drop (0 : Nat)).take j0.2.1) ++ (((((((j0.2.2.2.2.2.2.2.2.2.2.1).getD (0 : Nat) (0 : Int)), ((j0.2.2.2.2.2.2.2.2.2.2.1).getD (1 : Nat) (0 : Int))) :: [])).drop (0 : Nat)).take (1 : Nat))), ())))))))))))) (
 .ret (.inr (nv5, (b1, ()))))
theorem s37_0 : ∀ x, roundE (kzO (p37_0.T ⊕ x37_0.T)) cx37 ar0 [] p37_0 x37_0 (b37_0) (fun y => some (.inl y)) (fun b => some (.inr b)) x = run0 (g37_0 x) := fun x => Eq.trans (b := run0 (flat (g37_0 x))) (by kernel_rfl) run_flat
noncomputable def L37_0 : LoopS prog 65 none 0 := mkLoop mixed cx37 cx37_ok [] rfl p37_0 x37_0 rfl (b37_0) (fun x => run0 (g37_0 x)) (s37_0)
noncomputable def dd37 : D prog 65 none 0 := dO [.l L37_0] (kd prog f37) 0
noncomputable def F37 (a0 : Int × Int × Int × (List (ByteArray × Int)) × List (Int × Int × Int × Int)) (a1 : List Int) : Tr0 ((List (Int × Int)) × Unit) :=
 .bd (.it g37_0 (a1, ((0 : Nat), ((((a0.2.2.2.2).length : Nat) : Int), ((0 : Int), (a0.1, (a0.2.1, (a0.2.2.1, (a0.2.2.2.1, (a0.2.2.2.2, ([], ()))))))))))) fun z1 =>
 .ret ((((z1.2.1).drop (0 : Nat)).take z1.1), ())
theorem c37_ok : trF prog f37 = some ⟨65, 2, dd37.er, [.t 4], [some (.list (.prod tI tI))]⟩ := by kernel_rfl
noncomputable def ct37 : Ct := ⟨37, [.c (.hole (.prod tI (.prod tI (.prod tI (.prod (.list (.prod .str tI)) (.list (.prod tI (.prod tI (.prod tI tI))))))))), .c (.hole (.list (.int .u8)))], .c (.hole (.list (.prod tI tI))), fun x => run0 (F37 x.1 x.2.1)⟩
theorem ct37_ok : ct37.Ok prog := ct_ok mixed cx37_ok func37 c37_ok (enters_of func37 rfl rfl) dd37 (by kernel_rfl) rfl (fun x => by kernel_rfl)

/- 9 -/
noncomputable def cx9 : Cx := mkCxH [ct34, ct17, ct30, ct26, ct37, ct35, ct36, ct16] []
theorem cx9_ok : cx9.Ok prog := mkCxH_ok ⟨ct34_ok, ct17_ok, ct30_ok, ct26_ok, ct37_ok, ct35_ok, ct36_ok, ct16_ok, trivial⟩ trivial
@[reducible] def p9_1 : Pat := Pat.mk [(5, .c (.pa 0 (.int .u8) 2)), (7, .c (.ptr 1 0)), (9, .c (.hole (.list (.prod tI tI)))), (11, .c (.hole (.list (.prod tI tI)))), (13, hL), (15, hL), (16, hL), (17, hI), (19, hI), (20, .c (.sl0 2 (.prod tI tI))), (21, .c (.sl0 3 (.prod tI tI))), (99, hI), (100, hI), (114, hL), (115, hI), (117, hI), (118, .c (.hole (.list (.prod tI tI)))), (119, hI), (122, hI), (123, .c (.hole .bool)), (126, hL), (127, hI), (129, hI), (130, .c (.hole (.list (.prod tI tI)))), (131, hI), (134, hI), (135, hI), (136, hI), (137, .c (.hole .bool)), (140, hL), (141, hI), (143, hI), (144, .c (.hole (.list (.prod tI tI)))), (145, hI), (148, hI), (149, hI), (150, hI), (151, .c (.hole .bool)), (154, hL), (155, hI), (157, hI), (158, .c (.hole (.list (.prod tI tI)))), (159, hI), (162, hI), (163, .c (.hole .bool)), (166, hL), (167, hI), (169, hI), (170, .c (.hole (.list (.prod tI tI)))), (171, hI), (174, hI), (175, .c (.hole .bool)), (178, .c (.hole (.list (.prod tI (.prod tI (.prod tI tI)))))), (179, hI), (180, hI)] [(0, .arr (.int .u8) false), (1, .cells [.hole tI, .hole tI, .hole tI, .hole (.list (.prod .str tI)), .hole (.list (.prod tI (.prod tI (.prod tI tI))))] false), (2, .arr (.prod tI tI) false), (3, .arr (.prod tI tI) false)] [.slot 5, .slot 7, .slot 20, .slot 21] []
@[reducible] def x9_1 : Outs := [(.exit 2, Pat.mk [(5, .c (.pa 0 (.int .u8) 2)), (7, .c (.ptr 1 0)), (9, .c (.hole (.list (.prod tI tI)))), (11, .c (.hole (.list (.prod tI tI)))), (13, hL), (15, hL), (16, hL), (17, hI), (19, hI), (20, .c (.sl0 2 (.prod tI tI))), (21, .c (.sl0 3 (.prod tI tI))), (99, hI), (100, hI), (114, hL), (115, hI), (117, hI), (118, .c (.hole (.list (.prod tI tI)))), (119, hI), (122, hI), (123, .c (.hole .bool)), (126, hL), (127, hI), (129, hI), (130, .c (.hole (.list (.prod tI tI)))), (131, hI), (134, hI), (135, hI), (136, hI), (137, .c (.hole .bool)), (140, hL), (141, hI), (143, hI), (144, .c (.hole (.list (.prod tI tI)))), (145, hI), (148, hI), (149, hI), (150, hI), (151, .c (.hole .bool)), (154, hL), (155, hI), (157, hI), (158, .c (.hole (.list (.prod tI tI)))), (159, hI), (162, hI), (163, .c (.hole .bool)), (166, hL), (167, hI), (169, hI), (170, .c (.hole (.list (.prod tI tI)))), (171, hI), (174, hI), (175, .c (.hole .bool))] [(0, .arr (.int .u8) false), (1, .cells [.hole tI, .hole tI, .hole tI, .hole (.list (.prod .str tI)), .hole (.list (.prod tI (.prod tI (.prod tI tI))))] false), (2, .arr (.prod tI tI) false), (3, .arr (.prod tI tI) false)] [.slot 5, .slot 7, .slot 20, .slot 21] [])]
noncomputable def b9_1 : D prog 356 none 0 := dO [] (pick (kd prog f9) [(0, false), (0, false)]) 0
noncomputable def g9_1 : (List (Int × Int)) × (List (Int × Int)) × List Int × List Int × List Int × Int × Int × Nat × Nat × Int × Int × List Int × Int × Int × (List (Int × Int)) × Int × Int × Bool × List Int × Int × Int × (List (Int × Int)) × Int × Int × Int × Int × Bool × List Int × Int × Int × (List (Int × Int)) × Int × Int × Int × Int × Bool × List Int × Int × Int × (List (Int × Int)) × Int × Int × Bool × List Int × Int × Int × (List (Int × Int)) × Int × Int × Bool × (List (Int × Int × Int × Int)) × Int × Int × List Int × Int × Int × Int × (List (ByteArray × Int)) × (List (Int × Int × Int × Int)) × (List (Int × Int)) × (List (Int × Int)) × Unit → Tr0 (((List (Int × Int)) × (List (Int × Int)) × List Int × List Int × List Int × Int × Int × Nat × Nat × Int × Int × List Int × Int × Int × (List (Int × Int)) × Int × Int × Bool × List Int × Int × Int × (List (Int × Int)) × Int × Int × Int × Int × Bool × List Int × Int × Int × (List (Int × Int)) × Int × Int × Int × Int × Bool × List Int × Int × Int × (List (Int × Int)) × Int × Int × Bool × List Int × Int × Int × (List (Int × Int)) × Int × Int × Bool × (List (Int × Int × Int × Int)) × Int × Int × List Int × Int × Int × Int × (List (ByteArray × Int)) × (List (Int × Int × Int × Int)) × (List (Int × Int)) × (List (Int × Int)) × Unit) ⊕ (((List (Int × Int)) × (List (Int × Int)) × List Int × List Int × List Int × Int × Int × Nat × Nat × Int × Int × List Int × Int × Int × (List (Int × Int)) × Int × Int × Bool × List Int × Int × Int × (List (Int × Int)) × Int × Int × Int × Int × Bool × List Int × Int × Int × (List (Int × Int)) × Int × Int × Int × Int × Bool × List Int × Int × Int × (List (Int × Int)) × Int × Int × Bool × List Int × Int × Int × (List (Int × Int)) × Int × Int × Bool × List Int × Int × Int × Int × (List (ByteArray × Int)) × (List (Int × Int × Int × Int)) × (List (Int × Int)) × (List (Int × Int)) × Unit))) := fun (v9, v11, v13, v15, v16, v17, v19, nv20, nv21, v99, v100, v114, v115, v117, v118, v119, v122, v123, v126, v127, v129, v130, v131, v134, v135, v136, v137, v140, v141, v143, v144, v145, v148, v149, v150, v151, v154, v155, v157, v158, v159, v162, v163, v166, v167, v169, v170, v171, v174, v175, v178, v179, v180, b0, c1_0, c1_1, c1_2, c1_3, c1_4, b2, b3, _) =>
 .br (decide (v180 < v179)) (
 .nb v180 (((v178).length : Nat) : Int) <|
 .ni ((-2 : Int) * c1_1) <|
 .ni ((0 : Int) - c1_2) <|
 .ni ((2 : Int) * c1_1) <|
 .br (((v178).getD (Int.toNat v180) ((0 : Int), ((0 : Int), ((0 : Int), (0 : Int))))).1 == v19) (
 .nd (decide ((nv20 + (((((((((((-2 : Int) * c1_1) :: (((0 : Int) - c1_2) :: []))).getD (0 : Nat) (0 : Int)), (((((-2 : Int) * c1_1) :: (((0 : Int) - c1_2) :: []))).getD (1 : Nat) (0 : Int))) :: [])).drop (0 : Nat)).take (1 : Nat))).length) < bigL)) <|
 .nd (decide ((nv21 + (((((((((((2 : Int) * c1_1) :: (c1_2 :: []))).getD (0 : Nat) (0 : Int)), (((((2 : Int) * c1_1) :: (c1_2 :: []))).getD (1 : Nat) (0 : Int))) :: [])).drop (0 : Nat)).take (1 : Nat))).length) < bigL)) <|
 .ni (v180 + (1 : Int)) <|
 .ret (.inl (v9, (v11, (v13, (v15, (v16, (v17, (v19, ((nv20 + (((((((((((-2 : Int) * c1_1) :: (((0 : Int) - c1_2) :: []))).getD (0 : Nat) (0 : Int)), (((((-2 : Int) * c1_1) :: (((0 : Int) - c1_2) :: []))).getD (1 : Nat) (0 : Int))) :: [])).drop (0 : Nat)).take (1 : Nat))).length), ((nv21 + (((((((((((2 : Int) * c1_1) :: (c1_2 :: []))).getD (0 : Nat) (0 : Int)), (((((2 : Int) * c1_1) :: (c1_2 :: []))).getD (1 : Nat) (0 : Int))) :: [])).drop (0 : Nat)).take (1 : Nat))).length), (v99, (v100, (v114, (v115, (v117, (v118, (v119, (v122, (v123, (v126, (v127, (v129, (v130, (v131, (v134, (v135, (v136, (v137, (v140, (v141, (v143, (v144, (v145, (v148, (v149, (v150, (v151, (v154, (v155, (v157, (v158, (v159, (v162, (v163, (v166, (v167, (v169, (v170, (v171, (v174, (v175, (v178, (v179, ((v180 + (1 : Int)), (b0, (c1_0, (c1_1, (c1_2, (c1_3, (c1_4, (((((b2).drop (0 : Nat)).take nv20) ++ ((((((((((-2 : Int) * c1_1) :: (((0 : Int) - c1_2) :: []))).getD (0 : Nat) (0 : Int)), (((((-2 : Int) * c1_1) :: (((0 : Int) - c1_2) :: []))).getD (1 : Nat) (0 : Int))) :: [])).drop (0 : Nat)).take (1 : Nat))), (((((b3).drop (0 : Nat)).take nv21) ++ ((((((((((2 : Int) * c1_1) :: (c1_2 :: []))).getD (0 : Nat) (0 : Int)), (((((2 : Int) * c1_1) :: (c1_2 :: []))).getD (1 : Nat) (0 : Int))) :: [])).drop (0 : Nat)).take (1 : Nat))), ()))))))))))))))))))))))))))))))))))))))))))))))))))))))))))))))) (
 .nd (decide ((nv20 + (((((((((((2 : Int) * c1_1) :: (c1_2 :: []))).getD (0 : Nat) (0 : Int)), (((((2 : Int) * c1_1) :: (c1_2 :: []))).getD (1 : Nat) (0 : Int))) :: [])).drop (0 : Nat)).take (1 : Nat))).length) < bigL)) <|
 .nd (decide ((nv21 + (((((((((((-2 : Int) * c1_1) :: (((0 : Int) - c1_2) :: []))).getD (0 : Nat) (0 : Int)), (((((-2 : Int) * c1_1) :: (((0 : Int) - c1_2) :: []))).getD (1 : Nat) (0 : Int))) :: [])).drop (0 : Nat)).take (1 : Nat))).length) < bigL)) <|
 .ni (v180 + (1 : Int)) <|
 .ret (.inl (v9, (v11, (v13, (v15, (v16, (v17, (v19, ((nv20 + (((((((((((2 : Int) * c1_1) :: (c1_2 :: []))).getD (0 : Nat) (0 : Int)), (((((2 : Int) * c1_1) :: (c1_2 :: []))).getD (1 : Nat) (0 : Int))) :: [])).drop (0 : Nat)).take (1 : Nat))).length), ((nv21 + (((((((((((-2 : Int) * c1_1) :: (((0 : Int) - c1_2) :: []))).getD (0 : Nat) (0 : Int)), (((((-2 : Int) * c1_1) :: (((0 : Int) - c1_2) :: []))).getD (1 : Nat) (0 : Int))) :: [])).drop (0 : Nat)).take (1 : Nat))).length), (v99, (v100, (v114, (v115, (v117, (v118, (v119, (v122, (v123, (v126, (v127, (v129, (v130, (v131, (v134, (v135, (v136, (v137, (v140, (v141, (v143, (v144, (v145, (v148, (v149, (v150, (v151, (v154, (v155, (v157, (v158, (v159, (v162, (v163, (v166, (v167, (v169, (v170, (v171, (v174, (v175, (v178, (v179, ((v180 + (1 : Int)), (b0, (c1_0, (c1_1, (c1_2, (c1_3, (c1_4, (((((b2).drop (0 : Nat)).take nv20) ++ ((((((((((2 : Int) * c1_1) :: (c1_2 :: []))).getD (0 : Nat) (0 : Int)), (((((2 : Int) * c1_1) :: (c1_2 :: []))).getD (1 : Nat) (0 : Int))) :: [])).drop (0 : Nat)).take (1 : Nat))), (((((b3).drop (0 : Nat)).take nv21) ++ ((((((((((-2 : Int) * c1_1) :: (((0 : Int) - c1_2) :: []))).getD (0 : Nat) (0 : Int)), (((((-2 : Int) * c1_1) :: (((0 : Int) - c1_2) :: []))).getD (1 : Nat) (0 : Int))) :: [])).drop (0 : Nat)).take (1 : Nat))), ())))))))))))))))))))))))))))))))))))))))))))))))))))))))))))))))) (
 .ret (.inr (v9, (v11, (v13, (v15, (v16, (v17, (v19, (nv20, (nv21, (v99, (v100, (v114, (v115, (v117, (v118, (v119, (v122, (v123, (v126, (v127, (v129, (v130, (v131, (v134, (v135, (v136, (v137, (v140, (v141, (v143, (v144, (v145, (v148, (v149, (v150, (v151, (v154, (v155, (v157, (v158, (v159, (v162, (v163, (v166, (v167, (v169, (v170, (v171, (v174, (v175, (b0, (c1_0, (c1_1, (c1_2, (c1_3, (c1_4, (b2, (b3, ()))))))))))))))))))))))))))))))))))))))))))))))))))))))))))))
theorem s9_1 : ∀ x, roundE (kzO (p9_1.T ⊕ x9_1.T)) cx9 ar0 [] p9_1 x9_1 (b9_1) (fun y => some (.inl y)) (fun b => some (.inr b)) x = run0 (g9_1 x) := fun x => by kernel_rfl
noncomputable def L9_1 : LoopS prog 356 none 0 := mkLoop mixed cx9 cx9_ok [] rfl p9_1 x9_1 rfl (b9_1) (fun x => run0 (g9_1 x)) (s9_1)
@[reducible] def p9_0 : Pat := Pat.mk [(5, .c (.pa 0 (.int .u8) 2)), (7, .c (.ptr 1 0)), (9, .c (.hole (.list (.prod tI tI)))), (11, .c (.hole (.list (.prod tI tI)))), (13, hL), (15, hL), (16, hL), (17, hI), (99, hI), (100, hI)] [(0, .arr (.int .u8) false), (1, .cells [.hole tI, .hole tI, .hole tI, .hole (.list (.prod .str tI)), .hole (.list (.prod tI (.prod tI (.prod tI tI))))] false)] [.slot 5, .slot 7] []
@[reducible] def x9_0 : Outs := [(.ret, Pat.mk [(6, .c (.tf false))] [] [] []), (.exit 0, Pat.mk [(5, .c (.pa 0 (.int .u8) 2)), (7, .c (.ptr 1 0)), (11, .c (.hole (.list (.prod tI tI))))] [(0, .arr (.int .u8) false), (1, .cells [.hole tI, .hole tI, .hole tI, .hole (.list (.prod .str tI)), .hole (.list (.prod tI (.prod tI (.prod tI tI))))] false)] [.slot 5, .slot 7] [])]
noncomputable def b9_0 : D prog 356 none 0 := dO [.l L9_1] (pick (kd prog f9) [(0, false)]) 0
noncomputable def g9_0 : (List (Int × Int)) × (List (Int × Int)) × List Int × List Int × List Int × Int × Int × Int × List Int × Int × Int × Int × (List (ByteArray × Int)) × (List (Int × Int × Int × Int)) × Unit → Tr0 (((List (Int × Int)) × (List (Int × Int)) × List Int × List Int × List Int × Int × Int × Int × List Int × Int × Int × Int × (List (ByteArray × Int)) × (List (Int × Int × Int × Int)) × Unit) ⊕ ((Unit) ⊕ (((List (Int × Int)) × List Int × Int × Int × Int × (List (ByteArray × Int)) × (List (Int × Int × Int × Int)) × Unit)))) := fun (v9, v11, v13, v15, v16, v17, v99, v100, b0, c1_0, c1_1, c1_2, c1_3, c1_4, _) =>
 .br (decide (v100 < v99)) (
 .nb v100 (((v15).length : Nat) : Int) <|
 .nb v100 (((v9).length : Nat) : Int) <|
 .br (decide (((v15).getD (Int.toNat v100) (0 : Int)) < ((v9).getD (Int.toNat v100) ((0 : Int), (0 : Int))).1)) (
 .ret (.inr <| .inl <| ())) (
 .nb v100 (((v15).length : Nat) : Int) <|
 .nb v100 (((v9).length : Nat) : Int) <|
 .br (decide (((v9).getD (Int.toNat v100) ((0 : Int), (0 : Int))).2 < ((v15).getD (Int.toNat v100) (0 : Int)))) (
 .ret (.inr <| .inl <| ())) (
 .nb v100 (((v16).length : Nat) : Int) <|
 .nb v100 (((v11).length : Nat) : Int) <|
 .ni (((v11).getD (Int.toNat v100) ((0 : Int), (0 : Int))).1 * v17) <|
 .br (decide (((v16).getD (Int.toNat v100) (0 : Int)) < (((v11).getD (Int.toNat v100) ((0 : Int), (0 : Int))).1 * v17))) (
 .ret (.inr <| .inl <| ())) (
 .nb v100 (((v16).length : Nat) : Int) <|
 .nb v100 (((v11).length : Nat) : Int) <|
 .ni (((v11).getD (Int.toNat v100) ((0 : Int), (0 : Int))).2 * v17) <|
 .br (decide ((((v11).getD (Int.toNat v100) ((0 : Int), (0 : Int))).2 * v17) < ((v16).getD (Int.toNat v100) (0 : Int)))) (
 .ret (.inr <| .inl <| ())) (
 .nb v100 (((v13).length : Nat) : Int) <|
 .nb v100 (((v11).length : Nat) : Int) <|
 .br (decide (((v13).getD (Int.toNat v100) (0 : Int)) < ((v11).getD (Int.toNat v100) ((0 : Int), (0 : Int))).1)) (
 .ret (.inr <| .inl <| ())) (
 .nb v100 (((v13).length : Nat) : Int) <|
 .nb v100 (((v11).length : Nat) : Int) <|
 .br (decide (((v11).getD (Int.toNat v100) ((0 : Int), (0 : Int))).2 < ((v13).getD (Int.toNat v100) (0 : Int)))) (
 .ret (.inr <| .inl <| ())) (
 .bd (.it g9_1 (v9, (v11, (v13, (v15, (v16, (v17, (v100, ((0 : Nat), ((0 : Nat), (v99, (v100, (v15, (v100, (((v15).getD (Int.toNat v100) (0 : Int)), (v9, (v100, (((v9).getD (Int.toNat v100) ((0 : Int), (0 : Int))).2, ((decide (((v9).getD (Int.toNat v100) ((0 : Int), (0 : Int))).2 < ((v15).getD (Int.toNat v100) (0 : Int)))), (v16, (v100, (((v16).getD (Int.toNat v100) (0 : Int)), (v11, (v100, (((v11).getD (Int.toNat v100) ((0 : Int), (0 : Int))).1, (v17, ((((v11).getD (Int.toNat v100) ((0 : Int), (0 : Int))).1 * v17), ((decide (((v16).getD (Int.toNat v100) (0 : Int)) < (((v11).getD (Int.toNat v100) ((0 : Int), (0 : Int))).1 * v17))), (v16, (v100, (((v16).getD (Int.toNat v100) (0 : Int)), (v11, (v100, (((v11).getD (Int.toNat v100) ((0 : Int), (0 : Int))).2, (v17, ((((v11).getD (Int.toNat v100) ((0 : Int), (0 : Int))).2 * v17), ((decide ((((v11).getD (Int.toNat v100) ((0 : Int), (0 : Int))).2 * v17) < ((v16).getD (Int.toNat v100) (0 : Int)))), (v13, (v100, (((v13).getD (Int.toNat v100) (0 : Int)), (v11, (v100, (((v11).getD (Int.toNat v100) ((0 : Int), (0 : Int))).1, ((decide (((v13).getD (Int.toNat v100) (0 : Int)) < ((v11).getD (Int.toNat v100) ((0 : Int), (0 : Int))).1)), (v13, (v100, (((v13).getD (Int.toNat v100) (0 : Int)), (v11, (v100, (((v11).getD (Int.toNat v100) ((0 : Int), (0 : Int))).2, ((decide (((v11).getD (Int.toNat v100) ((0 : Int), (0 : Int))).2 < ((v13).getD (Int.toNat v100) (0 : Int)))), (c1_4, ((((c1_4).length : Nat) : Int), ((0 : Int), (b0, (c1_0, (c1_1, (c1_2, (c1_3, (c1_4, ([], ([], ())))))))))))))))))))))))))))))))))))))))))))))))))))))))))))))) fun z7 =>
 .bd (F35 (z7.2.2.2.2.2.2.2.2.2.2.2.2.2.2.2.2.2.2.2.2.2.2.2.2.2.2.2.2.2.2.2.2.2.2.2.2.2.2.2.2.2.2.2.2.2.2.2.2.2.2.2.1, (z7.2.2.2.2.2.2.2.2.2.2.2.2.2.2.2.2.2.2.2.2.2.2.2.2.2.2.2.2.2.2.2.2.2.2.2.2.2.2.2.2.2.2.2.2.2.2.2.2.2.2.2.2.1, (z7.2.2.2.2.2.2.2.2.2.2.2.2.2.2.2.2.2.2.2.2.2.2.2.2.2.2.2.2.2.2.2.2.2.2.2.2.2.2.2.2.2.2.2.2.2.2.2.2.2.2.2.2.2.1, (z7.2.2.2.2.2.2.2.2.2.2.2.2.2.2.2.2.2.2.2.2.2.2.2.2.2.2.2.2.2.2.2.2.2.2.2.2.2.2.2.2.2.2.2.2.2.2.2.2.2.2.2.2.2.2.1, z7.2.2.2.2.2.2.2.2.2.2.2.2.2.2.2.2.2.2.2.2.2.2.2.2.2.2.2.2.2.2.2.2.2.2.2.2.2.2.2.2.2.2.2.2.2.2.2.2.2.2.2.2.2.2.2.1)))) (((z7.2.2.2.2.2.2.2.2.2.2.2.2.2.2.2.2.2.2.2.2.2.2.2.2.2.2.2.2.2.2.2.2.2.2.2.2.2.2.2.2.2.2.2.2.2.2.2.2.2.2.2.2.2.2.2.2.1).drop (0 : Nat)).take z7.2.2.2.2.2.2.2.1)) fun y8 =>
 .bd (F35 (z7.2.2.2.2.2.2.2.2.2.2.2.2.2.2.2.2.2.2.2.2.2.2.2.2.2.2.2.2.2.2.2.2.2.2.2.2.2.2.2.2.2.2.2.2.2.2.2.2.2.2.2.1, (z7.2.2.2.2.2.2.2.2.2.2.2.2.2.2.2.2.2.2.2.2.2.2.2.2.2.2.2.2.2.2.2.2.2.2.2.2.2.2.2.2.2.2.2.2.2.2.2.2.2.2.2.2.1, (z7.2.2.2.2.2.2.2.2.2.2.2.2.2.2.2.2.2.2.2.2.2.2.2.2.2.2.2.2.2.2.2.2.2.2.2.2.2.2.2.2.2.2.2.2.2.2.2.2.2.2.2.2.2.1, (z7.2.2.2.2.2.2.2.2.2.2.2.2.2.2.2.2.2.2.2.2.2.2.2.2.2.2.2.2.2.2.2.2.2.2.2.2.2.2.2.2.2.2.2.2.2.2.2.2.2.2.2.2.2.2.1, z7.2.2.2.2.2.2.2.2.2.2.2.2.2.2.2.2.2.2.2.2.2.2.2.2.2.2.2.2.2.2.2.2.2.2.2.2.2.2.2.2.2.2.2.2.2.2.2.2.2.2.2.2.2.2.2.1)))) (((z7.2.2.2.2.2.2.2.2.2.2.2.2.2.2.2.2.2.2.2.2.2.2.2.2.2.2.2.2.2.2.2.2.2.2.2.2.2.2.2.2.2.2.2.2.2.2.2.2.2.2.2.2.2.2.2.2.2.1).drop (0 : Nat)).take z7.2.2.2.2.2.2.2.2.1)) fun y9 =>
 .nb z7.2.2.2.2.2.2.1 (((y8.1).length : Nat) : Int) <|
 .nb z7.2.2.2.2.2.2.1 (((z7.1).length : Nat) : Int) <|
 .br (!(((y8.1).getD (Int.toNat z7.2.2.2.2.2.2.1) (0 : Int)) == ((z7.1).getD (Int.toNat z7.2.2.2.2.2.2.1) ((0 : Int), (0 : Int))).1)) (
 .ret (.inr <| .inl <| ())) (
 .nb z7.2.2.2.2.2.2.1 (((y9.1).length : Nat) : Int) <|
 .nb z7.2.2.2.2.2.2.1 (((z7.1).length : Nat) : Int) <|
 .br (!(((y9.1).getD (Int.toNat z7.2.2.2.2.2.2.1) (0 : Int)) == ((z7.1).getD (Int.toNat z7.2.2.2.2.2.2.1) ((0 : Int), (0 : Int))).2)) (
 .ret (.inr <| .inl <| ())) (
 .bd (F36 (z7.2.2.2.2.2.2.2.2.2.2.2.2.2.2.2.2.2.2.2.2.2.2.2.2.2.2.2.2.2.2.2.2.2.2.2.2.2.2.2.2.2.2.2.2.2.2.2.2.2.2.2.1, (z7.2.2.2.2.2.2.2.2.2.2.2.2.2.2.2.2.2.2.2.2.2.2.2.2.2.2.2.2.2.2.2.2.2.2.2.2.2.2.2.2.2.2.2.2.2.2.2.2.2.2.2.2.1, (z7.2.2.2.2.2.2.2.2.2.2.2.2.2.2.2.2.2.2.2.2.2.2.2.2.2.2.2.2.2.2.2.2.2.2.2.2.2.2.2.2.2.2.2.2.2.2.2.2.2.2.2.2.2.1, (z7.2.2.2.2.2.2.2.2.2.2.2.2.2.2.2.2.2.2.2.2.2.2.2.2.2.2.2.2.2.2.2.2.2.2.2.2.2.2.2.2.2.2.2.2.2.2.2.2.2.2.2.2.2.2.1, z7.2.2.2.2.2.2.2.2.2.2.2.2.2.2.2.2.2.2.2.2.2.2.2.2.2.2.2.2.2.2.2.2.2.2.2.2.2.2.2.2.2.2.2.2.2.2.2.2.2.2.2.2.2.2.2.1)))) y8.1) fun y10 =>
 .nb z7.2.2.2.2.2.2.1 (((y10.1).length : Nat) : Int) <|
 .nd (!(y10.2.1 == (0 : Int))) <|
 .ni (Int.tdiv ((y10.1).getD (Int.toNat z7.2.2.2.2.2.2.1) (0 : Int)) y10.2.1) <|
 .nb z7.2.2.2.2.2.2.1 (((z7.2.1).length : Nat) : Int) <|
 .br (!((Int.tdiv ((y10.1).getD (Int.toNat z7.2.2.2.2.2.2.1) (0 : Int)) y10.2.1) == ((z7.2.1).getD (Int.toNat z7.2.2.2.2.2.2.1) ((0 : Int), (0 : Int))).1)) (
 .ret (.inr <| .inl <| ())) (
 .bd (F36 (z7.2.2.2.2.2.2.2.2.2.2.2.2.2.2.2.2.2.2.2.2.2.2.2.2.2.2.2.2.2.2.2.2.2.2.2.2.2.2.2.2.2.2.2.2.2.2.2.2.2.2.2.1, (z7.2.2.2.2.2.2.2.2.2.2.2.2.2.2.2.2.2.2.2.2.2.2.2.2.2.2.2.2.2.2.2.2.2.2.2.2.2.2.2.2.2.2.2.2.2.2.2.2.2.2.2.2.1, (z7.2.2.2.2.2.2.2.2.2.2.2.2.2.2.2.2.2.2.2.2.2.2.2.2.2.2.2.2.2.2.2.2.2.2.2.2.2.2.2.2.2.2.2.2.2.2.2.2.2.2.2.2.2.1, (z7.2.2.2.2.2.2.2.2.2.2.2.2.2.2.2.2.2.2.2.2.2.2.2.2.2.2.2.2.2.2.2.2.2.2.2.2.2.2.2.2.2.2.2.2.2.2.2.2.2.2.2.2.2.2.1, z7.2.2.2.2.2.2.2.2.2.2.2.2.2.2.2.2.2.2.2.2.2.2.2.2.2.2.2.2.2.2.2.2.2.2.2.2.2.2.2.2.2.2.2.2.2.2.2.2.2.2.2.2.2.2.2.1)))) y9.1) fun y11 =>
 .nb z7.2.2.2.2.2.2.1 (((y11.1).length : Nat) : Int) <|
 .ni (((y11.1).getD (Int.toNat z7.2.2.2.2.2.2.1) (0 : Int)) + y11.2.1) <|
 .ni ((((y11.1).getD (Int.toNat z7.2.2.2.2.2.2.1) (0 : Int)) + y11.2.1) - (1 : Int)) <|
 .nd (!(y11.2.1 == (0 : Int))) <|
 .ni (Int.tdiv ((((y11.1).getD (Int.toNat z7.2.2.2.2.2.2.1) (0 : Int)) + y11.2.1) - (1 : Int)) y11.2.1) <|
 .nb z7.2.2.2.2.2.2.1 (((z7.2.1).length : Nat) : Int) <|
 .br (!((Int.tdiv ((((y11.1).getD (Int.toNat z7.2.2.2.2.2.2.1) (0 : Int)) + y11.2.1) - (1 : Int)) y11.2.1) == ((z7.2.1).getD (Int.toNat z7.2.2.2.2.2.2.1) ((0 : Int), (0 : Int))).2)) (
 .ret (.inr <| .inl <| ())) (
 .ni (z7.2.2.2.2.2.2.2.2.2.2.1 + (1 : Int)) <|
 .ret (.inl (z7.1, (z7.2.1, (z7.2.2.1, (z7.2.2.2.1, (z7.2.2.2.2.1, (z7.2.2.2.2.2.1, (z7.2.2.2.2.2.2.2.2.2.1, ((z7.2.2.2.2.2.2.2.2.2.2.1 + (1 : Int)), (z7.2.2.2.2.2.2.2.2.2.2.2.2.2.2.2.2.2.2.2.2.2.2.2.2.2.2.2.2.2.2.2.2.2.2.2.2.2.2.2.2.2.2.2.2.2.2.2.2.2.2.1, (z7.2.2.2.2.2.2.2.2.2.2.2.2.2.2.2.2.2.2.2.2.2.2.2.2.2.2.2.2.2.2.2.2.2.2.2.2.2.2.2.2.2.2.2.2.2.2.2.2.2.2.2.1, (z7.2.2.2.2.2.2.2.2.2.2.2.2.2.2.2.2.2.2.2.2.2.2.2.2.2.2.2.2.2.2.2.2.2.2.2.2.2.2.2.2.2.2.2.2.2.2.2.2.2.2.2.2.1, (z7.2.2.2.2.2.2.2.2.2.2.2.2.2.2.2.2.2.2.2.2.2.2.2.2.2.2.2.2.2.2.2.2.2.2.2.2.2.2.2.2.2.2.2.2.2.2.2.2.2.2.2.2.2.1, (z7.2.2.2.2.2.2.2.2.2.2.2.2.2.2.2.2.2.2.2.2.2.2.2.2.2.2.2.2.2.2.2.2.2.2.2.2.2.2.2.2.2.2.2.2.2.2.2.2.2.2.2.2.2.2.1, (z7.2.2.2.2.2.2.2.2.2.2.2.2.2.2.2.2.2.2.2.2.2.2.2.2.2.2.2.2.2.2.2.2.2.2.2.2.2.2.2.2.2.2.2.2.2.2.2.2.2.2.2.2.2.2.2.1, ())))))))))))))))))))))))))) (
 .ret (.inr <| .inr <| (v11, (b0, (c1_0, (c1_1, (c1_2, (c1_3, (c1_4, ())))))))))
theorem s9_0 : ∀ x, roundE (kzO (p9_0.T ⊕ x9_0.T)) cx9 ar0 [] p9_0 x9_0 (b9_0) (fun y => some (.inl y)) (fun b => some (.inr b)) x = run0 (g9_0 x) := fun x => by kernel_rfl
noncomputable def L9_0 : LoopS prog 356 none 0 := mkLoop mixed cx9 cx9_ok [] rfl p9_0 x9_0 rfl (b9_0) (fun x => run0 (g9_0 x)) (s9_0)
@[reducible] def p9_2 : Pat := Pat.mk [(11, .c (.hole (.list (.prod tI tI)))), (32, .c (.hole (.list (.prod tI tI)))), (326, hI), (327, hI)] [] [] []
@[reducible] def x9_2 : Outs := [(.ret, Pat.mk [(6, .c (.tf false))] [] [] []), (.exit 4, Pat.mk [] [] [] [])]
noncomputable def b9_2 : D prog 356 none 0 := dO [] (pick (kd prog f9) [(1, false)]) 0
noncomputable def g9_2 : (List (Int × Int)) × (List (Int × Int)) × Int × Int × Unit → Tr0 (((List (Int × Int)) × (List (Int × Int)) × Int × Int × Unit) ⊕ ((Unit) ⊕ ((Unit)))) := fun (v11, v32, v326, v327, _) =>
 .br (decide (v327 < v326)) (
 .nb v327 (((v32).length : Nat) : Int) <|
 .nb v327 (((v11).length : Nat) : Int) <|
 .br (decide (((v32).getD (Int.toNat v327) ((0 : Int), (0 : Int))).1 < ((v11).getD (Int.toNat v327) ((0 : Int), (0 : Int))).1)) (
 .ret (.inr <| .inl <| ())) (
 .nb v327 (((v32).length : Nat) : Int) <|
 .nb v327 (((v11).length : Nat) : Int) <|
 .br (decide (((v11).getD (Int.toNat v327) ((0 : Int), (0 : Int))).2 < ((v32).getD (Int.toNat v327) ((0 : Int), (0 : Int))).2)) (
 .ret (.inr <| .inl <| ())) (
 .ni (v327 + (1 : Int)) <|
 .ret (.inl (v11, (v32, (v326, ((v327 + (1 : Int)), ())))))))) (
 .ret (.inr <| .inr <| ()))
theorem s9_2 : ∀ x, roundE (kzO (p9_2.T ⊕ x9_2.T)) cx9 ar0 [] p9_2 x9_2 (b9_2) (fun y => some (.inl y)) (fun b => some (.inr b)) x = run0 (g9_2 x) := fun x => by kernel_rfl
noncomputable def L9_2 : LoopS prog 356 none 0 := mkLoop mixed cx9 cx9_ok [] rfl p9_2 x9_2 rfl (b9_2) (fun x => run0 (g9_2 x)) (s9_2)
noncomputable def dd9 : D prog 356 none 0 := dO [.l L9_0, .l L9_2] (kd prog f9) 0
noncomputable def F9 (a0 : Int × Int × Int × (List Int) × List (Int × Int × Int × Int)) (a1 : List Int) (a2 : Int × Int) : Tr0 (Bool × Unit) :=
 .bd (F34 (a0.1, (a0.2.1, (a0.2.2.1, (a0.2.2.2.1, a0.2.2.2.2))))) fun y0 =>
 .bd (F17 (y0.1.1, (y0.1.2.1, (y0.1.2.2.1, (y0.1.2.2.2.1, y0.1.2.2.2.2))))) fun y1 =>
 .bd (F30 (y0.1.1, (y0.1.2.1, (y0.1.2.2.1, (y0.1.2.2.2.1, y0.1.2.2.2.2))))) fun y2 =>
 .bd (F26 (y0.1.1, (y0.1.2.1, (y0.1.2.2.1, (y0.1.2.2.2.1, y0.1.2.2.2.2))))) fun y3 =>
 .br (!(y1.2.2.1 == (0 : Int))) (
 .ret (false, ())) (
 .br (!(y2.2.1 == (0 : Int))) (
 .ret (false, ())) (
 .br (!(y3.2.1 == (0 : Int))) (
 .ret (false, ())) (
 .br (!((((y1.2.1).length : Nat) : Int) == (((y0.1.2.2.2.1).length : Nat) : Int))) (
 .ret (false, ())) (
 .br (!((((y2.1).length : Nat) : Int) == (((y0.1.2.2.2.1).length : Nat) : Int))) (
 .ret (false, ())) (
 .br (!((((y3.1).length : Nat) : Int) == (((y0.1.2.2.2.1).length : Nat) : Int))) (
 .ret (false, ())) (
 .bd (F37 (y0.1.1, (y0.1.2.1, (y0.1.2.2.1, (y0.1.2.2.2.1, y0.1.2.2.2.2)))) a1) fun y4 =>
 .bd (F35 (y0.1.1, (y0.1.2.1, (y0.1.2.2.1, (y0.1.2.2.2.1, y0.1.2.2.2.2)))) y4.1) fun y5 =>
 .bd (F36 (y0.1.1, (y0.1.2.1, (y0.1.2.2.1, (y0.1.2.2.2.1, y0.1.2.2.2.2)))) y5.1) fun y6 =>
 .bd (.it g9_0 (y1.2.1, (y2.1, (y3.1, (y5.1, (y6.1, (y6.2.1, ((((y2.1).length : Nat) : Int), ((0 : Int), ((a2.1 :: (a2.2 :: [])), (y0.1.1, (y0.1.2.1, (y0.1.2.2.1, (y0.1.2.2.2.1, (y0.1.2.2.2.2, ()))))))))))))))) fun z12 =>
 .sm z12 (fun z13 =>
 .ret (false, ())) fun z14 =>
 .nd (decide ((0 : Nat) < (z14.2.1).length)) <|
 .ni ((z14.2.1).getD (0 : Nat) (0 : Int)) <|
 .ni (z14.2.2.2.1 + (1 : Int)) <|
 .nd (!((z14.2.2.2.1 + (1 : Int)) == (0 : Int))) <|
 .ni (z14.2.2.2.1 - (Int.tmod ((z14.2.1).getD (0 : Nat) (0 : Int)) (z14.2.2.2.1 + (1 : Int)))) <|
 .nd (decide ((1 : Nat) < (z14.2.1).length)) <|
 .ni ((z14.2.1).getD (1 : Nat) (0 : Int)) <|
 .ni (z14.2.2.2.2.1 + (1 : Int)) <|
 .nd (!((z14.2.2.2.2.1 + (1 : Int)) == (0 : Int))) <|
 .ni (z14.2.2.2.2.1 - (Int.tmod ((z14.2.1).getD (1 : Nat) (0 : Int)) (z14.2.2.2.2.1 + (1 : Int)))) <|
 .bd (F30 (z14.2.2.1, ((z14.2.2.2.1 - (Int.tmod ((z14.2.1).getD (0 : Nat) (0 : Int)) (z14.2.2.2.1 + (1 : Int)))), ((z14.2.2.2.2.1 - (Int.tmod ((z14.2.1).getD (1 : Nat) (0 : Int)) (z14.2.2.2.2.1 + (1 : Int)))), (z14.2.2.2.2.2.1, z14.2.2.2.2.2.2.1))))) fun y15 =>
 .br (!(y15.2.1 == (0 : Int))) (
 .ret (false, ())) (
 .br (!((((y15.1).length : Nat) : Int) == (((z14.1).length : Nat) : Int))) (
 .ret (false, ())) (
 .bd (.it g9_2 (z14.1, (y15.1, ((((z14.1).length : Nat) : Int), ((0 : Int), ()))))) fun z16 =>
 .sm z16 (fun z17 =>
 .ret (false, ())) fun z18 =>
 .bd (F16) fun y19 =>
 .ret (y19.1, ())))))))))
theorem c9_ok : trF prog f9 = some ⟨356, 3, dd9.er, [.t 6], [some .bool]⟩ := by kernel_rfl
noncomputable def ct9 : Ct := ⟨9, [.c (.hole (.prod (.int .u16) (.prod (.int .u8) (.prod (.int .u8) (.prod (.list (.int .u16)) (.list (.prod (.int .u8) (.prod (.int .u8) (.prod (.int .u8) (.int .u8)))))))))), .c (.hole (.list (.int .u8))), .c (.hole (.prod (.int .u8) (.int .u8)))], .c (.hole .bool), fun x => run0 (F9 x.1 x.2.1 x.2.2.1)⟩
theorem ct9_ok : ct9.Ok prog := ct_ok mixed cx9_ok func9 c9_ok (enters_of func9 rfl rfl) dd9 (by kernel_rfl) rfl (fun x => by kernel_rfl)

end Go.Proofs.Try

