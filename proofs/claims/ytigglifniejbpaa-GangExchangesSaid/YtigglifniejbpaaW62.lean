/- Functions of the program as functions of data, part 3; printed by a program of mine. -/
import Derived.Test.YtigglifniejbpaaW61
import Derived.Test.YtigglifniejbpaaProg
set_option linter.unusedVariables false
set_option linter.unusedSimpArgs false
open Go.AM
namespace Go.Proofs.Try
set_option maxRecDepth 100000


/- 57 -/
noncomputable def cx57 : Cx := mkCxH [ct51] []
theorem cx57_ok : cx57.Ok prog := mkCxH_ok ⟨ct51_ok, trivial⟩ trivial
@[reducible] def p57_2 : Pat := Pat.mk [(0, .c (.hole (.list (.list (.int .i64))))), (1, .c (.hole (.int .i64))), (6, .c (.sl0 0 (.list (.int .i64)))), (7, .c (.sl0 1 (.int .i64))), (8, .c (.hole (.int .i64))), (9, .c (.sl0 2 (.list (.int .i64)))), (10, .c (.sl0 3 (.int .i64))), (11, .c (.hole (.int .i64))), (12, .c (.hole (.int .i64)))] [(0, .arr (.list (.int .i64)) false), (1, .arr (.int .i64) false), (2, .arr (.list (.int .i64)) false), (3, .arr (.int .i64) false)] [.slot 6, .slot 7, .slot 9, .slot 10] []
@[reducible] def x57_2 : Outs := [(.exit 4, Pat.mk [(0, .c (.hole (.list (.list (.int .i64))))), (1, .c (.hole (.int .i64))), (6, .c (.sl0 0 (.list (.int .i64)))), (7, .c (.sl0 1 (.int .i64))), (8, .c (.hole (.int .i64))), (9, .c (.sl0 2 (.list (.int .i64)))), (10, .c (.sl0 3 (.int .i64))), (11, .c (.hole (.int .i64)))] [(0, .arr (.list (.int .i64)) false), (1, .arr (.int .i64) false), (2, .arr (.list (.int .i64)) false), (3, .arr (.int .i64) false)] [.slot 6, .slot 7, .slot 9, .slot 10] [])]
noncomputable def b57_2 : D prog 101 none 0 := (.seq (.seq (.reg [.op (some 40) none (.mv (.t 12)), .op (some 41) none (.mv (.t 0)), .op (some 42) none (.mv (.t 8)), .op (some 43) none (.idx 1 (.t 41) (.t 42)), .op (some 44) none (.load false 1 (.t 43)), .op (some 45) none (.len (.t 44)), .op (some 46) none (.bin .leq (.t 40) (.t 45)), .op (some 47) none (.mv (.t 46)), .op (some 48) (some (47, true)) (.mv (.t 12)), .op (some 49) (some (47, true)) (.mv (.t 11)), .op (some 50) (some (47, true)) (.bin .leq (.t 48) (.t 49)), .op (some 51) none (.pick (.t 47) (.t 50) (.c (.tf false)))]) (.cond ( .t 51) .skip (.exit 4))) (.seq (.block 5 (.seq (.draw [[], [], [], [1, 2], [0, 1, 2, 3], [0, 1, 2, 3, 4], [], [], [6, 7], [6, 7, 8], [], [6, 7, 8, 9, 10], [0, 1, 2, 3, 4, 5, 6, 7, 8, 9, 10, 11], [0, 1, 2, 3, 4, 5, 6, 7, 8, 9, 10, 11, 12]] [.op (some 54) none (.mv (.t 7)), .op (some 55) none (.mv (.t 11)), .op (some 56) none (.mv (.t 12)), .op (some 57) none (.bin .sub (.t 55) (.t 56)), .op (some 58) none (.idx 1 (.t 54) (.t 57)), .op (some 59) none (.load false 1 (.t 58)), .op (some 60) none (.mv (.t 0)), .op (some 61) none (.mv (.t 8)), .op (some 62) none (.idx 1 (.t 60) (.t 61)), .op (some 63) none (.load false 1 (.t 62)), .op (some 64) none (.mv (.t 12)), .call (some 65) none (.c (.fn 51 [] [])) [.t 63, .t 64] [some (.list (.int .i64)), some (.int .i64)], .op (some 66) none (.bin .add (.t 59) (.t 65)), .op (some 13) none (.mv (.t 66))]) (.seq (.reg [.op (some 67) none (.mv (.t 13)), .op (some 68) none (.mv (.t 10)), .op (some 69) none (.mv (.t 11)), .op (some 70) none (.idx 1 (.t 68) (.t 69)), .op (some 71) none (.load false 1 (.t 70)), .op (some 72) none (.bin .gtr (.t 67) (.t 71))]) (.cond ( .t 72) (.reg [.op (some 73) none (.mv (.t 9)), .op (some 74) none (.mv (.t 11)), .op (some 75) none (.mv (.t 10)), .op (some 76) none (.mv (.t 11)), .op (some 77) none (.bslice (.int .i64) []), .op (some 78) none (.mv (.t 6)), .op (some 79) none (.mv (.t 11)), .op (some 80) none (.mv (.t 12)), .op (some 81) none (.bin .sub (.t 79) (.t 80)), .op (some 82) none (.idx 1 (.t 78) (.t 81)), .op (some 83) none (.load false 1 (.t 82)), .op (some 84) none (.append 1 (.t 77) (.t 83)), .op (some 85) none (.mv (.t 12)), .op (some 86) none (.bslice (.int .i64) [.t 85]), .op (some 87) none (.append 1 (.t 84) (.t 86)), .op (some 88) none (.mv (.t 13)), .op (some 89) none (.idx 1 (.t 73) (.t 74)), .op none none (.store 1 (.t 89) (.t 87)), .op (some 90) none (.idx 1 (.t 75) (.t 76)), .op none none (.store 1 (.t 90) (.t 88))]) .skip)))) (.reg [.op (some 52) none (.mv (.t 12)), .op (some 53) none (.bin .add (.t 52) (.c (.int .i64 (Int.ofNat 1)))), .op (some 12) none (.mv (.t 53))])))
noncomputable def g57_2 (v0 : List (List Int)) (v1 : Int) (nv6 : Nat) (nv7 : Nat) (v8 : Int) (nv9 : Nat) (nv10 : Nat) (v11 : Int) (v12 : Int) (b0 : List (List Int)) (b1 : List Int) (b2 : List (List Int)) (b3 : List Int) : Option ((List (List Int) × Int × Nat × Nat × Int × Nat × Nat × Int × Int × List (List Int) × List Int × List (List Int) × List Int × Unit) ⊕ ((List (List Int) × Int × Nat × Nat × Int × Nat × Nat × Int × List (List Int) × List Int × List (List Int) × List Int × Unit))) :=
 need (inb v8 (((v0).length : Nat) : Int)) (
 brO (decide (v12 ≤ (((((v0).getD (Int.toNat v8) [])).length : Nat) : Int))) (
 brO (decide (v12 ≤ v11)) (
 need (rng .i64 (v11 - v12)) (
 need (inb (v11 - v12) ((nv7 : Nat) : Int)) (
 need (decide (((0 : Nat) + (Int.toNat (v11 - v12))) < (b1).length)) (
 need (inb v8 (((v0).length : Nat) : Int)) (
 bindO (F51 ((v0).getD (Int.toNat v8) []) v12) fun y0 =>
 need (rng .i64 (((b1).getD ((0 : Nat) + (Int.toNat (v11 - v12))) (0 : Int)) + y0.1)) (
 need (inb v11 ((nv10 : Nat) : Int)) (
 need (decide (((0 : Nat) + (Int.toNat v11)) < (b3).length)) (
 brO (decide (((b3).getD ((0 : Nat) + (Int.toNat v11)) (0 : Int)) < (((b1).getD ((0 : Nat) + (Int.toNat (v11 - v12))) (0 : Int)) + y0.1))) (
 need (rng .i64 (v11 - v12)) (
 need (inb (v11 - v12) ((nv6 : Nat) : Int)) (
 need (decide (((0 : Nat) + (Int.toNat (v11 - v12))) < (b0).length)) (
 need (decide (((0 : Nat) + (((b0).getD ((0 : Nat) + (Int.toNat (v11 - v12))) [])).length) < bigL)) (
 need (decide ((((0 : Nat) + (((b0).getD ((0 : Nat) + (Int.toNat (v11 - v12))) [])).length) + (((((v12 :: [])).drop (0 : Nat)).take (1 : Nat))).length) < bigL)) (
 need (inb v11 ((nv9 : Nat) : Int)) (
 need (decide (((0 : Nat) + (Int.toNat v11)) < (b2).length)) (
 need (inb v11 ((nv10 : Nat) : Int)) (
 need (decide (((0 : Nat) + (Int.toNat v11)) < (b3).length)) (
 need (rng .i64 (v12 + (1 : Int))) (
 some (.inl (v0, (v1, (nv6, (nv7, (v8, (nv9, (nv10, (v11, ((v12 + (1 : Int)), (b0, (b1, (((b2).set ((0 : Nat) + (Int.toNat v11)) ((((((((((([]).drop (0 : Nat)).take (0 : Nat)) ++ ((b0).getD ((0 : Nat) + (Int.toNat (v11 - v12))) []))).drop (0 : Nat)).take ((0 : Nat) + (((b0).getD ((0 : Nat) + (Int.toNat (v11 - v12))) [])).length)) ++ ((((v12 :: [])).drop (0 : Nat)).take (1 : Nat)))).drop (0 : Nat)).take (((0 : Nat) + (((b0).getD ((0 : Nat) + (Int.toNat (v11 - v12))) [])).length) + (((((v12 :: [])).drop (0 : Nat)).take (1 : Nat))).length))), (((b3).set ((0 : Nat) + (Int.toNat v11)) (((b1).getD ((0 : Nat) + (Int.toNat (v11 - v12))) (0 : Int)) + y0.1)), ()))))))))))))))))))))))))) (
 need (rng .i64 (v12 + (1 : Int))) (
 some (.inl (v0, (v1, (nv6, (nv7, (v8, (nv9, (nv10, (v11, ((v12 + (1 : Int)), (b0, (b1, (b2, (b3, ())))))))))))))))))))))))) (
 some (.inr (v0, (v1, (nv6, (nv7, (v8, (nv9, (nv10, (v11, (b0, (b1, (b2, (b3, ()))))))))))))))) (
 some (.inr (v0, (v1, (nv6, (nv7, (v8, (nv9, (nv10, (v11, (b0, (b1, (b2, (b3, ())))))))))))))))
theorem s57_2 : ∀ x, roundE (kzO (p57_2.T ⊕ x57_2.T)) cx57 ar0 [] p57_2 x57_2 (b57_2) (fun y => some (.inl y)) (fun b => some (.inr b)) x = g57_2 x.1 x.2.1 x.2.2.1 x.2.2.2.1 x.2.2.2.2.1 x.2.2.2.2.2.1 x.2.2.2.2.2.2.1 x.2.2.2.2.2.2.2.1 x.2.2.2.2.2.2.2.2.1 x.2.2.2.2.2.2.2.2.2.1 x.2.2.2.2.2.2.2.2.2.2.1 x.2.2.2.2.2.2.2.2.2.2.2.1 x.2.2.2.2.2.2.2.2.2.2.2.2.1 := by intro x; kernel_rfl
noncomputable def L57_2 : LoopS prog 101 none 0 := mkLoop mixed cx57 cx57_ok [] rfl p57_2 x57_2 rfl (b57_2) (fun x => g57_2 x.1 x.2.1 x.2.2.1 x.2.2.2.1 x.2.2.2.2.1 x.2.2.2.2.2.1 x.2.2.2.2.2.2.1 x.2.2.2.2.2.2.2.1 x.2.2.2.2.2.2.2.2.1 x.2.2.2.2.2.2.2.2.2.1 x.2.2.2.2.2.2.2.2.2.2.1 x.2.2.2.2.2.2.2.2.2.2.2.1 x.2.2.2.2.2.2.2.2.2.2.2.2.1) (s57_2)
@[reducible] def p57_1 : Pat := Pat.mk [(0, .c (.hole (.list (.list (.int .i64))))), (1, .c (.hole (.int .i64))), (6, .c (.sl0 0 (.list (.int .i64)))), (7, .c (.sl0 1 (.int .i64))), (8, .c (.hole (.int .i64))), (9, .c (.sl0 2 (.list (.int .i64)))), (10, .c (.sl0 3 (.int .i64))), (11, .c (.hole (.int .i64)))] [(0, .arr (.list (.int .i64)) false), (1, .arr (.int .i64) false), (2, .arr (.list (.int .i64)) false), (3, .arr (.int .i64) false)] [.slot 6, .slot 7, .slot 9, .slot 10] []
@[reducible] def x57_1 : Outs := [(.exit 2, Pat.mk [(0, .c (.hole (.list (.list (.int .i64))))), (1, .c (.hole (.int .i64))), (8, .c (.hole (.int .i64))), (9, .c (.sl0 0 (.list (.int .i64)))), (10, .c (.sl0 1 (.int .i64)))] [(0, .arr (.list (.int .i64)) false), (1, .arr (.int .i64) false)] [.slot 9, .slot 10] [])]
noncomputable def b57_1 : D prog 101 none 0 := (.seq (.seq (.reg [.op (some 32) none (.mv (.t 11)), .op (some 33) none (.mv (.t 1)), .op (some 34) none (.bin .leq (.t 32) (.t 33))]) (.cond ( .t 34) .skip (.exit 2))) (.seq (.block 3 (.seq (.reg [.op (some 37) none (.mv (.t 10)), .op (some 38) none (.mv (.t 11)), .op (some 39) none (.idx 1 (.t 37) (.t 38)), .op none none (.store 1 (.t 39) (.c (.int .i64 (Int.negSucc 0))))]) (.seq (.reg [.op (some 12) none (.mv (.c (.int .i64 (Int.ofNat 0))))]) (.block 4 (.loop L57_2))))) (.reg [.op (some 35) none (.mv (.t 11)), .op (some 36) none (.bin .add (.t 35) (.c (.int .i64 (Int.ofNat 1)))), .op (some 11) none (.mv (.t 36))])))
noncomputable def g57_1 (v0 : List (List Int)) (v1 : Int) (nv6 : Nat) (nv7 : Nat) (v8 : Int) (nv9 : Nat) (nv10 : Nat) (v11 : Int) (b0 : List (List Int)) (b1 : List Int) (b2 : List (List Int)) (b3 : List Int) : Option ((List (List Int) × Int × Nat × Nat × Int × Nat × Nat × Int × List (List Int) × List Int × List (List Int) × List Int × Unit) ⊕ ((List (List Int) × Int × Int × Nat × Nat × List (List Int) × List Int × Unit))) :=
 brO (decide (v11 ≤ v1)) (
 need (inb v11 ((nv10 : Nat) : Int)) (
 need (decide (((0 : Nat) + (Int.toNat v11)) < (b3).length)) (
 bindO (iter (fun x => g57_2 x.1 x.2.1 x.2.2.1 x.2.2.2.1 x.2.2.2.2.1 x.2.2.2.2.2.1 x.2.2.2.2.2.2.1 x.2.2.2.2.2.2.2.1 x.2.2.2.2.2.2.2.2.1 x.2.2.2.2.2.2.2.2.2.1 x.2.2.2.2.2.2.2.2.2.2.1 x.2.2.2.2.2.2.2.2.2.2.2.1 x.2.2.2.2.2.2.2.2.2.2.2.2.1) (v0, (v1, (nv6, (nv7, (v8, (nv9, (nv10, (v11, ((0 : Int), (b0, (b1, (b2, (((b3).set ((0 : Nat) + (Int.toNat v11)) (-1 : Int)), ())))))))))))))) fun z1 =>
 need (rng .i64 (z1.2.2.2.2.2.2.2.1 + (1 : Int))) (
 some (.inl (z1.1, (z1.2.1, (z1.2.2.1, (z1.2.2.2.1, (z1.2.2.2.2.1, (z1.2.2.2.2.2.1, (z1.2.2.2.2.2.2.1, ((z1.2.2.2.2.2.2.2.1 + (1 : Int)), (z1.2.2.2.2.2.2.2.2.1, (z1.2.2.2.2.2.2.2.2.2.1, (z1.2.2.2.2.2.2.2.2.2.2.1, (z1.2.2.2.2.2.2.2.2.2.2.2.1, ()))))))))))))))))) (
 some (.inr (v0, (v1, (v8, (nv9, (nv10, (b2, (b3, ())))))))))
theorem s57_1 : ∀ x, roundE (kzO (p57_1.T ⊕ x57_1.T)) cx57 ar0 [] p57_1 x57_1 (b57_1) (fun y => some (.inl y)) (fun b => some (.inr b)) x = g57_1 x.1 x.2.1 x.2.2.1 x.2.2.2.1 x.2.2.2.2.1 x.2.2.2.2.2.1 x.2.2.2.2.2.2.1 x.2.2.2.2.2.2.2.1 x.2.2.2.2.2.2.2.2.1 x.2.2.2.2.2.2.2.2.2.1 x.2.2.2.2.2.2.2.2.2.2.1 x.2.2.2.2.2.2.2.2.2.2.2.1 := by intro x; kernel_rfl
noncomputable def L57_1 : LoopS prog 101 none 0 := mkLoop mixed cx57 cx57_ok [] rfl p57_1 x57_1 rfl (b57_1) (fun x => g57_1 x.1 x.2.1 x.2.2.1 x.2.2.2.1 x.2.2.2.2.1 x.2.2.2.2.2.1 x.2.2.2.2.2.2.1 x.2.2.2.2.2.2.2.1 x.2.2.2.2.2.2.2.2.1 x.2.2.2.2.2.2.2.2.2.1 x.2.2.2.2.2.2.2.2.2.2.1 x.2.2.2.2.2.2.2.2.2.2.2.1) (s57_1)
@[reducible] def p57_0 : Pat := Pat.mk [(0, .c (.hole (.list (.list (.int .i64))))), (1, .c (.hole (.int .i64))), (6, .c (.sl0 0 (.list (.int .i64)))), (7, .c (.sl0 1 (.int .i64))), (8, .c (.hole (.int .i64)))] [(0, .arr (.list (.int .i64)) false), (1, .arr (.int .i64) false)] [.slot 6, .slot 7] []
@[reducible] def x57_0 : Outs := [(.exit 0, Pat.mk [(1, .c (.hole (.int .i64))), (6, .c (.sl0 0 (.list (.int .i64)))), (7, .c (.sl0 1 (.int .i64)))] [(0, .arr (.list (.int .i64)) false), (1, .arr (.int .i64) false)] [.slot 6, .slot 7] [])]
noncomputable def b57_0 : D prog 101 none 0 := (.seq (.seq (.reg [.op (some 20) none (.mv (.t 8)), .op (some 21) none (.mv (.t 0)), .op (some 22) none (.len (.t 21)), .op (some 23) none (.bin .lss (.t 20) (.t 22))]) (.cond ( .t 23) .skip (.exit 0))) (.seq (.block 1 (.seq (.draw [[], [0], [0, 1], [], [3], [3, 4], [0, 1, 2], [0, 1, 2, 3, 4, 5, 6]] [.op (some 26) none (.mv (.t 1)), .op (some 27) none (.bin .add (.t 26) (.c (.int .i64 (Int.ofNat 1)))), .op (some 28) none (.mkslice (.list (.int .i64)) (.t 27)), .op (some 29) none (.mv (.t 1)), .op (some 30) none (.bin .add (.t 29) (.c (.int .i64 (Int.ofNat 1)))), .op (some 31) none (.mkslice (.int .i64) (.t 30)), .op (some 9) none (.mv (.t 28)), .op (some 10) none (.mv (.t 31))]) (.seq (.seq (.reg [.op (some 11) none (.mv (.c (.int .i64 (Int.ofNat 0))))]) (.block 2 (.loop L57_1))) (.reg [.op (some 91) none (.mv (.t 9)), .op (some 92) none (.mv (.t 10)), .op (some 6) none (.mv (.t 91)), .op (some 7) none (.mv (.t 92))])))) (.reg [.op (some 24) none (.mv (.t 8)), .op (some 25) none (.bin .add (.t 24) (.c (.int .i64 (Int.ofNat 1)))), .op (some 8) none (.mv (.t 25))])))
noncomputable def g57_0 (v0 : List (List Int)) (v1 : Int) (nv6 : Nat) (nv7 : Nat) (v8 : Int) (b0 : List (List Int)) (b1 : List Int) : Option ((List (List Int) × Int × Nat × Nat × Int × List (List Int) × List Int × Unit) ⊕ ((Int × Nat × Nat × List (List Int) × List Int × Unit))) :=
 brO (decide (v8 < (((v0).length : Nat) : Int))) (
 need (rng .i64 (v1 + (1 : Int))) (
 need (inb (v1 + (1 : Int)) ((bigL : Nat) : Int)) (
 need (rng .i64 (v1 + (1 : Int))) (
 need (inb (v1 + (1 : Int)) ((bigL : Nat) : Int)) (
 bindO (iter (fun x => g57_1 x.1 x.2.1 x.2.2.1 x.2.2.2.1 x.2.2.2.2.1 x.2.2.2.2.2.1 x.2.2.2.2.2.2.1 x.2.2.2.2.2.2.2.1 x.2.2.2.2.2.2.2.2.1 x.2.2.2.2.2.2.2.2.2.1 x.2.2.2.2.2.2.2.2.2.2.1 x.2.2.2.2.2.2.2.2.2.2.2.1) (v0, (v1, (nv6, (nv7, (v8, ((Int.toNat (v1 + (1 : Int))), ((Int.toNat (v1 + (1 : Int))), ((0 : Int), (b0, (b1, ((List.replicate (Int.toNat (v1 + (1 : Int))) []), ((List.replicate (Int.toNat (v1 + (1 : Int))) (0 : Int)), ()))))))))))))) fun z2 =>
 need (rng .i64 (z2.2.2.1 + (1 : Int))) (
 some (.inl (z2.1, (z2.2.1, (z2.2.2.2.1, (z2.2.2.2.2.1, ((z2.2.2.1 + (1 : Int)), (z2.2.2.2.2.2.1, (z2.2.2.2.2.2.2.1, ())))))))))))))) (
 some (.inr (v1, (nv6, (nv7, (b0, (b1, ())))))))
theorem s57_0 : ∀ x, roundE (kzO (p57_0.T ⊕ x57_0.T)) cx57 ar0 [] p57_0 x57_0 (b57_0) (fun y => some (.inl y)) (fun b => some (.inr b)) x = g57_0 x.1 x.2.1 x.2.2.1 x.2.2.2.1 x.2.2.2.2.1 x.2.2.2.2.2.1 x.2.2.2.2.2.2.1 := by intro x; kernel_rfl
noncomputable def L57_0 : LoopS prog 101 none 0 := mkLoop mixed cx57 cx57_ok [] rfl p57_0 x57_0 rfl (b57_0) (fun x => g57_0 x.1 x.2.1 x.2.2.1 x.2.2.2.1 x.2.2.2.2.1 x.2.2.2.2.2.1 x.2.2.2.2.2.2.1) (s57_0)
noncomputable def dd57 : D prog 101 none 0 := (.seq (.reg [.op (some 4) none (.mv (.c .nsl)), .op (some 5) none (.mv (.c (.int .i64 (Int.ofNat 0))))]) (.seq (.reg [.op (some 14) none (.mv (.t 1)), .op (some 15) none (.bin .add (.t 14) (.c (.int .i64 (Int.ofNat 1)))), .op (some 16) none (.mkslice (.list (.int .i64)) (.t 15)), .op (some 6) none (.mv (.t 16))]) (.seq (.reg [.op (some 17) none (.mv (.t 1)), .op (some 18) none (.bin .add (.t 17) (.c (.int .i64 (Int.ofNat 1)))), .op (some 19) none (.mkslice (.int .i64) (.t 18)), .op (some 7) none (.mv (.t 19))]) (.seq (.seq (.reg [.op (some 8) none (.mv (.c (.int .i64 (Int.ofNat 0))))]) (.block 0 (.loop L57_0))) (.seq (.draw [[], [], [0, 1], [0, 1, 2], [], [], [4, 5], [4, 5, 6], [0, 1, 2, 3], [0, 1, 2, 3, 4, 5, 6, 7, 8]] [.op (some 93) none (.mv (.t 6)), .op (some 94) none (.mv (.t 1)), .op (some 95) none (.idx 1 (.t 93) (.t 94)), .op (some 96) none (.load false 1 (.t 95)), .op (some 97) none (.mv (.t 7)), .op (some 98) none (.mv (.t 1)), .op (some 99) none (.idx 1 (.t 97) (.t 98)), .op (some 100) none (.load false 1 (.t 99)), .op (some 4) none (.mv (.t 96)), .op (some 5) none (.mv (.t 100))]) .ret)))))
noncomputable def F57 (a0 : List (List Int)) (a1 : Int) : Option (List Int × Int × Unit) :=
 need (rng .i64 (a1 + (1 : Int))) (
 need (inb (a1 + (1 : Int)) ((bigL : Nat) : Int)) (
 need (rng .i64 (a1 + (1 : Int))) (
 need (inb (a1 + (1 : Int)) ((bigL : Nat) : Int)) (
 bindO (iter (fun x => g57_0 x.1 x.2.1 x.2.2.1 x.2.2.2.1 x.2.2.2.2.1 x.2.2.2.2.2.1 x.2.2.2.2.2.2.1) (a0, (a1, ((Int.toNat (a1 + (1 : Int))), ((Int.toNat (a1 + (1 : Int))), ((0 : Int), ((List.replicate (Int.toNat (a1 + (1 : Int))) []), ((List.replicate (Int.toNat (a1 + (1 : Int))) (0 : Int)), ())))))))) fun z3 =>
 need (inb z3.1 ((z3.2.1 : Nat) : Int)) (
 need (decide (((0 : Nat) + (Int.toNat z3.1)) < (z3.2.2.2.1).length)) (
 need (inb z3.1 ((z3.2.2.1 : Nat) : Int)) (
 need (decide (((0 : Nat) + (Int.toNat z3.1)) < (z3.2.2.2.2.1).length)) (
 some (((z3.2.2.2.1).getD ((0 : Nat) + (Int.toNat z3.1)) []), (((z3.2.2.2.2.1).getD ((0 : Nat) + (Int.toNat z3.1)) (0 : Int)), ()))))))))))
theorem c57_ok : trF prog f57 = some ⟨101, 2, dd57.er, [.t 4, .t 5], [some (.list (.int .i64)), some (.int .i64)]⟩ := by kernel_rfl
noncomputable def ct57 : Ct := ⟨57, [.c (.hole (.list (.list (.int .i64)))), .c (.hole (.int .i64))], .tup [.hole (.list (.int .i64)), .hole (.int .i64)], fun x => F57 x.1 x.2.1⟩
theorem ct57_ok : ct57.Ok prog := ct_ok mixed cx57_ok func57 c57_ok (enters_of func57 rfl rfl) dd57 rfl rfl (fun x => by kernel_rfl)

/- 23 -/
noncomputable def cx23 : Cx := mkCxH [ct21, ct50, ct57] []
theorem cx23_ok : cx23.Ok prog := mkCxH_ok ⟨ct21_ok, ct50_ok, ct57_ok, trivial⟩ trivial
noncomputable def dd23 : D prog 30 none 0 := (.seq (.reg [.op (some 4) none (.mv (.c .nsl)), .op (some 5) none (.mv (.c (.int .i64 (Int.ofNat 0)))), .op (some 6) none (.mv (.c (.int .i64 (Int.ofNat 0))))]) (.seq (.reg [.op (some 10) none (.mv (.t 0)), .call (some 11) none (.c (.fn 21 [] [])) [.t 10] [some (.list (.list (.int .i64)))], .op (some 7) none (.mv (.t 11))]) (.seq (.seq (.reg [.op (some 12) none (.mv (.t 7)), .op (some 13) none (.bin .eql (.t 12) (.c (.int .i64 (Int.ofNat 0)))), .op (some 14) none (.mv (.t 13)), .op (some 15) (some (14, true)) (.mv (.t 1)), .call (some 16) (some (14, true)) (.c (.fn 50 [] [])) [.t 15, .c (.int .i64 (Int.ofNat 0)), .c (.int .i64 (Int.ofNat 200))] [some (.int .i64), some (.int .i64), some (.int .i64)], .op (some 17) (some (14, true)) (.not (.t 16)), .op (some 18) none (.pick (.t 14) (.t 17) (.c (.tf false)))]) (.cond ( .t 18) (.reg [.op (some 7) none (.mv (.c (.int .i64 (Int.ofNat 2))))]) .skip)) (.seq (.seq (.reg [.op (some 19) none (.mv (.t 7)), .op (some 20) none (.bin .neq (.t 19) (.c (.int .i64 (Int.ofNat 0))))]) (.cond ( .t 20) (.seq (.reg [.op (some 21) none (.mv (.t 7)), .op (some 4) none (.mv (.c .nsl)), .op (some 5) none (.mv (.c (.int .i64 (Int.ofNat 0)))), .op (some 6) none (.mv (.t 21))]) .ret) .skip)) (.seq (.reg [.op (some 23) none (.mv (.t 0)), .op (some 24) none (.mv (.t 1)), .call (some 25) none (.c (.fn 57 [] [])) [.t 23, .t 24] [some (.list (.list (.int .i64))), some (.int .i64)], .op (some 22) none (.mv (.t 25)), .op (some 26) none (.ext 0 (.t 22)), .op (some 27) none (.ext 1 (.t 22)), .op (some 8) none (.mv (.t 26)), .op (some 9) none (.mv (.t 27))]) (.seq (.reg [.op (some 28) none (.mv (.t 8)), .op (some 29) none (.mv (.t 9)), .op (some 4) none (.mv (.t 28)), .op (some 5) none (.mv (.t 29)), .op (some 6) none (.mv (.c (.int .i64 (Int.ofNat 0))))]) .ret))))))
noncomputable def F23 (a0 : List (List Int)) (a1 : Int) : Option (List Int × Int × Int × Unit) :=
 bindO (F21 a0) fun y0 =>
 brO (y0.1 == (0 : Int)) (
 bindO (F50 a1 (0 : Int) (200 : Int)) fun y1 =>
 brO (!y1.1) (
 brO (!((2 : Int) == (0 : Int))) (
 some ([], ((0 : Int), ((2 : Int), ())))) (
 bindO (F57 a0 a1) fun y2 =>
 some (y2.1, (y2.2.1, ((0 : Int), ()))))) (
 brO (!(y0.1 == (0 : Int))) (
 some ([], ((0 : Int), (y0.1, ())))) (
 bindO (F57 a0 a1) fun y3 =>
 some (y3.1, (y3.2.1, ((0 : Int), ())))))) (
 brO (!(y0.1 == (0 : Int))) (
 some ([], ((0 : Int), (y0.1, ())))) (
 bindO (F57 a0 a1) fun y4 =>
 some (y4.1, (y4.2.1, ((0 : Int), ())))))
theorem c23_ok : trF prog f23 = some ⟨30, 2, dd23.er, [.t 4, .t 5, .t 6], [some (.list (.int .i64)), some (.int .i64), some (.int .i64)]⟩ := by kernel_rfl
noncomputable def ct23 : Ct := ⟨23, [.c (.hole (.list (.list (.int .i64)))), .c (.hole (.int .i64))], .tup [.hole (.list (.int .i64)), .hole (.int .i64), .hole (.int .i64)], fun x => F23 x.1 x.2.1⟩
theorem ct23_ok : ct23.Ok prog := ct_ok mixed cx23_ok func23 c23_ok (enters_of func23 rfl rfl) dd23 rfl rfl (fun x => by kernel_rfl)

/- 34 -/
noncomputable def cx34 : Cx := mkCxH [ct21, ct50, ct19] []
theorem cx34_ok : cx34.Ok prog := mkCxH_ok ⟨ct21_ok, ct50_ok, ct19_ok, trivial⟩ trivial
@[reducible] def p34_1 : Pat := Pat.mk [(0, .c (.hole (.list (.list (.int .i64))))), (1, .c (.hole (.int .i64))), (2, .c (.hole (.list (.int .i64)))), (11, .c (.hole (.int .i64))), (13, .c (.hole (.int .i64))), (14, .c (.hole (.int .i64))), (15, .c (.hole (.int .i64))), (16, .c (.hole (.int .i64))), (17, .c (.hole (.int .i64)))] [] [] []
@[reducible] def x34_1 : Outs := [(.exit 2, Pat.mk [(0, .c (.hole (.list (.list (.int .i64))))), (1, .c (.hole (.int .i64))), (2, .c (.hole (.list (.int .i64)))), (11, .c (.hole (.int .i64))), (13, .c (.hole (.int .i64))), (14, .c (.hole (.int .i64))), (15, .c (.hole (.int .i64))), (16, .c (.hole (.int .i64)))] [] [] [])]
noncomputable def b34_1 : D prog 135 none 0 := (.seq (.seq (.reg [.op (some 50) none (.mv (.t 17)), .op (some 51) none (.mv (.t 0)), .op (some 52) none (.len (.t 51)), .op (some 53) none (.bin .lss (.t 50) (.t 52))]) (.cond ( .t 53) .skip (.exit 2))) (.seq (.block 3 (.seq (.seq (.draw [[], [], [0, 1], [0, 1, 2], [0, 1, 2, 3], [0, 1, 2, 3, 4], [0, 1, 2, 3, 4, 5], [0, 1, 2, 3, 4, 5, 6], [0, 1, 2, 3, 4, 5, 6], [0, 1, 2, 3, 4, 5, 6, 7, 8], [0, 1, 2, 3, 4, 5, 6, 7, 8, 9], [0, 1, 2, 3, 4, 5, 6, 7, 8, 9, 10], [0, 1, 2, 3, 4, 5, 6, 7, 8, 9, 10, 11], [0, 1, 2, 3, 4, 5, 6, 7, 8, 9, 10, 11, 12], [0, 1, 2, 3, 4, 5, 6, 7, 8, 9, 10, 11, 12, 13], [0, 1, 2, 3, 4, 5, 6, 7, 8, 9, 10, 11, 12, 13, 14], [0, 1, 2, 3, 4, 5, 6, 7, 8, 9, 10, 11, 12, 13, 14, 15], [0, 1, 2, 3, 4, 5, 6, 7, 8, 9, 10, 11, 12, 13, 14, 15], [0, 1, 2, 3, 4, 5, 6, 7, 8, 9, 10, 11, 12, 13, 14, 15, 16, 17], [0, 1, 2, 3, 4, 5, 6, 7, 8, 9, 10, 11, 12, 13, 14, 15, 16, 17, 18], [0, 1, 2, 3, 4, 5, 6, 7, 8, 9, 10, 11, 12, 13, 14, 15, 16, 17, 18, 19], [0, 1, 2, 3, 4, 5, 6, 7, 8, 9, 10, 11, 12, 13, 14, 15, 16, 17, 18, 19, 20], [0, 1, 2, 3, 4, 5, 6, 7, 8, 9, 10, 11, 12, 13, 14, 15, 16, 17, 18, 19, 20, 21], [0, 1, 2, 3, 4, 5, 6, 7, 8, 9, 10, 11, 12, 13, 14, 15, 16, 17, 18, 19, 20, 21, 22], [0, 1, 2, 3, 4, 5, 6, 7, 8, 9, 10, 11, 12, 13, 14, 15, 16, 17, 18, 19, 20, 21, 22, 23], [0, 1, 2, 3, 4, 5, 6, 7, 8, 9, 10, 11, 12, 13, 14, 15, 16, 17, 18, 19, 20, 21, 22, 23, 24], [0, 1, 2, 3, 4, 5, 6, 7, 8, 9, 10, 11, 12, 13, 14, 15, 16, 17, 18, 19, 20, 21, 22, 23, 24, 25], [0, 1, 2, 3, 4, 5, 6, 7, 8, 9, 10, 11, 12, 13, 14, 15, 16, 17, 18, 19, 20, 21, 22, 23, 24, 25, 26], [0, 1, 2, 3, 4, 5, 6, 7, 8, 9, 10, 11, 12, 13, 14, 15, 16, 17, 18, 19, 20, 21, 22, 23, 24, 25, 26], [0, 1, 2, 3, 4, 5, 6, 7, 8, 9, 10, 11, 12, 13, 14, 15, 16, 17, 18, 19, 20, 21, 22, 23, 24, 25, 26, 27, 28], [0, 1, 2, 3, 4, 5, 6, 7, 8, 9, 10, 11, 12, 13, 14, 15, 16, 17, 18, 19, 20, 21, 22, 23, 24, 25, 26, 27, 28, 29], [0, 1, 2, 3, 4, 5, 6, 7, 8, 9, 10, 11, 12, 13, 14, 15, 16, 17, 18, 19, 20, 21, 22, 23, 24, 25, 26], [0, 1, 2, 3, 4, 5, 6, 7, 8, 9, 10, 11, 12, 13, 14, 15, 16, 17, 18, 19, 20, 21, 22, 23, 24, 25, 26], [0, 1, 2, 3, 4, 5, 6, 7, 8, 9, 10, 11, 12, 13, 14, 15, 16, 17, 18, 19, 20, 21, 22, 23, 24, 25, 26, 31, 32], [0, 1, 2, 3, 4, 5, 6, 7, 8, 9, 10, 11, 12, 13, 14, 15, 16, 17, 18, 19, 20, 21, 22, 23, 24, 25, 26, 31, 32, 33], [0, 1, 2, 3, 4, 5, 6, 7, 8, 9, 10, 11, 12, 13, 14, 15, 16, 17, 18, 19, 20, 21, 22, 23, 24, 25, 26, 31, 32, 33, 34], [0, 1, 2, 3, 4, 5, 6, 7, 8, 9, 10, 11, 12, 13, 14, 15, 16, 17, 18, 19, 20, 21, 22, 23, 24, 25, 26, 27, 28, 29, 30, 31, 32, 33, 34, 35], [0, 1, 2, 3, 4, 5, 6, 7, 8, 9, 10, 11, 12, 13, 14, 15, 16, 17, 18, 19, 20, 21, 22, 23, 24, 25, 26, 27, 28, 29, 30, 31, 32, 33, 34, 35, 36], [0, 1, 2, 3, 4, 5, 6, 7, 8, 9, 10, 11, 12, 13, 14, 15, 16, 17, 18, 19, 20, 21, 22, 23, 24, 25, 26, 27, 28, 29, 30, 31, 32, 33, 34, 35, 36, 37]] [.op (some 56) none (.mv (.t 16)), .op (some 57) none (.mv (.t 17)), .op (some 58) none (.bin .eql (.t 56) (.t 57)), .op (some 59) none (.mv (.t 58)), .op (some 60) (some (59, false)) (.mv (.t 16)), .op (some 61) (some (59, false)) (.bin .eql (.t 60) (.c (.int .i64 (Int.negSucc 0)))), .op (some 62) (some (59, false)) (.mv (.t 61)), .op (some 63) (some (62, true)) (.mv (.t 11)), .op (some 64) (some (62, true)) (.mv (.t 1)), .op (some 65) (some (62, true)) (.bin .eql (.t 63) (.t 64)), .op (some 66) (some (59, false)) (.pick (.t 62) (.t 65) (.c (.tf false))), .op (some 67) none (.pick (.t 59) (.c (.tf true)) (.t 66)), .op (some 68) none (.mv (.t 67)), .op (some 69) (some (68, false)) (.mv (.t 16)), .op (some 70) (some (68, false)) (.bin .geq (.t 69) (.c (.int .i64 (Int.ofNat 0)))), .op (some 71) (some (68, false)) (.mv (.t 70)), .op (some 72) (some (71, true)) (.mv (.t 2)), .op (some 73) (some (71, true)) (.mv (.t 16)), .op (some 74) (some (71, true)) (.idx 1 (.t 72) (.t 73)), .op (some 75) (some (71, true)) (.load false 1 (.t 74)), .op (some 76) (some (71, true)) (.bin .eql (.t 75) (.c (.int .i64 (Int.ofNat 0)))), .op (some 77) (some (68, false)) (.pick (.t 71) (.t 76) (.c (.tf false))), .op (some 78) none (.pick (.t 68) (.c (.tf true)) (.t 77)), .op (some 79) none (.mv (.t 78)), .op (some 80) (some (79, false)) (.mv (.t 17)), .op (some 81) (some (79, false)) (.bin .geq (.t 80) (.c (.int .i64 (Int.ofNat 0)))), .op (some 82) (some (79, false)) (.mv (.t 81)), .op (some 83) (some (82, true)) (.mv (.t 2)), .op (some 84) (some (82, true)) (.mv (.t 17)), .op (some 85) (some (82, true)) (.idx 1 (.t 83) (.t 84)), .op (some 86) (some (82, true)) (.load false 1 (.t 85)), .op (some 87) (some (82, true)) (.mv (.t 0)), .op (some 88) (some (82, true)) (.mv (.t 17)), .op (some 89) (some (82, true)) (.idx 1 (.t 87) (.t 88)), .op (some 90) (some (82, true)) (.load false 1 (.t 89)), .op (some 91) (some (82, true)) (.len (.t 90)), .op (some 92) (some (82, true)) (.bin .eql (.t 86) (.t 91)), .op (some 93) (some (79, false)) (.pick (.t 82) (.t 92) (.c (.tf false))), .op (some 94) none (.pick (.t 79) (.c (.tf true)) (.t 93))]) (.cond ( .t 94) (.exit 3) .skip)) (.seq (.reg [.op (some 18) none (.mv (.c (.int .i64 (Int.ofNat 0))))]) (.seq (.seq (.reg [.op (some 95) none (.mv (.t 16)), .op (some 96) none (.bin .geq (.t 95) (.c (.int .i64 (Int.ofNat 0))))]) (.cond ( .t 96) (.draw [[], [], [], [1, 2], [1, 2, 3], [], [], [5, 6], [5, 6, 7], [5, 6, 7, 8], [1, 2, 3, 4, 5, 6, 7, 8, 9], [1, 2, 3, 4, 5, 6, 7, 8, 9, 10], [0, 1, 2, 3, 4, 5, 6, 7, 8, 9, 10, 11], [0, 1, 2, 3, 4, 5, 6, 7, 8, 9, 10, 11, 12]] [.op (some 97) none (.mv (.t 18)), .op (some 98) none (.mv (.t 0)), .op (some 99) none (.mv (.t 16)), .op (some 100) none (.idx 1 (.t 98) (.t 99)), .op (some 101) none (.load false 1 (.t 100)), .op (some 102) none (.mv (.t 2)), .op (some 103) none (.mv (.t 16)), .op (some 104) none (.idx 1 (.t 102) (.t 103)), .op (some 105) none (.load false 1 (.t 104)), .op (some 106) none (.bin .sub (.t 105) (.c (.int .i64 (Int.ofNat 1)))), .op (some 107) none (.idx 1 (.t 101) (.t 106)), .op (some 108) none (.load false 1 (.t 107)), .op (some 109) none (.bin .sub (.t 97) (.t 108)), .op (some 18) none (.mv (.t 109))]) .skip)) (.seq (.seq (.reg [.op (some 110) none (.mv (.t 17)), .op (some 111) none (.bin .geq (.t 110) (.c (.int .i64 (Int.ofNat 0))))]) (.cond ( .t 111) (.draw [[], [], [], [1, 2], [1, 2, 3], [], [], [5, 6], [5, 6, 7], [1, 2, 3, 4, 5, 6, 7, 8], [1, 2, 3, 4, 5, 6, 7, 8, 9], [0, 1, 2, 3, 4, 5, 6, 7, 8, 9, 10], [0, 1, 2, 3, 4, 5, 6, 7, 8, 9, 10, 11]] [.op (some 112) none (.mv (.t 18)), .op (some 113) none (.mv (.t 0)), .op (some 114) none (.mv (.t 17)), .op (some 115) none (.idx 1 (.t 113) (.t 114)), .op (some 116) none (.load false 1 (.t 115)), .op (some 117) none (.mv (.t 2)), .op (some 118) none (.mv (.t 17)), .op (some 119) none (.idx 1 (.t 117) (.t 118)), .op (some 120) none (.load false 1 (.t 119)), .op (some 121) none (.idx 1 (.t 116) (.t 120)), .op (some 122) none (.load false 1 (.t 121)), .op (some 123) none (.bin .add (.t 112) (.t 122)), .op (some 18) none (.mv (.t 123))]) .skip)) (.seq (.reg [.op (some 124) none (.mv (.t 18)), .op (some 125) none (.mv (.t 15)), .op (some 126) none (.bin .gtr (.t 124) (.t 125))]) (.cond ( .t 126) (.reg [.op (some 127) none (.mv (.t 16)), .op (some 128) none (.mv (.t 17)), .op (some 129) none (.mv (.t 18)), .op (some 13) none (.mv (.t 127)), .op (some 14) none (.mv (.t 128)), .op (some 15) none (.mv (.t 129))]) .skip))))))) (.reg [.op (some 54) none (.mv (.t 17)), .op (some 55) none (.bin .add (.t 54) (.c (.int .i64 (Int.ofNat 1)))), .op (some 17) none (.mv (.t 55))])))
noncomputable def g34_1 (v0 : List (List Int)) (v1 : Int) (v2 : List Int) (v11 : Int) (v13 : Int) (v14 : Int) (v15 : Int) (v16 : Int) (v17 : Int) : Option ((List (List Int) × Int × List Int × Int × Int × Int × Int × Int × Int × Unit) ⊕ ((List (List Int) × Int × List Int × Int × Int × Int × Int × Int × Unit))) :=
 brO (decide (v17 < (((v0).length : Nat) : Int))) (
 brO (v16 == v17) (
 need (rng .i64 (v17 + (1 : Int))) (
 some (.inl (v0, (v1, (v2, (v11, (v13, (v14, (v15, (v16, ((v17 + (1 : Int)), ())))))))))))) (
 brO (v16 == (-1 : Int)) (
 brO (v11 == v1) (
 need (rng .i64 (v17 + (1 : Int))) (
 some (.inl (v0, (v1, (v2, (v11, (v13, (v14, (v15, (v16, ((v17 + (1 : Int)), ())))))))))))) (
 brO (decide ((0 : Int) ≤ v16)) (
 need (inb v16 (((v2).length : Nat) : Int)) (
 brO (((v2).getD (Int.toNat v16) (0 : Int)) == (0 : Int)) (
 need (rng .i64 (v17 + (1 : Int))) (
 some (.inl (v0, (v1, (v2, (v11, (v13, (v14, (v15, (v16, ((v17 + (1 : Int)), ())))))))))))) (
 brO (decide ((0 : Int) ≤ v17)) (
 need (inb v17 (((v2).length : Nat) : Int)) (
 need (inb v17 (((v0).length : Nat) : Int)) (
 brO (((v2).getD (Int.toNat v17) (0 : Int)) == (((((v0).getD (Int.toNat v17) [])).length : Nat) : Int)) (
 need (rng .i64 (v17 + (1 : Int))) (
 some (.inl (v0, (v1, (v2, (v11, (v13, (v14, (v15, (v16, ((v17 + (1 : Int)), ())))))))))))) (
 brO (decide ((0 : Int) ≤ v16)) (
 need (inb v16 (((v0).length : Nat) : Int)) (
 need (inb v16 (((v2).length : Nat) : Int)) (
 need (rng .i64 (((v2).getD (Int.toNat v16) (0 : Int)) - (1 : Int))) (
 need (inb (((v2).getD (Int.toNat v16) (0 : Int)) - (1 : Int)) (((((v0).getD (Int.toNat v16) [])).length : Nat) : Int)) (
 need (rng .i64 ((0 : Int) - ((((v0).getD (Int.toNat v16) [])).getD (Int.toNat (((v2).getD (Int.toNat v16) (0 : Int)) - (1 : Int))) (0 : Int)))) (
 brO (decide ((0 : Int) ≤ v17)) (
 need (inb v17 (((v0).length : Nat) : Int)) (
 need (inb v17 (((v2).length : Nat) : Int)) (
 need (inb ((v2).getD (Int.toNat v17) (0 : Int)) (((((v0).getD (Int.toNat v17) [])).length : Nat) : Int)) (
 need (rng .i64 (((0 : Int) - ((((v0).getD (Int.toNat v16) [])).getD (Int.toNat (((v2).getD (Int.toNat v16) (0 : Int)) - (1 : Int))) (0 : Int))) + ((((v0).getD (Int.toNat v17) [])).getD (Int.toNat ((v2).getD (Int.toNat v17) (0 : Int))) (0 : Int)))) (
 brO (decide (v15 < (((0 : Int) - ((((v0).getD (Int.toNat v16) [])).getD (Int.toNat (((v2).getD (Int.toNat v16) (0 : Int)) - (1 : Int))) (0 : Int))) + ((((v0).getD (Int.toNat v17) [])).getD (Int.toNat ((v2).getD (Int.toNat v17) (0 : Int))) (0 : Int))))) (
 need (rng .i64 (v17 + (1 : Int))) (
 some (.inl (v0, (v1, (v2, (v11, (v16, (v17, ((((0 : Int) - ((((v0).getD (Int.toNat v16) [])).getD (Int.toNat (((v2).getD (Int.toNat v16) (0 : Int)) - (1 : Int))) (0 : Int))) + ((((v0).getD (Int.toNat v17) [])).getD (Int.toNat ((v2).getD (Int.toNat v17) (0 : Int))) (0 : Int))), (v16, ((v17 + (1 : Int)), ())))))))))))) (
 need (rng .i64 (v17 + (1 : Int))) (
 some (.inl (v0, (v1, (v2, (v11, (v13, (v14, (v15, (v16, ((v17 + (1 : Int)), ()))))))))))))))))) (
 brO (decide (v15 < ((0 : Int) - ((((v0).getD (Int.toNat v16) [])).getD (Int.toNat (((v2).getD (Int.toNat v16) (0 : Int)) - (1 : Int))) (0 : Int))))) (
 need (rng .i64 (v17 + (1 : Int))) (
 some (.inl (v0, (v1, (v2, (v11, (v16, (v17, (((0 : Int) - ((((v0).getD (Int.toNat v16) [])).getD (Int.toNat (((v2).getD (Int.toNat v16) (0 : Int)) - (1 : Int))) (0 : Int))), (v16, ((v17 + (1 : Int)), ())))))))))))) (
 need (rng .i64 (v17 + (1 : Int))) (
 some (.inl (v0, (v1, (v2, (v11, (v13, (v14, (v15, (v16, ((v17 + (1 : Int)), ()))))))))))))))))))) (
 brO (decide ((0 : Int) ≤ v17)) (
 need (inb v17 (((v0).length : Nat) : Int)) (
 need (inb v17 (((v2).length : Nat) : Int)) (
 need (inb ((v2).getD (Int.toNat v17) (0 : Int)) (((((v0).getD (Int.toNat v17) [])).length : Nat) : Int)) (
 need (rng .i64 ((0 : Int) + ((((v0).getD (Int.toNat v17) [])).getD (Int.toNat ((v2).getD (Int.toNat v17) (0 : Int))) (0 : Int)))) (
 brO (decide (v15 < ((0 : Int) + ((((v0).getD (Int.toNat v17) [])).getD (Int.toNat ((v2).getD (Int.toNat v17) (0 : Int))) (0 : Int))))) (
 need (rng .i64 (v17 + (1 : Int))) (
 some (.inl (v0, (v1, (v2, (v11, (v16, (v17, (((0 : Int) + ((((v0).getD (Int.toNat v17) [])).getD (Int.toNat ((v2).getD (Int.toNat v17) (0 : Int))) (0 : Int))), (v16, ((v17 + (1 : Int)), ())))))))))))) (
 need (rng .i64 (v17 + (1 : Int))) (
 some (.inl (v0, (v1, (v2, (v11, (v13, (v14, (v15, (v16, ((v17 + (1 : Int)), ()))))))))))))))))) (
 brO (decide (v15 < (0 : Int))) (
 need (rng .i64 (v17 + (1 : Int))) (
 some (.inl (v0, (v1, (v2, (v11, (v16, (v17, ((0 : Int), (v16, ((v17 + (1 : Int)), ())))))))))))) (
 need (rng .i64 (v17 + (1 : Int))) (
 some (.inl (v0, (v1, (v2, (v11, (v13, (v14, (v15, (v16, ((v17 + (1 : Int)), ())))))))))))))))))) (
 brO (decide ((0 : Int) ≤ v16)) (
 need (inb v16 (((v0).length : Nat) : Int)) (
 need (inb v16 (((v2).length : Nat) : Int)) (
 need (rng .i64 (((v2).getD (Int.toNat v16) (0 : Int)) - (1 : Int))) (
 need (inb (((v2).getD (Int.toNat v16) (0 : Int)) - (1 : Int)) (((((v0).getD (Int.toNat v16) [])).length : Nat) : Int)) (
 need (rng .i64 ((0 : Int) - ((((v0).getD (Int.toNat v16) [])).getD (Int.toNat (((v2).getD (Int.toNat v16) (0 : Int)) - (1 : Int))) (0 : Int)))) (
 brO (decide ((0 : Int) ≤ v17)) (
 need (inb v17 (((v0).length : Nat) : Int)) (
 need (inb v17 (((v2).length : Nat) : Int)) (
 need (inb ((v2).getD (Int.toNat v17) (0 : Int)) (((((v0).getD (Int.toNat v17) [])).length : Nat) : Int)) (
 need (rng .i64 (((0 : Int) - ((((v0).getD (Int.toNat v16) [])).getD (Int.toNat (((v2).getD (Int.toNat v16) (0 : Int)) - (1 : Int))) (0 : Int))) + ((((v0).getD (Int.toNat v17) [])).getD (Int.toNat ((v2).getD (Int.toNat v17) (0 : Int))) (0 : Int)))) (
 brO (decide (v15 < (((0 : Int) - ((((v0).getD (Int.toNat v16) [])).getD (Int.toNat (((v2).getD (Int.toNat v16) (0 : Int)) - (1 : Int))) (0 : Int))) + ((((v0).getD (Int.toNat v17) [])).getD (Int.toNat ((v2).getD (Int.toNat v17) (0 : Int))) (0 : Int))))) (
 need (rng .i64 (v17 + (1 : Int))) (
 some (.inl (v0, (v1, (v2, (v11, (v16, (v17, ((((0 : Int) - ((((v0).getD (Int.toNat v16) [])).getD (Int.toNat (((v2).getD (Int.toNat v16) (0 : Int)) - (1 : Int))) (0 : Int))) + ((((v0).getD (Int.toNat v17) [])).getD (Int.toNat ((v2).getD (Int.toNat v17) (0 : Int))) (0 : Int))), (v16, ((v17 + (1 : Int)), ())))))))))))) (
 need (rng .i64 (v17 + (1 : Int))) (
 some (.inl (v0, (v1, (v2, (v11, (v13, (v14, (v15, (v16, ((v17 + (1 : Int)), ()))))))))))))))))) (
 brO (decide (v15 < ((0 : Int) - ((((v0).getD (Int.toNat v16) [])).getD (Int.toNat (((v2).getD (Int.toNat v16) (0 : Int)) - (1 : Int))) (0 : Int))))) (
 need (rng .i64 (v17 + (1 : Int))) (
 some (.inl (v0, (v1, (v2, (v11, (v16, (v17, (((0 : Int) - ((((v0).getD (Int.toNat v16) [])).getD (Int.toNat (((v2).getD (Int.toNat v16) (0 : Int)) - (1 : Int))) (0 : Int))), (v16, ((v17 + (1 : Int)), ())))))))))))) (
 need (rng .i64 (v17 + (1 : Int))) (
 some (.inl (v0, (v1, (v2, (v11, (v13, (v14, (v15, (v16, ((v17 + (1 : Int)), ()))))))))))))))))))) (
 brO (decide ((0 : Int) ≤ v17)) (
 need (inb v17 (((v0).length : Nat) : Int)) (
 need (inb v17 (((v2).length : Nat) : Int)) (
 need (inb ((v2).getD (Int.toNat v17) (0 : Int)) (((((v0).getD (Int.toNat v17) [])).length : Nat) : Int)) (
 need (rng .i64 ((0 : Int) + ((((v0).getD (Int.toNat v17) [])).getD (Int.toNat ((v2).getD (Int.toNat v17) (0 : Int))) (0 : Int)))) (
 brO (decide (v15 < ((0 : Int) + ((((v0).getD (Int.toNat v17) [])).getD (Int.toNat ((v2).getD (Int.toNat v17) (0 : Int))) (0 : Int))))) (
 need (rng .i64 (v17 + (1 : Int))) (
 some (.inl (v0, (v1, (v2, (v11, (v16, (v17, (((0 : Int) + ((((v0).getD (Int.toNat v17) [])).getD (Int.toNat ((v2).getD (Int.toNat v17) (0 : Int))) (0 : Int))), (v16, ((v17 + (1 : Int)), ())))))))))))) (
 need (rng .i64 (v17 + (1 : Int))) (
 some (.inl (v0, (v1, (v2, (v11, (v13, (v14, (v15, (v16, ((v17 + (1 : Int)), ()))))))))))))))))) (
 brO (decide (v15 < (0 : Int))) (
 need (rng .i64 (v17 + (1 : Int))) (
 some (.inl (v0, (v1, (v2, (v11, (v16, (v17, ((0 : Int), (v16, ((v17 + (1 : Int)), ())))))))))))) (
 need (rng .i64 (v17 + (1 : Int))) (
 some (.inl (v0, (v1, (v2, (v11, (v13, (v14, (v15, (v16, ((v17 + (1 : Int)), ())))))))))))))))))) (
 brO (decide ((0 : Int) ≤ v17)) (
 need (inb v17 (((v2).length : Nat) : Int)) (
 need (inb v17 (((v0).length : Nat) : Int)) (
 brO (((v2).getD (Int.toNat v17) (0 : Int)) == (((((v0).getD (Int.toNat v17) [])).length : Nat) : Int)) (
 need (rng .i64 (v17 + (1 : Int))) (
 some (.inl (v0, (v1, (v2, (v11, (v13, (v14, (v15, (v16, ((v17 + (1 : Int)), ())))))))))))) (
 brO (decide ((0 : Int) ≤ v16)) (
 need (inb v16 (((v0).length : Nat) : Int)) (
 need (inb v16 (((v2).length : Nat) : Int)) (
 need (rng .i64 (((v2).getD (Int.toNat v16) (0 : Int)) - (1 : Int))) (
 need (inb (((v2).getD (Int.toNat v16) (0 : Int)) - (1 : Int)) (((((v0).getD (Int.toNat v16) [])).length : Nat) : Int)) (
 need (rng .i64 ((0 : Int) - ((((v0).getD (Int.toNat v16) [])).getD (Int.toNat (((v2).getD (Int.toNat v16) (0 : Int)) - (1 : Int))) (0 : Int)))) (
 brO (decide ((0 : Int) ≤ v17)) (
 need (inb v17 (((v0).length : Nat) : Int)) (
 need (inb v17 (((v2).length : Nat) : Int)) (
 need (inb ((v2).getD (Int.toNat v17) (0 : Int)) (((((v0).getD (Int.toNat v17) [])).length : Nat) : Int)) (
 need (rng .i64 (((0 : Int) - ((((v0).getD (Int.toNat v16) [])).getD (Int.toNat (((v2).getD (Int.toNat v16) (0 : Int)) - (1 : Int))) (0 : Int))) + ((((v0).getD (Int.toNat v17) [])).getD (Int.toNat ((v2).getD (Int.toNat v17) (0 : Int))) (0 : Int)))) (
 brO (decide (v15 < (((0 : Int) - ((((v0).getD (Int.toNat v16) [])).getD (Int.toNat (((v2).getD (Int.toNat v16) (0 : Int)) - (1 : Int))) (0 : Int))) + ((((v0).getD (Int.toNat v17) [])).getD (Int.toNat ((v2).getD (Int.toNat v17) (0 : Int))) (0 : Int))))) (
 need (rng .i64 (v17 + (1 : Int))) (
 some (.inl (v0, (v1, (v2, (v11, (v16, (v17, ((((0 : Int) - ((((v0).getD (Int.toNat v16) [])).getD (Int.toNat (((v2).getD (Int.toNat v16) (0 : Int)) - (1 : Int))) (0 : Int))) + ((((v0).getD (Int.toNat v17) [])).getD (Int.toNat ((v2).getD (Int.toNat v17) (0 : Int))) (0 : Int))), (v16, ((v17 + (1 : Int)), ())))))))))))) (
 need (rng .i64 (v17 + (1 : Int))) (
 some (.inl (v0, (v1, (v2, (v11, (v13, (v14, (v15, (v16, ((v17 + (1 : Int)), ()))))))))))))))))) (
 brO (decide (v15 < ((0 : Int) - ((((v0).getD (Int.toNat v16) [])).getD (Int.toNat (((v2).getD (Int.toNat v16) (0 : Int)) - (1 : Int))) (0 : Int))))) (
 need (rng .i64 (v17 + (1 : Int))) (
 some (.inl (v0, (v1, (v2, (v11, (v16, (v17, (((0 : Int) - ((((v0).getD (Int.toNat v16) [])).getD (Int.toNat (((v2).getD (Int.toNat v16) (0 : Int)) - (1 : Int))) (0 : Int))), (v16, ((v17 + (1 : Int)), ())))))))))))) (
 need (rng .i64 (v17 + (1 : Int))) (
 some (.inl (v0, (v1, (v2, (v11, (v13, (v14, (v15, (v16, ((v17 + (1 : Int)), ()))))))))))))))))))) (
 brO (decide ((0 : Int) ≤ v17)) (
 need (inb v17 (((v0).length : Nat) : Int)) (
 need (inb v17 (((v2).length : Nat) : Int)) (
 need (inb ((v2).getD (Int.toNat v17) (0 : Int)) (((((v0).getD (Int.toNat v17) [])).length : Nat) : Int)) (
 need (rng .i64 ((0 : Int) + ((((v0).getD (Int.toNat v17) [])).getD (Int.toNat ((v2).getD (Int.toNat v17) (0 : Int))) (0 : Int)))) (
 brO (decide (v15 < ((0 : Int) + ((((v0).getD (Int.toNat v17) [])).getD (Int.toNat ((v2).getD (Int.toNat v17) (0 : Int))) (0 : Int))))) (
 need (rng .i64 (v17 + (1 : Int))) (
 some (.inl (v0, (v1, (v2, (v11, (v16, (v17, (((0 : Int) + ((((v0).getD (Int.toNat v17) [])).getD (Int.toNat ((v2).getD (Int.toNat v17) (0 : Int))) (0 : Int))), (v16, ((v17 + (1 : Int)), ())))))))))))) (
 need (rng .i64 (v17 + (1 : Int))) (
 some (.inl (v0, (v1, (v2, (v11, (v13, (v14, (v15, (v16, ((v17 + (1 : Int)), ()))))))))))))))))) (
 brO (decide (v15 < (0 : Int))) (
 need (rng .i64 (v17 + (1 : Int))) (
 some (.inl (v0, (v1, (v2, (v11, (v16, (v17, ((0 : Int), (v16, ((v17 + (1 : Int)), ())))))))))))) (
 need (rng .i64 (v17 + (1 : Int))) (
 some (.inl (v0, (v1, (v2, (v11, (v13, (v14, (v15, (v16, ((v17 + (1 : Int)), ())))))))))))))))))) (
 brO (decide ((0 : Int) ≤ v16)) (
 need (inb v16 (((v0).length : Nat) : Int)) (
 need (inb v16 (((v2).length : Nat) : Int)) (
 need (rng .i64 (((v2).getD (Int.toNat v16) (0 : Int)) - (1 : Int))) (
 need (inb (((v2).getD (Int.toNat v16) (0 : Int)) - (1 : Int)) (((((v0).getD (Int.toNat v16) [])).length : Nat) : Int)) (
 need (rng .i64 ((0 : Int) - ((((v0).getD (Int.toNat v16) [])).getD (Int.toNat (((v2).getD (Int.toNat v16) (0 : Int)) - (1 : Int))) (0 : Int)))) (
 brO (decide ((0 : Int) ≤ v17)) (
 need (inb v17 (((v0).length : Nat) : Int)) (
 need (inb v17 (((v2).length : Nat) : Int)) (
 need (inb ((v2).getD (Int.toNat v17) (0 : Int)) (((((v0).getD (Int.toNat v17) [])).length : Nat) : Int)) (
 need (rng .i64 (((0 : Int) - ((((v0).getD (Int.toNat v16) [])).getD (Int.toNat (((v2).getD (Int.toNat v16) (0 : Int)) - (1 : Int))) (0 : Int))) + ((((v0).getD (Int.toNat v17) [])).getD (Int.toNat ((v2).getD (Int.toNat v17) (0 : Int))) (0 : Int)))) (
 brO (decide (v15 < (((0 : Int) - ((((v0).getD (Int.toNat v16) [])).getD (Int.toNat (((v2).getD (Int.toNat v16) (0 : Int)) - (1 : Int))) (0 : Int))) + ((((v0).getD (Int.toNat v17) [])).getD (Int.toNat ((v2).getD (Int.toNat v17) (0 : Int))) (0 : Int))))) (
 need (rng .i64 (v17 + (1 : Int))) (
 some (.inl (v0, (v1, (v2, (v11, (v16, (v17, ((((0 : Int) - ((((v0).getD (Int.toNat v16) [])).getD (Int.toNat (((v2).getD (Int.toNat v16) (0 : Int)) - (1 : Int))) (0 : Int))) + ((((v0).getD (Int.toNat v17) [])).getD (Int.toNat ((v2).getD (Int.toNat v17) (0 : Int))) (0 : Int))), (v16, ((v17 + (1 : Int)), ())))))))))))) (
 need (rng .i64 (v17 + (1 : Int))) (
 some (.inl (v0, (v1, (v2, (v11, (v13, (v14, (v15, (v16, ((v17 + (1 : Int)), ()))))))))))))))))) (
 brO (decide (v15 < ((0 : Int) - ((((v0).getD (Int.toNat v16) [])).getD (Int.toNat (((v2).getD (Int.toNat v16) (0 : Int)) - (1 : Int))) (0 : Int))))) (
 need (rng .i64 (v17 + (1 : Int))) (
 some (.inl (v0, (v1, (v2, (v11, (v16, (v17, (((0 : Int) - ((((v0).getD (Int.toNat v16) [])).getD (Int.toNat (((v2).getD (Int.toNat v16) (0 : Int)) - (1 : Int))) (0 : Int))), (v16, ((v17 + (1 : Int)), ())))))))))))) (
 need (rng .i64 (v17 + (1 : Int))) (
 some (.inl (v0, (v1, (v2, (v11, (v13, (v14, (v15, (v16, ((v17 + (1 : Int)), ()))))))))))))))))))) (
 brO (decide ((0 : Int) ≤ v17)) (
 need (inb v17 (((v0).length : Nat) : Int)) (
 need (inb v17 (((v2).length : Nat) : Int)) (
 need (inb ((v2).getD (Int.toNat v17) (0 : Int)) (((((v0).getD (Int.toNat v17) [])).length : Nat) : Int)) (
 need (rng .i64 ((0 : Int) + ((((v0).getD (Int.toNat v17) [])).getD (Int.toNat ((v2).getD (Int.toNat v17) (0 : Int))) (0 : Int)))) (
 brO (decide (v15 < ((0 : Int) + ((((v0).getD (Int.toNat v17) [])).getD (Int.toNat ((v2).getD (Int.toNat v17) (0 : Int))) (0 : Int))))) (
 need (rng .i64 (v17 + (1 : Int))) (
 some (.inl (v0, (v1, (v2, (v11, (v16, (v17, (((0 : Int) + ((((v0).getD (Int.toNat v17) [])).getD (Int.toNat ((v2).getD (Int.toNat v17) (0 : Int))) (0 : Int))), (v16, ((v17 + (1 : Int)), ())))))))))))) (
 need (rng .i64 (v17 + (1 : Int))) (
 some (.inl (v0, (v1, (v2, (v11, (v13, (v14, (v15, (v16, ((v17 + (1 : Int)), ()))))))))))))))))) (
 brO (decide (v15 < (0 : Int))) (
 need (rng .i64 (v17 + (1 : Int))) (
 some (.inl (v0, (v1, (v2, (v11, (v16, (v17, ((0 : Int), (v16, ((v17 + (1 : Int)), ())))))))))))) (
 need (rng .i64 (v17 + (1 : Int))) (
 some (.inl (v0, (v1, (v2, (v11, (v13, (v14, (v15, (v16, ((v17 + (1 : Int)), ())))))))))))))))))) (
 brO (decide ((0 : Int) ≤ v16)) (
 need (inb v16 (((v2).length : Nat) : Int)) (
 brO (((v2).getD (Int.toNat v16) (0 : Int)) == (0 : Int)) (
 need (rng .i64 (v17 + (1 : Int))) (
 some (.inl (v0, (v1, (v2, (v11, (v13, (v14, (v15, (v16, ((v17 + (1 : Int)), ())))))))))))) (
 brO (decide ((0 : Int) ≤ v17)) (
 need (inb v17 (((v2).length : Nat) : Int)) (
 need (inb v17 (((v0).length : Nat) : Int)) (
 brO (((v2).getD (Int.toNat v17) (0 : Int)) == (((((v0).getD (Int.toNat v17) [])).length : Nat) : Int)) (
 need (rng .i64 (v17 + (1 : Int))) (
 some (.inl (v0, (v1, (v2, (v11, (v13, (v14, (v15, (v16, ((v17 + (1 : Int)), ())))))))))))) (
 brO (decide ((0 : Int) ≤ v16)) (
 need (inb v16 (((v0).length : Nat) : Int)) (
 need (inb v16 (((v2).length : Nat) : Int)) (
 need (rng .i64 (((v2).getD (Int.toNat v16) (0 : Int)) - (1 : Int))) (
 need (inb (((v2).getD (Int.toNat v16) (0 : Int)) - (1 : Int)) (((((v0).getD (Int.toNat v16) [])).length : Nat) : Int)) (
 need (rng .i64 ((0 : Int) - ((((v0).getD (Int.toNat v16) [])).getD (Int.toNat (((v2).getD (Int.toNat v16) (0 : Int)) - (1 : Int))) (0 : Int)))) (
 brO (decide ((0 : Int) ≤ v17)) (
 need (inb v17 (((v0).length : Nat) : Int)) (
 need (inb v17 (((v2).length : Nat) : Int)) (
 need (inb ((v2).getD (Int.toNat v17) (0 : Int)) (((((v0).getD (Int.toNat v17) [])).length : Nat) : Int)) (
 need (rng .i64 (((0 : Int) - ((((v0).getD (Int.toNat v16) [])).getD (Int.toNat (((v2).getD (Int.toNat v16) (0 : Int)) - (1 : Int))) (0 : Int))) + ((((v0).getD (Int.toNat v17) [])).getD (Int.toNat ((v2).getD (Int.toNat v17) (0 : Int))) (0 : Int)))) (
 brO (decide (v15 < (((0 : Int) - ((((v0).getD (Int.toNat v16) [])).getD (Int.toNat (((v2).getD (Int.toNat v16) (0 : Int)) - (1 : Int))) (0 : Int))) + ((((v0).getD (Int.toNat v17) [])).getD (Int.toNat ((v2).getD (Int.toNat v17) (0 : Int))) (0 : Int))))) (
 need (rng .i64 (v17 + (1 : Int))) (
 some (.inl (v0, (v1, (v2, (v11, (v16, (v17, ((((0 : Int) - ((((v0).getD (Int.toNat v16) [])).getD (Int.toNat (((v2).getD (Int.toNat v16) (0 : Int)) - (1 : Int))) (0 : Int))) + ((((v0).getD (Int.toNat v17) [])).getD (Int.toNat ((v2).getD (Int.toNat v17) (0 : Int))) (0 : Int))), (v16, ((v17 + (1 : Int)), ())))))))))))) (
 need (rng .i64 (v17 + (1 : Int))) (
 some (.inl (v0, (v1, (v2, (v11, (v13, (v14, (v15, (v16, ((v17 + (1 : Int)), ()))))))))))))))))) (
 brO (decide (v15 < ((0 : Int) - ((((v0).getD (Int.toNat v16) [])).getD (Int.toNat (((v2).getD (Int.toNat v16) (0 : Int)) - (1 : Int))) (0 : Int))))) (
 need (rng .i64 (v17 + (1 : Int))) (
 some (.inl (v0, (v1, (v2, (v11, (v16, (v17, (((0 : Int) - ((((v0).getD (Int.toNat v16) [])).getD (Int.toNat (((v2).getD (Int.toNat v16) (0 : Int)) - (1 : Int))) (0 : Int))), (v16, ((v17 + (1 : Int)), ())))))))))))) (
 need (rng .i64 (v17 + (1 : Int))) (
 some (.inl (v0, (v1, (v2, (v11, (v13, (v14, (v15, (v16, ((v17 + (1 : Int)), ()))))))))))))))))))) (
 brO (decide ((0 : Int) ≤ v17)) (
 need (inb v17 (((v0).length : Nat) : Int)) (
 need (inb v17 (((v2).length : Nat) : Int)) (
 need (inb ((v2).getD (Int.toNat v17) (0 : Int)) (((((v0).getD (Int.toNat v17) [])).length : Nat) : Int)) (
 need (rng .i64 ((0 : Int) + ((((v0).getD (Int.toNat v17) [])).getD (Int.toNat ((v2).getD (Int.toNat v17) (0 : Int))) (0 : Int)))) (
 brO (decide (v15 < ((0 : Int) + ((((v0).getD (Int.toNat v17) [])).getD (Int.toNat ((v2).getD (Int.toNat v17) (0 : Int))) (0 : Int))))) (
 need (rng .i64 (v17 + (1 : Int))) (
 some (.inl (v0, (v1, (v2, (v11, (v16, (v17, (((0 : Int) + ((((v0).getD (Int.toNat v17) [])).getD (Int.toNat ((v2).getD (Int.toNat v17) (0 : Int))) (0 : Int))), (v16, ((v17 + (1 : Int)), ())))))))))))) (
 need (rng .i64 (v17 + (1 : Int))) (
 some (.inl (v0, (v1, (v2, (v11, (v13, (v14, (v15, (v16, ((v17 + (1 : Int)), ()))))))))))))))))) (
 brO (decide (v15 < (0 : Int))) (
 need (rng .i64 (v17 + (1 : Int))) (
 some (.inl (v0, (v1, (v2, (v11, (v16, (v17, ((0 : Int), (v16, ((v17 + (1 : Int)), ())))))))))))) (
 need (rng .i64 (v17 + (1 : Int))) (
 some (.inl (v0, (v1, (v2, (v11, (v13, (v14, (v15, (v16, ((v17 + (1 : Int)), ())))))))))))))))))) (
 brO (decide ((0 : Int) ≤ v16)) (
 need (inb v16 (((v0).length : Nat) : Int)) (
 need (inb v16 (((v2).length : Nat) : Int)) (
 need (rng .i64 (((v2).getD (Int.toNat v16) (0 : Int)) - (1 : Int))) (
 need (inb (((v2).getD (Int.toNat v16) (0 : Int)) - (1 : Int)) (((((v0).getD (Int.toNat v16) [])).length : Nat) : Int)) (
 need (rng .i64 ((0 : Int) - ((((v0).getD (Int.toNat v16) [])).getD (Int.toNat (((v2).getD (Int.toNat v16) (0 : Int)) - (1 : Int))) (0 : Int)))) (
 brO (decide ((0 : Int) ≤ v17)) (
 need (inb v17 (((v0).length : Nat) : Int)) (
 need (inb v17 (((v2).length : Nat) : Int)) (
 need (inb ((v2).getD (Int.toNat v17) (0 : Int)) (((((v0).getD (Int.toNat v17) [])).length : Nat) : Int)) (
 need (rng .i64 (((0 : Int) - ((((v0).getD (Int.toNat v16) [])).getD (Int.toNat (((v2).getD (Int.toNat v16) (0 : Int)) - (1 : Int))) (0 : Int))) + ((((v0).getD (Int.toNat v17) [])).getD (Int.toNat ((v2).getD (Int.toNat v17) (0 : Int))) (0 : Int)))) (
 brO (decide (v15 < (((0 : Int) - ((((v0).getD (Int.toNat v16) [])).getD (Int.toNat (((v2).getD (Int.toNat v16) (0 : Int)) - (1 : Int))) (0 : Int))) + ((((v0).getD (Int.toNat v17) [])).getD (Int.toNat ((v2).getD (Int.toNat v17) (0 : Int))) (0 : Int))))) (
 need (rng .i64 (v17 + (1 : Int))) (
 some (.inl (v0, (v1, (v2, (v11, (v16, (v17, ((((0 : Int) - ((((v0).getD (Int.toNat v16) [])).getD (Int.toNat (((v2).getD (Int.toNat v16) (0 : Int)) - (1 : Int))) (0 : Int))) + ((((v0).getD (Int.toNat v17) [])).getD (Int.toNat ((v2).getD (Int.toNat v17) (0 : Int))) (0 : Int))), (v16, ((v17 + (1 : Int)), ())))))))))))) (
 need (rng .i64 (v17 + (1 : Int))) (
 some (.inl (v0, (v1, (v2, (v11, (v13, (v14, (v15, (v16, ((v17 + (1 : Int)), ()))))))))))))))))) (
 brO (decide (v15 < ((0 : Int) - ((((v0).getD (Int.toNat v16) [])).getD (Int.toNat (((v2).getD (Int.toNat v16) (0 : Int)) - (1 : Int))) (0 : Int))))) (
 need (rng .i64 (v17 + (1 : Int))) (
 some (.inl (v0, (v1, (v2, (v11, (v16, (v17, (((0 : Int) - ((((v0).getD (Int.toNat v16) [])).getD (Int.toNat (((v2).getD (Int.toNat v16) (0 : Int)) - (1 : Int))) (0 : Int))), (v16, ((v17 + (1 : Int)), ())))))))))))) (
 need (rng .i64 (v17 + (1 : Int))) (
 some (.inl (v0, (v1, (v2, (v11, (v13, (v14, (v15, (v16, ((v17 + (1 : Int)), ()))))))))))))))))))) (
 brO (decide ((0 : Int) ≤ v17)) (
 need (inb v17 (((v0).length : Nat) : Int)) (
 need (inb v17 (((v2).length : Nat) : Int)) (
 need (inb ((v2).getD (Int.toNat v17) (0 : Int)) (((((v0).getD (Int.toNat v17) [])).length : Nat) : Int)) (
 need (rng .i64 ((0 : Int) + ((((v0).getD (Int.toNat v17) [])).getD (Int.toNat ((v2).getD (Int.toNat v17) (0 : Int))) (0 : Int)))) (
 brO (decide (v15 < ((0 : Int) + ((((v0).getD (Int.toNat v17) [])).getD (Int.toNat ((v2).getD (Int.toNat v17) (0 : Int))) (0 : Int))))) (
 need (rng .i64 (v17 + (1 : Int))) (
 some (.inl (v0, (v1, (v2, (v11, (v16, (v17, (((0 : Int) + ((((v0).getD (Int.toNat v17) [])).getD (Int.toNat ((v2).getD (Int.toNat v17) (0 : Int))) (0 : Int))), (v16, ((v17 + (1 : Int)), ())))))))))))) (
 need (rng .i64 (v17 + (1 : Int))) (
 some (.inl (v0, (v1, (v2, (v11, (v13, (v14, (v15, (v16, ((v17 + (1 : Int)), ()))))))))))))))))) (
 brO (decide (v15 < (0 : Int))) (
 need (rng .i64 (v17 + (1 : Int))) (
 some (.inl (v0, (v1, (v2, (v11, (v16, (v17, ((0 : Int), (v16, ((v17 + (1 : Int)), ())))))))))))) (
 need (rng .i64 (v17 + (1 : Int))) (
 some (.inl (v0, (v1, (v2, (v11, (v13, (v14, (v15, (v16, ((v17 + (1 : Int)), ())))))))))))))))))) (
 brO (decide ((0 : Int) ≤ v17)) (
 need (inb v17 (((v2).length : Nat) : Int)) (
 need (inb v17 (((v0).length : Nat) : Int)) (
 brO (((v2).getD (Int.toNat v17) (0 : Int)) == (((((v0).getD (Int.toNat v17) [])).length : Nat) : Int)) (
 need (rng .i64 (v17 + (1 : Int))) (
 some (.inl (v0, (v1, (v2, (v11, (v13, (v14, (v15, (v16, ((v17 + (1 : Int)), ())))))))))))) (
 brO (decide ((0 : Int) ≤ v16)) (
 need (inb v16 (((v0).length : Nat) : Int)) (
 need (inb v16 (((v2).length : Nat) : Int)) (
 need (rng .i64 (((v2).getD (Int.toNat v16) (0 : Int)) - (1 : Int))) (
 need (inb (((v2).getD (Int.toNat v16) (0 : Int)) - (1 : Int)) (((((v0).getD (Int.toNat v16) [])).length : Nat) : Int)) (
 need (rng .i64 ((0 : Int) - ((((v0).getD (Int.toNat v16) [])).getD (Int.toNat (((v2).getD (Int.toNat v16) (0 : Int)) - (1 : Int))) (0 : Int)))) (
 brO (decide ((0 : Int) ≤ v17)) (
 need (inb v17 (((v0).length : Nat) : Int)) (
 need (inb v17 (((v2).length : Nat) : Int)) (
 need (inb ((v2).getD (Int.toNat v17) (0 : Int)) (((((v0).getD (Int.toNat v17) [])).length : Nat) : Int)) (
 need (rng .i64 (((0 : Int) - ((((v0).getD (Int.toNat v16) [])).getD (Int.toNat (((v2).getD (Int.toNat v16) (0 : Int)) - (1 : Int))) (0 : Int))) + ((((v0).getD (Int.toNat v17) [])).getD (Int.toNat ((v2).getD (Int.toNat v17) (0 : Int))) (0 : Int)))) (
 brO (decide (v15 < (((0 : Int) - ((((v0).getD (Int.toNat v16) [])).getD (Int.toNat (((v2).getD (Int.toNat v16) (0 : Int)) - (1 : Int))) (0 : Int))) + ((((v0).getD (Int.toNat v17) [])).getD (Int.toNat ((v2).getD (Int.toNat v17) (0 : Int))) (0 : Int))))) (
 need (rng .i64 (v17 + (1 : Int))) (
 some (.inl (v0, (v1, (v2, (v11, (v16, (v17, ((((0 : Int) - ((((v0).getD (Int.toNat v16) [])).getD (Int.toNat (((v2).getD (Int.toNat v16) (0 : Int)) - (1 : Int))) (0 : Int))) + ((((v0).getD (Int.toNat v17) [])).getD (Int.toNat ((v2).getD (Int.toNat v17) (0 : Int))) (0 : Int))), (v16, ((v17 + (1 : Int)), ())))))))))))) (
 need (rng .i64 (v17 + (1 : Int))) (
 some (.inl (v0, (v1, (v2, (v11, (v13, (v14, (v15, (v16, ((v17 + (1 : Int)), ()))))))))))))))))) (
 brO (decide (v15 < ((0 : Int) - ((((v0).getD (Int.toNat v16) [])).getD (Int.toNat (((v2).getD (Int.toNat v16) (0 : Int)) - (1 : Int))) (0 : Int))))) (
 need (rng .i64 (v17 + (1 : Int))) (
 some (.inl (v0, (v1, (v2, (v11, (v16, (v17, (((0 : Int) - ((((v0).getD (Int.toNat v16) [])).getD (Int.toNat (((v2).getD (Int.toNat v16) (0 : Int)) - (1 : Int))) (0 : Int))), (v16, ((v17 + (1 : Int)), ())))))))))))) (
 need (rng .i64 (v17 + (1 : Int))) (
 some (.inl (v0, (v1, (v2, (v11, (v13, (v14, (v15, (v16, ((v17 + (1 : Int)), ()))))))))))))))))))) (
 brO (decide ((0 : Int) ≤ v17)) (
 need (inb v17 (((v0).length : Nat) : Int)) (
 need (inb v17 (((v2).length : Nat) : Int)) (
 need (inb ((v2).getD (Int.toNat v17) (0 : Int)) (((((v0).getD (Int.toNat v17) [])).length : Nat) : Int)) (
 need (rng .i64 ((0 : Int) + ((((v0).getD (Int.toNat v17) [])).getD (Int.toNat ((v2).getD (Int.toNat v17) (0 : Int))) (0 : Int)))) (
 brO (decide (v15 < ((0 : Int) + ((((v0).getD (Int.toNat v17) [])).getD (Int.toNat ((v2).getD (Int.toNat v17) (0 : Int))) (0 : Int))))) (
 need (rng .i64 (v17 + (1 : Int))) (
 some (.inl (v0, (v1, (v2, (v11, (v16, (v17, (((0 : Int) + ((((v0).getD (Int.toNat v17) [])).getD (Int.toNat ((v2).getD (Int.toNat v17) (0 : Int))) (0 : Int))), (v16, ((v17 + (1 : Int)), ())))))))))))) (
 need (rng .i64 (v17 + (1 : Int))) (
 some (.inl (v0, (v1, (v2, (v11, (v13, (v14, (v15, (v16, ((v17 + (1 : Int)), ()))))))))))))))))) (
 brO (decide (v15 < (0 : Int))) (
 need (rng .i64 (v17 + (1 : Int))) (
 some (.inl (v0, (v1, (v2, (v11, (v16, (v17, ((0 : Int), (v16, ((v17 + (1 : Int)), ())))))))))))) (
 need (rng .i64 (v17 + (1 : Int))) (
 some (.inl (v0, (v1, (v2, (v11, (v13, (v14, (v15, (v16, ((v17 + (1 : Int)), ())))))))))))))))))) (
 brO (decide ((0 : Int) ≤ v16)) (
 need (inb v16 (((v0).length : Nat) : Int)) (
 need (inb v16 (((v2).length : Nat) : Int)) (
 need (rng .i64 (((v2).getD (Int.toNat v16) (0 : Int)) - (1 : Int))) (
 need (inb (((v2).getD (Int.toNat v16) (0 : Int)) - (1 : Int)) (((((v0).getD (Int.toNat v16) [])).length : Nat) : Int)) (
 need (rng .i64 ((0 : Int) - ((((v0).getD (Int.toNat v16) [])).getD (Int.toNat (((v2).getD (Int.toNat v16) (0 : Int)) - (1 : Int))) (0 : Int)))) (
 brO (decide ((0 : Int) ≤ v17)) (
 need (inb v17 (((v0).length : Nat) : Int)) (
 need (inb v17 (((v2).length : Nat) : Int)) (
 need (inb ((v2).getD (Int.toNat v17) (0 : Int)) (((((v0).getD (Int.toNat v17) [])).length : Nat) : Int)) (
 need (rng .i64 (((0 : Int) - ((((v0).getD (Int.toNat v16) [])).getD (Int.toNat (((v2).getD (Int.toNat v16) (0 : Int)) - (1 : Int))) (0 : Int))) + ((((v0).getD (Int.toNat v17) [])).getD (Int.toNat ((v2).getD (Int.toNat v17) (0 : Int))) (0 : Int)))) (
 brO (decide (v15 < (((0 : Int) - ((((v0).getD (Int.toNat v16) [])).getD (Int.toNat (((v2).getD (Int.toNat v16) (0 : Int)) - (1 : Int))) (0 : Int))) + ((((v0).getD (Int.toNat v17) [])).getD (Int.toNat ((v2).getD (Int.toNat v17) (0 : Int))) (0 : Int))))) (
 need (rng .i64 (v17 + (1 : Int))) (
 some (.inl (v0, (v1, (v2, (v11, (v16, (v17, ((((0 : Int) - ((((v0).getD (Int.toNat v16) [])).getD (Int.toNat (((v2).getD (Int.toNat v16) (0 : Int)) - (1 : Int))) (0 : Int))) + ((((v0).getD (Int.toNat v17) [])).getD (Int.toNat ((v2).getD (Int.toNat v17) (0 : Int))) (0 : Int))), (v16, ((v17 + (1 : Int)), ())))))))))))) (
 need (rng .i64 (v17 + (1 : Int))) (
 some (.inl (v0, (v1, (v2, (v11, (v13, (v14, (v15, (v16, ((v17 + (1 : Int)), ()))))))))))))))))) (
 brO (decide (v15 < ((0 : Int) - ((((v0).getD (Int.toNat v16) [])).getD (Int.toNat (((v2).getD (Int.toNat v16) (0 : Int)) - (1 : Int))) (0 : Int))))) (
 need (rng .i64 (v17 + (1 : Int))) (
 some (.inl (v0, (v1, (v2, (v11, (v16, (v17, (((0 : Int) - ((((v0).getD (Int.toNat v16) [])).getD (Int.toNat (((v2).getD (Int.toNat v16) (0 : Int)) - (1 : Int))) (0 : Int))), (v16, ((v17 + (1 : Int)), ())))))))))))) (
 need (rng .i64 (v17 + (1 : Int))) (
 some (.inl (v0, (v1, (v2, (v11, (v13, (v14, (v15, (v16, ((v17 + (1 : Int)), ()))))))))))))))))))) (
 brO (decide ((0 : Int) ≤ v17)) (
 need (inb v17 (((v0).length : Nat) : Int)) (
 need (inb v17 (((v2).length : Nat) : Int)) (
 need (inb ((v2).getD (Int.toNat v17) (0 : Int)) (((((v0).getD (Int.toNat v17) [])).length : Nat) : Int)) (
 need (rng .i64 ((0 : Int) + ((((v0).getD (Int.toNat v17) [])).getD (Int.toNat ((v2).getD (Int.toNat v17) (0 : Int))) (0 : Int)))) (
 brO (decide (v15 < ((0 : Int) + ((((v0).getD (Int.toNat v17) [])).getD (Int.toNat ((v2).getD (Int.toNat v17) (0 : Int))) (0 : Int))))) (
 need (rng .i64 (v17 + (1 : Int))) (
 some (.inl (v0, (v1, (v2, (v11, (v16, (v17, (((0 : Int) + ((((v0).getD (Int.toNat v17) [])).getD (Int.toNat ((v2).getD (Int.toNat v17) (0 : Int))) (0 : Int))), (v16, ((v17 + (1 : Int)), ())))))))))))) (
 need (rng .i64 (v17 + (1 : Int))) (
 some (.inl (v0, (v1, (v2, (v11, (v13, (v14, (v15, (v16, ((v17 + (1 : Int)), ()))))))))))))))))) (
 brO (decide (v15 < (0 : Int))) (
 need (rng .i64 (v17 + (1 : Int))) (
 some (.inl (v0, (v1, (v2, (v11, (v16, (v17, ((0 : Int), (v16, ((v17 + (1 : Int)), ())))))))))))) (
 need (rng .i64 (v17 + (1 : Int))) (
 some (.inl (v0, (v1, (v2, (v11, (v13, (v14, (v15, (v16, ((v17 + (1 : Int)), ()))))))))))))))))))) (
 some (.inr (v0, (v1, (v2, (v11, (v13, (v14, (v15, (v16, ()))))))))))
theorem s34_1 : ∀ x, roundE (kzO (p34_1.T ⊕ x34_1.T)) cx34 ar0 [] p34_1 x34_1 (b34_1) (fun y => some (.inl y)) (fun b => some (.inr b)) x = g34_1 x.1 x.2.1 x.2.2.1 x.2.2.2.1 x.2.2.2.2.1 x.2.2.2.2.2.1 x.2.2.2.2.2.2.1 x.2.2.2.2.2.2.2.1 x.2.2.2.2.2.2.2.2.1 := by intro x; kernel_rfl
noncomputable def L34_1 : LoopS prog 135 none 0 := mkLoop mixed cx34 cx34_ok [] rfl p34_1 x34_1 rfl (b34_1) (fun x => g34_1 x.1 x.2.1 x.2.2.1 x.2.2.2.1 x.2.2.2.2.1 x.2.2.2.2.2.1 x.2.2.2.2.2.2.1 x.2.2.2.2.2.2.2.1 x.2.2.2.2.2.2.2.2.1) (s34_1)
@[reducible] def p34_0 : Pat := Pat.mk [(0, .c (.hole (.list (.list (.int .i64))))), (1, .c (.hole (.int .i64))), (2, .c (.hole (.list (.int .i64)))), (11, .c (.hole (.int .i64))), (13, .c (.hole (.int .i64))), (14, .c (.hole (.int .i64))), (15, .c (.hole (.int .i64))), (16, .c (.hole (.int .i64)))] [] [] []
@[reducible] def x34_0 : Outs := [(.exit 0, Pat.mk [(13, .c (.hole (.int .i64))), (14, .c (.hole (.int .i64))), (15, .c (.hole (.int .i64)))] [] [] [])]
noncomputable def b34_0 : D prog 135 none 0 := (.seq (.seq (.reg [.op (some 44) none (.mv (.t 16)), .op (some 45) none (.mv (.t 0)), .op (some 46) none (.len (.t 45)), .op (some 47) none (.bin .lss (.t 44) (.t 46))]) (.cond ( .t 47) .skip (.exit 0))) (.seq (.block 1 (.seq (.reg [.op (some 17) none (.mv (.c (.int .i64 (Int.negSucc 0))))]) (.block 2 (.loop L34_1)))) (.reg [.op (some 48) none (.mv (.t 16)), .op (some 49) none (.bin .add (.t 48) (.c (.int .i64 (Int.ofNat 1)))), .op (some 16) none (.mv (.t 49))])))
noncomputable def g34_0 (v0 : List (List Int)) (v1 : Int) (v2 : List Int) (v11 : Int) (v13 : Int) (v14 : Int) (v15 : Int) (v16 : Int) : Option ((List (List Int) × Int × List Int × Int × Int × Int × Int × Int × Unit) ⊕ ((Int × Int × Int × Unit))) :=
 brO (decide (v16 < (((v0).length : Nat) : Int))) (
 bindO (iter (fun x => g34_1 x.1 x.2.1 x.2.2.1 x.2.2.2.1 x.2.2.2.2.1 x.2.2.2.2.2.1 x.2.2.2.2.2.2.1 x.2.2.2.2.2.2.2.1 x.2.2.2.2.2.2.2.2.1) (v0, (v1, (v2, (v11, (v13, (v14, (v15, (v16, ((-1 : Int), ())))))))))) fun z3 =>
 need (rng .i64 (z3.2.2.2.2.2.2.2.1 + (1 : Int))) (
 some (.inl (z3.1, (z3.2.1, (z3.2.2.1, (z3.2.2.2.1, (z3.2.2.2.2.1, (z3.2.2.2.2.2.1, (z3.2.2.2.2.2.2.1, ((z3.2.2.2.2.2.2.2.1 + (1 : Int)), ()))))))))))) (
 some (.inr (v13, (v14, (v15, ())))))
theorem s34_0 : ∀ x, roundE (kzO (p34_0.T ⊕ x34_0.T)) cx34 ar0 [] p34_0 x34_0 (b34_0) (fun y => some (.inl y)) (fun b => some (.inr b)) x = g34_0 x.1 x.2.1 x.2.2.1 x.2.2.2.1 x.2.2.2.2.1 x.2.2.2.2.2.1 x.2.2.2.2.2.2.1 x.2.2.2.2.2.2.2.1 := by intro x; kernel_rfl
noncomputable def L34_0 : LoopS prog 135 none 0 := mkLoop mixed cx34 cx34_ok [] rfl p34_0 x34_0 rfl (b34_0) (fun x => g34_0 x.1 x.2.1 x.2.2.1 x.2.2.2.1 x.2.2.2.2.1 x.2.2.2.2.2.1 x.2.2.2.2.2.2.1 x.2.2.2.2.2.2.2.1) (s34_0)
noncomputable def dd34 : D prog 135 none 0 := (.seq (.reg [.op (some 6) none (.mv (.c (.int .i64 (Int.ofNat 0)))), .op (some 7) none (.mv (.c (.int .i64 (Int.ofNat 0)))), .op (some 8) none (.mv (.c (.int .i64 (Int.ofNat 0)))), .op (some 9) none (.mv (.c (.int .i64 (Int.ofNat 0))))]) (.seq (.reg [.op (some 19) none (.mv (.t 0)), .call (some 20) none (.c (.fn 21 [] [])) [.t 19] [some (.list (.list (.int .i64)))], .op (some 10) none (.mv (.t 20))]) (.seq (.seq (.reg [.op (some 21) none (.mv (.t 10)), .op (some 22) none (.bin .eql (.t 21) (.c (.int .i64 (Int.ofNat 0)))), .op (some 23) none (.mv (.t 22)), .op (some 24) (some (23, true)) (.mv (.t 1)), .call (some 25) (some (23, true)) (.c (.fn 50 [] [])) [.t 24, .c (.int .i64 (Int.ofNat 0)), .c (.int .i64 (Int.ofNat 200))] [some (.int .i64), some (.int .i64), some (.int .i64)], .op (some 26) (some (23, true)) (.not (.t 25)), .op (some 27) none (.pick (.t 23) (.t 26) (.c (.tf false)))]) (.cond ( .t 27) (.reg [.op (some 10) none (.mv (.c (.int .i64 (Int.ofNat 2))))]) .skip)) (.seq (.seq (.reg [.op (some 28) none (.mv (.t 10)), .op (some 29) none (.bin .neq (.t 28) (.c (.int .i64 (Int.ofNat 0))))]) (.cond ( .t 29) (.seq (.reg [.op (some 30) none (.mv (.t 10)), .op (some 6) none (.mv (.c (.int .i64 (Int.ofNat 0)))), .op (some 7) none (.mv (.c (.int .i64 (Int.ofNat 0)))), .op (some 8) none (.mv (.c (.int .i64 (Int.ofNat 0)))), .op (some 9) none (.mv (.t 30))]) .ret) .skip)) (.seq (.reg [.op (some 32) none (.mv (.t 0)), .op (some 33) none (.mv (.t 2)), .call (some 34) none (.c (.fn 19 [] [])) [.t 32, .t 33] [some (.list (.list (.int .i64))), some (.list (.int .i64))], .op (some 31) none (.mv (.t 34)), .op (some 35) none (.ext 0 (.t 31)), .op (some 36) none (.ext 1 (.t 31)), .op (some 37) none (.ext 2 (.t 31)), .op (some 11) none (.mv (.t 35)), .op (some 12) none (.mv (.t 36)), .op (some 10) none (.mv (.t 37))]) (.seq (.seq (.reg [.op (some 38) none (.mv (.t 10)), .op (some 39) none (.bin .neq (.t 38) (.c (.int .i64 (Int.ofNat 0))))]) (.cond ( .t 39) (.seq (.reg [.op (some 40) none (.mv (.t 10)), .op (some 6) none (.mv (.c (.int .i64 (Int.ofNat 0)))), .op (some 7) none (.mv (.c (.int .i64 (Int.ofNat 0)))), .op (some 8) none (.mv (.c (.int .i64 (Int.ofNat 0)))), .op (some 9) none (.mv (.t 40))]) .ret) .skip)) (.seq (.seq (.reg [.op (some 41) none (.mv (.t 11)), .op (some 42) none (.mv (.t 1)), .op (some 43) none (.bin .gtr (.t 41) (.t 42))]) (.cond ( .t 43) (.seq (.reg [.op (some 6) none (.mv (.c (.int .i64 (Int.ofNat 0)))), .op (some 7) none (.mv (.c (.int .i64 (Int.ofNat 0)))), .op (some 8) none (.mv (.c (.int .i64 (Int.ofNat 0)))), .op (some 9) none (.mv (.c (.int .i64 (Int.ofNat 10))))]) .ret) .skip)) (.seq (.reg [.op (some 13) none (.mv (.c (.int .i64 (Int.ofNat 0)))), .op (some 14) none (.mv (.c (.int .i64 (Int.ofNat 0)))), .op (some 15) none (.mv (.c (.int .i64 (Int.ofNat 0))))]) (.seq (.seq (.reg [.op (some 16) none (.mv (.c (.int .i64 (Int.negSucc 0))))]) (.block 0 (.loop L34_0))) (.seq (.seq (.reg [.op (some 130) none (.mv (.t 15)), .op (some 131) none (.bin .eql (.t 130) (.c (.int .i64 (Int.ofNat 0))))]) (.cond ( .t 131) (.seq (.reg [.op (some 6) none (.mv (.c (.int .i64 (Int.ofNat 0)))), .op (some 7) none (.mv (.c (.int .i64 (Int.ofNat 0)))), .op (some 8) none (.mv (.c (.int .i64 (Int.ofNat 0)))), .op (some 9) none (.mv (.c (.int .i64 (Int.ofNat 5))))]) .ret) .skip)) (.seq (.reg [.op (some 132) none (.mv (.t 13)), .op (some 133) none (.mv (.t 14)), .op (some 134) none (.mv (.t 15)), .op (some 6) none (.mv (.t 132)), .op (some 7) none (.mv (.t 133)), .op (some 8) none (.mv (.t 134)), .op (some 9) none (.mv (.c (.int .i64 (Int.ofNat 0))))]) .ret)))))))))))
noncomputable def F34 (a0 : List (List Int)) (a1 : Int) (a2 : List Int) : Option (Int × Int × Int × Int × Unit) :=
 bindO (F21 a0) fun y0 =>
 brO (y0.1 == (0 : Int)) (
 bindO (F50 a1 (0 : Int) (200 : Int)) fun y1 =>
 brO (!y1.1) (
 brO (!((2 : Int) == (0 : Int))) (
 some ((0 : Int), ((0 : Int), ((0 : Int), ((2 : Int), ()))))) (
 bindO (F19 a0 a2) fun y2 =>
 brO (!(y2.2.2.1 == (0 : Int))) (
 some ((0 : Int), ((0 : Int), ((0 : Int), (y2.2.2.1, ()))))) (
 brO (decide (a1 < y2.1)) (
 some ((0 : Int), ((0 : Int), ((0 : Int), ((10 : Int), ()))))) (
 bindO (iter (fun x => g34_0 x.1 x.2.1 x.2.2.1 x.2.2.2.1 x.2.2.2.2.1 x.2.2.2.2.2.1 x.2.2.2.2.2.2.1 x.2.2.2.2.2.2.2.1) (a0, (a1, (a2, (y2.1, ((0 : Int), ((0 : Int), ((0 : Int), ((-1 : Int), ()))))))))) fun z4 =>
 brO (z4.2.2.1 == (0 : Int)) (
 some ((0 : Int), ((0 : Int), ((0 : Int), ((5 : Int), ()))))) (
 some (z4.1, (z4.2.1, (z4.2.2.1, ((0 : Int), ()))))))))) (
 brO (!(y0.1 == (0 : Int))) (
 some ((0 : Int), ((0 : Int), ((0 : Int), (y0.1, ()))))) (
 bindO (F19 a0 a2) fun y5 =>
 brO (!(y5.2.2.1 == (0 : Int))) (
 some ((0 : Int), ((0 : Int), ((0 : Int), (y5.2.2.1, ()))))) (
 brO (decide (a1 < y5.1)) (
 some ((0 : Int), ((0 : Int), ((0 : Int), ((10 : Int), ()))))) (
 bindO (iter (fun x => g34_0 x.1 x.2.1 x.2.2.1 x.2.2.2.1 x.2.2.2.2.1 x.2.2.2.2.2.1 x.2.2.2.2.2.2.1 x.2.2.2.2.2.2.2.1) (a0, (a1, (a2, (y5.1, ((0 : Int), ((0 : Int), ((0 : Int), ((-1 : Int), ()))))))))) fun z6 =>
 brO (z6.2.2.1 == (0 : Int)) (
 some ((0 : Int), ((0 : Int), ((0 : Int), ((5 : Int), ()))))) (
 some (z6.1, (z6.2.1, (z6.2.2.1, ((0 : Int), ())))))))))) (
 brO (!(y0.1 == (0 : Int))) (
 some ((0 : Int), ((0 : Int), ((0 : Int), (y0.1, ()))))) (
 bindO (F19 a0 a2) fun y7 =>
 brO (!(y7.2.2.1 == (0 : Int))) (
 some ((0 : Int), ((0 : Int), ((0 : Int), (y7.2.2.1, ()))))) (
 brO (decide (a1 < y7.1)) (
 some ((0 : Int), ((0 : Int), ((0 : Int), ((10 : Int), ()))))) (
 bindO (iter (fun x => g34_0 x.1 x.2.1 x.2.2.1 x.2.2.2.1 x.2.2.2.2.1 x.2.2.2.2.2.1 x.2.2.2.2.2.2.1 x.2.2.2.2.2.2.2.1) (a0, (a1, (a2, (y7.1, ((0 : Int), ((0 : Int), ((0 : Int), ((-1 : Int), ()))))))))) fun z8 =>
 brO (z8.2.2.1 == (0 : Int)) (
 some ((0 : Int), ((0 : Int), ((0 : Int), ((5 : Int), ()))))) (
 some (z8.1, (z8.2.1, (z8.2.2.1, ((0 : Int), ())))))))))
theorem c34_ok : trF prog f34 = some ⟨135, 3, dd34.er, [.t 6, .t 7, .t 8, .t 9], [some (.int .i64), some (.int .i64), some (.int .i64), some (.int .i64)]⟩ := by kernel_rfl
noncomputable def ct34 : Ct := ⟨34, [.c (.hole (.list (.list (.int .i64)))), .c (.hole (.int .i64)), .c (.hole (.list (.int .i64)))], .tup [.hole (.int .i64), .hole (.int .i64), .hole (.int .i64), .hole (.int .i64)], fun x => F34 x.1 x.2.1 x.2.2.1⟩
theorem ct34_ok : ct34.Ok prog := ct_ok mixed cx34_ok func34 c34_ok (enters_of func34 rfl rfl) dd34 rfl rfl (fun x => by kernel_rfl)

/- 6 -/
noncomputable def cx6 : Cx := mkCxH [ct15, ct16, ct33, ct17, ct34] []
theorem cx6_ok : cx6.Ok prog := mkCxH_ok ⟨ct15_ok, ct16_ok, ct33_ok, ct17_ok, ct34_ok, trivial⟩ trivial
noncomputable def dd6 : D prog 63 none 0 := (.seq (.reg [.op (some 6) none (.mv (.c (.tf false)))]) (.seq (.seq (.reg [.op (some 15) none (.mv (.t 0)), .call (some 16) none (.c (.fn 15 [] [])) [.t 15] [some (.list (.list (.int .i64)))], .op (some 17) none (.mv (.t 16)), .op (some 18) (some (17, false)) (.mv (.t 2)), .op (some 19) (some (17, false)) (.len (.t 18)), .op (some 20) (some (17, false)) (.bin .gtr (.t 19) (.c (.int .i64 (Int.ofNat 30)))), .op (some 21) none (.pick (.t 17) (.c (.tf true)) (.t 20))]) (.cond ( .t 21) (.seq (.reg [.call (some 22) none (.c (.fn 16 [] [])) [] [], .op (some 6) none (.mv (.t 22))]) .ret) .skip)) (.seq (.reg [.op (some 24) none (.mv (.t 0)), .op (some 25) none (.mv (.t 1)), .op (some 26) none (.mv (.t 2)), .call (some 27) none (.c (.fn 33 [] [])) [.t 24, .t 25, .t 26] [some (.list (.list (.int .i64))), some (.int .i64), some (.list (.int .i64))], .op (some 23) none (.mv (.t 27)), .op (some 28) none (.ext 0 (.t 23)), .op (some 29) none (.ext 1 (.t 23)), .op (some 30) none (.ext 2 (.t 23)), .op (some 31) none (.ext 3 (.t 23)), .op (some 7) none (.mv (.t 28)), .op (some 8) none (.mv (.t 29)), .op (some 9) none (.mv (.t 30)), .op (some 10) none (.mv (.t 31))]) (.seq (.reg [.op (some 33) none (.mv (.t 0)), .call (some 34) none (.c (.fn 17 [] [])) [.t 33] [some (.list (.list (.int .i64)))], .op (some 35) none (.mv (.t 1)), .op (some 36) none (.mv (.t 2)), .call (some 37) none (.c (.fn 34 [] [])) [.t 34, .t 35, .t 36] [some (.list (.list (.int .i64))), some (.int .i64), some (.list (.int .i64))], .op (some 32) none (.mv (.t 37)), .op (some 38) none (.ext 0 (.t 32)), .op (some 39) none (.ext 1 (.t 32)), .op (some 40) none (.ext 2 (.t 32)), .op (some 41) none (.ext 3 (.t 32)), .op (some 11) none (.mv (.t 38)), .op (some 12) none (.mv (.t 39)), .op (some 13) none (.mv (.t 40)), .op (some 14) none (.mv (.t 41))]) (.seq (.reg [.op (some 42) none (.mv (.t 7)), .op (some 43) none (.mv (.t 11)), .op (some 44) none (.bin .eql (.t 42) (.t 43)), .op (some 45) none (.mv (.t 44)), .op (some 46) (some (45, true)) (.mv (.t 8)), .op (some 47) (some (45, true)) (.mv (.t 12)), .op (some 48) (some (45, true)) (.bin .eql (.t 46) (.t 47)), .op (some 49) none (.pick (.t 45) (.t 48) (.c (.tf false))), .op (some 50) none (.mv (.t 49)), .op (some 51) (some (50, true)) (.mv (.t 9)), .op (some 52) (some (50, true)) (.mv (.t 13)), .op (some 53) (some (50, true)) (.bin .eql (.t 51) (.t 52)), .op (some 54) none (.pick (.t 50) (.t 53) (.c (.tf false))), .op (some 55) none (.mv (.t 54)), .op (some 56) (some (55, true)) (.mv (.t 10)), .op (some 57) (some (55, true)) (.mv (.t 14)), .op (some 58) (some (55, true)) (.bin .eql (.t 56) (.t 57)), .op (some 59) none (.pick (.t 55) (.t 58) (.c (.tf false))), .op (some 60) none (.mv (.t 59)), .call (some 61) (some (60, true)) (.c (.fn 16 [] [])) [] [], .op (some 62) none (.pick (.t 60) (.t 61) (.c (.tf false))), .op (some 6) none (.mv (.t 62))]) .ret)))))
noncomputable def F6 (a0 : List (List Int)) (a1 : Int) (a2 : List Int) : Option (Bool × Unit) :=
 bindO (F15 a0) fun y0 =>
 brO y0.1 (
 bindO (F16) fun y1 =>
 some (y1.1, ())) (
 brO (decide ((30 : Int) < (((a2).length : Nat) : Int))) (
 bindO (F16) fun y2 =>
 some (y2.1, ())) (
 bindO (F33 a0 a1 a2) fun y3 =>
 bindO (F17 a0) fun y4 =>
 bindO (F34 y4.1 a1 a2) fun y5 =>
 brO (y3.1 == y5.1) (
 brO (y3.2.1 == y5.2.1) (
 brO (y3.2.2.1 == y5.2.2.1) (
 brO (y3.2.2.2.1 == y5.2.2.2.1) (
 bindO (F16) fun y6 =>
 some (y6.1, ())) (
 some (false, ()))) (
 some (false, ()))) (
 some (false, ()))) (
 some (false, ()))))
theorem c6_ok : trF prog f6 = some ⟨63, 3, dd6.er, [.t 6], [some .bool]⟩ := by kernel_rfl
noncomputable def ct6 : Ct := ⟨6, [.c (.hole (.list (.list (.int .i64)))), .c (.hole (.int .i64)), .c (.hole (.list (.int .i64)))], .c (.hole .bool), fun x => F6 x.1 x.2.1 x.2.2.1⟩
theorem ct6_ok : ct6.Ok prog := ct_ok mixed cx6_ok func6 c6_ok (enters_of func6 rfl rfl) dd6 rfl rfl (fun x => by kernel_rfl)

end Go.Proofs.Try

