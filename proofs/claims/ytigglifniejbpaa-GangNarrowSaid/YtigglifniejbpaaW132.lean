/- Functions of the program as functions of data, part 3; printed by a program of mine. -/
import Derived.Test.YtigglifniejbpaaW131
import Derived.Test.YtigglifniejbpaaProg
set_option linter.unusedVariables false
set_option linter.unusedSimpArgs false
open Go.AM
namespace Go.Proofs.Try
set_option maxRecDepth 100000


/- 13 -/
noncomputable def cx13 : Cx := mkCxH [ct42, ct43, ct35, ct16] []
theorem cx13_ok : cx13.Ok prog := mkCxH_ok ⟨ct42_ok, ct43_ok, ct35_ok, ct16_ok, trivial⟩ trivial
@[reducible] def p13_1 : Pat := Pat.mk [(2, .c (.hole (.list (.int .u8)))), (7, .c (.hole (.list (.list (.prod (.int .i64) (.int .i64)))))), (8, hzI), (9, .c (.sl0 0 (.list (.prod (.int .i64) (.int .i64))))), (10, hzI), (12, .c (.sl0 1 (.prod (.int .i64) (.int .i64)))), (30, hzM), (31, hzI), (32, hzI), (38, hzL), (39, hzI), (40, hzI)] [(0, .arr (.list (.prod (.int .i64) (.int .i64))) false), (1, .arr (.prod (.int .i64) (.int .i64)) false)] [.slot 9, .slot 12] []
@[reducible] def x13_1 : Outs := [(.exit 2, Pat.mk [(2, .c (.hole (.list (.int .u8)))), (7, .c (.hole (.list (.list (.prod (.int .i64) (.int .i64)))))), (8, hzI), (9, .c (.sl0 0 (.list (.prod (.int .i64) (.int .i64))))), (12, .c (.sl0 1 (.prod (.int .i64) (.int .i64)))), (30, hzM), (31, hzI), (32, hzI)] [(0, .arr (.list (.prod (.int .i64) (.int .i64))) false), (1, .arr (.prod (.int .i64) (.int .i64)) false)] [.slot 9, .slot 12] [])]
noncomputable def b13_1 : D prog 206 none 0 := (.seq (.reg [oo 41 (.bin .lss (.t 40) (.t 39))]) (.seq (.cond ( .t 41) .skip (.exit 2)) (.seq (.block 3 (.seq (.reg [om 42 40, oo 43 (.idx 1 (.t 38) (.t 40)), ol 44 43, om 13 42, om 14 44]) (.seq (.reg [om 45 2, oo 46 (.len (.t 45)), oo 47 (.bin .gtr (.t 46) (ki 0)), om 48 47, og 49 48 true (.mv (.t 2)), og 50 48 true (.mv (.t 10)), og 51 48 true (.mv (.t 13)), og 52 48 true (.bin .add (.t 50) (.t 51)), og 53 48 true (.mv (.t 2)), og 54 48 true (.len (.t 53)), og 55 48 true (.bin .rem (.t 52) (.t 54)), og 56 48 true (.idx 1 (.t 49) (.t 55)), og 57 48 true (.load false 1 (.t 56)), og 58 48 true (.bin .rem (.t 57) (.c (.int .u8 (Int.ofNat 3)))), og 59 48 true (.bin .eql (.t 58) (.c (.int .u8 (Int.ofNat 0)))), oo 60 (.pick (.t 48) (.t 59) (.c (.tf false)))]) (.cond ( .t 60) (.reg [om 61 12, om 62 14, om 63 14, oo 64 (.build [.int .i64 (Int.ofNat 0), .int .i64 (Int.ofNat 0)] [(0, 1, .t 62), (1, 1, .t 63)]), oo 65 (.bslice (.prod (.int .i64) (.int .i64)) [.t 64]), oo 66 (.append 2 (.t 61) (.t 65)), om 12 66]) (.draw [[], [], [], [1, 2], [1, 2, 3], [], [1, 2, 3, 4, 5], [1, 2, 3, 4, 5, 6], [1, 2, 3, 4, 5, 6, 7], [], [], [], [10, 11], [10, 11, 12], [], [10, 11, 12, 13, 14], [10, 11, 12, 13, 14, 15], [10, 11, 12, 13, 14, 15, 16], [9, 10, 11, 12, 13, 14, 15, 16, 17], [1, 2, 3, 4, 5, 6, 7, 8, 9, 10, 11, 12, 13, 14, 15, 16, 17, 18], [1, 2, 3, 4, 5, 6, 7, 8, 9, 10, 11, 12, 13, 14, 15, 16, 17, 18, 19], [0, 1, 2, 3, 4, 5, 6, 7, 8, 9, 10, 11, 12, 13, 14, 15, 16, 17, 18, 19, 20], [0, 1, 2, 3, 4, 5, 6, 7, 8, 9, 10, 11, 12, 13, 14, 15, 16, 17, 18, 19, 20, 21]] [om 67 12, om 68 7, om 69 10, oo 70 (.idx 1 (.t 68) (.t 69)), ol 71 70, om 72 13, oo 73 (.idx 2 (.t 71) (.t 72)), oo 74 (.fld 0 [false] (.t 73)), ol 75 74, om 76 14, om 77 7, om 78 10, oo 79 (.idx 1 (.t 77) (.t 78)), ol 80 79, om 81 13, oo 82 (.idx 2 (.t 80) (.t 81)), oo 83 (.fld 0 [false] (.t 82)), ol 84 83, oo 85 (.minmax true (.t 76) [.t 84]), oo 86 (.build [.int .i64 (Int.ofNat 0), .int .i64 (Int.ofNat 0)] [(0, 1, .t 75), (1, 1, .t 85)]), oo 87 (.bslice (.prod (.int .i64) (.int .i64)) [.t 86]), oo 88 (.append 2 (.t 67) (.t 87)), om 12 88]))))) (.reg [oo 89 (.bin .add (.t 40) (ki 1)), om 40 89]))))
noncomputable def g13_1 (v2 : List Int) (v7 : List (List (Int × Int))) (v8 : Int) (nv9 : Nat) (v10 : Int) (nv12 : Nat) (v30 : List (List Int)) (v31 : Int) (v32 : Int) (v38 : List Int) (v39 : Int) (v40 : Int) (b0 : List (List (Int × Int))) (b1 : List (Int × Int)) : Option ((List Int × (List (List (Int × Int))) × Int × Nat × Int × Nat × List (List Int) × Int × Int × List Int × Int × Int × (List (List (Int × Int))) × (List (Int × Int)) × Unit) ⊕ ((List Int × (List (List (Int × Int))) × Int × Nat × Nat × List (List Int) × Int × Int × (List (List (Int × Int))) × (List (Int × Int)) × Unit))) :=
 brO (decide (v40 < v39)) (
 need (inb v40 (((v38).length : Nat) : Int)) (
 brO (decide ((0 : Int) < (((v2).length : Nat) : Int))) (
 need (rng .i64 (v10 + v40)) (
 need (!((((v2).length : Nat) : Int) == (0 : Int))) (
 need (inb (Int.tmod (v10 + v40) (((v2).length : Nat) : Int)) (((v2).length : Nat) : Int)) (
 need (!((3 : Int) == (0 : Int))) (
 brO ((Int.tmod ((v2).getD (Int.toNat (Int.tmod (v10 + v40) (((v2).length : Nat) : Int))) (0 : Int)) (3 : Int)) == (0 : Int)) (
 need (decide ((nv12 + ((((((((v38).getD (Int.toNat v40) (0 : Int)), ((v38).getD (Int.toNat v40) (0 : Int))) :: [])).drop (0 : Nat)).take (1 : Nat))).length) < bigL)) (
 need (rng .i64 (v40 + (1 : Int))) (
 some (.inl (v2, (v7, (v8, (nv9, (v10, ((nv12 + ((((((((v38).getD (Int.toNat v40) (0 : Int)), ((v38).getD (Int.toNat v40) (0 : Int))) :: [])).drop (0 : Nat)).take (1 : Nat))).length), (v30, (v31, (v32, (v38, (v39, ((v40 + (1 : Int)), (b0, (((((b1).drop (0 : Nat)).take nv12) ++ (((((((v38).getD (Int.toNat v40) (0 : Int)), ((v38).getD (Int.toNat v40) (0 : Int))) :: [])).drop (0 : Nat)).take (1 : Nat))), ())))))))))))))))))) (
 need (inb v10 (((v7).length : Nat) : Int)) (
 need (inb v40 (((((v7).getD (Int.toNat v10) [])).length : Nat) : Int)) (
 need (inb v10 (((v7).length : Nat) : Int)) (
 need (inb v40 (((((v7).getD (Int.toNat v10) [])).length : Nat) : Int)) (
 need (decide ((nv12 + ((((((((((v7).getD (Int.toNat v10) [])).getD (Int.toNat v40) ((0 : Int), (0 : Int))).1, (imax ((v38).getD (Int.toNat v40) (0 : Int)) ((((v7).getD (Int.toNat v10) [])).getD (Int.toNat v40) ((0 : Int), (0 : Int))).1)) :: [])).drop (0 : Nat)).take (1 : Nat))).length) < bigL)) (
 need (rng .i64 (v40 + (1 : Int))) (
 some (.inl (v2, (v7, (v8, (nv9, (v10, ((nv12 + ((((((((((v7).getD (Int.toNat v10) [])).getD (Int.toNat v40) ((0 : Int), (0 : Int))).1, (imax ((v38).getD (Int.toNat v40) (0 : Int)) ((((v7).getD (Int.toNat v10) [])).getD (Int.toNat v40) ((0 : Int), (0 : Int))).1)) :: [])).drop (0 : Nat)).take (1 : Nat))).length), (v30, (v31, (v32, (v38, (v39, ((v40 + (1 : Int)), (b0, (((((b1).drop (0 : Nat)).take nv12) ++ (((((((((v7).getD (Int.toNat v10) [])).getD (Int.toNat v40) ((0 : Int), (0 : Int))).1, (imax ((v38).getD (Int.toNat v40) (0 : Int)) ((((v7).getD (Int.toNat v10) [])).getD (Int.toNat v40) ((0 : Int), (0 : Int))).1)) :: [])).drop (0 : Nat)).take (1 : Nat))), ()))))))))))))))))))))))))))) (
 need (inb v10 (((v7).length : Nat) : Int)) (
 need (inb v40 (((((v7).getD (Int.toNat v10) [])).length : Nat) : Int)) (
 need (inb v10 (((v7).length : Nat) : Int)) (
 need (inb v40 (((((v7).getD (Int.toNat v10) [])).length : Nat) : Int)) (
 need (decide ((nv12 + ((((((((((v7).getD (Int.toNat v10) [])).getD (Int.toNat v40) ((0 : Int), (0 : Int))).1, (imax ((v38).getD (Int.toNat v40) (0 : Int)) ((((v7).getD (Int.toNat v10) [])).getD (Int.toNat v40) ((0 : Int), (0 : Int))).1)) :: [])).drop (0 : Nat)).take (1 : Nat))).length) < bigL)) (
 need (rng .i64 (v40 + (1 : Int))) (
 some (.inl (v2, (v7, (v8, (nv9, (v10, ((nv12 + ((((((((((v7).getD (Int.toNat v10) [])).getD (Int.toNat v40) ((0 : Int), (0 : Int))).1, (imax ((v38).getD (Int.toNat v40) (0 : Int)) ((((v7).getD (Int.toNat v10) [])).getD (Int.toNat v40) ((0 : Int), (0 : Int))).1)) :: [])).drop (0 : Nat)).take (1 : Nat))).length), (v30, (v31, (v32, (v38, (v39, ((v40 + (1 : Int)), (b0, (((((b1).drop (0 : Nat)).take nv12) ++ (((((((((v7).getD (Int.toNat v10) [])).getD (Int.toNat v40) ((0 : Int), (0 : Int))).1, (imax ((v38).getD (Int.toNat v40) (0 : Int)) ((((v7).getD (Int.toNat v10) [])).getD (Int.toNat v40) ((0 : Int), (0 : Int))).1)) :: [])).drop (0 : Nat)).take (1 : Nat))), ())))))))))))))))))))))))) (
 some (.inr (v2, (v7, (v8, (nv9, (nv12, (v30, (v31, (v32, (b0, (b1, ()))))))))))))
noncomputable def L13_1 : LoopS prog 206 none 0 := mkLoop mixed cx13 cx13_ok [] rfl p13_1 x13_1 rfl (b13_1) (fun x => g13_1 x.1 x.2.1 x.2.2.1 x.2.2.2.1 x.2.2.2.2.1 x.2.2.2.2.2.1 x.2.2.2.2.2.2.1 x.2.2.2.2.2.2.2.1 x.2.2.2.2.2.2.2.2.1 x.2.2.2.2.2.2.2.2.2.1 x.2.2.2.2.2.2.2.2.2.2.1 x.2.2.2.2.2.2.2.2.2.2.2.1 x.2.2.2.2.2.2.2.2.2.2.2.2.1 x.2.2.2.2.2.2.2.2.2.2.2.2.2.1) (by intro x; kernel_rfl)
@[reducible] def p13_2 : Pat := Pat.mk [(2, .c (.hole (.list (.int .u8)))), (7, .c (.hole (.list (.list (.prod (.int .i64) (.int .i64)))))), (8, hzI), (9, .c (.sl0 0 (.list (.prod (.int .i64) (.int .i64))))), (12, .c (.sl0 1 (.prod (.int .i64) (.int .i64)))), (15, hzI), (30, hzM), (31, hzI), (32, hzI)] [(0, .arr (.list (.prod (.int .i64) (.int .i64))) false), (1, .arr (.prod (.int .i64) (.int .i64)) false)] [.slot 9, .slot 12] []
@[reducible] def x13_2 : Outs := [(.exit 4, Pat.mk [(2, .c (.hole (.list (.int .u8)))), (7, .c (.hole (.list (.list (.prod (.int .i64) (.int .i64)))))), (8, hzI), (9, .c (.sl0 0 (.list (.prod (.int .i64) (.int .i64))))), (12, .c (.sl0 1 (.prod (.int .i64) (.int .i64)))), (30, hzM), (31, hzI), (32, hzI)] [(0, .arr (.list (.prod (.int .i64) (.int .i64))) false), (1, .arr (.prod (.int .i64) (.int .i64)) false)] [.slot 9, .slot 12] [])]
noncomputable def b13_2 : D prog 206 none 0 := (.seq (.seq (.reg [om 93 15, oo 94 (.bin .geq (.t 93) (ki 0))]) (.cond ( .t 94) .skip (.exit 4))) (.seq (.block 5 (.draw [[], [], [], [], [], [], [4, 5], [4, 5, 6], [4, 5, 6, 7], [], [], [10], [9, 10, 11], [9, 10, 11, 12], [9, 10, 11, 12, 13], [4, 5, 6, 7, 8, 9, 10, 11, 12, 13, 14], [], [], [16, 17], [16, 17, 18], [16, 17, 18, 19], [], [], [22], [21, 22, 23], [21, 22, 23, 24], [21, 22, 23, 24, 25], [16, 17, 18, 19, 20, 21, 22, 23, 24, 25, 26], [0, 1, 4, 5, 6, 7, 8, 9, 10, 11, 12, 13, 14, 15, 16, 17, 18, 19, 20, 21, 22, 23, 24, 25, 26], [0, 1, 4, 5, 6, 7, 8, 9, 10, 11, 12, 13, 14, 15, 16, 17, 18, 19, 20, 21, 22, 23, 24, 25, 26, 28], [0, 1, 4, 5, 6, 7, 8, 9, 10, 11, 12, 13, 14, 15, 16, 17, 18, 19, 20, 21, 22, 23, 24, 25, 26, 28, 29], [0, 1, 2, 3, 4, 5, 6, 7, 8, 9, 10, 11, 12, 13, 14, 15, 16, 17, 18, 19, 20, 21, 22, 23, 24, 25, 26, 27, 28, 29, 30], [0, 1, 2, 3, 4, 5, 6, 7, 8, 9, 10, 11, 12, 13, 14, 15, 16, 17, 18, 19, 20, 21, 22, 23, 24, 25, 26, 27, 28, 29, 30, 31], [0, 1, 2, 3, 4, 5, 6, 7, 8, 9, 10, 11, 12, 13, 14, 15, 16, 17, 18, 19, 20, 21, 22, 23, 24, 25, 26, 27, 28, 29, 30, 31, 32]] [om 97 12, om 98 15, om 99 12, om 100 15, om 101 12, om 102 15, oo 103 (.idx 2 (.t 101) (.t 102)), oo 104 (.fld 0 [false] (.t 103)), ol 105 104, om 106 12, om 107 15, oo 108 (.bin .add (.t 107) (ki 1)), oo 109 (.idx 2 (.t 106) (.t 108)), oo 110 (.fld 0 [false] (.t 109)), ol 111 110, oo 112 (.minmax true (.t 105) [.t 111]), om 113 12, om 114 15, oo 115 (.idx 2 (.t 113) (.t 114)), oo 116 (.fld 1 [true] (.t 115)), ol 117 116, om 118 12, om 119 15, oo 120 (.bin .add (.t 119) (ki 1)), oo 121 (.idx 2 (.t 118) (.t 120)), oo 122 (.fld 1 [true] (.t 121)), ol 123 122, oo 124 (.minmax true (.t 117) [.t 123]), oo 125 (.idx 2 (.t 97) (.t 98)), oo 126 (.fld 0 [false] (.t 125)), .op none none (.store 1 (.t 126) (.t 112)), oo 127 (.idx 2 (.t 99) (.t 100)), oo 128 (.fld 1 [true] (.t 127)), .op none none (.store 1 (.t 128) (.t 124))])) (.reg [om 95 15, oo 96 (.bin .sub (.t 95) (ki 1)), om 15 96])))
noncomputable def g13_2 (v2 : List Int) (v7 : List (List (Int × Int))) (v8 : Int) (nv9 : Nat) (nv12 : Nat) (v15 : Int) (v30 : List (List Int)) (v31 : Int) (v32 : Int) (b0 : List (List (Int × Int))) (b1 : List (Int × Int)) : Option ((List Int × (List (List (Int × Int))) × Int × Nat × Nat × Int × List (List Int) × Int × Int × (List (List (Int × Int))) × (List (Int × Int)) × Unit) ⊕ ((List Int × (List (List (Int × Int))) × Int × Nat × Nat × List (List Int) × Int × Int × (List (List (Int × Int))) × (List (Int × Int)) × Unit))) :=
 brO (decide ((0 : Int) ≤ v15)) (
 need (inb v15 ((nv12 : Nat) : Int)) (
 need (decide (((0 : Nat) + (Int.toNat v15)) < (b1).length)) (
 need (rng .i64 (v15 + (1 : Int))) (
 need (inb (v15 + (1 : Int)) ((nv12 : Nat) : Int)) (
 need (decide (((0 : Nat) + (Int.toNat (v15 + (1 : Int)))) < (b1).length)) (
 need (inb v15 ((nv12 : Nat) : Int)) (
 need (decide (((0 : Nat) + (Int.toNat v15)) < (b1).length)) (
 need (rng .i64 (v15 + (1 : Int))) (
 need (inb (v15 + (1 : Int)) ((nv12 : Nat) : Int)) (
 need (decide (((0 : Nat) + (Int.toNat (v15 + (1 : Int)))) < (b1).length)) (
 need (inb v15 ((nv12 : Nat) : Int)) (
 need (decide (((0 : Nat) + (Int.toNat v15)) < (b1).length)) (
 need (inb v15 ((nv12 : Nat) : Int)) (
 need (decide (((0 : Nat) + (Int.toNat v15)) < (((b1).set ((0 : Nat) + (Int.toNat v15)) ((imax ((b1).getD ((0 : Nat) + (Int.toNat v15)) ((0 : Int), (0 : Int))).1 ((b1).getD ((0 : Nat) + (Int.toNat (v15 + (1 : Int)))) ((0 : Int), (0 : Int))).1), ((b1).getD ((0 : Nat) + (Int.toNat v15)) ((0 : Int), (0 : Int))).2))).length)) (
 need (rng .i64 (v15 - (1 : Int))) (
 some (.inl (v2, (v7, (v8, (nv9, (nv12, ((v15 - (1 : Int)), (v30, (v31, (v32, (b0, (((((b1).set ((0 : Nat) + (Int.toNat v15)) ((imax ((b1).getD ((0 : Nat) + (Int.toNat v15)) ((0 : Int), (0 : Int))).1 ((b1).getD ((0 : Nat) + (Int.toNat (v15 + (1 : Int)))) ((0 : Int), (0 : Int))).1), ((b1).getD ((0 : Nat) + (Int.toNat v15)) ((0 : Int), (0 : Int))).2))).set ((0 : Nat) + (Int.toNat v15)) (((((b1).set ((0 : Nat) + (Int.toNat v15)) ((imax ((b1).getD ((0 : Nat) + (Int.toNat v15)) ((0 : Int), (0 : Int))).1 ((b1).getD ((0 : Nat) + (Int.toNat (v15 + (1 : Int)))) ((0 : Int), (0 : Int))).1), ((b1).getD ((0 : Nat) + (Int.toNat v15)) ((0 : Int), (0 : Int))).2))).getD ((0 : Nat) + (Int.toNat v15)) ((0 : Int), (0 : Int))).1, (imax ((b1).getD ((0 : Nat) + (Int.toNat v15)) ((0 : Int), (0 : Int))).2 ((b1).getD ((0 : Nat) + (Int.toNat (v15 + (1 : Int)))) ((0 : Int), (0 : Int))).2))), ())))))))))))))))))))))))))))) (
 some (.inr (v2, (v7, (v8, (nv9, (nv12, (v30, (v31, (v32, (b0, (b1, ()))))))))))))
noncomputable def L13_2 : LoopS prog 206 none 0 := mkLoop mixed cx13 cx13_ok [] rfl p13_2 x13_2 rfl (b13_2) (fun x => g13_2 x.1 x.2.1 x.2.2.1 x.2.2.2.1 x.2.2.2.2.1 x.2.2.2.2.2.1 x.2.2.2.2.2.2.1 x.2.2.2.2.2.2.2.1 x.2.2.2.2.2.2.2.2.1 x.2.2.2.2.2.2.2.2.2.1 x.2.2.2.2.2.2.2.2.2.2.1) (by intro x; kernel_rfl)
@[reducible] def p13_0 : Pat := Pat.mk [(2, .c (.hole (.list (.int .u8)))), (7, .c (.hole (.list (.list (.prod (.int .i64) (.int .i64)))))), (8, hzI), (9, .c (.sl0 0 (.list (.prod (.int .i64) (.int .i64))))), (30, hzM), (31, hzI), (32, hzI)] [(0, .arr (.list (.prod (.int .i64) (.int .i64))) false)] [.slot 9] []
@[reducible] def x13_0 : Outs := [(.exit 0, Pat.mk [(7, .c (.hole (.list (.list (.prod (.int .i64) (.int .i64)))))), (8, hzI), (9, .c (.sl0 0 (.list (.prod (.int .i64) (.int .i64)))))] [(0, .arr (.list (.prod (.int .i64) (.int .i64))) false)] [.slot 9] [])]
noncomputable def b13_0 : D prog 206 none 0 := (.seq (.reg [oo 33 (.bin .lss (.t 32) (.t 31))]) (.seq (.cond ( .t 33) .skip (.exit 0)) (.seq (.block 1 (.seq (.reg [om 34 32, oo 35 (.idx 1 (.t 30) (.t 32)), ol 36 35, om 10 34, om 11 36]) (.seq (.reg [oo 37 (.bslice (.prod (.int .i64) (.int .i64)) []), om 12 37]) (.seq (.seq (.reg [om 38 11, oo 39 (.len (.t 38)), oo 40 (.mv (ki 0))]) (.block 2 (.loop L13_1))) (.seq (.seq (.reg [om 90 12, oo 91 (.len (.t 90)), oo 92 (.bin .sub (.t 91) (ki 2)), om 15 92]) (.block 4 (.loop L13_2))) (.reg [om 129 9, om 130 12, oo 131 (.bslice (.list (.prod (.int .i64) (.int .i64))) [.t 130]), oo 132 (.append 1 (.t 129) (.t 131)), om 9 132])))))) (.reg [oo 133 (.bin .add (.t 32) (ki 1)), om 32 133]))))
noncomputable def g13_0 (v2 : List Int) (v7 : List (List (Int × Int))) (v8 : Int) (nv9 : Nat) (v30 : List (List Int)) (v31 : Int) (v32 : Int) (b0 : List (List (Int × Int))) : Option ((List Int × (List (List (Int × Int))) × Int × Nat × List (List Int) × Int × Int × (List (List (Int × Int))) × Unit) ⊕ (((List (List (Int × Int))) × Int × Nat × (List (List (Int × Int))) × Unit))) :=
 brO (decide (v32 < v31)) (
 need (inb v32 (((v30).length : Nat) : Int)) (
 bindO (iter (fun x => g13_1 x.1 x.2.1 x.2.2.1 x.2.2.2.1 x.2.2.2.2.1 x.2.2.2.2.2.1 x.2.2.2.2.2.2.1 x.2.2.2.2.2.2.2.1 x.2.2.2.2.2.2.2.2.1 x.2.2.2.2.2.2.2.2.2.1 x.2.2.2.2.2.2.2.2.2.2.1 x.2.2.2.2.2.2.2.2.2.2.2.1 x.2.2.2.2.2.2.2.2.2.2.2.2.1 x.2.2.2.2.2.2.2.2.2.2.2.2.2.1) (v2, (v7, (v8, (nv9, (v32, ((0 : Nat), (v30, (v31, (v32, (((v30).getD (Int.toNat v32) []), ((((((v30).getD (Int.toNat v32) [])).length : Nat) : Int), ((0 : Int), (b0, ([], ()))))))))))))))) fun z2 =>
 need (rng .i64 (((z2.2.2.2.2.1 : Nat) : Int) - (2 : Int))) (
 bindO (iter (fun x => g13_2 x.1 x.2.1 x.2.2.1 x.2.2.2.1 x.2.2.2.2.1 x.2.2.2.2.2.1 x.2.2.2.2.2.2.1 x.2.2.2.2.2.2.2.1 x.2.2.2.2.2.2.2.2.1 x.2.2.2.2.2.2.2.2.2.1 x.2.2.2.2.2.2.2.2.2.2.1) (z2.1, (z2.2.1, (z2.2.2.1, (z2.2.2.2.1, (z2.2.2.2.2.1, ((((z2.2.2.2.2.1 : Nat) : Int) - (2 : Int)), (z2.2.2.2.2.2.1, (z2.2.2.2.2.2.2.1, (z2.2.2.2.2.2.2.2.1, (z2.2.2.2.2.2.2.2.2.1, (z2.2.2.2.2.2.2.2.2.2.1, ())))))))))))) fun z3 =>
 need (decide ((z3.2.2.2.1 + ((((((((z3.2.2.2.2.2.2.2.2.2.1).drop (0 : Nat)).take z3.2.2.2.2.1) :: [])).drop (0 : Nat)).take (1 : Nat))).length) < bigL)) (
 need (rng .i64 (z3.2.2.2.2.2.2.2.1 + (1 : Int))) (
 some (.inl (z3.1, (z3.2.1, (z3.2.2.1, ((z3.2.2.2.1 + ((((((((z3.2.2.2.2.2.2.2.2.2.1).drop (0 : Nat)).take z3.2.2.2.2.1) :: [])).drop (0 : Nat)).take (1 : Nat))).length), (z3.2.2.2.2.2.1, (z3.2.2.2.2.2.2.1, ((z3.2.2.2.2.2.2.2.1 + (1 : Int)), (((((z3.2.2.2.2.2.2.2.2.1).drop (0 : Nat)).take z3.2.2.2.1) ++ (((((((z3.2.2.2.2.2.2.2.2.2.1).drop (0 : Nat)).take z3.2.2.2.2.1) :: [])).drop (0 : Nat)).take (1 : Nat))), ())))))))))))))) (
 some (.inr (v7, (v8, (nv9, (b0, ()))))))
noncomputable def L13_0 : LoopS prog 206 none 0 := mkLoop mixed cx13 cx13_ok [] rfl p13_0 x13_0 rfl (b13_0) (fun x => g13_0 x.1 x.2.1 x.2.2.1 x.2.2.2.1 x.2.2.2.2.1 x.2.2.2.2.2.1 x.2.2.2.2.2.2.1 x.2.2.2.2.2.2.2.1) (by intro x; kernel_rfl)
@[reducible] def p13_3 : Pat := Pat.mk [(16, .c (.hole (.list (.prod (.int .i64) (.int .i64))))), (19, .c (.hole (.list (.prod (.int .i64) (.int .i64))))), (176, hzI), (177, hzI)] [] [] []
@[reducible] def x13_3 : Outs := [(.ret, Pat.mk [(6, .c (.tf false))] [] [] []), (.exit 6, Pat.mk [] [] [] [])]
noncomputable def b13_3 : D prog 206 none 0 := (.seq (.reg [oo 178 (.bin .lss (.t 177) (.t 176))]) (.seq (.cond ( .t 178) .skip (.exit 6)) (.seq (.block 7 (.seq (.reg [om 179 177, om 22 179]) (.seq (.draw [[], [], [0, 1], [0, 1, 2], [0, 1, 2, 3], [], [], [5, 6], [5, 6, 7], [5, 6, 7, 8], [0, 1, 2, 3, 4, 5, 6, 7, 8, 9], [0, 1, 2, 3, 4, 5, 6, 7, 8, 9, 10], [0, 1, 2, 3, 4, 5, 6, 7, 8, 9, 10, 11], [0, 1, 2, 3, 4, 5, 6, 7, 8, 9, 10, 11], [0, 1, 2, 3, 4, 5, 6, 7, 8, 9, 10, 11, 12, 13], [0, 1, 2, 3, 4, 5, 6, 7, 8, 9, 10, 11, 12, 13, 14], [0, 1, 2, 3, 4, 5, 6, 7, 8, 9, 10, 11, 12, 13, 14, 15], [0, 1, 2, 3, 4, 5, 6, 7, 8, 9, 10, 11], [0, 1, 2, 3, 4, 5, 6, 7, 8, 9, 10, 11], [0, 1, 2, 3, 4, 5, 6, 7, 8, 9, 10, 11, 17, 18], [0, 1, 2, 3, 4, 5, 6, 7, 8, 9, 10, 11, 17, 18, 19], [0, 1, 2, 3, 4, 5, 6, 7, 8, 9, 10, 11, 17, 18, 19, 20], [0, 1, 2, 3, 4, 5, 6, 7, 8, 9, 10, 11, 12, 13, 14, 15, 16, 17, 18, 19, 20, 21], [0, 1, 2, 3, 4, 5, 6, 7, 8, 9, 10, 11, 12, 13, 14, 15, 16, 17, 18, 19, 20, 21, 22]] [om 180 19, om 181 22, oo 182 (.idx 2 (.t 180) (.t 181)), oo 183 (.fld 0 [false] (.t 182)), ol 184 183, om 185 16, om 186 22, oo 187 (.idx 2 (.t 185) (.t 186)), oo 188 (.fld 0 [false] (.t 187)), ol 189 188, oo 190 (.bin .lss (.t 184) (.t 189)), om 191 190, og 192 191 false (.mv (.t 19)), og 193 191 false (.mv (.t 22)), og 194 191 false (.idx 2 (.t 192) (.t 193)), og 195 191 false (.fld 1 [true] (.t 194)), og 196 191 false (.load false 1 (.t 195)), og 197 191 false (.mv (.t 16)), og 198 191 false (.mv (.t 22)), og 199 191 false (.idx 2 (.t 197) (.t 198)), og 200 191 false (.fld 1 [true] (.t 199)), og 201 191 false (.load false 1 (.t 200)), og 202 191 false (.bin .gtr (.t 196) (.t 201)), oo 203 (.pick (.t 191) (.c (.tf true)) (.t 202))]) (.cond ( .t 203) (.seq (.reg [oo 6 (.mv (.c (.tf false)))]) .ret) .skip)))) (.reg [oo 204 (.bin .add (.t 177) (ki 1)), om 177 204]))))
noncomputable def g13_3 (v16 : List (Int × Int)) (v19 : List (Int × Int)) (v176 : Int) (v177 : Int) : Option (((List (Int × Int)) × (List (Int × Int)) × Int × Int × Unit) ⊕ ((Unit) ⊕ ((Unit)))) :=
 brO (decide (v177 < v176)) (
 need (inb v177 (((v19).length : Nat) : Int)) (
 need (inb v177 (((v16).length : Nat) : Int)) (
 brO (decide (((v19).getD (Int.toNat v177) ((0 : Int), (0 : Int))).1 < ((v16).getD (Int.toNat v177) ((0 : Int), (0 : Int))).1)) (
 some (.inr <| .inl <| ())) (
 need (inb v177 (((v19).length : Nat) : Int)) (
 need (inb v177 (((v16).length : Nat) : Int)) (
 brO (decide (((v16).getD (Int.toNat v177) ((0 : Int), (0 : Int))).2 < ((v19).getD (Int.toNat v177) ((0 : Int), (0 : Int))).2)) (
 some (.inr <| .inl <| ())) (
 need (rng .i64 (v177 + (1 : Int))) (
 some (.inl (v16, (v19, (v176, ((v177 + (1 : Int)), ()))))))))))))) (
 some (.inr <| .inr <| ()))
noncomputable def L13_3 : LoopS prog 206 none 0 := mkLoop mixed cx13 cx13_ok [] rfl p13_3 x13_3 rfl (b13_3) (fun x => g13_3 x.1 x.2.1 x.2.2.1 x.2.2.2.1) (by intro x; kernel_rfl)
noncomputable def dd13 : D prog 206 none 0 := (.seq (.reg [oo 6 (.mv (.c (.tf false)))]) (.seq (.reg [om 23 0, .call (some 24) none (.c (.fn 42 [] [])) [.t 23] [some (.list (.list (.prod (.int .u8) (.int .u8))))], om 7 24]) (.seq (.reg [om 25 1, oo 26 (.conv .i64 (.t 25)), oo 27 (.bin .rem (.t 26) (ki 12)), om 8 27]) (.seq (.reg [oo 9 (.mv (.c .nsl))]) (.seq (.seq (.reg [om 28 7, om 29 2, .call (some 30) none (.c (.fn 43 [] [])) [.t 28, .t 29] [some (.list (.list (.prod (.int .i64) (.int .i64)))), some (.list (.int .u8))], oo 31 (.len (.t 30)), oo 32 (.mv (ki 0))]) (.block 0 (.loop L13_0))) (.seq (.reg [om 135 7, om 136 8, .call (some 137) none (.c (.fn 35 [] [])) [.t 135, .t 136] [some (.list (.list (.prod (.int .i64) (.int .i64)))), some (.int .i64)], om 134 137, oo 138 (.ext 0 (.t 134)), oo 139 (.ext 1 (.t 134)), oo 140 (.ext 2 (.t 134)), oo 17 (.alloc [.int .i64 (Int.ofNat 0), .int .i64 (Int.ofNat 0)]), om 16 138, .op none none (.store 2 (.t 17) (.t 139)), om 18 140]) (.seq (.reg [om 142 9, om 143 8, .call (some 144) none (.c (.fn 35 [] [])) [.t 142, .t 143] [some (.list (.list (.prod (.int .i64) (.int .i64)))), some (.int .i64)], om 141 144, oo 145 (.ext 0 (.t 141)), oo 146 (.ext 1 (.t 141)), oo 147 (.ext 2 (.t 141)), oo 20 (.alloc [.int .i64 (Int.ofNat 0), .int .i64 (Int.ofNat 0)]), om 19 145, .op none none (.store 2 (.t 20) (.t 146)), om 21 147]) (.seq (.seq (.reg [om 148 18, oo 149 (.bin .neq (.t 148) (ki 0)), om 150 149, og 151 150 false (.mv (.t 21)), og 152 150 false (.bin .neq (.t 151) (ki 0)), oo 153 (.pick (.t 150) (.c (.tf true)) (.t 152)), om 154 153, og 155 154 false (.mv (.t 16)), og 156 154 false (.len (.t 155)), og 157 154 false (.mv (.t 19)), og 158 154 false (.len (.t 157)), og 159 154 false (.bin .neq (.t 156) (.t 158)), oo 160 (.pick (.t 154) (.c (.tf true)) (.t 159)), om 161 160, og 162 161 false (.fld 0 [false] (.t 20)), og 163 161 false (.load false 1 (.t 162)), og 164 161 false (.fld 0 [false] (.t 17)), og 165 161 false (.load false 1 (.t 164)), og 166 161 false (.bin .lss (.t 163) (.t 165)), oo 167 (.pick (.t 161) (.c (.tf true)) (.t 166)), om 168 167, og 169 168 false (.fld 1 [true] (.t 20)), og 170 168 false (.load false 1 (.t 169)), og 171 168 false (.fld 1 [true] (.t 17)), og 172 168 false (.load false 1 (.t 171)), og 173 168 false (.bin .gtr (.t 170) (.t 172)), oo 174 (.pick (.t 168) (.c (.tf true)) (.t 173))]) (.cond ( .t 174) (.seq (.reg [oo 6 (.mv (.c (.tf false)))]) .ret) .skip)) (.seq (.seq (.reg [om 175 16, oo 176 (.len (.t 175)), oo 177 (.mv (ki 0))]) (.block 6 (.loop L13_3))) (.seq (.reg [.call (some 205) none (.c (.fn 16 [] [])) [] [], om 6 205]) .ret))))))))))
noncomputable def F13 (a0 : List (List (Int × Int))) (a1 : Int) (a2 : List Int) : Option (Bool × Unit) :=
 bindO (F42 a0) fun y0 =>
 need (rng .i64 a1) (
 need (!((12 : Int) == (0 : Int))) (
 bindO (F43 y0.1 a2) fun y1 =>
 bindO (iter (fun x => g13_0 x.1 x.2.1 x.2.2.1 x.2.2.2.1 x.2.2.2.2.1 x.2.2.2.2.2.1 x.2.2.2.2.2.2.1 x.2.2.2.2.2.2.2.1) (a2, (y0.1, ((Int.tmod a1 (12 : Int)), ((0 : Nat), (y1.1, ((((y1.1).length : Nat) : Int), ((0 : Int), ([], ()))))))))) fun z4 =>
 bindO (F35 z4.1 z4.2.1) fun y5 =>
 bindO (F35 (((z4.2.2.2.1).drop (0 : Nat)).take z4.2.2.1) z4.2.1) fun y6 =>
 brO (!(y5.2.2.1 == (0 : Int))) (
 some (false, ())) (
 brO (!(y6.2.2.1 == (0 : Int))) (
 some (false, ())) (
 brO (!((((y5.1).length : Nat) : Int) == (((y6.1).length : Nat) : Int))) (
 some (false, ())) (
 brO (decide (y6.2.1.1 < y5.2.1.1)) (
 some (false, ())) (
 brO (decide (y5.2.1.2 < y6.2.1.2)) (
 some (false, ())) (
 bindO (iter (fun x => g13_3 x.1 x.2.1 x.2.2.1 x.2.2.2.1) (y5.1, (y6.1, ((((y5.1).length : Nat) : Int), ((0 : Int), ()))))) fun z7 =>
 match z7 with
 | .inl z8 =>
 some (false, ())
 | .inr z9 =>
 bindO (F16) fun y10 =>
 some (y10.1, ()))))))))
theorem c13_ok : trF prog f13 = some ⟨206, 3, dd13.er, [.t 6], [some .bool]⟩ := by kernel_rfl
noncomputable def ct13 : Ct := ⟨13, [.c (.hole (.list (.list (.prod (.int .u8) (.int .u8))))), .c (.hole (.int .u8)), .c (.hole (.list (.int .u8)))], .c (.hole .bool), fun x => F13 x.1 x.2.1 x.2.2.1⟩
theorem ct13_ok : ct13.Ok prog := ct_ok mixed cx13_ok func13 c13_ok (enters_of func13 rfl rfl) dd13 rfl rfl (fun x => by kernel_rfl)

end Go.Proofs.Try

