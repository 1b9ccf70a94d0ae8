/- Functions of the program as functions of data, part 3; printed by a program of mine. -/
import Derived.Test.YtigglifniejbpaaW121
import Derived.Test.YtigglifniejbpaaProg
set_option linter.unusedVariables false
set_option linter.unusedSimpArgs false
open Go.AM
namespace Go.Proofs.Try
set_option maxRecDepth 100000


/- 43 -/
noncomputable def cx43 : Cx := mkCxH [] []
theorem cx43_ok : cx43.Ok prog := mkCxH_ok trivial trivial
@[reducible] def p43_1 : Pat := Pat.mk [(1, .c (.hole (.list (.int .u8)))), (5, .c (.sl0 0 (.list (.int .i64)))), (6, hzI), (9, .c (.sl0 1 (.int .i64))), (14, .c (.hole (.list (.list (.prod (.int .i64) (.int .i64)))))), (15, hzI), (16, hzI), (21, .c (.hole (.list (.prod (.int .i64) (.int .i64))))), (22, hzI), (23, hzI)] [(0, .arr (.list (.int .i64)) false), (1, .arr (.int .i64) false)] [.slot 5, .slot 9] []
@[reducible] def x43_1 : Outs := [(.exit 2, Pat.mk [(1, .c (.hole (.list (.int .u8)))), (5, .c (.sl0 0 (.list (.int .i64)))), (6, hzI), (9, .c (.sl0 1 (.int .i64))), (14, .c (.hole (.list (.list (.prod (.int .i64) (.int .i64)))))), (15, hzI), (16, hzI)] [(0, .arr (.list (.int .i64)) false), (1, .arr (.int .i64) false)] [.slot 5, .slot 9] [])]
noncomputable def b43_1 : D prog 73 none 0 := (.seq (.reg [oo 24 (.bin .lss (.t 23) (.t 22))]) (.seq (.cond ( .t 24) .skip (.exit 2)) (.seq (.block 3 (.seq (.reg [om 25 23, oo 26 (.idx 2 (.t 21) (.t 23)), oo 27 (.load true 2 (.t 26)), oo 11 (.alloc [.int .i64 (Int.ofNat 0), .int .i64 (Int.ofNat 0)]), om 10 25, .op none none (.store 2 (.t 11) (.t 27))]) (.seq (.reg [oo 28 (.fld 1 [true] (.t 11)), ol 29 28, om 12 29]) (.seq (.seq (.reg [om 30 10, oo 31 (.bin .gtr (.t 30) (ki 0))]) (.cond ( .t 31) (.reg [om 32 12, om 33 9, om 34 10, oo 35 (.bin .sub (.t 34) (ki 1)), oo 36 (.idx 1 (.t 33) (.t 35)), ol 37 36, oo 38 (.minmax false (.t 32) [.t 37]), om 12 38]) .skip)) (.seq (.reg [oo 39 (.fld 0 [false] (.t 11)), ol 40 39, om 13 40]) (.seq (.seq (.reg [om 41 1, oo 42 (.len (.t 41)), oo 43 (.bin .gtr (.t 42) (ki 0))]) (.cond ( .t 43) (.draw [[], [], [], [], [3], [2, 3, 4], [1, 2, 3, 4, 5], [1, 2, 3, 4, 5, 6], [1, 2, 3, 4, 5, 6, 7], [], [], [10], [9, 10, 11], [9, 10, 11, 12], [1, 2, 3, 4, 5, 6, 7, 8, 9, 10, 11, 12, 13], [0, 1, 2, 3, 4, 5, 6, 7, 8, 9, 10, 11, 12, 13, 14], [0, 1, 2, 3, 4, 5, 6, 7, 8, 9, 10, 11, 12, 13, 14, 15]] [om 44 13, om 45 1, om 46 6, om 47 1, oo 48 (.len (.t 47)), oo 49 (.bin .rem (.t 46) (.t 48)), oo 50 (.idx 1 (.t 45) (.t 49)), ol 51 50, oo 52 (.conv .i64 (.t 51)), om 53 12, oo 54 (.fld 0 [false] (.t 11)), ol 55 54, oo 56 (.bin .sub (.t 53) (.t 55)), oo 57 (.bin .add (.t 56) (ki 1)), oo 58 (.bin .rem (.t 52) (.t 57)), oo 59 (.bin .add (.t 44) (.t 58)), om 13 59]) .skip)) (.seq (.reg [om 60 6, oo 61 (.bin .add (.t 60) (ki 1)), om 6 61]) (.reg [om 62 9, om 63 13, oo 64 (.bslice (.int .i64) [.t 63]), oo 65 (.append 1 (.t 62) (.t 64)), om 9 65])))))))) (.reg [oo 66 (.bin .add (.t 23) (ki 1)), om 23 66]))))
noncomputable def g43_1 (v1 : List Int) (nv5 : Nat) (v6 : Int) (nv9 : Nat) (v14 : List (List (Int × Int))) (v15 : Int) (v16 : Int) (v21 : List (Int × Int)) (v22 : Int) (v23 : Int) (b0 : List (List Int)) (b1 : List Int) : Option ((List Int × Nat × Int × Nat × (List (List (Int × Int))) × Int × Int × (List (Int × Int)) × Int × Int × List (List Int) × List Int × Unit) ⊕ ((List Int × Nat × Int × Nat × (List (List (Int × Int))) × Int × Int × List (List Int) × List Int × Unit))) :=
 brO (decide (v23 < v22)) (
 need (inb v23 (((v21).length : Nat) : Int)) (
 brO (decide ((0 : Int) < v23)) (
 need (rng .i64 (v23 - (1 : Int))) (
 need (inb (v23 - (1 : Int)) ((nv9 : Nat) : Int)) (
 need (decide (((0 : Nat) + (Int.toNat (v23 - (1 : Int)))) < (b1).length)) (
 brO (decide ((0 : Int) < (((v1).length : Nat) : Int))) (
 need (!((((v1).length : Nat) : Int) == (0 : Int))) (
 need (inb (Int.tmod v6 (((v1).length : Nat) : Int)) (((v1).length : Nat) : Int)) (
 need (rng .i64 ((v1).getD (Int.toNat (Int.tmod v6 (((v1).length : Nat) : Int))) (0 : Int))) (
 need (rng .i64 ((imin ((v21).getD (Int.toNat v23) ((0 : Int), (0 : Int))).2 ((b1).getD ((0 : Nat) + (Int.toNat (v23 - (1 : Int)))) (0 : Int))) - ((v21).getD (Int.toNat v23) ((0 : Int), (0 : Int))).1)) (
 need (rng .i64 (((imin ((v21).getD (Int.toNat v23) ((0 : Int), (0 : Int))).2 ((b1).getD ((0 : Nat) + (Int.toNat (v23 - (1 : Int)))) (0 : Int))) - ((v21).getD (Int.toNat v23) ((0 : Int), (0 : Int))).1) + (1 : Int))) (
 need (!((((imin ((v21).getD (Int.toNat v23) ((0 : Int), (0 : Int))).2 ((b1).getD ((0 : Nat) + (Int.toNat (v23 - (1 : Int)))) (0 : Int))) - ((v21).getD (Int.toNat v23) ((0 : Int), (0 : Int))).1) + (1 : Int)) == (0 : Int))) (
 need (rng .i64 (((v21).getD (Int.toNat v23) ((0 : Int), (0 : Int))).1 + (Int.tmod ((v1).getD (Int.toNat (Int.tmod v6 (((v1).length : Nat) : Int))) (0 : Int)) (((imin ((v21).getD (Int.toNat v23) ((0 : Int), (0 : Int))).2 ((b1).getD ((0 : Nat) + (Int.toNat (v23 - (1 : Int)))) (0 : Int))) - ((v21).getD (Int.toNat v23) ((0 : Int), (0 : Int))).1) + (1 : Int))))) (
 need (rng .i64 (v6 + (1 : Int))) (
 need (decide ((nv9 + ((((((((v21).getD (Int.toNat v23) ((0 : Int), (0 : Int))).1 + (Int.tmod ((v1).getD (Int.toNat (Int.tmod v6 (((v1).length : Nat) : Int))) (0 : Int)) (((imin ((v21).getD (Int.toNat v23) ((0 : Int), (0 : Int))).2 ((b1).getD ((0 : Nat) + (Int.toNat (v23 - (1 : Int)))) (0 : Int))) - ((v21).getD (Int.toNat v23) ((0 : Int), (0 : Int))).1) + (1 : Int)))) :: [])).drop (0 : Nat)).take (1 : Nat))).length) < bigL)) (
 need (rng .i64 (v23 + (1 : Int))) (
 some (.inl (v1, (nv5, ((v6 + (1 : Int)), ((nv9 + ((((((((v21).getD (Int.toNat v23) ((0 : Int), (0 : Int))).1 + (Int.tmod ((v1).getD (Int.toNat (Int.tmod v6 (((v1).length : Nat) : Int))) (0 : Int)) (((imin ((v21).getD (Int.toNat v23) ((0 : Int), (0 : Int))).2 ((b1).getD ((0 : Nat) + (Int.toNat (v23 - (1 : Int)))) (0 : Int))) - ((v21).getD (Int.toNat v23) ((0 : Int), (0 : Int))).1) + (1 : Int)))) :: [])).drop (0 : Nat)).take (1 : Nat))).length), (v14, (v15, (v16, (v21, (v22, ((v23 + (1 : Int)), (b0, (((((b1).drop (0 : Nat)).take nv9) ++ (((((((v21).getD (Int.toNat v23) ((0 : Int), (0 : Int))).1 + (Int.tmod ((v1).getD (Int.toNat (Int.tmod v6 (((v1).length : Nat) : Int))) (0 : Int)) (((imin ((v21).getD (Int.toNat v23) ((0 : Int), (0 : Int))).2 ((b1).getD ((0 : Nat) + (Int.toNat (v23 - (1 : Int)))) (0 : Int))) - ((v21).getD (Int.toNat v23) ((0 : Int), (0 : Int))).1) + (1 : Int)))) :: [])).drop (0 : Nat)).take (1 : Nat))), ())))))))))))))))))))))))) (
 need (rng .i64 (v6 + (1 : Int))) (
 need (decide ((nv9 + (((((((v21).getD (Int.toNat v23) ((0 : Int), (0 : Int))).1 :: [])).drop (0 : Nat)).take (1 : Nat))).length) < bigL)) (
 need (rng .i64 (v23 + (1 : Int))) (
 some (.inl (v1, (nv5, ((v6 + (1 : Int)), ((nv9 + (((((((v21).getD (Int.toNat v23) ((0 : Int), (0 : Int))).1 :: [])).drop (0 : Nat)).take (1 : Nat))).length), (v14, (v15, (v16, (v21, (v22, ((v23 + (1 : Int)), (b0, (((((b1).drop (0 : Nat)).take nv9) ++ ((((((v21).getD (Int.toNat v23) ((0 : Int), (0 : Int))).1 :: [])).drop (0 : Nat)).take (1 : Nat))), ()))))))))))))))))))))) (
 brO (decide ((0 : Int) < (((v1).length : Nat) : Int))) (
 need (!((((v1).length : Nat) : Int) == (0 : Int))) (
 need (inb (Int.tmod v6 (((v1).length : Nat) : Int)) (((v1).length : Nat) : Int)) (
 need (rng .i64 ((v1).getD (Int.toNat (Int.tmod v6 (((v1).length : Nat) : Int))) (0 : Int))) (
 need (rng .i64 (((v21).getD (Int.toNat v23) ((0 : Int), (0 : Int))).2 - ((v21).getD (Int.toNat v23) ((0 : Int), (0 : Int))).1)) (
 need (rng .i64 ((((v21).getD (Int.toNat v23) ((0 : Int), (0 : Int))).2 - ((v21).getD (Int.toNat v23) ((0 : Int), (0 : Int))).1) + (1 : Int))) (
 need (!(((((v21).getD (Int.toNat v23) ((0 : Int), (0 : Int))).2 - ((v21).getD (Int.toNat v23) ((0 : Int), (0 : Int))).1) + (1 : Int)) == (0 : Int))) (
 need (rng .i64 (((v21).getD (Int.toNat v23) ((0 : Int), (0 : Int))).1 + (Int.tmod ((v1).getD (Int.toNat (Int.tmod v6 (((v1).length : Nat) : Int))) (0 : Int)) ((((v21).getD (Int.toNat v23) ((0 : Int), (0 : Int))).2 - ((v21).getD (Int.toNat v23) ((0 : Int), (0 : Int))).1) + (1 : Int))))) (
 need (rng .i64 (v6 + (1 : Int))) (
 need (decide ((nv9 + ((((((((v21).getD (Int.toNat v23) ((0 : Int), (0 : Int))).1 + (Int.tmod ((v1).getD (Int.toNat (Int.tmod v6 (((v1).length : Nat) : Int))) (0 : Int)) ((((v21).getD (Int.toNat v23) ((0 : Int), (0 : Int))).2 - ((v21).getD (Int.toNat v23) ((0 : Int), (0 : Int))).1) + (1 : Int)))) :: [])).drop (0 : Nat)).take (1 : Nat))).length) < bigL)) (
 need (rng .i64 (v23 + (1 : Int))) (
 some (.inl (v1, (nv5, ((v6 + (1 : Int)), ((nv9 + ((((((((v21).getD (Int.toNat v23) ((0 : Int), (0 : Int))).1 + (Int.tmod ((v1).getD (Int.toNat (Int.tmod v6 (((v1).length : Nat) : Int))) (0 : Int)) ((((v21).getD (Int.toNat v23) ((0 : Int), (0 : Int))).2 - ((v21).getD (Int.toNat v23) ((0 : Int), (0 : Int))).1) + (1 : Int)))) :: [])).drop (0 : Nat)).take (1 : Nat))).length), (v14, (v15, (v16, (v21, (v22, ((v23 + (1 : Int)), (b0, (((((b1).drop (0 : Nat)).take nv9) ++ (((((((v21).getD (Int.toNat v23) ((0 : Int), (0 : Int))).1 + (Int.tmod ((v1).getD (Int.toNat (Int.tmod v6 (((v1).length : Nat) : Int))) (0 : Int)) ((((v21).getD (Int.toNat v23) ((0 : Int), (0 : Int))).2 - ((v21).getD (Int.toNat v23) ((0 : Int), (0 : Int))).1) + (1 : Int)))) :: [])).drop (0 : Nat)).take (1 : Nat))), ())))))))))))))))))))))))) (
 need (rng .i64 (v6 + (1 : Int))) (
 need (decide ((nv9 + (((((((v21).getD (Int.toNat v23) ((0 : Int), (0 : Int))).1 :: [])).drop (0 : Nat)).take (1 : Nat))).length) < bigL)) (
 need (rng .i64 (v23 + (1 : Int))) (
 some (.inl (v1, (nv5, ((v6 + (1 : Int)), ((nv9 + (((((((v21).getD (Int.toNat v23) ((0 : Int), (0 : Int))).1 :: [])).drop (0 : Nat)).take (1 : Nat))).length), (v14, (v15, (v16, (v21, (v22, ((v23 + (1 : Int)), (b0, (((((b1).drop (0 : Nat)).take nv9) ++ ((((((v21).getD (Int.toNat v23) ((0 : Int), (0 : Int))).1 :: [])).drop (0 : Nat)).take (1 : Nat))), ())))))))))))))))))))) (
 some (.inr (v1, (nv5, (v6, (nv9, (v14, (v15, (v16, (b0, (b1, ())))))))))))
noncomputable def L43_1 : LoopS prog 73 none 0 := mkLoop mixed cx43 cx43_ok [] rfl p43_1 x43_1 rfl (b43_1) (fun x => g43_1 x.1 x.2.1 x.2.2.1 x.2.2.2.1 x.2.2.2.2.1 x.2.2.2.2.2.1 x.2.2.2.2.2.2.1 x.2.2.2.2.2.2.2.1 x.2.2.2.2.2.2.2.2.1 x.2.2.2.2.2.2.2.2.2.1 x.2.2.2.2.2.2.2.2.2.2.1 x.2.2.2.2.2.2.2.2.2.2.2.1) (by intro x; kernel_rfl)
@[reducible] def p43_0 : Pat := Pat.mk [(1, .c (.hole (.list (.int .u8)))), (5, .c (.sl0 0 (.list (.int .i64)))), (6, hzI), (14, .c (.hole (.list (.list (.prod (.int .i64) (.int .i64)))))), (15, hzI), (16, hzI)] [(0, .arr (.list (.int .i64)) false)] [.slot 5] []
@[reducible] def x43_0 : Outs := [(.exit 0, Pat.mk [(5, .c (.sl0 0 (.list (.int .i64))))] [(0, .arr (.list (.int .i64)) false)] [.slot 5] [])]
noncomputable def b43_0 : D prog 73 none 0 := (.seq (.reg [oo 17 (.bin .lss (.t 16) (.t 15))]) (.seq (.cond ( .t 17) .skip (.exit 0)) (.seq (.block 1 (.seq (.reg [oo 18 (.idx 1 (.t 14) (.t 16)), ol 19 18, om 8 19]) (.seq (.reg [oo 20 (.bslice (.int .i64) []), om 9 20]) (.seq (.seq (.reg [om 21 8, oo 22 (.len (.t 21)), oo 23 (.mv (ki 0))]) (.block 2 (.loop L43_1))) (.reg [om 67 5, om 68 9, oo 69 (.bslice (.list (.int .i64)) [.t 68]), oo 70 (.append 1 (.t 67) (.t 69)), om 5 70]))))) (.reg [oo 71 (.bin .add (.t 16) (ki 1)), om 16 71]))))
noncomputable def g43_0 (v1 : List Int) (nv5 : Nat) (v6 : Int) (v14 : List (List (Int × Int))) (v15 : Int) (v16 : Int) (b0 : List (List Int)) : Option ((List Int × Nat × Int × (List (List (Int × Int))) × Int × Int × List (List Int) × Unit) ⊕ ((Nat × List (List Int) × Unit))) :=
 brO (decide (v16 < v15)) (
 need (inb v16 (((v14).length : Nat) : Int)) (
 bindO (iter (fun x => g43_1 x.1 x.2.1 x.2.2.1 x.2.2.2.1 x.2.2.2.2.1 x.2.2.2.2.2.1 x.2.2.2.2.2.2.1 x.2.2.2.2.2.2.2.1 x.2.2.2.2.2.2.2.2.1 x.2.2.2.2.2.2.2.2.2.1 x.2.2.2.2.2.2.2.2.2.2.1 x.2.2.2.2.2.2.2.2.2.2.2.1) (v1, (nv5, (v6, ((0 : Nat), (v14, (v15, (v16, (((v14).getD (Int.toNat v16) []), ((((((v14).getD (Int.toNat v16) [])).length : Nat) : Int), ((0 : Int), (b0, ([], ()))))))))))))) fun z0 =>
 need (decide ((z0.2.1 + ((((((((z0.2.2.2.2.2.2.2.2.1).drop (0 : Nat)).take z0.2.2.2.1) :: [])).drop (0 : Nat)).take (1 : Nat))).length) < bigL)) (
 need (rng .i64 (z0.2.2.2.2.2.2.1 + (1 : Int))) (
 some (.inl (z0.1, ((z0.2.1 + ((((((((z0.2.2.2.2.2.2.2.2.1).drop (0 : Nat)).take z0.2.2.2.1) :: [])).drop (0 : Nat)).take (1 : Nat))).length), (z0.2.2.1, (z0.2.2.2.2.1, (z0.2.2.2.2.2.1, ((z0.2.2.2.2.2.2.1 + (1 : Int)), (((((z0.2.2.2.2.2.2.2.1).drop (0 : Nat)).take z0.2.1) ++ (((((((z0.2.2.2.2.2.2.2.2.1).drop (0 : Nat)).take z0.2.2.2.1) :: [])).drop (0 : Nat)).take (1 : Nat))), ())))))))))))) (
 some (.inr (nv5, (b0, ()))))
noncomputable def L43_0 : LoopS prog 73 none 0 := mkLoop mixed cx43 cx43_ok [] rfl p43_0 x43_0 rfl (b43_0) (fun x => g43_0 x.1 x.2.1 x.2.2.1 x.2.2.2.1 x.2.2.2.2.1 x.2.2.2.2.2.1 x.2.2.2.2.2.2.1) (by intro x; kernel_rfl)
noncomputable def dd43 : D prog 73 none 0 := (.seq (.reg [oo 4 (.mv (.c .nsl))]) (.seq (.reg [oo 5 (.mv (.c .nsl))]) (.seq (.reg [oo 6 (.mv (ki 0))]) (.seq (.seq (.reg [om 14 0, oo 15 (.len (.t 14)), oo 16 (.mv (ki 0))]) (.block 0 (.loop L43_0))) (.seq (.reg [om 72 5, om 4 72]) .ret)))))
noncomputable def F43 (a0 : List (List (Int × Int))) (a1 : List Int) : Option (List (List Int) × Unit) :=
 bindO (iter (fun x => g43_0 x.1 x.2.1 x.2.2.1 x.2.2.2.1 x.2.2.2.2.1 x.2.2.2.2.2.1 x.2.2.2.2.2.2.1) (a1, ((0 : Nat), ((0 : Int), (a0, ((((a0).length : Nat) : Int), ((0 : Int), ([], ())))))))) fun z1 =>
 some ((((z1.2.1).drop (0 : Nat)).take z1.1), ())
theorem c43_ok : trF prog f43 = some ⟨73, 2, dd43.er, [.t 4], [some (.list (.list (.int .i64)))]⟩ := by kernel_rfl
noncomputable def ct43 : Ct := ⟨43, [.c (.hole (.list (.list (.prod (.int .i64) (.int .i64))))), .c (.hole (.list (.int .u8)))], .c (.hole (.list (.list (.int .i64)))), fun x => F43 x.1 x.2.1⟩
theorem ct43_ok : ct43.Ok prog := ct_ok mixed cx43_ok func43 c43_ok (enters_of func43 rfl rfl) dd43 rfl rfl (fun x => by kernel_rfl)

/- 44 -/
noncomputable def cx44 : Cx := mkCxH [ct40, ct41] []
theorem cx44_ok : cx44.Ok prog := mkCxH_ok ⟨ct40_ok, ct41_ok, trivial⟩ trivial
@[reducible] def p44_0 : Pat := Pat.mk [(0, hzM), (2, hzI), (7, hzI), (8, hzI), (14, hzM), (15, hzI), (16, hzI)] [] [] []
@[reducible] def x44_0 : Outs := [(.exit 0, Pat.mk [(8, hzI)] [] [] [])]
noncomputable def b44_0 : D prog 46 none 0 := (.seq (.reg [oo 17 (.bin .lss (.t 16) (.t 15))]) (.seq (.cond ( .t 17) .skip (.exit 0)) (.seq (.block 1 (.seq (.reg [oo 18 (.idx 1 (.t 14) (.t 16)), ol 19 18, om 10 19]) (.seq (.reg [om 20 0, om 21 10, .call (some 22) none (.c (.fn 41 [] [])) [.t 20, .t 21] [some (.list (.list (.int .i64))), some (.list (.int .i64))], om 11 22]) (.seq (.reg [om 23 11, om 24 7, oo 25 (.bin .gtr (.t 23) (.t 24)), om 26 25, og 27 26 false (.mv (.t 11)), og 28 26 false (.mv (.t 7)), og 29 26 false (.bin .eql (.t 27) (.t 28)), og 30 26 false (.mv (.t 29)), og 31 30 true (.mv (.t 10)), og 32 30 true (.mv (.t 2)), og 33 30 true (.idx 1 (.t 31) (.t 32)), og 34 30 true (.load false 1 (.t 33)), og 35 30 true (.mv (.t 8)), og 36 30 true (.bin .lss (.t 34) (.t 35)), og 37 26 false (.pick (.t 30) (.t 36) (.c (.tf false))), oo 38 (.pick (.t 26) (.c (.tf true)) (.t 37))]) (.cond ( .t 38) (.draw [[], [], [], [1, 2], [1, 2, 3], [0], [0, 1, 2, 3, 4, 5]] [om 39 11, om 40 10, om 41 2, oo 42 (.idx 1 (.t 40) (.t 41)), ol 43 42, om 7 39, om 8 43]) .skip))))) (.reg [oo 44 (.bin .add (.t 16) (ki 1)), om 16 44]))))
noncomputable def g44_0 (v0 : List (List Int)) (v2 : Int) (v7 : Int) (v8 : Int) (v14 : List (List Int)) (v15 : Int) (v16 : Int) : Option ((List (List Int) × Int × Int × Int × List (List Int) × Int × Int × Unit) ⊕ ((Int × Unit))) :=
 brO (decide (v16 < v15)) (
 need (inb v16 (((v14).length : Nat) : Int)) (
 bindO (F41 v0 ((v14).getD (Int.toNat v16) [])) fun y1 =>
 brO (decide (v7 < y1.1)) (
 need (inb v2 (((((v14).getD (Int.toNat v16) [])).length : Nat) : Int)) (
 need (rng .i64 (v16 + (1 : Int))) (
 some (.inl (v0, (v2, (y1.1, (((((v14).getD (Int.toNat v16) [])).getD (Int.toNat v2) (0 : Int)), (v14, (v15, ((v16 + (1 : Int)), ()))))))))))) (
 brO (y1.1 == v7) (
 need (inb v2 (((((v14).getD (Int.toNat v16) [])).length : Nat) : Int)) (
 brO (decide (((((v14).getD (Int.toNat v16) [])).getD (Int.toNat v2) (0 : Int)) < v8)) (
 need (inb v2 (((((v14).getD (Int.toNat v16) [])).length : Nat) : Int)) (
 need (rng .i64 (v16 + (1 : Int))) (
 some (.inl (v0, (v2, (y1.1, (((((v14).getD (Int.toNat v16) [])).getD (Int.toNat v2) (0 : Int)), (v14, (v15, ((v16 + (1 : Int)), ()))))))))))) (
 need (rng .i64 (v16 + (1 : Int))) (
 some (.inl (v0, (v2, (v7, (v8, (v14, (v15, ((v16 + (1 : Int)), ())))))))))))) (
 need (rng .i64 (v16 + (1 : Int))) (
 some (.inl (v0, (v2, (v7, (v8, (v14, (v15, ((v16 + (1 : Int)), ()))))))))))))) (
 some (.inr (v8, ())))
noncomputable def L44_0 : LoopS prog 46 none 0 := mkLoop mixed cx44 cx44_ok [] rfl p44_0 x44_0 rfl (b44_0) (fun x => g44_0 x.1 x.2.1 x.2.2.1 x.2.2.2.1 x.2.2.2.2.1 x.2.2.2.2.2.1 x.2.2.2.2.2.2.1) (by intro x; kernel_rfl)
noncomputable def dd44 : D prog 46 none 0 := (.seq (.reg [oo 6 (.mv (ki 0))]) (.seq (.reg [oo 7 (.mv (.c (.int .i64 (Int.negSucc 0)))), oo 8 (.mv (ki 0))]) (.seq (.seq (.reg [om 12 0, om 13 1, .call (some 14) none (.c (.fn 40 [] [])) [.t 12, .t 13] [some (.list (.list (.int .i64))), some (.int .i64)], oo 15 (.len (.t 14)), oo 16 (.mv (ki 0))]) (.block 0 (.loop L44_0))) (.seq (.reg [om 45 8, om 6 45]) .ret))))
noncomputable def F44 (a0 : List (List Int)) (a1 : Int) (a2 : Int) : Option (Int × Unit) :=
 bindO (F40 a0 a1) fun y0 =>
 bindO (iter (fun x => g44_0 x.1 x.2.1 x.2.2.1 x.2.2.2.1 x.2.2.2.2.1 x.2.2.2.2.2.1 x.2.2.2.2.2.2.1) (a0, (a2, ((-1 : Int), ((0 : Int), (y0.1, ((((y0.1).length : Nat) : Int), ((0 : Int), ())))))))) fun z2 =>
 some (z2.1, ())
theorem c44_ok : trF prog f44 = some ⟨46, 3, dd44.er, [.t 6], [some (.int .i64)]⟩ := by kernel_rfl
noncomputable def ct44 : Ct := ⟨44, [.c (.hole (.list (.list (.int .i64)))), .c (.hole (.int .i64)), .c (.hole (.int .i64))], .c (.hole (.int .i64)), fun x => F44 x.1 x.2.1 x.2.2.1⟩
theorem ct44_ok : ct44.Ok prog := ct_ok mixed cx44_ok func44 c44_ok (enters_of func44 rfl rfl) dd44 rfl rfl (fun x => by kernel_rfl)

/- 45 -/
noncomputable def cx45 : Cx := mkCxH [ct40, ct41] []
theorem cx45_ok : cx45.Ok prog := mkCxH_ok ⟨ct40_ok, ct41_ok, trivial⟩ trivial
@[reducible] def p45_0 : Pat := Pat.mk [(0, hzM), (2, hzI), (7, hzI), (8, hzI), (14, hzM), (15, hzI), (16, hzI)] [] [] []
@[reducible] def x45_0 : Outs := [(.exit 0, Pat.mk [(8, hzI)] [] [] [])]
noncomputable def b45_0 : D prog 48 none 0 := (.seq (.reg [oo 17 (.bin .lss (.t 16) (.t 15))]) (.seq (.cond ( .t 17) .skip (.exit 0)) (.seq (.block 1 (.seq (.reg [oo 18 (.idx 1 (.t 14) (.t 16)), ol 19 18, om 10 19]) (.seq (.reg [om 20 0, om 21 10, .call (some 22) none (.c (.fn 41 [] [])) [.t 20, .t 21] [some (.list (.list (.int .i64))), some (.list (.int .i64))], om 11 22]) (.seq (.reg [om 23 11, om 24 7, oo 25 (.bin .gtr (.t 23) (.t 24)), om 26 25, og 27 26 false (.mv (.t 11)), og 28 26 false (.mv (.t 7)), og 29 26 false (.bin .eql (.t 27) (.t 28)), og 30 26 false (.mv (.t 29)), og 31 30 true (.mv (.t 10)), og 32 30 true (.mv (.t 2)), og 33 30 true (.idx 1 (.t 31) (.t 32)), og 34 30 true (.load false 1 (.t 33)), og 35 30 true (.neg (.t 34)), og 36 30 true (.mv (.t 8)), og 37 30 true (.bin .lss (.t 35) (.t 36)), og 38 26 false (.pick (.t 30) (.t 37) (.c (.tf false))), oo 39 (.pick (.t 26) (.c (.tf true)) (.t 38))]) (.cond ( .t 39) (.draw [[], [], [], [1, 2], [1, 2, 3], [1, 2, 3, 4], [0], [0, 1, 2, 3, 4, 5, 6]] [om 40 11, om 41 10, om 42 2, oo 43 (.idx 1 (.t 41) (.t 42)), ol 44 43, oo 45 (.neg (.t 44)), om 7 40, om 8 45]) .skip))))) (.reg [oo 46 (.bin .add (.t 16) (ki 1)), om 16 46]))))
noncomputable def g45_0 (v0 : List (List Int)) (v2 : Int) (v7 : Int) (v8 : Int) (v14 : List (List Int)) (v15 : Int) (v16 : Int) : Option ((List (List Int) × Int × Int × Int × List (List Int) × Int × Int × Unit) ⊕ ((Int × Unit))) :=
 brO (decide (v16 < v15)) (
 need (inb v16 (((v14).length : Nat) : Int)) (
 bindO (F41 v0 ((v14).getD (Int.toNat v16) [])) fun y1 =>
 brO (decide (v7 < y1.1)) (
 need (inb v2 (((((v14).getD (Int.toNat v16) [])).length : Nat) : Int)) (
 need (rng .i64 ((0 : Int) - ((((v14).getD (Int.toNat v16) [])).getD (Int.toNat v2) (0 : Int)))) (
 need (rng .i64 (v16 + (1 : Int))) (
 some (.inl (v0, (v2, (y1.1, (((0 : Int) - ((((v14).getD (Int.toNat v16) [])).getD (Int.toNat v2) (0 : Int))), (v14, (v15, ((v16 + (1 : Int)), ())))))))))))) (
 brO (y1.1 == v7) (
 need (inb v2 (((((v14).getD (Int.toNat v16) [])).length : Nat) : Int)) (
 need (rng .i64 ((0 : Int) - ((((v14).getD (Int.toNat v16) [])).getD (Int.toNat v2) (0 : Int)))) (
 brO (decide (((0 : Int) - ((((v14).getD (Int.toNat v16) [])).getD (Int.toNat v2) (0 : Int))) < v8)) (
 need (inb v2 (((((v14).getD (Int.toNat v16) [])).length : Nat) : Int)) (
 need (rng .i64 ((0 : Int) - ((((v14).getD (Int.toNat v16) [])).getD (Int.toNat v2) (0 : Int)))) (
 need (rng .i64 (v16 + (1 : Int))) (
 some (.inl (v0, (v2, (y1.1, (((0 : Int) - ((((v14).getD (Int.toNat v16) [])).getD (Int.toNat v2) (0 : Int))), (v14, (v15, ((v16 + (1 : Int)), ())))))))))))) (
 need (rng .i64 (v16 + (1 : Int))) (
 some (.inl (v0, (v2, (v7, (v8, (v14, (v15, ((v16 + (1 : Int)), ()))))))))))))) (
 need (rng .i64 (v16 + (1 : Int))) (
 some (.inl (v0, (v2, (v7, (v8, (v14, (v15, ((v16 + (1 : Int)), ()))))))))))))) (
 some (.inr (v8, ())))
noncomputable def L45_0 : LoopS prog 48 none 0 := mkLoop mixed cx45 cx45_ok [] rfl p45_0 x45_0 rfl (b45_0) (fun x => g45_0 x.1 x.2.1 x.2.2.1 x.2.2.2.1 x.2.2.2.2.1 x.2.2.2.2.2.1 x.2.2.2.2.2.2.1) (by intro x; kernel_rfl)
noncomputable def dd45 : D prog 48 none 0 := (.seq (.reg [oo 6 (.mv (ki 0))]) (.seq (.reg [oo 7 (.mv (.c (.int .i64 (Int.negSucc 0)))), oo 8 (.mv (ki 0))]) (.seq (.seq (.reg [om 12 0, om 13 1, .call (some 14) none (.c (.fn 40 [] [])) [.t 12, .t 13] [some (.list (.list (.int .i64))), some (.int .i64)], oo 15 (.len (.t 14)), oo 16 (.mv (ki 0))]) (.block 0 (.loop L45_0))) (.seq (.reg [om 47 8, om 6 47]) .ret))))
noncomputable def F45 (a0 : List (List Int)) (a1 : Int) (a2 : Int) : Option (Int × Unit) :=
 bindO (F40 a0 a1) fun y0 =>
 bindO (iter (fun x => g45_0 x.1 x.2.1 x.2.2.1 x.2.2.2.1 x.2.2.2.2.1 x.2.2.2.2.2.1 x.2.2.2.2.2.2.1) (a0, (a2, ((-1 : Int), ((0 : Int), (y0.1, ((((y0.1).length : Nat) : Int), ((0 : Int), ())))))))) fun z2 =>
 some (z2.1, ())
theorem c45_ok : trF prog f45 = some ⟨48, 3, dd45.er, [.t 6], [some (.int .i64)]⟩ := by kernel_rfl
noncomputable def ct45 : Ct := ⟨45, [.c (.hole (.list (.list (.int .i64)))), .c (.hole (.int .i64)), .c (.hole (.int .i64))], .c (.hole (.int .i64)), fun x => F45 x.1 x.2.1 x.2.2.1⟩
theorem ct45_ok : ct45.Ok prog := ct_ok mixed cx45_ok func45 c45_ok (enters_of func45 rfl rfl) dd45 rfl rfl (fun x => by kernel_rfl)

/- 12 -/
noncomputable def cx12 : Cx := mkCxH [ct42, ct35, ct43, ct40, ct41, ct44, ct45, ct16] []
theorem cx12_ok : cx12.Ok prog := mkCxH_ok ⟨ct42_ok, ct35_ok, ct43_ok, ct40_ok, ct41_ok, ct44_ok, ct45_ok, ct16_ok, trivial⟩ trivial
@[reducible] def p12_0 : Pat := Pat.mk [(7, .c (.hole (.list (.list (.prod (.int .i64) (.int .i64)))))), (8, hzI), (9, .c (.hole (.list (.prod (.int .i64) (.int .i64))))), (10, .c (.ptr 0 0)), (12, hzM), (13, hzM), (14, hzI), (57, hzM), (58, hzI), (59, hzI)] [(0, .cells [.hole (.int .i64), .hole (.int .i64)] false)] [.slot 10] []
@[reducible] def x12_0 : Outs := [(.exit 0, Pat.mk [(7, .c (.hole (.list (.list (.prod (.int .i64) (.int .i64)))))), (8, hzI), (9, .c (.hole (.list (.prod (.int .i64) (.int .i64))))), (10, .c (.ptr 0 0)), (12, hzM), (13, hzM), (14, hzI)] [(0, .cells [.hole (.int .i64), .hole (.int .i64)] false)] [.slot 10] [])]
noncomputable def b12_0 : D prog 195 none 0 := (.seq (.reg [oo 60 (.bin .lss (.t 59) (.t 58))]) (.seq (.cond ( .t 60) .skip (.exit 0)) (.seq (.block 1 (.seq (.reg [oo 61 (.idx 1 (.t 57) (.t 59)), ol 62 61, om 16 62]) (.reg [om 63 14, om 64 12, om 65 16, .call (some 66) none (.c (.fn 41 [] [])) [.t 64, .t 65] [some (.list (.list (.int .i64))), some (.list (.int .i64))], oo 67 (.minmax true (.t 63) [.t 66]), om 14 67]))) (.reg [oo 68 (.bin .add (.t 59) (ki 1)), om 59 68]))))
noncomputable def g12_0 (v7 : List (List (Int × Int))) (v8 : Int) (v9 : List (Int × Int)) (v12 : List (List Int)) (v13 : List (List Int)) (v14 : Int) (v57 : List (List Int)) (v58 : Int) (v59 : Int) (c0_0 : Int) (c0_1 : Int) : Option (((List (List (Int × Int))) × Int × (List (Int × Int)) × List (List Int) × List (List Int) × Int × List (List Int) × Int × Int × Int × Int × Unit) ⊕ (((List (List (Int × Int))) × Int × (List (Int × Int)) × List (List Int) × List (List Int) × Int × Int × Int × Unit))) :=
 brO (decide (v59 < v58)) (
 need (inb v59 (((v57).length : Nat) : Int)) (
 bindO (F41 v12 ((v57).getD (Int.toNat v59) [])) fun y4 =>
 need (rng .i64 (v59 + (1 : Int))) (
 some (.inl (v7, (v8, (v9, (v12, (v13, ((imax v14 y4.1), (v57, (v58, ((v59 + (1 : Int)), (c0_0, (c0_1, ()))))))))))))))) (
 some (.inr (v7, (v8, (v9, (v12, (v13, (v14, (c0_0, (c0_1, ()))))))))))
noncomputable def L12_0 : LoopS prog 195 none 0 := mkLoop mixed cx12 cx12_ok [] rfl p12_0 x12_0 rfl (b12_0) (fun x => g12_0 x.1 x.2.1 x.2.2.1 x.2.2.2.1 x.2.2.2.2.1 x.2.2.2.2.2.1 x.2.2.2.2.2.2.1 x.2.2.2.2.2.2.2.1 x.2.2.2.2.2.2.2.2.1 x.2.2.2.2.2.2.2.2.2.1 x.2.2.2.2.2.2.2.2.2.2.1) (by intro x; kernel_rfl)
@[reducible] def p12_2 : Pat := Pat.mk [(7, .c (.hole (.list (.list (.prod (.int .i64) (.int .i64)))))), (8, hzI), (9, .c (.hole (.list (.prod (.int .i64) (.int .i64))))), (12, hzM), (14, hzI), (18, hzL), (79, hzM), (80, hzI), (81, hzI), (85, hzL), (86, hzI), (87, hzI)] [] [] []
@[reducible] def x12_2 : Outs := [(.ret, Pat.mk [(6, .c (.tf false))] [] [] []), (.exit 4, Pat.mk [(7, .c (.hole (.list (.list (.prod (.int .i64) (.int .i64)))))), (8, hzI), (9, .c (.hole (.list (.prod (.int .i64) (.int .i64))))), (12, hzM), (14, hzI), (79, hzM), (80, hzI), (81, hzI)] [] [] [])]
noncomputable def b12_2 : D prog 195 none 0 := (.seq (.reg [oo 88 (.bin .lss (.t 87) (.t 86))]) (.seq (.cond ( .t 88) .skip (.exit 4)) (.seq (.block 5 (.seq (.reg [om 89 87, oo 90 (.idx 1 (.t 85) (.t 87)), ol 91 90, om 19 89, om 20 91]) (.seq (.reg [om 92 12, om 93 18, .call (some 94) none (.c (.fn 41 [] [])) [.t 92, .t 93] [some (.list (.list (.int .i64))), some (.list (.int .i64))], om 95 14, oo 96 (.bin .eql (.t 94) (.t 95)), om 97 96, og 98 97 true (.mv (.t 20)), og 99 97 true (.mv (.t 9)), og 100 97 true (.mv (.t 19)), og 101 97 true (.idx 2 (.t 99) (.t 100)), og 102 97 true (.fld 0 [false] (.t 101)), og 103 97 true (.load false 1 (.t 102)), og 104 97 true (.bin .lss (.t 98) (.t 103)), og 105 97 true (.mv (.t 104)), og 106 105 false (.mv (.t 20)), og 107 105 false (.mv (.t 9)), og 108 105 false (.mv (.t 19)), og 109 105 false (.idx 2 (.t 107) (.t 108)), og 110 105 false (.fld 1 [true] (.t 109)), og 111 105 false (.load false 1 (.t 110)), og 112 105 false (.bin .gtr (.t 106) (.t 111)), og 113 97 true (.pick (.t 105) (.c (.tf true)) (.t 112)), oo 114 (.pick (.t 97) (.t 113) (.c (.tf false)))]) (.cond ( .t 114) (.seq (.reg [oo 6 (.mv (.c (.tf false)))]) .ret) .skip)))) (.reg [oo 115 (.bin .add (.t 87) (ki 1)), om 87 115]))))
noncomputable def g12_2 (v7 : List (List (Int × Int))) (v8 : Int) (v9 : List (Int × Int)) (v12 : List (List Int)) (v14 : Int) (v18 : List Int) (v79 : List (List Int)) (v80 : Int) (v81 : Int) (v85 : List Int) (v86 : Int) (v87 : Int) : Option (((List (List (Int × Int))) × Int × (List (Int × Int)) × List (List Int) × Int × List Int × List (List Int) × Int × Int × List Int × Int × Int × Unit) ⊕ ((Unit) ⊕ (((List (List (Int × Int))) × Int × (List (Int × Int)) × List (List Int) × Int × List (List Int) × Int × Int × Unit)))) :=
 brO (decide (v87 < v86)) (
 need (inb v87 (((v85).length : Nat) : Int)) (
 bindO (F41 v12 v18) fun y6 =>
 brO (y6.1 == v14) (
 need (inb v87 (((v9).length : Nat) : Int)) (
 brO (decide (((v85).getD (Int.toNat v87) (0 : Int)) < ((v9).getD (Int.toNat v87) ((0 : Int), (0 : Int))).1)) (
 some (.inr <| .inl <| ())) (
 need (inb v87 (((v9).length : Nat) : Int)) (
 brO (decide (((v9).getD (Int.toNat v87) ((0 : Int), (0 : Int))).2 < ((v85).getD (Int.toNat v87) (0 : Int)))) (
 some (.inr <| .inl <| ())) (
 need (rng .i64 (v87 + (1 : Int))) (
 some (.inl (v7, (v8, (v9, (v12, (v14, (v18, (v79, (v80, (v81, (v85, (v86, ((v87 + (1 : Int)), ()))))))))))))))))))) (
 need (rng .i64 (v87 + (1 : Int))) (
 some (.inl (v7, (v8, (v9, (v12, (v14, (v18, (v79, (v80, (v81, (v85, (v86, ((v87 + (1 : Int)), ()))))))))))))))))) (
 some (.inr <| .inr <| (v7, (v8, (v9, (v12, (v14, (v79, (v80, (v81, ()))))))))))
noncomputable def L12_2 : LoopS prog 195 none 0 := mkLoop mixed cx12 cx12_ok [] rfl p12_2 x12_2 rfl (b12_2) (fun x => g12_2 x.1 x.2.1 x.2.2.1 x.2.2.2.1 x.2.2.2.2.1 x.2.2.2.2.2.1 x.2.2.2.2.2.2.1 x.2.2.2.2.2.2.2.1 x.2.2.2.2.2.2.2.2.1 x.2.2.2.2.2.2.2.2.2.1 x.2.2.2.2.2.2.2.2.2.2.1 x.2.2.2.2.2.2.2.2.2.2.2.1) (by intro x; kernel_rfl)
@[reducible] def p12_1 : Pat := Pat.mk [(7, .c (.hole (.list (.list (.prod (.int .i64) (.int .i64)))))), (8, hzI), (9, .c (.hole (.list (.prod (.int .i64) (.int .i64))))), (12, hzM), (14, hzI), (79, hzM), (80, hzI), (81, hzI)] [] [] []
@[reducible] def x12_1 : Outs := [(.ret, Pat.mk [(6, .c (.tf false))] [] [] []), (.exit 2, Pat.mk [(7, .c (.hole (.list (.list (.prod (.int .i64) (.int .i64)))))), (8, hzI), (9, .c (.hole (.list (.prod (.int .i64) (.int .i64)))))] [] [] [])]
noncomputable def b12_1 : D prog 195 none 0 := (.seq (.reg [oo 82 (.bin .lss (.t 81) (.t 80))]) (.seq (.cond ( .t 82) .skip (.exit 2)) (.seq (.block 3 (.seq (.reg [oo 83 (.idx 1 (.t 79) (.t 81)), ol 84 83, om 18 84]) (.seq (.reg [om 85 18, oo 86 (.len (.t 85)), oo 87 (.mv (ki 0))]) (.block 4 (.loop L12_2))))) (.reg [oo 116 (.bin .add (.t 81) (ki 1)), om 81 116]))))
noncomputable def g12_1 (v7 : List (List (Int × Int))) (v8 : Int) (v9 : List (Int × Int)) (v12 : List (List Int)) (v14 : Int) (v79 : List (List Int)) (v80 : Int) (v81 : Int) : Option (((List (List (Int × Int))) × Int × (List (Int × Int)) × List (List Int) × Int × List (List Int) × Int × Int × Unit) ⊕ ((Unit) ⊕ (((List (List (Int × Int))) × Int × (List (Int × Int)) × Unit)))) :=
 brO (decide (v81 < v80)) (
 need (inb v81 (((v79).length : Nat) : Int)) (
 bindO (iter (fun x => g12_2 x.1 x.2.1 x.2.2.1 x.2.2.2.1 x.2.2.2.2.1 x.2.2.2.2.2.1 x.2.2.2.2.2.2.1 x.2.2.2.2.2.2.2.1 x.2.2.2.2.2.2.2.2.1 x.2.2.2.2.2.2.2.2.2.1 x.2.2.2.2.2.2.2.2.2.2.1 x.2.2.2.2.2.2.2.2.2.2.2.1) (v7, (v8, (v9, (v12, (v14, (((v79).getD (Int.toNat v81) []), (v79, (v80, (v81, (((v79).getD (Int.toNat v81) []), ((((((v79).getD (Int.toNat v81) [])).length : Nat) : Int), ((0 : Int), ()))))))))))))) fun z7 =>
 match z7 with
 | .inl z8 =>
 some (.inr <| .inl <| ())
 | .inr z9 =>
 need (rng .i64 (z9.2.2.2.2.2.2.2.1 + (1 : Int))) (
 some (.inl (z9.1, (z9.2.1, (z9.2.2.1, (z9.2.2.2.1, (z9.2.2.2.2.1, (z9.2.2.2.2.2.1, (z9.2.2.2.2.2.2.1, ((z9.2.2.2.2.2.2.2.1 + (1 : Int)), ())))))))))))) (
 some (.inr <| .inr <| (v7, (v8, (v9, ())))))
noncomputable def L12_1 : LoopS prog 195 none 0 := mkLoop mixed cx12 cx12_ok [] rfl p12_1 x12_1 rfl (b12_1) (fun x => g12_1 x.1 x.2.1 x.2.2.1 x.2.2.2.1 x.2.2.2.2.1 x.2.2.2.2.2.1 x.2.2.2.2.2.2.1 x.2.2.2.2.2.2.2.1) (by intro x; kernel_rfl)
@[reducible] def p12_5 : Pat := Pat.mk [(7, .c (.hole (.list (.list (.prod (.int .i64) (.int .i64)))))), (8, hzI), (9, .c (.hole (.list (.prod (.int .i64) (.int .i64))))), (21, hzI), (22, .c (.sl0 0 (.list (.int .i64)))), (23, .c (.sl0 1 (.list (.int .i64)))), (24, hzI), (26, .c (.sl0 2 (.int .i64))), (27, .c (.sl0 3 (.int .i64))), (118, hzI), (119, hzI), (122, .c (.hole (.list (.list (.prod (.int .i64) (.int .i64)))))), (123, hzI), (124, hzI), (131, .c (.hole (.list (.prod (.int .i64) (.int .i64))))), (132, hzI), (133, hzI)] [(0, .arr (.list (.int .i64)) false), (1, .arr (.list (.int .i64)) false), (2, .arr (.int .i64) false), (3, .arr (.int .i64) false)] [.slot 22, .slot 23, .slot 26, .slot 27] []
@[reducible] def x12_5 : Outs := [(.exit 10, Pat.mk [(7, .c (.hole (.list (.list (.prod (.int .i64) (.int .i64)))))), (8, hzI), (9, .c (.hole (.list (.prod (.int .i64) (.int .i64))))), (21, hzI), (22, .c (.sl0 0 (.list (.int .i64)))), (23, .c (.sl0 1 (.list (.int .i64)))), (26, .c (.sl0 2 (.int .i64))), (27, .c (.sl0 3 (.int .i64))), (118, hzI), (119, hzI), (122, .c (.hole (.list (.list (.prod (.int .i64) (.int .i64)))))), (123, hzI), (124, hzI)] [(0, .arr (.list (.int .i64)) false), (1, .arr (.list (.int .i64)) false), (2, .arr (.int .i64) false), (3, .arr (.int .i64) false)] [.slot 22, .slot 23, .slot 26, .slot 27] [])]
noncomputable def b12_5 : D prog 195 none 0 := (.seq (.reg [oo 134 (.bin .lss (.t 133) (.t 132))]) (.seq (.cond ( .t 134) .skip (.exit 10)) (.seq (.block 11 (.seq (.reg [oo 135 (.idx 2 (.t 131) (.t 133)), oo 136 (.load true 2 (.t 135)), oo 29 (.alloc [.int .i64 (Int.ofNat 0), .int .i64 (Int.ofNat 0)]), .op none none (.store 2 (.t 29) (.t 136))]) (.seq (.reg [om 137 24, om 138 21, oo 139 (.bin .eql (.t 137) (.t 138))]) (.cond ( .t 139) (.draw [[], [], [1], [1, 2], [0, 1, 2, 3], [], [], [6], [6, 7], [0, 1, 2, 3, 4, 5, 6, 7, 8], [0, 1, 2, 3, 4, 5, 6, 7, 8, 9], [0, 1, 2, 3, 4, 5, 6, 7, 8, 9, 10]] [om 140 26, oo 141 (.fld 0 [false] (.t 29)), ol 142 141, oo 143 (.bslice (.int .i64) [.t 142]), oo 144 (.append 1 (.t 140) (.t 143)), om 145 27, oo 146 (.fld 1 [true] (.t 29)), ol 147 146, oo 148 (.bslice (.int .i64) [.t 147]), oo 149 (.append 1 (.t 145) (.t 148)), om 26 144, om 27 149]) (.draw [[], [], [1], [1, 2], [0, 1, 2, 3], [], [], [6], [6, 7], [0, 1, 2, 3, 4, 5, 6, 7, 8], [0, 1, 2, 3, 4, 5, 6, 7, 8, 9], [0, 1, 2, 3, 4, 5, 6, 7, 8, 9, 10]] [om 150 26, oo 151 (.fld 1 [true] (.t 29)), ol 152 151, oo 153 (.bslice (.int .i64) [.t 152]), oo 154 (.append 1 (.t 150) (.t 153)), om 155 27, oo 156 (.fld 0 [false] (.t 29)), ol 157 156, oo 158 (.bslice (.int .i64) [.t 157]), oo 159 (.append 1 (.t 155) (.t 158)), om 26 154, om 27 159]))))) (.reg [oo 160 (.bin .add (.t 133) (ki 1)), om 133 160]))))
noncomputable def g12_5 (v7 : List (List (Int × Int))) (v8 : Int) (v9 : List (Int × Int)) (v21 : Int) (nv22 : Nat) (nv23 : Nat) (v24 : Int) (nv26 : Nat) (nv27 : Nat) (v118 : Int) (v119 : Int) (v122 : List (List (Int × Int))) (v123 : Int) (v124 : Int) (v131 : List (Int × Int)) (v132 : Int) (v133 : Int) (b0 : List (List Int)) (b1 : List (List Int)) (b2 : List Int) (b3 : List Int) : Option (((List (List (Int × Int))) × Int × (List (Int × Int)) × Int × Nat × Nat × Int × Nat × Nat × Int × Int × (List (List (Int × Int))) × Int × Int × (List (Int × Int)) × Int × Int × List (List Int) × List (List Int) × List Int × List Int × Unit) ⊕ (((List (List (Int × Int))) × Int × (List (Int × Int)) × Int × Nat × Nat × Nat × Nat × Int × Int × (List (List (Int × Int))) × Int × Int × List (List Int) × List (List Int) × List Int × List Int × Unit))) :=
 brO (decide (v133 < v132)) (
 need (inb v133 (((v131).length : Nat) : Int)) (
 brO (v24 == v21) (
 need (decide ((nv26 + (((((((v131).getD (Int.toNat v133) ((0 : Int), (0 : Int))).1 :: [])).drop (0 : Nat)).take (1 : Nat))).length) < bigL)) (
 need (decide ((nv27 + (((((((v131).getD (Int.toNat v133) ((0 : Int), (0 : Int))).2 :: [])).drop (0 : Nat)).take (1 : Nat))).length) < bigL)) (
 need (rng .i64 (v133 + (1 : Int))) (
 some (.inl (v7, (v8, (v9, (v21, (nv22, (nv23, (v24, ((nv26 + (((((((v131).getD (Int.toNat v133) ((0 : Int), (0 : Int))).1 :: [])).drop (0 : Nat)).take (1 : Nat))).length), ((nv27 + (((((((v131).getD (Int.toNat v133) ((0 : Int), (0 : Int))).2 :: [])).drop (0 : Nat)).take (1 : Nat))).length), (v118, (v119, (v122, (v123, (v124, (v131, (v132, ((v133 + (1 : Int)), (b0, (b1, (((((b2).drop (0 : Nat)).take nv26) ++ ((((((v131).getD (Int.toNat v133) ((0 : Int), (0 : Int))).1 :: [])).drop (0 : Nat)).take (1 : Nat))), (((((b3).drop (0 : Nat)).take nv27) ++ ((((((v131).getD (Int.toNat v133) ((0 : Int), (0 : Int))).2 :: [])).drop (0 : Nat)).take (1 : Nat))), ())))))))))))))))))))))))))) (
 need (decide ((nv26 + (((((((v131).getD (Int.toNat v133) ((0 : Int), (0 : Int))).2 :: [])).drop (0 : Nat)).take (1 : Nat))).length) < bigL)) (
 need (decide ((nv27 + (((((((v131).getD (Int.toNat v133) ((0 : Int), (0 : Int))).1 :: [])).drop (0 : Nat)).take (1 : Nat))).length) < bigL)) (
 need (rng .i64 (v133 + (1 : Int))) (
 some (.inl (v7, (v8, (v9, (v21, (nv22, (nv23, (v24, ((nv26 + (((((((v131).getD (Int.toNat v133) ((0 : Int), (0 : Int))).2 :: [])).drop (0 : Nat)).take (1 : Nat))).length), ((nv27 + (((((((v131).getD (Int.toNat v133) ((0 : Int), (0 : Int))).1 :: [])).drop (0 : Nat)).take (1 : Nat))).length), (v118, (v119, (v122, (v123, (v124, (v131, (v132, ((v133 + (1 : Int)), (b0, (b1, (((((b2).drop (0 : Nat)).take nv26) ++ ((((((v131).getD (Int.toNat v133) ((0 : Int), (0 : Int))).2 :: [])).drop (0 : Nat)).take (1 : Nat))), (((((b3).drop (0 : Nat)).take nv27) ++ ((((((v131).getD (Int.toNat v133) ((0 : Int), (0 : Int))).1 :: [])).drop (0 : Nat)).take (1 : Nat))), ())))))))))))))))))))))))))))) (
 some (.inr (v7, (v8, (v9, (v21, (nv22, (nv23, (nv26, (nv27, (v118, (v119, (v122, (v123, (v124, (b0, (b1, (b2, (b3, ())))))))))))))))))))
noncomputable def L12_5 : LoopS prog 195 none 0 := mkLoop mixed cx12 cx12_ok [] rfl p12_5 x12_5 rfl (b12_5) (fun x => g12_5 x.1 x.2.1 x.2.2.1 x.2.2.2.1 x.2.2.2.2.1 x.2.2.2.2.2.1 x.2.2.2.2.2.2.1 x.2.2.2.2.2.2.2.1 x.2.2.2.2.2.2.2.2.1 x.2.2.2.2.2.2.2.2.2.1 x.2.2.2.2.2.2.2.2.2.2.1 x.2.2.2.2.2.2.2.2.2.2.2.1 x.2.2.2.2.2.2.2.2.2.2.2.2.1 x.2.2.2.2.2.2.2.2.2.2.2.2.2.1 x.2.2.2.2.2.2.2.2.2.2.2.2.2.2.1 x.2.2.2.2.2.2.2.2.2.2.2.2.2.2.2.1 x.2.2.2.2.2.2.2.2.2.2.2.2.2.2.2.2.1 x.2.2.2.2.2.2.2.2.2.2.2.2.2.2.2.2.2.1 x.2.2.2.2.2.2.2.2.2.2.2.2.2.2.2.2.2.2.1 x.2.2.2.2.2.2.2.2.2.2.2.2.2.2.2.2.2.2.2.1 x.2.2.2.2.2.2.2.2.2.2.2.2.2.2.2.2.2.2.2.2.1) (by intro x; kernel_rfl)
@[reducible] def p12_4 : Pat := Pat.mk [(7, .c (.hole (.list (.list (.prod (.int .i64) (.int .i64)))))), (8, hzI), (9, .c (.hole (.list (.prod (.int .i64) (.int .i64))))), (21, hzI), (22, .c (.sl0 0 (.list (.int .i64)))), (23, .c (.sl0 1 (.list (.int .i64)))), (118, hzI), (119, hzI), (122, .c (.hole (.list (.list (.prod (.int .i64) (.int .i64)))))), (123, hzI), (124, hzI)] [(0, .arr (.list (.int .i64)) false), (1, .arr (.list (.int .i64)) false)] [.slot 22, .slot 23] []
@[reducible] def x12_4 : Outs := [(.exit 8, Pat.mk [(7, .c (.hole (.list (.list (.prod (.int .i64) (.int .i64)))))), (8, hzI), (9, .c (.hole (.list (.prod (.int .i64) (.int .i64))))), (21, hzI), (22, .c (.sl0 0 (.list (.int .i64)))), (23, .c (.sl0 1 (.list (.int .i64)))), (118, hzI), (119, hzI)] [(0, .arr (.list (.int .i64)) false), (1, .arr (.list (.int .i64)) false)] [.slot 22, .slot 23] [])]
noncomputable def b12_4 : D prog 195 none 0 := (.seq (.reg [oo 125 (.bin .lss (.t 124) (.t 123))]) (.seq (.cond ( .t 125) .skip (.exit 8)) (.seq (.block 9 (.seq (.reg [om 126 124, oo 127 (.idx 1 (.t 122) (.t 124)), ol 128 127, om 24 126, om 25 128]) (.seq (.reg [oo 129 (.bslice (.int .i64) []), oo 130 (.bslice (.int .i64) []), om 26 129, om 27 130]) (.seq (.seq (.reg [om 131 25, oo 132 (.len (.t 131)), oo 133 (.mv (ki 0))]) (.block 10 (.loop L12_5))) (.reg [om 161 22, om 162 26, oo 163 (.bslice (.list (.int .i64)) [.t 162]), oo 164 (.append 1 (.t 161) (.t 163)), om 165 23, om 166 27, oo 167 (.bslice (.list (.int .i64)) [.t 166]), oo 168 (.append 1 (.t 165) (.t 167)), om 22 164, om 23 168]))))) (.reg [oo 169 (.bin .add (.t 124) (ki 1)), om 124 169]))))
noncomputable def g12_4 (v7 : List (List (Int × Int))) (v8 : Int) (v9 : List (Int × Int)) (v21 : Int) (nv22 : Nat) (nv23 : Nat) (v118 : Int) (v119 : Int) (v122 : List (List (Int × Int))) (v123 : Int) (v124 : Int) (b0 : List (List Int)) (b1 : List (List Int)) : Option (((List (List (Int × Int))) × Int × (List (Int × Int)) × Int × Nat × Nat × Int × Int × (List (List (Int × Int))) × Int × Int × List (List Int) × List (List Int) × Unit) ⊕ (((List (List (Int × Int))) × Int × (List (Int × Int)) × Int × Nat × Nat × Int × Int × List (List Int) × List (List Int) × Unit))) :=
 brO (decide (v124 < v123)) (
 need (inb v124 (((v122).length : Nat) : Int)) (
 bindO (iter (fun x => g12_5 x.1 x.2.1 x.2.2.1 x.2.2.2.1 x.2.2.2.2.1 x.2.2.2.2.2.1 x.2.2.2.2.2.2.1 x.2.2.2.2.2.2.2.1 x.2.2.2.2.2.2.2.2.1 x.2.2.2.2.2.2.2.2.2.1 x.2.2.2.2.2.2.2.2.2.2.1 x.2.2.2.2.2.2.2.2.2.2.2.1 x.2.2.2.2.2.2.2.2.2.2.2.2.1 x.2.2.2.2.2.2.2.2.2.2.2.2.2.1 x.2.2.2.2.2.2.2.2.2.2.2.2.2.2.1 x.2.2.2.2.2.2.2.2.2.2.2.2.2.2.2.1 x.2.2.2.2.2.2.2.2.2.2.2.2.2.2.2.2.1 x.2.2.2.2.2.2.2.2.2.2.2.2.2.2.2.2.2.1 x.2.2.2.2.2.2.2.2.2.2.2.2.2.2.2.2.2.2.1 x.2.2.2.2.2.2.2.2.2.2.2.2.2.2.2.2.2.2.2.1 x.2.2.2.2.2.2.2.2.2.2.2.2.2.2.2.2.2.2.2.2.1) (v7, (v8, (v9, (v21, (nv22, (nv23, (v124, ((0 : Nat), ((0 : Nat), (v118, (v119, (v122, (v123, (v124, (((v122).getD (Int.toNat v124) []), ((((((v122).getD (Int.toNat v124) [])).length : Nat) : Int), ((0 : Int), (b0, (b1, ([], ([], ())))))))))))))))))))))) fun z13 =>
 need (decide ((z13.2.2.2.2.1 + ((((((((z13.2.2.2.2.2.2.2.2.2.2.2.2.2.2.2.1).drop (0 : Nat)).take z13.2.2.2.2.2.2.1) :: [])).drop (0 : Nat)).take (1 : Nat))).length) < bigL)) (
 need (decide ((z13.2.2.2.2.2.1 + ((((((((z13.2.2.2.2.2.2.2.2.2.2.2.2.2.2.2.2.1).drop (0 : Nat)).take z13.2.2.2.2.2.2.2.1) :: [])).drop (0 : Nat)).take (1 : Nat))).length) < bigL)) (
 need (rng .i64 (z13.2.2.2.2.2.2.2.2.2.2.2.2.1 + (1 : Int))) (
 some (.inl (z13.1, (z13.2.1, (z13.2.2.1, (z13.2.2.2.1, ((z13.2.2.2.2.1 + ((((((((z13.2.2.2.2.2.2.2.2.2.2.2.2.2.2.2.1).drop (0 : Nat)).take z13.2.2.2.2.2.2.1) :: [])).drop (0 : Nat)).take (1 : Nat))).length), ((z13.2.2.2.2.2.1 + ((((((((z13.2.2.2.2.2.2.2.2.2.2.2.2.2.2.2.2.1).drop (0 : Nat)).take z13.2.2.2.2.2.2.2.1) :: [])).drop (0 : Nat)).take (1 : Nat))).length), (z13.2.2.2.2.2.2.2.2.1, (z13.2.2.2.2.2.2.2.2.2.1, (z13.2.2.2.2.2.2.2.2.2.2.1, (z13.2.2.2.2.2.2.2.2.2.2.2.1, ((z13.2.2.2.2.2.2.2.2.2.2.2.2.1 + (1 : Int)), (((((z13.2.2.2.2.2.2.2.2.2.2.2.2.2.1).drop (0 : Nat)).take z13.2.2.2.2.1) ++ (((((((z13.2.2.2.2.2.2.2.2.2.2.2.2.2.2.2.1).drop (0 : Nat)).take z13.2.2.2.2.2.2.1) :: [])).drop (0 : Nat)).take (1 : Nat))), (((((z13.2.2.2.2.2.2.2.2.2.2.2.2.2.2.1).drop (0 : Nat)).take z13.2.2.2.2.2.1) ++ (((((((z13.2.2.2.2.2.2.2.2.2.2.2.2.2.2.2.2.1).drop (0 : Nat)).take z13.2.2.2.2.2.2.2.1) :: [])).drop (0 : Nat)).take (1 : Nat))), ()))))))))))))))))))) (
 some (.inr (v7, (v8, (v9, (v21, (nv22, (nv23, (v118, (v119, (b0, (b1, ()))))))))))))
noncomputable def L12_4 : LoopS prog 195 none 0 := mkLoop mixed cx12 cx12_ok [] rfl p12_4 x12_4 rfl (b12_4) (fun x => g12_4 x.1 x.2.1 x.2.2.1 x.2.2.2.1 x.2.2.2.2.1 x.2.2.2.2.2.1 x.2.2.2.2.2.2.1 x.2.2.2.2.2.2.2.1 x.2.2.2.2.2.2.2.2.1 x.2.2.2.2.2.2.2.2.2.1 x.2.2.2.2.2.2.2.2.2.2.1 x.2.2.2.2.2.2.2.2.2.2.2.1 x.2.2.2.2.2.2.2.2.2.2.2.2.1) (by intro x; kernel_rfl)
@[reducible] def p12_3 : Pat := Pat.mk [(7, .c (.hole (.list (.list (.prod (.int .i64) (.int .i64)))))), (8, hzI), (9, .c (.hole (.list (.prod (.int .i64) (.int .i64))))), (118, hzI), (119, hzI)] [] [] []
@[reducible] def x12_3 : Outs := [(.ret, Pat.mk [(6, .c (.tf false))] [] [] []), (.exit 6, Pat.mk [] [] [] [])]
noncomputable def b12_3 : D prog 195 none 0 := (.seq (.reg [oo 120 (.bin .lss (.t 119) (.t 118))]) (.seq (.cond ( .t 120) .skip (.exit 6)) (.seq (.block 7 (.seq (.reg [om 121 119, om 21 121]) (.seq (.reg [oo 22 (.mv (.c .nsl)), oo 23 (.mv (.c .nsl))]) (.seq (.seq (.reg [om 122 7, oo 123 (.len (.t 122)), oo 124 (.mv (ki 0))]) (.block 8 (.loop L12_4))) (.seq (.draw [[], [], [], [0, 1, 2], [], [], [4, 5], [4, 5, 6], [4, 5, 6, 7], [0, 1, 2, 3, 4, 5, 6, 7, 8], [0, 1, 2, 3, 4, 5, 6, 7, 8, 9], [0, 1, 2, 3, 4, 5, 6, 7, 8, 9, 10], [0, 1, 2, 3, 4, 5, 6, 7, 8, 9, 10], [0, 1, 2, 3, 4, 5, 6, 7, 8, 9, 10], [0, 1, 2, 3, 4, 5, 6, 7, 8, 9, 10, 11, 12, 13], [0, 1, 2, 3, 4, 5, 6, 7, 8, 9, 10, 11, 12, 13, 14], [0, 1, 2, 3, 4, 5, 6, 7, 8, 9, 10], [0, 1, 2, 3, 4, 5, 6, 7, 8, 9, 10], [0, 1, 2, 3, 4, 5, 6, 7, 8, 9, 10, 16, 17], [0, 1, 2, 3, 4, 5, 6, 7, 8, 9, 10, 16, 17, 18], [0, 1, 2, 3, 4, 5, 6, 7, 8, 9, 10, 16, 17, 18, 19], [0, 1, 2, 3, 4, 5, 6, 7, 8, 9, 10, 11, 12, 13, 14, 15, 16, 17, 18, 19, 20], [0, 1, 2, 3, 4, 5, 6, 7, 8, 9, 10, 11, 12, 13, 14, 15, 16, 17, 18, 19, 20, 21]] [om 170 22, om 171 8, om 172 21, .call (some 173) none (.c (.fn 44 [] [])) [.t 170, .t 171, .t 172] [some (.list (.list (.int .i64))), some (.int .i64), some (.int .i64)], om 174 9, om 175 21, oo 176 (.idx 2 (.t 174) (.t 175)), oo 177 (.fld 0 [false] (.t 176)), ol 178 177, oo 179 (.bin .neq (.t 173) (.t 178)), om 180 179, og 181 180 false (.mv (.t 23)), og 182 180 false (.mv (.t 8)), og 183 180 false (.mv (.t 21)), .call (some 184) (some (180, false)) (.c (.fn 45 [] [])) [.t 181, .t 182, .t 183] [some (.list (.list (.int .i64))), some (.int .i64), some (.int .i64)], og 185 180 false (.neg (.t 184)), og 186 180 false (.mv (.t 9)), og 187 180 false (.mv (.t 21)), og 188 180 false (.idx 2 (.t 186) (.t 187)), og 189 180 false (.fld 1 [true] (.t 188)), og 190 180 false (.load false 1 (.t 189)), og 191 180 false (.bin .neq (.t 185) (.t 190)), oo 192 (.pick (.t 180) (.c (.tf true)) (.t 191))]) (.cond ( .t 192) (.seq (.reg [oo 6 (.mv (.c (.tf false)))]) .ret) .skip)))))) (.reg [oo 193 (.bin .add (.t 119) (ki 1)), om 119 193]))))
noncomputable def g12_3 (v7 : List (List (Int × Int))) (v8 : Int) (v9 : List (Int × Int)) (v118 : Int) (v119 : Int) : Option (((List (List (Int × Int))) × Int × (List (Int × Int)) × Int × Int × Unit) ⊕ ((Unit) ⊕ ((Unit)))) :=
 brO (decide (v119 < v118)) (
 bindO (iter (fun x => g12_4 x.1 x.2.1 x.2.2.1 x.2.2.2.1 x.2.2.2.2.1 x.2.2.2.2.2.1 x.2.2.2.2.2.2.1 x.2.2.2.2.2.2.2.1 x.2.2.2.2.2.2.2.2.1 x.2.2.2.2.2.2.2.2.2.1 x.2.2.2.2.2.2.2.2.2.2.1 x.2.2.2.2.2.2.2.2.2.2.2.1 x.2.2.2.2.2.2.2.2.2.2.2.2.1) (v7, (v8, (v9, (v119, ((0 : Nat), ((0 : Nat), (v118, (v119, (v7, ((((v7).length : Nat) : Int), ((0 : Int), ([], ([], ())))))))))))))) fun z14 =>
 bindO (F44 (((z14.2.2.2.2.2.2.2.2.1).drop (0 : Nat)).take z14.2.2.2.2.1) z14.2.1 z14.2.2.2.1) fun y15 =>
 need (inb z14.2.2.2.1 (((z14.2.2.1).length : Nat) : Int)) (
 brO (!(y15.1 == ((z14.2.2.1).getD (Int.toNat z14.2.2.2.1) ((0 : Int), (0 : Int))).1)) (
 some (.inr <| .inl <| ())) (
 bindO (F45 (((z14.2.2.2.2.2.2.2.2.2.1).drop (0 : Nat)).take z14.2.2.2.2.2.1) z14.2.1 z14.2.2.2.1) fun y16 =>
 need (rng .i64 ((0 : Int) - y16.1)) (
 need (inb z14.2.2.2.1 (((z14.2.2.1).length : Nat) : Int)) (
 brO (!(((0 : Int) - y16.1) == ((z14.2.2.1).getD (Int.toNat z14.2.2.2.1) ((0 : Int), (0 : Int))).2)) (
 some (.inr <| .inl <| ())) (
 need (rng .i64 (z14.2.2.2.2.2.2.2.1 + (1 : Int))) (
 some (.inl (z14.1, (z14.2.1, (z14.2.2.1, (z14.2.2.2.2.2.2.1, ((z14.2.2.2.2.2.2.2.1 + (1 : Int)), ()))))))))))))) (
 some (.inr <| .inr <| ()))
noncomputable def L12_3 : LoopS prog 195 none 0 := mkLoop mixed cx12 cx12_ok [] rfl p12_3 x12_3 rfl (b12_3) (fun x => g12_3 x.1 x.2.1 x.2.2.1 x.2.2.2.1 x.2.2.2.2.1) (by intro x; kernel_rfl)
noncomputable def dd12 : D prog 195 none 0 := (.seq (.reg [oo 6 (.mv (.c (.tf false)))]) (.seq (.reg [om 30 0, .call (some 31) none (.c (.fn 42 [] [])) [.t 30] [some (.list (.list (.prod (.int .u8) (.int .u8))))], om 7 31]) (.seq (.reg [om 32 1, oo 33 (.conv .i64 (.t 32)), oo 34 (.bin .rem (.t 33) (ki 10)), om 8 34]) (.seq (.reg [om 36 7, om 37 8, .call (some 38) none (.c (.fn 35 [] [])) [.t 36, .t 37] [some (.list (.list (.prod (.int .i64) (.int .i64)))), some (.int .i64)], om 35 38, oo 39 (.ext 0 (.t 35)), oo 40 (.ext 1 (.t 35)), oo 41 (.ext 2 (.t 35)), oo 10 (.alloc [.int .i64 (Int.ofNat 0), .int .i64 (Int.ofNat 0)]), om 9 39, .op none none (.store 2 (.t 10) (.t 40)), om 11 41]) (.seq (.seq (.reg [om 42 11, oo 43 (.bin .neq (.t 42) (ki 0)), om 44 43, og 45 44 false (.mv (.t 9)), og 46 44 false (.len (.t 45)), og 47 44 false (.mv (.t 7)), og 48 44 false (.len (.t 47)), og 49 44 false (.bin .neq (.t 46) (.t 48)), oo 50 (.pick (.t 44) (.c (.tf true)) (.t 49))]) (.cond ( .t 50) (.seq (.reg [oo 6 (.mv (.c (.tf false)))]) .ret) .skip)) (.seq (.reg [om 51 7, om 52 2, .call (some 53) none (.c (.fn 43 [] [])) [.t 51, .t 52] [some (.list (.list (.prod (.int .i64) (.int .i64)))), some (.list (.int .u8))], om 12 53]) (.seq (.reg [om 54 12, om 55 8, .call (some 56) none (.c (.fn 40 [] [])) [.t 54, .t 55] [some (.list (.list (.int .i64))), some (.int .i64)], om 13 56]) (.seq (.reg [oo 14 (.mv (ki 0))]) (.seq (.seq (.reg [om 57 13, oo 58 (.len (.t 57)), oo 59 (.mv (ki 0))]) (.block 0 (.loop L12_0))) (.seq (.seq (.reg [om 69 14, oo 70 (.fld 0 [false] (.t 10)), ol 71 70, oo 72 (.bin .lss (.t 69) (.t 71)), om 73 72, og 74 73 false (.mv (.t 14)), og 75 73 false (.fld 1 [true] (.t 10)), og 76 73 false (.load false 1 (.t 75)), og 77 73 false (.bin .gtr (.t 74) (.t 76)), oo 78 (.pick (.t 73) (.c (.tf true)) (.t 77))]) (.cond ( .t 78) (.seq (.reg [oo 6 (.mv (.c (.tf false)))]) .ret) .skip)) (.seq (.seq (.reg [om 79 13, oo 80 (.len (.t 79)), oo 81 (.mv (ki 0))]) (.block 2 (.loop L12_1))) (.seq (.seq (.reg [om 117 7, oo 118 (.len (.t 117)), oo 119 (.mv (ki 0))]) (.block 6 (.loop L12_3))) (.seq (.reg [.call (some 194) none (.c (.fn 16 [] [])) [] [], om 6 194]) .ret)))))))))))))
noncomputable def F12 (a0 : List (List (Int × Int))) (a1 : Int) (a2 : List Int) : Option (Bool × Unit) :=
 bindO (F42 a0) fun y0 =>
 need (rng .i64 a1) (
 need (!((10 : Int) == (0 : Int))) (
 bindO (F35 y0.1 (Int.tmod a1 (10 : Int))) fun y1 =>
 brO (!(y1.2.2.1 == (0 : Int))) (
 some (false, ())) (
 brO (!((((y1.1).length : Nat) : Int) == (((y0.1).length : Nat) : Int))) (
 some (false, ())) (
 bindO (F43 y0.1 a2) fun y2 =>
 bindO (F40 y2.1 (Int.tmod a1 (10 : Int))) fun y3 =>
 bindO (iter (fun x => g12_0 x.1 x.2.1 x.2.2.1 x.2.2.2.1 x.2.2.2.2.1 x.2.2.2.2.2.1 x.2.2.2.2.2.2.1 x.2.2.2.2.2.2.2.1 x.2.2.2.2.2.2.2.2.1 x.2.2.2.2.2.2.2.2.2.1 x.2.2.2.2.2.2.2.2.2.2.1) (y0.1, ((Int.tmod a1 (10 : Int)), (y1.1, (y2.1, (y3.1, ((0 : Int), (y3.1, ((((y3.1).length : Nat) : Int), ((0 : Int), (y1.2.1.1, (y1.2.1.2, ())))))))))))) fun z5 =>
 brO (decide (z5.2.2.2.2.2.1 < z5.2.2.2.2.2.2.1)) (
 some (false, ())) (
 brO (decide (z5.2.2.2.2.2.2.2.1 < z5.2.2.2.2.2.1)) (
 some (false, ())) (
 bindO (iter (fun x => g12_1 x.1 x.2.1 x.2.2.1 x.2.2.2.1 x.2.2.2.2.1 x.2.2.2.2.2.1 x.2.2.2.2.2.2.1 x.2.2.2.2.2.2.2.1) (z5.1, (z5.2.1, (z5.2.2.1, (z5.2.2.2.1, (z5.2.2.2.2.2.1, (z5.2.2.2.2.1, ((((z5.2.2.2.2.1).length : Nat) : Int), ((0 : Int), ()))))))))) fun z10 =>
 match z10 with
 | .inl z11 =>
 some (false, ())
 | .inr z12 =>
 bindO (iter (fun x => g12_3 x.1 x.2.1 x.2.2.1 x.2.2.2.1 x.2.2.2.2.1) (z12.1, (z12.2.1, (z12.2.2.1, ((((z12.1).length : Nat) : Int), ((0 : Int), ())))))) fun z17 =>
 match z17 with
 | .inl z18 =>
 some (false, ())
 | .inr z19 =>
 bindO (F16) fun y20 =>
 some (y20.1, ())))))))
theorem c12_ok : trF prog f12 = some ⟨195, 3, dd12.er, [.t 6], [some .bool]⟩ := by kernel_rfl
noncomputable def ct12 : Ct := ⟨12, [.c (.hole (.list (.list (.prod (.int .u8) (.int .u8))))), .c (.hole (.int .u8)), .c (.hole (.list (.int .u8)))], .c (.hole .bool), fun x => F12 x.1 x.2.1 x.2.2.1⟩
theorem ct12_ok : ct12.Ok prog := ct_ok mixed cx12_ok func12 c12_ok (enters_of func12 rfl rfl) dd12 rfl rfl (fun x => by kernel_rfl)

end Go.Proofs.Try

