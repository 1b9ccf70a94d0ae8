/- Functions of the program as functions of data, part 2; printed by a program of mine. -/
import Derived.Test.YtdbjdjjcijgdfaaDoorW130
import Derived.Test.YtdbjdjjcijgdfaaDoorProg
set_option linter.unusedSectionVars false
set_option linter.unusedVariables false
set_option linter.unusedSimpArgs false
open Go.AM
namespace Go.Proofs.Tryd
set_option maxRecDepth 100000
set_option synthInstance.maxSize 4000
set_option synthInstance.maxHeartbeats 400000


/- 29 -/
noncomputable def cx29 : Cx := mkCxH [ct66, ct72, ct101, ct72_v1, ct78] [ht77]
theorem cx29_ok : cx29.Ok prog := mkCxH_ok ⟨ct66_ok, ct72_ok, ct101_ok, ct72_v1_ok, ct78_ok, trivial⟩ ⟨⟨ht77_ok, rfl⟩, trivial⟩
noncomputable def ad29_1m0 : D prog 85 (some 7) 9 := dO [] (pick (kd prog f29) [(0, false), (0, false)]) 0
noncomputable def bd29_1m0 : D prog 85 (some 7) 9 := dO [] (pick (kd prog f29) [(0, false), (0, true)]) 0
noncomputable def cx29_1m0i : Cx := itCx cx29 (fun kz => rdK kz cx29 ar0 7 9 [54] (ad29_1m0) (bd29_1m0))
theorem cx29_1m0i_ok : (cx29_1m0i).Ok prog := itCx_ok cx29_ok (fun h => rdK_ok mixed cx29_ok h)
@[reducible] def p29_1m0i_0 : Pat := Pat.mk [(0, .c (.yl 7)), (1, .c (.ptr 5 0))] [(7, .loop .ready none 6 [(4, .c (.ptr 0 0)), (5, hI), (6, .c (.ptr 1 0)), (8, .c (.hole (.int .u64))), (9, .c (.ptr 2 0)), (11, .c (.ptr 3 0)), (12, .c (.ptr 4 0)), (40, .c (.hole (.list (.prod tI tL)))), (41, hI), (42, hI), (53, .fn 100 [] [.ptr 5 0])] [54] (.reg [.op (some 13) none (.mv (.t 54))]) (.block 4 (.draw [[], [0], [], [2], [], [2, 3, 4], [2, 3, 4, 5], [2, 3, 4, 5, 6], [0, 1, 2, 3, 4, 5, 6, 7], [0, 1, 2, 3, 4, 5, 6, 7, 8], [0, 1, 2, 3, 4, 5, 6, 7, 8, 9]] [.op (some 55) none (.fld 1 [true] (.t 12)), .op (some 56) none (.load false 1 (.t 55)), .op (some 57) none (.fld 1 [true] (.t 11)), .op (some 58) none (.load false 1 (.t 57)), .op (some 59) none (.mv (.t 13)), .op (some 60) none (.idx 1 (.t 58) (.t 59)), .op (some 61) none (.load false 1 (.t 60)), .op (some 62) none (.bslice tI [.t 61]), .op (some 63) none (.append 1 (.t 56) (.t 62)), .op (some 64) none (.fld 1 [true] (.t 12)), .op none none (.store 1 (.t 64) (.t 63))])) 85), (5, .cells [.hole (.int .u64)] false), (6, .dfr), (0, .cells [.nsl] false), (1, .cells [.hole (.list (.prod tI tL)), .ifcs 132 false (.cons (.hole (.list (.ifc 55 true (.prod tI tL)))) .nil), .hole tI, .hole (.int .u64)] false), (2, .cells [.nsl] false), (3, .cells [.hole tI, .hole tL] false), (4, .cells [.hole tI, .sl0 8 tI] false), (8, .arr tI false)] [.cell 4 1] []
@[reducible] def x29_1m0i_0 : Outs := [(.exit 0, Pat.mk [] [(0, .cells [.nsl] false), (1, .cells [.hole (.list (.prod tI tL)), .ifcs 132 false (.cons (.hole (.list (.ifc 55 true (.prod tI tL)))) .nil), .hole tI, .hole (.int .u64)] false), (2, .cells [.nsl] false), (3, .cells [.hole tI, .hole tL] false), (4, .cells [.hole tI, .sl0 8 tI] false), (5, .cells [.hole (.int .u64)] false), (6, .dfr), (7, .loop .ready none 6 [(4, .c (.ptr 0 0)), (5, hI), (6, .c (.ptr 1 0)), (8, .c (.hole (.int .u64))), (9, .c (.ptr 2 0)), (11, .c (.ptr 3 0)), (12, .c (.ptr 4 0)), (40, .c (.hole (.list (.prod tI tL)))), (41, hI), (42, hI), (53, .fn 100 [] [.ptr 5 0])] [54] (.reg [.op (some 13) none (.mv (.t 54))]) (.block 4 (.draw [[], [0], [], [2], [], [2, 3, 4], [2, 3, 4, 5], [2, 3, 4, 5, 6], [0, 1, 2, 3, 4, 5, 6, 7], [0, 1, 2, 3, 4, 5, 6, 7, 8], [0, 1, 2, 3, 4, 5, 6, 7, 8, 9]] [.op (some 55) none (.fld 1 [true] (.t 12)), .op (some 56) none (.load false 1 (.t 55)), .op (some 57) none (.fld 1 [true] (.t 11)), .op (some 58) none (.load false 1 (.t 57)), .op (some 59) none (.mv (.t 13)), .op (some 60) none (.idx 1 (.t 58) (.t 59)), .op (some 61) none (.load false 1 (.t 60)), .op (some 62) none (.bslice tI [.t 61]), .op (some 63) none (.append 1 (.t 56) (.t 62)), .op (some 64) none (.fld 1 [true] (.t 12)), .op none none (.store 1 (.t 64) (.t 63))])) 85), (8, .arr tI false)] [.cell 4 1] [])]
noncomputable def b29_1m0i_0 : D prog 14 none 8 := dO [] (pick (kd prog f100) [(0, false)]) 0
noncomputable def g29_1m0i_0 : Int × Int × (List (Int × List Int)) × Int × Int × Int × (List (Int × List Int)) × (List (Int × List Int)) × Int × Int × Int × List Int × Int × Nat × List Int × Unit → Tr0 ((Int × Int × (List (Int × List Int)) × Int × Int × Int × (List (Int × List Int)) × (List (Int × List Int)) × Int × Int × Int × List Int × Int × Nat × List Int × Unit) ⊕ (((List (Int × List Int)) × (List (Int × List Int)) × Int × Int × Int × List Int × Int × Nat × Int × Int × Int × (List (Int × List Int)) × Int × Int × List Int × Unit))) := fun (w5, w8, w40, w41, w42, c5_0, c1_0, c1_1c0, c1_2, c1_3, c3_0, c3_1, c4_0, nc4_1, b8, _) =>
 .br (!(c5_0 == (0 : Int))) (
 .bd (F101 c5_0) fun y4 =>
 .nb y4.1 (((c3_1).length : Nat) : Int) <|
 .nd (decide ((nc4_1 + (((((((c3_1).getD (Int.toNat y4.1) (0 : Int)) :: [])).drop (0 : Nat)).take (1 : Nat))).length) < bigL)) <|
 .nd (rng .u64 (c5_0 - (1 : Int))) <|
 .ret (.inl (w5, (w8, (w40, (w41, (w42, ((ar0.bits Go.AM.IBin.and Go.IntKind.u64 c5_0 (c5_0 - (1 : Int))), (c1_0, (c1_1c0, (c1_2, (c1_3, (c3_0, (c3_1, (c4_0, ((nc4_1 + (((((((c3_1).getD (Int.toNat y4.1) (0 : Int)) :: [])).drop (0 : Nat)).take (1 : Nat))).length), (((((b8).drop (0 : Nat)).take nc4_1) ++ ((((((c3_1).getD (Int.toNat y4.1) (0 : Int)) :: [])).drop (0 : Nat)).take (1 : Nat))), ()))))))))))))))))) (
 .ret (.inr (c1_0, (c1_1c0, (c1_2, (c1_3, (c3_0, (c3_1, (c4_0, (nc4_1, (c5_0, (w5, (w8, (w40, (w41, (w42, (b8, ())))))))))))))))))
theorem s29_1m0i_0 : ∀ x, roundE (kzO (p29_1m0i_0.T ⊕ x29_1m0i_0.T)) cx29_1m0i ar0 [0, 1, 2, 3, 4, 5, 6, 7] p29_1m0i_0 x29_1m0i_0 (b29_1m0i_0) (fun y => some (.inl y)) (fun b => some (.inr b)) x = run0 (g29_1m0i_0 x) := fun x => by kernel_rfl
noncomputable def L29_1m0i_0 : LoopS prog 14 none 8 := mkLoop mixed cx29_1m0i cx29_1m0i_ok [0, 1, 2, 3, 4, 5, 6, 7] rfl p29_1m0i_0 x29_1m0i_0 rfl (b29_1m0i_0) (fun x => run0 (g29_1m0i_0 x)) (s29_1m0i_0)
@[reducible] def p29_1m0 : Pat := Pat.mk [(4, .c (.ptr 0 0)), (5, hI), (6, .c (.ptr 1 0)), (8, .c (.hole (.int .u64))), (9, .c (.ptr 2 0)), (11, .c (.ptr 3 0)), (12, .c (.ptr 4 0)), (40, .c (.hole (.list (.prod tI tL)))), (41, hI), (42, hI), (53, .fn 100 [] [.ptr 5 0])] [(0, .cells [.nsl] false), (1, .cells [.hole (.list (.prod tI tL)), .ifcs 132 false (.cons (.hole (.list (.ifc 55 true (.prod tI tL)))) .nil), .hole tI, .hole (.int .u64)] false), (2, .cells [.nsl] false), (3, .cells [.hole tI, .hole tL] false), (4, .cells [.hole tI, .nsl] false), (5, .cells [.hole (.int .u64)] false)] [.slot 4, .slot 6, .slot 9, .slot 11, .slot 12, .part 53 0] []
@[reducible] def x29_1m0 : Outs := [(.normal, Pat.mk [(4, .c (.ptr 0 0)), (5, hI), (6, .c (.ptr 1 0)), (8, .c (.hole (.int .u64))), (9, .c (.ptr 2 0)), (11, .c (.ptr 3 0)), (12, .c (.ptr 4 0)), (40, .c (.hole (.list (.prod tI tL)))), (41, hI), (42, hI)] [(0, .cells [.nsl] false), (1, .cells [.hole (.list (.prod tI tL)), .ifcs 132 false (.cons (.hole (.list (.ifc 55 true (.prod tI tL)))) .nil), .hole tI, .hole (.int .u64)] false), (2, .cells [.nsl] false), (3, .cells [.hole tI, .hole tL] false), (4, .cells [.hole tI, .sl0 6 tI] false), (5, .dfr), (6, .arr tI false)] [.slot 4, .slot 6, .slot 9, .slot 11, .slot 12, .mark 0, .cell 4 1] [5])]
noncomputable def b29_1m0i : D prog 14 none 8 := dO [.l L29_1m0i_0] (kd prog f100) 0
theorem ci29_1m0 : trF prog f100 = some ⟨14, 2, (b29_1m0i).er, [], []⟩ := by kernel_rfl
noncomputable def g29_1m0 : Int × Int × (List (Int × List Int)) × Int × Int × (List (Int × List Int)) × (List (Int × List Int)) × Int × Int × Int × List Int × Int × Int × Unit → Tr0 ((Int × Int × (List (Int × List Int)) × Int × Int × (List (Int × List Int)) × (List (Int × List Int)) × Int × Int × Int × List Int × Int × Nat × List Int × Unit)) := fun (v5, v8, v40, v41, v42, c1_0, c1_1c0, c1_2, c1_3, c3_0, c3_1, c4_0, c5_0, _) =>
 .bd (.it g29_1m0i_0 (v5, (v8, (v40, (v41, (v42, (c5_0, (c1_0, (c1_1c0, (c1_2, (c1_3, (c3_0, (c3_1, (c4_0, ((0 : Nat), ([], ())))))))))))))))) fun z5 =>
 .ret ((v5, (v8, (v40, (v41, (v42, (z5.1, (z5.2.1, (z5.2.2.1, (z5.2.2.2.1, (z5.2.2.2.2.1, (z5.2.2.2.2.2.1, (z5.2.2.2.2.2.2.1, (z5.2.2.2.2.2.2.2.1, (z5.2.2.2.2.2.2.2.2.2.2.2.2.2.2.1, ())))))))))))))))
theorem s29_1m0 : ∀ x, rangeE (N := 85) (out := none) (base := 0) (kzO x29_1m0.T) cx29_1m0i ar0 [] p29_1m0 x29_1m0 ( .t 53) [54] (ad29_1m0).er (bd29_1m0).er [] 2 100 (b29_1m0i) some x = run0 (g29_1m0 x) := fun x => by kernel_rfl
noncomputable def T29_1m0 : RangeT prog 85 none 0 ( .t 53) [54] (ad29_1m0).er (bd29_1m0).er := mkRangeT mixed cx29_1m0i cx29_1m0i_ok [] rfl p29_1m0 x29_1m0 ( .t 53) [54] rfl (ad29_1m0).er (bd29_1m0).er 100 func100 (ci29_1m0) (enters_of func100 rfl rfl) 8 rfl (b29_1m0i) rfl (fun x => run0 (g29_1m0 x)) (s29_1m0)
noncomputable def ad29_1m1 : D prog 85 (some 9) 12 := dO [] (pick (kd prog f29) [(0, false), (0, false)]) 0
noncomputable def bd29_1m1 : D prog 85 (some 9) 12 := dO [] (pick (kd prog f29) [(0, false), (0, true)]) 0
noncomputable def cx29_1m1i : Cx := itCx cx29 (fun kz => rdK kz cx29 ar0 9 12 [54] (ad29_1m1) (bd29_1m1))
theorem cx29_1m1i_ok : (cx29_1m1i).Ok prog := itCx_ok cx29_ok (fun h => rdK_ok mixed cx29_ok h)
@[reducible] def p29_1m1i_0 : Pat := Pat.mk [(0, .c (.yl 9)), (1, .c (.ptr 5 0))] [(9, .loop .ready none 8 [(4, .c (.ptr 0 0)), (5, hI), (6, .c (.ptr 1 0)), (8, .c (.hole (.int .u64))), (9, .c (.ptr 2 0)), (11, .c (.ptr 3 0)), (12, .c (.ptr 4 0)), (40, .c (.hole (.list (.prod tI tL)))), (41, hI), (42, hI), (53, .fn 100 [] [.ptr 5 0])] [54] (.reg [.op (some 13) none (.mv (.t 54))]) (.block 4 (.draw [[], [0], [], [2], [], [2, 3, 4], [2, 3, 4, 5], [2, 3, 4, 5, 6], [0, 1, 2, 3, 4, 5, 6, 7], [0, 1, 2, 3, 4, 5, 6, 7, 8], [0, 1, 2, 3, 4, 5, 6, 7, 8, 9]] [.op (some 55) none (.fld 1 [true] (.t 12)), .op (some 56) none (.load false 1 (.t 55)), .op (some 57) none (.fld 1 [true] (.t 11)), .op (some 58) none (.load false 1 (.t 57)), .op (some 59) none (.mv (.t 13)), .op (some 60) none (.idx 1 (.t 58) (.t 59)), .op (some 61) none (.load false 1 (.t 60)), .op (some 62) none (.bslice tI [.t 61]), .op (some 63) none (.append 1 (.t 56) (.t 62)), .op (some 64) none (.fld 1 [true] (.t 12)), .op none none (.store 1 (.t 64) (.t 63))])) 85), (5, .cells [.hole (.int .u64)] false), (8, .dfr), (0, .cells [.nsl] false), (1, .cells [.hole (.list (.prod tI tL)), .ifcs 132 false (.cons (.hole (.list (.ifc 55 true (.prod tI tL)))) .nil), .hole tI, .hole (.int .u64)] false), (2, .cells [.sl0 10 (.prod tI tL)] false), (3, .cells [.hole tI, .hole tL] false), (4, .cells [.hole tI, .sl0 11 tI] false), (6, .dfr), (10, .arr (.prod tI tL) false), (11, .arr tI false)] [.cell 2 0, .cell 4 1] []
@[reducible] def x29_1m1i_0 : Outs := [(.exit 0, Pat.mk [] [(0, .cells [.nsl] false), (1, .cells [.hole (.list (.prod tI tL)), .ifcs 132 false (.cons (.hole (.list (.ifc 55 true (.prod tI tL)))) .nil), .hole tI, .hole (.int .u64)] false), (2, .cells [.sl0 10 (.prod tI tL)] false), (3, .cells [.hole tI, .hole tL] false), (4, .cells [.hole tI, .sl0 11 tI] false), (5, .cells [.hole (.int .u64)] false), (6, .dfr), (8, .dfr), (9, .loop .ready none 8 [(4, .c (.ptr 0 0)), (5, hI), (6, .c (.ptr 1 0)), (8, .c (.hole (.int .u64))), (9, .c (.ptr 2 0)), (11, .c (.ptr 3 0)), (12, .c (.ptr 4 0)), (40, .c (.hole (.list (.prod tI tL)))), (41, hI), (42, hI), (53, .fn 100 [] [.ptr 5 0])] [54] (.reg [.op (some 13) none (.mv (.t 54))]) (.block 4 (.draw [[], [0], [], [2], [], [2, 3, 4], [2, 3, 4, 5], [2, 3, 4, 5, 6], [0, 1, 2, 3, 4, 5, 6, 7], [0, 1, 2, 3, 4, 5, 6, 7, 8], [0, 1, 2, 3, 4, 5, 6, 7, 8, 9]] [.op (some 55) none (.fld 1 [true] (.t 12)), .op (some 56) none (.load false 1 (.t 55)), .op (some 57) none (.fld 1 [true] (.t 11)), .op (some 58) none (.load false 1 (.t 57)), .op (some 59) none (.mv (.t 13)), .op (some 60) none (.idx 1 (.t 58) (.t 59)), .op (some 61) none (.load false 1 (.t 60)), .op (some 62) none (.bslice tI [.t 61]), .op (some 63) none (.append 1 (.t 56) (.t 62)), .op (some 64) none (.fld 1 [true] (.t 12)), .op none none (.store 1 (.t 64) (.t 63))])) 85), (10, .arr (.prod tI tL) false), (11, .arr tI false)] [.cell 2 0, .cell 4 1] [])]
noncomputable def b29_1m1i_0 : D prog 14 none 10 := dO [] (pick (kd prog f100) [(0, false)]) 0
noncomputable def g29_1m1i_0 : Int × Int × (List (Int × List Int)) × Int × Int × Int × (List (Int × List Int)) × (List (Int × List Int)) × Int × Int × Nat × Int × List Int × Int × Nat × (List (Int × List Int)) × List Int × Unit → Tr0 ((Int × Int × (List (Int × List Int)) × Int × Int × Int × (List (Int × List Int)) × (List (Int × List Int)) × Int × Int × Nat × Int × List Int × Int × Nat × (List (Int × List Int)) × List Int × Unit) ⊕ (((List (Int × List Int)) × (List (Int × List Int)) × Int × Int × Nat × Int × List Int × Int × Nat × Int × Int × Int × (List (Int × List Int)) × Int × Int × (List (Int × List Int)) × List Int × Unit))) := fun (w5, w8, w40, w41, w42, c5_0, c1_0, c1_1c0, c1_2, c1_3, nc2_0, c3_0, c3_1, c4_0, nc4_1, b10, b11, _) =>
 .br (!(c5_0 == (0 : Int))) (
 .bd (F101 c5_0) fun y12 =>
 .nb y12.1 (((c3_1).length : Nat) : Int) <|
 .nd (decide ((nc4_1 + (((((((c3_1).getD (Int.toNat y12.1) (0 : Int)) :: [])).drop (0 : Nat)).take (1 : Nat))).length) < bigL)) <|
 .nd (rng .u64 (c5_0 - (1 : Int))) <|
 .ret (.inl (w5, (w8, (w40, (w41, (w42, ((ar0.bits Go.AM.IBin.and Go.IntKind.u64 c5_0 (c5_0 - (1 : Int))), (c1_0, (c1_1c0, (c1_2, (c1_3, (nc2_0, (c3_0, (c3_1, (c4_0, ((nc4_1 + (((((((c3_1).getD (Int.toNat y12.1) (0 : Int)) :: [])).drop (0 : Nat)).take (1 : Nat))).length), (b10, (((((b11).drop (0 : Nat)).take nc4_1) ++ ((((((c3_1).getD (Int.toNat y12.1) (0 : Int)) :: [])).drop (0 : Nat)).take (1 : Nat))), ()))))))))))))))))))) (
 .ret (.inr (c1_0, (c1_1c0, (c1_2, (c1_3, (nc2_0, (c3_0, (c3_1, (c4_0, (nc4_1, (c5_0, (w5, (w8, (w40, (w41, (w42, (b10, (b11, ())))))))))))))))))))
theorem s29_1m1i_0 : ∀ x, roundE (kzO (p29_1m1i_0.T ⊕ x29_1m1i_0.T)) cx29_1m1i ar0 [0, 1, 2, 3, 4, 5, 6, 7, 8, 9] p29_1m1i_0 x29_1m1i_0 (b29_1m1i_0) (fun y => some (.inl y)) (fun b => some (.inr b)) x = run0 (g29_1m1i_0 x) := fun x => by kernel_rfl
noncomputable def L29_1m1i_0 : LoopS prog 14 none 10 := mkLoop mixed cx29_1m1i cx29_1m1i_ok [0, 1, 2, 3, 4, 5, 6, 7, 8, 9] rfl p29_1m1i_0 x29_1m1i_0 rfl (b29_1m1i_0) (fun x => run0 (g29_1m1i_0 x)) (s29_1m1i_0)
@[reducible] def p29_1m1 : Pat := Pat.mk [(4, .c (.ptr 0 0)), (5, hI), (6, .c (.ptr 1 0)), (8, .c (.hole (.int .u64))), (9, .c (.ptr 2 0)), (11, .c (.ptr 3 0)), (12, .c (.ptr 4 0)), (40, .c (.hole (.list (.prod tI tL)))), (41, hI), (42, hI), (53, .fn 100 [] [.ptr 5 0])] [(0, .cells [.nsl] false), (1, .cells [.hole (.list (.prod tI tL)), .ifcs 132 false (.cons (.hole (.list (.ifc 55 true (.prod tI tL)))) .nil), .hole tI, .hole (.int .u64)] false), (2, .cells [.sl0 7 (.prod tI tL)] false), (3, .cells [.hole tI, .hole tL] false), (4, .cells [.hole tI, .nsl] false), (5, .cells [.hole (.int .u64)] false), (6, .dfr), (7, .arr (.prod tI tL) false)] [.slot 4, .slot 6, .slot 9, .slot 11, .slot 12, .part 53 0, .mark 0, .cell 2 0] [6]
@[reducible] def x29_1m1 : Outs := [(.normal, Pat.mk [(4, .c (.ptr 0 0)), (5, hI), (6, .c (.ptr 1 0)), (8, .c (.hole (.int .u64))), (9, .c (.ptr 2 0)), (11, .c (.ptr 3 0)), (12, .c (.ptr 4 0)), (40, .c (.hole (.list (.prod tI tL)))), (41, hI), (42, hI)] [(0, .cells [.nsl] false), (1, .cells [.hole (.list (.prod tI tL)), .ifcs 132 false (.cons (.hole (.list (.ifc 55 true (.prod tI tL)))) .nil), .hole tI, .hole (.int .u64)] false), (2, .cells [.sl0 7 (.prod tI tL)] false), (3, .cells [.hole tI, .hole tL] false), (4, .cells [.hole tI, .sl0 8 tI] false), (5, .dfr), (6, .dfr), (7, .arr (.prod tI tL) false), (8, .arr tI false)] [.slot 4, .slot 6, .slot 9, .slot 11, .slot 12, .mark 0, .mark 1, .cell 2 0, .cell 4 1] [5, 6])]
noncomputable def b29_1m1i : D prog 14 none 10 := dO [.l L29_1m1i_0] (kd prog f100) 0
theorem ci29_1m1 : trF prog f100 = some ⟨14, 2, (b29_1m1i).er, [], []⟩ := by kernel_rfl
noncomputable def g29_1m1 : Int × Int × (List (Int × List Int)) × Int × Int × (List (Int × List Int)) × (List (Int × List Int)) × Int × Int × Nat × Int × List Int × Int × Int × (List (Int × List Int)) × Unit → Tr0 ((Int × Int × (List (Int × List Int)) × Int × Int × (List (Int × List Int)) × (List (Int × List Int)) × Int × Int × Nat × Int × List Int × Int × Nat × (List (Int × List Int)) × List Int × Unit)) := fun (v5, v8, v40, v41, v42, c1_0, c1_1c0, c1_2, c1_3, nc2_0, c3_0, c3_1, c4_0, c5_0, b7, _) =>
 .bd (.it g29_1m1i_0 (v5, (v8, (v40, (v41, (v42, (c5_0, (c1_0, (c1_1c0, (c1_2, (c1_3, (nc2_0, (c3_0, (c3_1, (c4_0, ((0 : Nat), (b7, ([], ())))))))))))))))))) fun z13 =>
 .ret ((v5, (v8, (v40, (v41, (v42, (z13.1, (z13.2.1, (z13.2.2.1, (z13.2.2.2.1, (z13.2.2.2.2.1, (z13.2.2.2.2.2.1, (z13.2.2.2.2.2.2.1, (z13.2.2.2.2.2.2.2.1, (z13.2.2.2.2.2.2.2.2.1, (z13.2.2.2.2.2.2.2.2.2.2.2.2.2.2.2.1, (z13.2.2.2.2.2.2.2.2.2.2.2.2.2.2.2.2.1, ())))))))))))))))))
theorem s29_1m1 : ∀ x, rangeE (N := 85) (out := none) (base := 0) (kzO x29_1m1.T) cx29_1m1i ar0 [] p29_1m1 x29_1m1 ( .t 53) [54] (ad29_1m0).er (bd29_1m0).er [] 2 100 (b29_1m1i) some x = run0 (g29_1m1 x) := fun x => by kernel_rfl
noncomputable def T29_1m1 : RangeT prog 85 none 0 ( .t 53) [54] (ad29_1m0).er (bd29_1m0).er := mkRangeT mixed cx29_1m1i cx29_1m1i_ok [] rfl p29_1m1 x29_1m1 ( .t 53) [54] rfl (ad29_1m0).er (bd29_1m0).er 100 func100 (ci29_1m1) (enters_of func100 rfl rfl) 10 rfl (b29_1m1i) rfl (fun x => run0 (g29_1m1 x)) (s29_1m1)
noncomputable def ad29_1m2 : D prog 85 (some 10) 13 := dO [] (pick (kd prog f29) [(0, false), (0, false)]) 0
noncomputable def bd29_1m2 : D prog 85 (some 10) 13 := dO [] (pick (kd prog f29) [(0, false), (0, true)]) 0
noncomputable def cx29_1m2i : Cx := itCx cx29 (fun kz => rdK kz cx29 ar0 10 13 [54] (ad29_1m2) (bd29_1m2))
theorem cx29_1m2i_ok : (cx29_1m2i).Ok prog := itCx_ok cx29_ok (fun h => rdK_ok mixed cx29_ok h)
@[reducible] def p29_1m2i_0 : Pat := Pat.mk [(0, .c (.yl 10)), (1, .c (.ptr 5 0))] [(10, .loop .ready none 9 [(4, .c (.ptr 0 0)), (5, hI), (6, .c (.ptr 1 0)), (8, .c (.hole (.int .u64))), (9, .c (.ptr 2 0)), (11, .c (.ptr 3 0)), (12, .c (.ptr 4 0)), (40, .c (.hole (.list (.prod tI tL)))), (41, hI), (42, hI), (53, .fn 100 [] [.ptr 5 0])] [54] (.reg [.op (some 13) none (.mv (.t 54))]) (.block 4 (.draw [[], [0], [], [2], [], [2, 3, 4], [2, 3, 4, 5], [2, 3, 4, 5, 6], [0, 1, 2, 3, 4, 5, 6, 7], [0, 1, 2, 3, 4, 5, 6, 7, 8], [0, 1, 2, 3, 4, 5, 6, 7, 8, 9]] [.op (some 55) none (.fld 1 [true] (.t 12)), .op (some 56) none (.load false 1 (.t 55)), .op (some 57) none (.fld 1 [true] (.t 11)), .op (some 58) none (.load false 1 (.t 57)), .op (some 59) none (.mv (.t 13)), .op (some 60) none (.idx 1 (.t 58) (.t 59)), .op (some 61) none (.load false 1 (.t 60)), .op (some 62) none (.bslice tI [.t 61]), .op (some 63) none (.append 1 (.t 56) (.t 62)), .op (some 64) none (.fld 1 [true] (.t 12)), .op none none (.store 1 (.t 64) (.t 63))])) 85), (5, .cells [.hole (.int .u64)] false), (9, .dfr), (0, .cells [.nsl] false), (1, .cells [.hole (.list (.prod tI tL)), .ifcs 132 false (.cons (.hole (.list (.ifc 55 true (.prod tI tL)))) .nil), .hole tI, .hole (.int .u64)] false), (2, .cells [.sl0 11 (.prod tI tL)] false), (3, .cells [.hole tI, .hole tL] false), (4, .cells [.hole tI, .sl0 12 tI] false), (6, .dfr), (7, .dfr), (11, .arr (.prod tI tL) false), (12, .arr tI false)] [.cell 2 0, .cell 4 1] []
@[reducible] def x29_1m2i_0 : Outs := [(.exit 0, Pat.mk [] [(0, .cells [.nsl] false), (1, .cells [.hole (.list (.prod tI tL)), .ifcs 132 false (.cons (.hole (.list (.ifc 55 true (.prod tI tL)))) .nil), .hole tI, .hole (.int .u64)] false), (2, .cells [.sl0 11 (.prod tI tL)] false), (3, .cells [.hole tI, .hole tL] false), (4, .cells [.hole tI, .sl0 12 tI] false), (5, .cells [.hole (.int .u64)] false), (6, .dfr), (7, .dfr), (9, .dfr), (10, .loop .ready none 9 [(4, .c (.ptr 0 0)), (5, hI), (6, .c (.ptr 1 0)), (8, .c (.hole (.int .u64))), (9, .c (.ptr 2 0)), (11, .c (.ptr 3 0)), (12, .c (.ptr 4 0)), (40, .c (.hole (.list (.prod tI tL)))), (41, hI), (42, hI), (53, .fn 100 [] [.ptr 5 0])] [54] (.reg [.op (some 13) none (.mv (.t 54))]) (.block 4 (.draw [[], [0], [], [2], [], [2, 3, 4], [2, 3, 4, 5], [2, 3, 4, 5, 6], [0, 1, 2, 3, 4, 5, 6, 7], [0, 1, 2, 3, 4, 5, 6, 7, 8], [0, 1, 2, 3, 4, 5, 6, 7, 8, 9]] [.op (some 55) none (.fld 1 [true] (.t 12)), .op (some 56) none (.load false 1 (.t 55)), .op (some 57) none (.fld 1 [true] (.t 11)), .op (some 58) none (.load false 1 (.t 57)), .op (some 59) none (.mv (.t 13)), .op (some 60) none (.idx 1 (.t 58) (.t 59)), .op (some 61) none (.load false 1 (.t 60)), .op (some 62) none (.bslice tI [.t 61]), .op (some 63) none (.append 1 (.t 56) (.t 62)), .op (some 64) none (.fld 1 [true] (.t 12)), .op none none (.store 1 (.t 64) (.t 63))])) 85), (11, .arr (.prod tI tL) false), (12, .arr tI false)] [.cell 2 0, .cell 4 1] [])]
noncomputable def b29_1m2i_0 : D prog 14 none 11 := dO [] (pick (kd prog f100) [(0, false)]) 0
noncomputable def g29_1m2i_0 : Int × Int × (List (Int × List Int)) × Int × Int × Int × (List (Int × List Int)) × (List (Int × List Int)) × Int × Int × Nat × Int × List Int × Int × Nat × (List (Int × List Int)) × List Int × Unit → Tr0 ((Int × Int × (List (Int × List Int)) × Int × Int × Int × (List (Int × List Int)) × (List (Int × List Int)) × Int × Int × Nat × Int × List Int × Int × Nat × (List (Int × List Int)) × List Int × Unit) ⊕ (((List (Int × List Int)) × (List (Int × List Int)) × Int × Int × Nat × Int × List Int × Int × Nat × Int × Int × Int × (List (Int × List Int)) × Int × Int × (List (Int × List Int)) × List Int × Unit))) := fun (w5, w8, w40, w41, w42, c5_0, c1_0, c1_1c0, c1_2, c1_3, nc2_0, c3_0, c3_1, c4_0, nc4_1, b11, b12, _) =>
 .br (!(c5_0 == (0 : Int))) (
 .bd (F101 c5_0) fun y17 =>
 .nb y17.1 (((c3_1).length : Nat) : Int) <|
 .nd (decide ((nc4_1 + (((((((c3_1).getD (Int.toNat y17.1) (0 : Int)) :: [])).drop (0 : Nat)).take (1 : Nat))).length) < bigL)) <|
 .nd (rng .u64 (c5_0 - (1 : Int))) <|
 .ret (.inl (w5, (w8, (w40, (w41, (w42, ((ar0.bits Go.AM.IBin.and Go.IntKind.u64 c5_0 (c5_0 - (1 : Int))), (c1_0, (c1_1c0, (c1_2, (c1_3, (nc2_0, (c3_0, (c3_1, (c4_0, ((nc4_1 + (((((((c3_1).getD (Int.toNat y17.1) (0 : Int)) :: [])).drop (0 : Nat)).take (1 : Nat))).length), (b11, (((((b12).drop (0 : Nat)).take nc4_1) ++ ((((((c3_1).getD (Int.toNat y17.1) (0 : Int)) :: [])).drop (0 : Nat)).take (1 : Nat))), ()))))))))))))))))))) (
 .ret (.inr (c1_0, (c1_1c0, (c1_2, (c1_3, (nc2_0, (c3_0, (c3_1, (c4_0, (nc4_1, (c5_0, (w5, (w8, (w40, (w41, (w42, (b11, (b12, ())))))))))))))))))))
theorem s29_1m2i_0 : ∀ x, roundE (kzO (p29_1m2i_0.T ⊕ x29_1m2i_0.T)) cx29_1m2i ar0 [0, 1, 2, 3, 4, 5, 6, 7, 8, 9, 10] p29_1m2i_0 x29_1m2i_0 (b29_1m2i_0) (fun y => some (.inl y)) (fun b => some (.inr b)) x = run0 (g29_1m2i_0 x) := fun x => by kernel_rfl
noncomputable def L29_1m2i_0 : LoopS prog 14 none 11 := mkLoop mixed cx29_1m2i cx29_1m2i_ok [0, 1, 2, 3, 4, 5, 6, 7, 8, 9, 10] rfl p29_1m2i_0 x29_1m2i_0 rfl (b29_1m2i_0) (fun x => run0 (g29_1m2i_0 x)) (s29_1m2i_0)
@[reducible] def p29_1m2 : Pat := Pat.mk [(4, .c (.ptr 0 0)), (5, hI), (6, .c (.ptr 1 0)), (8, .c (.hole (.int .u64))), (9, .c (.ptr 2 0)), (11, .c (.ptr 3 0)), (12, .c (.ptr 4 0)), (40, .c (.hole (.list (.prod tI tL)))), (41, hI), (42, hI), (53, .fn 100 [] [.ptr 5 0])] [(0, .cells [.nsl] false), (1, .cells [.hole (.list (.prod tI tL)), .ifcs 132 false (.cons (.hole (.list (.ifc 55 true (.prod tI tL)))) .nil), .hole tI, .hole (.int .u64)] false), (2, .cells [.sl0 8 (.prod tI tL)] false), (3, .cells [.hole tI, .hole tL] false), (4, .cells [.hole tI, .nsl] false), (5, .cells [.hole (.int .u64)] false), (6, .dfr), (7, .dfr), (8, .arr (.prod tI tL) false)] [.slot 4, .slot 6, .slot 9, .slot 11, .slot 12, .part 53 0, .mark 0, .mark 1, .cell 2 0] [6, 7]
@[reducible] def x29_1m2 : Outs := [(.normal, Pat.mk [(4, .c (.ptr 0 0)), (5, hI), (6, .c (.ptr 1 0)), (8, .c (.hole (.int .u64))), (9, .c (.ptr 2 0)), (11, .c (.ptr 3 0)), (12, .c (.ptr 4 0)), (40, .c (.hole (.list (.prod tI tL)))), (41, hI), (42, hI)] [(0, .cells [.nsl] false), (1, .cells [.hole (.list (.prod tI tL)), .ifcs 132 false (.cons (.hole (.list (.ifc 55 true (.prod tI tL)))) .nil), .hole tI, .hole (.int .u64)] false), (2, .cells [.sl0 8 (.prod tI tL)] false), (3, .cells [.hole tI, .hole tL] false), (4, .cells [.hole tI, .sl0 9 tI] false), (5, .dfr), (6, .dfr), (7, .dfr), (8, .arr (.prod tI tL) false), (9, .arr tI false)] [.slot 4, .slot 6, .slot 9, .slot 11, .slot 12, .mark 0, .mark 1, .mark 2, .cell 2 0, .cell 4 1] [5, 6, 7])]
noncomputable def b29_1m2i : D prog 14 none 11 := dO [.l L29_1m2i_0] (kd prog f100) 0
theorem ci29_1m2 : trF prog f100 = some ⟨14, 2, (b29_1m2i).er, [], []⟩ := by kernel_rfl
noncomputable def g29_1m2 : Int × Int × (List (Int × List Int)) × Int × Int × (List (Int × List Int)) × (List (Int × List Int)) × Int × Int × Nat × Int × List Int × Int × Int × (List (Int × List Int)) × Unit → Tr0 ((Int × Int × (List (Int × List Int)) × Int × Int × (List (Int × List Int)) × (List (Int × List Int)) × Int × Int × Nat × Int × List Int × Int × Nat × (List (Int × List Int)) × List Int × Unit)) := fun (v5, v8, v40, v41, v42, c1_0, c1_1c0, c1_2, c1_3, nc2_0, c3_0, c3_1, c4_0, c5_0, b8, _) =>
 .bd (.it g29_1m2i_0 (v5, (v8, (v40, (v41, (v42, (c5_0, (c1_0, (c1_1c0, (c1_2, (c1_3, (nc2_0, (c3_0, (c3_1, (c4_0, ((0 : Nat), (b8, ([], ())))))))))))))))))) fun z18 =>
 .ret ((v5, (v8, (v40, (v41, (v42, (z18.1, (z18.2.1, (z18.2.2.1, (z18.2.2.2.1, (z18.2.2.2.2.1, (z18.2.2.2.2.2.1, (z18.2.2.2.2.2.2.1, (z18.2.2.2.2.2.2.2.1, (z18.2.2.2.2.2.2.2.2.1, (z18.2.2.2.2.2.2.2.2.2.2.2.2.2.2.2.1, (z18.2.2.2.2.2.2.2.2.2.2.2.2.2.2.2.2.1, ())))))))))))))))))
theorem s29_1m2 : ∀ x, rangeE (N := 85) (out := none) (base := 0) (kzO x29_1m2.T) cx29_1m2i ar0 [] p29_1m2 x29_1m2 ( .t 53) [54] (ad29_1m0).er (bd29_1m0).er [] 2 100 (b29_1m2i) some x = run0 (g29_1m2 x) := fun x => by kernel_rfl
noncomputable def T29_1m2 : RangeT prog 85 none 0 ( .t 53) [54] (ad29_1m0).er (bd29_1m0).er := mkRangeT mixed cx29_1m2i cx29_1m2i_ok [] rfl p29_1m2 x29_1m2 ( .t 53) [54] rfl (ad29_1m0).er (bd29_1m0).er 100 func100 (ci29_1m2) (enters_of func100 rfl rfl) 11 rfl (b29_1m2i) rfl (fun x => run0 (g29_1m2 x)) (s29_1m2)
noncomputable def ad29_1m3 : D prog 85 (some 11) 14 := dO [] (pick (kd prog f29) [(0, false), (0, false)]) 0
noncomputable def bd29_1m3 : D prog 85 (some 11) 14 := dO [] (pick (kd prog f29) [(0, false), (0, true)]) 0
noncomputable def cx29_1m3i : Cx := itCx cx29 (fun kz => rdK kz cx29 ar0 11 14 [54] (ad29_1m3) (bd29_1m3))
theorem cx29_1m3i_ok : (cx29_1m3i).Ok prog := itCx_ok cx29_ok (fun h => rdK_ok mixed cx29_ok h)
@[reducible] def p29_1m3i_0 : Pat := Pat.mk [(0, .c (.yl 11)), (1, .c (.ptr 5 0))] [(11, .loop .ready none 10 [(4, .c (.ptr 0 0)), (5, hI), (6, .c (.ptr 1 0)), (8, .c (.hole (.int .u64))), (9, .c (.ptr 2 0)), (11, .c (.ptr 3 0)), (12, .c (.ptr 4 0)), (40, .c (.hole (.list (.prod tI tL)))), (41, hI), (42, hI), (53, .fn 100 [] [.ptr 5 0])] [54] (.reg [.op (some 13) none (.mv (.t 54))]) (.block 4 (.draw [[], [0], [], [2], [], [2, 3, 4], [2, 3, 4, 5], [2, 3, 4, 5, 6], [0, 1, 2, 3, 4, 5, 6, 7], [0, 1, 2, 3, 4, 5, 6, 7, 8], [0, 1, 2, 3, 4, 5, 6, 7, 8, 9]] [.op (some 55) none (.fld 1 [true] (.t 12)), .op (some 56) none (.load false 1 (.t 55)), .op (some 57) none (.fld 1 [true] (.t 11)), .op (some 58) none (.load false 1 (.t 57)), .op (some 59) none (.mv (.t 13)), .op (some 60) none (.idx 1 (.t 58) (.t 59)), .op (some 61) none (.load false 1 (.t 60)), .op (some 62) none (.bslice tI [.t 61]), .op (some 63) none (.append 1 (.t 56) (.t 62)), .op (some 64) none (.fld 1 [true] (.t 12)), .op none none (.store 1 (.t 64) (.t 63))])) 85), (5, .cells [.hole (.int .u64)] false), (10, .dfr), (0, .cells [.nsl] false), (1, .cells [.hole (.list (.prod tI tL)), .ifcs 132 false (.cons (.hole (.list (.ifc 55 true (.prod tI tL)))) .nil), .hole tI, .hole (.int .u64)] false), (2, .cells [.sl0 12 (.prod tI tL)] false), (3, .cells [.hole tI, .hole tL] false), (4, .cells [.hole tI, .sl0 13 tI] false), (6, .dfr), (7, .dfr), (8, .dfr), (12, .arr (.prod tI tL) false), (13, .arr tI false)] [.cell 2 0, .cell 4 1] []
@[reducible] def x29_1m3i_0 : Outs := [(.exit 0, Pat.mk [] [(0, .cells [.nsl] false), (1, .cells [.hole (.list (.prod tI tL)), .ifcs 132 false (.cons (.hole (.list (.ifc 55 true (.prod tI tL)))) .nil), .hole tI, .hole (.int .u64)] false), (2, .cells [.sl0 12 (.prod tI tL)] false), (3, .cells [.hole tI, .hole tL] false), (4, .cells [.hole tI, .sl0 13 tI] false), (5, .cells [.hole (.int .u64)] false), (6, .dfr), (7, .dfr), (8, .dfr), (10, .dfr), (11, .loop .ready none 10 [(4, .c (.ptr 0 0)), (5, hI), (6, .c (.ptr 1 0)), (8, .c (.hole (.int .u64))), (9, .c (.ptr 2 0)), (11, .c (.ptr 3 0)), (12, .c (.ptr 4 0)), (40, .c (.hole (.list (.prod tI tL)))), (41, hI), (42, hI), (53, .fn 100 [] [.ptr 5 0])] [54] (.reg [.op (some 13) none (.mv (.t 54))]) (.block 4 (.draw [[], [0], [], [2], [], [2, 3, 4], [2, 3, 4, 5], [2, 3, 4, 5, 6], [0, 1, 2, 3, 4, 5, 6, 7], [0, 1, 2, 3, 4, 5, 6, 7, 8], [0, 1, 2, 3, 4, 5, 6, 7, 8, 9]] [.op (some 55) none (.fld 1 [true] (.t 12)), .op (some 56) none (.load false 1 (.t 55)), .op (some 57) none (.fld 1 [true] (.t 11)), .op (some 58) none (.load false 1 (.t 57)), .op (some 59) none (.mv (.t 13)), .op (some 60) none (.idx 1 (.t 58) (.t 59)), .op (some 61) none (.load false 1 (.t 60)), .op (some 62) none (.bslice tI [.t 61]), .op (some 63) none (.append 1 (.t 56) (.t 62)), .op (some 64) none (.fld 1 [true] (.t 12)), .op none none (.store 1 (.t 64) (.t 63))])) 85), (12, .arr (.prod tI tL) false), (13, .arr tI false)] [.cell 2 0, .cell 4 1] [])]
noncomputable def b29_1m3i_0 : D prog 14 none 12 := dO [] (pick (kd prog f100) [(0, false)]) 0
noncomputable def g29_1m3i_0 : Int × Int × (List (Int × List Int)) × Int × Int × Int × (List (Int × List Int)) × (List (Int × List Int)) × Int × Int × Nat × Int × List Int × Int × Nat × (List (Int × List Int)) × List Int × Unit → Tr0 ((Int × Int × (List (Int × List Int)) × Int × Int × Int × (List (Int × List Int)) × (List (Int × List Int)) × Int × Int × Nat × Int × List Int × Int × Nat × (List (Int × List Int)) × List Int × Unit) ⊕ (((List (Int × List Int)) × (List (Int × List Int)) × Int × Int × Nat × Int × List Int × Int × Nat × Int × Int × Int × (List (Int × List Int)) × Int × Int × (List (Int × List Int)) × List Int × Unit))) := fun (w5, w8, w40, w41, w42, c5_0, c1_0, c1_1c0, c1_2, c1_3, nc2_0, c3_0, c3_1, c4_0, nc4_1, b12, b13, _) =>
 .br (!(c5_0 == (0 : Int))) (
 .bd (F101 c5_0) fun y22 =>
 .nb y22.1 (((c3_1).length : Nat) : Int) <|
 .nd (decide ((nc4_1 + (((((((c3_1).getD (Int.toNat y22.1) (0 : Int)) :: [])).drop (0 : Nat)).take (1 : Nat))).length) < bigL)) <|
 .nd (rng .u64 (c5_0 - (1 : Int))) <|
 .ret (.inl (w5, (w8, (w40, (w41, (w42, ((ar0.bits Go.AM.IBin.and Go.IntKind.u64 c5_0 (c5_0 - (1 : Int))), (c1_0, (c1_1c0, (c1_2, (c1_3, (nc2_0, (c3_0, (c3_1, (c4_0, ((nc4_1 + (((((((c3_1).getD (Int.toNat y22.1) (0 : Int)) :: [])).drop (0 : Nat)).take (1 : Nat))).length), (b12, (((((b13).drop (0 : Nat)).take nc4_1) ++ ((((((c3_1).getD (Int.toNat y22.1) (0 : Int)) :: [])).drop (0 : Nat)).take (1 : Nat))), ()))))))))))))))))))) (
 .ret (.inr (c1_0, (c1_1c0, (c1_2, (c1_3, (nc2_0, (c3_0, (c3_1, (c4_0, (nc4_1, (c5_0, (w5, (w8, (w40, (w41, (w42, (b12, (b13, ())))))))))))))))))))
theorem s29_1m3i_0 : ∀ x, roundE (kzO (p29_1m3i_0.T ⊕ x29_1m3i_0.T)) cx29_1m3i ar0 [0, 1, 2, 3, 4, 5, 6, 7, 8, 9, 10, 11] p29_1m3i_0 x29_1m3i_0 (b29_1m3i_0) (fun y => some (.inl y)) (fun b => some (.inr b)) x = run0 (g29_1m3i_0 x) := fun x => by kernel_rfl
noncomputable def L29_1m3i_0 : LoopS prog 14 none 12 := mkLoop mixed cx29_1m3i cx29_1m3i_ok [0, 1, 2, 3, 4, 5, 6, 7, 8, 9, 10, 11] rfl p29_1m3i_0 x29_1m3i_0 rfl (b29_1m3i_0) (fun x => run0 (g29_1m3i_0 x)) (s29_1m3i_0)
@[reducible] def p29_1m3 : Pat := Pat.mk [(4, .c (.ptr 0 0)), (5, hI), (6, .c (.ptr 1 0)), (8, .c (.hole (.int .u64))), (9, .c (.ptr 2 0)), (11, .c (.ptr 3 0)), (12, .c (.ptr 4 0)), (40, .c (.hole (.list (.prod tI tL)))), (41, hI), (42, hI), (53, .fn 100 [] [.ptr 5 0])] [(0, .cells [.nsl] false), (1, .cells [.hole (.list (.prod tI tL)), .ifcs 132 false (.cons (.hole (.list (.ifc 55 true (.prod tI tL)))) .nil), .hole tI, .hole (.int .u64)] false), (2, .cells [.sl0 9 (.prod tI tL)] false), (3, .cells [.hole tI, .hole tL] false), (4, .cells [.hole tI, .nsl] false), (5, .cells [.hole (.int .u64)] false), (6, .dfr), (7, .dfr), (8, .dfr), (9, .arr (.prod tI tL) false)] [.slot 4, .slot 6, .slot 9, .slot 11, .slot 12, .part 53 0, .mark 0, .mark 1, .mark 2, .cell 2 0] [6, 7, 8]
@[reducible] def x29_1m3 : Outs := [(.normal, Pat.mk [(4, .c (.ptr 0 0)), (5, hI), (6, .c (.ptr 1 0)), (8, .c (.hole (.int .u64))), (9, .c (.ptr 2 0)), (11, .c (.ptr 3 0)), (12, .c (.ptr 4 0)), (40, .c (.hole (.list (.prod tI tL)))), (41, hI), (42, hI)] [(0, .cells [.nsl] false), (1, .cells [.hole (.list (.prod tI tL)), .ifcs 132 false (.cons (.hole (.list (.ifc 55 true (.prod tI tL)))) .nil), .hole tI, .hole (.int .u64)] false), (2, .cells [.sl0 9 (.prod tI tL)] false), (3, .cells [.hole tI, .hole tL] false), (4, .cells [.hole tI, .sl0 10 tI] false), (5, .dfr), (6, .dfr), (7, .dfr), (8, .dfr), (9, .arr (.prod tI tL) false), (10, .arr tI false)] [.slot 4, .slot 6, .slot 9, .slot 11, .slot 12, .mark 0, .mark 1, .mark 2, .mark 3, .cell 2 0, .cell 4 1] [5, 6, 7, 8])]
noncomputable def b29_1m3i : D prog 14 none 12 := dO [.l L29_1m3i_0] (kd prog f100) 0
theorem ci29_1m3 : trF prog f100 = some ⟨14, 2, (b29_1m3i).er, [], []⟩ := by kernel_rfl
noncomputable def g29_1m3 : Int × Int × (List (Int × List Int)) × Int × Int × (List (Int × List Int)) × (List (Int × List Int)) × Int × Int × Nat × Int × List Int × Int × Int × (List (Int × List Int)) × Unit → Tr0 ((Int × Int × (List (Int × List Int)) × Int × Int × (List (Int × List Int)) × (List (Int × List Int)) × Int × Int × Nat × Int × List Int × Int × Nat × (List (Int × List Int)) × List Int × Unit)) := fun (v5, v8, v40, v41, v42, c1_0, c1_1c0, c1_2, c1_3, nc2_0, c3_0, c3_1, c4_0, c5_0, b9, _) =>
 .bd (.it g29_1m3i_0 (v5, (v8, (v40, (v41, (v42, (c5_0, (c1_0, (c1_1c0, (c1_2, (c1_3, (nc2_0, (c3_0, (c3_1, (c4_0, ((0 : Nat), (b9, ([], ())))))))))))))))))) fun z23 =>
 .ret ((v5, (v8, (v40, (v41, (v42, (z23.1, (z23.2.1, (z23.2.2.1, (z23.2.2.2.1, (z23.2.2.2.2.1, (z23.2.2.2.2.2.1, (z23.2.2.2.2.2.2.1, (z23.2.2.2.2.2.2.2.1, (z23.2.2.2.2.2.2.2.2.1, (z23.2.2.2.2.2.2.2.2.2.2.2.2.2.2.2.1, (z23.2.2.2.2.2.2.2.2.2.2.2.2.2.2.2.2.1, ())))))))))))))))))
theorem s29_1m3 : ∀ x, rangeE (N := 85) (out := none) (base := 0) (kzO x29_1m3.T) cx29_1m3i ar0 [] p29_1m3 x29_1m3 ( .t 53) [54] (ad29_1m0).er (bd29_1m0).er [] 2 100 (b29_1m3i) some x = run0 (g29_1m3 x) := fun x => by kernel_rfl
noncomputable def T29_1m3 : RangeT prog 85 none 0 ( .t 53) [54] (ad29_1m0).er (bd29_1m0).er := mkRangeT mixed cx29_1m3i cx29_1m3i_ok [] rfl p29_1m3 x29_1m3 ( .t 53) [54] rfl (ad29_1m0).er (bd29_1m0).er 100 func100 (ci29_1m3) (enters_of func100 rfl rfl) 12 rfl (b29_1m3i) rfl (fun x => run0 (g29_1m3 x)) (s29_1m3)
noncomputable def R29_1 : RangeS prog 85 none 0 := RangeT.s (altR 0 T29_1m0 (altR 1 T29_1m1 (altR 2 T29_1m2 T29_1m3)))
noncomputable def b29_0 : D prog 85 none 0 := dO [.r R29_1] (pick (kd prog f29) [(0, false)]) 0
noncomputable def L29_0 : LoopS prog 85 none 0 := mkUnr mixed cx29 cx29_ok (b29_0) 4
noncomputable def dd29 : D prog 85 none 0 := dO [.l L29_0] (kd prog f29) 0
noncomputable def F29 (a0_0 : List (Int × List Int)) (a1 : List Int) : Tr0 (((List (Int × List Int)) × Unit) × Int × Unit) :=
 .bd (F66 a0_0) fun y0 =>
 .sm y0 (fun y1 =>
 .br (!(y1.2.2.2.1 == (0 : Int))) (
 .ret (([], ()), (y1.2.2.2.1, ()))) (
 .bd (F72 y1.1 y1.2.1 y1.2.2.1 a1) fun y2 =>
 .br (!(y2.2.1 == (0 : Int))) (
 .ret (([], ()), (y2.2.1, ()))) (
 .br (y2.1 == (0 : Int)) (
 .ret (([], ()), ((4 : Int), ()))) (
 .br (decide ((0 : Int) < (((a0_0).length : Nat) : Int))) (
 .nb (0 : Int) (((a0_0).length : Nat) : Int) <|
 .bd (FH77 (ar0.bits Go.AM.IBin.andNot Go.IntKind.u64 y1.2.2.1 y2.1)) fun y3 =>
 .no) (
 .ret (([], ()), ((0 : Int), ()))))))) fun y6 =>
 .br (!(y6.2.2.2.2.1 == (0 : Int))) (
 .ret (([], ()), (y6.2.2.2.2.1, ()))) (
 .bd (F72_v1 y6.1 y6.2.1 y6.2.2.1 y6.2.2.2.1 a1) fun y7 =>
 .br (!(y7.2.1 == (0 : Int))) (
 .ret (([], ()), (y7.2.1, ()))) (
 .br (y7.1 == (0 : Int)) (
 .ret (([], ()), ((4 : Int), ()))) (
 .br (decide ((0 : Int) < (((a0_0).length : Nat) : Int))) (
 .nb (0 : Int) (((a0_0).length : Nat) : Int) <|
 .bd (FH77 (ar0.bits Go.AM.IBin.andNot Go.IntKind.u64 y6.2.2.2.1 y7.1)) fun y8 =>
 .bd (g29_1m0 ((0 : Int), (y7.1, (a0_0, ((((a0_0).length : Nat) : Int), ((0 : Int), (y6.1, (y6.2.1, (y6.2.2.1, (y6.2.2.2.1, (((a0_0).getD (Int.toNat (0 : Int)) ((0 : Int), [])).1, (((a0_0).getD (Int.toNat (0 : Int)) ((0 : Int), [])).2, (((a0_0).getD (Int.toNat (0 : Int)) ((0 : Int), [])).1, (y8.1, ())))))))))))))) fun z9 =>
 .bd (F78 (z9.2.2.2.2.2.2.2.2.2.1, z9.2.2.2.2.2.2.2.2.2.2.1) z9.2.1) fun y10 =>
 .br (decide ((1000000 : Int) < y10.1)) (
 .ret (([], ()), ((10 : Int), ()))) (
 .nd (decide ((z9.2.2.2.2.2.2.2.2.2.2.2.2.1 + (((((y10.1 :: [])).drop (0 : Nat)).take (1 : Nat))).length) < bigL)) <|
 .nd (decide (((((((z9.2.2.2.2.2.2.2.2.2.2.2.1, (((((((z9.2.2.2.2.2.2.2.2.2.2.2.2.2.1).drop (0 : Nat)).take z9.2.2.2.2.2.2.2.2.2.2.2.2.1) ++ ((((y10.1 :: [])).drop (0 : Nat)).take (1 : Nat)))).drop (0 : Nat)).take (z9.2.2.2.2.2.2.2.2.2.2.2.2.1 + (((((y10.1 :: [])).drop (0 : Nat)).take (1 : Nat))).length))) :: [])).drop (0 : Nat)).take (1 : Nat))).length < bigL)) <|
 .ni (z9.2.2.2.2.1 + (1 : Int)) <|
 .br (decide ((z9.2.2.2.2.1 + (1 : Int)) < z9.2.2.2.1)) (
 .nb (z9.2.2.2.2.1 + (1 : Int)) (((z9.2.2.1).length : Nat) : Int) <|
 .bd (FH77 (ar0.bits Go.AM.IBin.andNot Go.IntKind.u64 z9.2.2.2.2.2.2.2.2.1 z9.2.1)) fun y11 =>
 .bd (g29_1m1 (z9.1, (z9.2.1, (z9.2.2.1, (z9.2.2.2.1, ((z9.2.2.2.2.1 + (1 : Int)), (z9.2.2.2.2.2.1, (z9.2.2.2.2.2.2.1, (z9.2.2.2.2.2.2.2.1, (z9.2.2.2.2.2.2.2.2.1, (((((((z9.2.2.2.2.2.2.2.2.2.2.2.1, (((((((z9.2.2.2.2.2.2.2.2.2.2.2.2.2.1).drop (0 : Nat)).take z9.2.2.2.2.2.2.2.2.2.2.2.2.1) ++ ((((y10.1 :: [])).drop (0 : Nat)).take (1 : Nat)))).drop (0 : Nat)).take (z9.2.2.2.2.2.2.2.2.2.2.2.2.1 + (((((y10.1 :: [])).drop (0 : Nat)).take (1 : Nat))).length))) :: [])).drop (0 : Nat)).take (1 : Nat))).length, (((z9.2.2.1).getD (Int.toNat (z9.2.2.2.2.1 + (1 : Int))) ((0 : Int), [])).1, (((z9.2.2.1).getD (Int.toNat (z9.2.2.2.2.1 + (1 : Int))) ((0 : Int), [])).2, (((z9.2.2.1).getD (Int.toNat (z9.2.2.2.2.1 + (1 : Int))) ((0 : Int), [])).1, (y11.1, ((((((z9.2.2.2.2.2.2.2.2.2.2.2.1, (((((((z9.2.2.2.2.2.2.2.2.2.2.2.2.2.1).drop (0 : Nat)).take z9.2.2.2.2.2.2.2.2.2.2.2.2.1) ++ ((((y10.1 :: [])).drop (0 : Nat)).take (1 : Nat)))).drop (0 : Nat)).take (z9.2.2.2.2.2.2.2.2.2.2.2.2.1 + (((((y10.1 :: [])).drop (0 : Nat)).take (1 : Nat))).length))) :: [])).drop (0 : Nat)).take (1 : Nat)), ())))))))))))))))) fun z14 =>
 .bd (F78 (z14.2.2.2.2.2.2.2.2.2.2.1, z14.2.2.2.2.2.2.2.2.2.2.2.1) z14.2.1) fun y15 =>
 .br (decide ((1000000 : Int) < y15.1)) (
 .ret (([], ()), ((10 : Int), ()))) (
 .nd (decide ((z14.2.2.2.2.2.2.2.2.2.2.2.2.2.1 + (((((y15.1 :: [])).drop (0 : Nat)).take (1 : Nat))).length) < bigL)) <|
 .nd (decide ((z14.2.2.2.2.2.2.2.2.2.1 + ((((((z14.2.2.2.2.2.2.2.2.2.2.2.2.1, (((((((z14.2.2.2.2.2.2.2.2.2.2.2.2.2.2.2.1).drop (0 : Nat)).take z14.2.2.2.2.2.2.2.2.2.2.2.2.2.1) ++ ((((y15.1 :: [])).drop (0 : Nat)).take (1 : Nat)))).drop (0 : Nat)).take (z14.2.2.2.2.2.2.2.2.2.2.2.2.2.1 + (((((y15.1 :: [])).drop (0 : Nat)).take (1 : Nat))).length))) :: [])).drop (0 : Nat)).take (1 : Nat))).length) < bigL)) <|
 .ni (z14.2.2.2.2.1 + (1 : Int)) <|
 .br (decide ((z14.2.2.2.2.1 + (1 : Int)) < z14.2.2.2.1)) (
 .nb (z14.2.2.2.2.1 + (1 : Int)) (((z14.2.2.1).length : Nat) : Int) <|
 .bd (FH77 (ar0.bits Go.AM.IBin.andNot Go.IntKind.u64 z14.2.2.2.2.2.2.2.2.1 z14.2.1)) fun y16 =>
 .bd (g29_1m2 (z14.1, (z14.2.1, (z14.2.2.1, (z14.2.2.2.1, ((z14.2.2.2.2.1 + (1 : Int)), (z14.2.2.2.2.2.1, (z14.2.2.2.2.2.2.1, (z14.2.2.2.2.2.2.2.1, (z14.2.2.2.2.2.2.2.2.1, ((z14.2.2.2.2.2.2.2.2.2.1 + ((((((z14.2.2.2.2.2.2.2.2.2.2.2.2.1, (((((((z14.2.2.2.2.2.2.2.2.2.2.2.2.2.2.2.1).drop (0 : Nat)).take z14.2.2.2.2.2.2.2.2.2.2.2.2.2.1) ++ ((((y15.1 :: [])).drop (0 : Nat)).take (1 : Nat)))).drop (0 : Nat)).take (z14.2.2.2.2.2.2.2.2.2.2.2.2.2.1 + (((((y15.1 :: [])).drop (0 : Nat)).take (1 : Nat))).length))) :: [])).drop (0 : Nat)).take (1 : Nat))).length), (((z14.2.2.1).getD (Int.toNat (z14.2.2.2.2.1 + (1 : Int))) ((0 : Int), [])).1, (((z14.2.2.1).getD (Int.toNat (z14.2.2.2.2.1 + (1 : Int))) ((0 : Int), [])).2, (((z14.2.2.1).getD (Int.toNat (z14.2.2.2.2.1 + (1 : Int))) ((0 : Int), [])).1, (y16.1, (((((z14.2.2.2.2.2.2.2.2.2.2.2.2.2.2.1).drop (0 : Nat)).take z14.2.2.2.2.2.2.2.2.2.1) ++ (((((z14.2.2.2.2.2.2.2.2.2.2.2.2.1, (((((((z14.2.2.2.2.2.2.2.2.2.2.2.2.2.2.2.1).drop (0 : Nat)).take z14.2.2.2.2.2.2.2.2.2.2.2.2.2.1) ++ ((((y15.1 :: [])).drop (0 : Nat)).take (1 : Nat)))).drop (0 : Nat)).take (z14.2.2.2.2.2.2.2.2.2.2.2.2.2.1 + (((((y15.1 :: [])).drop (0 : Nat)).take (1 : Nat))).length))) :: [])).drop (0 : Nat)).take (1 : Nat))), ())))))))))))))))) fun z19 =>
 .bd (F78 (z19.2.2.2.2.2.2.2.2.2.2.1, z19.2.2.2.2.2.2.2.2.2.2.2.1) z19.2.1) fun y20 =>
 .br (decide ((1000000 : Int) < y20.1)) (
 .ret (([], ()), ((10 : Int), ()))) (
 .nd (decide ((z19.2.2.2.2.2.2.2.2.2.2.2.2.2.1 + (((((y20.1 :: [])).drop (0 : Nat)).take (1 : Nat))).length) < bigL)) <|
 .nd (decide ((z19.2.2.2.2.2.2.2.2.2.1 + ((((((z19.2.2.2.2.2.2.2.2.2.2.2.2.1, (((((((z19.2.2.2.2.2.2.2.2.2.2.2.2.2.2.2.1).drop (0 : Nat)).take z19.2.2.2.2.2.2.2.2.2.2.2.2.2.1) ++ ((((y20.1 :: [])).drop (0 : Nat)).take (1 : Nat)))).drop (0 : Nat)).take (z19.2.2.2.2.2.2.2.2.2.2.2.2.2.1 + (((((y20.1 :: [])).drop (0 : Nat)).take (1 : Nat))).length))) :: [])).drop (0 : Nat)).take (1 : Nat))).length) < bigL)) <|
 .ni (z19.2.2.2.2.1 + (1 : Int)) <|
 .br (decide ((z19.2.2.2.2.1 + (1 : Int)) < z19.2.2.2.1)) (
 .nb (z19.2.2.2.2.1 + (1 : Int)) (((z19.2.2.1).length : Nat) : Int) <|
 .bd (FH77 (ar0.bits Go.AM.IBin.andNot Go.IntKind.u64 z19.2.2.2.2.2.2.2.2.1 z19.2.1)) fun y21 =>
 .bd (g29_1m3 (z19.1, (z19.2.1, (z19.2.2.1, (z19.2.2.2.1, ((z19.2.2.2.2.1 + (1 : Int)), (z19.2.2.2.2.2.1, (z19.2.2.2.2.2.2.1, (z19.2.2.2.2.2.2.2.1, (z19.2.2.2.2.2.2.2.2.1, ((z19.2.2.2.2.2.2.2.2.2.1 + ((((((z19.2.2.2.2.2.2.2.2.2.2.2.2.1, (((((((z19.2.2.2.2.2.2.2.2.2.2.2.2.2.2.2.1).drop (0 : Nat)).take z19.2.2.2.2.2.2.2.2.2.2.2.2.2.1) ++ ((((y20.1 :: [])).drop (0 : Nat)).take (1 : Nat)))).drop (0 : Nat)).take (z19.2.2.2.2.2.2.2.2.2.2.2.2.2.1 + (((((y20.1 :: [])).drop (0 : Nat)).take (1 : Nat))).length))) :: [])).drop (0 : Nat)).take (1 : Nat))).length), (((z19.2.2.1).getD (Int.toNat (z19.2.2.2.2.1 + (1 : Int))) ((0 : Int), [])).1, (((z19.2.2.1).getD (Int.toNat (z19.2.2.2.2.1 + (1 : Int))) ((0 : Int), [])).2, (((z19.2.2.1).getD (Int.toNat (z19.2.2.2.2.1 + (1 : Int))) ((0 : Int), [])).1, (y21.1, (((((z19.2.2.2.2.2.2.2.2.2.2.2.2.2.2.1).drop (0 : Nat)).take z19.2.2.2.2.2.2.2.2.2.1) ++ (((((z19.2.2.2.2.2.2.2.2.2.2.2.2.1, (((((((z19.2.2.2.2.2.2.2.2.2.2.2.2.2.2.2.1).drop (0 : Nat)).take z19.2.2.2.2.2.2.2.2.2.2.2.2.2.1) ++ ((((y20.1 :: [])).drop (0 : Nat)).take (1 : Nat)))).drop (0 : Nat)).take (z19.2.2.2.2.2.2.2.2.2.2.2.2.2.1 + (((((y20.1 :: [])).drop (0 : Nat)).take (1 : Nat))).length))) :: [])).drop (0 : Nat)).take (1 : Nat))), ())))))))))))))))) fun z24 =>
 .bd (F78 (z24.2.2.2.2.2.2.2.2.2.2.1, z24.2.2.2.2.2.2.2.2.2.2.2.1) z24.2.1) fun y25 =>
 .br (decide ((1000000 : Int) < y25.1)) (
 .ret (([], ()), ((10 : Int), ()))) (
 .nd (decide ((z24.2.2.2.2.2.2.2.2.2.2.2.2.2.1 + (((((y25.1 :: [])).drop (0 : Nat)).take (1 : Nat))).length) < bigL)) <|
 .nd (decide ((z24.2.2.2.2.2.2.2.2.2.1 + ((((((z24.2.2.2.2.2.2.2.2.2.2.2.2.1, (((((((z24.2.2.2.2.2.2.2.2.2.2.2.2.2.2.2.1).drop (0 : Nat)).take z24.2.2.2.2.2.2.2.2.2.2.2.2.2.1) ++ ((((y25.1 :: [])).drop (0 : Nat)).take (1 : Nat)))).drop (0 : Nat)).take (z24.2.2.2.2.2.2.2.2.2.2.2.2.2.1 + (((((y25.1 :: [])).drop (0 : Nat)).take (1 : Nat))).length))) :: [])).drop (0 : Nat)).take (1 : Nat))).length) < bigL)) <|
 .ni (z24.2.2.2.2.1 + (1 : Int)) <|
 .no)) (
 .ret (((((((((z19.2.2.2.2.2.2.2.2.2.2.2.2.2.2.1).drop (0 : Nat)).take z19.2.2.2.2.2.2.2.2.2.1) ++ (((((z19.2.2.2.2.2.2.2.2.2.2.2.2.1, (((((((z19.2.2.2.2.2.2.2.2.2.2.2.2.2.2.2.1).drop (0 : Nat)).take z19.2.2.2.2.2.2.2.2.2.2.2.2.2.1) ++ ((((y20.1 :: [])).drop (0 : Nat)).take (1 : Nat)))).drop (0 : Nat)).take (z19.2.2.2.2.2.2.2.2.2.2.2.2.2.1 + (((((y20.1 :: [])).drop (0 : Nat)).take (1 : Nat))).length))) :: [])).drop (0 : Nat)).take (1 : Nat)))).drop (0 : Nat)).take (z19.2.2.2.2.2.2.2.2.2.1 + ((((((z19.2.2.2.2.2.2.2.2.2.2.2.2.1, (((((((z19.2.2.2.2.2.2.2.2.2.2.2.2.2.2.2.1).drop (0 : Nat)).take z19.2.2.2.2.2.2.2.2.2.2.2.2.2.1) ++ ((((y20.1 :: [])).drop (0 : Nat)).take (1 : Nat)))).drop (0 : Nat)).take (z19.2.2.2.2.2.2.2.2.2.2.2.2.2.1 + (((((y20.1 :: [])).drop (0 : Nat)).take (1 : Nat))).length))) :: [])).drop (0 : Nat)).take (1 : Nat))).length)), ()), ((0 : Int), ()))))) (
 .ret (((((((((z14.2.2.2.2.2.2.2.2.2.2.2.2.2.2.1).drop (0 : Nat)).take z14.2.2.2.2.2.2.2.2.2.1) ++ (((((z14.2.2.2.2.2.2.2.2.2.2.2.2.1, (((((((z14.2.2.2.2.2.2.2.2.2.2.2.2.2.2.2.1).drop (0 : Nat)).take z14.2.2.2.2.2.2.2.2.2.2.2.2.2.1) ++ ((((y15.1 :: [])).drop (0 : Nat)).take (1 : Nat)))).drop (0 : Nat)).take (z14.2.2.2.2.2.2.2.2.2.2.2.2.2.1 + (((((y15.1 :: [])).drop (0 : Nat)).take (1 : Nat))).length))) :: [])).drop (0 : Nat)).take (1 : Nat)))).drop (0 : Nat)).take (z14.2.2.2.2.2.2.2.2.2.1 + ((((((z14.2.2.2.2.2.2.2.2.2.2.2.2.1, (((((((z14.2.2.2.2.2.2.2.2.2.2.2.2.2.2.2.1).drop (0 : Nat)).take z14.2.2.2.2.2.2.2.2.2.2.2.2.2.1) ++ ((((y15.1 :: [])).drop (0 : Nat)).take (1 : Nat)))).drop (0 : Nat)).take (z14.2.2.2.2.2.2.2.2.2.2.2.2.2.1 + (((((y15.1 :: [])).drop (0 : Nat)).take (1 : Nat))).length))) :: [])).drop (0 : Nat)).take (1 : Nat))).length)), ()), ((0 : Int), ()))))) (
 .ret ((((((((((z9.2.2.2.2.2.2.2.2.2.2.2.1, (((((((z9.2.2.2.2.2.2.2.2.2.2.2.2.2.1).drop (0 : Nat)).take z9.2.2.2.2.2.2.2.2.2.2.2.2.1) ++ ((((y10.1 :: [])).drop (0 : Nat)).take (1 : Nat)))).drop (0 : Nat)).take (z9.2.2.2.2.2.2.2.2.2.2.2.2.1 + (((((y10.1 :: [])).drop (0 : Nat)).take (1 : Nat))).length))) :: [])).drop (0 : Nat)).take (1 : Nat))).drop (0 : Nat)).take ((((((z9.2.2.2.2.2.2.2.2.2.2.2.1, (((((((z9.2.2.2.2.2.2.2.2.2.2.2.2.2.1).drop (0 : Nat)).take z9.2.2.2.2.2.2.2.2.2.2.2.2.1) ++ ((((y10.1 :: [])).drop (0 : Nat)).take (1 : Nat)))).drop (0 : Nat)).take (z9.2.2.2.2.2.2.2.2.2.2.2.2.1 + (((((y10.1 :: [])).drop (0 : Nat)).take (1 : Nat))).length))) :: [])).drop (0 : Nat)).take (1 : Nat))).length), ()), ((0 : Int), ()))))) (
 .ret (([], ()), ((0 : Int), ()))))))
theorem c29_ok : trF prog f29 = some ⟨85, 2, dd29.er, [.cell 4 true 1, .t 5], [some (.prod (.list (.prod tI tL)) .unit), some tI]⟩ := by kernel_rfl
noncomputable def ct29 : Ct := ⟨29, [.agg [.hole (.list (.prod tI tL))], hL], .tup [.hole (.prod (.list (.prod tI tL)) .unit), .hole tI], fun x => run0 (F29 x.1 x.2.1)⟩
theorem ct29_ok : ct29.Ok prog := ct_ok mixed cx29_ok func29 c29_ok (enters_of func29 rfl rfl) dd29 (by kernel_rfl) rfl (fun x => by kernel_rfl)

/- 57 -/
noncomputable def cx57 : Cx := mkCxH [ct54, ct53] []
theorem cx57_ok : cx57.Ok prog := mkCxH_ok ⟨ct54_ok, ct53_ok, trivial⟩ trivial
noncomputable def dd57 : D prog 5 none 0 := dO [] (kd prog f57) 0
noncomputable def F57 : Tr0 (((List (Int × List Int)) × Unit) × Unit) :=
 .bd (F54 (60 : Int) (((((40 : Int) :: ((30 : Int) :: ((20 : Int) :: ((10 : Int) :: []))))).drop (0 : Nat)).take (4 : Nat))) fun y0 =>
 .bd (F53 (((((y0.1.1, y0.1.2) :: [])).drop (0 : Nat)).take (1 : Nat))) fun y1 =>
 .ret ((y1.1.1, ()), ())
theorem c57_ok : trF prog f57 = some ⟨5, 0, dd57.er, [.cell 0 true 1], [some (.prod (.list (.prod tI tL)) .unit)]⟩ := by kernel_rfl
noncomputable def ct57 : Ct := ⟨57, [], .c (.hole (.prod (.list (.prod tI tL)) .unit)), fun x => run0 (F57)⟩
theorem ct57_ok : ct57.Ok prog := ct_ok mixed cx57_ok func57 c57_ok (enters_of func57 rfl rfl) dd57 (by kernel_rfl) rfl (fun x => by kernel_rfl)

/- 80 -/
noncomputable def cx80 : Cx := mkCxH [ct66, ct67] []
theorem cx80_ok : cx80.Ok prog := mkCxH_ok ⟨ct66_ok, ct67_ok, trivial⟩ trivial
noncomputable def dd80 : D prog 27 none 0 := dO [] (kd prog f80) 0
noncomputable def F80 (a0_0 : List (Int × List Int)) (a1 : Int) : Tr0 (((List (Int × List Int)) × Int × Int × Int × Unit) ⊕ ((List (Int × List Int)) × (List (Int × List Int)) × Int × Int × Int × Unit)) :=
 .bd (F66 a0_0) fun y0 =>
 .sm y0 (fun y1 =>
 .br (y1.2.2.2.1 == (0 : Int)) (
 .ni ((((a0_0).length : Nat) : Int) - (1 : Int)) <|
 .bd (F67 (0 : Int) a1 ((((a0_0).length : Nat) : Int) - (1 : Int))) fun y2 =>
 .br (!y2.1) (
 .ret (.inl ([], ((0 : Int), ((0 : Int), ((17 : Int), ())))))) (
 .ret (.inl (y1.1, (y1.2.1, (y1.2.2.1, (y1.2.2.2.1, ()))))))) (
 .ret (.inl (y1.1, (y1.2.1, (y1.2.2.1, (y1.2.2.2.1, ()))))))) fun y3 =>
 .br (y3.2.2.2.2.1 == (0 : Int)) (
 .ni ((((a0_0).length : Nat) : Int) - (1 : Int)) <|
 .bd (F67 (0 : Int) a1 ((((a0_0).length : Nat) : Int) - (1 : Int))) fun y4 =>
 .br (!y4.1) (
 .ret (.inl ([], ((0 : Int), ((0 : Int), ((17 : Int), ())))))) (
 .ret (.inr (y3.1, (y3.2.1, (y3.2.2.1, (y3.2.2.2.1, (y3.2.2.2.2.1, ())))))))) (
 .ret (.inr (y3.1, (y3.2.1, (y3.2.2.1, (y3.2.2.2.1, (y3.2.2.2.2.1, ())))))))
theorem c80_ok : trF prog f80 = some ⟨27, 2, dd80.er, [.cell 4 true 4, .t 5], [some (.prod (.prod (.list (.prod tI tL)) .unit) (.prod (.ifc 55 true (.prod tI tL)) (.prod tI (.int .u64)))), some tI]⟩ := by kernel_rfl
noncomputable def ct80 : Ct := ⟨80, [.agg [.hole (.list (.prod tI tL))], hI], .alt [.aggs (.cons (.hole (.list (.prod tI tL))) (.cons .nili (.cons (.hole tI) (.cons (.hole (.int .u64)) .nil)))), .hole tI] [.aggs (.cons (.hole (.list (.prod tI tL))) (.cons (.ifcs 132 false (.cons (.hole (.list (.ifc 55 true (.prod tI tL)))) .nil)) (.cons (.hole tI) (.cons (.hole (.int .u64)) .nil)))), .hole tI], fun x => run0 (F80 x.1 x.2.1)⟩
theorem ct80_ok : ct80.Ok prog := ct_ok mixed cx80_ok func80 c80_ok (enters_of func80 rfl rfl) dd80 (by kernel_rfl) rfl (fun x => by kernel_rfl)

/- 31 -/
noncomputable def cx31 : Cx := mkCxH [ct80, ct67, ct81, ct82, ct90, ct74, ct78, ct83, ct84, ct82_v1] []
theorem cx31_ok : cx31.Ok prog := mkCxH_ok ⟨ct80_ok, ct67_ok, ct81_ok, ct82_ok, ct90_ok, ct74_ok, ct78_ok, ct83_ok, ct84_ok, ct82_v1_ok, trivial⟩ trivial
noncomputable def ad31_0 : D prog 79 (some 6) 7 := dO [] (pick (kd prog f31) [(0, false)]) 0
noncomputable def bd31_0 : D prog 79 (some 6) 7 := dO [] (pick (kd prog f31) [(0, true)]) 0
noncomputable def cx31_0i : Cx := itCx cx31 (fun kz => rdK kz cx31 ar0 6 7 [48] (ad31_0) (bd31_0))
theorem cx31_0i_ok : (cx31_0i).Ok prog := itCx_ok cx31_ok (fun h => rdK_ok mixed cx31_ok h)
@[reducible] def p31_0i_0 : Pat := Pat.mk [(0, .c (.yl 6)), (1, .c (.ipcs (.cons (.hole (.list (.prod tI tL))) (.cons (.ifcs 132 false (.cons (.hole (.list (.ifc 55 true (.prod tI tL)))) .nil)) (.cons (.hole tI) (.cons (.hole (.int .u64)) .nil)))))), (2, .c (.ipc tL)), (4, .c (.hole (.int .u64)))] [(6, .loop .ready none 5 [(5, .c (.ptr 0 0)), (6, .c (.ptr 1 0)), (7, hI), (10, .c (.ptr 2 0)), (11, .c (.ptr 3 0)), (12, .c (.ptr 4 0)), (47, .fn 102 [] [.ipcs (.cons (.hole (.list (.prod tI tL))) (.cons (.ifcs 132 false (.cons (.hole (.list (.ifc 55 true (.prod tI tL)))) .nil)) (.cons (.hole tI) (.cons (.hole (.int .u64)) .nil)))), .ipc tL])] [48] (.reg [.op (some 13) none (.mv (.t 48))]) (.block 2 (.seq (.reg [.op (some 49) none (.mv (.t 13)), .op (some 50) none (.load false 1 (.t 5)), .call (some 51) none (.c (.fn 74 [] [])) [.t 49, .t 50] [some (.int .u64), some tI], .op (some 14) none (.mv (.t 51))]) (.seq (.draw [[], [0], [], [], [2, 3], [0, 1, 2, 3, 4], [0, 1, 2, 3, 4, 5]] [.op (some 52) none (.fld 0 [false] (.t 10)), .op (some 53) none (.load false 1 (.t 52)), .op (some 54) none (.load true 2 (.t 10)), .op (some 55) none (.mv (.t 13)), .call (some 56) none (.c (.fn 78 [] [])) [.t 54, .t 55] [some (.prod tI tL), some (.int .u64)], .op (some 57) none (.bin .sub (.t 53) (.t 56)), .op (some 15) none (.mv (.t 57))]) (.block 3 (.seq (.reg [.op (some 65) none (.load false 1 (.t 11)), .op (some 66) none (.mv (.t 14)), .call (some 67) none (.c (.fn 83 [] [])) [.t 65, .t 66] [some (.list (.ifc 55 true (.prod tI tL))), some (.int .u64)], .op (some 68) none (.not (.t 67)), .op (some 64) none (.mv (.t 68))]) (.cond (.t 64) .skip (.seq (.reg [.op (some 70) none (.load true 2 (.t 10)), .op (some 71) none (.mv (.t 14)), .call (some 72) none (.c (.fn 84 [] [])) [.t 70, .t 71] [some (.prod tI tL), some (.int .u64)], .op (some 69) none (.mv (.t 72))]) (.cond (.t 69) (.reg [.op (some 73) none (.fld 0 [false] (.t 12)), .op (some 74) none (.load false 1 (.t 73)), .op (some 75) none (.mv (.t 15)), .op (some 76) none (.minmax true (.t 74) [.t 75]), .op (some 77) none (.fld 0 [false] (.t 12)), .op none none (.store 1 (.t 77) (.t 76))]) (.reg [.op (some 58) none (.fld 1 [true] (.t 12)), .op (some 59) none (.load false 1 (.t 58)), .op (some 60) none (.mv (.t 15)), .op (some 61) none (.bin .sub (.t 60) (.c (.int .i64 (Int.ofNat 1)))), .op (some 62) none (.minmax false (.t 59) [.t 61]), .op (some 63) none (.fld 1 [true] (.t 12)), .op none none (.store 1 (.t 63) (.t 62))]))))))))) 79), (5, .dfr), (0, .cells [.hole tI] false), (1, .cells [.hole tI, .hole tI] false), (2, .cells [.hole tI, .hole tL] false), (3, .cells [.hole (.list (.ifc 55 true (.prod tI tL)))] false), (4, .cells [.hole tI, .hole tI] false)] [] []
@[reducible] def x31_0i_0 : Outs := [(.exit 0, Pat.mk [] [(0, .cells [.hole tI] false), (1, .cells [.hole tI, .hole tI] false), (2, .cells [.hole tI, .hole tL] false), (3, .cells [.hole (.list (.ifc 55 true (.prod tI tL)))] false), (4, .cells [.hole tI, .hole tI] false), (5, .dfr), (6, .loop .ready none 5 [(5, .c (.ptr 0 0)), (6, .c (.ptr 1 0)), (7, hI), (10, .c (.ptr 2 0)), (11, .c (.ptr 3 0)), (12, .c (.ptr 4 0)), (47, .fn 102 [] [.ipcs (.cons (.hole (.list (.prod tI tL))) (.cons (.ifcs 132 false (.cons (.hole (.list (.ifc 55 true (.prod tI tL)))) .nil)) (.cons (.hole tI) (.cons (.hole (.int .u64)) .nil)))), .ipc tL])] [48] (.reg [.op (some 13) none (.mv (.t 48))]) (.block 2 (.seq (.reg [.op (some 49) none (.mv (.t 13)), .op (some 50) none (.load false 1 (.t 5)), .call (some 51) none (.c (.fn 74 [] [])) [.t 49, .t 50] [some (.int .u64), some tI], .op (some 14) none (.mv (.t 51))]) (.seq (.draw [[], [0], [], [], [2, 3], [0, 1, 2, 3, 4], [0, 1, 2, 3, 4, 5]] [.op (some 52) none (.fld 0 [false] (.t 10)), .op (some 53) none (.load false 1 (.t 52)), .op (some 54) none (.load true 2 (.t 10)), .op (some 55) none (.mv (.t 13)), .call (some 56) none (.c (.fn 78 [] [])) [.t 54, .t 55] [some (.prod tI tL), some (.int .u64)], .op (some 57) none (.bin .sub (.t 53) (.t 56)), .op (some 15) none (.mv (.t 57))]) (.block 3 (.seq (.reg [.op (some 65) none (.load false 1 (.t 11)), .op (some 66) none (.mv (.t 14)), .call (some 67) none (.c (.fn 83 [] [])) [.t 65, .t 66] [some (.list (.ifc 55 true (.prod tI tL))), some (.int .u64)], .op (some 68) none (.not (.t 67)), .op (some 64) none (.mv (.t 68))]) (.cond (.t 64) .skip (.seq (.reg [.op (some 70) none (.load true 2 (.t 10)), .op (some 71) none (.mv (.t 14)), .call (some 72) none (.c (.fn 84 [] [])) [.t 70, .t 71] [some (.prod tI tL), some (.int .u64)], .op (some 69) none (.mv (.t 72))]) (.cond (.t 69) (.reg [.op (some 73) none (.fld 0 [false] (.t 12)), .op (some 74) none (.load false 1 (.t 73)), .op (some 75) none (.mv (.t 15)), .op (some 76) none (.minmax true (.t 74) [.t 75]), .op (some 77) none (.fld 0 [false] (.t 12)), .op none none (.store 1 (.t 77) (.t 76))]) (.reg [.op (some 58) none (.fld 1 [true] (.t 12)), .op (some 59) none (.load false 1 (.t 58)), .op (some 60) none (.mv (.t 15)), .op (some 61) none (.bin .sub (.t 60) (.c (.int .i64 (Int.ofNat 1)))), .op (some 62) none (.minmax false (.t 59) [.t 61]), .op (some 63) none (.fld 1 [true] (.t 12)), .op none none (.store 1 (.t 63) (.t 62))]))))))))) 79)] [] [])]
noncomputable def b31_0i_0 : D prog 22 none 7 := dO [] (pick (kd prog f102) [(0, false)]) 0
noncomputable def g31_0i_0 : (List (Int × List Int)) × (List (Int × List Int)) × Int × Int × List Int × Int × Int × (List (Int × List Int)) × (List (Int × List Int)) × Int × Int × List Int × Int × Int × Int × Int × List Int × (List (Int × List Int)) × Int × Int × Unit → Tr0 (((List (Int × List Int)) × (List (Int × List Int)) × Int × Int × List Int × Int × Int × (List (Int × List Int)) × (List (Int × List Int)) × Int × Int × List Int × Int × Int × Int × Int × List Int × (List (Int × List Int)) × Int × Int × Unit) ⊕ ((Int × Int × Int × Int × List Int × (List (Int × List Int)) × Int × Int × Int × (List (Int × List Int)) × (List (Int × List Int)) × Int × Int × List Int × Unit))) := fun (v1c0, v1c1c0, v1c2, v1c3, v2, v4, w7, w47_0c0, w47_0c1c0, w47_0c2, w47_0c3, w47_1, c0_0, c1_0, c1_1, c2_0, c2_1, c3_0, c4_0, c4_1, _) =>
 .br (decide (v4 ≤ v1c3)) (
 .bd (F90 v4 v2) fun y5 =>
 .br (v4 == y5.1) (
 .bd (F74 v4 c0_0) fun y6 =>
 .bd (F78 (c2_0, c2_1) v4) fun y7 =>
 .ni (c2_0 - y7.1) <|
 .bd (F83 c3_0 y6.1) fun y8 =>
 .br (!y8.1) (
 .nd (rng .u64 (v4 + (1 : Int))) <|
 .ret (.inl (v1c0, (v1c1c0, (v1c2, (v1c3, (v2, ((v4 + (1 : Int)), (w7, (w47_0c0, (w47_0c1c0, (w47_0c2, (w47_0c3, (w47_1, (c0_0, (c1_0, (c1_1, (c2_0, (c2_1, (c3_0, (c4_0, (c4_1, ())))))))))))))))))))))) (
 .bd (F84 (c2_0, c2_1) y6.1) fun y9 =>
 .br y9.1 (
 .nd (rng .u64 (v4 + (1 : Int))) <|
 .ret (.inl (v1c0, (v1c1c0, (v1c2, (v1c3, (v2, ((v4 + (1 : Int)), (w7, (w47_0c0, (w47_0c1c0, (w47_0c2, (w47_0c3, (w47_1, (c0_0, (c1_0, (c1_1, (c2_0, (c2_1, (c3_0, ((imax c4_0 (c2_0 - y7.1)), (c4_1, ())))))))))))))))))))))) (
 .ni ((c2_0 - y7.1) - (1 : Int)) <|
 .nd (rng .u64 (v4 + (1 : Int))) <|
 .ret (.inl (v1c0, (v1c1c0, (v1c2, (v1c3, (v2, ((v4 + (1 : Int)), (w7, (w47_0c0, (w47_0c1c0, (w47_0c2, (w47_0c3, (w47_1, (c0_0, (c1_0, (c1_1, (c2_0, (c2_1, (c3_0, (c4_0, ((imin c4_1 ((c2_0 - y7.1) - (1 : Int))), ())))))))))))))))))))))))) (
 .nd (rng .u64 (v4 + (1 : Int))) <|
 .ret (.inl (v1c0, (v1c1c0, (v1c2, (v1c3, (v2, ((v4 + (1 : Int)), (w7, (w47_0c0, (w47_0c1c0, (w47_0c2, (w47_0c3, (w47_1, (c0_0, (c1_0, (c1_1, (c2_0, (c2_1, (c3_0, (c4_0, (c4_1, ()))))))))))))))))))))))) (
 .ret (.inr (c0_0, (c1_0, (c1_1, (c2_0, (c2_1, (c3_0, (c4_0, (c4_1, (w7, (w47_0c0, (w47_0c1c0, (w47_0c2, (w47_0c3, (w47_1, ()))))))))))))))))
theorem s31_0i_0 : ∀ x, roundE (kzO (p31_0i_0.T ⊕ x31_0i_0.T)) cx31_0i ar0 [0, 1, 2, 3, 4, 5, 6] p31_0i_0 x31_0i_0 (b31_0i_0) (fun y => some (.inl y)) (fun b => some (.inr b)) x = run0 (g31_0i_0 x) := fun x => by kernel_rfl
noncomputable def L31_0i_0 : LoopS prog 22 none 7 := mkLoop mixed cx31_0i cx31_0i_ok [0, 1, 2, 3, 4, 5, 6] rfl p31_0i_0 x31_0i_0 rfl (b31_0i_0) (fun x => run0 (g31_0i_0 x)) (s31_0i_0)
@[reducible] def p31_0 : Pat := Pat.mk [(5, .c (.ptr 0 0)), (6, .c (.ptr 1 0)), (7, hI), (10, .c (.ptr 2 0)), (11, .c (.ptr 3 0)), (12, .c (.ptr 4 0)), (47, .fn 102 [] [.ipcs (.cons (.hole (.list (.prod tI tL))) (.cons (.ifcs 132 false (.cons (.hole (.list (.ifc 55 true (.prod tI tL)))) .nil)) (.cons (.hole tI) (.cons (.hole (.int .u64)) .nil)))), .ipc tL])] [(0, .cells [.hole tI] false), (1, .cells [.hole tI, .hole tI] false), (2, .cells [.hole tI, .hole tL] false), (3, .cells [.hole (.list (.ifc 55 true (.prod tI tL)))] false), (4, .cells [.hole tI, .hole tI] false)] [.slot 5, .slot 6, .slot 10, .slot 11, .slot 12] []
@[reducible] def x31_0 : Outs := [(.normal, Pat.mk [(6, .c (.ptr 0 0)), (12, .c (.ptr 1 0))] [(0, .cells [.hole tI, .hole tI] false), (1, .cells [.hole tI, .hole tI] false), (2, .dfr)] [.slot 6, .slot 12, .mark 0] [2])]
noncomputable def b31_0i : D prog 22 none 7 := dO [.l L31_0i_0] (kd prog f102) 0
theorem ci31_0 : trF prog f102 = some ⟨22, 3, (b31_0i).er, [], []⟩ := by kernel_rfl
noncomputable def g31_0 : Int × (List (Int × List Int)) × (List (Int × List Int)) × Int × Int × List Int × Int × Int × Int × Int × List Int × (List (Int × List Int)) × Int × Int × Unit → Tr0 ((Int × Int × Int × Int × Unit)) := fun (v7, v47_0c0, v47_0c1c0, v47_0c2, v47_0c3, v47_1, c0_0, c1_0, c1_1, c2_0, c2_1, c3_0, c4_0, c4_1, _) =>
 .bd (.it g31_0i_0 (v47_0c0, (v47_0c1c0, (v47_0c2, (v47_0c3, (v47_1, ((0 : Int), (v7, (v47_0c0, (v47_0c1c0, (v47_0c2, (v47_0c3, (v47_1, (c0_0, (c1_0, (c1_1, (c2_0, (c2_1, (c3_0, (c4_0, (c4_1, ()))))))))))))))))))))) fun z10 =>
 .ret ((z10.2.1, (z10.2.2.1, (z10.2.2.2.2.2.2.1, (z10.2.2.2.2.2.2.2.1, ())))))
theorem s31_0 : ∀ x, rangeE (N := 79) (out := none) (base := 0) (kzO x31_0.T) cx31_0i ar0 [] p31_0 x31_0 ( .t 47) [48] (ad31_0).er (bd31_0).er [] 3 102 (b31_0i) some x = run0 (g31_0 x) := fun x => by kernel_rfl
noncomputable def R31_0 : RangeS prog 79 none 0 := mkRange mixed cx31_0i cx31_0i_ok [] rfl p31_0 x31_0 ( .t 47) [48] rfl (ad31_0).er (bd31_0).er 102 func102 (ci31_0) (enters_of func102 rfl rfl) 7 rfl (b31_0i) rfl (fun x => run0 (g31_0 x)) (s31_0)
noncomputable def dd31 : D prog 79 none 0 := dO [.r R31_0] (kd prog f31) 0
noncomputable def F31 (a0_0 : List (Int × List Int)) (a1 : Int) (a2 : Int) : Tr0 ((Int × Int) × Int × Unit) :=
 .bd (F80 a0_0 a1) fun y0 =>
 .sm y0 (fun y1 =>
 .br (!(y1.2.2.2.1 == (0 : Int))) (
 .ret (((0 : Int), (0 : Int)), (y1.2.2.2.1, ()))) (
 .ni (y1.2.1 - (1 : Int)) <|
 .bd (F67 (0 : Int) a2 (y1.2.1 - (1 : Int))) fun y2 =>
 .br (!y2.1) (
 .ret (((0 : Int), (0 : Int)), ((5 : Int), ()))) (
 .nb a1 (((a0_0).length : Nat) : Int) <|
 .bd (F81 a0_0 a1) fun y3 =>
 .bd (F82 y1.1 y1.2.1 y1.2.2.1 ((((a2 :: [])).drop (0 : Nat)).take (1 : Nat))) fun y4 =>
 .no))) fun y11 =>
 .br (!(y11.2.2.2.2.1 == (0 : Int))) (
 .ret (((0 : Int), (0 : Int)), (y11.2.2.2.2.1, ()))) (
 .ni (y11.2.2.1 - (1 : Int)) <|
 .bd (F67 (0 : Int) a2 (y11.2.2.1 - (1 : Int))) fun y12 =>
 .br (!y12.1) (
 .ret (((0 : Int), (0 : Int)), ((5 : Int), ()))) (
 .nb a1 (((a0_0).length : Nat) : Int) <|
 .bd (F81 a0_0 a1) fun y13 =>
 .bd (F82_v1 y11.1 y11.2.1 y11.2.2.1 y11.2.2.2.1 ((((a2 :: [])).drop (0 : Nat)).take (1 : Nat))) fun y14 =>
 .bd (g31_0 ((0 : Int), (y14.1, (y14.2.1, (y14.2.2.1, (y14.2.2.2.1, (y14.2.2.2.2.1, (a2, ((0 : Int), ((0 : Int), (((a0_0).getD (Int.toNat a1) ((0 : Int), [])).1, (((a0_0).getD (Int.toNat a1) ((0 : Int), [])).2, (y13.1, ((0 : Int), ((1000000 : Int), ()))))))))))))))) fun z15 =>
 .ret ((z15.2.2.1, z15.2.2.2.1), ((0 : Int), ()))))
theorem c31_ok : trF prog f31 = some ⟨79, 3, dd31.er, [.cell 6 true 2, .t 7], [some (.prod tI tI), some tI]⟩ := by kernel_rfl
noncomputable def ct31 : Ct := ⟨31, [.agg [.hole (.list (.prod tI tL))], hI, hI], .tup [.hole (.prod tI tI), .hole tI], fun x => run0 (F31 x.1 x.2.1 x.2.2.1)⟩
theorem ct31_ok : ct31.Ok prog := ct_ok mixed cx31_ok func31 c31_ok (enters_of func31 rfl rfl) dd31 (by kernel_rfl) rfl (fun x => by kernel_rfl)

/- 33 -/
noncomputable def cx33 : Cx := mkCxH [ct80, ct81, ct82, ct90, ct83, ct84, ct78, ct82_v1] []
theorem cx33_ok : cx33.Ok prog := mkCxH_ok ⟨ct80_ok, ct81_ok, ct82_ok, ct90_ok, ct83_ok, ct84_ok, ct78_ok, ct82_v1_ok, trivial⟩ trivial
noncomputable def ad33_0 : D prog 59 (some 5) 6 := dO [] (pick (kd prog f33) [(0, false)]) 0
noncomputable def bd33_0 : D prog 59 (some 5) 6 := dO [] (pick (kd prog f33) [(0, true)]) 0
noncomputable def cx33_0i : Cx := itCx cx33 (fun kz => rdK kz cx33 ar0 5 6 [33] (ad33_0) (bd33_0))
theorem cx33_0i_ok : (cx33_0i).Ok prog := itCx_ok cx33_ok (fun h => rdK_ok mixed cx33_ok h)
@[reducible] def p33_0i_0 : Pat := Pat.mk [(0, .c (.yl 5)), (1, .c (.ipcs (.cons (.hole (.list (.prod tI tL))) (.cons (.ifcs 132 false (.cons (.hole (.list (.ifc 55 true (.prod tI tL)))) .nil)) (.cons (.hole tI) (.cons (.hole (.int .u64)) .nil)))))), (2, .c (.ipc tL)), (4, .c (.hole (.int .u64)))] [(5, .loop .ready none 4 [(4, .c (.ptr 0 0)), (5, hI), (8, .c (.ptr 1 0)), (9, .c (.ptr 2 0)), (10, .c (.ptr 3 0)), (32, .fn 102 [] [.ipcs (.cons (.hole (.list (.prod tI tL))) (.cons (.ifcs 132 false (.cons (.hole (.list (.ifc 55 true (.prod tI tL)))) .nil)) (.cons (.hole tI) (.cons (.hole (.int .u64)) .nil)))), .ipc tL])] [33] (.reg [.op (some 11) none (.mv (.t 33))]) (.block 1 (.block 2 (.seq (.reg [.op (some 43) none (.load false 1 (.t 9)), .op (some 44) none (.mv (.t 11)), .call (some 45) none (.c (.fn 83 [] [])) [.t 43, .t 44] [some (.list (.ifc 55 true (.prod tI tL))), some (.int .u64)], .op (some 46) none (.not (.t 45)), .op (some 42) none (.mv (.t 46))]) (.cond (.t 42) .skip (.seq (.reg [.op (some 48) none (.load true 2 (.t 8)), .op (some 49) none (.mv (.t 11)), .call (some 50) none (.c (.fn 84 [] [])) [.t 48, .t 49] [some (.prod tI tL), some (.int .u64)], .op (some 47) none (.mv (.t 50))]) (.cond (.t 47) (.draw [[], [0], [], [], [2, 3], [0, 1, 2, 3, 4], [0, 1, 2, 3, 4, 5], [0, 1, 2, 3, 4, 5, 6]] [.op (some 51) none (.fld 1 [true] (.t 10)), .op (some 52) none (.load false 1 (.t 51)), .op (some 53) none (.load true 2 (.t 8)), .op (some 54) none (.mv (.t 11)), .call (some 55) none (.c (.fn 78 [] [])) [.t 53, .t 54] [some (.prod tI tL), some (.int .u64)], .op (some 56) none (.minmax false (.t 52) [.t 55]), .op (some 57) none (.fld 1 [true] (.t 10)), .op none none (.store 1 (.t 57) (.t 56))]) (.draw [[], [0], [], [], [2, 3], [2, 3, 4], [0, 1, 2, 3, 4, 5], [0, 1, 2, 3, 4, 5, 6], [0, 1, 2, 3, 4, 5, 6, 7]] [.op (some 34) none (.fld 0 [false] (.t 10)), .op (some 35) none (.load false 1 (.t 34)), .op (some 36) none (.load true 2 (.t 8)), .op (some 37) none (.mv (.t 11)), .call (some 38) none (.c (.fn 78 [] [])) [.t 36, .t 37] [some (.prod tI tL), some (.int .u64)], .op (some 39) none (.bin .add (.t 38) (.c (.int .i64 (Int.ofNat 1)))), .op (some 40) none (.minmax true (.t 35) [.t 39]), .op (some 41) none (.fld 0 [false] (.t 10)), .op none none (.store 1 (.t 41) (.t 40))]))))))) 59), (4, .dfr), (0, .cells [.hole tI, .hole tI] false), (1, .cells [.hole tI, .hole tL] false), (2, .cells [.hole (.list (.ifc 55 true (.prod tI tL)))] false), (3, .cells [.hole tI, .hole tI] false)] [] []
@[reducible] def x33_0i_0 : Outs := [(.exit 0, Pat.mk [] [(0, .cells [.hole tI, .hole tI] false), (1, .cells [.hole tI, .hole tL] false), (2, .cells [.hole (.list (.ifc 55 true (.prod tI tL)))] false), (3, .cells [.hole tI, .hole tI] false), (4, .dfr), (5, .loop .ready none 4 [(4, .c (.ptr 0 0)), (5, hI), (8, .c (.ptr 1 0)), (9, .c (.ptr 2 0)), (10, .c (.ptr 3 0)), (32, .fn 102 [] [.ipcs (.cons (.hole (.list (.prod tI tL))) (.cons (.ifcs 132 false (.cons (.hole (.list (.ifc 55 true (.prod tI tL)))) .nil)) (.cons (.hole tI) (.cons (.hole (.int .u64)) .nil)))), .ipc tL])] [33] (.reg [.op (some 11) none (.mv (.t 33))]) (.block 1 (.block 2 (.seq (.reg [.op (some 43) none (.load false 1 (.t 9)), .op (some 44) none (.mv (.t 11)), .call (some 45) none (.c (.fn 83 [] [])) [.t 43, .t 44] [some (.list (.ifc 55 true (.prod tI tL))), some (.int .u64)], .op (some 46) none (.not (.t 45)), .op (some 42) none (.mv (.t 46))]) (.cond (.t 42) .skip (.seq (.reg [.op (some 48) none (.load true 2 (.t 8)), .op (some 49) none (.mv (.t 11)), .call (some 50) none (.c (.fn 84 [] [])) [.t 48, .t 49] [some (.prod tI tL), some (.int .u64)], .op (some 47) none (.mv (.t 50))]) (.cond (.t 47) (.draw [[], [0], [], [], [2, 3], [0, 1, 2, 3, 4], [0, 1, 2, 3, 4, 5], [0, 1, 2, 3, 4, 5, 6]] [.op (some 51) none (.fld 1 [true] (.t 10)), .op (some 52) none (.load false 1 (.t 51)), .op (some 53) none (.load true 2 (.t 8)), .op (some 54) none (.mv (.t 11)), .call (some 55) none (.c (.fn 78 [] [])) [.t 53, .t 54] [some (.prod tI tL), some (.int .u64)], .op (some 56) none (.minmax false (.t 52) [.t 55]), .op (some 57) none (.fld 1 [true] (.t 10)), .op none none (.store 1 (.t 57) (.t 56))]) (.draw [[], [0], [], [], [2, 3], [2, 3, 4], [0, 1, 2, 3, 4, 5], [0, 1, 2, 3, 4, 5, 6], [0, 1, 2, 3, 4, 5, 6, 7]] [.op (some 34) none (.fld 0 [false] (.t 10)), .op (some 35) none (.load false 1 (.t 34)), .op (some 36) none (.load true 2 (.t 8)), .op (some 37) none (.mv (.t 11)), .call (some 38) none (.c (.fn 78 [] [])) [.t 36, .t 37] [some (.prod tI tL), some (.int .u64)], .op (some 39) none (.bin .add (.t 38) (.c (.int .i64 (Int.ofNat 1)))), .op (some 40) none (.minmax true (.t 35) [.t 39]), .op (some 41) none (.fld 0 [false] (.t 10)), .op none none (.store 1 (.t 41) (.t 40))]))))))) 59)] [] [])]
noncomputable def b33_0i_0 : D prog 22 none 6 := dO [] (pick (kd prog f102) [(0, false)]) 0
noncomputable def g33_0i_0 : (List (Int × List Int)) × (List (Int × List Int)) × Int × Int × List Int × Int × Int × (List (Int × List Int)) × (List (Int × List Int)) × Int × Int × List Int × Int × Int × Int × List Int × (List (Int × List Int)) × Int × Int × Unit → Tr0 (((List (Int × List Int)) × (List (Int × List Int)) × Int × Int × List Int × Int × Int × (List (Int × List Int)) × (List (Int × List Int)) × Int × Int × List Int × Int × Int × Int × List Int × (List (Int × List Int)) × Int × Int × Unit) ⊕ ((Int × Int × Int × List Int × (List (Int × List Int)) × Int × Int × Int × (List (Int × List Int)) × (List (Int × List Int)) × Int × Int × List Int × Unit))) := fun (v1c0, v1c1c0, v1c2, v1c3, v2, v4, w5, w32_0c0, w32_0c1c0, w32_0c2, w32_0c3, w32_1, c0_0, c0_1, c1_0, c1_1, c2_0, c3_0, c3_1, _) =>
 .br (decide (v4 ≤ v1c3)) (
 .bd (F90 v4 v2) fun y4 =>
 .br (v4 == y4.1) (
 .bd (F83 c2_0 v4) fun y5 =>
 .br (!y5.1) (
 .nd (rng .u64 (v4 + (1 : Int))) <|
 .ret (.inl (v1c0, (v1c1c0, (v1c2, (v1c3, (v2, ((v4 + (1 : Int)), (w5, (w32_0c0, (w32_0c1c0, (w32_0c2, (w32_0c3, (w32_1, (c0_0, (c0_1, (c1_0, (c1_1, (c2_0, (c3_0, (c3_1, ()))))))))))))))))))))) (
 .bd (F84 (c1_0, c1_1) v4) fun y6 =>
 .br y6.1 (
 .bd (F78 (c1_0, c1_1) v4) fun y7 =>
 .nd (rng .u64 (v4 + (1 : Int))) <|
 .ret (.inl (v1c0, (v1c1c0, (v1c2, (v1c3, (v2, ((v4 + (1 : Int)), (w5, (w32_0c0, (w32_0c1c0, (w32_0c2, (w32_0c3, (w32_1, (c0_0, (c0_1, (c1_0, (c1_1, (c2_0, (c3_0, ((imin c3_1 y7.1), ()))))))))))))))))))))) (
 .bd (F78 (c1_0, c1_1) v4) fun y8 =>
 .ni (y8.1 + (1 : Int)) <|
 .nd (rng .u64 (v4 + (1 : Int))) <|
 .ret (.inl (v1c0, (v1c1c0, (v1c2, (v1c3, (v2, ((v4 + (1 : Int)), (w5, (w32_0c0, (w32_0c1c0, (w32_0c2, (w32_0c3, (w32_1, (c0_0, (c0_1, (c1_0, (c1_1, (c2_0, ((imax c3_0 (y8.1 + (1 : Int))), (c3_1, ()))))))))))))))))))))))) (
 .nd (rng .u64 (v4 + (1 : Int))) <|
 .ret (.inl (v1c0, (v1c1c0, (v1c2, (v1c3, (v2, ((v4 + (1 : Int)), (w5, (w32_0c0, (w32_0c1c0, (w32_0c2, (w32_0c3, (w32_1, (c0_0, (c0_1, (c1_0, (c1_1, (c2_0, (c3_0, (c3_1, ())))))))))))))))))))))) (
 .ret (.inr (c0_0, (c0_1, (c1_0, (c1_1, (c2_0, (c3_0, (c3_1, (w5, (w32_0c0, (w32_0c1c0, (w32_0c2, (w32_0c3, (w32_1, ())))))))))))))))
theorem s33_0i_0 : ∀ x, roundE (kzO (p33_0i_0.T ⊕ x33_0i_0.T)) cx33_0i ar0 [0, 1, 2, 3, 4, 5] p33_0i_0 x33_0i_0 (b33_0i_0) (fun y => some (.inl y)) (fun b => some (.inr b)) x = run0 (g33_0i_0 x) := fun x => by kernel_rfl
noncomputable def L33_0i_0 : LoopS prog 22 none 6 := mkLoop mixed cx33_0i cx33_0i_ok [0, 1, 2, 3, 4, 5] rfl p33_0i_0 x33_0i_0 rfl (b33_0i_0) (fun x => run0 (g33_0i_0 x)) (s33_0i_0)
@[reducible] def p33_0 : Pat := Pat.mk [(4, .c (.ptr 0 0)), (5, hI), (8, .c (.ptr 1 0)), (9, .c (.ptr 2 0)), (10, .c (.ptr 3 0)), (32, .fn 102 [] [.ipcs (.cons (.hole (.list (.prod tI tL))) (.cons (.ifcs 132 false (.cons (.hole (.list (.ifc 55 true (.prod tI tL)))) .nil)) (.cons (.hole tI) (.cons (.hole (.int .u64)) .nil)))), .ipc tL])] [(0, .cells [.hole tI, .hole tI] false), (1, .cells [.hole tI, .hole tL] false), (2, .cells [.hole (.list (.ifc 55 true (.prod tI tL)))] false), (3, .cells [.hole tI, .hole tI] false)] [.slot 4, .slot 8, .slot 9, .slot 10] []
@[reducible] def x33_0 : Outs := [(.normal, Pat.mk [(4, .c (.ptr 0 0)), (10, .c (.ptr 1 0))] [(0, .cells [.hole tI, .hole tI] false), (1, .cells [.hole tI, .hole tI] false), (2, .dfr)] [.slot 4, .slot 10, .mark 0] [2])]
noncomputable def b33_0i : D prog 22 none 6 := dO [.l L33_0i_0] (kd prog f102) 0
theorem ci33_0 : trF prog f102 = some ⟨22, 3, (b33_0i).er, [], []⟩ := by kernel_rfl
noncomputable def g33_0 : Int × (List (Int × List Int)) × (List (Int × List Int)) × Int × Int × List Int × Int × Int × Int × List Int × (List (Int × List Int)) × Int × Int × Unit → Tr0 ((Int × Int × Int × Int × Unit)) := fun (v5, v32_0c0, v32_0c1c0, v32_0c2, v32_0c3, v32_1, c0_0, c0_1, c1_0, c1_1, c2_0, c3_0, c3_1, _) =>
 .bd (.it g33_0i_0 (v32_0c0, (v32_0c1c0, (v32_0c2, (v32_0c3, (v32_1, ((0 : Int), (v5, (v32_0c0, (v32_0c1c0, (v32_0c2, (v32_0c3, (v32_1, (c0_0, (c0_1, (c1_0, (c1_1, (c2_0, (c3_0, (c3_1, ())))))))))))))))))))) fun z9 =>
 .ret ((z9.1, (z9.2.1, (z9.2.2.2.2.2.1, (z9.2.2.2.2.2.2.1, ())))))
theorem s33_0 : ∀ x, rangeE (N := 59) (out := none) (base := 0) (kzO x33_0.T) cx33_0i ar0 [] p33_0 x33_0 ( .t 32) [33] (ad33_0).er (bd33_0).er [] 3 102 (b33_0i) some x = run0 (g33_0 x) := fun x => by kernel_rfl
noncomputable def R33_0 : RangeS prog 59 none 0 := mkRange mixed cx33_0i cx33_0i_ok [] rfl p33_0 x33_0 ( .t 32) [33] rfl (ad33_0).er (bd33_0).er 102 func102 (ci33_0) (enters_of func102 rfl rfl) 6 rfl (b33_0i) rfl (fun x => run0 (g33_0 x)) (s33_0)
noncomputable def dd33 : D prog 59 none 0 := dO [.r R33_0] (kd prog f33) 0
noncomputable def F33 (a0_0 : List (Int × List Int)) (a1 : Int) : Tr0 ((Int × Int) × Int × Unit) :=
 .bd (F80 a0_0 a1) fun y0 =>
 .sm y0 (fun y1 =>
 .br (!(y1.2.2.2.1 == (0 : Int))) (
 .ret (((0 : Int), (0 : Int)), (y1.2.2.2.1, ()))) (
 .nb a1 (((a0_0).length : Nat) : Int) <|
 .bd (F81 a0_0 a1) fun y2 =>
 .bd (F82 y1.1 y1.2.1 y1.2.2.1 []) fun y3 =>
 .no)) fun y10 =>
 .br (!(y10.2.2.2.2.1 == (0 : Int))) (
 .ret (((0 : Int), (0 : Int)), (y10.2.2.2.2.1, ()))) (
 .nb a1 (((a0_0).length : Nat) : Int) <|
 .bd (F81 a0_0 a1) fun y11 =>
 .bd (F82_v1 y10.1 y10.2.1 y10.2.2.1 y10.2.2.2.1 []) fun y12 =>
 .bd (g33_0 ((0 : Int), (y12.1, (y12.2.1, (y12.2.2.1, (y12.2.2.2.1, (y12.2.2.2.2.1, ((0 : Int), ((0 : Int), (((a0_0).getD (Int.toNat a1) ((0 : Int), [])).1, (((a0_0).getD (Int.toNat a1) ((0 : Int), [])).2, (y11.1, ((1 : Int), ((10000000 : Int), ())))))))))))))) fun z13 =>
 .ret ((z13.2.2.1, z13.2.2.2.1), ((0 : Int), ())))
theorem c33_ok : trF prog f33 = some ⟨59, 2, dd33.er, [.cell 4 true 2, .t 5], [some (.prod tI tI), some tI]⟩ := by kernel_rfl
noncomputable def ct33 : Ct := ⟨33, [.agg [.hole (.list (.prod tI tL))], hI], .tup [.hole (.prod tI tI), .hole tI], fun x => run0 (F33 x.1 x.2.1)⟩
theorem ct33_ok : ct33.Ok prog := ct_ok mixed cx33_ok func33 c33_ok (enters_of func33 rfl rfl) dd33 (by kernel_rfl) rfl (fun x => by kernel_rfl)

/- 16 -/
noncomputable def cx16 : Cx := mkCxH [ct52, ct46, ct54, ct53, ct37, ct18, ct55, ct20, ct49, ct22, ct23, ct56, ct25, ct27, ct29, ct57, ct31, ct33] []
theorem cx16_ok : cx16.Ok prog := mkCxH_ok ⟨ct52_ok, ct46_ok, ct54_ok, ct53_ok, ct37_ok, ct18_ok, ct55_ok, ct20_ok, ct49_ok, ct22_ok, ct23_ok, ct56_ok, ct25_ok, ct27_ok, ct29_ok, ct57_ok, ct31_ok, ct33_ok, trivial⟩ trivial
noncomputable def dd16 : D prog 194 none 0 := dO [] (kd prog f16) 0
noncomputable def F16 : Tr0 (Bool × Unit) :=
 .bd (F52) fun y0 =>
 .bd (F46 y0.1.1) fun y1 =>
 .bd (F54 (3 : Int) (((((1 : Int) :: ((1 : Int) :: ((1 : Int) :: ((0 : Int) :: []))))).drop (0 : Nat)).take (4 : Nat))) fun y2 =>
 .bd (F53 (((((y2.1.1, y2.1.2) :: [])).drop (0 : Nat)).take (1 : Nat))) fun y3 =>
 .bd (F37 y3.1.1) fun y4 =>
 .bd (F52) fun y5 =>
 .bd (F18 y5.1.1) fun y6 =>
 .bd (F55) fun y7 =>
 .bd (F20 y7.1.1) fun y8 =>
 .br (!(y1.2.1 == (0 : Int))) (
 .ret (false, ())) (
 .br (!(y4.2.1 == (0 : Int))) (
 .ret (false, ())) (
 .br (!(y6.2.1 == (0 : Int))) (
 .ret (false, ())) (
 .br (!(y8.2.1 == (0 : Int))) (
 .ret (false, ())) (
 .bd (F49 y1.1 (((((((((0 : Int) :: ((1 : Int) :: []))).drop (0 : Nat)).take (2 : Nat)) :: ((((((0 : Int) :: ((2 : Int) :: []))).drop (0 : Nat)).take (2 : Nat)) :: ((((((1 : Int) :: ((2 : Int) :: ((3 : Int) :: [])))).drop (0 : Nat)).take (3 : Nat)) :: [])))).drop (0 : Nat)).take (3 : Nat))) fun y9 =>
 .br (!y9.1) (
 .ret (false, ())) (
 .bd (F22 y4.1 (((((2 : Int) :: ((2 : Int) :: ((2 : Int) :: ((1 : Int) :: []))))).drop (0 : Nat)).take (4 : Nat))) fun y10 =>
 .br (!y10.1) (
 .ret (false, ())) (
 .bd (F22 y6.1 (((((5 : Int) :: ((3 : Int) :: ((3 : Int) :: ((1 : Int) :: []))))).drop (0 : Nat)).take (4 : Nat))) fun y11 =>
 .br (!y11.1) (
 .ret (false, ())) (
 .bd (F22 y8.1 (((((10 : Int) :: ((10 : Int) :: ((2 : Int) :: ((2 : Int) :: []))))).drop (0 : Nat)).take (4 : Nat))) fun y12 =>
 .br (!y12.1) (
 .ret (false, ())) (
 .bd (F52) fun y13 =>
 .bd (F23 y13.1.1 (3 : Int) (2 : Int)) fun y14 =>
 .bd (F56) fun y15 =>
 .bd (F23 y15.1.1 (0 : Int) (1 : Int)) fun y16 =>
 .bd (F56) fun y17 =>
 .bd (F25 y17.1.1) fun y18 =>
 .bd (F52) fun y19 =>
 .bd (F25 y19.1.1) fun y20 =>
 .br (!(y14.2.1 == (0 : Int))) (
 .ret (false, ())) (
 .br (!(y16.2.1 == (0 : Int))) (
 .ret (false, ())) (
 .br (!(y18.2.1 == (0 : Int))) (
 .ret (false, ())) (
 .br (!(y20.2.1 == (5 : Int))) (
 .ret (false, ())) (
 .br (!(y14.1 == (-1 : Int))) (
 .ret (false, ())) (
 .br (!(y16.1 == (2 : Int))) (
 .ret (false, ())) (
 .bd (F56) fun y21 =>
 .bd (F27 y21.1.1 (y18.1.1, (y18.1.2.1, (y18.1.2.2.1, y18.1.2.2.2)))) fun y22 =>
 .br (!(y22.1 == (0 : Int))) (
 .ret (false, ())) (
 .bd (F56) fun y23 =>
 .bd (F27 y23.1.1 ((0 : Int), ((1 : Int), ((((((3 : Int) :: [])).drop (0 : Nat)).take (1 : Nat)), (((((2 : Int) :: [])).drop (0 : Nat)).take (1 : Nat)))))) fun y24 =>
 .br (!(y24.1 == (0 : Int))) (
 .ret (false, ())) (
 .bd (F52) fun y25 =>
 .bd (F29 y25.1.1 (((((2 : Int) :: ((3 : Int) :: []))).drop (0 : Nat)).take (2 : Nat))) fun y26 =>
 .bd (F57) fun y27 =>
 .bd (F31 y27.1.1 (0 : Int) (0 : Int)) fun y28 =>
 .bd (F57) fun y29 =>
 .bd (F33 y29.1.1 (0 : Int)) fun y30 =>
 .br (y26.2.1 == (0 : Int)) (
 .br (y28.2.1 == (0 : Int)) (
 .br (y30.2.1 == (0 : Int)) (
 .br ((((y26.1.1).length : Nat) : Int) == (1 : Int)) (
 .nb (0 : Int) (((y26.1.1).length : Nat) : Int) <|
 .br (((y26.1.1).getD (Int.toNat (0 : Int)) ((0 : Int), [])).1 == (6 : Int)) (
 .nb (0 : Int) (((y26.1.1).length : Nat) : Int) <|
 .bd (F22 ((y26.1.1).getD (Int.toNat (0 : Int)) ((0 : Int), [])).2 (((((4 : Int) :: ((3 : Int) :: ((3 : Int) :: [])))).drop (0 : Nat)).take (3 : Nat))) fun y31 =>
 .br y31.1 (
 .br ((y28.1.1 == (40 : Int)) && ((y28.1.2 == (49 : Int)) && true)) (
 .ret (((y30.1.1 == (51 : Int)) && ((y30.1.2 == (60 : Int)) && true)), ())) (
 .ret (false, ()))) (
 .ret (false, ()))) (
 .ret (false, ()))) (
 .ret (false, ()))) (
 .ret (false, ()))) (
 .ret (false, ()))) (
 .ret (false, ()))))))))))))))))))
theorem c16_ok : trF prog f16 = some ⟨194, 0, dd16.er, [.t 0], [some .bool]⟩ := by kernel_rfl
noncomputable def ct16 : Ct := ⟨16, [], .c (.hole .bool), fun x => run0 (F16)⟩
theorem ct16_ok : ct16.Ok prog := ct_ok mixed cx16_ok func16 c16_ok (enters_of func16 rfl rfl) dd16 (by kernel_rfl) rfl (fun x => by kernel_rfl)

/- 17 -/
noncomputable def cx17 : Cx := mkCxH [] []
theorem cx17_ok : cx17.Ok prog := mkCxH_ok trivial trivial
@[reducible] def p17_0 : Pat := Pat.mk [(1, .c (.ptr 0 0)), (2, .c (.ptr 1 0)), (3, .c (.ptr 2 0)), (4, hI)] [(0, .cells [.hole (.list (.prod tI tL))] false), (1, .cells [.nsl] false), (2, .cells [.sl0 3 (.prod tI tL)] false), (3, .arr (.prod tI tL) false)] [.slot 1, .slot 2, .slot 3, .cell 2 0] []
@[reducible] def x17_0 : Outs := [(.exit 0, Pat.mk [(2, .c (.ptr 0 0)), (3, .c (.ptr 1 0))] [(0, .cells [.nsl] false), (1, .cells [.sl0 2 (.prod tI tL)] false), (2, .arr (.prod tI tL) false)] [.slot 2, .slot 3, .cell 1 0] [])]
noncomputable def b17_0 : D prog 23 none 0 := dO [] (pick (kd prog f17) [(0, false)]) 0
noncomputable def g17_0 : Int × (List (Int × List Int)) × Nat × (List (Int × List Int)) × Unit → Tr0 ((Int × (List (Int × List Int)) × Nat × (List (Int × List Int)) × Unit) ⊕ ((Nat × (List (Int × List Int)) × Unit))) := fun (v4, c0_0, nc2_0, b3, _) =>
 .br (decide (v4 < (((c0_0).length : Nat) : Int))) (
 .nb v4 (((c0_0).length : Nat) : Int) <|
 .nd (decide ((nc2_0 + ((((((((c0_0).getD (Int.toNat v4) ((0 : Int), [])).1, ((c0_0).getD (Int.toNat v4) ((0 : Int), [])).2) :: [])).drop (0 : Nat)).take (1 : Nat))).length) < bigL)) <|
 .ni (v4 + (1 : Int)) <|
 .ret (.inl ((v4 + (1 : Int)), (c0_0, ((nc2_0 + ((((((((c0_0).getD (Int.toNat v4) ((0 : Int), [])).1, ((c0_0).getD (Int.toNat v4) ((0 : Int), [])).2) :: [])).drop (0 : Nat)).take (1 : Nat))).length), (((((b3).drop (0 : Nat)).take nc2_0) ++ (((((((c0_0).getD (Int.toNat v4) ((0 : Int), [])).1, ((c0_0).getD (Int.toNat v4) ((0 : Int), [])).2) :: [])).drop (0 : Nat)).take (1 : Nat))), ())))))) (
 .ret (.inr (nc2_0, (b3, ()))))
theorem s17_0 : ∀ x, roundE (kzO (p17_0.T ⊕ x17_0.T)) cx17 ar0 [] p17_0 x17_0 (b17_0) (fun y => some (.inl y)) (fun b => some (.inr b)) x = run0 (g17_0 x) := fun x => by kernel_rfl
noncomputable def L17_0 : LoopS prog 23 none 0 := mkLoop mixed cx17 cx17_ok [] rfl p17_0 x17_0 rfl (b17_0) (fun x => run0 (g17_0 x)) (s17_0)
noncomputable def dd17 : D prog 23 none 0 := dO [.l L17_0] (kd prog f17) 0
noncomputable def F17 (a0_0 : List (Int × List Int)) : Tr0 (((List (Int × List Int)) × Unit) × Unit) :=
 .bd (.it g17_0 ((0 : Int), (a0_0, ((0 : Nat), ([], ()))))) fun z0 =>
 .ret (((((z0.2.1).drop (0 : Nat)).take z0.1), ()), ())
theorem c17_ok : trF prog f17 = some ⟨23, 1, dd17.er, [.cell 2 true 1], [some (.prod (.list (.prod tI tL)) .unit)]⟩ := by kernel_rfl
noncomputable def ct17 : Ct := ⟨17, [.agg [.hole (.list (.prod tI tL))]], .c (.hole (.prod (.list (.prod tI tL)) .unit)), fun x => run0 (F17 x.1)⟩
theorem ct17_ok : ct17.Ok prog := ct_ok mixed cx17_ok func17 c17_ok (enters_of func17 rfl rfl) dd17 (by kernel_rfl) rfl (fun x => by kernel_rfl)

/- 60 -/
noncomputable def cx60 : Cx := mkCxH [] []
theorem cx60_ok : cx60.Ok prog := mkCxH_ok trivial trivial
noncomputable def dd60 : D prog 9 none 0 := dO [] (kd prog f60) 0
noncomputable def F60 (a0_0 : List (Int × List Int)) : Tr0 (Int × Unit) :=
 .nb (0 : Int) (((a0_0).length : Nat) : Int) <|
 .ret ((((((a0_0).getD (Int.toNat (0 : Int)) ((0 : Int), [])).2).length : Nat) : Int), ())
theorem c60_ok : trF prog f60 = some ⟨9, 1, dd60.er, [.t 2], [some tI]⟩ := by kernel_rfl
noncomputable def ct60 : Ct := ⟨60, [.agg [.hole (.list (.prod tI tL))]], hI, fun x => run0 (F60 x.1)⟩
theorem ct60_ok : ct60.Ok prog := ct_ok mixed cx60_ok func60 c60_ok (enters_of func60 rfl rfl) dd60 (by kernel_rfl) rfl (fun x => by kernel_rfl)

/- 69 -/
noncomputable def cx69 : Cx := mkCxH [] []
theorem cx69_ok : cx69.Ok prog := mkCxH_ok trivial trivial
noncomputable def dd69 : D prog 15 none 0 := dO [] (kd prog f69) 0
noncomputable def F69 (a0 : Int) (a1 : Int) (a2 : Int) : Tr0 (Bool × Unit) :=
 .br (decide (a1 ≤ a0)) (
 .ret ((decide (a0 ≤ a2)), ())) (
 .ret (false, ()))
theorem c69_ok : trF prog f69 = some ⟨15, 3, dd69.er, [.t 6], [some .bool]⟩ := by kernel_rfl
noncomputable def ct69 : Ct := ⟨69, [hI, hI, hI], .c (.hole .bool), fun x => run0 (F69 x.1 x.2.1 x.2.2.1)⟩
theorem ct69_ok : ct69.Ok prog := ct_ok mixed cx69_ok func69 c69_ok (enters_of func69 rfl rfl) dd69 (by kernel_rfl) rfl (fun x => by kernel_rfl)

/- 50 -/
noncomputable def cx50 : Cx := mkCxH [ct60, ct69] []
theorem cx50_ok : cx50.Ok prog := mkCxH_ok ⟨ct60_ok, ct69_ok, trivial⟩ trivial
@[reducible] def p50_1 : Pat := Pat.mk [(1, .c (.ptr 0 0)), (3, hI), (4, .c (.ptr 1 0)), (5, hI)] [(0, .cells [.hole (.list (.prod tI tL))] false), (1, .cells [.hole tI, .hole tL] false)] [.slot 1, .slot 4] []
@[reducible] def x50_1 : Outs := [(.ret, Pat.mk [(2, hI)] [] [] []), (.exit 2, Pat.mk [(1, .c (.ptr 0 0)), (3, hI)] [(0, .cells [.hole (.list (.prod tI tL))] false)] [.slot 1] [])]
noncomputable def b50_1 : D prog 56 none 0 := dO [] (pick (kd prog f50) [(0, false), (0, false)]) 0
noncomputable def g50_1 : Int × Int × (List (Int × List Int)) × Int × List Int × Unit → Tr0 ((Int × Int × (List (Int × List Int)) × Int × List Int × Unit) ⊕ ((Int × Unit) ⊕ ((Int × (List (Int × List Int)) × Unit)))) := fun (v3, v5, c0_0, c1_0, c1_1, _) =>
 .br (decide (v5 < (((c1_1).length : Nat) : Int))) (
 .nb v5 (((c1_1).length : Nat) : Int) <|
 .bd (F69 ((c1_1).getD (Int.toNat v5) (0 : Int)) (0 : Int) (1000000 : Int)) fun y4 =>
 .br (!y4.1) (
 .ret (.inr <| .inl <| ((2 : Int), ()))) (
 .ni (v5 + (1 : Int)) <|
 .ret (.inl (v3, ((v5 + (1 : Int)), (c0_0, (c1_0, (c1_1, ())))))))) (
 .ret (.inr <| .inr <| (v3, (c0_0, ()))))
theorem s50_1 : ∀ x, roundE (kzO (p50_1.T ⊕ x50_1.T)) cx50 ar0 [] p50_1 x50_1 (b50_1) (fun y => some (.inl y)) (fun b => some (.inr b)) x = run0 (g50_1 x) := fun x => by kernel_rfl
noncomputable def L50_1 : LoopS prog 56 none 0 := mkLoop mixed cx50 cx50_ok [] rfl p50_1 x50_1 rfl (b50_1) (fun x => run0 (g50_1 x)) (s50_1)
@[reducible] def p50_0 : Pat := Pat.mk [(1, .c (.ptr 0 0)), (3, hI)] [(0, .cells [.hole (.list (.prod tI tL))] false)] [.slot 1] []
@[reducible] def x50_0 : Outs := [(.ret, Pat.mk [(2, hI)] [] [] []), (.exit 0, Pat.mk [] [] [] [])]
noncomputable def b50_0 : D prog 56 none 0 := dO [.l L50_1] (pick (kd prog f50) [(0, false)]) 0
noncomputable def g50_0 : Int × (List (Int × List Int)) × Unit → Tr0 ((Int × (List (Int × List Int)) × Unit) ⊕ ((Int × Unit) ⊕ ((Unit)))) := fun (v3, c0_0, _) =>
 .br (decide (v3 < (((c0_0).length : Nat) : Int))) (
 .nb v3 (((c0_0).length : Nat) : Int) <|
 .bd (F60 c0_0) fun y2 =>
 .br (!((((((c0_0).getD (Int.toNat v3) ((0 : Int), [])).2).length : Nat) : Int) == y2.1)) (
 .ret (.inr <| .inl <| ((3 : Int), ()))) (
 .bd (F69 ((c0_0).getD (Int.toNat v3) ((0 : Int), [])).1 (1 : Int) (10000000 : Int)) fun y3 =>
 .br (!y3.1) (
 .ret (.inr <| .inl <| ((2 : Int), ()))) (
 .bd (.it g50_1 (v3, ((0 : Int), (c0_0, (((c0_0).getD (Int.toNat v3) ((0 : Int), [])).1, (((c0_0).getD (Int.toNat v3) ((0 : Int), [])).2, ())))))) fun z5 =>
 .sm z5 (fun z6 =>
 .ret (.inr <| .inl <| (z6.1, ()))) fun z7 =>
 .ni (z7.1 + (1 : Int)) <|
 .ret (.inl ((z7.1 + (1 : Int)), (z7.2.1, ())))))) (
 .ret (.inr <| .inr <| ()))
theorem s50_0 : ∀ x, roundE (kzO (p50_0.T ⊕ x50_0.T)) cx50 ar0 [] p50_0 x50_0 (b50_0) (fun y => some (.inl y)) (fun b => some (.inr b)) x = run0 (g50_0 x) := fun x => by kernel_rfl
noncomputable def L50_0 : LoopS prog 56 none 0 := mkLoop mixed cx50 cx50_ok [] rfl p50_0 x50_0 rfl (b50_0) (fun x => run0 (g50_0 x)) (s50_0)
noncomputable def dd50 : D prog 56 none 0 := dO [.l L50_0] (kd prog f50) 0
noncomputable def F50 (a0_0 : List (Int × List Int)) : Tr0 (Int × Unit) :=
 .br ((((a0_0).length : Nat) : Int) == (0 : Int)) (
 .ret ((4 : Int), ())) (
 .br (decide ((3 : Int) < (((a0_0).length : Nat) : Int))) (
 .ret ((1 : Int), ())) (
 .bd (F60 a0_0) fun y0 =>
 .br (y0.1 == (0 : Int)) (
 .ret ((4 : Int), ())) (
 .bd (F60 a0_0) fun y1 =>
 .br (decide ((9 : Int) < y1.1)) (
 .ret ((1 : Int), ())) (
 .bd (.it g50_0 ((0 : Int), (a0_0, ()))) fun z8 =>
 .sm z8 (fun z9 =>
 .ret (z9.1, ())) fun z10 =>
 .ret ((0 : Int), ())))))
theorem c50_ok : trF prog f50 = some ⟨56, 1, dd50.er, [.t 2], [some tI]⟩ := by kernel_rfl
noncomputable def ct50 : Ct := ⟨50, [.agg [.hole (.list (.prod tI tL))]], hI, fun x => run0 (F50 x.1)⟩
theorem ct50_ok : ct50.Ok prog := ct_ok mixed cx50_ok func50 c50_ok (enters_of func50 rfl rfl) dd50 (by kernel_rfl) rfl (fun x => by kernel_rfl)

/- 79 -/
noncomputable def cx79 : Cx := mkCxH [] []
theorem cx79_ok : cx79.Ok prog := mkCxH_ok trivial trivial
@[reducible] def p79_0 : Pat := Pat.mk [(1, hI), (2, .c (.ptr 0 0)), (5, hI), (6, hI)] [(0, .cells [.hole tI, .hole tL] false)] [.slot 2] []
@[reducible] def x79_0 : Outs := [(.exit 0, Pat.mk [(5, hI)] [] [] [])]
noncomputable def b79_0 : D prog 27 none 0 := dO [] (pick (kd prog f79) [(0, false)]) 0
noncomputable def g79_0 : Int × Int × Int × Int × List Int × Unit → Tr0 ((Int × Int × Int × Int × List Int × Unit) ⊕ ((Int × Unit))) := fun (v1, v5, v6, c0_0, c0_1, _) =>
 .br (decide (v6 < (((c0_1).length : Nat) : Int))) (
 .nb v6 (64 : Int) <|
 .br ((ar0.bits Go.AM.IBin.and Go.IntKind.i64 (ar0.shr v1 v6) (1 : Int)) == (1 : Int)) (
 .nb v6 (((c0_1).length : Nat) : Int) <|
 .ni (v5 + ((c0_1).getD (Int.toNat v6) (0 : Int))) <|
 .ni (v6 + (1 : Int)) <|
 .ret (.inl (v1, ((v5 + ((c0_1).getD (Int.toNat v6) (0 : Int))), ((v6 + (1 : Int)), (c0_0, (c0_1, ()))))))) (
 .ni (v6 + (1 : Int)) <|
 .ret (.inl (v1, (v5, ((v6 + (1 : Int)), (c0_0, (c0_1, ())))))))) (
 .ret (.inr (v5, ())))
theorem s79_0 : ∀ x, roundE (kzO (p79_0.T ⊕ x79_0.T)) cx79 ar0 [] p79_0 x79_0 (b79_0) (fun y => some (.inl y)) (fun b => some (.inr b)) x = run0 (g79_0 x) := fun x => by kernel_rfl
noncomputable def L79_0 : LoopS prog 27 none 0 := mkLoop mixed cx79 cx79_ok [] rfl p79_0 x79_0 rfl (b79_0) (fun x => run0 (g79_0 x)) (s79_0)
noncomputable def dd79 : D prog 27 none 0 := dO [.l L79_0] (kd prog f79) 0
noncomputable def F79 (a0 : Int × List Int) (a1 : Int) : Tr0 (Int × Unit) :=
 .bd (.it g79_0 (a1, ((0 : Int), ((0 : Int), (a0.1, (a0.2, ())))))) fun z0 =>
 .ret (z0.1, ())
theorem c79_ok : trF prog f79 = some ⟨27, 2, dd79.er, [.t 4], [some tI]⟩ := by kernel_rfl
noncomputable def ct79 : Ct := ⟨79, [.c (.hole (.prod tI tL)), hI], hI, fun x => run0 (F79 x.1 x.2.1)⟩
theorem ct79_ok : ct79.Ok prog := ct_ok mixed cx79_ok func79 c79_ok (enters_of func79 rfl rfl) dd79 (by kernel_rfl) rfl (fun x => by kernel_rfl)

/- 86 -/
noncomputable def cx86 : Cx := mkCxH [ct79] []
theorem cx86_ok : cx86.Ok prog := mkCxH_ok ⟨ct79_ok, trivial⟩ trivial
@[reducible] def p86_0 : Pat := Pat.mk [(1, hI), (2, hI), (3, .c (.ptr 0 0)), (7, hI)] [(0, .cells [.hole (.list (.prod tI tL))] false)] [.slot 3] []
@[reducible] def x86_0 : Outs := [(.ret, Pat.mk [(6, .c (.tf false))] [] [] []), (.exit 0, Pat.mk [] [] [] [])]
noncomputable def b86_0 : D prog 34 none 0 := dO [] (pick (kd prog f86) [(0, false)]) 0
noncomputable def g86_0 : Int × Int × Int × (List (Int × List Int)) × Unit → Tr0 ((Int × Int × Int × (List (Int × List Int)) × Unit) ⊕ ((Unit) ⊕ ((Unit)))) := fun (v1, v2, v7, c0_0, _) =>
 .br (decide (v7 < (((c0_0).length : Nat) : Int))) (
 .br (!(v7 == v2)) (
 .nb v7 (((c0_0).length : Nat) : Int) <|
 .bd (F79 (((c0_0).getD (Int.toNat v7) ((0 : Int), [])).1, ((c0_0).getD (Int.toNat v7) ((0 : Int), [])).2) v1) fun y0 =>
 .nb v7 (((c0_0).length : Nat) : Int) <|
 .br (decide (y0.1 < ((c0_0).getD (Int.toNat v7) ((0 : Int), [])).1)) (
 .ret (.inr <| .inl <| ())) (
 .ni (v7 + (1 : Int)) <|
 .ret (.inl (v1, (v2, ((v7 + (1 : Int)), (c0_0, ()))))))) (
 .ni (v7 + (1 : Int)) <|
 .ret (.inl (v1, (v2, ((v7 + (1 : Int)), (c0_0, ()))))))) (
 .ret (.inr <| .inr <| ()))
theorem s86_0 : ∀ x, roundE (kzO (p86_0.T ⊕ x86_0.T)) cx86 ar0 [] p86_0 x86_0 (b86_0) (fun y => some (.inl y)) (fun b => some (.inr b)) x = run0 (g86_0 x) := fun x => by kernel_rfl
noncomputable def L86_0 : LoopS prog 34 none 0 := mkLoop mixed cx86 cx86_ok [] rfl p86_0 x86_0 rfl (b86_0) (fun x => run0 (g86_0 x)) (s86_0)
noncomputable def dd86 : D prog 34 none 0 := dO [.l L86_0] (kd prog f86) 0
noncomputable def F86 (a0_0 : List (Int × List Int)) (a1 : Int) (a2 : Int) : Tr0 (Bool × Unit) :=
 .bd (.it g86_0 (a1, (a2, ((0 : Int), (a0_0, ()))))) fun z1 =>
 .sm z1 (fun z2 =>
 .ret (false, ())) fun z3 =>
 .ret (true, ())
theorem c86_ok : trF prog f86 = some ⟨34, 3, dd86.er, [.t 6], [some .bool]⟩ := by kernel_rfl
noncomputable def ct86 : Ct := ⟨86, [.agg [.hole (.list (.prod tI tL))], hI, hI], .c (.hole .bool), fun x => run0 (F86 x.1 x.2.1 x.2.2.1)⟩
theorem ct86_ok : ct86.Ok prog := ct_ok mixed cx86_ok func86 c86_ok (enters_of func86 rfl rfl) dd86 (by kernel_rfl) rfl (fun x => by kernel_rfl)

/- 76 -/
noncomputable def cx76 : Cx := mkCxH [ct86] []
theorem cx76_ok : cx76.Ok prog := mkCxH_ok ⟨ct86_ok, trivial⟩ trivial
noncomputable def dd76 : D prog 8 none 0 := dO [] (kd prog f76) 0
noncomputable def F76 (a0_0 : List (Int × List Int)) (a1 : Int) : Tr0 (Bool × Unit) :=
 .bd (F86 a0_0 a1 (-1 : Int)) fun y0 =>
 .ret (y0.1, ())
theorem c76_ok : trF prog f76 = some ⟨8, 2, dd76.er, [.t 4], [some .bool]⟩ := by kernel_rfl
noncomputable def ct76 : Ct := ⟨76, [.agg [.hole (.list (.prod tI tL))], hI], .c (.hole .bool), fun x => run0 (F76 x.1 x.2.1)⟩
theorem ct76_ok : ct76.Ok prog := ct_ok mixed cx76_ok func76 c76_ok (enters_of func76 rfl rfl) dd76 (by kernel_rfl) rfl (fun x => by kernel_rfl)

/- 64 -/
noncomputable def cx64 : Cx := mkCxH [] []
theorem cx64_ok : cx64.Ok prog := mkCxH_ok trivial trivial
@[reducible] def p64_0 : Pat := Pat.mk [(0, hI), (3, .c (.sl0 0 tI)), (4, hI)] [(0, .arr tI false)] [.slot 3] []
@[reducible] def x64_0 : Outs := [(.exit 0, Pat.mk [(3, .c (.sl0 0 tI))] [(0, .arr tI false)] [.slot 3] [])]
noncomputable def b64_0 : D prog 19 none 0 := dO [] (pick (kd prog f64) [(0, false)]) 0
noncomputable def g64_0 : Int × Nat × Int × List Int × Unit → Tr0 ((Int × Nat × Int × List Int × Unit) ⊕ ((Nat × List Int × Unit))) := fun (v0, nv3, v4, b0, _) =>
 .br (decide (v4 < (9 : Int))) (
 .nb v4 (64 : Int) <|
 .br ((ar0.bits Go.AM.IBin.and Go.IntKind.i64 (ar0.shr v0 v4) (1 : Int)) == (1 : Int)) (
 .nd (decide ((nv3 + (((((v4 :: [])).drop (0 : Nat)).take (1 : Nat))).length) < bigL)) <|
 .ni (v4 + (1 : Int)) <|
 .ret (.inl (v0, ((nv3 + (((((v4 :: [])).drop (0 : Nat)).take (1 : Nat))).length), ((v4 + (1 : Int)), (((((b0).drop (0 : Nat)).take nv3) ++ ((((v4 :: [])).drop (0 : Nat)).take (1 : Nat))), ())))))) (
 .ni (v4 + (1 : Int)) <|
 .ret (.inl (v0, (nv3, ((v4 + (1 : Int)), (b0, ()))))))) (
 .ret (.inr (nv3, (b0, ()))))
theorem s64_0 : ∀ x, roundE (kzO (p64_0.T ⊕ x64_0.T)) cx64 ar0 [] p64_0 x64_0 (b64_0) (fun y => some (.inl y)) (fun b => some (.inr b)) x = run0 (g64_0 x) := fun x => by kernel_rfl
noncomputable def L64_0 : LoopS prog 19 none 0 := mkLoop mixed cx64 cx64_ok [] rfl p64_0 x64_0 rfl (b64_0) (fun x => run0 (g64_0 x)) (s64_0)
noncomputable def dd64 : D prog 19 none 0 := dO [.l L64_0] (kd prog f64) 0
noncomputable def F64 (a0 : Int) : Tr0 (List Int × Unit) :=
 .bd (.it g64_0 (a0, ((0 : Nat), ((0 : Int), ([], ()))))) fun z0 =>
 .ret ((((z0.2.1).drop (0 : Nat)).take z0.1), ())
theorem c64_ok : trF prog f64 = some ⟨19, 1, dd64.er, [.t 2], [some tL]⟩ := by kernel_rfl
noncomputable def ct64 : Ct := ⟨64, [hI], hL, fun x => run0 (F64 x.1)⟩
theorem ct64_ok : ct64.Ok prog := ct_ok mixed cx64_ok func64 c64_ok (enters_of func64 rfl rfl) dd64 (by kernel_rfl) rfl (fun x => by kernel_rfl)

/- 44 -/
noncomputable def cx44 : Cx := mkCxH [ct66, ct72, ct72_v1, ct83] []
theorem cx44_ok : cx44.Ok prog := mkCxH_ok ⟨ct66_ok, ct72_ok, ct72_v1_ok, ct83_ok, trivial⟩ trivial
noncomputable def dd44 : D prog 30 none 0 := dO [] (kd prog f44) 0
noncomputable def F44 (a0_0 : List (Int × List Int)) (a1 : List Int) : Tr0 (Bool × Int × Unit) :=
 .bd (F66 a0_0) fun y0 =>
 .sm y0 (fun y1 =>
 .br (!(y1.2.2.2.1 == (0 : Int))) (
 .ret (false, (y1.2.2.2.1, ()))) (
 .bd (F72 y1.1 y1.2.1 y1.2.2.1 a1) fun y2 =>
 .br (!(y2.2.1 == (0 : Int))) (
 .ret (false, (y2.2.1, ()))) (
 .no))) fun y3 =>
 .br (!(y3.2.2.2.2.1 == (0 : Int))) (
 .ret (false, (y3.2.2.2.2.1, ()))) (
 .bd (F72_v1 y3.1 y3.2.1 y3.2.2.1 y3.2.2.2.1 a1) fun y4 =>
 .br (!(y4.2.1 == (0 : Int))) (
 .ret (false, (y4.2.1, ()))) (
 .bd (F83 y3.2.1 y4.1) fun y5 =>
 .ret (y5.1, ((0 : Int), ()))))
theorem c44_ok : trF prog f44 = some ⟨30, 2, dd44.er, [.t 4, .t 5], [some .bool, some tI]⟩ := by kernel_rfl
noncomputable def ct44 : Ct := ⟨44, [.agg [.hole (.list (.prod tI tL))], hL], .tup [.hole .bool, .hole tI], fun x => run0 (F44 x.1 x.2.1)⟩
theorem ct44_ok : ct44.Ok prog := ct_ok mixed cx44_ok func44 c44_ok (enters_of func44 rfl rfl) dd44 (by kernel_rfl) rfl (fun x => by kernel_rfl)

/- 75 -/
noncomputable def cx75 : Cx := mkCxH [ct60, ct69] []
theorem cx75_ok : cx75.Ok prog := mkCxH_ok ⟨ct60_ok, ct69_ok, trivial⟩ trivial
@[reducible] def p75_0 : Pat := Pat.mk [(1, hL), (2, .c (.ptr 0 0)), (6, hI), (7, hI)] [(0, .cells [.hole (.list (.prod tI tL))] false)] [.slot 2] []
@[reducible] def x75_0 : Outs := [(.ret, Pat.mk [(4, hI), (5, hI)] [] [] []), (.exit 0, Pat.mk [(6, hI)] [] [] [])]
noncomputable def b75_0 : D prog 45 none 0 := dO [] (pick (kd prog f75) [(0, false)]) 0
noncomputable def g75_0 : List Int × Int × Int × (List (Int × List Int)) × Unit → Tr0 ((List Int × Int × Int × (List (Int × List Int)) × Unit) ⊕ ((Int × Int × Unit) ⊕ ((Int × Unit)))) := fun (v1, v6, v7, c0_0, _) =>
 .br (decide (v7 < (((v1).length : Nat) : Int))) (
 .nb v7 (((v1).length : Nat) : Int) <|
 .bd (F60 c0_0) fun y0 =>
 .ni (y0.1 - (1 : Int)) <|
 .bd (F69 ((v1).getD (Int.toNat v7) (0 : Int)) (0 : Int) (y0.1 - (1 : Int))) fun y1 =>
 .br (!y1.1) (
 .ret (.inr <| .inl <| ((0 : Int), ((5 : Int), ())))) (
 .br (decide ((0 : Int) < v7)) (
 .nb v7 (((v1).length : Nat) : Int) <|
 .ni (v7 - (1 : Int)) <|
 .nb (v7 - (1 : Int)) (((v1).length : Nat) : Int) <|
 .br (decide (((v1).getD (Int.toNat v7) (0 : Int)) ≤ ((v1).getD (Int.toNat (v7 - (1 : Int))) (0 : Int)))) (
 .ret (.inr <| .inl <| ((0 : Int), ((7 : Int), ())))) (
 .nb v7 (((v1).length : Nat) : Int) <|
 .nb ((v1).getD (Int.toNat v7) (0 : Int)) (64 : Int) <|
 .ni (ar0.shl (1 : Int) ((v1).getD (Int.toNat v7) (0 : Int))) <|
 .ni (v7 + (1 : Int)) <|
 .ret (.inl (v1, ((ar0.bits Go.AM.IBin.or Go.IntKind.i64 v6 (ar0.shl (1 : Int) ((v1).getD (Int.toNat v7) (0 : Int)))), ((v7 + (1 : Int)), (c0_0, ()))))))) (
 .nb v7 (((v1).length : Nat) : Int) <|
 .nb ((v1).getD (Int.toNat v7) (0 : Int)) (64 : Int) <|
 .ni (ar0.shl (1 : Int) ((v1).getD (Int.toNat v7) (0 : Int))) <|
 .ni (v7 + (1 : Int)) <|
 .ret (.inl (v1, ((ar0.bits Go.AM.IBin.or Go.IntKind.i64 v6 (ar0.shl (1 : Int) ((v1).getD (Int.toNat v7) (0 : Int)))), ((v7 + (1 : Int)), (c0_0, ())))))))) (
 .ret (.inr <| .inr <| (v6, ())))
theorem s75_0 : ∀ x, roundE (kzO (p75_0.T ⊕ x75_0.T)) cx75 ar0 [] p75_0 x75_0 (b75_0) (fun y => some (.inl y)) (fun b => some (.inr b)) x = run0 (g75_0 x) := fun x => by kernel_rfl
noncomputable def L75_0 : LoopS prog 45 none 0 := mkLoop mixed cx75 cx75_ok [] rfl p75_0 x75_0 rfl (b75_0) (fun x => run0 (g75_0 x)) (s75_0)
noncomputable def dd75 : D prog 45 none 0 := dO [.l L75_0] (kd prog f75) 0
noncomputable def F75 (a0_0 : List (Int × List Int)) (a1 : List Int) : Tr0 (Int × Int × Unit) :=
 .bd (.it g75_0 (a1, ((0 : Int), ((0 : Int), (a0_0, ()))))) fun z2 =>
 .sm z2 (fun z3 =>
 .ret (z3.1, (z3.2.1, ()))) fun z4 =>
 .ret (z4.1, ((0 : Int), ()))
theorem c75_ok : trF prog f75 = some ⟨45, 2, dd75.er, [.t 4, .t 5], [some tI, some tI]⟩ := by kernel_rfl
noncomputable def ct75 : Ct := ⟨75, [.agg [.hole (.list (.prod tI tL))], hL], .tup [.hole tI, .hole tI], fun x => run0 (F75 x.1 x.2.1)⟩
theorem ct75_ok : ct75.Ok prog := ct_ok mixed cx75_ok func75 c75_ok (enters_of func75 rfl rfl) dd75 (by kernel_rfl) rfl (fun x => by kernel_rfl)

/- 45 -/
noncomputable def cx45 : Cx := mkCxH [ct50, ct75, ct76] []
theorem cx45_ok : cx45.Ok prog := mkCxH_ok ⟨ct50_ok, ct75_ok, ct76_ok, trivial⟩ trivial
noncomputable def dd45 : D prog 25 none 0 := dO [] (kd prog f45) 0
noncomputable def F45 (a0_0 : List (Int × List Int)) (a1 : List Int) : Tr0 (Bool × Int × Unit) :=
 .bd (F50 a0_0) fun y0 =>
 .br (!(y0.1 == (0 : Int))) (
 .ret (false, (y0.1, ()))) (
 .bd (F75 a0_0 a1) fun y1 =>
 .br (!(y1.2.1 == (0 : Int))) (
 .ret (false, (y1.2.1, ()))) (
 .bd (F76 a0_0 y1.1) fun y2 =>
 .ret (y2.1, ((0 : Int), ()))))
theorem c45_ok : trF prog f45 = some ⟨25, 2, dd45.er, [.t 4, .t 5], [some .bool, some tI]⟩ := by kernel_rfl
noncomputable def ct45 : Ct := ⟨45, [.agg [.hole (.list (.prod tI tL))], hL], .tup [.hole .bool, .hole tI], fun x => run0 (F45 x.1 x.2.1)⟩
theorem ct45_ok : ct45.Ok prog := ct_ok mixed cx45_ok func45 c45_ok (enters_of func45 rfl rfl) dd45 (by kernel_rfl) rfl (fun x => by kernel_rfl)

/- 96 -/
noncomputable def cx96 : Cx := mkCxH [ct60, ct76] []
theorem cx96_ok : cx96.Ok prog := mkCxH_ok ⟨ct60_ok, ct76_ok, trivial⟩ trivial
@[reducible] def p96_0 : Pat := Pat.mk [(1, hI), (2, .c (.ptr 0 0)), (5, hI)] [(0, .cells [.hole (.list (.prod tI tL))] false)] [.slot 2] []
@[reducible] def x96_0 : Outs := [(.ret, Pat.mk [(4, .c (.tf false))] [] [] []), (.exit 0, Pat.mk [(1, hI), (2, .c (.ptr 0 0))] [(0, .cells [.hole (.list (.prod tI tL))] false)] [.slot 2] [])]
noncomputable def b96_0 : D prog 28 none 0 := dO [] (pick (kd prog f96) [(0, false)]) 0
noncomputable def g96_0 : Int × Int × (List (Int × List Int)) × Unit → Tr0 ((Int × Int × (List (Int × List Int)) × Unit) ⊕ ((Unit) ⊕ ((Int × (List (Int × List Int)) × Unit)))) := fun (v1, v5, c0_0, _) =>
 .bd (F60 c0_0) fun y0 =>
 .br (decide (v5 < y0.1)) (
 .nb v5 (64 : Int) <|
 .br ((ar0.bits Go.AM.IBin.and Go.IntKind.i64 (ar0.shr v1 v5) (1 : Int)) == (1 : Int)) (
 .nb v5 (64 : Int) <|
 .ni (ar0.shl (1 : Int) v5) <|
 .bd (F76 c0_0 (ar0.bits Go.AM.IBin.andNot Go.IntKind.i64 v1 (ar0.shl (1 : Int) v5))) fun y1 =>
 .br y1.1 (
 .ret (.inr <| .inl <| ())) (
 .ni (v5 + (1 : Int)) <|
 .ret (.inl (v1, ((v5 + (1 : Int)), (c0_0, ())))))) (
 .ni (v5 + (1 : Int)) <|
 .ret (.inl (v1, ((v5 + (1 : Int)), (c0_0, ())))))) (
 .ret (.inr <| .inr <| (v1, (c0_0, ()))))
theorem s96_0 : ∀ x, roundE (kzO (p96_0.T ⊕ x96_0.T)) cx96 ar0 [] p96_0 x96_0 (b96_0) (fun y => some (.inl y)) (fun b => some (.inr b)) x = run0 (g96_0 x) := fun x => by kernel_rfl
noncomputable def L96_0 : LoopS prog 28 none 0 := mkLoop mixed cx96 cx96_ok [] rfl p96_0 x96_0 rfl (b96_0) (fun x => run0 (g96_0 x)) (s96_0)
noncomputable def dd96 : D prog 28 none 0 := dO [.l L96_0] (kd prog f96) 0
noncomputable def F96 (a0_0 : List (Int × List Int)) (a1 : Int) : Tr0 (Bool × Unit) :=
 .bd (.it g96_0 (a1, ((0 : Int), (a0_0, ())))) fun z2 =>
 .sm z2 (fun z3 =>
 .ret (false, ())) fun z4 =>
 .bd (F76 z4.2.1 z4.1) fun y5 =>
 .ret (y5.1, ())
theorem c96_ok : trF prog f96 = some ⟨28, 2, dd96.er, [.t 4], [some .bool]⟩ := by kernel_rfl
noncomputable def ct96 : Ct := ⟨96, [.agg [.hole (.list (.prod tI tL))], hI], .c (.hole .bool), fun x => run0 (F96 x.1 x.2.1)⟩
theorem ct96_ok : ct96.Ok prog := ct_ok mixed cx96_ok func96 c96_ok (enters_of func96 rfl rfl) dd96 (by kernel_rfl) rfl (fun x => by kernel_rfl)

/- 97 -/
noncomputable def cx97 : Cx := mkCxH [] []
theorem cx97_ok : cx97.Ok prog := mkCxH_ok trivial trivial
@[reducible] def p97_0 : Pat := Pat.mk [(0, hL), (1, hL), (5, hI)] [] [] []
@[reducible] def x97_0 : Outs := [(.ret, Pat.mk [(4, .c (.hole .bool))] [] [] []), (.exit 0, Pat.mk [(0, hL), (1, hL)] [] [] [])]
noncomputable def b97_0 : D prog 41 none 0 := dO [] (pick (kd prog f97) [(0, false)]) 0
noncomputable def g97_0 : List Int × List Int × Int × Unit → Tr0 ((List Int × List Int × Int × Unit) ⊕ ((Bool × Unit) ⊕ ((List Int × List Int × Unit)))) := fun (v0, v1, v5, _) =>
 .br (decide (v5 < (((v0).length : Nat) : Int))) (
 .br (decide (v5 < (((v1).length : Nat) : Int))) (
 .nb v5 (((v0).length : Nat) : Int) <|
 .nb v5 (((v1).length : Nat) : Int) <|
 .br (!(((v0).getD (Int.toNat v5) (0 : Int)) == ((v1).getD (Int.toNat v5) (0 : Int)))) (
 .nb v5 (((v0).length : Nat) : Int) <|
 .nb v5 (((v1).length : Nat) : Int) <|
 .ret (.inr <| .inl <| ((decide (((v0).getD (Int.toNat v5) (0 : Int)) < ((v1).getD (Int.toNat v5) (0 : Int)))), ()))) (
 .ni (v5 + (1 : Int)) <|
 .ret (.inl (v0, (v1, ((v5 + (1 : Int)), ())))))) (
 .ret (.inr <| .inr <| (v0, (v1, ()))))) (
 .ret (.inr <| .inr <| (v0, (v1, ()))))
theorem s97_0 : ∀ x, roundE (kzO (p97_0.T ⊕ x97_0.T)) cx97 ar0 [] p97_0 x97_0 (b97_0) (fun y => some (.inl y)) (fun b => some (.inr b)) x = run0 (g97_0 x) := fun x => by kernel_rfl
noncomputable def L97_0 : LoopS prog 41 none 0 := mkLoop mixed cx97 cx97_ok [] rfl p97_0 x97_0 rfl (b97_0) (fun x => run0 (g97_0 x)) (s97_0)
noncomputable def dd97 : D prog 41 none 0 := dO [.l L97_0] (kd prog f97) 0
noncomputable def F97 (a0 : List Int) (a1 : List Int) : Tr0 (Bool × Unit) :=
 .bd (.it g97_0 (a0, (a1, ((0 : Int), ())))) fun z0 =>
 .sm z0 (fun z1 =>
 .ret (z1.1, ())) fun z2 =>
 .ret ((decide ((((z2.1).length : Nat) : Int) < (((z2.2.1).length : Nat) : Int))), ())
theorem c97_ok : trF prog f97 = some ⟨41, 2, dd97.er, [.t 4], [some .bool]⟩ := by kernel_rfl
noncomputable def ct97 : Ct := ⟨97, [hL, hL], .c (.hole .bool), fun x => run0 (F97 x.1 x.2.1)⟩
theorem ct97_ok : ct97.Ok prog := ct_ok mixed cx97_ok func97 c97_ok (enters_of func97 rfl rfl) dd97 (by kernel_rfl) rfl (fun x => by kernel_rfl)

/- 47 -/
noncomputable def cx47 : Cx := mkCxH [ct50, ct60, ct96, ct64, ct97] []
theorem cx47_ok : cx47.Ok prog := mkCxH_ok ⟨ct50_ok, ct60_ok, ct96_ok, ct64_ok, ct97_ok, trivial⟩ trivial
@[reducible] def p47_1 : Pat := Pat.mk [(1, .c (.ptr 0 0)), (5, .c (.sl0 1 tL)), (6, hI), (7, hI)] [(0, .cells [.hole (.list (.prod tI tL))] false), (1, .arr tL false)] [.slot 1, .slot 5] []
@[reducible] def x47_1 : Outs := [(.exit 2, Pat.mk [(1, .c (.ptr 0 0)), (5, .c (.sl0 1 tL)), (6, hI)] [(0, .cells [.hole (.list (.prod tI tL))] false), (1, .arr tL false)] [.slot 1, .slot 5] [])]
noncomputable def b47_1 : D prog 64 none 0 := dO [] (pick (kd prog f47) [(0, false), (0, false)]) 0
noncomputable def g47_1 : Nat × Int × Int × (List (Int × List Int)) × List (List Int) × Unit → Tr0 ((Nat × Int × Int × (List (Int × List Int)) × List (List Int) × Unit) ⊕ ((Nat × Int × (List (Int × List Int)) × List (List Int) × Unit))) := fun (nv5, v6, v7, c0_0, b1, _) =>
 .br (decide ((0 : Int) < v7)) (
 .nb v7 ((nv5 : Nat) : Int) <|
 .nd (decide (((0 : Nat) + (Int.toNat v7)) < (b1).length)) <|
 .ni (v7 - (1 : Int)) <|
 .nb (v7 - (1 : Int)) ((nv5 : Nat) : Int) <|
 .nd (decide (((0 : Nat) + (Int.toNat (v7 - (1 : Int)))) < (b1).length)) <|
 .bd (F97 ((b1).getD ((0 : Nat) + (Int.toNat v7)) []) ((b1).getD ((0 : Nat) + (Int.toNat (v7 - (1 : Int)))) [])) fun y4 =>
 .br y4.1 (
 .ni (v7 - (1 : Int)) <|
 .ni (v7 - (1 : Int)) <|
 .nb (v7 - (1 : Int)) ((nv5 : Nat) : Int) <|
 .nd (decide (((0 : Nat) + (Int.toNat (v7 - (1 : Int)))) < (b1).length)) <|
 .nb v7 ((nv5 : Nat) : Int) <|
 .nd (decide (((0 : Nat) + (Int.toNat v7)) < (b1).length)) <|
 .nb v7 ((nv5 : Nat) : Int) <|
 .nd (decide (((0 : Nat) + (Int.toNat v7)) < (b1).length)) <|
 .nb (v7 - (1 : Int)) ((nv5 : Nat) : Int) <|
 .nd (decide (((0 : Nat) + (Int.toNat (v7 - (1 : Int)))) < (((b1).set ((0 : Nat) + (Int.toNat v7)) ((b1).getD ((0 : Nat) + (Int.toNat (v7 - (1 : Int)))) []))).length)) <|
 .ni (v7 - (1 : Int)) <|
 .ret (.inl (nv5, (v6, ((v7 - (1 : Int)), (c0_0, (((((b1).set ((0 : Nat) + (Int.toNat v7)) ((b1).getD ((0 : Nat) + (Int.toNat (v7 - (1 : Int)))) []))).set ((0 : Nat) + (Int.toNat (v7 - (1 : Int)))) ((b1).getD ((0 : Nat) + (Int.toNat v7)) [])), ()))))))) (
 .ret (.inr (nv5, (v6, (c0_0, (b1, ()))))))) (
 .ret (.inr (nv5, (v6, (c0_0, (b1, ()))))))
theorem s47_1 : ∀ x, roundE (kzO (p47_1.T ⊕ x47_1.T)) cx47 ar0 [] p47_1 x47_1 (b47_1) (fun y => some (.inl y)) (fun b => some (.inr b)) x = run0 (g47_1 x) := fun x => by kernel_rfl
noncomputable def L47_1 : LoopS prog 64 none 0 := mkLoop mixed cx47 cx47_ok [] rfl p47_1 x47_1 rfl (b47_1) (fun x => run0 (g47_1 x)) (s47_1)
@[reducible] def p47_0 : Pat := Pat.mk [(1, .c (.ptr 0 0)), (5, .c (.sl0 1 tL)), (6, hI)] [(0, .cells [.hole (.list (.prod tI tL))] false), (1, .arr tL false)] [.slot 1, .slot 5] []
@[reducible] def x47_0 : Outs := [(.exit 0, Pat.mk [(5, .c (.sl0 0 tL))] [(0, .arr tL false)] [.slot 5] [])]
noncomputable def b47_0 : D prog 64 none 0 := dO [.l L47_1] (pick (kd prog f47) [(0, false)]) 0
noncomputable def g47_0 : Nat × Int × (List (Int × List Int)) × List (List Int) × Unit → Tr0 ((Nat × Int × (List (Int × List Int)) × List (List Int) × Unit) ⊕ ((Nat × List (List Int) × Unit))) := fun (nv5, v6, c0_0, b1, _) =>
 .bd (F60 c0_0) fun y1 =>
 .nb y1.1 (64 : Int) <|
 .ni (ar0.shl (1 : Int) y1.1) <|
 .br (decide (v6 < (ar0.shl (1 : Int) y1.1))) (
 .bd (F96 c0_0 v6) fun y2 =>
 .br y2.1 (
 .bd (F64 v6) fun y3 =>
 .nd (decide ((nv5 + (((((y3.1 :: [])).drop (0 : Nat)).take (1 : Nat))).length) < bigL)) <|
 .ni ((((nv5 + (((((y3.1 :: [])).drop (0 : Nat)).take (1 : Nat))).length) : Nat) : Int) - (1 : Int)) <|
 .bd (.it g47_1 ((nv5 + (((((y3.1 :: [])).drop (0 : Nat)).take (1 : Nat))).length), (v6, (((((nv5 + (((((y3.1 :: [])).drop (0 : Nat)).take (1 : Nat))).length) : Nat) : Int) - (1 : Int)), (c0_0, (((((b1).drop (0 : Nat)).take nv5) ++ ((((y3.1 :: [])).drop (0 : Nat)).take (1 : Nat))), ())))))) fun z5 =>
 .ni (z5.2.1 + (1 : Int)) <|
 .ret (.inl (z5.1, ((z5.2.1 + (1 : Int)), (z5.2.2.1, (z5.2.2.2.1, ())))))) (
 .ni (v6 + (1 : Int)) <|
 .ret (.inl (nv5, ((v6 + (1 : Int)), (c0_0, (b1, ()))))))) (
 .ret (.inr (nv5, (b1, ()))))
theorem s47_0 : ∀ x, roundE (kzO (p47_0.T ⊕ x47_0.T)) cx47 ar0 [] p47_0 x47_0 (b47_0) (fun y => some (.inl y)) (fun b => some (.inr b)) x = run0 (g47_0 x) := fun x => by kernel_rfl
noncomputable def L47_0 : LoopS prog 64 none 0 := mkLoop mixed cx47 cx47_ok [] rfl p47_0 x47_0 rfl (b47_0) (fun x => run0 (g47_0 x)) (s47_0)
noncomputable def dd47 : D prog 64 none 0 := dO [.l L47_0] (kd prog f47) 0
noncomputable def F47 (a0_0 : List (Int × List Int)) : Tr0 (List (List Int) × Int × Unit) :=
 .bd (F50 a0_0) fun y0 =>
 .br (!(y0.1 == (0 : Int))) (
 .ret ([], (y0.1, ()))) (
 .bd (.it g47_0 ((0 : Nat), ((0 : Int), (a0_0, ([], ()))))) fun z6 =>
 .ret ((((z6.2.1).drop (0 : Nat)).take z6.1), ((0 : Int), ())))
theorem c47_ok : trF prog f47 = some ⟨64, 1, dd47.er, [.t 2, .t 3], [some tLL, some tI]⟩ := by kernel_rfl
noncomputable def ct47 : Ct := ⟨47, [.agg [.hole (.list (.prod tI tL))]], .tup [.hole tLL, .hole tI], fun x => run0 (F47 x.1)⟩
theorem ct47_ok : ct47.Ok prog := ct_ok mixed cx47_ok func47 c47_ok (enters_of func47 rfl rfl) dd47 (by kernel_rfl) rfl (fun x => by kernel_rfl)

/- 48 -/
noncomputable def cx48 : Cx := mkCxH [ct50, ct60, ct76, ct96] []
theorem cx48_ok : cx48.Ok prog := mkCxH_ok ⟨ct50_ok, ct60_ok, ct76_ok, ct96_ok, trivial⟩ trivial
@[reducible] def p48_1 : Pat := Pat.mk [(1, .c (.ptr 0 0)), (5, .c (.sl0 1 tI)), (6, hI), (7, hI), (8, .c (.hole .bool)), (9, .c (.hole .bool)), (10, hI)] [(0, .cells [.hole (.list (.prod tI tL))] false), (1, .arr tI false)] [.slot 1, .slot 5] []
@[reducible] def x48_1 : Outs := [(.exit 2, Pat.mk [(1, .c (.ptr 0 0)), (5, .c (.sl0 1 tI)), (6, hI), (7, hI), (8, .c (.hole .bool)), (9, .c (.hole .bool))] [(0, .cells [.hole (.list (.prod tI tL))] false), (1, .arr tI false)] [.slot 1, .slot 5] [])]
noncomputable def b48_1 : D prog 80 none 0 := dO [] (pick (kd prog f48) [(0, false), (0, false)]) 0
noncomputable def g48_1 : Nat × Int × Int × Bool × Bool × Int × (List (Int × List Int)) × List Int × Unit → Tr0 ((Nat × Int × Int × Bool × Bool × Int × (List (Int × List Int)) × List Int × Unit) ⊕ ((Nat × Int × Int × Bool × Bool × (List (Int × List Int)) × List Int × Unit))) := fun (nv5, v6, v7, v8, v9, v10, c0_0, b1, _) =>
 .br (decide (v10 ≤ v6)) (
 .br v8 (
 .nb v7 (64 : Int) <|
 .br ((ar0.bits Go.AM.IBin.and Go.IntKind.i64 (ar0.shr v10 v7) (1 : Int)) == (0 : Int)) (
 .br v9 (
 .nb v7 (64 : Int) <|
 .br ((ar0.bits Go.AM.IBin.and Go.IntKind.i64 (ar0.shr v10 v7) (1 : Int)) == (1 : Int)) (
 .ni (v10 + (1 : Int)) <|
 .ret (.inl (nv5, (v6, (v7, (true, (true, ((v10 + (1 : Int)), (c0_0, (b1, ())))))))))) (
 .bd (F76 c0_0 v10) fun y4 =>
 .ni (v10 + (1 : Int)) <|
 .ret (.inl (nv5, (v6, (v7, (true, ((!y4.1), ((v10 + (1 : Int)), (c0_0, (b1, ()))))))))))) (
 .ni (v10 + (1 : Int)) <|
 .ret (.inl (nv5, (v6, (v7, (true, (false, ((v10 + (1 : Int)), (c0_0, (b1, ()))))))))))) (
 .bd (F96 c0_0 v10) fun y5 =>
 .br v9 (
 .nb v7 (64 : Int) <|
 .br ((ar0.bits Go.AM.IBin.and Go.IntKind.i64 (ar0.shr v10 v7) (1 : Int)) == (1 : Int)) (
 .ni (v10 + (1 : Int)) <|
 .ret (.inl (nv5, (v6, (v7, ((!y5.1), (true, ((v10 + (1 : Int)), (c0_0, (b1, ())))))))))) (
 .bd (F76 c0_0 v10) fun y6 =>
 .ni (v10 + (1 : Int)) <|
 .ret (.inl (nv5, (v6, (v7, ((!y5.1), ((!y6.1), ((v10 + (1 : Int)), (c0_0, (b1, ()))))))))))) (
 .ni (v10 + (1 : Int)) <|
 .ret (.inl (nv5, (v6, (v7, ((!y5.1), (false, ((v10 + (1 : Int)), (c0_0, (b1, ())))))))))))) (
 .br v9 (
 .nb v7 (64 : Int) <|
 .br ((ar0.bits Go.AM.IBin.and Go.IntKind.i64 (ar0.shr v10 v7) (1 : Int)) == (1 : Int)) (
 .ni (v10 + (1 : Int)) <|
 .ret (.inl (nv5, (v6, (v7, (false, (true, ((v10 + (1 : Int)), (c0_0, (b1, ())))))))))) (
 .bd (F76 c0_0 v10) fun y7 =>
 .ni (v10 + (1 : Int)) <|
 .ret (.inl (nv5, (v6, (v7, (false, ((!y7.1), ((v10 + (1 : Int)), (c0_0, (b1, ()))))))))))) (
 .ni (v10 + (1 : Int)) <|
 .ret (.inl (nv5, (v6, (v7, (false, (false, ((v10 + (1 : Int)), (c0_0, (b1, ())))))))))))) (
 .ret (.inr (nv5, (v6, (v7, (v8, (v9, (c0_0, (b1, ())))))))))
theorem s48_1 : ∀ x, roundE (kzO (p48_1.T ⊕ x48_1.T)) cx48 ar0 [] p48_1 x48_1 (b48_1) (fun y => some (.inl y)) (fun b => some (.inr b)) x = run0 (g48_1 x) := fun x => by kernel_rfl
noncomputable def L48_1 : LoopS prog 80 none 0 := mkLoop mixed cx48 cx48_ok [] rfl p48_1 x48_1 rfl (b48_1) (fun x => run0 (g48_1 x)) (s48_1)
@[reducible] def p48_0 : Pat := Pat.mk [(1, .c (.ptr 0 0)), (5, .c (.sl0 1 tI)), (6, hI), (7, hI)] [(0, .cells [.hole (.list (.prod tI tL))] false), (1, .arr tI false)] [.slot 1, .slot 5] []
@[reducible] def x48_0 : Outs := [(.exit 0, Pat.mk [(5, .c (.sl0 0 tI))] [(0, .arr tI false)] [.slot 5] [])]
noncomputable def b48_0 : D prog 80 none 0 := dO [.l L48_1] (pick (kd prog f48) [(0, false)]) 0
noncomputable def g48_0 : Nat × Int × Int × (List (Int × List Int)) × List Int × Unit → Tr0 ((Nat × Int × Int × (List (Int × List Int)) × List Int × Unit) ⊕ ((Nat × List Int × Unit))) := fun (nv5, v6, v7, c0_0, b1, _) =>
 .bd (F60 c0_0) fun y2 =>
 .br (decide (v7 < y2.1)) (
 .bd (F76 c0_0 v6) fun y3 =>
 .bd (.it g48_1 (nv5, (v6, (v7, (true, (y3.1, ((0 : Int), (c0_0, (b1, ()))))))))) fun z8 =>
 .jx (
 .br z8.2.2.2.1 (
 .ni ((0 : Int) + (1 : Int)) <|
 .ret (.inl (z8.1, (z8.2.1, (z8.2.2.1, (z8.2.2.2.2.1, ((1 : Int), (z8.2.2.2.2.2.1, (z8.2.2.2.2.2.2.1, ()))))))))) (
 .ret (.inl (z8.1, (z8.2.1, (z8.2.2.1, (z8.2.2.2.2.1, ((0 : Int), (z8.2.2.2.2.2.1, (z8.2.2.2.2.2.2.1, ())))))))))) fun j9 =>
 .jx (
 .br j9.2.2.2.1 (
 .ni (j9.2.2.2.2.1 + (2 : Int)) <|
 .ret (.inl (j9.1, (j9.2.1, (j9.2.2.1, ((j9.2.2.2.2.1 + (2 : Int)), (j9.2.2.2.2.2.1, (j9.2.2.2.2.2.2.1, ())))))))) (
 .ret (.inl (j9.1, (j9.2.1, (j9.2.2.1, (j9.2.2.2.2.1, (j9.2.2.2.2.2.1, (j9.2.2.2.2.2.2.1, ()))))))))) fun j10 =>
 .jx (
 .nb j10.2.2.1 (64 : Int) <|
 .ni (ar0.shl (1 : Int) j10.2.2.1) <|
 .bd (F76 j10.2.2.2.2.1 (ar0.shl (1 : Int) j10.2.2.1)) fun y13 =>
 .br y13.1 (
 .ni (j10.2.2.2.1 + (4 : Int)) <|
 .ret (.inl (j10.1, (j10.2.1, (j10.2.2.1, ((j10.2.2.2.1 + (4 : Int)), (j10.2.2.2.2.1, (j10.2.2.2.2.2.1, ())))))))) (
 .ret (.inl (j10.1, (j10.2.1, (j10.2.2.1, (j10.2.2.2.1, (j10.2.2.2.2.1, (j10.2.2.2.2.2.1, ()))))))))) fun j12 =>
 .nd (decide ((j12.1 + (((((j12.2.2.2.1 :: [])).drop (0 : Nat)).take (1 : Nat))).length) < bigL)) <|
 .ni (j12.2.2.1 + (1 : Int)) <|
 .ret (.inl ((j12.1 + (((((j12.2.2.2.1 :: [])).drop (0 : Nat)).take (1 : Nat))).length), (j12.2.1, ((j12.2.2.1 + (1 : Int)), (j12.2.2.2.2.1, (((((j12.2.2.2.2.2.1).drop (0 : Nat)).take j12.1) ++ ((((j12.2.2.2.1 :: [])).drop (0 : Nat)).take (1 : Nat))), ()))))))) (
 .ret (.inr (nv5, (b1, ()))))
theorem s48_0 : ∀ x, roundE (kzO (p48_0.T ⊕ x48_0.T)) cx48 ar0 [] p48_0 x48_0 (b48_0) (fun y => some (.inl y)) (fun b => some (.inr b)) x = run0 (g48_0 x) := fun x => Eq.trans (b := run0 (flat (g48_0 x))) (by kernel_rfl) run_flat
noncomputable def L48_0 : LoopS prog 80 none 0 := mkLoop mixed cx48 cx48_ok [] rfl p48_0 x48_0 rfl (b48_0) (fun x => run0 (g48_0 x)) (s48_0)
noncomputable def dd48 : D prog 80 none 0 := dO [.l L48_0] (kd prog f48) 0
noncomputable def F48 (a0_0 : List (Int × List Int)) : Tr0 (List Int × Int × Unit) :=
 .bd (F50 a0_0) fun y0 =>
 .br (!(y0.1 == (0 : Int))) (
 .ret ([], (y0.1, ()))) (
 .bd (F60 a0_0) fun y1 =>
 .nb y1.1 (64 : Int) <|
 .ni (ar0.shl (1 : Int) y1.1) <|
 .ni ((ar0.shl (1 : Int) y1.1) - (1 : Int)) <|
 .bd (.it g48_0 ((0 : Nat), (((ar0.shl (1 : Int) y1.1) - (1 : Int)), ((0 : Int), (a0_0, ([], ())))))) fun z14 =>
 .ret ((((z14.2.1).drop (0 : Nat)).take z14.1), ((0 : Int), ())))
theorem c48_ok : trF prog f48 = some ⟨80, 1, dd48.er, [.t 2, .t 3], [some tL, some tI]⟩ := by kernel_rfl
noncomputable def ct48 : Ct := ⟨48, [.agg [.hole (.list (.prod tI tL))]], .tup [.hole tL, .hole tI], fun x => run0 (F48 x.1)⟩
theorem ct48_ok : ct48.Ok prog := ct_ok mixed cx48_ok func48 c48_ok (enters_of func48 rfl rfl) dd48 (by kernel_rfl) rfl (fun x => by kernel_rfl)

/- 13 -/
noncomputable def cx13 : Cx := mkCxH [ct15, ct16, ct17, ct44, ct45, ct46, ct47, ct37, ct48, ct49, ct22, ct41, ct50] []
theorem cx13_ok : cx13.Ok prog := mkCxH_ok ⟨ct15_ok, ct16_ok, ct17_ok, ct44_ok, ct45_ok, ct46_ok, ct47_ok, ct37_ok, ct48_ok, ct49_ok, ct22_ok, ct41_ok, ct50_ok, trivial⟩ trivial
noncomputable def dd13 : D prog 98 none 0 := dO [] (kd prog f13) 0
noncomputable def F13 (a0 : (List (Int × List Int)) × Unit) (a1 : List Int) : Tr0 (Bool × Unit) :=
 .bd (F15 a0.1) fun y0 =>
 .br y0.1 (
 .bd (F16) fun y1 =>
 .ret (y1.1, ())) (
 .br (decide ((40 : Int) < (((a1).length : Nat) : Int))) (
 .bd (F16) fun y2 =>
 .ret (y2.1, ())) (
 .bd (F17 a0.1) fun y3 =>
 .bd (F44 a0.1 a1) fun y4 =>
 .bd (F45 y3.1.1 a1) fun y5 =>
 .bd (F46 a0.1) fun y6 =>
 .bd (F47 y3.1.1) fun y7 =>
 .bd (F37 a0.1) fun y8 =>
 .bd (F48 y3.1.1) fun y9 =>
 .br (y4.1 == y5.1) (
 .br (y4.2.1 == y5.2.1) (
 .bd (F49 y6.1 y7.1) fun y10 =>
 .br y10.1 (
 .br (y6.2.1 == y7.2.1) (
 .bd (F22 y8.1 y9.1) fun y11 =>
 .br y11.1 (
 .br (y8.2.1 == y9.2.1) (
 .bd (F41 a0.1) fun y12 =>
 .bd (F50 y3.1.1) fun y13 =>
 .br (y12.1 == y13.1) (
 .bd (F16) fun y14 =>
 .ret (y14.1, ())) (
 .ret (false, ()))) (
 .ret (false, ()))) (
 .ret (false, ()))) (
 .ret (false, ()))) (
 .ret (false, ()))) (
 .ret (false, ()))) (
 .ret (false, ()))))
theorem c13_ok : trF prog f13 = some ⟨98, 2, dd13.er, [.t 4], [some .bool]⟩ := by kernel_rfl
noncomputable def ct13 : Ct := ⟨13, [.c (.hole (.prod (.list (.prod tI tL)) .unit)), hL], .c (.hole .bool), fun x => run0 (F13 x.1 x.2.1)⟩
theorem ct13_ok : ct13.Ok prog := ct_ok mixed cx13_ok func13 c13_ok (enters_of func13 rfl rfl) dd13 (by kernel_rfl) rfl (fun x => by kernel_rfl)

end Go.Proofs.Tryd

