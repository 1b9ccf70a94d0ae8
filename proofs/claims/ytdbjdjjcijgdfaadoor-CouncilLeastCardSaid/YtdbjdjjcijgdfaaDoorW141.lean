/- Functions of the program as functions of data, part 2; printed by a program of mine. -/
import Derived.Test.YtdbjdjjcijgdfaaDoorW140
import Derived.Test.YtdbjdjjcijgdfaaDoorProg
set_option linter.unusedSectionVars false
set_option linter.unusedVariables false
set_option linter.unusedSimpArgs false
open Go.AM
namespace Go.Proofs.Tryd
set_option maxRecDepth 100000
set_option synthInstance.maxSize 4000
set_option synthInstance.maxHeartbeats 400000


/- 29 -/
noncomputable def cx29 : Cx := mkCxH [ct66, ct72, ct101, ct72_v1, ct78] [ht77]
theorem cx29_ok : cx29.Ok prog := mkCxH_ok ⟨ct66_ok, ct72_ok, ct101_ok, ct72_v1_ok, ct78_ok, trivial⟩ ⟨⟨ht77_ok, rfl⟩, trivial⟩
noncomputable def ad29_1m0 : D prog 85 (some 7) 9 := dO [] (pick (kd prog f29) [(0, false), (0, false)]) 0
noncomputable def bd29_1m0 : D prog 85 (some 7) 9 := dO [] (pick (kd prog f29) [(0, false), (0, true)]) 0
noncomputable def cx29_1m0i : Cx := itCx cx29 (fun kz => rdK kz cx29 ar0 7 9 [54] (ad29_1m0) (bd29_1m0))
theorem cx29_1m0i_ok : (cx29_1m0i).Ok prog := itCx_ok cx29_ok (fun h => rdK_ok mixed cx29_ok h)
@[reducible] def p29_1m0i_0 : Pat := Pat.mk [(0, .c (.yl 7)), (1, .c (.ptr 5 0))] [(7, .loop .ready none 6 [(4, .c (.ptr 0 0)), (5, hI), (6, .c (.ptr 1 0)), (8, .c (.hole (.int .u64))), (9, .c (.ptr 2 0)), (11, .c (.ptr 3 0)), (12, .c (.ptr 4 0)), (40, .c (.hole (.list (.prod tI tL)))), (41, hI), (42, hI), (53, .fn 100 [] [.ptr 5 0])] [54] (.reg [.op (some 13) none (.mv (.t 54))]) (.block 4 (.draw [[], [0], [], [2], [], [2, 3, 4], [2, 3, 4, 5], [2, 3, 4, 5, 6], [0, 1, 2, 3, 4, 5, 6, 7], [0, 1, 2, 3, 4, 5, 6, 7, 8], [0, 1, 2, 3, 4, 5, 6, 7, 8, 9]] [.op (some 55) none (.fld 1 [true] (.t 12)), .op (some 56) none (.load false 1 (.t 55)), .op (some 57) none (.fld 1 [true] (.t 11)), .op (some 58) none (.load false 1 (.t 57)), .op (some 59) none (.mv (.t 13)), .op (some 60) none (.idx 1 (.t 58) (.t 59)), .op (some 61) none (.load false 1 (.t 60)), .op (some 62) none (.bslice tI [.t 61]), .op (some 63) none (.append 1 (.t 56) (.t 62)), .op (some 64) none (.fld 1 [true] (.t 12)), .op none none (.store 1 (.t 64) (.t 63))])) 85), (5, .cells [.hole (.int .u64)] false), (6, .dfr), (0, .cells [.nsl] false), (1, .cells [.hole (.list (.prod tI tL)), .ifcs 132 false (.cons (.hole (.list (.ifc 55 true (.prod tI tL)))) .nil), .hole tI, .hole (.int .u64)] false), (2, .cells [.nsl] false), (3, .cells [.hole tI, .hole tL] false), (4, .cells [.hole tI, .sl0 8 tI] false), (8, .arr tI false)] [.cell 4 1] []
@[reducible] def x29_1m0i_0 : Outs := [(.exit 0, Pat.mk [] [(0, .cells [.nsl] false), (1, .cells [.hole (.list (.prod tI tL)), .ifcs 132 false (.cons (.hole (.list (.ifc 55 true (.prod tI tL)))) .nil), .hole tI, .hole (.int .u64)] false), (2, .cells [.nsl] false), (3, .cells [.hole tI, .hole tL] false), (4, .cells [.hole tI, .sl0 8 tI] false), (5, .cells [.hole (.int .u64)] false), (6, .dfr), (7, .loop .ready none 6 [(4, .c (.ptr 0 0)), (5, hI), (6, .c (.ptr 1 0)), (8, .c (.hole (.int .u64))), (9, .c (.ptr 2 0)), (11, .c (.ptr 3 0)), (12, .c (.ptr 4 0)), (40, .c (.hole (.list (.prod tI tL)))), (41, hI), (42, hI), (53, .fn 100 [] [.ptr 5 0])] [54] (.reg [.op (some 13) none (.mv (.t 54))]) (.block 4 (.draw [[], [0], [], [2], [], [2, 3, 4], [2, 3, 4, 5], [2, 3, 4, 5, 6], [0, 1, 2, 3, 4, 5, 6, 7], [0, 1, 2, 3, 4, 5, 6, 7, 8], [0, 1, 2, 3, 4, 5, 6, 7, 8, 9]] [.op (some 55) none (.fld 1 [true] (.t 12)), .op (some 56) none (.load false 1 (.t 55)), .op (some 57) none (.fld 1 [true] (.t 11)), .op (some 58) none (.load false 1 (.t 57)), .op (some 59) none (.mv (.t 13)), .op (some 60) none (.idx 1 (.t 58) (.t 59)), .op (some 61) none (.load false 1 (.t 60)), .op (some 62) none (.bslice tI [.t 61]), .op (some 63) none (.append 1 (.t 56) (.t 62)), .op (some 64) none (.fld 1 [true] (.t 12)), .op none none (.store 1 (.t 64) (.t 63))])) 85), (8, .arr tI false)] [.cell 4 1] [])]
noncomputable def b29_1m0i_0 : D prog 14 none 8 := dO [] (pick (kd prog f100) [(0, false)]) 0
noncomputable def g29_1m0i_0 : Int × Int × (List (Int × List Int)) × Int × Int × Int × (List (Int × List Int)) × (List (Int × List Int)) × Int × Int × Int × List Int × Int × Nat × List Int × Unit → Tr0 ((Int × Int × (List (Int × List Int)) × Int × Int × Int × (List (Int × List Int)) × (List (Int × List Int)) × Int × Int × Int × List Int × Int × Nat × List Int × Unit) ⊕ (((List (Int × List Int)) × (List (Int × List Int)) × Int × Int × Int × List Int × Int × Nat × Int × Int × Int × (List (Int × List Int)) × Int × Int × List Int × Unit))) := fun (w5, w8, w40, w41, w42, c5_0, c1_0, c1_1c0, c1_2, c1_3, c3_0, c3_1, c4_0, nc4_1, b8, _) =>
 .br (!(c5_0 == (0 : Int))) (
 .bd (F101 c5_0) fun y4 =>
 .nb y4.1 (((c3_1).length : Nat) : Int) <|
 .nd (decide ((nc4_1 + (((((((c3_1).getD (Int.toNat y4.1) (0 : Int)) :: [])).drop (0 : Nat)).take (1 : Nat))).length) < bigL)) <|
 .nd (rng .u64 (c5_0 - (1 : Int))) <|
 .ret (.inl (w5, (w8, (w40, (w41, (w42, ((ar0.bits Go.AM.IBin.and Go.IntKind.u64 c5_0 (c5_0 - (1 : Int))), (c1_0, (c1_1c0, (c1_2, (c1_3, (c3_0, (c3_1, (c4_0, ((nc4_1 + (((((((c3_1).getD (Int.toNat y4.1) (0 : Int)) :: [])).drop (0 : Nat)).take (1 : Nat))).length), (((((b8).drop (0 : Nat)).take nc4_1) ++ ((((((c3_1).getD (Int.toNat y4.1) (0 : Int)) :: [])).drop (0 : Nat)).take (1 : Nat))), ()))))))))))))))))) (
 .ret (.inr (c1_0, (c1_1c0, (c1_2, (c1_3, (c3_0, (c3_1, (c4_0, (nc4_1, (c5_0, (w5, (w8, (w40, (w41, (w42, (b8, ())))))))))))))))))
theorem s29_1m0i_0 : ∀ x, roundE (kzO (p29_1m0i_0.T ⊕ x29_1m0i_0.T)) cx29_1m0i ar0 [0, 1, 2, 3, 4, 5, 6, 7] p29_1m0i_0 x29_1m0i_0 (b29_1m0i_0) (fun y => some (.inl y)) (fun b => some (.inr b)) x = run0 (g29_1m0i_0 x) := fun x => by kernel_rfl
noncomputable def L29_1m0i_0 : LoopS prog 14 none 8 := mkLoop mixed cx29_1m0i cx29_1m0i_ok [0, 1, 2, 3, 4, 5, 6, 7] rfl p29_1m0i_0 x29_1m0i_0 rfl (b29_1m0i_0) (fun x => run0 (g29_1m0i_0 x)) (s29_1m0i_0)
@[reducible] def p29_1m0 : Pat := Pat.mk [(4, .c (.ptr 0 0)), (5, hI), (6, .c (.ptr 1 0)), (8, .c (.hole (.int .u64))), (9, .c (.ptr 2 0)), (11, .c (.ptr 3 0)), (12, .c (.ptr 4 0)), (40, .c (.hole (.list (.prod tI tL)))), (41, hI), (42, hI), (53, .fn 100 [] [.ptr 5 0])] [(0, .cells [.nsl] false), (1, .cells [.hole (.list (.prod tI tL)), .ifcs 132 false (.cons (.hole (.list (.ifc 55 true (.prod tI tL)))) .nil), .hole tI, .hole (.int .u64)] false), (2, .cells [.nsl] false), (3, .cells [.hole tI, .hole tL] false), (4, .cells [.hole tI, .nsl] false), (5, .cells [.hole (.int .u64)] false)] [.slot 4, .slot 6, .slot 9, .slot 11, .slot 12, .part 53 0] []
@[reducible] def x29_1m0 : Outs := [(.normal, Pat.mk [(4, .c (.ptr 0 0)), (5, hI), (6, .c (.ptr 1 0)), (8, .c (.hole (.int .u64))), (9, .c (.ptr 2 0)), (11, .c (.ptr 3 0)), (12, .c (.ptr 4 0)), (40, .c (.hole (.list (.prod tI tL)))), (41, hI), (42, hI)] [(0, .cells [.nsl] false), (1, .cells [.hole (.list (.prod tI tL)), .ifcs 132 false (.cons (.hole (.list (.ifc 55 true (.prod tI tL)))) .nil), .hole tI, .hole (.int .u64)] false), (2, .cells [.nsl] false), (3, .cells [.hole tI, .hole tL] false), (4, .cells [.hole tI, .sl0 6 tI] false), (5, .dfr), (6, .arr tI false)] [.slot 4, .slot 6, .slot 9, .slot 11, .slot 12, .mark 0, .cell 4 1] [5])]
noncomputable def b29_1m0i : D prog 14 none 8 := dO [.l L29_1m0i_0] (kd prog f100) 0
theorem ci29_1m0 : trF prog f100 = some ⟨14, 2, (b29_1m0i).er, [], []⟩ := by kernel_rfl
noncomputable def g29_1m0 : Int × Int × (List (Int × List Int)) × Int × Int × (List (Int × List Int)) × (List (Int × List Int)) × Int × Int × Int × List Int × Int × Int × Unit → Tr0 ((Int × Int × (List (Int × List Int)) × Int × Int × (List (Int × List Int)) × (List (Int × List Int)) × Int × Int × Int × List Int × Int × Nat × List Int × Unit)) := fun (v5, v8, v40, v41, v42, c1_0, c1_1c0, c1_2, c1_3, c3_0, c3_1, c4_0, c5_0, _) =>
 .bd (.it g29_1m0i_0 (v5, (v8, (v40, (v41, (v42, (c5_0, (c1_0, (c1_1c0, (c1_2, (c1_3, (c3_0, (c3_1, (c4_0, ((0 : Nat), ([], ())))))))))))))))) fun z5 =>
 .ret ((v5, (v8, (v40, (v41, (v42, (z5.1, (z5.2.1, (z5.2.2.1, (z5.2.2.2.1, (z5.2.2.2.2.1, (z5.2.2.2.2.2.1, (z5.2.2.2.2.2.2.1, (z5.2.2.2.2.2.2.2.1, (z5.2.2.2.2.2.2.2.2.2.2.2.2.2.2.1, ())))))))))))))))
theorem s29_1m0 : ∀ x, rangeE (N := 85) (out := none) (base := 0) (kzO x29_1m0.T) cx29_1m0i ar0 [] p29_1m0 x29_1m0 ( .t 53) [54] (ad29_1m0).er (bd29_1m0).er [] 2 100 (b29_1m0i) some x = run0 (g29_1m0 x) := fun x => by kernel_rfl
noncomputable def T29_1m0 : RangeT prog 85 none 0 ( .t 53) [54] (ad29_1m0).er (bd29_1m0).er := mkRangeT mixed cx29_1m0i cx29_1m0i_ok [] rfl p29_1m0 x29_1m0 ( .t 53) [54] rfl (ad29_1m0).er (bd29_1m0).er 100 func100 (ci29_1m0) (enters_of func100 rfl rfl) 8 rfl (b29_1m0i) rfl (fun x => run0 (g29_1m0 x)) (s29_1m0)
noncomputable def ad29_1m1 : D prog 85 (some 9) 12 := dO [] (pick (kd prog f29) [(0, false), (0, false)]) 0
noncomputable def bd29_1m1 : D prog 85 (some 9) 12 := dO [] (pick (kd prog f29) [(0, false), (0, true)]) 0
noncomputable def cx29_1m1i : Cx := itCx cx29 (fun kz => rdK kz cx29 ar0 9 12 [54] (ad29_1m1) (bd29_1m1))
theorem cx29_1m1i_ok : (cx29_1m1i).Ok prog := itCx_ok cx29_ok (fun h => rdK_ok mixed cx29_ok h)
@[reducible] def p29_1m1i_0 : Pat := Pat.mk [(0, .c (.yl 9)), (1, .c (.ptr 5 0))] [(9, .loop .ready none 8 [(4, .c (.ptr 0 0)), (5, hI), (6, .c (.ptr 1 0)), (8, .c (.hole (.int .u64))), (9, .c (.ptr 2 0)), (11, .c (.ptr 3 0)), (12, .c (.ptr 4 0)), (40, .c (.hole (.list (.prod tI tL)))), (41, hI), (42, hI), (53, .fn 100 [] [.ptr 5 0])] [54] (.reg [.op (some 13) none (.mv (.t 54))]) (.block 4 (.draw [[], [0], [], [2], [], [2, 3, 4], [2, 3, 4, 5], [2, 3, 4, 5, 6], [0, 1, 2, 3, 4, 5, 6, 7], [0, 1, 2, 3, 4, 5, 6, 7, 8], [0, 1, 2, 3, 4, 5, 6, 7, 8, 9]] [.op (some 55) none (.fld 1 [true] (.t 12)), .op (some 56) none (.load false 1 (.t 55)), .op (some 57) none (.fld 1 [true] (.t 11)), .op (some 58) none (.load false 1 (.t 57)), .op (some 59) none (.mv (.t 13)), .op (some 60) none (.idx 1 (.t 58) (.t 59)), .op (some 61) none (.load false 1 (.t 60)), .op (some 62) none (.bslice tI [.t 61]), .op (some 63) none (.append 1 (.t 56) (.t 62)), .op (some 64) none (.fld 1 [true] (.t 12)), .op none none (.store 1 (.t 64) (.t 63))])) 85), (5, .cells [.hole (.int .u64)] false), (8, .dfr), (0, .cells [.nsl] false), (1, .cells [.hole (.list (.prod tI tL)), .ifcs 132 false (.cons (.hole (.list (.ifc 55 true (.prod tI tL)))) .nil), .hole tI, .hole (.int .u64)] false), (2, .cells [.sl0 10 (.prod tI tL)] false), (3, .cells [.hole tI, .hole tL] false), (4, .cells [.hole tI, .sl0 11 tI] false), (6, .dfr), (10, .arr (.prod tI tL) false), (11, .arr tI false)] [.cell 2 0, .cell 4 1] []
@[reducible] def x29_1m1i_0 : Outs := [(.exit 0, Pat.mk [] [(0, .cells [.nsl] false), (1, .cells [.hole (.list (.prod tI tL)), .ifcs 132 false (.cons (.hole (.list (.ifc 55 true (.prod tI tL)))) .nil), .hole tI, .hole (.int .u64)] false), (2, .cells [.sl0 10 (.prod tI tL)] false), (3, .cells [.hole tI, .hole tL] false), (4, .cells [.hole tI, .sl0 11 tI] false), (5, .cells [.hole (.int .u64)] false), (6, .dfr), (8, .dfr), (9, .loop .ready none 8 [(4, .c (.ptr 0 0)), (5, hI), (6, .c (.ptr 1 0)), (8, .c (.hole (.int .u64))), (9, .c (.ptr 2 0)), (11, .c (.ptr 3 0)), (12, .c (.ptr 4 0)), (40, .c (.hole (.list (.prod tI tL)))), (41, hI), (42, hI), (53, .fn 100 [] [.ptr 5 0])] [54] (.reg [.op (some 13) none (.mv (.t 54))]) (.block 4 (.draw [[], [0], [], [2], [], [2, 3, 4], [2, 3, 4, 5], [2, 3, 4, 5, 6], [0, 1, 2, 3, 4, 5, 6, 7], [0, 1, 2, 3, 4, 5, 6, 7, 8], [0, 1, 2, 3, 4, 5, 6, 7, 8, 9]] [.op (some 55) none (.fld 1 [true] (.t 12)), .op (some 56) none (.load false 1 (.t 55)), .op (some 57) none (.fld 1 [true] (.t 11)), .op (some 58) none (.load false 1 (.t 57)), .op (some 59) none (.mv (.t 13)), .op (some 60) none (.idx 1 (.t 58) (.t 59)), .op (some 61) none (.load false 1 (.t 60)), .op (some 62) none (.bslice tI [.t 61]), .op (some 63) none (.append 1 (.t 56) (.t 62)), .op (some 64) none (.fld 1 [true] (.t 12)), .op none none (.store 1 (.t 64) (.t 63))])) 85), (10, .arr (.prod tI tL) false), (11, .arr tI false)] [.cell 2 0, .cell 4 1] [])]
noncomputable def b29_1m1i_0 : D prog 14 none 10 := dO [] (pick (kd prog f100) [(0, false)]) 0
noncomputable def g29_1m1i_0 : Int × Int × (List (Int × List Int)) × Int × Int × Int × (List (Int × List Int)) × (List (Int × List Int)) × Int × Int × Nat × Int × List Int × Int × Nat × (List (Int × List Int)) × List Int × Unit → Tr0 ((Int × Int × (List (Int × List Int)) × Int × Int × Int × (List (Int × List Int)) × (List (Int × List Int)) × Int × Int × Nat × Int × List Int × Int × Nat × (List (Int × List Int)) × List Int × Unit) ⊕ (((List (Int × List Int)) × (List (Int × List Int)) × Int × Int × Nat × Int × List Int × Int × Nat × Int × Int × Int × (List (Int × List Int)) × Int × Int × (List (Int × List Int)) × List Int × Unit))) := fun (w5, w8, w40, w41, w42, c5_0, c1_0, c1_1c0, c1_2, c1_3, nc2_0, c3_0, c3_1, c4_0, nc4_1, b10, b11, _) =>
 .br (!(c5_0 == (0 : Int))) (
 .bd (F101 c5_0) fun y12 =>
 .nb y12.1 (((c3_1).length : Nat) : Int) <|
 .nd (decide ((nc4_1 + (((((((c3_1).getD (Int.toNat y12.1) (0 : Int)) :: [])).drop (0 : Nat)).take (1 : Nat))).length) < bigL)) <|
 .nd (rng .u64 (c5_0 - (1 : Int))) <|
 .ret (.inl (w5, (w8, (w40, (w41, (w42, ((ar0.bits Go.AM.IBin.and Go.IntKind.u64 c5_0 (c5_0 - (1 : Int))), (c1_0, (c1_1c0, (c1_2, (c1_3, (nc2_0, (c3_0, (c3_1, (c4_0, ((nc4_1 + (((((((c3_1).getD (Int.toNat y12.1) (0 : Int)) :: [])).drop (0 : Nat)).take (1 : Nat))).length), (b10, (((((b11).drop (0 : Nat)).take nc4_1) ++ ((((((c3_1).getD (Int.toNat y12.1) (0 : Int)) :: [])).drop (0 : Nat)).take (1 : Nat))), ()))))))))))))))))))) (
 .ret (.inr (c1_0, (c1_1c0, (c1_2, (c1_3, (nc2_0, (c3_0, (c3_1, (c4_0, (nc4_1, (c5_0, (w5, (w8, (w40, (w41, (w42, (b10, (b11, ())))))))))))))))))))
theorem s29_1m1i_0 : ∀ x, roundE (kzO (p29_1m1i_0.T ⊕ x29_1m1i_0.T)) cx29_1m1i ar0 [0, 1, 2, 3, 4, 5, 6, 7, 8, 9] p29_1m1i_0 x29_1m1i_0 (b29_1m1i_0) (fun y => some (.inl y)) (fun b => some (.inr b)) x = run0 (g29_1m1i_0 x) := fun x => by kernel_rfl
noncomputable def L29_1m1i_0 : LoopS prog 14 none 10 := mkLoop mixed cx29_1m1i cx29_1m1i_ok [0, 1, 2, 3, 4, 5, 6, 7, 8, 9] rfl p29_1m1i_0 x29_1m1i_0 rfl (b29_1m1i_0) (fun x => run0 (g29_1m1i_0 x)) (s29_1m1i_0)
@[reducible] def p29_1m1 : Pat := Pat.mk [(4, .c (.ptr 0 0)), (5, hI), (6, .c (.ptr 1 0)), (8, .c (.hole (.int .u64))), (9, .c (.ptr 2 0)), (11, .c (.ptr 3 0)), (12, .c (.ptr 4 0)), (40, .c (.hole (.list (.prod tI tL)))), (41, hI), (42, hI), (53, .fn 100 [] [.ptr 5 0])] [(0, .cells [.nsl] false), (1, .cells [.hole (.list (.prod tI tL)), .ifcs 132 false (.cons (.hole (.list (.ifc 55 true (.prod tI tL)))) .nil), .hole tI, .hole (.int .u64)] false), (2, .cells [.sl0 7 (.prod tI tL)] false), (3, .cells [.hole tI, .hole tL] false), (4, .cells [.hole tI, .nsl] false), (5, .cells [.hole (.int .u64)] false), (6, .dfr), (7, .arr (.prod tI tL) false)] [.slot 4, .slot 6, .slot 9, .slot 11, .slot 12, .part 53 0, .mark 0, .cell 2 0] [6]
@[reducible] def x29_1m1 : Outs := [(.normal, Pat.mk [(4, .c (.ptr 0 0)), (5, hI), (6, .c (.ptr 1 0)), (8, .c (.hole (.int .u64))), (9, .c (.ptr 2 0)), (11, .c (.ptr 3 0)), (12, .c (.ptr 4 0)), (40, .c (.hole (.list (.prod tI tL)))), (41, hI), (42, hI)] [(0, .cells [.nsl] false), (1, .cells [.hole (.list (.prod tI tL)), .ifcs 132 false (.cons (.hole (.list (.ifc 55 true (.prod tI tL)))) .nil), .hole tI, .hole (.int .u64)] false), (2, .cells [.sl0 7 (.prod tI tL)] false), (3, .cells [.hole tI, .hole tL] false), (4, .cells [.hole tI, .sl0 8 tI] false), (5, .dfr), (6, .dfr), (7, .arr (.prod tI tL) false), (8, .arr tI false)] [.slot 4, .slot 6, .slot 9, .slot 11, .slot 12, .mark 0, .mark 1, .cell 2 0, .cell 4 1] [5, 6])]
noncomputable def b29_1m1i : D prog 14 none 10 := dO [.l L29_1m1i_0] (kd prog f100) 0
theorem ci29_1m1 : trF prog f100 = some ⟨14, 2, (b29_1m1i).er, [], []⟩ := by kernel_rfl
noncomputable def g29_1m1 : Int × Int × (List (Int × List Int)) × Int × Int × (List (Int × List Int)) × (List (Int × List Int)) × Int × Int × Nat × Int × List Int × Int × Int × (List (Int × List Int)) × Unit → Tr0 ((Int × Int × (List (Int × List Int)) × Int × Int × (List (Int × List Int)) × (List (Int × List Int)) × Int × Int × Nat × Int × List Int × Int × Nat × (List (Int × List Int)) × List Int × Unit)) := fun (v5, v8, v40, v41, v42, c1_0, c1_1c0, c1_2, c1_3, nc2_0, c3_0, c3_1, c4_0, c5_0, b7, _) =>
 .bd (.it g29_1m1i_0 (v5, (v8, (v40, (v41, (v42, (c5_0, (c1_0, (c1_1c0, (c1_2, (c1_3, (nc2_0, (c3_0, (c3_1, (c4_0, ((0 : Nat), (b7, ([], ())))))))))))))))))) fun z13 =>
 .ret ((v5, (v8, (v40, (v41, (v42, (z13.1, (z13.2.1, (z13.2.2.1, (z13.2.2.2.1, (z13.2.2.2.2.1, (z13.2.2.2.2.2.1, (z13.2.2.2.2.2.2.1, (z13.2.2.2.2.2.2.2.1, (z13.2.2.2.2.2.2.2.2.1, (z13.2.2.2.2.2.2.2.2.2.2.2.2.2.2.2.1, (z13.2.2.2.2.2.2.2.2.2.2.2.2.2.2.2.2.1, ())))))))))))))))))
theorem s29_1m1 : ∀ x, rangeE (N := 85) (out := none) (base := 0) (kzO x29_1m1.T) cx29_1m1i ar0 [] p29_1m1 x29_1m1 ( .t 53) [54] (ad29_1m0).er (bd29_1m0).er [] 2 100 (b29_1m1i) some x = run0 (g29_1m1 x) := fun x => by kernel_rfl
noncomputable def T29_1m1 : RangeT prog 85 none 0 ( .t 53) [54] (ad29_1m0).er (bd29_1m0).er := mkRangeT mixed cx29_1m1i cx29_1m1i_ok [] rfl p29_1m1 x29_1m1 ( .t 53) [54] rfl (ad29_1m0).er (bd29_1m0).er 100 func100 (ci29_1m1) (enters_of func100 rfl rfl) 10 rfl (b29_1m1i) rfl (fun x => run0 (g29_1m1 x)) (s29_1m1)
noncomputable def ad29_1m2 : D prog 85 (some 10) 13 := dO [] (pick (kd prog f29) [(0, false), (0, false)]) 0
noncomputable def bd29_1m2 : D prog 85 (some 10) 13 := dO [] (pick (kd prog f29) [(0, false), (0, true)]) 0
noncomputable def cx29_1m2i : Cx := itCx cx29 (fun kz => rdK kz cx29 ar0 10 13 [54] (ad29_1m2) (bd29_1m2))
theorem cx29_1m2i_ok : (cx29_1m2i).Ok prog := itCx_ok cx29_ok (fun h => rdK_ok mixed cx29_ok h)
@[reducible] def p29_1m2i_0 : Pat := Pat.mk [(0, .c (.yl 10)), (1, .c (.ptr 5 0))] [(10, .loop .ready none 9 [(4, .c (.ptr 0 0)), (5, hI), (6, .c (.ptr 1 0)), (8, .c (.hole (.int .u64))), (9, .c (.ptr 2 0)), (11, .c (.ptr 3 0)), (12, .c (.ptr 4 0)), (40, .c (.hole (.list (.prod tI tL)))), (41, hI), (42, hI), (53, .fn 100 [] [.ptr 5 0])] [54] (.reg [.op (some 13) none (.mv (.t 54))]) (.block 4 (.draw [[], [0], [], [2], [], [2, 3, 4], [2, 3, 4, 5], [2, 3, 4, 5, 6], [0, 1, 2, 3, 4, 5, 6, 7], [0, 1, 2, 3, 4, 5, 6, 7, 8], [0, 1, 2, 3, 4, 5, 6, 7, 8, 9]] [.op (some 55) none (.fld 1 [true] (.t 12)), .op (some 56) none (.load false 1 (.t 55)), .op (some 57) none (.fld 1 [true] (.t 11)), .op (some 58) none (.load false 1 (.t 57)), .op (some 59) none (.mv (.t 13)), .op (some 60) none (.idx 1 (.t 58) (.t 59)), .op (some 61) none (.load false 1 (.t 60)), .op (some 62) none (.bslice tI [.t 61]), .op (some 63) none (.append 1 (.t 56) (.t 62)), .op (some 64) none (.fld 1 [true] (.t 12)), .op none none (.store 1 (.t 64) (.t 63))])) 85), (5, .cells [.hole (.int .u64)] false), (9, .dfr), (0, .cells [.nsl] false), (1, .cells [.hole (.list (.prod tI tL)), .ifcs 132 false (.cons (.hole (.list (.ifc 55 true (.prod tI tL)))) .nil), .hole tI, .hole (.int .u64)] false), (2, .cells [.sl0 11 (.prod tI tL)] false), (3, .cells [.hole tI, .hole tL] false), (4, .cells [.hole tI, .sl0 12 tI] false), (6, .dfr), (7, .dfr), (11, .arr (.prod tI tL) false), (12, .arr tI false)] [.cell 2 0, .cell 4 1] []
@[reducible] def x29_1m2i_0 : Outs := [(.exit 0, Pat.mk [] [(0, .cells [.nsl] false), (1, .cells [.hole (.list (.prod tI tL)), .ifcs 132 false (.cons (.hole (.list (.ifc 55 true (.prod tI tL)))) .nil), .hole tI, .hole (.int .u64)] false), (2, .cells [.sl0 11 (.prod tI tL)] false), (3, .cells [.hole tI, .hole tL] false), (4, .cells [.hole tI, .sl0 12 tI] false), (5, .cells [.hole (.int .u64)] false), (6, .dfr), (7, .dfr), (9, .dfr), (10, .loop .ready none 9 [(4, .c (.ptr 0 0)), (5, hI), (6, .c (.ptr 1 0)), (8, .c (.hole (.int .u64))), (9, .c (.ptr 2 0)), (11, .c (.ptr 3 0)), (12, .c (.ptr 4 0)), (40, .c (.hole (.list (.prod tI tL)))), (41, hI), (42, hI), (53, .fn 100 [] [.ptr 5 0])] [54] (.reg [.op (some 13) none (.mv (.t 54))]) (.block 4 (.draw [[], [0], [], [2], [], [2, 3, 4], [2, 3, 4, 5], [2, 3, 4, 5, 6], [0, 1, 2, 3, 4, 5, 6, 7], [0, 1, 2, 3, 4, 5, 6, 7, 8], [0, 1, 2, 3, 4, 5, 6, 7, 8, 9]] [.op (some 55) none (.fld 1 [true] (.t 12)), .op (some 56) none (.load false 1 (.t 55)), .op (some 57) none (.fld 1 [true] (.t 11)), .op (some 58) none (.load false 1 (.t 57)), .op (some 59) none (.mv (.t 13)), .op (some 60) none (.idx 1 (.t 58) (.t 59)), .op (some 61) none (.load false 1 (.t 60)), .op (some 62) none (.bslice tI [.t 61]), .op (some 63) none (.append 1 (.t 56) (.t 62)), .op (some 64) none (.fld 1 [true] (.t 12)), .op none none (.store 1 (.t 64) (.t 63))])) 85), (11, .arr (.prod tI tL) false), (12, .arr tI false)] [.cell 2 0, .cell 4 1] [])]
noncomputable def b29_1m2i_0 : D prog 14 none 11 := dO [] (pick (kd prog f100) [(0, false)]) 0
noncomputable def g29_1m2i_0 : Int × Int × (List (Int × List Int)) × Int × Int × Int × (List (Int × List Int)) × (List (Int × List Int)) × Int × Int × Nat × Int × List Int × Int × Nat × (List (Int × List Int)) × List Int × Unit → Tr0 ((Int × Int × (List (Int × List Int)) × Int × Int × Int × (List (Int × List Int)) × (List (Int × List Int)) × Int × Int × Nat × Int × List Int × Int × Nat × (List (Int × List Int)) × List Int × Unit) ⊕ (((List (Int × List Int)) × (List (Int × List Int)) × Int × Int × Nat × Int × List Int × Int × Nat × Int × Int × Int × (List (Int × List Int)) × Int × Int × (List (Int × List Int)) × List Int × Unit))) := fun (w5, w8, w40, w41, w42, c5_0, c1_0, c1_1c0, c1_2, c1_3, nc2_0, c3_0, c3_1, c4_0, nc4_1, b11, b12, _) =>
 .br (!(c5_0 == (0 : Int))) (
 .bd (F101 c5_0) fun y17 =>
 .nb y17.1 (((c3_1).length : Nat) : Int) <|
 .nd (decide ((nc4_1 + (((((((c3_1).getD (Int.toNat y17.1) (0 : Int)) :: [])).drop (0 : Nat)).take (1 : Nat))).length) < bigL)) <|
 .nd (rng .u64 (c5_0 - (1 : Int))) <|
 .ret (.inl (w5, (w8, (w40, (w41, (w42, ((ar0.bits Go.AM.IBin.and Go.IntKind.u64 c5_0 (c5_0 - (1 : Int))), (c1_0, (c1_1c0, (c1_2, (c1_3, (nc2_0, (c3_0, (c3_1, (c4_0, ((nc4_1 + (((((((c3_1).getD (Int.toNat y17.1) (0 : Int)) :: [])).drop (0 : Nat)).take (1 : Nat))).length), (b11, (((((b12).drop (0 : Nat)).take nc4_1) ++ ((((((c3_1).getD (Int.toNat y17.1) (0 : Int)) :: [])).drop (0 : Nat)).take (1 : Nat))), ()))))))))))))))))))) (
 .ret (.inr (c1_0, (c1_1c0, (c1_2, (c1_3, (nc2_0, (c3_0, (c3_1, (c4_0, (nc4_1, (c5_0, (w5, (w8, (w40, (w41, (w42, (b11, (b12, ())))))))))))))))))))
theorem s29_1m2i_0 : ∀ x, roundE (kzO (p29_1m2i_0.T ⊕ x29_1m2i_0.T)) cx29_1m2i ar0 [0, 1, 2, 3, 4, 5, 6, 7, 8, 9, 10] p29_1m2i_0 x29_1m2i_0 (b29_1m2i_0) (fun y => some (.inl y)) (fun b => some (.inr b)) x = run0 (g29_1m2i_0 x) := fun x => by kernel_rfl
noncomputable def L29_1m2i_0 : LoopS prog 14 none 11 := mkLoop mixed cx29_1m2i cx29_1m2i_ok [0, 1, 2, 3, 4, 5, 6, 7, 8, 9, 10] rfl p29_1m2i_0 x29_1m2i_0 rfl (b29_1m2i_0) (fun x => run0 (g29_1m2i_0 x)) (s29_1m2i_0)
@[reducible] def p29_1m2 : Pat := Pat.mk [(4, .c (.ptr 0 0)), (5, hI), (6, .c (.ptr 1 0)), (8, .c (.hole (.int .u64))), (9, .c (.ptr 2 0)), (11, .c (.ptr 3 0)), (12, .c (.ptr 4 0)), (40, .c (.hole (.list (.prod tI tL)))), (41, hI), (42, hI), (53, .fn 100 [] [.ptr 5 0])] [(0, .cells [.nsl] false), (1, .cells [.hole (.list (.prod tI tL)), .ifcs 132 false (.cons (.hole (.list (.ifc 55 true (.prod tI tL)))) .nil), .hole tI, .hole (.int .u64)] false), (2, .cells [.sl0 8 (.prod tI tL)] false), (3, .cells [.hole tI, .hole tL] false), (4, .cells [.hole tI, .nsl] false), (5, .cells [.hole (.int .u64)] false), (6, .dfr), (7, .dfr), (8, .arr (.prod tI tL) false)] [.slot 4, .slot 6, .slot 9, .slot 11, .slot 12, .part 53 0, .mark 0, .mark 1, .cell 2 0] [6, 7]
@[reducible] def x29_1m2 : Outs := [(.normal, Pat.mk [(4, .c (.ptr 0 0)), (5, hI), (6, .c (.ptr 1 0)), (8, .c (.hole (.int .u64))), (9, .c (.ptr 2 0)), (11, .c (.ptr 3 0)), (12, .c (.ptr 4 0)), (40, .c (.hole (.list (.prod tI tL)))), (41, hI), (42, hI)] [(0, .cells [.nsl] false), (1, .cells [.hole (.list (.prod tI tL)), .ifcs 132 false (.cons (.hole (.list (.ifc 55 true (.prod tI tL)))) .nil), .hole tI, .hole (.int .u64)] false), (2, .cells [.sl0 8 (.prod tI tL)] false), (3, .cells [.hole tI, .hole tL] false), (4, .cells [.hole tI, .sl0 9 tI] false), (5, .dfr), (6, .dfr), (7, .dfr), (8, .arr (.prod tI tL) false), (9, .arr tI false)] [.slot 4, .slot 6, .slot 9, .slot 11, .slot 12, .mark 0, .mark 1, .mark 2, .cell 2 0, .cell 4 1] [5, 6, 7])]
noncomputable def b29_1m2i : D prog 14 none 11 := dO [.l L29_1m2i_0] (kd prog f100) 0
theorem ci29_1m2 : trF prog f100 = some ⟨14, 2, (b29_1m2i).er, [], []⟩ := by kernel_rfl
noncomputable def g29_1m2 : Int × Int × (List (Int × List Int)) × Int × Int × (List (Int × List Int)) × (List (Int × List Int)) × Int × Int × Nat × Int × List Int × Int × Int × (List (Int × List Int)) × Unit → Tr0 ((Int × Int × (List (Int × List Int)) × Int × Int × (List (Int × List Int)) × (List (Int × List Int)) × Int × Int × Nat × Int × List Int × Int × Nat × (List (Int × List Int)) × List Int × Unit)) := fun (v5, v8, v40, v41, v42, c1_0, c1_1c0, c1_2, c1_3, nc2_0, c3_0, c3_1, c4_0, c5_0, b8, _) =>
 .bd (.it g29_1m2i_0 (v5, (v8, (v40, (v41, (v42, (c5_0, (c1_0, (c1_1c0, (c1_2, (c1_3, (nc2_0, (c3_0, (c3_1, (c4_0, ((0 : Nat), (b8, ([], ())))))))))))))))))) fun z18 =>
 .ret ((v5, (v8, (v40, (v41, (v42, (z18.1, (z18.2.1, (z18.2.2.1, (z18.2.2.2.1, (z18.2.2.2.2.1, (z18.2.2.2.2.2.1, (z18.2.2.2.2.2.2.1, (z18.2.2.2.2.2.2.2.1, (z18.2.2.2.2.2.2.2.2.1, (z18.2.2.2.2.2.2.2.2.2.2.2.2.2.2.2.1, (z18.2.2.2.2.2.2.2.2.2.2.2.2.2.2.2.2.1, ())))))))))))))))))
theorem s29_1m2 : ∀ x, rangeE (N := 85) (out := none) (base := 0) (kzO x29_1m2.T) cx29_1m2i ar0 [] p29_1m2 x29_1m2 ( .t 53) [54] (ad29_1m0).er (bd29_1m0).er [] 2 100 (b29_1m2i) some x = run0 (g29_1m2 x) := fun x => by kernel_rfl
noncomputable def T29_1m2 : RangeT prog 85 none 0 ( .t 53) [54] (ad29_1m0).er (bd29_1m0).er := mkRangeT mixed cx29_1m2i cx29_1m2i_ok [] rfl p29_1m2 x29_1m2 ( .t 53) [54] rfl (ad29_1m0).er (bd29_1m0).er 100 func100 (ci29_1m2) (enters_of func100 rfl rfl) 11 rfl (b29_1m2i) rfl (fun x => run0 (g29_1m2 x)) (s29_1m2)
noncomputable def ad29_1m3 : D prog 85 (some 11) 14 := dO [] (pick (kd prog f29) [(0, false), (0, false)]) 0
noncomputable def bd29_1m3 : D prog 85 (some 11) 14 := dO [] (pick (kd prog f29) [(0, false), (0, true)]) 0
noncomputable def cx29_1m3i : Cx := itCx cx29 (fun kz => rdK kz cx29 ar0 11 14 [54] (ad29_1m3) (bd29_1m3))
theorem cx29_1m3i_ok : (cx29_1m3i).Ok prog := itCx_ok cx29_ok (fun h => rdK_ok mixed cx29_ok h)
@[reducible] def p29_1m3i_0 : Pat := Pat.mk [(0, .c (.yl 11)), (1, .c (.ptr 5 0))] [(11, .loop .ready none 10 [(4, .c (.ptr 0 0)), (5, hI), (6, .c (.ptr 1 0)), (8, .c (.hole (.int .u64))), (9, .c (.ptr 2 0)), (11, .c (.ptr 3 0)), (12, .c (.ptr 4 0)), (40, .c (.hole (.list (.prod tI tL)))), (41, hI), (42, hI), (53, .fn 100 [] [.ptr 5 0])] [54] (.reg [.op (some 13) none (.mv (.t 54))]) (.block 4 (.draw [[], [0], [], [2], [], [2, 3, 4], [2, 3, 4, 5], [2, 3, 4, 5, 6], [0, 1, 2, 3, 4, 5, 6, 7], [0, 1, 2, 3, 4, 5, 6, 7, 8], [0, 1, 2, 3, 4, 5, 6, 7, 8, 9]] [.op (some 55) none (.fld 1 [true] (.t 12)), .op (some 56) none (.load false 1 (.t 55)), .op (some 57) none (.fld 1 [true] (.t 11)), .op (some 58) none (.load false 1 (.t 57)), .op (some 59) none (.mv (.t 13)), .op (some 60) none (.idx 1 (.t 58) (.t 59)), .op (some 61) none (.load false 1 (.t 60)), .op (some 62) none (.bslice tI [.t 61]), .op (some 63) none (.append 1 (.t 56) (.t 62)), .op (some 64) none (.fld 1 [true] (.t 12)), .op none none (.store 1 (.t 64) (.t 63))])) 85), (5, .cells [.hole (.int .u64)] false), (10, .dfr), (0, .cells [.nsl] false), (1, .cells [.hole (.list (.prod tI tL)), .ifcs 132 false (.cons (.hole (.list (.ifc 55 true (.prod tI tL)))) .nil), .hole tI, .hole (.int .u64)] false), (2, .cells [.sl0 12 (.prod tI tL)] false), (3, .cells [.hole tI, .hole tL] false), (4, .cells [.hole tI, .sl0 13 tI] false), (6, .dfr), (7, .dfr), (8, .dfr), (12, .arr (.prod tI tL) false), (13, .arr tI false)] [.cell 2 0, .cell 4 1] []
@[reducible] def x29_1m3i_0 : Outs := [(.exit 0, Pat.mk [] [(0, .cells [.nsl] false), (1, .cells [.hole (.list (.prod tI tL)), .ifcs 132 false (.cons (.hole (.list (.ifc 55 true (.prod tI tL)))) .nil), .hole tI, .hole (.int .u64)] false), (2, .cells [.sl0 12 (.prod tI tL)] false), (3, .cells [.hole tI, .hole tL] false), (4, .cells [.hole tI, .sl0 13 tI] false), (5, .cells [.hole (.int .u64)] false), (6, .dfr), (7, .dfr), (8, .dfr), (10, .dfr), (11, .loop .ready none 10 [(4, .c (.ptr 0 0)), (5, hI), (6, .c (.ptr 1 0)), (8, .c (.hole (.int .u64))), (9, .c (.ptr 2 0)), (11, .c (.ptr 3 0)), (12, .c (.ptr 4 0)), (40, .c (.hole (.list (.prod tI tL)))), (41, hI), (42, hI), (53, .fn 100 [] [.ptr 5 0])] [54] (.reg [.op (some 13) none (.mv (.t 54))]) (.block 4 (.draw [[], [0], [], [2], [], [2, 3, 4], [2, 3, 4, 5], [2, 3, 4, 5, 6], [0, 1, 2, 3, 4, 5, 6, 7], [0, 1, 2, 3, 4, 5, 6, 7, 8], [0, 1, 2, 3, 4, 5, 6, 7, 8, 9]] [.op (some 55) none (.fld 1 [true] (.t 12)), .op (some 56) none (.load false 1 (.t 55)), .op (some 57) none (.fld 1 [true] (.t 11)), .op (some 58) none (.load false 1 (.t 57)), .op (some 59) none (.mv (.t 13)), .op (some 60) none (.idx 1 (.t 58) (.t 59)), .op (some 61) none (.load false 1 (.t 60)), .op (some 62) none (.bslice tI [.t 61]), .op (some 63) none (.append 1 (.t 56) (.t 62)), .op (some 64) none (.fld 1 [true] (.t 12)), .op none none (.store 1 (.t 64) (.t 63))])) 85), (12, .arr (.prod tI tL) false), (13, .arr tI false)] [.cell 2 0, .cell 4 1] [])]
noncomputable def b29_1m3i_0 : D prog 14 none 12 := dO [] (pick (kd prog f100) [(0, false)]) 0
noncomputable def g29_1m3i_0 : Int × Int × (List (Int × List Int)) × Int × Int × Int × (List (Int × List Int)) × (List (Int × List Int)) × Int × Int × Nat × Int × List Int × Int × Nat × (List (Int × List Int)) × List Int × Unit → Tr0 ((Int × Int × (List (Int × List Int)) × Int × Int × Int × (List (Int × List Int)) × (List (Int × List Int)) × Int × Int × Nat × Int × List Int × Int × Nat × (List (Int × List Int)) × List Int × Unit) ⊕ (((List (Int × List Int)) × (List (Int × List Int)) × Int × Int × Nat × Int × List Int × Int × Nat × Int × Int × Int × (List (Int × List Int)) × Int × Int × (List (Int × List Int)) × List Int × Unit))) := fun (w5, w8, w40, w41, w42, c5_0, c1_0, c1_1c0, c1_2, c1_3, nc2_0, c3_0, c3_1, c4_0, nc4_1, b12, b13, _) =>
 .br (!(c5_0 == (0 : Int))) (
 .bd (F101 c5_0) fun y22 =>
 .nb y22.1 (((c3_1).length : Nat) : Int) <|
 .nd (decide ((nc4_1 + (((((((c3_1).getD (Int.toNat y22.1) (0 : Int)) :: [])).drop (0 : Nat)).take (1 : Nat))).length) < bigL)) <|
 .nd (rng .u64 (c5_0 - (1 : Int))) <|
 .ret (.inl (w5, (w8, (w40, (w41, (w42, ((ar0.bits Go.AM.IBin.and Go.IntKind.u64 c5_0 (c5_0 - (1 : Int))), (c1_0, (c1_1c0, (c1_2, (c1_3, (nc2_0, (c3_0, (c3_1, (c4_0, ((nc4_1 + (((((((c3_1).getD (Int.toNat y22.1) (0 : Int)) :: [])).drop (0 : Nat)).take (1 : Nat))).length), (b12, (((((b13).drop (0 : Nat)).take nc4_1) ++ ((((((c3_1).getD (Int.toNat y22.1) (0 : Int)) :: [])).drop (0 : Nat)).take (1 : Nat))), ()))))))))))))))))))) (
 .ret (.inr (c1_0, (c1_1c0, (c1_2, (c1_3, (nc2_0, (c3_0, (c3_1, (c4_0, (nc4_1, (c5_0, (w5, (w8, (w40, (w41, (w42, (b12, (b13, ())))))))))))))))))))
theorem s29_1m3i_0 : ∀ x, roundE (kzO (p29_1m3i_0.T ⊕ x29_1m3i_0.T)) cx29_1m3i ar0 [0, 1, 2, 3, 4, 5, 6, 7, 8, 9, 10, 11] p29_1m3i_0 x29_1m3i_0 (b29_1m3i_0) (fun y => some (.inl y)) (fun b => some (.inr b)) x = run0 (g29_1m3i_0 x) := fun x => by kernel_rfl
noncomputable def L29_1m3i_0 : LoopS prog 14 none 12 := mkLoop mixed cx29_1m3i cx29_1m3i_ok [0, 1, 2, 3, 4, 5, 6, 7, 8, 9, 10, 11] rfl p29_1m3i_0 x29_1m3i_0 rfl (b29_1m3i_0) (fun x => run0 (g29_1m3i_0 x)) (s29_1m3i_0)
@[reducible] def p29_1m3 : Pat := Pat.mk [(4, .c (.ptr 0 0)), (5, hI), (6, .c (.ptr 1 0)), (8, .c (.hole (.int .u64))), (9, .c (.ptr 2 0)), (11, .c (.ptr 3 0)), (12, .c (.ptr 4 0)), (40, .c (.hole (.list (.prod tI tL)))), (41, hI), (42, hI), (53, .fn 100 [] [.ptr 5 0])] [(0, .cells [.nsl] false), (1, .cells [.hole (.list (.prod tI tL)), .ifcs 132 false (.cons (.hole (.list (.ifc 55 true (.prod tI tL)))) .nil), .hole tI, .hole (.int .u64)] false), (2, .cells [.sl0 9 (.prod tI tL)] false), (3, .cells [.hole tI, .hole tL] false), (4, .cells [.hole tI, .nsl] false), (5, .cells [.hole (.int .u64)] false), (6, .dfr), (7, .dfr), (8, .dfr), (9, .arr (.prod tI tL) false)] [.slot 4, .slot 6, .slot 9, .slot 11, .slot 12, .part 53 0, .mark 0, .mark 1, .mark 2, .cell 2 0] [6, 7, 8]
@[reducible] def x29_1m3 : Outs := [(.normal, Pat.mk [(4, .c (.ptr 0 0)), (5, hI), (6, .c (.ptr 1 0)), (8, .c (.hole (.int .u64))), (9, .c (.ptr 2 0)), (11, .c (.ptr 3 0)), (12, .c (.ptr 4 0)), (40, .c (.hole (.list (.prod tI tL)))), (41, hI), (42, hI)] [(0, .cells [.nsl] false), (1, .cells [.hole (.list (.prod tI tL)), .ifcs 132 false (.cons (.hole (.list (.ifc 55 true (.prod tI tL)))) .nil), .hole tI, .hole (.int .u64)] false), (2, .cells [.sl0 9 (.prod tI tL)] false), (3, .cells [.hole tI, .hole tL] false), (4, .cells [.hole tI, .sl0 10 tI] false), (5, .dfr), (6, .dfr), (7, .dfr), (8, .dfr), (9, .arr (.prod tI tL) false), (10, .arr tI false)] [.slot 4, .slot 6, .slot 9, .slot 11, .slot 12, .mark 0, .mark 1, .mark 2, .mark 3, .cell 2 0, .cell 4 1] [5, 6, 7, 8])]
noncomputable def b29_1m3i : D prog 14 none 12 := dO [.l L29_1m3i_0] (kd prog f100) 0
theorem ci29_1m3 : trF prog f100 = some ⟨14, 2, (b29_1m3i).er, [], []⟩ := by kernel_rfl
noncomputable def g29_1m3 : Int × Int × (List (Int × List Int)) × Int × Int × (List (Int × List Int)) × (List (Int × List Int)) × Int × Int × Nat × Int × List Int × Int × Int × (List (Int × List Int)) × Unit → Tr0 ((Int × Int × (List (Int × List Int)) × Int × Int × (List (Int × List Int)) × (List (Int × List Int)) × Int × Int × Nat × Int × List Int × Int × Nat × (List (Int × List Int)) × List Int × Unit)) := fun (v5, v8, v40, v41, v42, c1_0, c1_1c0, c1_2, c1_3, nc2_0, c3_0, c3_1, c4_0, c5_0, b9, _) =>
 .bd (.it g29_1m3i_0 (v5, (v8, (v40, (v41, (v42, (c5_0, (c1_0, (c1_1c0, (c1_2, (c1_3, (nc2_0, (c3_0, (c3_1, (c4_0, ((0 : Nat), (b9, ([], ())))))))))))))))))) fun z23 =>
 .ret ((v5, (v8, (v40, (v41, (v42, (z23.1, (z23.2.1, (z23.2.2.1, (z23.2.2.2.1, (z23.2.2.2.2.1, (z23.2.2.2.2.2.1, (z23.2.2.2.2.2.2.1, (z23.2.2.2.2.2.2.2.1, (z23.2.2.2.2.2.2.2.2.1, (z23.2.2.2.2.2.2.2.2.2.2.2.2.2.2.2.1, (z23.2.2.2.2.2.2.2.2.2.2.2.2.2.2.2.2.1, ())))))))))))))))))
theorem s29_1m3 : ∀ x, rangeE (N := 85) (out := none) (base := 0) (kzO x29_1m3.T) cx29_1m3i ar0 [] p29_1m3 x29_1m3 ( .t 53) [54] (ad29_1m0).er (bd29_1m0).er [] 2 100 (b29_1m3i) some x = run0 (g29_1m3 x) := fun x => by kernel_rfl
noncomputable def T29_1m3 : RangeT prog 85 none 0 ( .t 53) [54] (ad29_1m0).er (bd29_1m0).er := mkRangeT mixed cx29_1m3i cx29_1m3i_ok [] rfl p29_1m3 x29_1m3 ( .t 53) [54] rfl (ad29_1m0).er (bd29_1m0).er 100 func100 (ci29_1m3) (enters_of func100 rfl rfl) 12 rfl (b29_1m3i) rfl (fun x => run0 (g29_1m3 x)) (s29_1m3)
noncomputable def R29_1 : RangeS prog 85 none 0 := RangeT.s (altR 0 T29_1m0 (altR 1 T29_1m1 (altR 2 T29_1m2 T29_1m3)))
noncomputable def b29_0 : D prog 85 none 0 := dO [.r R29_1] (pick (kd prog f29) [(0, false)]) 0
noncomputable def L29_0 : LoopS prog 85 none 0 := mkUnr mixed cx29 cx29_ok (b29_0) 4
noncomputable def dd29 : D prog 85 none 0 := dO [.l L29_0] (kd prog f29) 0
noncomputable def F29 (a0_0 : List (Int × List Int)) (a1 : List Int) : Tr0 (((List (Int × List Int)) × Unit) × Int × Unit) :=
 .bd (F66 a0_0) fun y0 =>
 .sm y0 (fun y1 =>
 .br (!(y1.2.2.2.1 == (0 : Int))) (
 .ret (([], ()), (y1.2.2.2.1, ()))) (
 .bd (F72 y1.1 y1.2.1 y1.2.2.1 a1) fun y2 =>
 .br (!(y2.2.1 == (0 : Int))) (
 .ret (([], ()), (y2.2.1, ()))) (
 .br (y2.1 == (0 : Int)) (
 .ret (([], ()), ((4 : Int), ()))) (
 .br (decide ((0 : Int) < (((a0_0).length : Nat) : Int))) (
 .nb (0 : Int) (((a0_0).length : Nat) : Int) <|
 .bd (FH77 (ar0.bits Go.AM.IBin.andNot Go.IntKind.u64 y1.2.2.1 y2.1)) fun y3 =>
 .no) (
 .ret (([], ()), ((0 : Int), ()))))))) fun y6 =>
 .br (!(y6.2.2.2.2.1 == (0 : Int))) (
 .ret (([], ()), (y6.2.2.2.2.1, ()))) (
 .bd (F72_v1 y6.1 y6.2.1 y6.2.2.1 y6.2.2.2.1 a1) fun y7 =>
 .br (!(y7.2.1 == (0 : Int))) (
 .ret (([], ()), (y7.2.1, ()))) (
 .br (y7.1 == (0 : Int)) (
 .ret (([], ()), ((4 : Int), ()))) (
 .br (decide ((0 : Int) < (((a0_0).length : Nat) : Int))) (
 .nb (0 : Int) (((a0_0).length : Nat) : Int) <|
 .bd (FH77 (ar0.bits Go.AM.IBin.andNot Go.IntKind.u64 y6.2.2.2.1 y7.1)) fun y8 =>
 .bd (g29_1m0 ((0 : Int), (y7.1, (a0_0, ((((a0_0).length : Nat) : Int), ((0 : Int), (y6.1, (y6.2.1, (y6.2.2.1, (y6.2.2.2.1, (((a0_0).getD (Int.toNat (0 : Int)) ((0 : Int), [])).1, (((a0_0).getD (Int.toNat (0 : Int)) ((0 : Int), [])).2, (((a0_0).getD (Int.toNat (0 : Int)) ((0 : Int), [])).1, (y8.1, ())))))))))))))) fun z9 =>
 .bd (F78 (z9.2.2.2.2.2.2.2.2.2.1, z9.2.2.2.2.2.2.2.2.2.2.1) z9.2.1) fun y10 =>
 .br (decide ((1000000 : Int) < y10.1)) (
 .ret (([], ()), ((10 : Int), ()))) (
 .nd (decide ((z9.2.2.2.2.2.2.2.2.2.2.2.2.1 + (((((y10.1 :: [])).drop (0 : Nat)).take (1 : Nat))).length) < bigL)) <|
 .nd (decide (((((((z9.2.2.2.2.2.2.2.2.2.2.2.1, (((((((z9.2.2.2.2.2.2.2.2.2.2.2.2.2.1).drop (0 : Nat)).take z9.2.2.2.2.2.2.2.2.2.2.2.2.1) ++ ((((y10.1 :: [])).drop (0 : Nat)).take (1 : Nat)))).drop (0 : Nat)).take (z9.2.2.2.2.2.2.2.2.2.2.2.2.1 + (((((y10.1 :: [])).drop (0 : Nat)).take (1 : Nat))).length))) :: [])).drop (0 : Nat)).take (1 : Nat))).length < bigL)) <|
 .ni (z9.2.2.2.2.1 + (1 : Int)) <|
 .br (decide ((z9.2.2.2.2.1 + (1 : Int)) < z9.2.2.2.1)) (
 .nb (z9.2.2.2.2.1 + (1 : Int)) (((z9.2.2.1).length : Nat) : Int) <|
 .bd (FH77 (ar0.bits Go.AM.IBin.andNot Go.IntKind.u64 z9.2.2.2.2.2.2.2.2.1 z9.2.1)) fun y11 =>
 .bd (g29_1m1 (z9.1, (z9.2.1, (z9.2.2.1, (z9.2.2.2.1, ((z9.2.2.2.2.1 + (1 : Int)), (z9.2.2.2.2.2.1, (z9.2.2.2.2.2.2.1, (z9.2.2.2.2.2.2.2.1, (z9.2.2.2.2.2.2.2.2.1, (((((((z9.2.2.2.2.2.2.2.2.2.2.2.1, (((((((z9.2.2.2.2.2.2.2.2.2.2.2.2.2.1).drop (0 : Nat)).take z9.2.2.2.2.2.2.2.2.2.2.2.2.1) ++ ((((y10.1 :: [])).drop (0 : Nat)).take (1 : Nat)))).drop (0 : Nat)).take (z9.2.2.2.2.2.2.2.2.2.2.2.2.1 + (((((y10.1 :: [])).drop (0 : Nat)).take (1 : Nat))).length))) :: [])).drop (0 : Nat)).take (1 : Nat))).length, (((z9.2.2.1).getD (Int.toNat (z9.2.2.2.2.1 + (1 : Int))) ((0 : Int), [])).1, (((z9.2.2.1).getD (Int.toNat (z9.2.2.2.2.1 + (1 : Int))) ((0 : Int), [])).2, (((z9.2.2.1).getD (Int.toNat (z9.2.2.2.2.1 + (1 : Int))) ((0 : Int), [])).1, (y11.1, ((((((z9.2.2.2.2.2.2.2.2.2.2.2.1, (((((((z9.2.2.2.2.2.2.2.2.2.2.2.2.2.1).drop (0 : Nat)).take z9.2.2.2.2.2.2.2.2.2.2.2.2.1) ++ ((((y10.1 :: [])).drop (0 : Nat)).take (1 : Nat)))).drop (0 : Nat)).take (z9.2.2.2.2.2.2.2.2.2.2.2.2.1 + (((((y10.1 :: [])).drop (0 : Nat)).take (1 : Nat))).length))) :: [])).drop (0 : Nat)).take (1 : Nat)), ())))))))))))))))) fun z14 =>
 .bd (F78 (z14.2.2.2.2.2.2.2.2.2.2.1, z14.2.2.2.2.2.2.2.2.2.2.2.1) z14.2.1) fun y15 =>
 .br (decide ((1000000 : Int) < y15.1)) (
 .ret (([], ()), ((10 : Int), ()))) (
 .nd (decide ((z14.2.2.2.2.2.2.2.2.2.2.2.2.2.1 + (((((y15.1 :: [])).drop (0 : Nat)).take (1 : Nat))).length) < bigL)) <|
 .nd (decide ((z14.2.2.2.2.2.2.2.2.2.1 + ((((((z14.2.2.2.2.2.2.2.2.2.2.2.2.1, (((((((z14.2.2.2.2.2.2.2.2.2.2.2.2.2.2.2.1).drop (0 : Nat)).take z14.2.2.2.2.2.2.2.2.2.2.2.2.2.1) ++ ((((y15.1 :: [])).drop (0 : Nat)).take (1 : Nat)))).drop (0 : Nat)).take (z14.2.2.2.2.2.2.2.2.2.2.2.2.2.1 + (((((y15.1 :: [])).drop (0 : Nat)).take (1 : Nat))).length))) :: [])).drop (0 : Nat)).take (1 : Nat))).length) < bigL)) <|
 .ni (z14.2.2.2.2.1 + (1 : Int)) <|
 .br (decide ((z14.2.2.2.2.1 + (1 : Int)) < z14.2.2.2.1)) (
 .nb (z14.2.2.2.2.1 + (1 : Int)) (((z14.2.2.1).length : Nat) : Int) <|
 .bd (FH77 (ar0.bits Go.AM.IBin.andNot Go.IntKind.u64 z14.2.2.2.2.2.2.2.2.1 z14.2.1)) fun y16 =>
 .bd (g29_1m2 (z14.1, (z14.2.1, (z14.2.2.1, (z14.2.2.2.1, ((z14.2.2.2.2.1 + (1 : Int)), (z14.2.2.2.2.2.1, (z14.2.2.2.2.2.2.1, (z14.2.2.2.2.2.2.2.1, (z14.2.2.2.2.2.2.2.2.1, ((z14.2.2.2.2.2.2.2.2.2.1 + ((((((z14.2.2.2.2.2.2.2.2.2.2.2.2.1, (((((((z14.2.2.2.2.2.2.2.2.2.2.2.2.2.2.2.1).drop (0 : Nat)).take z14.2.2.2.2.2.2.2.2.2.2.2.2.2.1) ++ ((((y15.1 :: [])).drop (0 : Nat)).take (1 : Nat)))).drop (0 : Nat)).take (z14.2.2.2.2.2.2.2.2.2.2.2.2.2.1 + (((((y15.1 :: [])).drop (0 : Nat)).take (1 : Nat))).length))) :: [])).drop (0 : Nat)).take (1 : Nat))).length), (((z14.2.2.1).getD (Int.toNat (z14.2.2.2.2.1 + (1 : Int))) ((0 : Int), [])).1, (((z14.2.2.1).getD (Int.toNat (z14.2.2.2.2.1 + (1 : Int))) ((0 : Int), [])).2, (((z14.2.2.1).getD (Int.toNat (z14.2.2.2.2.1 + (1 : Int))) ((0 : Int), [])).1, (y16.1, (((((z14.2.2.2.2.2.2.2.2.2.2.2.2.2.2.1).drop (0 : Nat)).take z14.2.2.2.2.2.2.2.2.2.1) ++ (((((z14.2.2.2.2.2.2.2.2.2.2.2.2.1, (((((((z14.2.2.2.2.2.2.2.2.2.2.2.2.2.2.2.1).drop (0 : Nat)).take z14.2.2.2.2.2.2.2.2.2.2.2.2.2.1) ++ ((((y15.1 :: [])).drop (0 : Nat)).take (1 : Nat)))).drop (0 : Nat)).take (z14.2.2.2.2.2.2.2.2.2.2.2.2.2.1 + (((((y15.1 :: [])).drop (0 : Nat)).take (1 : Nat))).length))) :: [])).drop (0 : Nat)).take (1 : Nat))), ())))))))))))))))) fun z19 =>
 .bd (F78 (z19.2.2.2.2.2.2.2.2.2.2.1, z19.2.2.2.2.2.2.2.2.2.2.2.1) z19.2.1) fun y20 =>
 .br (decide ((1000000 : Int) < y20.1)) (
 .ret (([], ()), ((10 : Int), ()))) (
 .nd (decide ((z19.2.2.2.2.2.2.2.2.2.2.2.2.2.1 + (((((y20.1 :: [])).drop (0 : Nat)).take (1 : Nat))).length) < bigL)) <|
 .nd (decide ((z19.2.2.2.2.2.2.2.2.2.1 + ((((((z19.2.2.2.2.2.2.2.2.2.2.2.2.1, (((((((z19.2.2.2.2.2.2.2.2.2.2.2.2.2.2.2.1).drop (0 : Nat)).take z19.2.2.2.2.2.2.2.2.2.2.2.2.2.1) ++ ((((y20.1 :: [])).drop (0 : Nat)).take (1 : Nat)))).drop (0 : Nat)).take (z19.2.2.2.2.2.2.2.2.2.2.2.2.2.1 + (((((y20.1 :: [])).drop (0 : Nat)).take (1 : Nat))).length))) :: [])).drop (0 : Nat)).take (1 : Nat))).length) < bigL)) <|
 .ni (z19.2.2.2.2.1 + (1 : Int)) <|
 .br (decide ((z19.2.2.2.2.1 + (1 : Int)) < z19.2.2.2.1)) (
 .nb (z19.2.2.2.2.1 + (1 : Int)) (((z19.2.2.1).length : Nat) : Int) <|
 .bd (FH77 (ar0.bits Go.AM.IBin.andNot Go.IntKind.u64 z19.2.2.2.2.2.2.2.2.1 z19.2.1)) fun y21 =>
 .bd (g29_1m3 (z19.1, (z19.2.1, (z19.2.2.1, (z19.2.2.2.1, ((z19.2.2.2.2.1 + (1 : Int)), (z19.2.2.2.2.2.1, (z19.2.2.2.2.2.2.1, (z19.2.2.2.2.2.2.2.1, (z19.2.2.2.2.2.2.2.2.1, ((z19.2.2.2.2.2.2.2.2.2.1 + ((((((z19.2.2.2.2.2.2.2.2.2.2.2.2.1, (((((((z19.2.2.2.2.2.2.2.2.2.2.2.2.2.2.2.1).drop (0 : Nat)).take z19.2.2.2.2.2.2.2.2.2.2.2.2.2.1) ++ ((((y20.1 :: [])).drop (0 : Nat)).take (1 : Nat)))).drop (0 : Nat)).take (z19.2.2.2.2.2.2.2.2.2.2.2.2.2.1 + (((((y20.1 :: [])).drop (0 : Nat)).take (1 : Nat))).length))) :: [])).drop (0 : Nat)).take (1 : Nat))).length), (((z19.2.2.1).getD (Int.toNat (z19.2.2.2.2.1 + (1 : Int))) ((0 : Int), [])).1, (((z19.2.2.1).getD (Int.toNat (z19.2.2.2.2.1 + (1 : Int))) ((0 : Int), [])).2, (((z19.2.2.1).getD (Int.toNat (z19.2.2.2.2.1 + (1 : Int))) ((0 : Int), [])).1, (y21.1, (((((z19.2.2.2.2.2.2.2.2.2.2.2.2.2.2.1).drop (0 : Nat)).take z19.2.2.2.2.2.2.2.2.2.1) ++ (((((z19.2.2.2.2.2.2.2.2.2.2.2.2.1, (((((((z19.2.2.2.2.2.2.2.2.2.2.2.2.2.2.2.1).drop (0 : Nat)).take z19.2.2.2.2.2.2.2.2.2.2.2.2.2.1) ++ ((((y20.1 :: [])).drop (0 : Nat)).take (1 : Nat)))).drop (0 : Nat)).take (z19.2.2.2.2.2.2.2.2.2.2.2.2.2.1 + (((((y20.1 :: [])).drop (0 : Nat)).take (1 : Nat))).length))) :: [])).drop (0 : Nat)).take (1 : Nat))), ())))))))))))))))) fun z24 =>
 .bd (F78 (z24.2.2.2.2.2.2.2.2.2.2.1, z24.2.2.2.2.2.2.2.2.2.2.2.1) z24.2.1) fun y25 =>
 .br (decide ((1000000 : Int) < y25.1)) (
 .ret (([], ()), ((10 : Int), ()))) (
 .nd (decide ((z24.2.2.2.2.2.2.2.2.2.2.2.2.2.1 + (((((y25.1 :: [])).drop (0 : Nat)).take (1 : Nat))).length) < bigL)) <|
 .nd (decide ((z24.2.2.2.2.2.2.2.2.2.1 + ((((((z24.2.2.2.2.2.2.2.2.2.2.2.2.1, (((((((z24.2.2.2.2.2.2.2.2.2.2.2.2.2.2.2.1).drop (0 : Nat)).take z24.2.2.2.2.2.2.2.2.2.2.2.2.2.1) ++ ((((y25.1 :: [])).drop (0 : Nat)).take (1 : Nat)))).drop (0 : Nat)).take (z24.2.2.2.2.2.2.2.2.2.2.2.2.2.1 + (((((y25.1 :: [])).drop (0 : Nat)).take (1 : Nat))).length))) :: [])).drop (0 : Nat)).take (1 : Nat))).length) < bigL)) <|
 .ni (z24.2.2.2.2.1 + (1 : Int)) <|
 .no)) (
 .ret (((((((((z19.2.2.2.2.2.2.2.2.2.2.2.2.2.2.1).drop (0 : Nat)).take z19.2.2.2.2.2.2.2.2.2.1) ++ (((((z19.2.2.2.2.2.2.2.2.2.2.2.2.1, (((((((z19.2.2.2.2.2.2.2.2.2.2.2.2.2.2.2.1).drop (0 : Nat)).take z19.2.2.2.2.2.2.2.2.2.2.2.2.2.1) ++ ((((y20.1 :: [])).drop (0 : Nat)).take (1 : Nat)))).drop (0 : Nat)).take (z19.2.2.2.2.2.2.2.2.2.2.2.2.2.1 + (((((y20.1 :: [])).drop (0 : Nat)).take (1 : Nat))).length))) :: [])).drop (0 : Nat)).take (1 : Nat)))).drop (0 : Nat)).take (z19.2.2.2.2.2.2.2.2.2.1 + ((((((z19.2.2.2.2.2.2.2.2.2.2.2.2.1, (((((((z19.2.2.2.2.2.2.2.2.2.2.2.2.2.2.2.1).drop (0 : Nat)).take z19.2.2.2.2.2.2.2.2.2.2.2.2.2.1) ++ ((((y20.1 :: [])).drop (0 : Nat)).take (1 : Nat)))).drop (0 : Nat)).take (z19.2.2.2.2.2.2.2.2.2.2.2.2.2.1 + (((((y20.1 :: [])).drop (0 : Nat)).take (1 : Nat))).length))) :: [])).drop (0 : Nat)).take (1 : Nat))).length)), ()), ((0 : Int), ()))))) (
 .ret (((((((((z14.2.2.2.2.2.2.2.2.2.2.2.2.2.2.1).drop (0 : Nat)).take z14.2.2.2.2.2.2.2.2.2.1) ++ (((((z14.2.2.2.2.2.2.2.2.2.2.2.2.1, (((((((z14.2.2.2.2.2.2.2.2.2.2.2.2.2.2.2.1).drop (0 : Nat)).take z14.2.2.2.2.2.2.2.2.2.2.2.2.2.1) ++ ((((y15.1 :: [])).drop (0 : Nat)).take (1 : Nat)))).drop (0 : Nat)).take (z14.2.2.2.2.2.2.2.2.2.2.2.2.2.1 + (((((y15.1 :: [])).drop (0 : Nat)).take (1 : Nat))).length))) :: [])).drop (0 : Nat)).take (1 : Nat)))).drop (0 : Nat)).take (z14.2.2.2.2.2.2.2.2.2.1 + ((((((z14.2.2.2.2.2.2.2.2.2.2.2.2.1, (((((((z14.2.2.2.2.2.2.2.2.2.2.2.2.2.2.2.1).drop (0 : Nat)).take z14.2.2.2.2.2.2.2.2.2.2.2.2.2.1) ++ ((((y15.1 :: [])).drop (0 : Nat)).take (1 : Nat)))).drop (0 : Nat)).take (z14.2.2.2.2.2.2.2.2.2.2.2.2.2.1 + (((((y15.1 :: [])).drop (0 : Nat)).take (1 : Nat))).length))) :: [])).drop (0 : Nat)).take (1 : Nat))).length)), ()), ((0 : Int), ()))))) (
 .ret ((((((((((z9.2.2.2.2.2.2.2.2.2.2.2.1, (((((((z9.2.2.2.2.2.2.2.2.2.2.2.2.2.1).drop (0 : Nat)).take z9.2.2.2.2.2.2.2.2.2.2.2.2.1) ++ ((((y10.1 :: [])).drop (0 : Nat)).take (1 : Nat)))).drop (0 : Nat)).take (z9.2.2.2.2.2.2.2.2.2.2.2.2.1 + (((((y10.1 :: [])).drop (0 : Nat)).take (1 : Nat))).length))) :: [])).drop (0 : Nat)).take (1 : Nat))).drop (0 : Nat)).take ((((((z9.2.2.2.2.2.2.2.2.2.2.2.1, (((((((z9.2.2.2.2.2.2.2.2.2.2.2.2.2.1).drop (0 : Nat)).take z9.2.2.2.2.2.2.2.2.2.2.2.2.1) ++ ((((y10.1 :: [])).drop (0 : Nat)).take (1 : Nat)))).drop (0 : Nat)).take (z9.2.2.2.2.2.2.2.2.2.2.2.2.1 + (((((y10.1 :: [])).drop (0 : Nat)).take (1 : Nat))).length))) :: [])).drop (0 : Nat)).take (1 : Nat))).length), ()), ((0 : Int), ()))))) (
 .ret (([], ()), ((0 : Int), ()))))))
theorem c29_ok : trF prog f29 = some ⟨85, 2, dd29.er, [.cell 4 true 1, .t 5], [some (.prod (.list (.prod tI tL)) .unit), some tI]⟩ := by kernel_rfl
noncomputable def ct29 : Ct := ⟨29, [.agg [.hole (.list (.prod tI tL))], hL], .tup [.hole (.prod (.list (.prod tI tL)) .unit), .hole tI], fun x => run0 (F29 x.1 x.2.1)⟩
theorem ct29_ok : ct29.Ok prog := ct_ok mixed cx29_ok func29 c29_ok (enters_of func29 rfl rfl) dd29 (by kernel_rfl) rfl (fun x => by kernel_rfl)

/- 57 -/
noncomputable def cx57 : Cx := mkCxH [ct54, ct53] []
theorem cx57_ok : cx57.Ok prog := mkCxH_ok ⟨ct54_ok, ct53_ok, trivial⟩ trivial
noncomputable def dd57 : D prog 5 none 0 := dO [] (kd prog f57) 0
noncomputable def F57 : Tr0 (((List (Int × List Int)) × Unit) × Unit) :=
 .bd (F54 (60 : Int) (((((40 : Int) :: ((30 : Int) :: ((20 : Int) :: ((10 : Int) :: []))))).drop (0 : Nat)).take (4 : Nat))) fun y0 =>
 .bd (F53 (((((y0.1.1, y0.1.2) :: [])).drop (0 : Nat)).take (1 : Nat))) fun y1 =>
 .ret ((y1.1.1, ()), ())
theorem c57_ok : trF prog f57 = some ⟨5, 0, dd57.er, [.cell 0 true 1], [some (.prod (.list (.prod tI tL)) .unit)]⟩ := by kernel_rfl
noncomputable def ct57 : Ct := ⟨57, [], .c (.hole (.prod (.list (.prod tI tL)) .unit)), fun x => run0 (F57)⟩
theorem ct57_ok : ct57.Ok prog := ct_ok mixed cx57_ok func57 c57_ok (enters_of func57 rfl rfl) dd57 (by kernel_rfl) rfl (fun x => by kernel_rfl)

/- 80 -/
noncomputable def cx80 : Cx := mkCxH [ct66, ct67] []
theorem cx80_ok : cx80.Ok prog := mkCxH_ok ⟨ct66_ok, ct67_ok, trivial⟩ trivial
noncomputable def dd80 : D prog 27 none 0 := dO [] (kd prog f80) 0
noncomputable def F80 (a0_0 : List (Int × List Int)) (a1 : Int) : Tr0 (((List (Int × List Int)) × Int × Int × Int × Unit) ⊕ ((List (Int × List Int)) × (List (Int × List Int)) × Int × Int × Int × Unit)) :=
 .bd (F66 a0_0) fun y0 =>
 .sm y0 (fun y1 =>
 .br (y1.2.2.2.1 == (0 : Int)) (
 .ni ((((a0_0).length : Nat) : Int) - (1 : Int)) <|
 .bd (F67 (0 : Int) a1 ((((a0_0).length : Nat) : Int) - (1 : Int))) fun y2 =>
 .br (!y2.1) (
 .ret (.inl ([], ((0 : Int), ((0 : Int), ((17 : Int), ())))))) (
 .ret (.inl (y1.1, (y1.2.1, (y1.2.2.1, (y1.2.2.2.1, ()))))))) (
 .ret (.inl (y1.1, (y1.2.1, (y1.2.2.1, (y1.2.2.2.1, ()))))))) fun y3 =>
 .br (y3.2.2.2.2.1 == (0 : Int)) (
 .ni ((((a0_0).length : Nat) : Int) - (1 : Int)) <|
 .bd (F67 (0 : Int) a1 ((((a0_0).length : Nat) : Int) - (1 : Int))) fun y4 =>
 .br (!y4.1) (
 .ret (.inl ([], ((0 : Int), ((0 : Int), ((17 : Int), ())))))) (
 .ret (.inr (y3.1, (y3.2.1, (y3.2.2.1, (y3.2.2.2.1, (y3.2.2.2.2.1, ())))))))) (
 .ret (.inr (y3.1, (y3.2.1, (y3.2.2.1, (y3.2.2.2.1, (y3.2.2.2.2.1, ())))))))
theorem c80_ok : trF prog f80 = some ⟨27, 2, dd80.er, [.cell 4 true 4, .t 5], [some (.prod (.prod (.list (.prod tI tL)) .unit) (.prod (.ifc 55 true (.prod tI tL)) (.prod tI (.int .u64)))), some tI]⟩ := by kernel_rfl
noncomputable def ct80 : Ct := ⟨80, [.agg [.hole (.list (.prod tI tL))], hI], .alt [.aggs (.cons (.hole (.list (.prod tI tL))) (.cons .nili (.cons (.hole tI) (.cons (.hole (.int .u64)) .nil)))), .hole tI] [.aggs (.cons (.hole (.list (.prod tI tL))) (.cons (.ifcs 132 false (.cons (.hole (.list (.ifc 55 true (.prod tI tL)))) .nil)) (.cons (.hole tI) (.cons (.hole (.int .u64)) .nil)))), .hole tI], fun x => run0 (F80 x.1 x.2.1)⟩
theorem ct80_ok : ct80.Ok prog := ct_ok mixed cx80_ok func80 c80_ok (enters_of func80 rfl rfl) dd80 (by kernel_rfl) rfl (fun x => by kernel_rfl)

/- 31 -/
noncomputable def cx31 : Cx := mkCxH [ct80, ct67, ct81, ct82, ct90, ct74, ct78, ct83, ct84, ct82_v1] []
theorem cx31_ok : cx31.Ok prog := mkCxH_ok ⟨ct80_ok, ct67_ok, ct81_ok, ct82_ok, ct90_ok, ct74_ok, ct78_ok, ct83_ok, ct84_ok, ct82_v1_ok, trivial⟩ trivial
noncomputable def ad31_0 : D prog 79 (some 6) 7 := dO [] (pick (kd prog f31) [(0, false)]) 0
noncomputable def bd31_0 : D prog 79 (some 6) 7 := dO [] (pick (kd prog f31) [(0, true)]) 0
noncomputable def cx31_0i : Cx := itCx cx31 (fun kz => rdK kz cx31 ar0 6 7 [48] (ad31_0) (bd31_0))
theorem cx31_0i_ok : (cx31_0i).Ok prog := itCx_ok cx31_ok (fun h => rdK_ok mixed cx31_ok h)
@[reducible] def p31_0i_0 : Pat := Pat.mk [(0, .c (.yl 6)), (1, .c (.ipcs (.cons (.hole (.list (.prod tI tL))) (.cons (.ifcs 132 false (.cons (.hole (.list (.ifc 55 true (.prod tI tL)))) .nil)) (.cons (.hole tI) (.cons (.hole (.int .u64)) .nil)))))), (2, .c (.ipc tL)), (4, .c (.hole (.int .u64)))] [(6, .loop .ready none 5 [(5, .c (.ptr 0 0)), (6, .c (.ptr 1 0)), (7, hI), (10, .c (.ptr 2 0)), (11, .c (.ptr 3 0)), (12, .c (.ptr 4 0)), (47, .fn 102 [] [.ipcs (.cons (.hole (.list (.prod tI tL))) (.cons (.ifcs 132 false (.cons (.hole (.list (.ifc 55 true (.prod tI tL)))) .nil)) (.cons (.hole tI) (.cons (.hole (.int .u64)) .nil)))), .ipc tL])] [48] (.reg [.op (some 13) none (.mv (.t 48))]) (.block 2 (.seq (.reg [.op (some 49) none (.mv (.t 13)), .op (some 50) none (.load false 1 (.t 5)), .call (some 51) none (.c (.fn 74 [] [])) [.t 49, .t 50] [some (.int .u64), some tI], .op (some 14) none (.mv (.t 51))]) (.seq (.draw [[], [0], [], [], [2, 3], [0, 1, 2, 3, 4], [0, 1, 2, 3, 4, 5]] [.op (some 52) none (.fld 0 [false] (.t 10)), .op (some 53) none (.load false 1 (.t 52)), .op (some 54) none (.load true 2 (.t 10)), .op (some 55) none (.mv (.t 13)), .call (some 56) none (.c (.fn 78 [] [])) [.t 54, .t 55] [some (.prod tI tL), some (.int .u64)], .op (some 57) none (.bin .sub (.t 53) (.t 56)), .op (some 15) none (.mv (.t 57))]) (.block 3 (.seq (.reg [.op (some 65) none (.load false 1 (.t 11)), .op (some 66) none (.mv (.t 14)), .call (some 67) none (.c (.fn 83 [] [])) [.t 65, .t 66] [some (.list (.ifc 55 true (.prod tI tL))), some (.int .u64)], .op (some 68) none (.not (.t 67)), .op (some 64) none (.mv (.t 68))]) (.cond (.t 64) .skip (.seq (.reg [.op (some 70) none (.load true 2 (.t 10)), .op (some 71) none (.mv (.t 14)), .call (some 72) none (.c (.fn 84 [] [])) [.t 70, .t 71] [some (.prod tI tL), some (.int .u64)], .op (some 69) none (.mv (.t 72))]) (.cond (.t 69) (.reg [.op (some 73) none (.fld 0 [false] (.t 12)), .op (some 74) none (.load false 1 (.t 73)), .op (some 75) none (.mv (.t 15)), .op (some 76) none (.minmax true (.t 74) [.t 75]), .op (some 77) none (.fld 0 [false] (.t 12)), .op none none (.store 1 (.t 77) (.t 76))]) (.reg [.op (some 58) none (.fld 1 [true] (.t 12)), .op (some 59) none (.load false 1 (.t 58)), .op (some 60) none (.mv (.t 15)), .op (some 61) none (.bin .sub (.t 60) (.c (.int .i64 (Int.ofNat 1)))), .op (some 62) none (.minmax false (.t 59) [.t 61]), .op (some 63) none (.fld 1 [true] (.t 12)), .op none none (.store 1 (.t 63) (.t 62))]))))))))) 79), (5, .dfr), (0, .cells [.hole tI] false), (1, .cells [.hole tI, .hole tI] false), (2, .cells [.hole tI, .hole tL] false), (3, .cells [.hole (.list (.ifc 55 true (.prod tI tL)))] false), (4, .cells [.hole tI, .hole tI] false)] [] []
@[reducible] def x31_0i_0 : Outs := [(.exit 0, Pat.mk [] [(0, .cells [.hole tI] false), (1, .cells [.hole tI, .hole tI] false), (2, .cells [.hole tI, .hole tL] false), (3, .cells [.hole (.list (.ifc 55 true (.prod tI tL)))] false), (4, .cells [.hole tI, .hole tI] false), (5, .dfr), (6, .loop .ready none 5 [(5, .c (.ptr 0 0)), (6, .c (.ptr 1 0)), (7, hI), (10, .c (.ptr 2 0)), (11, .c (.ptr 3 0)), (12, .c (.ptr 4 0)), (47, .fn 102 [] [.ipcs (.cons (.hole (.list (.prod tI tL))) (.cons (.ifcs 132 false (.cons (.hole (.list (.ifc 55 true (.prod tI tL)))) .nil)) (.cons (.hole tI) (.cons (.hole (.int .u64)) .nil)))), .ipc tL])] [48] (.reg [.op (some 13) none (.mv (.t 48))]) (.block 2 (.seq (.reg [.op (some 49) none (.mv (.t 13)), .op (some 50) none (.load false 1 (.t 5)), .call (some 51) none (.c (.fn 74 [] [])) [.t 49, .t 50] [some (.int .u64), some tI], .op (some 14) none (.mv (.t 51))]) (.seq (.draw [[], [0], [], [], [2, 3], [0, 1, 2, 3, 4], [0, 1, 2, 3, 4, 5]] [.op (some 52) none (.fld 0 [false] (.t 10)), .op (some 53) none (.load false 1 (.t 52)), .op (some 54) none (.load true 2 (.t 10)), .op (some 55) none (.mv (.t 13)), .call (some 56) none (.c (.fn 78 [] [])) [.t 54, .t 55] [some (.prod tI tL), some (.int .u64)], .op (some 57) none (.bin .sub (.t 53) (.t 56)), .op (some 15) none (.mv (.t 57))]) (.block 3 (.seq (.reg [.op (some 65) none (.load false 1 (.t 11)), .op (some 66) none (.mv (.t 14)), .call (some 67) none (.c (.fn 83 [] [])) [.t 65, .t 66] [some (.list (.ifc 55 true (.prod tI tL))), some (.int .u64)], .op (some 68) none (.not (.t 67)), .op (some 64) none (.mv (.t 68))]) (.cond (.t 64) .skip (.seq (.reg [.op (some 70) none (.load true 2 (.t 10)), .op (some 71) none (.mv (.t 14)), .call (some 72) none (.c (.fn 84 [] [])) [.t 70, .t 71] [some (.prod tI tL), some (.int .u64)], .op (some 69) none (.mv (.t 72))]) (.cond (.t 69) (.reg [.op (some 73) none (.fld 0 [false] (.t 12)), .op (some 74) none (.load false 1 (.t 73)), .op (some 75) none (.mv (.t 15)), .op (some 76) none (.minmax true (.t 74) [.t 75]), .op (some 77) none (.fld 0 [false] (.t 12)), .op none none (.store 1 (.t 77) (.t 76))]) (.reg [.op (some 58) none (.fld 1 [true] (.t 12)), .op (some 59) none (.load false 1 (.t 58)), .op (some 60) none (.mv (.t 15)), .op (some 61) none (.bin .sub (.t 60) (.c (.int .i64 (Int.ofNat 1)))), .op (some 62) none (.minmax false (.t 59) [.t 61]), .op (some 63) none (.fld 1 [true] (.t 12)), .op none none (.store 1 (.t 63) (.t 62))]))))))))) 79)] [] [])]
noncomputable def b31_0i_0 : D prog 22 none 7 := dO [] (pick (kd prog f102) [(0, false)]) 0
noncomputable def g31_0i_0 : (List (Int × List Int)) × (List (Int × List Int)) × Int × Int × List Int × Int × Int × (List (Int × List Int)) × (List (Int × List Int)) × Int × Int × List Int × Int × Int × Int × Int × List Int × (List (Int × List Int)) × Int × Int × Unit → Tr0 (((List (Int × List Int)) × (List (Int × List Int)) × Int × Int × List Int × Int × Int × (List (Int × List Int)) × (List (Int × List Int)) × Int × Int × List Int × Int × Int × Int × Int × List Int × (List (Int × List Int)) × Int × Int × Unit) ⊕ ((Int × Int × Int × Int × List Int × (List (Int × List Int)) × Int × Int × Int × (List (Int × List Int)) × (List (Int × List Int)) × Int × Int × List Int × Unit))) := fun (v1c0, v1c1c0, v1c2, v1c3, v2, v4, w7, w47_0c0, w47_0c1c0, w47_0c2, w47_0c3, w47_1, c0_0, c1_0, c1_1, c2_0, c2_1, c3_0, c4_0, c4_1, _) =>
 .br (decide (v4 ≤ v1c3)) (
 .bd (F90 v4 v2) fun y5 =>
 .br (v4 == y5.1) (
 .bd (F74 v4 c0_0) fun y6 =>
 .bd (F78 (c2_0, c2_1) v4) fun y7 =>
 .ni (c2_0 - y7.1) <|
 .bd (F83 c3_0 y6.1) fun y8 =>
 .br (!y8.1) (
 .nd (rng .u64 (v4 + (1 : Int))) <|
 .ret (.inl (v1c0, (v1c1c0, (v1c2, (v1c3, (v2, ((v4 + (1 : Int)), (w7, (w47_0c0, (w47_0c1c0, (w47_0c2, (w47_0c3, (w47_1, (c0_0, (c1_0, (c1_1, (c2_0, (c2_1, (c3_0, (c4_0, (c4_1, ())))))))))))))))))))))) (
 .bd (F84 (c2_0, c2_1) y6.1) fun y9 =>
 .br y9.1 (
 .nd (rng .u64 (v4 + (1 : Int))) <|
 .ret (.inl (v1c0, (v1c1c0, (v1c2, (v1c3, (v2, ((v4 + (1 : Int)), (w7, (w47_0c0, (w47_0c1c0, (w47_0c2, (w47_0c3, (w47_1, (c0_0, (c1_0, (c1_1, (c2_0, (c2_1, (c3_0, ((imax c4_0 (c2_0 - y7.1)), (c4_1, ())))))))))))))))))))))) (
 .ni ((c2_0 - y7.1) - (1 : Int)) <|
 .nd (rng .u64 (v4 + (1 : Int))) <|
 .ret (.inl (v1c0, (v1c1c0, (v1c2, (v1c3, (v2, ((v4 + (1 : Int)), (w7, (w47_0c0, (w47_0c1c0, (w47_0c2, (w47_0c3, (w47_1, (c0_0, (c1_0, (c1_1, (c2_0, (c2_1, (c3_0, (c4_0, ((imin c4_1 ((c2_0 - y7.1) - (1 : Int))), ())))))))))))))))))))))))) (
 .nd (rng .u64 (v4 + (1 : Int))) <|
 .ret (.inl (v1c0, (v1c1c0, (v1c2, (v1c3, (v2, ((v4 + (1 : Int)), (w7, (w47_0c0, (w47_0c1c0, (w47_0c2, (w47_0c3, (w47_1, (c0_0, (c1_0, (c1_1, (c2_0, (c2_1, (c3_0, (c4_0, (c4_1, ()))))))))))))))))))))))) (
 .ret (.inr (c0_0, (c1_0, (c1_1, (c2_0, (c2_1, (c3_0, (c4_0, (c4_1, (w7, (w47_0c0, (w47_0c1c0, (w47_0c2, (w47_0c3, (w47_1, ()))))))))))))))))
theorem s31_0i_0 : ∀ x, roundE (kzO (p31_0i_0.T ⊕ x31_0i_0.T)) cx31_0i ar0 [0, 1, 2, 3, 4, 5, 6] p31_0i_0 x31_0i_0 (b31_0i_0) (fun y => some (.inl y)) (fun b => some (.inr b)) x = run0 (g31_0i_0 x) := fun x => by kernel_rfl
noncomputable def L31_0i_0 : LoopS prog 22 none 7 := mkLoop mixed cx31_0i cx31_0i_ok [0, 1, 2, 3, 4, 5, 6] rfl p31_0i_0 x31_0i_0 rfl (b31_0i_0) (fun x => run0 (g31_0i_0 x)) (s31_0i_0)
@[reducible] def p31_0 : Pat := Pat.mk [(5, .c (.ptr 0 0)), (6, .c (.ptr 1 0)), (7, hI), (10, .c (.ptr 2 0)), (11, .c (.ptr 3 0)), (12, .c (.ptr 4 0)), (47, .fn 102 [] [.ipcs (.cons (.hole (.list (.prod tI tL))) (.cons (.ifcs 132 false (.cons (.hole (.list (.ifc 55 true (.prod tI tL)))) .nil)) (.cons (.hole tI) (.cons (.hole (.int .u64)) .nil)))), .ipc tL])] [(0, .cells [.hole tI] false), (1, .cells [.hole tI, .hole tI] false), (2, .cells [.hole tI, .hole tL] false), (3, .cells [.hole (.list (.ifc 55 true (.prod tI tL)))] false), (4, .cells [.hole tI, .hole tI] false)] [.slot 5, .slot 6, .slot 10, .slot 11, .slot 12] []
@[reducible] def x31_0 : Outs := [(.normal, Pat.mk [(6, .c (.ptr 0 0)), (12, .c (.ptr 1 0))] [(0, .cells [.hole tI, .hole tI] false), (1, .cells [.hole tI, .hole tI] false), (2, .dfr)] [.slot 6, .slot 12, .mark 0] [2])]
noncomputable def b31_0i : D prog 22 none 7 := dO [.l L31_0i_0] (kd prog f102) 0
theorem ci31_0 : trF prog f102 = some ⟨22, 3, (b31_0i).er, [], []⟩ := by kernel_rfl
noncomputable def g31_0 : Int × (List (Int × List Int)) × (List (Int × List Int)) × Int × Int × List Int × Int × Int × Int × Int × List Int × (List (Int × List Int)) × Int × Int × Unit → Tr0 ((Int × Int × Int × Int × Unit)) := fun (v7, v47_0c0, v47_0c1c0, v47_0c2, v47_0c3, v47_1, c0_0, c1_0, c1_1, c2_0, c2_1, c3_0, c4_0, c4_1, _) =>
 .bd (.it g31_0i_0 (v47_0c0, (v47_0c1c0, (v47_0c2, (v47_0c3, (v47_1, ((0 : Int), (v7, (v47_0c0, (v47_0c1c0, (v47_0c2, (v47_0c3, (v47_1, (c0_0, (c1_0, (c1_1, (c2_0, (c2_1, (c3_0, (c4_0, (c4_1, ()))))))))))))))))))))) fun z10 =>
 .ret ((z10.2.1, (z10.2.2.1, (z10.2.2.2.2.2.2.1, (z10.2.2.2.2.2.2.2.1, ())))))
theorem s31_0 : ∀ x, rangeE (N := 79) (out := none) (base := 0) (kzO x31_0.T) cx31_0i ar0 [] p31_0 x31_0 ( .t 47) [48] (ad31_0).er (bd31_0).er [] 3 102 (b31_0i) some x = run0 (g31_0 x) := fun x => by kernel_rfl
noncomputable def R31_0 : RangeS prog 79 none 0 := mkRange mixed cx31_0i cx31_0i_ok [] rfl p31_0 x31_0 ( .t 47) [48] rfl (ad31_0).er (bd31_0).er 102 func102 (ci31_0) (enters_of func102 rfl rfl) 7 rfl (b31_0i) rfl (fun x => run0 (g31_0 x)) (s31_0)
noncomputable def dd31 : D prog 79 none 0 := dO [.r R31_0] (kd prog f31) 0
noncomputable def F31 (a0_0 : List (Int × List Int)) (a1 : Int) (a2 : Int) : Tr0 ((Int × Int) × Int × Unit) :=
 .bd (F80 a0_0 a1) fun y0 =>
 .sm y0 (fun y1 =>
 .br (!(y1.2.2.2.1 == (0 : Int))) (
 .ret (((0 : Int), (0 : Int)), (y1.2.2.2.1, ()))) (
 .ni (y1.2.1 - (1 : Int)) <|
 .bd (F67 (0 : Int) a2 (y1.2.1 - (1 : Int))) fun y2 =>
 .br (!y2.1) (
 .ret (((0 : Int), (0 : Int)), ((5 : Int), ()))) (
 .nb a1 (((a0_0).length : Nat) : Int) <|
 .bd (F81 a0_0 a1) fun y3 =>
 .bd (F82 y1.1 y1.2.1 y1.2.2.1 ((((a2 :: [])).drop (0 : Nat)).take (1 : Nat))) fun y4 =>
 .no))) fun y11 =>
 .br (!(y11.2.2.2.2.1 == (0 : Int))) (
 .ret (((0 : Int), (0 : Int)), (y11.2.2.2.2.1, ()))) (
 .ni (y11.2.2.1 - (1 : Int)) <|
 .bd (F67 (0 : Int) a2 (y11.2.2.1 - (1 : Int))) fun y12 =>
 .br (!y12.1) (
 .ret (((0 : Int), (0 : Int)), ((5 : Int), ()))) (
 .nb a1 (((a0_0).length : Nat) : Int) <|
 .bd (F81 a0_0 a1) fun y13 =>
 .bd (F82_v1 y11.1 y11.2.1 y11.2.2.1 y11.2.2.2.1 ((((a2 :: [])).drop (0 : Nat)).take (1 : Nat))) fun y14 =>
 .bd (g31_0 ((0 : Int), (y14.1, (y14.2.1, (y14.2.2.1, (y14.2.2.2.1, (y14.2.2.2.2.1, (a2, ((0 : Int), ((0 : Int), (((a0_0).getD (Int.toNat a1) ((0 : Int), [])).1, (((a0_0).getD (Int.toNat a1) ((0 : Int), [])).2, (y13.1, ((0 : Int), ((1000000 : Int), ()))))))))))))))) fun z15 =>
 .ret ((z15.2.2.1, z15.2.2.2.1), ((0 : Int), ()))))
theorem c31_ok : trF prog f31 = some ⟨79, 3, dd31.er, [.cell 6 true 2, .t 7], [some (.prod tI tI), some tI]⟩ := by kernel_rfl
noncomputable def ct31 : Ct := ⟨31, [.agg [.hole (.list (.prod tI tL))], hI, hI], .tup [.hole (.prod tI tI), .hole tI], fun x => run0 (F31 x.1 x.2.1 x.2.2.1)⟩
theorem ct31_ok : ct31.Ok prog := ct_ok mixed cx31_ok func31 c31_ok (enters_of func31 rfl rfl) dd31 (by kernel_rfl) rfl (fun x => by kernel_rfl)

/- 33 -/
noncomputable def cx33 : Cx := mkCxH [ct80, ct81, ct82, ct90, ct83, ct84, ct78, ct82_v1] []
theorem cx33_ok : cx33.Ok prog := mkCxH_ok ⟨ct80_ok, ct81_ok, ct82_ok, ct90_ok, ct83_ok, ct84_ok, ct78_ok, ct82_v1_ok, trivial⟩ trivial
noncomputable def ad33_0 : D prog 59 (some 5) 6 := dO [] (pick (kd prog f33) [(0, false)]) 0
noncomputable def bd33_0 : D prog 59 (some 5) 6 := dO [] (pick (kd prog f33) [(0, true)]) 0
noncomputable def cx33_0i : Cx := itCx cx33 (fun kz => rdK kz cx33 ar0 5 6 [33] (ad33_0) (bd33_0))
theorem cx33_0i_ok : (cx33_0i).Ok prog := itCx_ok cx33_ok (fun h => rdK_ok mixed cx33_ok h)
@[reducible] def p33_0i_0 : Pat := Pat.mk [(0, .c (.yl 5)), (1, .c (.ipcs (.cons (.hole (.list (.prod tI tL))) (.cons (.ifcs 132 false (.cons (.hole (.list (.ifc 55 true (.prod tI tL)))) .nil)) (.cons (.hole tI) (.cons (.hole (.int .u64)) .nil)))))), (2, .c (.ipc tL)), (4, .c (.hole (.int .u64)))] [(5, .loop .ready none 4 [(4, .c (.ptr 0 0)), (5, hI), (8, .c (.ptr 1 0)), (9, .c (.ptr 2 0)), (10, .c (.ptr 3 0)), (32, .fn 102 [] [.ipcs (.cons (.hole (.list (.prod tI tL))) (.cons (.ifcs 132 false (.cons (.hole (.list (.ifc 55 true (.prod tI tL)))) .nil)) (.cons (.hole tI) (.cons (.hole (.int .u64)) .nil)))), .ipc tL])] [33] (.reg [.op (some 11) none (.mv (.t 33))]) (.block 1 (.block 2 (.seq (.reg [.op (some 43) none (.load false 1 (.t 9)), .op (some 44) none (.mv (.t 11)), .call (some 45) none (.c (.fn 83 [] [])) [.t 43, .t 44] [some (.list (.ifc 55 true (.prod tI tL))), some (.int .u64)], .op (some 46) none (.not (.t 45)), .op (some 42) none (.mv (.t 46))]) (.cond (.t 42) .skip (.seq (.reg [.op (some 48) none (.load true 2 (.t 8)), .op (some 49) none (.mv (.t 11)), .call (some 50) none (.c (.fn 84 [] [])) [.t 48, .t 49] [some (.prod tI tL), some (.int .u64)], .op (some 47) none (.mv (.t 50))]) (.cond (.t 47) (.draw [[], [0], [], [], [2, 3], [0, 1, 2, 3, 4], [0, 1, 2, 3, 4, 5], [0, 1, 2, 3, 4, 5, 6]] [.op (some 51) none (.fld 1 [true] (.t 10)), .op (some 52) none (.load false 1 (.t 51)), .op (some 53) none (.load true 2 (.t 8)), .op (some 54) none (.mv (.t 11)), .call (some 55) none (.c (.fn 78 [] [])) [.t 53, .t 54] [some (.prod tI tL), some (.int .u64)], .op (some 56) none (.minmax false (.t 52) [.t 55]), .op (some 57) none (.fld 1 [true] (.t 10)), .op none none (.store 1 (.t 57) (.t 56))]) (.draw [[], [0], [], [], [2, 3], [2, 3, 4], [0, 1, 2, 3, 4, 5], [0, 1, 2, 3, 4, 5, 6], [0, 1, 2, 3, 4, 5, 6, 7]] [.op (some 34) none (.fld 0 [false] (.t 10)), .op (some 35) none (.load false 1 (.t 34)), .op (some 36) none (.load true 2 (.t 8)), .op (some 37) none (.mv (.t 11)), .call (some 38) none (.c (.fn 78 [] [])) [.t 36, .t 37] [some (.prod tI tL), some (.int .u64)], .op (some 39) none (.bin .add (.t 38) (.c (.int .i64 (Int.ofNat 1)))), .op (some 40) none (.minmax true (.t 35) [.t 39]), .op (some 41) none (.fld 0 [false] (.t 10)), .op none none (.store 1 (.t 41) (.t 40))]))))))) 59), (4, .dfr), (0, .cells [.hole tI, .hole tI] false), (1, .cells [.hole tI, .hole tL] false), (2, .cells [.hole (.list (.ifc 55 true (.prod tI tL)))] false), (3, .cells [.hole tI, .hole tI] false)] [] []
@[reducible] def x33_0i_0 : Outs := [(.exit 0, Pat.mk [] [(0, .cells [.hole tI, .hole tI] false), (1, .cells [.hole tI, .hole tL] false), (2, .cells [.hole (.list (.ifc 55 true (.prod tI tL)))] false), (3, .cells [.hole tI, .hole tI] false), (4, .dfr), (5, .loop .ready none 4 [(4, .c (.ptr 0 0)), (5, hI), (8, .c (.ptr 1 0)), (9, .c (.ptr 2 0)), (10, .c (.ptr 3 0)), (32, .fn 102 [] [.ipcs (.cons (.hole (.list (.prod tI tL))) (.cons (.ifcs 132 false (.cons (.hole (.list (.ifc 55 true (.prod tI tL)))) .nil)) (.cons (.hole tI) (.cons (.hole (.int .u64)) .nil)))), .ipc tL])] [33] (.reg [.op (some 11) none (.mv (.t 33))]) (.block 1 (.block 2 (.seq (.reg [.op (some 43) none (.load false 1 (.t 9)), .op (some 44) none (.mv (.t 11)), .call (some 45) none (.c (.fn 83 [] [])) [.t 43, .t 44] [some (.list (.ifc 55 true (.prod tI tL))), some (.int .u64)], .op (some 46) none (.not (.t 45)), .op (some 42) none (.mv (.t 46))]) (.cond (.t 42) .skip (.seq (.reg [.op (some 48) none (.load true 2 (.t 8)), .op (some 49) none (.mv (.t 11)), .call (some 50) none (.c (.fn 84 [] [])) [.t 48, .t 49] [some (.prod tI tL), some (.int .u64)], .op (some 47) none (.mv (.t 50))]) (.cond (.t 47) (.draw [[], [0], [], [], [2, 3], [0, 1, 2, 3, 4], [0, 1, 2, 3, 4, 5], [0, 1, 2, 3, 4, 5, 6]] [.op (some 51) none (.fld 1 [true] (.t 10)), .op (some 52) none (.load false 1 (.t 51)), .op (some 53) none (.load true 2 (.t 8)), .op (some 54) none (.mv (.t 11)), .call (some 55) none (.c (.fn 78 [] [])) [.t 53, .t 54] [some (.prod tI tL), some (.int .u64)], .op (some 56) none (.minmax false (.t 52) [.t 55]), .op (some 57) none (.fld 1 [true] (.t 10)), .op none none (.store 1 (.t 57) (.t 56))]) (.draw [[], [0], [], [], [2, 3], [2, 3, 4], [0, 1, 2, 3, 4, 5], [0, 1, 2, 3, 4, 5, 6], [0, 1, 2, 3, 4, 5, 6, 7]] [.op (some 34) none (.fld 0 [false] (.t 10)), .op (some 35) none (.load false 1 (.t 34)), .op (some 36) none (.load true 2 (.t 8)), .op (some 37) none (.mv (.t 11)), .call (some 38) none (.c (.fn 78 [] [])) [.t 36, .t 37] [some (.prod tI tL), some (.int .u64)], .op (some 39) none (.bin .add (.t 38) (.c (.int .i64 (Int.ofNat 1)))), .op (some 40) none (.minmax true (.t 35) [.t 39]), .op (some 41) none (.fld 0 [false] (.t 10)), .op none none (.store 1 (.t 41) (.t 40))]))))))) 59)] [] [])]
noncomputable def b33_0i_0 : D prog 22 none 6 := dO [] (pick (kd prog f102) [(0, false)]) 0
noncomputable def g33_0i_0 : (List (Int × List Int)) × (List (Int × List Int)) × Int × Int × List Int × Int × Int × (List (Int × List Int)) × (List (Int × List Int)) × Int × Int × List Int × Int × Int × Int × List Int × (List (Int × List Int)) × Int × Int × Unit → Tr0 (((List (Int × List Int)) × (List (Int × List Int)) × Int × Int × List Int × Int × Int × (List (Int × List Int)) × (List (Int × List Int)) × Int × Int × List Int × Int × Int × Int × List Int × (List (Int × List Int)) × Int × Int × Unit) ⊕ ((Int × Int × Int × List Int × (List (Int × List Int)) × Int × Int × Int × (List (Int × List Int)) × (List (Int × List Int)) × Int × Int × List Int × Unit))) := fun (v1c0, v1c1c0, v1c2, v1c3, v2, v4, w5, w32_0c0, w32_0c1c0, w32_0c2, w32_0c3, w32_1, c0_0, c0_1, c1_0, c1_1, c2_0, c3_0, c3_1, _) =>
 .br (decide (v4 ≤ v1c3)) (
 .bd (F90 v4 v2) fun y4 =>
 .br (v4 == y4.1) (
 .bd (F83 c2_0 v4) fun y5 =>
 .br (!y5.1) (
 .nd (rng .u64 (v4 + (1 : Int))) <|
 .ret (.inl (v1c0, (v1c1c0, (v1c2, (v1c3, (v2, ((v4 + (1 : Int)), (w5, (w32_0c0, (w32_0c1c0, (w32_0c2, (w32_0c3, (w32_1, (c0_0, (c0_1, (c1_0, (c1_1, (c2_0, (c3_0, (c3_1, ()))))))))))))))))))))) (
 .bd (F84 (c1_0, c1_1) v4) fun y6 =>
 .br y6.1 (
 .bd (F78 (c1_0, c1_1) v4) fun y7 =>
 .nd (rng .u64 (v4 + (1 : Int))) <|
 .ret (.inl (v1c0, (v1c1c0, (v1c2, (v1c3, (v2, ((v4 + (1 : Int)), (w5, (w32_0c0, (w32_0c1c0, (w32_0c2, (w32_0c3, (w32_1, (c0_0, (c0_1, (c1_0, (c1_1, (c2_0, (c3_0, ((imin c3_1 y7.1), ()))))))))))))))))))))) (
 .bd (F78 (c1_0, c1_1) v4) fun y8 =>
 .ni (y8.1 + (1 : Int)) <|
 .nd (rng .u64 (v4 + (1 : Int))) <|
 .ret (.inl (v1c0, (v1c1c0, (v1c2, (v1c3, (v2, ((v4 + (1 : Int)), (w5, (w32_0c0, (w32_0c1c0, (w32_0c2, (w32_0c3, (w32_1, (c0_0, (c0_1, (c1_0, (c1_1, (c2_0, ((imax c3_0 (y8.1 + (1 : Int))), (c3_1, ()))))))))))))))))))))))) (
 .nd (rng .u64 (v4 + (1 : Int))) <|
 .ret (.inl (v1c0, (v1c1c0, (v1c2, (v1c3, (v2, ((v4 + (1 : Int)), (w5, (w32_0c0, (w32_0c1c0, (w32_0c2, (w32_0c3, (w32_1, (c0_0, (c0_1, (c1_0, (c1_1, (c2_0, (c3_0, (c3_1, ())))))))))))))))))))))) (
 .ret (.inr (c0_0, (c0_1, (c1_0, (c1_1, (c2_0, (c3_0, (c3_1, (w5, (w32_0c0, (w32_0c1c0, (w32_0c2, (w32_0c3, (w32_1, ())))))))))))))))
theorem s33_0i_0 : ∀ x, roundE (kzO (p33_0i_0.T ⊕ x33_0i_0.T)) cx33_0i ar0 [0, 1, 2, 3, 4, 5] p33_0i_0 x33_0i_0 (b33_0i_0) (fun y => some (.inl y)) (fun b => some (.inr b)) x = run0 (g33_0i_0 x) := fun x => by kernel_rfl
noncomputable def L33_0i_0 : LoopS prog 22 none 6 := mkLoop mixed cx33_0i cx33_0i_ok [0, 1, 2, 3, 4, 5] rfl p33_0i_0 x33_0i_0 rfl (b33_0i_0) (fun x => run0 (g33_0i_0 x)) (s33_0i_0)
@[reducible] def p33_0 : Pat := Pat.mk [(4, .c (.ptr 0 0)), (5, hI), (8, .c (.ptr 1 0)), (9, .c (.ptr 2 0)), (10, .c (.ptr 3 0)), (32, .fn 102 [] [.ipcs (.cons (.hole (.list (.prod tI tL))) (.cons (.ifcs 132 false (.cons (.hole (.list (.ifc 55 true (.prod tI tL)))) .nil)) (.cons (.hole tI) (.cons (.hole (.int .u64)) .nil)))), .ipc tL])] [(0, .cells [.hole tI, .hole tI] false), (1, .cells [.hole tI, .hole tL] false), (2, .cells [.hole (.list (.ifc 55 true (.prod tI tL)))] false), (3, .cells [.hole tI, .hole tI] false)] [.slot 4, .slot 8, .slot 9, .slot 10] []
@[reducible] def x33_0 : Outs := [(.normal, Pat.mk [(4, .c (.ptr 0 0)), (10, .c (.ptr 1 0))] [(0, .cells [.hole tI, .hole tI] false), (1, .cells [.hole tI, .hole tI] false), (2, .dfr)] [.slot 4, .slot 10, .mark 0] [2])]
noncomputable def b33_0i : D prog 22 none 6 := dO [.l L33_0i_0] (kd prog f102) 0
theorem ci33_0 : trF prog f102 = some ⟨22, 3, (b33_0i).er, [], []⟩ := by kernel_rfl
noncomputable def g33_0 : Int × (List (Int × List Int)) × (List (Int × List Int)) × Int × Int × List Int × Int × Int × Int × List Int × (List (Int × List Int)) × Int × Int × Unit → Tr0 ((Int × Int × Int × Int × Unit)) := fun (v5, v32_0c0, v32_0c1c0, v32_0c2, v32_0c3, v32_1, c0_0, c0_1, c1_0, c1_1, c2_0, c3_0, c3_1, _) =>
 .bd (.it g33_0i_0 (v32_0c0, (v32_0c1c0, (v32_0c2, (v32_0c3, (v32_1, ((0 : Int), (v5, (v32_0c0, (v32_0c1c0, (v32_0c2, (v32_0c3, (v32_1, (c0_0, (c0_1, (c1_0, (c1_1, (c2_0, (c3_0, (c3_1, ())))))))))))))))))))) fun z9 =>
 .ret ((z9.1, (z9.2.1, (z9.2.2.2.2.2.1, (z9.2.2.2.2.2.2.1, ())))))
theorem s33_0 : ∀ x, rangeE (N := 59) (out := none) (base := 0) (kzO x33_0.T) cx33_0i ar0 [] p33_0 x33_0 ( .t 32) [33] (ad33_0).er (bd33_0).er [] 3 102 (b33_0i) some x = run0 (g33_0 x) := fun x => by kernel_rfl
noncomputable def R33_0 : RangeS prog 59 none 0 := mkRange mixed cx33_0i cx33_0i_ok [] rfl p33_0 x33_0 ( .t 32) [33] rfl (ad33_0).er (bd33_0).er 102 func102 (ci33_0) (enters_of func102 rfl rfl) 6 rfl (b33_0i) rfl (fun x => run0 (g33_0 x)) (s33_0)
noncomputable def dd33 : D prog 59 none 0 := dO [.r R33_0] (kd prog f33) 0
noncomputable def F33 (a0_0 : List (Int × List Int)) (a1 : Int) : Tr0 ((Int × Int) × Int × Unit) :=
 .bd (F80 a0_0 a1) fun y0 =>
 .sm y0 (fun y1 =>
 .br (!(y1.2.2.2.1 == (0 : Int))) (
 .ret (((0 : Int), (0 : Int)), (y1.2.2.2.1, ()))) (
 .nb a1 (((a0_0).length : Nat) : Int) <|
 .bd (F81 a0_0 a1) fun y2 =>
 .bd (F82 y1.1 y1.2.1 y1.2.2.1 []) fun y3 =>
 .no)) fun y10 =>
 .br (!(y10.2.2.2.2.1 == (0 : Int))) (
 .ret (((0 : Int), (0 : Int)), (y10.2.2.2.2.1, ()))) (
 .nb a1 (((a0_0).length : Nat) : Int) <|
 .bd (F81 a0_0 a1) fun y11 =>
 .bd (F82_v1 y10.1 y10.2.1 y10.2.2.1 y10.2.2.2.1 []) fun y12 =>
 .bd (g33_0 ((0 : Int), (y12.1, (y12.2.1, (y12.2.2.1, (y12.2.2.2.1, (y12.2.2.2.2.1, ((0 : Int), ((0 : Int), (((a0_0).getD (Int.toNat a1) ((0 : Int), [])).1, (((a0_0).getD (Int.toNat a1) ((0 : Int), [])).2, (y11.1, ((1 : Int), ((10000000 : Int), ())))))))))))))) fun z13 =>
 .ret ((z13.2.2.1, z13.2.2.2.1), ((0 : Int), ())))
theorem c33_ok : trF prog f33 = some ⟨59, 2, dd33.er, [.cell 4 true 2, .t 5], [some (.prod tI tI), some tI]⟩ := by kernel_rfl
noncomputable def ct33 : Ct := ⟨33, [.agg [.hole (.list (.prod tI tL))], hI], .tup [.hole (.prod tI tI), .hole tI], fun x => run0 (F33 x.1 x.2.1)⟩
theorem ct33_ok : ct33.Ok prog := ct_ok mixed cx33_ok func33 c33_ok (enters_of func33 rfl rfl) dd33 (by kernel_rfl) rfl (fun x => by kernel_rfl)

/- 16 -/
noncomputable def cx16 : Cx := mkCxH [ct52, ct46, ct54, ct53, ct37, ct18, ct55, ct20, ct49, ct22, ct23, ct56, ct25, ct27, ct29, ct57, ct31, ct33] []
theorem cx16_ok : cx16.Ok prog := mkCxH_ok ⟨ct52_ok, ct46_ok, ct54_ok, ct53_ok, ct37_ok, ct18_ok, ct55_ok, ct20_ok, ct49_ok, ct22_ok, ct23_ok, ct56_ok, ct25_ok, ct27_ok, ct29_ok, ct57_ok, ct31_ok, ct33_ok, trivial⟩ trivial
noncomputable def dd16 : D prog 194 none 0 := dO [] (kd prog f16) 0
noncomputable def F16 : Tr0 (Bool × Unit) :=
 .bd (F52) fun y0 =>
 .bd (F46 y0.1.1) fun y1 =>
 .bd (F54 (3 : Int) (((((1 : Int) :: ((1 : Int) :: ((1 : Int) :: ((0 : Int) :: []))))).drop (0 : Nat)).take (4 : Nat))) fun y2 =>
 .bd (F53 (((((y2.1.1, y2.1.2) :: [])).drop (0 : Nat)).take (1 : Nat))) fun y3 =>
 .bd (F37 y3.1.1) fun y4 =>
 .bd (F52) fun y5 =>
 .bd (F18 y5.1.1) fun y6 =>
 .bd (F55) fun y7 =>
 .bd (F20 y7.1.1) fun y8 =>
 .br (!(y1.2.1 == (0 : Int))) (
 .ret (false, ())) (
 .br (!(y4.2.1 == (0 : Int))) (
 .ret (false, ())) (
 .br (!(y6.2.1 == (0 : Int))) (
 .ret (false, ())) (
 .br (!(y8.2.1 == (0 : Int))) (
 .ret (false, ())) (
 .bd (F49 y1.1 (((((((((0 : Int) :: ((1 : Int) :: []))).drop (0 : Nat)).take (2 : Nat)) :: ((((((0 : Int) :: ((2 : Int) :: []))).drop (0 : Nat)).take (2 : Nat)) :: ((((((1 : Int) :: ((2 : Int) :: ((3 : Int) :: [])))).drop (0 : Nat)).take (3 : Nat)) :: [])))).drop (0 : Nat)).take (3 : Nat))) fun y9 =>
 .br (!y9.1) (
 .ret (false, ())) (
 .bd (F22 y4.1 (((((2 : Int) :: ((2 : Int) :: ((2 : Int) :: ((1 : Int) :: []))))).drop (0 : Nat)).take (4 : Nat))) fun y10 =>
 .br (!y10.1) (
 .ret (false, ())) (
 .bd (F22 y6.1 (((((5 : Int) :: ((3 : Int) :: ((3 : Int) :: ((1 : Int) :: []))))).drop (0 : Nat)).take (4 : Nat))) fun y11 =>
 .br (!y11.1) (
 .ret (false, ())) (
 .bd (F22 y8.1 (((((10 : Int) :: ((10 : Int) :: ((2 : Int) :: ((2 : Int) :: []))))).drop (0 : Nat)).take (4 : Nat))) fun y12 =>
 .br (!y12.1) (
 .ret (false, ())) (
 .bd (F52) fun y13 =>
 .bd (F23 y13.1.1 (3 : Int) (2 : Int)) fun y14 =>
 .bd (F56) fun y15 =>
 .bd (F23 y15.1.1 (0 : Int) (1 : Int)) fun y16 =>
 .bd (F56) fun y17 =>
 .bd (F25 y17.1.1) fun y18 =>
 .bd (F52) fun y19 =>
 .bd (F25 y19.1.1) fun y20 =>
 .br (!(y14.2.1 == (0 : Int))) (
 .ret (false, ())) (
 .br (!(y16.2.1 == (0 : Int))) (
 .ret (false, ())) (
 .br (!(y18.2.1 == (0 : Int))) (
 .ret (false, ())) (
 .br (!(y20.2.1 == (5 : Int))) (
 .ret (false, ())) (
 .br (!(y14.1 == (-1 : Int))) (
 .ret (false, ())) (
 .br (!(y16.1 == (2 : Int))) (
 .ret (false, ())) (
 .bd (F56) fun y21 =>
 .bd (F27 y21.1.1 (y18.1.1, (y18.1.2.1, (y18.1.2.2.1, y18.1.2.2.2)))) fun y22 =>
 .br (!(y22.1 == (0 : Int))) (
 .ret (false, ())) (
 .bd (F56) fun y23 =>
 .bd (F27 y23.1.1 ((0 : Int), ((1 : Int), ((((((3 : Int) :: [])).drop (0 : Nat)).take (1 : Nat)), (((((2 : Int) :: [])).drop (0 : Nat)).take (1 : Nat)))))) fun y24 =>
 .br (!(y24.1 == (0 : Int))) (
 .ret (false, ())) (
 .bd (F52) fun y25 =>
 .bd (F29 y25.1.1 (((((2 : Int) :: ((3 : Int) :: []))).drop (0 : Nat)).take (2 : Nat))) fun y26 =>
 .bd (F57) fun y27 =>
 .bd (F31 y27.1.1 (0 : Int) (0 : Int)) fun y28 =>
 .bd (F57) fun y29 =>
 .bd (F33 y29.1.1 (0 : Int)) fun y30 =>
 .br (y26.2.1 == (0 : Int)) (
 .br (y28.2.1 == (0 : Int)) (
 .br (y30.2.1 == (0 : Int)) (
 .br ((((y26.1.1).length : Nat) : Int) == (1 : Int)) (
 .nb (0 : Int) (((y26.1.1).length : Nat) : Int) <|
 .br (((y26.1.1).getD (Int.toNat (0 : Int)) ((0 : Int), [])).1 == (6 : Int)) (
 .nb (0 : Int) (((y26.1.1).length : Nat) : Int) <|
 .bd (F22 ((y26.1.1).getD (Int.toNat (0 : Int)) ((0 : Int), [])).2 (((((4 : Int) :: ((3 : Int) :: ((3 : Int) :: [])))).drop (0 : Nat)).take (3 : Nat))) fun y31 =>
 .br y31.1 (
 .br ((y28.1.1 == (40 : Int)) && ((y28.1.2 == (49 : Int)) && true)) (
 .ret (((y30.1.1 == (51 : Int)) && ((y30.1.2 == (60 : Int)) && true)), ())) (
 .ret (false, ()))) (
 .ret (false, ()))) (
 .ret (false, ()))) (
 .ret (false, ()))) (
 .ret (false, ()))) (
 .ret (false, ()))) (
 .ret (false, ()))))))))))))))))))
theorem c16_ok : trF prog f16 = some ⟨194, 0, dd16.er, [.t 0], [some .bool]⟩ := by kernel_rfl
noncomputable def ct16 : Ct := ⟨16, [], .c (.hole .bool), fun x => run0 (F16)⟩
theorem ct16_ok : ct16.Ok prog := ct_ok mixed cx16_ok func16 c16_ok (enters_of func16 rfl rfl) dd16 (by kernel_rfl) rfl (fun x => by kernel_rfl)

/- 44 -/
noncomputable def cx44 : Cx := mkCxH [ct66, ct72, ct72_v1, ct83] []
theorem cx44_ok : cx44.Ok prog := mkCxH_ok ⟨ct66_ok, ct72_ok, ct72_v1_ok, ct83_ok, trivial⟩ trivial
noncomputable def dd44 : D prog 30 none 0 := dO [] (kd prog f44) 0
noncomputable def F44 (a0_0 : List (Int × List Int)) (a1 : List Int) : Tr0 (Bool × Int × Unit) :=
 .bd (F66 a0_0) fun y0 =>
 .sm y0 (fun y1 =>
 .br (!(y1.2.2.2.1 == (0 : Int))) (
 .ret (false, (y1.2.2.2.1, ()))) (
 .bd (F72 y1.1 y1.2.1 y1.2.2.1 a1) fun y2 =>
 .br (!(y2.2.1 == (0 : Int))) (
 .ret (false, (y2.2.1, ()))) (
 .no))) fun y3 =>
 .br (!(y3.2.2.2.2.1 == (0 : Int))) (
 .ret (false, (y3.2.2.2.2.1, ()))) (
 .bd (F72_v1 y3.1 y3.2.1 y3.2.2.1 y3.2.2.2.1 a1) fun y4 =>
 .br (!(y4.2.1 == (0 : Int))) (
 .ret (false, (y4.2.1, ()))) (
 .bd (F83 y3.2.1 y4.1) fun y5 =>
 .ret (y5.1, ((0 : Int), ()))))
theorem c44_ok : trF prog f44 = some ⟨30, 2, dd44.er, [.t 4, .t 5], [some .bool, some tI]⟩ := by kernel_rfl
noncomputable def ct44 : Ct := ⟨44, [.agg [.hole (.list (.prod tI tL))], hL], .tup [.hole .bool, .hole tI], fun x => run0 (F44 x.1 x.2.1)⟩
theorem ct44_ok : ct44.Ok prog := ct_ok mixed cx44_ok func44 c44_ok (enters_of func44 rfl rfl) dd44 (by kernel_rfl) rfl (fun x => by kernel_rfl)

/- 35 -/
noncomputable def cx35 : Cx := mkCxH [] []
theorem cx35_ok : cx35.Ok prog := mkCxH_ok trivial trivial
@[reducible] def p35_1 : Pat := Pat.mk [(1, .c (.ptr 0 0)), (2, .c (.ptr 1 0)), (3, hI), (4, hI), (5, .c (.ptr 2 0)), (6, hI), (7, .c (.ptr 3 0)), (8, hI)] [(0, .cells [.hole (.int .u8), .hole (.list (.int .u8)), .hole (.int .u8), .hole (.int .u8), .hole (.int .u8), .hole (.int .u8), .hole (.int .u8), .hole (.int .u8), .hole (.int .u8), .hole (.int .u8), .hole (.int .u8), .hole (.int .u8), .hole (.int .u8), .hole (.int .u8), .hole (.int .u8), .hole (.int .u8), .hole (.int .u8)] false), (1, .cells [.nsl] false), (2, .cells [.sl0 4 (.prod tI tL)] false), (3, .cells [.hole tI, .sl0 5 tI] false), (4, .arr (.prod tI tL) false), (5, .arr tI false)] [.slot 1, .slot 2, .slot 5, .slot 7, .cell 2 0, .cell 3 1] []
@[reducible] def x35_1 : Outs := [(.exit 2, Pat.mk [(1, .c (.ptr 0 0)), (2, .c (.ptr 1 0)), (3, hI), (4, hI), (5, .c (.ptr 2 0)), (6, hI), (7, .c (.ptr 3 0))] [(0, .cells [.hole (.int .u8), .hole (.list (.int .u8)), .hole (.int .u8), .hole (.int .u8), .hole (.int .u8), .hole (.int .u8), .hole (.int .u8), .hole (.int .u8), .hole (.int .u8), .hole (.int .u8), .hole (.int .u8), .hole (.int .u8), .hole (.int .u8), .hole (.int .u8), .hole (.int .u8), .hole (.int .u8), .hole (.int .u8)] false), (1, .cells [.nsl] false), (2, .cells [.sl0 4 (.prod tI tL)] false), (3, .cells [.hole tI, .sl0 5 tI] false), (4, .arr (.prod tI tL) false), (5, .arr tI false)] [.slot 1, .slot 2, .slot 5, .slot 7, .cell 2 0, .cell 3 1] [])]
noncomputable def b35_1 : D prog 64 none 0 := dO [] (pick (kd prog f35) [(0, false), (0, false)]) 0
noncomputable def g35_1 : Int × Int × Int × Int × Int × List Int × Int × Int × Int × Int × Int × Int × Int × Int × Int × Int × Int × Int × Int × Int × Int × Nat × Int × Nat × (List (Int × List Int)) × List Int × Unit → Tr0 ((Int × Int × Int × Int × Int × List Int × Int × Int × Int × Int × Int × Int × Int × Int × Int × Int × Int × Int × Int × Int × Int × Nat × Int × Nat × (List (Int × List Int)) × List Int × Unit) ⊕ ((Int × Int × Int × Int × List Int × Int × Int × Int × Int × Int × Int × Int × Int × Int × Int × Int × Int × Int × Int × Int × Nat × Int × Nat × (List (Int × List Int)) × List Int × Unit))) := fun (v3, v4, v6, v8, c0_0, c0_1, c0_2, c0_3, c0_4, c0_5, c0_6, c0_7, c0_8, c0_9, c0_10, c0_11, c0_12, c0_13, c0_14, c0_15, c0_16, nc2_0, c3_0, nc3_1, b4, b5, _) =>
 .br (decide (v8 < v3)) (
 .nb v6 (3 : Int) <|
 .nb v8 (5 : Int) <|
 .ni ((((((c0_2 :: (c0_7 :: (c0_12 :: [])))).getD (Int.toNat v6) (0 : Int)) :: ((((c0_3 :: (c0_8 :: (c0_13 :: [])))).getD (Int.toNat v6) (0 : Int)) :: ((((c0_4 :: (c0_9 :: (c0_14 :: [])))).getD (Int.toNat v6) (0 : Int)) :: ((((c0_5 :: (c0_10 :: (c0_15 :: [])))).getD (Int.toNat v6) (0 : Int)) :: ((((c0_6 :: (c0_11 :: (c0_16 :: [])))).getD (Int.toNat v6) (0 : Int)) :: [])))))).getD (Int.toNat v8) (0 : Int)) <|
 .nd (!((8 : Int) == (0 : Int))) <|
 .nd (decide ((nc3_1 + ((((((Int.tmod ((((((c0_2 :: (c0_7 :: (c0_12 :: [])))).getD (Int.toNat v6) (0 : Int)) :: ((((c0_3 :: (c0_8 :: (c0_13 :: [])))).getD (Int.toNat v6) (0 : Int)) :: ((((c0_4 :: (c0_9 :: (c0_14 :: [])))).getD (Int.toNat v6) (0 : Int)) :: ((((c0_5 :: (c0_10 :: (c0_15 :: [])))).getD (Int.toNat v6) (0 : Int)) :: ((((c0_6 :: (c0_11 :: (c0_16 :: [])))).getD (Int.toNat v6) (0 : Int)) :: [])))))).getD (Int.toNat v8) (0 : Int)) (8 : Int)) :: [])).drop (0 : Nat)).take (1 : Nat))).length) < bigL)) <|
 .ni (v8 + (1 : Int)) <|
 .ret (.inl (v3, (v4, (v6, ((v8 + (1 : Int)), (c0_0, (c0_1, (c0_2, (c0_3, (c0_4, (c0_5, (c0_6, (c0_7, (c0_8, (c0_9, (c0_10, (c0_11, (c0_12, (c0_13, (c0_14, (c0_15, (c0_16, (nc2_0, (c3_0, ((nc3_1 + ((((((Int.tmod ((((((c0_2 :: (c0_7 :: (c0_12 :: [])))).getD (Int.toNat v6) (0 : Int)) :: ((((c0_3 :: (c0_8 :: (c0_13 :: [])))).getD (Int.toNat v6) (0 : Int)) :: ((((c0_4 :: (c0_9 :: (c0_14 :: [])))).getD (Int.toNat v6) (0 : Int)) :: ((((c0_5 :: (c0_10 :: (c0_15 :: [])))).getD (Int.toNat v6) (0 : Int)) :: ((((c0_6 :: (c0_11 :: (c0_16 :: [])))).getD (Int.toNat v6) (0 : Int)) :: [])))))).getD (Int.toNat v8) (0 : Int)) (8 : Int)) :: [])).drop (0 : Nat)).take (1 : Nat))).length), (b4, (((((b5).drop (0 : Nat)).take nc3_1) ++ (((((Int.tmod ((((((c0_2 :: (c0_7 :: (c0_12 :: [])))).getD (Int.toNat v6) (0 : Int)) :: ((((c0_3 :: (c0_8 :: (c0_13 :: [])))).getD (Int.toNat v6) (0 : Int)) :: ((((c0_4 :: (c0_9 :: (c0_14 :: [])))).getD (Int.toNat v6) (0 : Int)) :: ((((c0_5 :: (c0_10 :: (c0_15 :: [])))).getD (Int.toNat v6) (0 : Int)) :: ((((c0_6 :: (c0_11 :: (c0_16 :: [])))).getD (Int.toNat v6) (0 : Int)) :: [])))))).getD (Int.toNat v8) (0 : Int)) (8 : Int)) :: [])).drop (0 : Nat)).take (1 : Nat))), ())))))))))))))))))))))))))))) (
 .ret (.inr (v3, (v4, (v6, (c0_0, (c0_1, (c0_2, (c0_3, (c0_4, (c0_5, (c0_6, (c0_7, (c0_8, (c0_9, (c0_10, (c0_11, (c0_12, (c0_13, (c0_14, (c0_15, (c0_16, (nc2_0, (c3_0, (nc3_1, (b4, (b5, ())))))))))))))))))))))))))))
theorem s35_1 : ∀ x, roundE (kzO (p35_1.T ⊕ x35_1.T)) cx35 ar0 [] p35_1 x35_1 (b35_1) (fun y => some (.inl y)) (fun b => some (.inr b)) x = run0 (g35_1 x) := fun x => by kernel_rfl
noncomputable def L35_1 : LoopS prog 64 none 0 := mkLoop mixed cx35 cx35_ok [] rfl p35_1 x35_1 rfl (b35_1) (fun x => run0 (g35_1 x)) (s35_1)
@[reducible] def p35_0 : Pat := Pat.mk [(1, .c (.ptr 0 0)), (2, .c (.ptr 1 0)), (3, hI), (4, hI), (5, .c (.ptr 2 0)), (6, hI)] [(0, .cells [.hole (.int .u8), .hole (.list (.int .u8)), .hole (.int .u8), .hole (.int .u8), .hole (.int .u8), .hole (.int .u8), .hole (.int .u8), .hole (.int .u8), .hole (.int .u8), .hole (.int .u8), .hole (.int .u8), .hole (.int .u8), .hole (.int .u8), .hole (.int .u8), .hole (.int .u8), .hole (.int .u8), .hole (.int .u8)] false), (1, .cells [.nsl] false), (2, .cells [.sl0 3 (.prod tI tL)] false), (3, .arr (.prod tI tL) false)] [.slot 1, .slot 2, .slot 5, .cell 2 0] []
@[reducible] def x35_0 : Outs := [(.exit 0, Pat.mk [(2, .c (.ptr 0 0)), (5, .c (.ptr 1 0))] [(0, .cells [.nsl] false), (1, .cells [.sl0 2 (.prod tI tL)] false), (2, .arr (.prod tI tL) false)] [.slot 2, .slot 5, .cell 1 0] [])]
noncomputable def b35_0 : D prog 64 none 0 := dO [.l L35_1] (pick (kd prog f35) [(0, false)]) 0
noncomputable def g35_0 : Int × Int × Int × Int × List Int × Int × Int × Int × Int × Int × Int × Int × Int × Int × Int × Int × Int × Int × Int × Int × Nat × (List (Int × List Int)) × Unit → Tr0 ((Int × Int × Int × Int × List Int × Int × Int × Int × Int × Int × Int × Int × Int × Int × Int × Int × Int × Int × Int × Int × Nat × (List (Int × List Int)) × Unit) ⊕ ((Nat × (List (Int × List Int)) × Unit))) := fun (v3, v4, v6, c0_0, c0_1, c0_2, c0_3, c0_4, c0_5, c0_6, c0_7, c0_8, c0_9, c0_10, c0_11, c0_12, c0_13, c0_14, c0_15, c0_16, nc2_0, b3, _) =>
 .br (decide (v6 < v4)) (
 .jx (
 .br (decide (v6 < (((c0_1).length : Nat) : Int))) (
 .nb v6 (((c0_1).length : Nat) : Int) <|
 .ni ((c0_1).getD (Int.toNat v6) (0 : Int)) <|
 .nd (!((16 : Int) == (0 : Int))) <|
 .ni ((1 : Int) + (Int.tmod ((c0_1).getD (Int.toNat v6) (0 : Int)) (16 : Int))) <|
 .ret (.inl (v3, (v4, (v6, (c0_0, (c0_1, (c0_2, (c0_3, (c0_4, (c0_5, (c0_6, (c0_7, (c0_8, (c0_9, (c0_10, (c0_11, (c0_12, (c0_13, (c0_14, (c0_15, (c0_16, (nc2_0, (((1 : Int) + (Int.tmod ((c0_1).getD (Int.toNat v6) (0 : Int)) (16 : Int))), (b3, ()))))))))))))))))))))))))) (
 .ret (.inl (v3, (v4, (v6, (c0_0, (c0_1, (c0_2, (c0_3, (c0_4, (c0_5, (c0_6, (c0_7, (c0_8, (c0_9, (c0_10, (c0_11, (c0_12, (c0_13, (c0_14, (c0_15, (c0_16, (nc2_0, ((4 : Int), (b3, ())))))))))))))))))))))))))) fun j0 =>
 .bd (.it g35_1 (j0.1, (j0.2.1, (j0.2.2.1, ((0 : Int), (j0.2.2.2.1, (j0.2.2.2.2.1, (j0.2.2.2.2.2.1, (j0.2.2.2.2.2.2.1, (j0.2.2.2.2.2.2.2.1, (j0.2.2.2.2.2.2.2.2.1, (j0.2.2.2.2.2.2.2.2.2.1, (j0.2.2.2.2.2.2.2.2.2.2.1, (j0.2.2.2.2.2.2.2.2.2.2.2.1, (j0.2.2.2.2.2.2.2.2.2.2.2.2.1, (j0.2.2.2.2.2.2.2.2.2.2.2.2.2.1, (j0.2.2.2.2.2.2.2.2.2.2.2.2.2.2.1, (j0.2.2.2.2.2.2.2.2.2.2.2.2.2.2.2.1, (j0.2.2.2.2.2.2.2.2.2.2.2.2.2.2.2.2.1, (j0.2.2.2.2.2.2.2.2.2.2.2.2.2.2.2.2.2.1, (j0.2.2.2.2.2.2.2.2.2.2.2.2.2.2.2.2.2.2.1, (j0.2.2.2.2.2.2.2.2.2.2.2.2.2.2.2.2.2.2.2.1, (j0.2.2.2.2.2.2.2.2.2.2.2.2.2.2.2.2.2.2.2.2.1, (j0.2.2.2.2.2.2.2.2.2.2.2.2.2.2.2.2.2.2.2.2.2.1, ((0 : Nat), (j0.2.2.2.2.2.2.2.2.2.2.2.2.2.2.2.2.2.2.2.2.2.2.1, ([], ()))))))))))))))))))))))))))) fun z1 =>
 .nd (decide ((z1.2.2.2.2.2.2.2.2.2.2.2.2.2.2.2.2.2.2.2.2.1 + ((((((z1.2.2.2.2.2.2.2.2.2.2.2.2.2.2.2.2.2.2.2.2.2.1, (((z1.2.2.2.2.2.2.2.2.2.2.2.2.2.2.2.2.2.2.2.2.2.2.2.2.1).drop (0 : Nat)).take z1.2.2.2.2.2.2.2.2.2.2.2.2.2.2.2.2.2.2.2.2.2.2.1)) :: [])).drop (0 : Nat)).take (1 : Nat))).length) < bigL)) <|
 .ni (z1.2.2.1 + (1 : Int)) <|
 .ret (.inl (z1.1, (z1.2.1, ((z1.2.2.1 + (1 : Int)), (z1.2.2.2.1, (z1.2.2.2.2.1, (z1.2.2.2.2.2.1, (z1.2.2.2.2.2.2.1, (z1.2.2.2.2.2.2.2.1, (z1.2.2.2.2.2.2.2.2.1, (z1.2.2.2.2.2.2.2.2.2.1, (z1.2.2.2.2.2.2.2.2.2.2.1, (z1.2.2.2.2.2.2.2.2.2.2.2.1, (z1.2.2.2.2.2.2.2.2.2.2.2.2.1, (z1.2.2.2.2.2.2.2.2.2.2.2.2.2.1, (z1.2.2.2.2.2.2.2.2.2.2.2.2.2.2.1, (z1.2.2.2.2.2.2.2.2.2.2.2.2.2.2.2.1, (z1.2.2.2.2.2.2.2.2.2.2.2.2.2.2.2.2.1, (z1.2.2.2.2.2.2.2.2.2.2.2.2.2.2.2.2.2.1, (z1.2.2.2.2.2.2.2.2.2.2.2.2.2.2.2.2.2.2.1, (z1.2.2.2.2.2.2.2.2.2.2.2.2.2.2.2.2.2.2.2.1, ((z1.2.2.2.2.2.2.2.2.2.2.2.2.2.2.2.2.2.2.2.2.1 + ((((((z1.2.2.2.2.2.2.2.2.2.2.2.2.2.2.2.2.2.2.2.2.2.1, (((z1.2.2.2.2.2.2.2.2.2.2.2.2.2.2.2.2.2.2.2.2.2.2.2.2.1).drop (0 : Nat)).take z1.2.2.2.2.2.2.2.2.2.2.2.2.2.2.2.2.2.2.2.2.2.2.1)) :: [])).drop (0 : Nat)).take (1 : Nat))).length), (((((z1.2.2.2.2.2.2.2.2.2.2.2.2.2.2.2.2.2.2.2.2.2.2.2.1).drop (0 : Nat)).take z1.2.2.2.2.2.2.2.2.2.2.2.2.2.2.2.2.2.2.2.2.1) ++ (((((z1.2.2.2.2.2.2.2.2.2.2.2.2.2.2.2.2.2.2.2.2.2.1, (((z1.2.2.2.2.2.2.2.2.2.2.2.2.2.2.2.2.2.2.2.2.2.2.2.2.1).drop (0 : Nat)).take z1.2.2.2.2.2.2.2.2.2.2.2.2.2.2.2.2.2.2.2.2.2.2.1)) :: [])).drop (0 : Nat)).take (1 : Nat))), ())))))))))))))))))))))))) (
 .ret (.inr (nc2_0, (b3, ()))))
theorem s35_0 : ∀ x, roundE (kzO (p35_0.T ⊕ x35_0.T)) cx35 ar0 [] p35_0 x35_0 (b35_0) (fun y => some (.inl y)) (fun b => some (.inr b)) x = run0 (g35_0 x) := fun x => Eq.trans (b := run0 (flat (g35_0 x))) (by kernel_rfl) run_flat
noncomputable def L35_0 : LoopS prog 64 none 0 := mkLoop mixed cx35 cx35_ok [] rfl p35_0 x35_0 rfl (b35_0) (fun x => run0 (g35_0 x)) (s35_0)
noncomputable def dd35 : D prog 64 none 0 := dO [.l L35_0] (kd prog f35) 0
noncomputable def F35 (a0 : Int × (List Int) × Int × Int × Int × Int × Int × Int × Int × Int × Int × Int × Int × Int × Int × Int × Int) : Tr0 (((List (Int × List Int)) × Unit) × Unit) :=
 .ni a0.1 <|
 .nd (!((5 : Int) == (0 : Int))) <|
 .ni ((1 : Int) + (Int.tmod a0.1 (5 : Int))) <|
 .bd (.it g35_0 (((1 : Int) + (Int.tmod a0.1 (5 : Int))), ((imin (3 : Int) (imax (1 : Int) (((a0.2.1).length : Nat) : Int))), ((0 : Int), (a0.1, (a0.2.1, (a0.2.2.1, (a0.2.2.2.1, (a0.2.2.2.2.1, (a0.2.2.2.2.2.1, (a0.2.2.2.2.2.2.1, (a0.2.2.2.2.2.2.2.1, (a0.2.2.2.2.2.2.2.2.1, (a0.2.2.2.2.2.2.2.2.2.1, (a0.2.2.2.2.2.2.2.2.2.2.1, (a0.2.2.2.2.2.2.2.2.2.2.2.1, (a0.2.2.2.2.2.2.2.2.2.2.2.2.1, (a0.2.2.2.2.2.2.2.2.2.2.2.2.2.1, (a0.2.2.2.2.2.2.2.2.2.2.2.2.2.2.1, (a0.2.2.2.2.2.2.2.2.2.2.2.2.2.2.2.1, (a0.2.2.2.2.2.2.2.2.2.2.2.2.2.2.2.2, ((0 : Nat), ([], ()))))))))))))))))))))))) fun z2 =>
 .ret (((((z2.2.1).drop (0 : Nat)).take z2.1), ()), ())
theorem c35_ok : trF prog f35 = some ⟨64, 1, dd35.er, [.cell 2 true 1], [some (.prod (.list (.prod tI tL)) .unit)]⟩ := by kernel_rfl
noncomputable def ct35 : Ct := ⟨35, [.c (.hole (.prod (.int .u8) (.prod (.list (.int .u8)) (.prod (.int .u8) (.prod (.int .u8) (.prod (.int .u8) (.prod (.int .u8) (.prod (.int .u8) (.prod (.int .u8) (.prod (.int .u8) (.prod (.int .u8) (.prod (.int .u8) (.prod (.int .u8) (.prod (.int .u8) (.prod (.int .u8) (.prod (.int .u8) (.prod (.int .u8) (.int .u8))))))))))))))))))], .c (.hole (.prod (.list (.prod tI tL)) .unit)), fun x => run0 (F35 x.1)⟩
theorem ct35_ok : ct35.Ok prog := ct_ok mixed cx35_ok func35 c35_ok (enters_of func35 rfl rfl) dd35 (by kernel_rfl) rfl (fun x => by kernel_rfl)

/- 36 -/
noncomputable def cx36 : Cx := mkCxH [] []
theorem cx36_ok : cx36.Ok prog := mkCxH_ok trivial trivial
noncomputable def dd36 : D prog 9 none 0 := dO [] (kd prog f36) 0
noncomputable def F36 (a0_0 : List (Int × List Int)) : Tr0 (Int × Unit) :=
 .nb (0 : Int) (((a0_0).length : Nat) : Int) <|
 .ret ((((((a0_0).getD (Int.toNat (0 : Int)) ((0 : Int), [])).2).length : Nat) : Int), ())
theorem c36_ok : trF prog f36 = some ⟨9, 1, dd36.er, [.t 2], [some tI]⟩ := by kernel_rfl
noncomputable def ct36 : Ct := ⟨36, [.agg [.hole (.list (.prod tI tL))]], hI, fun x => run0 (F36 x.1)⟩
theorem ct36_ok : ct36.Ok prog := ct_ok mixed cx36_ok func36 c36_ok (enters_of func36 rfl rfl) dd36 (by kernel_rfl) rfl (fun x => by kernel_rfl)

/- 39 -/
noncomputable def cx39 : Cx := mkCxH [] []
theorem cx39_ok : cx39.Ok prog := mkCxH_ok trivial trivial
@[reducible] def p39_1 : Pat := Pat.mk [(1, hI), (6, .c (.ptr 0 0)), (7, hI), (11, .c (.hole (.list (.prod tI tL)))), (12, hI), (13, hI), (18, hL), (19, hI), (20, hI)] [(0, .cells [.hole tI, .hole tL] false)] [.slot 6] []
@[reducible] def x39_1 : Outs := [(.exit 2, Pat.mk [(1, hI), (6, .c (.ptr 0 0)), (7, hI), (11, .c (.hole (.list (.prod tI tL)))), (12, hI), (13, hI)] [(0, .cells [.hole tI, .hole tL] false)] [.slot 6] [])]
noncomputable def b39_1 : D prog 39 none 0 := dO [] (pick (kd prog f39) [(0, false), (0, false)]) 0
noncomputable def g39_1 : Int × Int × (List (Int × List Int)) × Int × Int × List Int × Int × Int × Int × List Int × Unit → Tr0 ((Int × Int × (List (Int × List Int)) × Int × Int × List Int × Int × Int × Int × List Int × Unit) ⊕ ((Int × Int × (List (Int × List Int)) × Int × Int × Int × List Int × Unit))) := fun (v1, v7, v11, v12, v13, v18, v19, v20, c0_0, c0_1, _) =>
 .br (decide (v20 < v19)) (
 .nb v20 (((v18).length : Nat) : Int) <|
 .nb v20 (64 : Int) <|
 .ni ((ar0.bits Go.AM.IBin.and Go.IntKind.i64 (ar0.shr v1 v20) (1 : Int)) * ((v18).getD (Int.toNat v20) (0 : Int))) <|
 .ni (v7 + ((ar0.bits Go.AM.IBin.and Go.IntKind.i64 (ar0.shr v1 v20) (1 : Int)) * ((v18).getD (Int.toNat v20) (0 : Int)))) <|
 .ni (v20 + (1 : Int)) <|
 .ret (.inl (v1, ((v7 + ((ar0.bits Go.AM.IBin.and Go.IntKind.i64 (ar0.shr v1 v20) (1 : Int)) * ((v18).getD (Int.toNat v20) (0 : Int)))), (v11, (v12, (v13, (v18, (v19, ((v20 + (1 : Int)), (c0_0, (c0_1, ())))))))))))) (
 .ret (.inr (v1, (v7, (v11, (v12, (v13, (c0_0, (c0_1, ())))))))))
theorem s39_1 : ∀ x, roundE (kzO (p39_1.T ⊕ x39_1.T)) cx39 ar0 [] p39_1 x39_1 (b39_1) (fun y => some (.inl y)) (fun b => some (.inr b)) x = run0 (g39_1 x) := fun x => by kernel_rfl
noncomputable def L39_1 : LoopS prog 39 none 0 := mkLoop mixed cx39 cx39_ok [] rfl p39_1 x39_1 rfl (b39_1) (fun x => run0 (g39_1 x)) (s39_1)
@[reducible] def p39_0 : Pat := Pat.mk [(1, hI), (11, .c (.hole (.list (.prod tI tL)))), (12, hI), (13, hI)] [] [] []
@[reducible] def x39_0 : Outs := [(.ret, Pat.mk [(4, .c (.tf false))] [] [] []), (.exit 0, Pat.mk [] [] [] [])]
noncomputable def b39_0 : D prog 39 none 0 := dO [.l L39_1] (pick (kd prog f39) [(0, false)]) 0
noncomputable def g39_0 : Int × (List (Int × List Int)) × Int × Int × Unit → Tr0 ((Int × (List (Int × List Int)) × Int × Int × Unit) ⊕ ((Unit) ⊕ ((Unit)))) := fun (v1, v11, v12, v13, _) =>
 .br (decide (v13 < v12)) (
 .nb v13 (((v11).length : Nat) : Int) <|
 .bd (.it g39_1 (v1, ((0 : Int), (v11, (v12, (v13, (((v11).getD (Int.toNat v13) ((0 : Int), [])).2, ((((((v11).getD (Int.toNat v13) ((0 : Int), [])).2).length : Nat) : Int), ((0 : Int), (((v11).getD (Int.toNat v13) ((0 : Int), [])).1, (((v11).getD (Int.toNat v13) ((0 : Int), [])).2, ()))))))))))) fun z0 =>
 .br (decide (z0.2.1 < z0.2.2.2.2.2.1)) (
 .ret (.inr <| .inl <| ())) (
 .ni (z0.2.2.2.2.1 + (1 : Int)) <|
 .ret (.inl (z0.1, (z0.2.2.1, (z0.2.2.2.1, ((z0.2.2.2.2.1 + (1 : Int)), ()))))))) (
 .ret (.inr <| .inr <| ()))
theorem s39_0 : ∀ x, roundE (kzO (p39_0.T ⊕ x39_0.T)) cx39 ar0 [] p39_0 x39_0 (b39_0) (fun y => some (.inl y)) (fun b => some (.inr b)) x = run0 (g39_0 x) := fun x => by kernel_rfl
noncomputable def L39_0 : LoopS prog 39 none 0 := mkLoop mixed cx39 cx39_ok [] rfl p39_0 x39_0 rfl (b39_0) (fun x => run0 (g39_0 x)) (s39_0)
noncomputable def dd39 : D prog 39 none 0 := dO [.l L39_0] (kd prog f39) 0
noncomputable def F39 (a0_0 : List (Int × List Int)) (a1 : Int) : Tr0 (Bool × Unit) :=
 .bd (.it g39_0 (a1, (a0_0, ((((a0_0).length : Nat) : Int), ((0 : Int), ()))))) fun z1 =>
 .sm z1 (fun z2 =>
 .ret (false, ())) fun z3 =>
 .ret (true, ())
theorem c39_ok : trF prog f39 = some ⟨39, 2, dd39.er, [.t 4], [some .bool]⟩ := by kernel_rfl
noncomputable def ct39 : Ct := ⟨39, [.agg [.hole (.list (.prod tI tL))], hI], .c (.hole .bool), fun x => run0 (F39 x.1 x.2.1)⟩
theorem ct39_ok : ct39.Ok prog := ct_ok mixed cx39_ok func39 c39_ok (enters_of func39 rfl rfl) dd39 (by kernel_rfl) rfl (fun x => by kernel_rfl)

/- 40 -/
noncomputable def cx40 : Cx := mkCxH [] []
theorem cx40_ok : cx40.Ok prog := mkCxH_ok trivial trivial
@[reducible] def p40_0 : Pat := Pat.mk [(0, hI), (3, .c (.sl0 0 tI)), (4, hI)] [(0, .arr tI false)] [.slot 3] []
@[reducible] def x40_0 : Outs := [(.exit 0, Pat.mk [(3, .c (.sl0 0 tI))] [(0, .arr tI false)] [.slot 3] [])]
noncomputable def b40_0 : D prog 21 none 0 := dO [] (pick (kd prog f40) [(0, false)]) 0
noncomputable def g40_0 : Int × Nat × Int × List Int × Unit → Tr0 ((Int × Nat × Int × List Int × Unit) ⊕ ((Nat × List Int × Unit))) := fun (v0, nv3, v4, b0, _) =>
 .nb v4 (64 : Int) <|
 .br (!((ar0.shr v0 v4) == (0 : Int))) (
 .nb v4 (64 : Int) <|
 .br ((ar0.bits Go.AM.IBin.and Go.IntKind.i64 (ar0.shr v0 v4) (1 : Int)) == (1 : Int)) (
 .nd (decide ((nv3 + (((((v4 :: [])).drop (0 : Nat)).take (1 : Nat))).length) < bigL)) <|
 .ni (v4 + (1 : Int)) <|
 .ret (.inl (v0, ((nv3 + (((((v4 :: [])).drop (0 : Nat)).take (1 : Nat))).length), ((v4 + (1 : Int)), (((((b0).drop (0 : Nat)).take nv3) ++ ((((v4 :: [])).drop (0 : Nat)).take (1 : Nat))), ())))))) (
 .ni (v4 + (1 : Int)) <|
 .ret (.inl (v0, (nv3, ((v4 + (1 : Int)), (b0, ()))))))) (
 .ret (.inr (nv3, (b0, ()))))
theorem s40_0 : ∀ x, roundE (kzO (p40_0.T ⊕ x40_0.T)) cx40 ar0 [] p40_0 x40_0 (b40_0) (fun y => some (.inl y)) (fun b => some (.inr b)) x = run0 (g40_0 x) := fun x => by kernel_rfl
noncomputable def L40_0 : LoopS prog 21 none 0 := mkLoop mixed cx40 cx40_ok [] rfl p40_0 x40_0 rfl (b40_0) (fun x => run0 (g40_0 x)) (s40_0)
noncomputable def dd40 : D prog 21 none 0 := dO [.l L40_0] (kd prog f40) 0
noncomputable def F40 (a0 : Int) : Tr0 (List Int × Unit) :=
 .bd (.it g40_0 (a0, ((0 : Nat), ((0 : Int), ([], ()))))) fun z0 =>
 .ret ((((z0.2.1).drop (0 : Nat)).take z0.1), ())
theorem c40_ok : trF prog f40 = some ⟨21, 1, dd40.er, [.t 2], [some tL]⟩ := by kernel_rfl
noncomputable def ct40 : Ct := ⟨40, [hI], hL, fun x => run0 (F40 x.1)⟩
theorem ct40_ok : ct40.Ok prog := ct_ok mixed cx40_ok func40 c40_ok (enters_of func40 rfl rfl) dd40 (by kernel_rfl) rfl (fun x => by kernel_rfl)

/- 51 -/
noncomputable def cx51 : Cx := (mkCxH [] [])
theorem cx51_ok : cx51.Ok prog := mkCxH_ok trivial trivial
@[reducible] def p51_0 : Pat := Pat.mk [(0, hL), (1, hL), (7, hI), (8, hI)] [] [] []
@[reducible] def x51_0 : Outs := [(.ret, Pat.mk [(4, .c (.hole .bool))] [] [] []), (.exit 0, Pat.mk [(0, hL), (1, hL)] [] [] [])]
noncomputable def b51_0 : D prog 39 none 0 := dO [] (pick (kd prog f51) [(0, false)]) 0
noncomputable def g51_0 : List Int × List Int × Int × Int × Unit → Tr0 ((List Int × List Int × Int × Int × Unit) ⊕ ((Bool × Unit) ⊕ ((List Int × List Int × Unit)))) := fun (v0, v1, v7, v8, _) =>
 .br (decide (v8 < v7)) (
 .br (decide ((((v1).length : Nat) : Int) ≤ v8)) (
 .ret (.inr <| .inl <| (false, ()))) (
 .nb v8 (((v0).length : Nat) : Int) <|
 .nb v8 (((v1).length : Nat) : Int) <|
 .br (!(((v0).getD (Int.toNat v8) (0 : Int)) == ((v1).getD (Int.toNat v8) (0 : Int)))) (
 .nb v8 (((v0).length : Nat) : Int) <|
 .nb v8 (((v1).length : Nat) : Int) <|
 .ret (.inr <| .inl <| ((decide (((v0).getD (Int.toNat v8) (0 : Int)) < ((v1).getD (Int.toNat v8) (0 : Int)))), ()))) (
 .ni (v8 + (1 : Int)) <|
 .ret (.inl (v0, (v1, (v7, ((v8 + (1 : Int)), ())))))))) (
 .ret (.inr <| .inr <| (v0, (v1, ()))))
theorem s51_0 : ∀ x, roundE (kzO (p51_0.T ⊕ x51_0.T)) cx51 ar0 [] p51_0 x51_0 (b51_0) (fun y => some (.inl y)) (fun b => some (.inr b)) x = run0 (g51_0 x) := fun x => by kernel_rfl
noncomputable def L51_0 : LoopS prog 39 none 0 := mkLoop mixed cx51 cx51_ok [] rfl p51_0 x51_0 rfl (b51_0) (fun x => run0 (g51_0 x)) (s51_0)
noncomputable def dd51 : D prog 39 none 0 := dO [.l L51_0] (kd prog f51) 0
noncomputable def F51 (a0 : List Int) (a1 : List Int) : Tr0 (Bool × Unit) :=
 .bd (.it g51_0 (a0, (a1, ((((a0).length : Nat) : Int), ((0 : Int), ()))))) fun z0 =>
 .sm z0 (fun z1 =>
 .ret (z1.1, ())) fun z2 =>
 .ret ((decide ((((z2.1).length : Nat) : Int) < (((z2.2.1).length : Nat) : Int))), ())
theorem c51_ok : trF prog f51 = some ⟨39, 2, dd51.er, [.t 4], [some .bool]⟩ := by kernel_rfl
noncomputable def ct51 : Ct := ⟨51, [hL, hL], .c (.hole .bool), fun x => run0 (F51 x.1 x.2.1)⟩
theorem ct51_ok : ct51.Ok prog := ct_ok mixed cx51_ok func51 c51_ok (enters_of func51 rfl rfl) dd51 (by kernel_rfl) rfl (fun x => by kernel_rfl)

/- 14 -/
noncomputable def cx14 : Cx := (mkCxH [ct35, ct46, ct36, ct40, ct22, ct39, ct51, ct44, ct16] [])
theorem cx14_ok : cx14.Ok prog := mkCxH_ok ⟨ct35_ok, ct46_ok, ct36_ok, ct40_ok, ct22_ok, ct39_ok, ct51_ok, ct44_ok, ct16_ok, trivial⟩ trivial
@[reducible] def p14_1 : Pat := Pat.mk [(3, .c (.ptr 0 0)), (4, hLL), (6, .c (.mp 1)), (8, hI), (9, hL), (10, hI), (30, hLL), (31, hI), (32, hI), (37, hL), (38, hI), (39, hI)] [(0, .cells [.hole (.list (.prod tI tL))] false), (1, .map tI false .bool false)] [.slot 3, .slot 6] []
@[reducible] def x14_1 : Outs := [(.ret, Pat.mk [(2, .c (.tf false))] [] [] []), (.exit 2, Pat.mk [(3, .c (.ptr 0 0)), (4, hLL), (6, .c (.mp 1)), (8, hI), (9, hL), (10, hI), (30, hLL), (31, hI), (32, hI)] [(0, .cells [.hole (.list (.prod tI tL))] false), (1, .map tI false .bool false)] [.slot 3, .slot 6] [])]
noncomputable def b14_1 : D prog 170 none 0 := dO [] (pick (kd prog f14) [(0, false), (0, false)]) 0
noncomputable def g14_1 : List (List Int) × Int × List Int × Int × List (List Int) × Int × Int × List Int × Int × Int × (List (Int × List Int)) × (List (Int × Bool)) × Unit → Tr0 ((List (List Int) × Int × List Int × Int × List (List Int) × Int × Int × List Int × Int × Int × (List (Int × List Int)) × (List (Int × Bool)) × Unit) ⊕ ((Unit) ⊕ ((List (List Int) × Int × List Int × Int × List (List Int) × Int × Int × (List (Int × List Int)) × (List (Int × Bool)) × Unit)))) := fun (v4, v8, v9, v10, v30, v31, v32, v37, v38, v39, c0_0, m1, _) =>
 .br (decide (v39 < v38)) (
 .nb v39 (((v37).length : Nat) : Int) <|
 .br (decide (((v37).getD (Int.toNat v39) (0 : Int)) < (0 : Int))) (
 .ret (.inr <| .inl <| ())) (
 .bd (F36 c0_0) fun y2 =>
 .br (decide (y2.1 ≤ ((v37).getD (Int.toNat v39) (0 : Int)))) (
 .ret (.inr <| .inl <| ())) (
 .nb ((v37).getD (Int.toNat v39) (0 : Int)) (64 : Int) <|
 .ni (ar0.shl (1 : Int) ((v37).getD (Int.toNat v39) (0 : Int))) <|
 .ni (v39 + (1 : Int)) <|
 .ret (.inl (v4, (v8, (v9, ((ar0.bits Go.AM.IBin.or Go.IntKind.i64 v10 (ar0.shl (1 : Int) ((v37).getD (Int.toNat v39) (0 : Int)))), (v30, (v31, (v32, (v37, (v38, ((v39 + (1 : Int)), (c0_0, (m1, ())))))))))))))))) (
 .ret (.inr <| .inr <| (v4, (v8, (v9, (v10, (v30, (v31, (v32, (c0_0, (m1, ())))))))))))
theorem s14_1 : ∀ x, roundE (kzO (p14_1.T ⊕ x14_1.T)) cx14 ar0 [] p14_1 x14_1 (b14_1) (fun y => some (.inl y)) (fun b => some (.inr b)) x = run0 (g14_1 x) := fun x => by kernel_rfl
noncomputable def L14_1 : LoopS prog 170 none 0 := mkLoop mixed cx14 cx14_ok [] rfl p14_1 x14_1 rfl (b14_1) (fun x => run0 (g14_1 x)) (s14_1)
@[reducible] def p14_0 : Pat := Pat.mk [(3, .c (.ptr 0 0)), (4, hLL), (6, .c (.mp 1)), (7, hI), (30, hLL), (31, hI), (32, hI)] [(0, .cells [.hole (.list (.prod tI tL))] false), (1, .map tI false .bool false)] [.slot 3, .slot 6] []
@[reducible] def x14_0 : Outs := [(.ret, Pat.mk [(2, .c (.tf false))] [] [] []), (.exit 0, Pat.mk [(3, .c (.ptr 0 0)), (4, hLL), (6, .c (.mp 1)), (7, hI)] [(0, .cells [.hole (.list (.prod tI tL))] false), (1, .map tI false .bool false)] [.slot 3, .slot 6] [])]
noncomputable def b14_0 : D prog 170 none 0 := dO [.l L14_1] (pick (kd prog f14) [(0, false)]) 0
noncomputable def g14_0 : List (List Int) × Int × List (List Int) × Int × Int × (List (Int × List Int)) × (List (Int × Bool)) × Unit → Tr0 ((List (List Int) × Int × List (List Int) × Int × Int × (List (Int × List Int)) × (List (Int × Bool)) × Unit) ⊕ ((Unit) ⊕ ((List (List Int) × Int × (List (Int × List Int)) × (List (Int × Bool)) × Unit)))) := fun (v4, v7, v30, v31, v32, c0_0, m1, _) =>
 .br (decide (v32 < v31)) (
 .nb v32 (((v30).length : Nat) : Int) <|
 .bd (.it g14_1 (v4, (v32, (((v30).getD (Int.toNat v32) []), ((0 : Int), (v30, (v31, (v32, (((v30).getD (Int.toNat v32) []), ((((((v30).getD (Int.toNat v32) [])).length : Nat) : Int), ((0 : Int), (c0_0, (m1, ()))))))))))))) fun z3 =>
 .sm z3 (fun z4 =>
 .ret (.inr <| .inl <| ())) fun z5 =>
 .bd (F40 z5.2.2.2.1) fun y6 =>
 .bd (F22 y6.1 z5.2.2.1) fun y7 =>
 .br (!y7.1) (
 .ret (.inr <| .inl <| ())) (
 .bd (F39 z5.2.2.2.2.2.2.2.1 z5.2.2.2.1) fun y8 =>
 .br (!y8.1) (
 .ret (.inr <| .inl <| ())) (
 .br (decide ((0 : Int) < z5.2.1)) (
 .ni (z5.2.1 - (1 : Int)) <|
 .nb (z5.2.1 - (1 : Int)) (((z5.1).length : Nat) : Int) <|
 .bd (F51 ((z5.1).getD (Int.toNat (z5.2.1 - (1 : Int))) []) z5.2.2.1) fun y9 =>
 .br (!y9.1) (
 .ret (.inr <| .inl <| ())) (
 .ni (z5.2.2.2.2.2.2.1 + (1 : Int)) <|
 .ret (.inl (z5.1, (z5.2.2.2.1, (z5.2.2.2.2.1, (z5.2.2.2.2.2.1, ((z5.2.2.2.2.2.2.1 + (1 : Int)), (z5.2.2.2.2.2.2.2.1, ((msetL (.int .i64) z5.2.2.2.2.2.2.2.2.1 z5.2.2.2.1 true), ())))))))))) (
 .ni (z5.2.2.2.2.2.2.1 + (1 : Int)) <|
 .ret (.inl (z5.1, (z5.2.2.2.1, (z5.2.2.2.2.1, (z5.2.2.2.2.2.1, ((z5.2.2.2.2.2.2.1 + (1 : Int)), (z5.2.2.2.2.2.2.2.1, ((msetL (.int .i64) z5.2.2.2.2.2.2.2.2.1 z5.2.2.2.1 true), ())))))))))))) (
 .ret (.inr <| .inr <| (v4, (v7, (c0_0, (m1, ()))))))
theorem s14_0 : ∀ x, roundE (kzO (p14_0.T ⊕ x14_0.T)) cx14 ar0 [] p14_0 x14_0 (b14_0) (fun y => some (.inl y)) (fun b => some (.inr b)) x = run0 (g14_0 x) := fun x => by kernel_rfl
noncomputable def L14_0 : LoopS prog 170 none 0 := mkLoop mixed cx14 cx14_ok [] rfl p14_0 x14_0 rfl (b14_0) (fun x => run0 (g14_0 x)) (s14_0)
@[reducible] def p14_3 : Pat := Pat.mk [(3, .c (.ptr 0 0)), (6, .c (.mp 1)), (13, hI), (14, .c (.hole .bool)), (16, .c (.hole .bool)), (17, .c (.tf false)), (18, hI), (116, .c (.hole .bool)), (117, .agg [.hole (.list (.prod tI tL))]), (118, hI), (119, .c (.hole .bool)), (120, .c (.hole .bool))] [(0, .cells [.hole (.list (.prod tI tL))] false), (1, .map tI false .bool false)] [.slot 3, .slot 6] []
@[reducible] def x14_3 : Outs := [(.exit 6, Pat.mk [(3, .c (.ptr 0 0)), (6, .c (.mp 1)), (13, hI), (14, .c (.hole .bool)), (16, .c (.hole .bool)), (17, .c (.tf false)), (116, .c (.hole .bool)), (117, .agg [.hole (.list (.prod tI tL))]), (118, hI), (119, .c (.hole .bool)), (120, .c (.hole .bool))] [(0, .cells [.hole (.list (.prod tI tL))] false), (1, .map tI false .bool false)] [.slot 3, .slot 6] [])]
noncomputable def b14_3 : D prog 170 none 0 := dO [] (pick (kd prog f14) [(1, false), (0, false)]) 0
noncomputable def g14_3 : Int × Bool × Bool × Int × Bool × (List (Int × List Int)) × Int × Bool × Bool × (List (Int × List Int)) × (List (Int × Bool)) × Unit → Tr0 ((Int × Bool × Bool × Int × Bool × (List (Int × List Int)) × Int × Bool × Bool × (List (Int × List Int)) × (List (Int × Bool)) × Unit) ⊕ ((Int × Bool × Bool × Bool × (List (Int × List Int)) × Int × Bool × Bool × (List (Int × List Int)) × (List (Int × Bool)) × Unit))) := fun (v13, v14, v16, v18, v116, v117_0, v118, v119, v120, c0_0, m1, _) =>
 .bd (F36 c0_0) fun y17 =>
 .br (decide (v18 < y17.1)) (
 .br v16 (
 .nb v18 (64 : Int) <|
 .br ((ar0.bits Go.AM.IBin.and Go.IntKind.i64 (ar0.shr v13 v18) (1 : Int)) == (0 : Int)) (
 .ni (v18 + (1 : Int)) <|
 .ret (.inl (v13, (v14, (true, ((v18 + (1 : Int)), (v116, (v117_0, (v118, (v119, (v120, (c0_0, (m1, ()))))))))))))) (
 .nb v18 (64 : Int) <|
 .ni (ar0.shl (1 : Int) v18) <|
 .bd (F39 c0_0 (ar0.bits Go.AM.IBin.andNot Go.IntKind.i64 v13 (ar0.shl (1 : Int) v18))) fun y18 =>
 .ni (v18 + (1 : Int)) <|
 .ret (.inl (v13, (v14, ((!y18.1), ((v18 + (1 : Int)), (v116, (v117_0, (v118, (v119, (v120, (c0_0, (m1, ())))))))))))))) (
 .ni (v18 + (1 : Int)) <|
 .ret (.inl (v13, (v14, (false, ((v18 + (1 : Int)), (v116, (v117_0, (v118, (v119, (v120, (c0_0, (m1, ())))))))))))))) (
 .ret (.inr (v13, (v14, (v16, (v116, (v117_0, (v118, (v119, (v120, (c0_0, (m1, ()))))))))))))
theorem s14_3 : ∀ x, roundE (kzO (p14_3.T ⊕ x14_3.T)) cx14 ar0 [] p14_3 x14_3 (b14_3) (fun y => some (.inl y)) (fun b => some (.inr b)) x = run0 (g14_3 x) := fun x => by kernel_rfl
noncomputable def L14_3 : LoopS prog 170 none 0 := mkLoop mixed cx14 cx14_ok [] rfl p14_3 x14_3 rfl (b14_3) (fun x => run0 (g14_3 x)) (s14_3)
@[reducible] def p14_4 : Pat := Pat.mk [(3, .c (.ptr 0 0)), (6, .c (.mp 1)), (13, hI), (14, .c (.hole .bool)), (16, .c (.hole .bool)), (17, .c (.hole .bool)), (116, .c (.hole .bool)), (117, .agg [.hole (.list (.prod tI tL))]), (118, hI), (119, .c (.hole .bool)), (120, .c (.hole .bool)), (146, .c (.mp 1))] [(0, .cells [.hole (.list (.prod tI tL))] false), (1, .map tI false .bool false)] [.slot 3, .slot 6] []
noncomputable def b14_4 : D prog 170 none 3 := dO [] (pick (kd prog f14) [(1, false), (1, false)]) 0
noncomputable def g14_4 : ((Int) × (Bool)) → Int × Bool × Bool × Bool × Bool × (List (Int × List Int)) × Int × Bool × Bool × (List (Int × List Int)) × (List (Int × Bool)) × Unit → Tr0 (Int × Bool × Bool × Bool × Bool × (List (Int × List Int)) × Int × Bool × Bool × (List (Int × List Int)) × (List (Int × Bool)) × Unit) := fun e (v13, v14, v16, v17, v116, v117_0, v118, v119, v120, c0_0, m1, _) =>
 .br v17 (
 .nd (sameD m1 m1) <|
 .ret (v13, (v14, (v16, (true, (v116, (v117_0, (v118, (v119, (v120, (c0_0, (m1, ())))))))))))) (
 .nd (sameD m1 m1) <|
 .ret (v13, (v14, (v16, (((ar0.bits Go.AM.IBin.andNot Go.IntKind.i64 e.1 v13) == (0 : Int)), (v116, (v117_0, (v118, (v119, (v120, (c0_0, (m1, ()))))))))))))
theorem s14_4 : ∀ e x, mapE (base := 0) (kzO p14_4.T) cx14 [] p14_4 [] 146 147 [148, 149] (some 150) ( .int .i64) false ( .bool) false (b14_4) (fun y => some y) noB e x = run0 (g14_4 e x) := fun e => fun x => by kernel_rfl
noncomputable def M14_4 : MapS prog 170 none 0 := mkMapR0 mixed cx14 cx14_ok [] rfl p14_4 ( [.op (some 146) none (.mv (.t 6))]) 146 147 [148, 149] (some 150) ( .int .i64) false ( .bool) false 8 rfl 3 rfl (b14_4) (fun e x => run0 (g14_4 e x)) (s14_4)
@[reducible] def p14_2 : Pat := Pat.mk [(3, .c (.ptr 0 0)), (6, .c (.mp 1)), (13, hI)] [(0, .cells [.hole (.list (.prod tI tL))] false), (1, .map tI false .bool false)] [.slot 3, .slot 6] []
@[reducible] def x14_2 : Outs := [(.ret, Pat.mk [(2, .c (.tf false))] [] [] []), (.exit 4, Pat.mk [] [] [] [])]
noncomputable def b14_2 : D prog 170 none 0 := dO [.l L14_3, .m M14_4] (pick (kd prog f14) [(1, false)]) 0
noncomputable def g14_2 : Int × (List (Int × List Int)) × (List (Int × Bool)) × Unit → Tr0 ((Int × (List (Int × List Int)) × (List (Int × Bool)) × Unit) ⊕ ((Unit) ⊕ ((Unit)))) := fun (v13, c0_0, m1, _) =>
 .bd (F36 c0_0) fun y13 =>
 .nb y13.1 (64 : Int) <|
 .ni (ar0.shl (1 : Int) y13.1) <|
 .br (decide (v13 < (ar0.shl (1 : Int) y13.1))) (
 .bd (F40 v13) fun y14 =>
 .bd (F44 c0_0 y14.1) fun y15 =>
 .br (!(y15.2.1 == (0 : Int))) (
 .ret (.inr <| .inl <| ())) (
 .bd (F39 c0_0 v13) fun y16 =>
 .br (!(y15.1 == y16.1)) (
 .ret (.inr <| .inl <| ())) (
 .bd (.it g14_3 (v13, (y15.1, (y15.1, ((0 : Int), (y15.1, (c0_0, (v13, (y16.1, ((!(y15.1 == y16.1)), (c0_0, (m1, ())))))))))))) fun z19 =>
 .bd (.mq g14_4 z19.2.2.2.2.2.2.2.2.2.1 (z19.1, (z19.2.1, (z19.2.2.1, (false, (z19.2.2.2.1, (z19.2.2.2.2.1, (z19.2.2.2.2.2.1, (z19.2.2.2.2.2.2.1, (z19.2.2.2.2.2.2.2.1, (z19.2.2.2.2.2.2.2.2.1, (z19.2.2.2.2.2.2.2.2.2.1, ())))))))))))) fun z20 =>
 .br (!(z20.2.2.1 == (mgetL (.int .i64) false z20.2.2.2.2.2.2.2.2.2.2.1 z20.1))) (
 .ret (.inr <| .inl <| ())) (
 .br (!(z20.2.1 == z20.2.2.2.1)) (
 .ret (.inr <| .inl <| ())) (
 .ni (z20.1 + (1 : Int)) <|
 .ret (.inl ((z20.1 + (1 : Int)), (z20.2.2.2.2.2.2.2.2.2.1, (z20.2.2.2.2.2.2.2.2.2.2.1, ()))))))))) (
 .ret (.inr <| .inr <| ()))
theorem s14_2 : ∀ x, roundE (kzO (p14_2.T ⊕ x14_2.T)) cx14 ar0 [] p14_2 x14_2 (b14_2) (fun y => some (.inl y)) (fun b => some (.inr b)) x = run0 (g14_2 x) := fun x => by kernel_rfl
noncomputable def L14_2 : LoopS prog 170 none 0 := mkLoop mixed cx14 cx14_ok [] rfl p14_2 x14_2 rfl (b14_2) (fun x => run0 (g14_2 x)) (s14_2)
noncomputable def dd14 : D prog 170 none 0 := dO [.l L14_0, .l L14_2] (kd prog f14) 0
noncomputable def F14 (a0 : Int × (List Int) × (Int × Int × Int × Int × Int) × (Int × Int × Int × Int × Int) × Int × Int × Int × Int × Int) : Tr0 (Bool × Unit) :=
 .bd (F35 (a0.1, (a0.2.1, (a0.2.2.1.1, (a0.2.2.1.2.1, (a0.2.2.1.2.2.1, (a0.2.2.1.2.2.2.1, (a0.2.2.1.2.2.2.2, (a0.2.2.2.1.1, (a0.2.2.2.1.2.1, (a0.2.2.2.1.2.2.1, (a0.2.2.2.1.2.2.2.1, (a0.2.2.2.1.2.2.2.2, (a0.2.2.2.2.1, (a0.2.2.2.2.2.1, (a0.2.2.2.2.2.2.1, (a0.2.2.2.2.2.2.2.1, a0.2.2.2.2.2.2.2.2))))))))))))))))) fun y0 =>
 .bd (F46 y0.1.1) fun y1 =>
 .br (!(y1.2.1 == (0 : Int))) (
 .ret (false, ())) (
 .bd (.it g14_0 (y1.1, ((-1 : Int), (y1.1, ((((y1.1).length : Nat) : Int), ((0 : Int), (y0.1.1, ([], ())))))))) fun z10 =>
 .sm z10 (fun z11 =>
 .ret (false, ())) fun z12 =>
 .br (decide ((0 : Int) < (((z12.1).length : Nat) : Int))) (
 .br (!(mgetL (.int .i64) false z12.2.2.2.1 z12.2.1)) (
 .ret (false, ())) (
 .br (!((((z12.2.2.2.1).length : Nat) : Int) == (((z12.1).length : Nat) : Int))) (
 .ret (false, ())) (
 .bd (.it g14_2 ((0 : Int), (z12.2.2.1, (z12.2.2.2.1, ())))) fun z21 =>
 .sm z21 (fun z22 =>
 .ret (false, ())) fun z23 =>
 .bd (F16) fun y24 =>
 .ret (y24.1, ())))) (
 .br (!((((z12.2.2.2.1).length : Nat) : Int) == (((z12.1).length : Nat) : Int))) (
 .ret (false, ())) (
 .bd (.it g14_2 ((0 : Int), (z12.2.2.1, (z12.2.2.2.1, ())))) fun z25 =>
 .sm z25 (fun z26 =>
 .ret (false, ())) fun z27 =>
 .bd (F16) fun y28 =>
 .ret (y28.1, ()))))
theorem c14_ok : trF prog f14 = some ⟨170, 1, dd14.er, [.t 2], [some .bool]⟩ := by kernel_rfl
noncomputable def ct14 : Ct := ⟨14, [.c (.hole (.prod (.int .u8) (.prod (.list (.int .u8)) (.prod (.prod (.int .u8) (.prod (.int .u8) (.prod (.int .u8) (.prod (.int .u8) (.int .u8))))) (.prod (.prod (.int .u8) (.prod (.int .u8) (.prod (.int .u8) (.prod (.int .u8) (.int .u8))))) (.prod (.int .u8) (.prod (.int .u8) (.prod (.int .u8) (.prod (.int .u8) (.int .u8))))))))))], .c (.hole .bool), fun x => run0 (F14 x.1)⟩
theorem ct14_ok : ct14.Ok prog := ct_ok mixed cx14_ok func14 c14_ok (enters_of func14 rfl rfl) dd14 (by kernel_rfl) rfl (fun x => by kernel_rfl)

end Go.Proofs.Tryd

