/- Functions of the program as functions of data, part 3; printed by a program of mine. -/
import Derived.Test.YtigglifniejbpaaW71
import Derived.Test.YtigglifniejbpaaProg
set_option linter.unusedVariables false
set_option linter.unusedSimpArgs false
open Go.AM
namespace Go.Proofs.Try
set_option maxRecDepth 100000


/- 23 -/
noncomputable def cx23 : Cx := mkCxH [ct21, ct50, ct57] []
theorem cx23_ok : cx23.Ok prog := mkCxH_ok ⟨ct21_ok, ct50_ok, ct57_ok, trivial⟩ trivial
noncomputable def dd23 : D prog 30 none 0 := (.seq (.reg [.op (some 4) none (.mv (.c .nsl)), .op (some 5) none (.mv (.c (.int .i64 (Int.ofNat 0)))), .op (some 6) none (.mv (.c (.int .i64 (Int.ofNat 0))))]) (.seq (.reg [.op (some 10) none (.mv (.t 0)), .call (some 11) none (.c (.fn 21 [] [])) [.t 10] [some (.list (.list (.int .i64)))], .op (some 7) none (.mv (.t 11))]) (.seq (.seq (.reg [.op (some 12) none (.mv (.t 7)), .op (some 13) none (.bin .eql (.t 12) (.c (.int .i64 (Int.ofNat 0)))), .op (some 14) none (.mv (.t 13)), .op (some 15) (some (14, true)) (.mv (.t 1)), .call (some 16) (some (14, true)) (.c (.fn 50 [] [])) [.t 15, .c (.int .i64 (Int.ofNat 0)), .c (.int .i64 (Int.ofNat 200))] [some (.int .i64), some (.int .i64), some (.int .i64)], .op (some 17) (some (14, true)) (.not (.t 16)), .op (some 18) none (.pick (.t 14) (.t 17) (.c (.tf false)))]) (.cond ( .t 18) (.reg [.op (some 7) none (.mv (.c (.int .i64 (Int.ofNat 2))))]) .skip)) (.seq (.seq (.reg [.op (some 19) none (.mv (.t 7)), .op (some 20) none (.bin .neq (.t 19) (.c (.int .i64 (Int.ofNat 0))))]) (.cond ( .t 20) (.seq (.reg [.op (some 21) none (.mv (.t 7)), .op (some 4) none (.mv (.c .nsl)), .op (some 5) none (.mv (.c (.int .i64 (Int.ofNat 0)))), .op (some 6) none (.mv (.t 21))]) .ret) .skip)) (.seq (.reg [.op (some 23) none (.mv (.t 0)), .op (some 24) none (.mv (.t 1)), .call (some 25) none (.c (.fn 57 [] [])) [.t 23, .t 24] [some (.list (.list (.int .i64))), some (.int .i64)], .op (some 22) none (.mv (.t 25)), .op (some 26) none (.ext 0 (.t 22)), .op (some 27) none (.ext 1 (.t 22)), .op (some 8) none (.mv (.t 26)), .op (some 9) none (.mv (.t 27))]) (.seq (.reg [.op (some 28) none (.mv (.t 8)), .op (some 29) none (.mv (.t 9)), .op (some 4) none (.mv (.t 28)), .op (some 5) none (.mv (.t 29)), .op (some 6) none (.mv (.c (.int .i64 (Int.ofNat 0))))]) .ret))))))
noncomputable def F23 (a0 : List (List Int)) (a1 : Int) : Option (List Int × Int × Int × Unit) :=
 bindO (F21 a0) fun y0 =>
 brO (y0.1 == (0 : Int)) (
 bindO (F50 a1 (0 : Int) (200 : Int)) fun y1 =>
 brO (!y1.1) (
 brO (!((2 : Int) == (0 : Int))) (
 some ([], ((0 : Int), ((2 : Int), ())))) (
 bindO (F57 a0 a1) fun y2 =>
 some (y2.1, (y2.2.1, ((0 : Int), ()))))) (
 brO (!(y0.1 == (0 : Int))) (
 some ([], ((0 : Int), (y0.1, ())))) (
 bindO (F57 a0 a1) fun y3 =>
 some (y3.1, (y3.2.1, ((0 : Int), ())))))) (
 brO (!(y0.1 == (0 : Int))) (
 some ([], ((0 : Int), (y0.1, ())))) (
 bindO (F57 a0 a1) fun y4 =>
 some (y4.1, (y4.2.1, ((0 : Int), ())))))
theorem c23_ok : trF prog f23 = some ⟨30, 2, dd23.er, [.t 4, .t 5, .t 6], [some (.list (.int .i64)), some (.int .i64), some (.int .i64)]⟩ := by kernel_rfl
noncomputable def ct23 : Ct := ⟨23, [.c (.hole (.list (.list (.int .i64)))), .c (.hole (.int .i64))], .tup [.hole (.list (.int .i64)), .hole (.int .i64), .hole (.int .i64)], fun x => F23 x.1 x.2.1⟩
theorem ct23_ok : ct23.Ok prog := ct_ok mixed cx23_ok func23 c23_ok (enters_of func23 rfl rfl) dd23 rfl rfl (fun x => by kernel_rfl)

/- 37 -/
noncomputable def cx37 : Cx := mkCxH [] []
theorem cx37_ok : cx37.Ok prog := mkCxH_ok trivial trivial
@[reducible] def p37_0 : Pat := Pat.mk [(0, .c (.hole (.list (.list (.prod (.int .i64) (.int .i64)))))), (3, .c (.sl0 0 (.list (.prod (.int .i64) (.int .i64))))), (4, .c (.hole (.int .i64)))] [(0, .arr (.list (.prod (.int .i64) (.int .i64))) false)] [.slot 3] []
@[reducible] def x37_0 : Outs := [(.exit 0, Pat.mk [(3, .c (.sl0 0 (.list (.prod (.int .i64) (.int .i64)))))] [(0, .arr (.list (.prod (.int .i64) (.int .i64))) false)] [.slot 3] [])]
noncomputable def b37_0 : D prog 19 none 0 := (.seq (.seq (.reg [.op (some 5) none (.mv (.t 4)), .op (some 6) none (.mv (.t 0)), .op (some 7) none (.len (.t 6)), .op (some 8) none (.bin .lss (.t 5) (.t 7))]) (.cond ( .t 8) .skip (.exit 0))) (.seq (.block 1 (.reg [.op (some 11) none (.mv (.t 3)), .op (some 12) none (.mv (.t 0)), .op (some 13) none (.mv (.t 4)), .op (some 14) none (.idx 1 (.t 12) (.t 13)), .op (some 15) none (.load false 1 (.t 14)), .op (some 16) none (.bslice (.list (.prod (.int .i64) (.int .i64))) [.t 15]), .op (some 17) none (.append 1 (.t 11) (.t 16)), .op (some 3) none (.mv (.t 17))])) (.reg [.op (some 9) none (.mv (.t 4)), .op (some 10) none (.bin .add (.t 9) (.c (.int .i64 (Int.ofNat 1)))), .op (some 4) none (.mv (.t 10))])))
noncomputable def g37_0 (v0 : List (List (Int × Int))) (nv3 : Nat) (v4 : Int) (b0 : List (List (Int × Int))) : Option (((List (List (Int × Int))) × Nat × Int × (List (List (Int × Int))) × Unit) ⊕ ((Nat × (List (List (Int × Int))) × Unit))) :=
 brO (decide (v4 < (((v0).length : Nat) : Int))) (
 need (inb v4 (((v0).length : Nat) : Int)) (
 need (decide ((nv3 + (((((((v0).getD (Int.toNat v4) []) :: [])).drop (0 : Nat)).take (1 : Nat))).length) < bigL)) (
 need (rng .i64 (v4 + (1 : Int))) (
 some (.inl (v0, ((nv3 + (((((((v0).getD (Int.toNat v4) []) :: [])).drop (0 : Nat)).take (1 : Nat))).length), ((v4 + (1 : Int)), (((((b0).drop (0 : Nat)).take nv3) ++ ((((((v0).getD (Int.toNat v4) []) :: [])).drop (0 : Nat)).take (1 : Nat))), ()))))))))) (
 some (.inr (nv3, (b0, ()))))
theorem s37_0 : ∀ x, roundE (kzO (p37_0.T ⊕ x37_0.T)) cx37 ar0 [] p37_0 x37_0 (b37_0) (fun y => some (.inl y)) (fun b => some (.inr b)) x = g37_0 x.1 x.2.1 x.2.2.1 x.2.2.2.1 := by intro x; kernel_rfl
noncomputable def L37_0 : LoopS prog 19 none 0 := mkLoop mixed cx37 cx37_ok [] rfl p37_0 x37_0 rfl (b37_0) (fun x => g37_0 x.1 x.2.1 x.2.2.1 x.2.2.2.1) (s37_0)
noncomputable def dd37 : D prog 19 none 0 := (.seq (.reg [.op (some 2) none (.mv (.c .nsl))]) (.seq (.reg [.op (some 3) none (.mv (.c .nsl))]) (.seq (.seq (.reg [.op (some 4) none (.mv (.c (.int .i64 (Int.ofNat 0))))]) (.block 0 (.loop L37_0))) (.seq (.reg [.op (some 18) none (.mv (.t 3)), .op (some 2) none (.mv (.t 18))]) .ret))))
noncomputable def F37 (a0 : List (List (Int × Int))) : Option ((List (List (Int × Int))) × Unit) :=
 bindO (iter (fun x => g37_0 x.1 x.2.1 x.2.2.1 x.2.2.2.1) (a0, ((0 : Nat), ((0 : Int), ([], ()))))) fun z0 =>
 some ((((z0.2.1).drop (0 : Nat)).take z0.1), ())
theorem c37_ok : trF prog f37 = some ⟨19, 1, dd37.er, [.t 2], [some (.list (.list (.prod (.int .i64) (.int .i64))))]⟩ := by kernel_rfl
noncomputable def ct37 : Ct := ⟨37, [.c (.hole (.list (.list (.prod (.int .i64) (.int .i64)))))], .c (.hole (.list (.list (.prod (.int .i64) (.int .i64))))), fun x => F37 x.1⟩
theorem ct37_ok : ct37.Ok prog := ct_ok mixed cx37_ok func37 c37_ok (enters_of func37 rfl rfl) dd37 rfl rfl (fun x => by kernel_rfl)

/- 70 -/
noncomputable def cx70 : Cx := mkCxH [ct50] []
theorem cx70_ok : cx70.Ok prog := mkCxH_ok ⟨ct50_ok, trivial⟩ trivial
@[reducible] def p70_1 : Pat := Pat.mk [(0, .c (.hole (.list (.list (.prod (.int .i64) (.int .i64)))))), (3, .c (.hole (.int .i64))), (4, .c (.hole (.int .i64)))] [] [] []
@[reducible] def x70_1 : Outs := [(.ret, Pat.mk [(2, .c (.hole (.int .i64)))] [] [] []), (.exit 2, Pat.mk [(0, .c (.hole (.list (.list (.prod (.int .i64) (.int .i64)))))), (3, .c (.hole (.int .i64)))] [] [] [])]
noncomputable def b70_1 : D prog 78 none 0 := (.seq (.seq (.reg [.op (some 21) none (.mv (.t 4)), .op (some 22) none (.mv (.t 0)), .op (some 23) none (.mv (.t 3)), .op (some 24) none (.idx 1 (.t 22) (.t 23)), .op (some 25) none (.load false 1 (.t 24)), .op (some 26) none (.len (.t 25)), .op (some 27) none (.bin .lss (.t 21) (.t 26))]) (.cond ( .t 27) .skip (.exit 2))) (.seq (.block 3 (.seq (.reg [.op (some 30) none (.mv (.t 0)), .op (some 31) none (.mv (.t 3)), .op (some 32) none (.idx 1 (.t 30) (.t 31)), .op (some 33) none (.load false 1 (.t 32)), .op (some 34) none (.mv (.t 4)), .op (some 35) none (.idx 2 (.t 33) (.t 34)), .op (some 36) none (.load true 2 (.t 35)), .op (some 5) none (.alloc [.int .i64 (Int.ofNat 0), .int .i64 (Int.ofNat 0)]), .op none none (.store 2 (.t 5) (.t 36))]) (.seq (.seq (.reg [.op (some 37) none (.fld 0 [false] (.t 5)), .op (some 38) none (.load false 1 (.t 37)), .op (some 39) none (.fld 1 [true] (.t 5)), .op (some 40) none (.load false 1 (.t 39)), .call (some 41) none (.c (.fn 50 [] [])) [.t 38, .c (.int .i64 (Int.ofNat 0)), .t 40] [some (.int .i64), some (.int .i64), some (.int .i64)], .op (some 42) none (.not (.t 41)), .op (some 43) none (.mv (.t 42)), .op (some 44) (some (43, false)) (.fld 1 [true] (.t 5)), .op (some 45) (some (43, false)) (.load false 1 (.t 44)), .op (some 46) (some (43, false)) (.bin .gtr (.t 45) (.c (.int .i64 (Int.ofNat 1000000)))), .op (some 47) none (.pick (.t 43) (.c (.tf true)) (.t 46))]) (.cond ( .t 47) (.seq (.reg [.op (some 2) none (.mv (.c (.int .i64 (Int.ofNat 2))))]) .ret) .skip)) (.seq (.draw [[], [0], [0, 1], [0, 1, 2], [0, 1, 2, 3], [0, 1, 2], [0, 1, 2], [0, 1, 2, 5, 6], [0, 1, 2, 5, 6, 7], [0, 1, 2], [0, 1, 2, 9], [0, 1, 2, 5, 6, 7, 8, 9, 10], [0, 1, 2, 5, 6, 7, 8, 9, 10, 11], [0, 1, 2, 5, 6, 7, 8, 9, 10, 11, 12], [0, 1, 2, 3, 4, 5, 6, 7, 8, 9, 10, 11, 12, 13], [0, 1, 2, 3, 4, 5, 6, 7, 8, 9, 10, 11, 12, 13, 14], [0, 1, 2, 3, 4, 5, 6, 7, 8, 9, 10, 11, 12, 13, 14, 15], [0, 1, 2, 3, 4, 5, 6, 7, 8, 9, 10, 11, 12, 13, 14, 15, 16], [0, 1, 2, 3, 4, 5, 6, 7, 8, 9, 10, 11, 12, 13, 14, 15], [0, 1, 2, 3, 4, 5, 6, 7, 8, 9, 10, 11, 12, 13, 14, 15], [0, 1, 2, 3, 4, 5, 6, 7, 8, 9, 10, 11, 12, 13, 14, 15, 18, 19], [0, 1, 2, 3, 4, 5, 6, 7, 8, 9, 10, 11, 12, 13, 14, 15, 18, 19, 20], [0, 1, 2, 3, 4, 5, 6, 7, 8, 9, 10, 11, 12, 13, 14, 15], [0, 1, 2, 3, 4, 5, 6, 7, 8, 9, 10, 11, 12, 13, 14, 15, 22], [0, 1, 2, 3, 4, 5, 6, 7, 8, 9, 10, 11, 12, 13, 14, 15, 18, 19, 20, 21, 22, 23], [0, 1, 2, 3, 4, 5, 6, 7, 8, 9, 10, 11, 12, 13, 14, 15, 18, 19, 20, 21, 22, 23, 24], [0, 1, 2, 3, 4, 5, 6, 7, 8, 9, 10, 11, 12, 13, 14, 15, 18, 19, 20, 21, 22, 23, 24, 25], [0, 1, 2, 3, 4, 5, 6, 7, 8, 9, 10, 11, 12, 13, 14, 15, 16, 17, 18, 19, 20, 21, 22, 23, 24, 25, 26], [0, 1, 2, 3, 4, 5, 6, 7, 8, 9, 10, 11, 12, 13, 14, 15, 16, 17, 18, 19, 20, 21, 22, 23, 24, 25, 26, 27], [0, 1, 2, 3, 4, 5, 6, 7, 8, 9, 10, 11, 12, 13, 14, 15, 16, 17, 18, 19, 20, 21, 22, 23, 24, 25, 26, 27, 28]] [.op (some 48) none (.mv (.t 4)), .op (some 49) none (.bin .gtr (.t 48) (.c (.int .i64 (Int.ofNat 0)))), .op (some 50) none (.mv (.t 49)), .op (some 51) (some (50, true)) (.fld 0 [false] (.t 5)), .op (some 52) (some (50, true)) (.load false 1 (.t 51)), .op (some 53) (some (50, true)) (.mv (.t 0)), .op (some 54) (some (50, true)) (.mv (.t 3)), .op (some 55) (some (50, true)) (.idx 1 (.t 53) (.t 54)), .op (some 56) (some (50, true)) (.load false 1 (.t 55)), .op (some 57) (some (50, true)) (.mv (.t 4)), .op (some 58) (some (50, true)) (.bin .sub (.t 57) (.c (.int .i64 (Int.ofNat 1)))), .op (some 59) (some (50, true)) (.idx 2 (.t 56) (.t 58)), .op (some 60) (some (50, true)) (.fld 0 [false] (.t 59)), .op (some 61) (some (50, true)) (.load false 1 (.t 60)), .op (some 62) (some (50, true)) (.bin .gtr (.t 52) (.t 61)), .op (some 63) (some (50, true)) (.mv (.t 62)), .op (some 64) (some (63, false)) (.fld 1 [true] (.t 5)), .op (some 65) (some (63, false)) (.load false 1 (.t 64)), .op (some 66) (some (63, false)) (.mv (.t 0)), .op (some 67) (some (63, false)) (.mv (.t 3)), .op (some 68) (some (63, false)) (.idx 1 (.t 66) (.t 67)), .op (some 69) (some (63, false)) (.load false 1 (.t 68)), .op (some 70) (some (63, false)) (.mv (.t 4)), .op (some 71) (some (63, false)) (.bin .sub (.t 70) (.c (.int .i64 (Int.ofNat 1)))), .op (some 72) (some (63, false)) (.idx 2 (.t 69) (.t 71)), .op (some 73) (some (63, false)) (.fld 1 [true] (.t 72)), .op (some 74) (some (63, false)) (.load false 1 (.t 73)), .op (some 75) (some (63, false)) (.bin .gtr (.t 65) (.t 74)), .op (some 76) (some (50, true)) (.pick (.t 63) (.c (.tf true)) (.t 75)), .op (some 77) none (.pick (.t 50) (.t 76) (.c (.tf false)))]) (.cond ( .t 77) (.seq (.reg [.op (some 2) none (.mv (.c (.int .i64 (Int.ofNat 7))))]) .ret) .skip))))) (.reg [.op (some 28) none (.mv (.t 4)), .op (some 29) none (.bin .add (.t 28) (.c (.int .i64 (Int.ofNat 1)))), .op (some 4) none (.mv (.t 29))])))
noncomputable def g70_1 (v0 : List (List (Int × Int))) (v3 : Int) (v4 : Int) : Option (((List (List (Int × Int))) × Int × Int × Unit) ⊕ ((Int × Unit) ⊕ (((List (List (Int × Int))) × Int × Unit)))) :=
 need (inb v3 (((v0).length : Nat) : Int)) (
 brO (decide (v4 < (((((v0).getD (Int.toNat v3) [])).length : Nat) : Int))) (
 need (inb v3 (((v0).length : Nat) : Int)) (
 need (inb v4 (((((v0).getD (Int.toNat v3) [])).length : Nat) : Int)) (
 bindO (F50 ((((v0).getD (Int.toNat v3) [])).getD (Int.toNat v4) ((0 : Int), (0 : Int))).1 (0 : Int) ((((v0).getD (Int.toNat v3) [])).getD (Int.toNat v4) ((0 : Int), (0 : Int))).2) fun y0 =>
 brO (!y0.1) (
 some (.inr <| .inl <| ((2 : Int), ()))) (
 brO (decide ((1000000 : Int) < ((((v0).getD (Int.toNat v3) [])).getD (Int.toNat v4) ((0 : Int), (0 : Int))).2)) (
 some (.inr <| .inl <| ((2 : Int), ()))) (
 brO (decide ((0 : Int) < v4)) (
 need (inb v3 (((v0).length : Nat) : Int)) (
 need (rng .i64 (v4 - (1 : Int))) (
 need (inb (v4 - (1 : Int)) (((((v0).getD (Int.toNat v3) [])).length : Nat) : Int)) (
 brO (decide (((((v0).getD (Int.toNat v3) [])).getD (Int.toNat (v4 - (1 : Int))) ((0 : Int), (0 : Int))).1 < ((((v0).getD (Int.toNat v3) [])).getD (Int.toNat v4) ((0 : Int), (0 : Int))).1)) (
 some (.inr <| .inl <| ((7 : Int), ()))) (
 need (inb v3 (((v0).length : Nat) : Int)) (
 need (rng .i64 (v4 - (1 : Int))) (
 need (inb (v4 - (1 : Int)) (((((v0).getD (Int.toNat v3) [])).length : Nat) : Int)) (
 brO (decide (((((v0).getD (Int.toNat v3) [])).getD (Int.toNat (v4 - (1 : Int))) ((0 : Int), (0 : Int))).2 < ((((v0).getD (Int.toNat v3) [])).getD (Int.toNat v4) ((0 : Int), (0 : Int))).2)) (
 some (.inr <| .inl <| ((7 : Int), ()))) (
 need (rng .i64 (v4 + (1 : Int))) (
 some (.inl (v0, (v3, ((v4 + (1 : Int)), ())))))))))))))) (
 need (rng .i64 (v4 + (1 : Int))) (
 some (.inl (v0, (v3, ((v4 + (1 : Int)), ()))))))))))) (
 some (.inr <| .inr <| (v0, (v3, ())))))
theorem s70_1 : ∀ x, roundE (kzO (p70_1.T ⊕ x70_1.T)) cx70 ar0 [] p70_1 x70_1 (b70_1) (fun y => some (.inl y)) (fun b => some (.inr b)) x = g70_1 x.1 x.2.1 x.2.2.1 := by intro x; kernel_rfl
noncomputable def L70_1 : LoopS prog 78 none 0 := mkLoop mixed cx70 cx70_ok [] rfl p70_1 x70_1 rfl (b70_1) (fun x => g70_1 x.1 x.2.1 x.2.2.1) (s70_1)
@[reducible] def p70_0 : Pat := Pat.mk [(0, .c (.hole (.list (.list (.prod (.int .i64) (.int .i64)))))), (3, .c (.hole (.int .i64)))] [] [] []
@[reducible] def x70_0 : Outs := [(.ret, Pat.mk [(2, .c (.hole (.int .i64)))] [] [] []), (.exit 0, Pat.mk [] [] [] [])]
noncomputable def b70_0 : D prog 78 none 0 := (.seq (.seq (.reg [.op (some 9) none (.mv (.t 3)), .op (some 10) none (.mv (.t 0)), .op (some 11) none (.len (.t 10)), .op (some 12) none (.bin .lss (.t 9) (.t 11))]) (.cond ( .t 12) .skip (.exit 0))) (.seq (.block 1 (.seq (.seq (.reg [.op (some 15) none (.mv (.t 0)), .op (some 16) none (.mv (.t 3)), .op (some 17) none (.idx 1 (.t 15) (.t 16)), .op (some 18) none (.load false 1 (.t 17)), .op (some 19) none (.len (.t 18)), .op (some 20) none (.bin .gtr (.t 19) (.c (.int .i64 (Int.ofNat 10))))]) (.cond ( .t 20) (.seq (.reg [.op (some 2) none (.mv (.c (.int .i64 (Int.ofNat 1))))]) .ret) .skip)) (.seq (.reg [.op (some 4) none (.mv (.c (.int .i64 (Int.ofNat 0))))]) (.block 2 (.loop L70_1))))) (.reg [.op (some 13) none (.mv (.t 3)), .op (some 14) none (.bin .add (.t 13) (.c (.int .i64 (Int.ofNat 1)))), .op (some 3) none (.mv (.t 14))])))
noncomputable def g70_0 (v0 : List (List (Int × Int))) (v3 : Int) : Option (((List (List (Int × Int))) × Int × Unit) ⊕ ((Int × Unit) ⊕ ((Unit)))) :=
 brO (decide (v3 < (((v0).length : Nat) : Int))) (
 need (inb v3 (((v0).length : Nat) : Int)) (
 brO (decide ((10 : Int) < (((((v0).getD (Int.toNat v3) [])).length : Nat) : Int))) (
 some (.inr <| .inl <| ((1 : Int), ()))) (
 bindO (iter (fun x => g70_1 x.1 x.2.1 x.2.2.1) (v0, (v3, ((0 : Int), ())))) fun z1 =>
 match z1 with
 | .inl z2 =>
 some (.inr <| .inl <| (z2.1, ()))
 | .inr z3 =>
 need (rng .i64 (z3.2.1 + (1 : Int))) (
 some (.inl (z3.1, ((z3.2.1 + (1 : Int)), ()))))))) (
 some (.inr <| .inr <| ()))
theorem s70_0 : ∀ x, roundE (kzO (p70_0.T ⊕ x70_0.T)) cx70 ar0 [] p70_0 x70_0 (b70_0) (fun y => some (.inl y)) (fun b => some (.inr b)) x = g70_0 x.1 x.2.1 := by intro x; kernel_rfl
noncomputable def L70_0 : LoopS prog 78 none 0 := mkLoop mixed cx70 cx70_ok [] rfl p70_0 x70_0 rfl (b70_0) (fun x => g70_0 x.1 x.2.1) (s70_0)
noncomputable def dd70 : D prog 78 none 0 := (.seq (.reg [.op (some 2) none (.mv (.c (.int .i64 (Int.ofNat 0))))]) (.seq (.seq (.reg [.op (some 6) none (.mv (.t 0)), .op (some 7) none (.len (.t 6)), .op (some 8) none (.bin .gtr (.t 7) (.c (.int .i64 (Int.ofNat 12))))]) (.cond ( .t 8) (.seq (.reg [.op (some 2) none (.mv (.c (.int .i64 (Int.ofNat 1))))]) .ret) .skip)) (.seq (.seq (.reg [.op (some 3) none (.mv (.c (.int .i64 (Int.ofNat 0))))]) (.block 0 (.loop L70_0))) (.seq (.reg [.op (some 2) none (.mv (.c (.int .i64 (Int.ofNat 0))))]) .ret))))
noncomputable def F70 (a0 : List (List (Int × Int))) : Option (Int × Unit) :=
 brO (decide ((12 : Int) < (((a0).length : Nat) : Int))) (
 some ((1 : Int), ())) (
 bindO (iter (fun x => g70_0 x.1 x.2.1) (a0, ((0 : Int), ()))) fun z4 =>
 match z4 with
 | .inl z5 =>
 some (z5.1, ())
 | .inr z6 =>
 some ((0 : Int), ()))
theorem c70_ok : trF prog f70 = some ⟨78, 1, dd70.er, [.t 2], [some (.int .i64)]⟩ := by kernel_rfl
noncomputable def ct70 : Ct := ⟨70, [.c (.hole (.list (.list (.prod (.int .i64) (.int .i64)))))], .c (.hole (.int .i64)), fun x => F70 x.1⟩
theorem ct70_ok : ct70.Ok prog := ct_ok mixed cx70_ok func70 c70_ok (enters_of func70 rfl rfl) dd70 rfl rfl (fun x => by kernel_rfl)

/- 71 -/
noncomputable def cx71 : Cx := mkCxH [] []
theorem cx71_ok : cx71.Ok prog := mkCxH_ok trivial trivial
@[reducible] def p71_1 : Pat := Pat.mk [(0, .c (.hole (.list (.list (.prod (.int .i64) (.int .i64)))))), (1, .c (.hole .bool)), (5, .c (.sl0 0 (.list (.int .i64)))), (6, .c (.hole (.int .i64))), (7, .c (.sl0 1 (.int .i64))), (8, .c (.hole (.int .i64)))] [(0, .arr (.list (.int .i64)) false), (1, .arr (.int .i64) false)] [.slot 5, .slot 7] []
@[reducible] def x71_1 : Outs := [(.exit 2, Pat.mk [(0, .c (.hole (.list (.list (.prod (.int .i64) (.int .i64)))))), (1, .c (.hole .bool)), (5, .c (.sl0 0 (.list (.int .i64)))), (6, .c (.hole (.int .i64))), (7, .c (.sl0 1 (.int .i64)))] [(0, .arr (.list (.int .i64)) false), (1, .arr (.int .i64) false)] [.slot 5, .slot 7] [])]
noncomputable def b71_1 : D prog 52 none 0 := (.seq (.seq (.reg [.op (some 15) none (.mv (.t 8)), .op (some 16) none (.mv (.t 0)), .op (some 17) none (.mv (.t 6)), .op (some 18) none (.idx 1 (.t 16) (.t 17)), .op (some 19) none (.load false 1 (.t 18)), .op (some 20) none (.len (.t 19)), .op (some 21) none (.bin .lss (.t 15) (.t 20))]) (.cond ( .t 21) .skip (.exit 2))) (.seq (.block 3 (.seq (.reg [.op (some 24) none (.mv (.t 1))]) (.cond ( .t 24) (.reg [.op (some 25) none (.mv (.t 7)), .op (some 26) none (.mv (.t 0)), .op (some 27) none (.mv (.t 6)), .op (some 28) none (.idx 1 (.t 26) (.t 27)), .op (some 29) none (.load false 1 (.t 28)), .op (some 30) none (.mv (.t 8)), .op (some 31) none (.idx 2 (.t 29) (.t 30)), .op (some 32) none (.fld 1 [true] (.t 31)), .op (some 33) none (.load false 1 (.t 32)), .op (some 34) none (.bslice (.int .i64) [.t 33]), .op (some 35) none (.append 1 (.t 25) (.t 34)), .op (some 7) none (.mv (.t 35))]) (.reg [.op (some 36) none (.mv (.t 7)), .op (some 37) none (.mv (.t 0)), .op (some 38) none (.mv (.t 6)), .op (some 39) none (.idx 1 (.t 37) (.t 38)), .op (some 40) none (.load false 1 (.t 39)), .op (some 41) none (.mv (.t 8)), .op (some 42) none (.idx 2 (.t 40) (.t 41)), .op (some 43) none (.fld 0 [false] (.t 42)), .op (some 44) none (.load false 1 (.t 43)), .op (some 45) none (.bslice (.int .i64) [.t 44]), .op (some 46) none (.append 1 (.t 36) (.t 45)), .op (some 7) none (.mv (.t 46))])))) (.reg [.op (some 22) none (.mv (.t 8)), .op (some 23) none (.bin .add (.t 22) (.c (.int .i64 (Int.ofNat 1)))), .op (some 8) none (.mv (.t 23))])))
noncomputable def g71_1 (v0 : List (List (Int × Int))) (v1 : Bool) (nv5 : Nat) (v6 : Int) (nv7 : Nat) (v8 : Int) (b0 : List (List Int)) (b1 : List Int) : Option (((List (List (Int × Int))) × Bool × Nat × Int × Nat × Int × List (List Int) × List Int × Unit) ⊕ (((List (List (Int × Int))) × Bool × Nat × Int × Nat × List (List Int) × List Int × Unit))) :=
 need (inb v6 (((v0).length : Nat) : Int)) (
 brO (decide (v8 < (((((v0).getD (Int.toNat v6) [])).length : Nat) : Int))) (
 brO v1 (
 need (inb v6 (((v0).length : Nat) : Int)) (
 need (inb v8 (((((v0).getD (Int.toNat v6) [])).length : Nat) : Int)) (
 need (decide ((nv7 + (((((((((v0).getD (Int.toNat v6) [])).getD (Int.toNat v8) ((0 : Int), (0 : Int))).2 :: [])).drop (0 : Nat)).take (1 : Nat))).length) < bigL)) (
 need (rng .i64 (v8 + (1 : Int))) (
 some (.inl (v0, (v1, (nv5, (v6, ((nv7 + (((((((((v0).getD (Int.toNat v6) [])).getD (Int.toNat v8) ((0 : Int), (0 : Int))).2 :: [])).drop (0 : Nat)).take (1 : Nat))).length), ((v8 + (1 : Int)), (b0, (((((b1).drop (0 : Nat)).take nv7) ++ ((((((((v0).getD (Int.toNat v6) [])).getD (Int.toNat v8) ((0 : Int), (0 : Int))).2 :: [])).drop (0 : Nat)).take (1 : Nat))), ())))))))))))))) (
 need (inb v6 (((v0).length : Nat) : Int)) (
 need (inb v8 (((((v0).getD (Int.toNat v6) [])).length : Nat) : Int)) (
 need (decide ((nv7 + (((((((((v0).getD (Int.toNat v6) [])).getD (Int.toNat v8) ((0 : Int), (0 : Int))).1 :: [])).drop (0 : Nat)).take (1 : Nat))).length) < bigL)) (
 need (rng .i64 (v8 + (1 : Int))) (
 some (.inl (v0, (v1, (nv5, (v6, ((nv7 + (((((((((v0).getD (Int.toNat v6) [])).getD (Int.toNat v8) ((0 : Int), (0 : Int))).1 :: [])).drop (0 : Nat)).take (1 : Nat))).length), ((v8 + (1 : Int)), (b0, (((((b1).drop (0 : Nat)).take nv7) ++ ((((((((v0).getD (Int.toNat v6) [])).getD (Int.toNat v8) ((0 : Int), (0 : Int))).1 :: [])).drop (0 : Nat)).take (1 : Nat))), ()))))))))))))))) (
 some (.inr (v0, (v1, (nv5, (v6, (nv7, (b0, (b1, ()))))))))))
theorem s71_1 : ∀ x, roundE (kzO (p71_1.T ⊕ x71_1.T)) cx71 ar0 [] p71_1 x71_1 (b71_1) (fun y => some (.inl y)) (fun b => some (.inr b)) x = g71_1 x.1 x.2.1 x.2.2.1 x.2.2.2.1 x.2.2.2.2.1 x.2.2.2.2.2.1 x.2.2.2.2.2.2.1 x.2.2.2.2.2.2.2.1 := by intro x; kernel_rfl
noncomputable def L71_1 : LoopS prog 52 none 0 := mkLoop mixed cx71 cx71_ok [] rfl p71_1 x71_1 rfl (b71_1) (fun x => g71_1 x.1 x.2.1 x.2.2.1 x.2.2.2.1 x.2.2.2.2.1 x.2.2.2.2.2.1 x.2.2.2.2.2.2.1 x.2.2.2.2.2.2.2.1) (s71_1)
@[reducible] def p71_0 : Pat := Pat.mk [(0, .c (.hole (.list (.list (.prod (.int .i64) (.int .i64)))))), (1, .c (.hole .bool)), (5, .c (.sl0 0 (.list (.int .i64)))), (6, .c (.hole (.int .i64)))] [(0, .arr (.list (.int .i64)) false)] [.slot 5] []
@[reducible] def x71_0 : Outs := [(.exit 0, Pat.mk [(5, .c (.sl0 0 (.list (.int .i64))))] [(0, .arr (.list (.int .i64)) false)] [.slot 5] [])]
noncomputable def b71_0 : D prog 52 none 0 := (.seq (.seq (.reg [.op (some 9) none (.mv (.t 6)), .op (some 10) none (.mv (.t 0)), .op (some 11) none (.len (.t 10)), .op (some 12) none (.bin .lss (.t 9) (.t 11))]) (.cond ( .t 12) .skip (.exit 0))) (.seq (.block 1 (.seq (.reg [.op (some 7) none (.mv (.c .nsl))]) (.seq (.seq (.reg [.op (some 8) none (.mv (.c (.int .i64 (Int.ofNat 0))))]) (.block 2 (.loop L71_1))) (.reg [.op (some 47) none (.mv (.t 5)), .op (some 48) none (.mv (.t 7)), .op (some 49) none (.bslice (.list (.int .i64)) [.t 48]), .op (some 50) none (.append 1 (.t 47) (.t 49)), .op (some 5) none (.mv (.t 50))])))) (.reg [.op (some 13) none (.mv (.t 6)), .op (some 14) none (.bin .add (.t 13) (.c (.int .i64 (Int.ofNat 1)))), .op (some 6) none (.mv (.t 14))])))
noncomputable def g71_0 (v0 : List (List (Int × Int))) (v1 : Bool) (nv5 : Nat) (v6 : Int) (b0 : List (List Int)) : Option (((List (List (Int × Int))) × Bool × Nat × Int × List (List Int) × Unit) ⊕ ((Nat × List (List Int) × Unit))) :=
 brO (decide (v6 < (((v0).length : Nat) : Int))) (
 bindO (iter (fun x => g71_1 x.1 x.2.1 x.2.2.1 x.2.2.2.1 x.2.2.2.2.1 x.2.2.2.2.2.1 x.2.2.2.2.2.2.1 x.2.2.2.2.2.2.2.1) (v0, (v1, (nv5, (v6, ((0 : Nat), ((0 : Int), (b0, ([], ()))))))))) fun z0 =>
 need (decide ((z0.2.2.1 + ((((((((z0.2.2.2.2.2.2.1).drop (0 : Nat)).take z0.2.2.2.2.1) :: [])).drop (0 : Nat)).take (1 : Nat))).length) < bigL)) (
 need (rng .i64 (z0.2.2.2.1 + (1 : Int))) (
 some (.inl (z0.1, (z0.2.1, ((z0.2.2.1 + ((((((((z0.2.2.2.2.2.2.1).drop (0 : Nat)).take z0.2.2.2.2.1) :: [])).drop (0 : Nat)).take (1 : Nat))).length), ((z0.2.2.2.1 + (1 : Int)), (((((z0.2.2.2.2.2.1).drop (0 : Nat)).take z0.2.2.1) ++ (((((((z0.2.2.2.2.2.2.1).drop (0 : Nat)).take z0.2.2.2.2.1) :: [])).drop (0 : Nat)).take (1 : Nat))), ()))))))))) (
 some (.inr (nv5, (b0, ()))))
theorem s71_0 : ∀ x, roundE (kzO (p71_0.T ⊕ x71_0.T)) cx71 ar0 [] p71_0 x71_0 (b71_0) (fun y => some (.inl y)) (fun b => some (.inr b)) x = g71_0 x.1 x.2.1 x.2.2.1 x.2.2.2.1 x.2.2.2.2.1 := by intro x; kernel_rfl
noncomputable def L71_0 : LoopS prog 52 none 0 := mkLoop mixed cx71 cx71_ok [] rfl p71_0 x71_0 rfl (b71_0) (fun x => g71_0 x.1 x.2.1 x.2.2.1 x.2.2.2.1 x.2.2.2.2.1) (s71_0)
noncomputable def dd71 : D prog 52 none 0 := (.seq (.reg [.op (some 4) none (.mv (.c .nsl))]) (.seq (.reg [.op (some 5) none (.mv (.c .nsl))]) (.seq (.seq (.reg [.op (some 6) none (.mv (.c (.int .i64 (Int.ofNat 0))))]) (.block 0 (.loop L71_0))) (.seq (.reg [.op (some 51) none (.mv (.t 5)), .op (some 4) none (.mv (.t 51))]) .ret))))
noncomputable def F71 (a0 : List (List (Int × Int))) (a1 : Bool) : Option (List (List Int) × Unit) :=
 bindO (iter (fun x => g71_0 x.1 x.2.1 x.2.2.1 x.2.2.2.1 x.2.2.2.2.1) (a0, (a1, ((0 : Nat), ((0 : Int), ([], ())))))) fun z1 =>
 some ((((z1.2.1).drop (0 : Nat)).take z1.1), ())
theorem c71_ok : trF prog f71 = some ⟨52, 2, dd71.er, [.t 4], [some (.list (.list (.int .i64)))]⟩ := by kernel_rfl
noncomputable def ct71 : Ct := ⟨71, [.c (.hole (.list (.list (.prod (.int .i64) (.int .i64))))), .c (.hole .bool)], .c (.hole (.list (.list (.int .i64)))), fun x => F71 x.1 x.2.1⟩
theorem ct71_ok : ct71.Ok prog := ct_ok mixed cx71_ok func71 c71_ok (enters_of func71 rfl rfl) dd71 rfl rfl (fun x => by kernel_rfl)

/- 72 -/
noncomputable def cx72 : Cx := mkCxH [] []
theorem cx72_ok : cx72.Ok prog := mkCxH_ok trivial trivial
@[reducible] def p72_2 : Pat := Pat.mk [(0, .c (.hole (.list (.list (.int .i64))))), (1, .c (.hole (.int .i64))), (2, .c (.hole (.int .i64))), (3, .c (.hole .bool)), (9, .c (.hole (.int .i64))), (10, .c (.hole (.int .i64))), (11, .c (.hole (.int .i64))), (12, .c (.hole (.int .i64))), (13, .c (.hole (.int .i64)))] [] [] []
@[reducible] def x72_2 : Outs := [(.exit 4, Pat.mk [(0, .c (.hole (.list (.list (.int .i64))))), (1, .c (.hole (.int .i64))), (2, .c (.hole (.int .i64))), (3, .c (.hole .bool)), (9, .c (.hole (.int .i64))), (10, .c (.hole (.int .i64))), (11, .c (.hole (.int .i64))), (12, .c (.hole (.int .i64)))] [] [] [])]
noncomputable def b72_2 : D prog 90 none 0 := (.seq (.seq (.reg [.op (some 39) none (.mv (.t 13)), .op (some 40) none (.mv (.t 0)), .op (some 41) none (.mv (.t 12)), .op (some 42) none (.idx 1 (.t 40) (.t 41)), .op (some 43) none (.load false 1 (.t 42)), .op (some 44) none (.len (.t 43)), .op (some 45) none (.bin .lss (.t 39) (.t 44)), .op (some 46) none (.mv (.t 45)), .op (some 47) (some (46, true)) (.mv (.t 12)), .op (some 48) (some (46, true)) (.mv (.t 1)), .op (some 49) (some (46, true)) (.bin .neq (.t 47) (.t 48)), .op (some 50) none (.pick (.t 46) (.t 49) (.c (.tf false)))]) (.cond ( .t 50) .skip (.exit 4))) (.seq (.block 5 (.seq (.reg [.op (some 53) none (.mv (.t 0)), .op (some 54) none (.mv (.t 12)), .op (some 55) none (.idx 1 (.t 53) (.t 54)), .op (some 56) none (.load false 1 (.t 55)), .op (some 57) none (.mv (.t 13)), .op (some 58) none (.idx 1 (.t 56) (.t 57)), .op (some 59) none (.load false 1 (.t 58)), .op (some 60) none (.mv (.t 10)), .op (some 61) none (.bin .gtr (.t 59) (.t 60)), .op (some 62) none (.mv (.t 61)), .op (some 63) (some (62, false)) (.mv (.t 3)), .op (some 64) (some (62, false)) (.not (.t 63)), .op (some 65) (some (62, false)) (.mv (.t 64)), .op (some 66) (some (65, true)) (.mv (.t 0)), .op (some 67) (some (65, true)) (.mv (.t 12)), .op (some 68) (some (65, true)) (.idx 1 (.t 66) (.t 67)), .op (some 69) (some (65, true)) (.load false 1 (.t 68)), .op (some 70) (some (65, true)) (.mv (.t 13)), .op (some 71) (some (65, true)) (.idx 1 (.t 69) (.t 70)), .op (some 72) (some (65, true)) (.load false 1 (.t 71)), .op (some 73) (some (65, true)) (.mv (.t 10)), .op (some 74) (some (65, true)) (.bin .eql (.t 72) (.t 73)), .op (some 75) (some (62, false)) (.pick (.t 65) (.t 74) (.c (.tf false))), .op (some 76) none (.pick (.t 62) (.c (.tf true)) (.t 75))]) (.cond ( .t 76) (.reg [.op (some 77) none (.mv (.t 11)), .op (some 78) none (.bin .add (.t 77) (.c (.int .i64 (Int.ofNat 1)))), .op (some 11) none (.mv (.t 78))]) .skip))) (.reg [.op (some 51) none (.mv (.t 13)), .op (some 52) none (.bin .add (.t 51) (.c (.int .i64 (Int.ofNat 1)))), .op (some 13) none (.mv (.t 52))])))
noncomputable def g72_2 (v0 : List (List Int)) (v1 : Int) (v2 : Int) (v3 : Bool) (v9 : Int) (v10 : Int) (v11 : Int) (v12 : Int) (v13 : Int) : Option ((List (List Int) × Int × Int × Bool × Int × Int × Int × Int × Int × Unit) ⊕ ((List (List Int) × Int × Int × Bool × Int × Int × Int × Int × Unit))) :=
 need (inb v12 (((v0).length : Nat) : Int)) (
 brO (decide (v13 < (((((v0).getD (Int.toNat v12) [])).length : Nat) : Int))) (
 brO (!(v12 == v1)) (
 need (inb v12 (((v0).length : Nat) : Int)) (
 need (inb v13 (((((v0).getD (Int.toNat v12) [])).length : Nat) : Int)) (
 brO (decide (v10 < ((((v0).getD (Int.toNat v12) [])).getD (Int.toNat v13) (0 : Int)))) (
 need (rng .i64 (v11 + (1 : Int))) (
 need (rng .i64 (v13 + (1 : Int))) (
 some (.inl (v0, (v1, (v2, (v3, (v9, (v10, ((v11 + (1 : Int)), (v12, ((v13 + (1 : Int)), ()))))))))))))) (
 brO (!v3) (
 need (inb v12 (((v0).length : Nat) : Int)) (
 need (inb v13 (((((v0).getD (Int.toNat v12) [])).length : Nat) : Int)) (
 brO (((((v0).getD (Int.toNat v12) [])).getD (Int.toNat v13) (0 : Int)) == v10) (
 need (rng .i64 (v11 + (1 : Int))) (
 need (rng .i64 (v13 + (1 : Int))) (
 some (.inl (v0, (v1, (v2, (v3, (v9, (v10, ((v11 + (1 : Int)), (v12, ((v13 + (1 : Int)), ()))))))))))))) (
 need (rng .i64 (v13 + (1 : Int))) (
 some (.inl (v0, (v1, (v2, (v3, (v9, (v10, (v11, (v12, ((v13 + (1 : Int)), ()))))))))))))))) (
 need (rng .i64 (v13 + (1 : Int))) (
 some (.inl (v0, (v1, (v2, (v3, (v9, (v10, (v11, (v12, ((v13 + (1 : Int)), ())))))))))))))))) (
 some (.inr (v0, (v1, (v2, (v3, (v9, (v10, (v11, (v12, ()))))))))))) (
 some (.inr (v0, (v1, (v2, (v3, (v9, (v10, (v11, (v12, ())))))))))))
theorem s72_2 : ∀ x, roundE (kzO (p72_2.T ⊕ x72_2.T)) cx72 ar0 [] p72_2 x72_2 (b72_2) (fun y => some (.inl y)) (fun b => some (.inr b)) x = g72_2 x.1 x.2.1 x.2.2.1 x.2.2.2.1 x.2.2.2.2.1 x.2.2.2.2.2.1 x.2.2.2.2.2.2.1 x.2.2.2.2.2.2.2.1 x.2.2.2.2.2.2.2.2.1 := by intro x; kernel_rfl
noncomputable def L72_2 : LoopS prog 90 none 0 := mkLoop mixed cx72 cx72_ok [] rfl p72_2 x72_2 rfl (b72_2) (fun x => g72_2 x.1 x.2.1 x.2.2.1 x.2.2.2.1 x.2.2.2.2.1 x.2.2.2.2.2.1 x.2.2.2.2.2.2.1 x.2.2.2.2.2.2.2.1 x.2.2.2.2.2.2.2.2.1) (s72_2)
@[reducible] def p72_1 : Pat := Pat.mk [(0, .c (.hole (.list (.list (.int .i64))))), (1, .c (.hole (.int .i64))), (2, .c (.hole (.int .i64))), (3, .c (.hole .bool)), (9, .c (.hole (.int .i64))), (10, .c (.hole (.int .i64))), (11, .c (.hole (.int .i64))), (12, .c (.hole (.int .i64)))] [] [] []
@[reducible] def x72_1 : Outs := [(.exit 2, Pat.mk [(0, .c (.hole (.list (.list (.int .i64))))), (1, .c (.hole (.int .i64))), (2, .c (.hole (.int .i64))), (3, .c (.hole .bool)), (9, .c (.hole (.int .i64))), (10, .c (.hole (.int .i64))), (11, .c (.hole (.int .i64)))] [] [] [])]
noncomputable def b72_1 : D prog 90 none 0 := (.seq (.seq (.reg [.op (some 33) none (.mv (.t 12)), .op (some 34) none (.mv (.t 0)), .op (some 35) none (.len (.t 34)), .op (some 36) none (.bin .lss (.t 33) (.t 35))]) (.cond ( .t 36) .skip (.exit 2))) (.seq (.block 3 (.seq (.reg [.op (some 13) none (.mv (.c (.int .i64 (Int.ofNat 0))))]) (.block 4 (.loop L72_2)))) (.reg [.op (some 37) none (.mv (.t 12)), .op (some 38) none (.bin .add (.t 37) (.c (.int .i64 (Int.ofNat 1)))), .op (some 12) none (.mv (.t 38))])))
noncomputable def g72_1 (v0 : List (List Int)) (v1 : Int) (v2 : Int) (v3 : Bool) (v9 : Int) (v10 : Int) (v11 : Int) (v12 : Int) : Option ((List (List Int) × Int × Int × Bool × Int × Int × Int × Int × Unit) ⊕ ((List (List Int) × Int × Int × Bool × Int × Int × Int × Unit))) :=
 brO (decide (v12 < (((v0).length : Nat) : Int))) (
 bindO (iter (fun x => g72_2 x.1 x.2.1 x.2.2.1 x.2.2.2.1 x.2.2.2.2.1 x.2.2.2.2.2.1 x.2.2.2.2.2.2.1 x.2.2.2.2.2.2.2.1 x.2.2.2.2.2.2.2.2.1) (v0, (v1, (v2, (v3, (v9, (v10, (v11, (v12, ((0 : Int), ())))))))))) fun z0 =>
 need (rng .i64 (z0.2.2.2.2.2.2.2.1 + (1 : Int))) (
 some (.inl (z0.1, (z0.2.1, (z0.2.2.1, (z0.2.2.2.1, (z0.2.2.2.2.1, (z0.2.2.2.2.2.1, (z0.2.2.2.2.2.2.1, ((z0.2.2.2.2.2.2.2.1 + (1 : Int)), ()))))))))))) (
 some (.inr (v0, (v1, (v2, (v3, (v9, (v10, (v11, ())))))))))
theorem s72_1 : ∀ x, roundE (kzO (p72_1.T ⊕ x72_1.T)) cx72 ar0 [] p72_1 x72_1 (b72_1) (fun y => some (.inl y)) (fun b => some (.inr b)) x = g72_1 x.1 x.2.1 x.2.2.1 x.2.2.2.1 x.2.2.2.2.1 x.2.2.2.2.2.1 x.2.2.2.2.2.2.1 x.2.2.2.2.2.2.2.1 := by intro x; kernel_rfl
noncomputable def L72_1 : LoopS prog 90 none 0 := mkLoop mixed cx72 cx72_ok [] rfl p72_1 x72_1 rfl (b72_1) (fun x => g72_1 x.1 x.2.1 x.2.2.1 x.2.2.2.1 x.2.2.2.2.1 x.2.2.2.2.2.1 x.2.2.2.2.2.2.1 x.2.2.2.2.2.2.2.1) (s72_1)
@[reducible] def p72_0 : Pat := Pat.mk [(0, .c (.hole (.list (.list (.int .i64))))), (1, .c (.hole (.int .i64))), (2, .c (.hole (.int .i64))), (3, .c (.hole .bool)), (9, .c (.hole (.int .i64)))] [] [] []
@[reducible] def x72_0 : Outs := [(.ret, Pat.mk [(8, .c (.hole (.int .i64)))] [] [] []), (.exit 0, Pat.mk [] [] [] [])]
noncomputable def b72_0 : D prog 90 none 0 := (.seq (.seq (.reg [.op (some 19) none (.mv (.t 9)), .op (some 20) none (.bin .gtr (.t 19) (.c (.int .i64 (Int.ofNat 0))))]) (.cond ( .t 20) .skip (.exit 0))) (.seq (.block 1 (.seq (.reg [.op (some 23) none (.mv (.t 0)), .op (some 24) none (.mv (.t 1)), .op (some 25) none (.idx 1 (.t 23) (.t 24)), .op (some 26) none (.load false 1 (.t 25)), .op (some 27) none (.mv (.t 9)), .op (some 28) none (.bin .sub (.t 27) (.c (.int .i64 (Int.ofNat 1)))), .op (some 29) none (.idx 1 (.t 26) (.t 28)), .op (some 30) none (.load false 1 (.t 29)), .op (some 10) none (.mv (.t 30))]) (.seq (.reg [.op (some 31) none (.mv (.t 9)), .op (some 32) none (.bin .sub (.t 31) (.c (.int .i64 (Int.ofNat 1)))), .op (some 11) none (.mv (.t 32))]) (.seq (.seq (.reg [.op (some 12) none (.mv (.c (.int .i64 (Int.ofNat 0))))]) (.block 2 (.loop L72_1))) (.seq (.reg [.op (some 79) none (.mv (.t 11)), .op (some 80) none (.mv (.t 2)), .op (some 81) none (.bin .lss (.t 79) (.t 80)), .op (some 82) none (.mv (.t 81)), .op (some 83) (some (82, true)) (.mv (.t 3)), .op (some 84) (some (82, true)) (.mv (.t 83)), .op (some 85) (some (84, false)) (.mv (.t 10)), .op (some 86) (some (84, false)) (.bin .gtr (.t 85) (.c (.int .i64 (Int.ofNat 0)))), .op (some 87) (some (82, true)) (.pick (.t 84) (.c (.tf true)) (.t 86)), .op (some 88) none (.pick (.t 82) (.t 87) (.c (.tf false)))]) (.cond ( .t 88) (.seq (.reg [.op (some 89) none (.mv (.t 9)), .op (some 8) none (.mv (.t 89))]) .ret) .skip)))))) (.reg [.op (some 21) none (.mv (.t 9)), .op (some 22) none (.bin .sub (.t 21) (.c (.int .i64 (Int.ofNat 1)))), .op (some 9) none (.mv (.t 22))])))
noncomputable def g72_0 (v0 : List (List Int)) (v1 : Int) (v2 : Int) (v3 : Bool) (v9 : Int) : Option ((List (List Int) × Int × Int × Bool × Int × Unit) ⊕ ((Int × Unit) ⊕ ((Unit)))) :=
 brO (decide ((0 : Int) < v9)) (
 need (inb v1 (((v0).length : Nat) : Int)) (
 need (rng .i64 (v9 - (1 : Int))) (
 need (inb (v9 - (1 : Int)) (((((v0).getD (Int.toNat v1) [])).length : Nat) : Int)) (
 need (rng .i64 (v9 - (1 : Int))) (
 bindO (iter (fun x => g72_1 x.1 x.2.1 x.2.2.1 x.2.2.2.1 x.2.2.2.2.1 x.2.2.2.2.2.1 x.2.2.2.2.2.2.1 x.2.2.2.2.2.2.2.1) (v0, (v1, (v2, (v3, (v9, (((((v0).getD (Int.toNat v1) [])).getD (Int.toNat (v9 - (1 : Int))) (0 : Int)), ((v9 - (1 : Int)), ((0 : Int), ()))))))))) fun z1 =>
 brO (decide (z1.2.2.2.2.2.2.1 < z1.2.2.1)) (
 brO z1.2.2.2.1 (
 some (.inr <| .inl <| (z1.2.2.2.2.1, ()))) (
 brO (decide ((0 : Int) < z1.2.2.2.2.2.1)) (
 some (.inr <| .inl <| (z1.2.2.2.2.1, ()))) (
 need (rng .i64 (z1.2.2.2.2.1 - (1 : Int))) (
 some (.inl (z1.1, (z1.2.1, (z1.2.2.1, (z1.2.2.2.1, ((z1.2.2.2.2.1 - (1 : Int)), ())))))))))) (
 need (rng .i64 (z1.2.2.2.2.1 - (1 : Int))) (
 some (.inl (z1.1, (z1.2.1, (z1.2.2.1, (z1.2.2.2.1, ((z1.2.2.2.2.1 - (1 : Int)), ()))))))))))))) (
 some (.inr <| .inr <| ()))
theorem s72_0 : ∀ x, roundE (kzO (p72_0.T ⊕ x72_0.T)) cx72 ar0 [] p72_0 x72_0 (b72_0) (fun y => some (.inl y)) (fun b => some (.inr b)) x = g72_0 x.1 x.2.1 x.2.2.1 x.2.2.2.1 x.2.2.2.2.1 := by intro x; kernel_rfl
noncomputable def L72_0 : LoopS prog 90 none 0 := mkLoop mixed cx72 cx72_ok [] rfl p72_0 x72_0 rfl (b72_0) (fun x => g72_0 x.1 x.2.1 x.2.2.1 x.2.2.2.1 x.2.2.2.2.1) (s72_0)
noncomputable def dd72 : D prog 90 none 0 := (.seq (.reg [.op (some 8) none (.mv (.c (.int .i64 (Int.ofNat 0))))]) (.seq (.seq (.reg [.op (some 14) none (.mv (.t 0)), .op (some 15) none (.mv (.t 1)), .op (some 16) none (.idx 1 (.t 14) (.t 15)), .op (some 17) none (.load false 1 (.t 16)), .op (some 18) none (.len (.t 17)), .op (some 9) none (.mv (.t 18))]) (.block 0 (.loop L72_0))) (.seq (.reg [.op (some 8) none (.mv (.c (.int .i64 (Int.ofNat 0))))]) .ret)))
noncomputable def F72 (a0 : List (List Int)) (a1 : Int) (a2 : Int) (a3 : Bool) : Option (Int × Unit) :=
 need (inb a1 (((a0).length : Nat) : Int)) (
 bindO (iter (fun x => g72_0 x.1 x.2.1 x.2.2.1 x.2.2.2.1 x.2.2.2.2.1) (a0, (a1, (a2, (a3, ((((((a0).getD (Int.toNat a1) [])).length : Nat) : Int), ())))))) fun z2 =>
 match z2 with
 | .inl z3 =>
 some (z3.1, ())
 | .inr z4 =>
 some ((0 : Int), ()))
theorem c72_ok : trF prog f72 = some ⟨90, 4, dd72.er, [.t 8], [some (.int .i64)]⟩ := by kernel_rfl
noncomputable def ct72 : Ct := ⟨72, [.c (.hole (.list (.list (.int .i64)))), .c (.hole (.int .i64)), .c (.hole (.int .i64)), .c (.hole .bool)], .c (.hole (.int .i64)), fun x => F72 x.1 x.2.1 x.2.2.1 x.2.2.2.1⟩
theorem ct72_ok : ct72.Ok prog := ct_ok mixed cx72_ok func72 c72_ok (enters_of func72 rfl rfl) dd72 rfl rfl (fun x => by kernel_rfl)

/- 36 -/
noncomputable def cx36 : Cx := mkCxH [ct70, ct50, ct71, ct72, ct57] []
theorem cx36_ok : cx36.Ok prog := mkCxH_ok ⟨ct70_ok, ct50_ok, ct71_ok, ct72_ok, ct57_ok, trivial⟩ trivial
@[reducible] def p36_0 : Pat := Pat.mk [(0, .c (.hole (.list (.list (.prod (.int .i64) (.int .i64)))))), (1, .c (.hole (.int .i64))), (5, .c (.ptr 0 0)), (8, .c (.sl0 1 (.prod (.int .i64) (.int .i64)))), (9, .c (.hole (.list (.list (.int .i64))))), (10, .c (.hole (.list (.list (.int .i64))))), (11, .c (.hole (.int .i64)))] [(0, .cells [.hole (.int .i64), .hole (.int .i64)] false), (1, .arr (.prod (.int .i64) (.int .i64)) false)] [.slot 5, .slot 8] []
@[reducible] def x36_0 : Outs := [(.exit 0, Pat.mk [(1, .c (.hole (.int .i64))), (5, .c (.ptr 0 0)), (8, .c (.sl0 1 (.prod (.int .i64) (.int .i64)))), (9, .c (.hole (.list (.list (.int .i64))))), (10, .c (.hole (.list (.list (.int .i64)))))] [(0, .cells [.hole (.int .i64), .hole (.int .i64)] false), (1, .arr (.prod (.int .i64) (.int .i64)) false)] [.slot 5, .slot 8] [])]
noncomputable def b36_0 : D prog 89 none 0 := (.seq (.seq (.reg [.op (some 35) none (.mv (.t 11)), .op (some 36) none (.mv (.t 0)), .op (some 37) none (.len (.t 36)), .op (some 38) none (.bin .lss (.t 35) (.t 37))]) (.cond ( .t 38) .skip (.exit 0))) (.seq (.block 1 (.seq (.reg [.op (some 41) none (.bslice (.list (.int .i64)) []), .op (some 42) none (.mv (.t 10)), .op (some 43) none (.append 1 (.t 41) (.t 42)), .op (some 44) none (.bslice (.list (.int .i64)) []), .op (some 45) none (.mv (.t 9)), .op (some 46) none (.append 1 (.t 44) (.t 45)), .op (some 12) none (.mv (.t 43)), .op (some 13) none (.mv (.t 46))]) (.seq (.draw [[], [], [], [], [], [], [4, 5], [4, 5, 6], [], [], [8, 9], [8, 9, 10], [0, 1, 4, 5, 6, 7, 8, 9, 10, 11], [0, 1, 4, 5, 6, 7, 8, 9, 10, 11, 12], [0, 1, 2, 3, 4, 5, 6, 7, 8, 9, 10, 11, 12, 13], [0, 1, 2, 3, 4, 5, 6, 7, 8, 9, 10, 11, 12, 13, 14]] [.op (some 47) none (.mv (.t 12)), .op (some 48) none (.mv (.t 11)), .op (some 49) none (.mv (.t 13)), .op (some 50) none (.mv (.t 11)), .op (some 51) none (.mv (.t 9)), .op (some 52) none (.mv (.t 11)), .op (some 53) none (.idx 1 (.t 51) (.t 52)), .op (some 54) none (.load false 1 (.t 53)), .op (some 55) none (.mv (.t 10)), .op (some 56) none (.mv (.t 11)), .op (some 57) none (.idx 1 (.t 55) (.t 56)), .op (some 58) none (.load false 1 (.t 57)), .op (some 59) none (.idx 1 (.t 47) (.t 48)), .op none none (.store 1 (.t 59) (.t 54)), .op (some 60) none (.idx 1 (.t 49) (.t 50)), .op none none (.store 1 (.t 60) (.t 58))]) (.reg [.op (some 61) none (.mv (.t 8)), .op (some 62) none (.mv (.t 12)), .op (some 63) none (.mv (.t 11)), .op (some 64) none (.mv (.t 1)), .call (some 65) none (.c (.fn 72 [] [])) [.t 62, .t 63, .t 64, .c (.tf false)] [some (.list (.list (.int .i64))), some (.int .i64), some (.int .i64), some .bool], .op (some 66) none (.mv (.t 13)), .op (some 67) none (.mv (.t 11)), .op (some 68) none (.mv (.t 1)), .call (some 69) none (.c (.fn 72 [] [])) [.t 66, .t 67, .t 68, .c (.tf true)] [some (.list (.list (.int .i64))), some (.int .i64), some (.int .i64), some .bool], .op (some 70) none (.build [.int .i64 (Int.ofNat 0), .int .i64 (Int.ofNat 0)] [(0, 1, .t 65), (1, 1, .t 69)]), .op (some 71) none (.bslice (.prod (.int .i64) (.int .i64)) [.t 70]), .op (some 72) none (.append 2 (.t 61) (.t 71)), .op (some 8) none (.mv (.t 72))])))) (.reg [.op (some 39) none (.mv (.t 11)), .op (some 40) none (.bin .add (.t 39) (.c (.int .i64 (Int.ofNat 1)))), .op (some 11) none (.mv (.t 40))])))
noncomputable def g36_0 (v0 : List (List (Int × Int))) (v1 : Int) (nv8 : Nat) (v9 : List (List Int)) (v10 : List (List Int)) (v11 : Int) (c0_0 : Int) (c0_1 : Int) (b1 : List (Int × Int)) : Option (((List (List (Int × Int))) × Int × Nat × List (List Int) × List (List Int) × Int × Int × Int × (List (Int × Int)) × Unit) ⊕ ((Int × Nat × List (List Int) × List (List Int) × Int × Int × (List (Int × Int)) × Unit))) :=
 brO (decide (v11 < (((v0).length : Nat) : Int))) (
 need (decide (((0 : Nat) + (v10).length) < bigL)) (
 need (decide (((0 : Nat) + (v9).length) < bigL)) (
 need (inb v11 (((v9).length : Nat) : Int)) (
 need (inb v11 (((v10).length : Nat) : Int)) (
 need (inb v11 ((((0 : Nat) + (v10).length) : Nat) : Int)) (
 need (decide (((0 : Nat) + (Int.toNat v11)) < ((((([]).drop (0 : Nat)).take (0 : Nat)) ++ v10)).length)) (
 need (inb v11 ((((0 : Nat) + (v9).length) : Nat) : Int)) (
 need (decide (((0 : Nat) + (Int.toNat v11)) < ((((([]).drop (0 : Nat)).take (0 : Nat)) ++ v9)).length)) (
 bindO (F72 ((((((((([]).drop (0 : Nat)).take (0 : Nat)) ++ v10)).set ((0 : Nat) + (Int.toNat v11)) ((v9).getD (Int.toNat v11) []))).drop (0 : Nat)).take ((0 : Nat) + (v10).length)) v11 v1 false) fun y4 =>
 bindO (F72 ((((((((([]).drop (0 : Nat)).take (0 : Nat)) ++ v9)).set ((0 : Nat) + (Int.toNat v11)) ((v10).getD (Int.toNat v11) []))).drop (0 : Nat)).take ((0 : Nat) + (v9).length)) v11 v1 true) fun y5 =>
 need (decide ((nv8 + ((((((y4.1, y5.1) :: [])).drop (0 : Nat)).take (1 : Nat))).length) < bigL)) (
 need (rng .i64 (v11 + (1 : Int))) (
 some (.inl (v0, (v1, ((nv8 + ((((((y4.1, y5.1) :: [])).drop (0 : Nat)).take (1 : Nat))).length), (v9, (v10, ((v11 + (1 : Int)), (c0_0, (c0_1, (((((b1).drop (0 : Nat)).take nv8) ++ (((((y4.1, y5.1) :: [])).drop (0 : Nat)).take (1 : Nat))), ()))))))))))))))))))))) (
 some (.inr (v1, (nv8, (v9, (v10, (c0_0, (c0_1, (b1, ())))))))))
theorem s36_0 : ∀ x, roundE (kzO (p36_0.T ⊕ x36_0.T)) cx36 ar0 [] p36_0 x36_0 (b36_0) (fun y => some (.inl y)) (fun b => some (.inr b)) x = g36_0 x.1 x.2.1 x.2.2.1 x.2.2.2.1 x.2.2.2.2.1 x.2.2.2.2.2.1 x.2.2.2.2.2.2.1 x.2.2.2.2.2.2.2.1 x.2.2.2.2.2.2.2.2.1 := by intro x; kernel_rfl
noncomputable def L36_0 : LoopS prog 89 none 0 := mkLoop mixed cx36 cx36_ok [] rfl p36_0 x36_0 rfl (b36_0) (fun x => g36_0 x.1 x.2.1 x.2.2.1 x.2.2.2.1 x.2.2.2.2.1 x.2.2.2.2.2.1 x.2.2.2.2.2.2.1 x.2.2.2.2.2.2.2.1 x.2.2.2.2.2.2.2.2.1) (s36_0)
noncomputable def dd36 : D prog 89 none 0 := (.seq (.reg [.op (some 4) none (.mv (.c .nsl)), .op (some 5) none (.alloc [.int .i64 (Int.ofNat 0), .int .i64 (Int.ofNat 0)]), .op (some 6) none (.mv (.c (.int .i64 (Int.ofNat 0))))]) (.seq (.reg [.op (some 18) none (.mv (.t 0)), .call (some 19) none (.c (.fn 70 [] [])) [.t 18] [some (.list (.list (.prod (.int .i64) (.int .i64))))], .op (some 7) none (.mv (.t 19))]) (.seq (.seq (.reg [.op (some 20) none (.mv (.t 7)), .op (some 21) none (.bin .eql (.t 20) (.c (.int .i64 (Int.ofNat 0)))), .op (some 22) none (.mv (.t 21)), .op (some 23) (some (22, true)) (.mv (.t 1)), .call (some 24) (some (22, true)) (.c (.fn 50 [] [])) [.t 23, .c (.int .i64 (Int.ofNat 0)), .c (.int .i64 (Int.ofNat 200))] [some (.int .i64), some (.int .i64), some (.int .i64)], .op (some 25) (some (22, true)) (.not (.t 24)), .op (some 26) none (.pick (.t 22) (.t 25) (.c (.tf false)))]) (.cond ( .t 26) (.reg [.op (some 7) none (.mv (.c (.int .i64 (Int.ofNat 2))))]) .skip)) (.seq (.seq (.reg [.op (some 27) none (.mv (.t 7)), .op (some 28) none (.bin .neq (.t 27) (.c (.int .i64 (Int.ofNat 0))))]) (.cond ( .t 28) (.seq (.reg [.op (some 29) none (.build [.int .i64 (Int.ofNat 0), .int .i64 (Int.ofNat 0)] []), .op (some 30) none (.mv (.t 7)), .op (some 4) none (.mv (.c .nsl)), .op none none (.store 2 (.t 5) (.t 29)), .op (some 6) none (.mv (.t 30))]) .ret) .skip)) (.seq (.reg [.op (some 8) none (.mv (.c .nsl))]) (.seq (.reg [.op (some 31) none (.mv (.t 0)), .call (some 32) none (.c (.fn 71 [] [])) [.t 31, .c (.tf false)] [some (.list (.list (.prod (.int .i64) (.int .i64)))), some .bool], .op (some 33) none (.mv (.t 0)), .call (some 34) none (.c (.fn 71 [] [])) [.t 33, .c (.tf true)] [some (.list (.list (.prod (.int .i64) (.int .i64)))), some .bool], .op (some 9) none (.mv (.t 32)), .op (some 10) none (.mv (.t 34))]) (.seq (.seq (.reg [.op (some 11) none (.mv (.c (.int .i64 (Int.ofNat 0))))]) (.block 0 (.loop L36_0))) (.seq (.reg [.op (some 74) none (.mv (.t 9)), .op (some 75) none (.mv (.t 1)), .call (some 76) none (.c (.fn 57 [] [])) [.t 74, .t 75] [some (.list (.list (.int .i64))), some (.int .i64)], .op (some 73) none (.mv (.t 76)), .op (some 77) none (.ext 0 (.t 73)), .op (some 78) none (.ext 1 (.t 73)), .op (some 14) none (.mv (.t 77)), .op (some 15) none (.mv (.t 78))]) (.seq (.reg [.op (some 80) none (.mv (.t 10)), .op (some 81) none (.mv (.t 1)), .call (some 82) none (.c (.fn 57 [] [])) [.t 80, .t 81] [some (.list (.list (.int .i64))), some (.int .i64)], .op (some 79) none (.mv (.t 82)), .op (some 83) none (.ext 0 (.t 79)), .op (some 84) none (.ext 1 (.t 79)), .op (some 16) none (.mv (.t 83)), .op (some 17) none (.mv (.t 84))]) (.seq (.reg [.op (some 85) none (.mv (.t 8)), .op (some 86) none (.mv (.t 15)), .op (some 87) none (.mv (.t 17)), .op (some 88) none (.build [.int .i64 (Int.ofNat 0), .int .i64 (Int.ofNat 0)] [(0, 1, .t 86), (1, 1, .t 87)]), .op (some 4) none (.mv (.t 85)), .op none none (.store 2 (.t 5) (.t 88)), .op (some 6) none (.mv (.c (.int .i64 (Int.ofNat 0))))]) .ret))))))))))
noncomputable def F36 (a0 : List (List (Int × Int))) (a1 : Int) : Option ((List (Int × Int)) × (Int × Int) × Int × Unit) :=
 bindO (F70 a0) fun y0 =>
 brO (y0.1 == (0 : Int)) (
 bindO (F50 a1 (0 : Int) (200 : Int)) fun y1 =>
 brO (!y1.1) (
 brO (!((2 : Int) == (0 : Int))) (
 some ([], (((0 : Int), (0 : Int)), ((2 : Int), ())))) (
 bindO (F71 a0 false) fun y2 =>
 bindO (F71 a0 true) fun y3 =>
 bindO (iter (fun x => g36_0 x.1 x.2.1 x.2.2.1 x.2.2.2.1 x.2.2.2.2.1 x.2.2.2.2.2.1 x.2.2.2.2.2.2.1 x.2.2.2.2.2.2.2.1 x.2.2.2.2.2.2.2.2.1) (a0, (a1, ((0 : Nat), (y2.1, (y3.1, ((0 : Int), ((0 : Int), ((0 : Int), ([], ())))))))))) fun z6 =>
 bindO (F57 z6.2.2.1 z6.1) fun y7 =>
 bindO (F57 z6.2.2.2.1 z6.1) fun y8 =>
 some ((((z6.2.2.2.2.2.2.1).drop (0 : Nat)).take z6.2.1), ((y7.2.1, y8.2.1), ((0 : Int), ()))))) (
 brO (!(y0.1 == (0 : Int))) (
 some ([], (((0 : Int), (0 : Int)), (y0.1, ())))) (
 bindO (F71 a0 false) fun y9 =>
 bindO (F71 a0 true) fun y10 =>
 bindO (iter (fun x => g36_0 x.1 x.2.1 x.2.2.1 x.2.2.2.1 x.2.2.2.2.1 x.2.2.2.2.2.1 x.2.2.2.2.2.2.1 x.2.2.2.2.2.2.2.1 x.2.2.2.2.2.2.2.2.1) (a0, (a1, ((0 : Nat), (y9.1, (y10.1, ((0 : Int), ((0 : Int), ((0 : Int), ([], ())))))))))) fun z11 =>
 bindO (F57 z11.2.2.1 z11.1) fun y12 =>
 bindO (F57 z11.2.2.2.1 z11.1) fun y13 =>
 some ((((z11.2.2.2.2.2.2.1).drop (0 : Nat)).take z11.2.1), ((y12.2.1, y13.2.1), ((0 : Int), ())))))) (
 brO (!(y0.1 == (0 : Int))) (
 some ([], (((0 : Int), (0 : Int)), (y0.1, ())))) (
 bindO (F71 a0 false) fun y14 =>
 bindO (F71 a0 true) fun y15 =>
 bindO (iter (fun x => g36_0 x.1 x.2.1 x.2.2.1 x.2.2.2.1 x.2.2.2.2.1 x.2.2.2.2.2.1 x.2.2.2.2.2.2.1 x.2.2.2.2.2.2.2.1 x.2.2.2.2.2.2.2.2.1) (a0, (a1, ((0 : Nat), (y14.1, (y15.1, ((0 : Int), ((0 : Int), ((0 : Int), ([], ())))))))))) fun z16 =>
 bindO (F57 z16.2.2.1 z16.1) fun y17 =>
 bindO (F57 z16.2.2.2.1 z16.1) fun y18 =>
 some ((((z16.2.2.2.2.2.2.1).drop (0 : Nat)).take z16.2.1), ((y17.2.1, y18.2.1), ((0 : Int), ())))))
theorem c36_ok : trF prog f36 = some ⟨89, 2, dd36.er, [.t 4, .cell 5 true 2, .t 6], [some (.list (.prod (.int .i64) (.int .i64))), some (.prod (.int .i64) (.int .i64)), some (.int .i64)]⟩ := by kernel_rfl
noncomputable def ct36 : Ct := ⟨36, [.c (.hole (.list (.list (.prod (.int .i64) (.int .i64))))), .c (.hole (.int .i64))], .tup [.hole (.list (.prod (.int .i64) (.int .i64))), .hole (.prod (.int .i64) (.int .i64)), .hole (.int .i64)], fun x => F36 x.1 x.2.1⟩
theorem ct36_ok : ct36.Ok prog := ct_ok mixed cx36_ok func36 c36_ok (enters_of func36 rfl rfl) dd36 rfl rfl (fun x => by kernel_rfl)

/- 7 -/
noncomputable def cx7 : Cx := mkCxH [ct16, ct35, ct37, ct36, ct38] []
theorem cx7_ok : cx7.Ok prog := mkCxH_ok ⟨ct16_ok, ct35_ok, ct37_ok, ct36_ok, ct38_ok, trivial⟩ trivial
@[reducible] def p7_0 : Pat := Pat.mk [(0, .c (.hole (.list (.list (.prod (.int .i64) (.int .i64)))))), (1, .c (.hole (.int .i64))), (5, .c (.hole (.int .i64)))] [] [] []
@[reducible] def x7_0 : Outs := [(.ret, Pat.mk [(4, .c (.hole .bool))] [] [] []), (.exit 0, Pat.mk [(0, .c (.hole (.list (.list (.prod (.int .i64) (.int .i64)))))), (1, .c (.hole (.int .i64)))] [] [] [])]
noncomputable def b7_0 : D prog 60 none 0 := (.seq (.seq (.reg [.op (some 16) none (.mv (.t 5)), .op (some 17) none (.mv (.t 0)), .op (some 18) none (.len (.t 17)), .op (some 19) none (.bin .lss (.t 16) (.t 18))]) (.cond ( .t 19) .skip (.exit 0))) (.seq (.block 1 (.seq (.reg [.op (some 22) none (.mv (.t 0)), .op (some 23) none (.mv (.t 5)), .op (some 24) none (.idx 1 (.t 22) (.t 23)), .op (some 25) none (.load false 1 (.t 24)), .op (some 26) none (.len (.t 25)), .op (some 27) none (.bin .gtr (.t 26) (.c (.int .i64 (Int.ofNat 30))))]) (.cond ( .t 27) (.seq (.reg [.call (some 28) none (.c (.fn 16 [] [])) [] [], .op (some 4) none (.mv (.t 28))]) .ret) .skip))) (.reg [.op (some 20) none (.mv (.t 5)), .op (some 21) none (.bin .add (.t 20) (.c (.int .i64 (Int.ofNat 1)))), .op (some 5) none (.mv (.t 21))])))
noncomputable def g7_0 (v0 : List (List (Int × Int))) (v1 : Int) (v5 : Int) : Option (((List (List (Int × Int))) × Int × Int × Unit) ⊕ ((Bool × Unit) ⊕ (((List (List (Int × Int))) × Int × Unit)))) :=
 brO (decide (v5 < (((v0).length : Nat) : Int))) (
 need (inb v5 (((v0).length : Nat) : Int)) (
 brO (decide ((30 : Int) < (((((v0).getD (Int.toNat v5) [])).length : Nat) : Int))) (
 bindO (F16) fun y1 =>
 some (.inr <| .inl <| (y1.1, ()))) (
 need (rng .i64 (v5 + (1 : Int))) (
 some (.inl (v0, (v1, ((v5 + (1 : Int)), ())))))))) (
 some (.inr <| .inr <| (v0, (v1, ()))))
theorem s7_0 : ∀ x, roundE (kzO (p7_0.T ⊕ x7_0.T)) cx7 ar0 [] p7_0 x7_0 (b7_0) (fun y => some (.inl y)) (fun b => some (.inr b)) x = g7_0 x.1 x.2.1 x.2.2.1 := by intro x; kernel_rfl
noncomputable def L7_0 : LoopS prog 60 none 0 := mkLoop mixed cx7 cx7_ok [] rfl p7_0 x7_0 rfl (b7_0) (fun x => g7_0 x.1 x.2.1 x.2.2.1) (s7_0)
noncomputable def dd7 : D prog 60 none 0 := (.seq (.reg [.op (some 4) none (.mv (.c (.tf false)))]) (.seq (.seq (.reg [.op (some 12) none (.mv (.t 0)), .op (some 13) none (.len (.t 12)), .op (some 14) none (.bin .gtr (.t 13) (.c (.int .i64 (Int.ofNat 30))))]) (.cond ( .t 14) (.seq (.reg [.call (some 15) none (.c (.fn 16 [] [])) [] [], .op (some 4) none (.mv (.t 15))]) .ret) .skip)) (.seq (.seq (.reg [.op (some 5) none (.mv (.c (.int .i64 (Int.ofNat 0))))]) (.block 0 (.loop L7_0))) (.seq (.reg [.op (some 30) none (.mv (.t 0)), .op (some 31) none (.mv (.t 1)), .call (some 32) none (.c (.fn 35 [] [])) [.t 30, .t 31] [some (.list (.list (.prod (.int .i64) (.int .i64)))), some (.int .i64)], .op (some 29) none (.mv (.t 32)), .op (some 33) none (.ext 0 (.t 29)), .op (some 34) none (.ext 1 (.t 29)), .op (some 35) none (.ext 2 (.t 29)), .op (some 7) none (.alloc [.int .i64 (Int.ofNat 0), .int .i64 (Int.ofNat 0)]), .op (some 6) none (.mv (.t 33)), .op none none (.store 2 (.t 7) (.t 34)), .op (some 8) none (.mv (.t 35))]) (.seq (.reg [.op (some 37) none (.mv (.t 0)), .call (some 38) none (.c (.fn 37 [] [])) [.t 37] [some (.list (.list (.prod (.int .i64) (.int .i64))))], .op (some 39) none (.mv (.t 1)), .call (some 40) none (.c (.fn 36 [] [])) [.t 38, .t 39] [some (.list (.list (.prod (.int .i64) (.int .i64)))), some (.int .i64)], .op (some 36) none (.mv (.t 40)), .op (some 41) none (.ext 0 (.t 36)), .op (some 42) none (.ext 1 (.t 36)), .op (some 43) none (.ext 2 (.t 36)), .op (some 10) none (.alloc [.int .i64 (Int.ofNat 0), .int .i64 (Int.ofNat 0)]), .op (some 9) none (.mv (.t 41)), .op none none (.store 2 (.t 10) (.t 42)), .op (some 11) none (.mv (.t 43))]) (.seq (.reg [.op (some 44) none (.mv (.t 6)), .op (some 45) none (.mv (.t 9)), .call (some 46) none (.c (.fn 38 [] [])) [.t 44, .t 45] [some (.list (.prod (.int .i64) (.int .i64))), some (.list (.prod (.int .i64) (.int .i64)))], .op (some 47) none (.mv (.t 46)), .op (some 48) (some (47, true)) (.load true 2 (.t 7)), .op (some 49) (some (47, true)) (.load true 2 (.t 10)), .op (some 50) (some (47, true)) (.eqs false [.i, .i] (.t 48) (.t 49)), .op (some 51) none (.pick (.t 47) (.t 50) (.c (.tf false))), .op (some 52) none (.mv (.t 51)), .op (some 53) (some (52, true)) (.mv (.t 8)), .op (some 54) (some (52, true)) (.mv (.t 11)), .op (some 55) (some (52, true)) (.bin .eql (.t 53) (.t 54)), .op (some 56) none (.pick (.t 52) (.t 55) (.c (.tf false))), .op (some 57) none (.mv (.t 56)), .call (some 58) (some (57, true)) (.c (.fn 16 [] [])) [] [], .op (some 59) none (.pick (.t 57) (.t 58) (.c (.tf false))), .op (some 4) none (.mv (.t 59))]) .ret))))))
noncomputable def F7 (a0 : List (List (Int × Int))) (a1 : Int) : Option (Bool × Unit) :=
 brO (decide ((30 : Int) < (((a0).length : Nat) : Int))) (
 bindO (F16) fun y0 =>
 some (y0.1, ())) (
 bindO (iter (fun x => g7_0 x.1 x.2.1 x.2.2.1) (a0, (a1, ((0 : Int), ())))) fun z2 =>
 match z2 with
 | .inl z3 =>
 some (z3.1, ())
 | .inr z4 =>
 bindO (F35 z4.1 z4.2.1) fun y5 =>
 bindO (F37 z4.1) fun y6 =>
 bindO (F36 y6.1 z4.2.1) fun y7 =>
 bindO (F38 y5.1 y7.1) fun y8 =>
 brO y8.1 (
 brO ((y5.2.1.1 == y7.2.1.1) && ((y5.2.1.2 == y7.2.1.2) && true)) (
 brO (y5.2.2.1 == y7.2.2.1) (
 bindO (F16) fun y9 =>
 some (y9.1, ())) (
 some (false, ()))) (
 some (false, ()))) (
 some (false, ())))
theorem c7_ok : trF prog f7 = some ⟨60, 2, dd7.er, [.t 4], [some .bool]⟩ := by kernel_rfl
noncomputable def ct7 : Ct := ⟨7, [.c (.hole (.list (.list (.prod (.int .i64) (.int .i64))))), .c (.hole (.int .i64))], .c (.hole .bool), fun x => F7 x.1 x.2.1⟩
theorem ct7_ok : ct7.Ok prog := ct_ok mixed cx7_ok func7 c7_ok (enters_of func7 rfl rfl) dd7 rfl rfl (fun x => by kernel_rfl)

end Go.Proofs.Try

