/- Functions of the program as functions of data, part 3; printed by a program of mine. -/
import Derived.Test.YtigglifniejbpaaW101
import Derived.Test.YtigglifniejbpaaProg
set_option linter.unusedSectionVars false
set_option linter.unusedVariables false
set_option linter.unusedSimpArgs false
open Go.AM
namespace Go.Proofs.Try
set_option maxRecDepth 100000
set_option synthInstance.maxSize 4000
set_option synthInstance.maxHeartbeats 400000


/- 10 -/
noncomputable def cx10 : Cx := (mkCxH [ct39, ct24, ct22, ct29, ct16] []).opn 1
theorem cx10_ok : cx10.Ok prog := Cx.opn_ok (cx := mkCxH [ct39, ct24, ct22, ct29, ct16] []) (mkCxH_ok ⟨ct39_ok, ct24_ok, ct22_ok, ct29_ok, ct16_ok, trivial⟩ trivial) 1
@[reducible] def p10_0 : Pat := Pat.mk [(2, .c (.hole (.int .u8))), (4, .c (.pa 0 (.int .u8) 2)), (7, hzM), (8, hzL), (9, hzI), (10, hzI), (33, hzM), (34, hzI), (35, hzI)] [(0, .arr (.int .u8) false)] [.slot 4] []
@[reducible] def x10_0 : Outs := [(.exit 0, Pat.mk [(2, .c (.hole (.int .u8))), (4, .c (.pa 0 (.int .u8) 2)), (7, hzM), (8, hzL), (9, hzI), (10, hzI)] [(0, .arr (.int .u8) false)] [.slot 4] [])]
noncomputable def b10_0 : D prog 258 none 0 := (.seq (.reg [oo 36 (.bin .lss (.t 35) (.t 34))]) (.seq (.cond ( .t 36) .skip (.exit 0)) (.seq (.block 1 (.seq (.reg [oo 37 (.idx 1 (.t 33) (.t 35)), ol 38 37, om 12 38]) (.reg [om 39 10, om 40 12, oo 41 (.len (.t 40)), oo 42 (.bin .add (.t 39) (.t 41)), om 10 42]))) (.reg [oo 43 (.bin .add (.t 35) (ki 1)), om 35 43]))))
noncomputable def g10_0 (v2 : Int) (v7 : List (List Int)) (v8 : List Int) (v9 : Int) (v10 : Int) (v33 : List (List Int)) (v34 : Int) (v35 : Int) (b0 : List Int) : Option ((Int × List (List Int) × List Int × Int × Int × List (List Int) × Int × Int × List Int × Unit) ⊕ ((Int × List (List Int) × List Int × Int × Int × List Int × Unit))) :=
 brO (decide (v35 < v34)) (
 need (inb v35 (((v33).length : Nat) : Int)) (
 need (rng .i64 (v10 + (((((v33).getD (Int.toNat v35) [])).length : Nat) : Int))) (
 need (rng .i64 (v35 + (1 : Int))) (
 some (.inl (v2, (v7, (v8, (v9, ((v10 + (((((v33).getD (Int.toNat v35) [])).length : Nat) : Int)), (v33, (v34, ((v35 + (1 : Int)), (b0, ())))))))))))))) (
 some (.inr (v2, (v7, (v8, (v9, (v10, (b0, ()))))))))
noncomputable def L10_0 : LoopS prog 258 none 0 := mkLoop mixed cx10 cx10_ok [] rfl p10_0 x10_0 rfl (b10_0) (fun x => g10_0 x.1 x.2.1 x.2.2.1 x.2.2.2.1 x.2.2.2.2.1 x.2.2.2.2.2.1 x.2.2.2.2.2.2.1 x.2.2.2.2.2.2.2.1 x.2.2.2.2.2.2.2.2.1) (by intro x; kernel_rfl)
@[reducible] def p10_1 : Pat := Pat.mk [(2, .c (.hole (.int .u8))), (4, .c (.pa 0 (.int .u8) 2)), (7, hzM), (8, hzL), (10, hzI), (13, .c (.ptr 1 0)), (14, hzI)] [(0, .arr (.int .u8) false), (1, .cells [.hole (.int .i64), .hole (.int .i64)] false)] [.slot 4, .slot 13] []
@[reducible] def x10_1 : Outs := [(.ret, Pat.mk [(6, .c (.tf false))] [] [] []), (.exit 2, Pat.mk [(2, .c (.hole (.int .u8))), (4, .c (.pa 0 (.int .u8) 2)), (7, hzM), (8, hzL)] [(0, .arr (.int .u8) false)] [.slot 4] [])]
noncomputable def b10_1 : D prog 258 none 0 := (.seq (.seq (.reg [om 60 14, om 61 10, oo 62 (.bin .add (.t 61) (ki 2)), oo 63 (.bin .leq (.t 60) (.t 62))]) (.cond ( .t 63) .skip (.exit 2))) (.seq (.block 3 (.seq (.reg [om 67 7, om 68 14, .call (some 69) none (.c (.fn 22 [] [])) [.t 67, .t 68] [some (.list (.list (.int .i64))), some (.int .i64)], om 66 69, oo 70 (.ext 0 (.t 66)), oo 71 (.ext 1 (.t 66)), oo 72 (.ext 2 (.t 66)), om 15 70, om 16 71, om 17 72]) (.seq (.reg [om 74 7, om 75 14, .call (some 76) none (.c (.fn 29 [] [])) [.t 74, .t 75] [some (.list (.list (.int .i64))), some (.int .i64)], om 73 76, oo 77 (.ext 0 (.t 73)), oo 78 (.ext 1 (.t 73)), oo 18 (.alloc [.int .i64 (Int.ofNat 0), .int .i64 (Int.ofNat 0)]), .op none none (.store 2 (.t 18) (.t 77)), om 19 78]) (.seq (.seq (.reg [om 79 17, oo 80 (.bin .neq (.t 79) (ki 0)), om 81 80, og 82 81 false (.mv (.t 19)), og 83 81 false (.bin .neq (.t 82) (ki 0)), oo 84 (.pick (.t 81) (.c (.tf true)) (.t 83)), om 85 84, og 86 85 false (.mv (.t 16)), og 87 85 false (.mv (.t 8)), og 88 85 false (.mv (.t 14)), og 89 85 false (.mv (.t 10)), og 90 85 false (.minmax false (.t 88) [.t 89]), og 91 85 false (.idx 1 (.t 87) (.t 90)), og 92 85 false (.load false 1 (.t 91)), og 93 85 false (.bin .neq (.t 86) (.t 92)), oo 94 (.pick (.t 85) (.c (.tf true)) (.t 93)), om 95 94, og 96 95 false (.fld 0 [false] (.t 18)), og 97 95 false (.load false 1 (.t 96)), og 98 95 false (.fld 0 [false] (.t 13)), og 99 95 false (.load false 1 (.t 98)), og 100 95 false (.bin .gtr (.t 97) (.t 99)), oo 101 (.pick (.t 95) (.c (.tf true)) (.t 100)), om 102 101, og 103 102 false (.fld 1 [true] (.t 18)), og 104 102 false (.load false 1 (.t 103)), og 105 102 false (.fld 1 [true] (.t 13)), og 106 102 false (.load false 1 (.t 105)), og 107 102 false (.bin .gtr (.t 104) (.t 106)), oo 108 (.pick (.t 102) (.c (.tf true)) (.t 107))]) (.cond ( .t 108) (.seq (.reg [oo 6 (.mv (.c (.tf false)))]) .ret) .skip)) (.seq (.reg [oo 109 (.load true 2 (.t 18)), .op none none (.store 2 (.t 13) (.t 109))]) (.seq (.draw [[], [0], [0, 1], [0, 1, 2], [0, 1, 2], [0, 1, 2, 3, 4], [0, 1, 2, 3, 4, 5], [0, 1, 2, 3, 4, 5, 6], [0, 1, 2, 3, 4, 5, 6, 7], [0, 1, 2, 3, 4, 5, 6, 7], [0, 1, 2, 3, 4, 5, 6, 7, 8, 9], [0, 1, 2, 3, 4, 5, 6, 7, 8, 9, 10], [0, 1, 2, 3, 4, 5, 6, 7], [0, 1, 2, 3, 4, 5, 6, 7], [0, 1, 2, 3, 4, 5, 6, 7, 13], [0, 1, 2, 3, 4, 5, 6, 7, 12, 13, 14], [0, 1, 2, 3, 4, 5, 6, 7, 12, 13, 14, 15], [0, 1, 2, 3, 4, 5, 6, 7, 8, 9, 10, 11, 12, 13, 14, 15, 16], [0, 1, 2, 3, 4, 5, 6, 7, 8, 9, 10, 11, 12, 13, 14, 15, 16, 17], [0, 1, 2, 3, 4, 5, 6, 7, 8, 9, 10, 11, 12, 13, 14, 15, 16, 17, 18], [0, 1, 2, 3, 4, 5, 6, 7, 8, 9, 10, 11, 12, 13, 14, 15, 16, 17, 18, 19], [0, 1, 2, 3, 4, 5, 6, 7, 8, 9, 10, 11, 12, 13, 14, 15, 16, 17, 18, 19, 20], [0, 1, 2, 3, 4, 5, 6, 7, 8, 9, 10, 11, 12, 13, 14, 15, 16, 17, 18, 19, 20, 21], [0, 1, 2, 3, 4, 5, 6, 7, 8, 9, 10, 11, 12, 13, 14, 15, 16, 17, 18, 19, 20, 21, 22], [0, 1, 2, 3, 4, 5, 6, 7, 8, 9, 10, 11, 12, 13, 14, 15, 16, 17, 18, 19, 20, 21, 22], [0, 1, 2, 3, 4, 5, 6, 7, 8, 9, 10, 11, 12, 13, 14, 15, 16, 17, 18, 19, 20, 21, 22, 23, 24], [0, 1, 2, 3, 4, 5, 6, 7, 8, 9, 10, 11, 12, 13, 14, 15, 16, 17, 18, 19, 20, 21, 22, 23, 24, 25], [0, 1, 2, 3, 4, 5, 6, 7, 8, 9, 10, 11, 12, 13, 14, 15, 16, 17, 18, 19, 20, 21, 22, 23, 24, 25, 26], [0, 1, 2, 3, 4, 5, 6, 7, 8, 9, 10, 11, 12, 13, 14, 15, 16, 17, 18, 19, 20, 21, 22, 23, 24, 25, 26, 27], [0, 1, 2, 3, 4, 5, 6, 7, 8, 9, 10, 11, 12, 13, 14, 15, 16, 17, 18, 19, 20, 21, 22, 23, 24, 25, 26, 27], [0, 1, 2, 3, 4, 5, 6, 7, 8, 9, 10, 11, 12, 13, 14, 15, 16, 17, 18, 19, 20, 21, 22, 23, 24, 25, 26, 27, 28, 29], [0, 1, 2, 3, 4, 5, 6, 7, 8, 9, 10, 11, 12, 13, 14, 15, 16, 17, 18, 19, 20, 21, 22, 23, 24, 25, 26, 27, 28, 29, 30], [0, 1, 2, 3, 4, 5, 6, 7, 8, 9, 10, 11, 12, 13, 14, 15, 16, 17, 18, 19, 20, 21, 22, 23, 24, 25, 26, 27], [0, 1, 2, 3, 4, 5, 6, 7, 8, 9, 10, 11, 12, 13, 14, 15, 16, 17, 18, 19, 20, 21, 22, 23, 24, 25, 26, 27], [0, 1, 2, 3, 4, 5, 6, 7, 8, 9, 10, 11, 12, 13, 14, 15, 16, 17, 18, 19, 20, 21, 22, 23, 24, 25, 26, 27, 33], [0, 1, 2, 3, 4, 5, 6, 7, 8, 9, 10, 11, 12, 13, 14, 15, 16, 17, 18, 19, 20, 21, 22, 23, 24, 25, 26, 27, 32, 33, 34], [0, 1, 2, 3, 4, 5, 6, 7, 8, 9, 10, 11, 12, 13, 14, 15, 16, 17, 18, 19, 20, 21, 22, 23, 24, 25, 26, 27, 32, 33, 34, 35], [0, 1, 2, 3, 4, 5, 6, 7, 8, 9, 10, 11, 12, 13, 14, 15, 16, 17, 18, 19, 20, 21, 22, 23, 24, 25, 26, 27, 28, 29, 30, 31, 32, 33, 34, 35, 36], [0, 1, 2, 3, 4, 5, 6, 7, 8, 9, 10, 11, 12, 13, 14, 15, 16, 17, 18, 19, 20, 21, 22, 23, 24, 25, 26, 27], [0, 1, 2, 3, 4, 5, 6, 7, 8, 9, 10, 11, 12, 13, 14, 15, 16, 17, 18, 19, 20, 21, 22, 23, 24, 25, 26, 27], [0, 1, 2, 3, 4, 5, 6, 7, 8, 9, 10, 11, 12, 13, 14, 15, 16, 17, 18, 19, 20, 21, 22, 23, 24, 25, 26, 27, 39], [0, 1, 2, 3, 4, 5, 6, 7, 8, 9, 10, 11, 12, 13, 14, 15, 16, 17, 18, 19, 20, 21, 22, 23, 24, 25, 26, 27, 38, 39, 40], [0, 1, 2, 3, 4, 5, 6, 7, 8, 9, 10, 11, 12, 13, 14, 15, 16, 17, 18, 19, 20, 21, 22, 23, 24, 25, 26, 27, 38, 39, 40, 41], [0, 1, 2, 3, 4, 5, 6, 7, 8, 9, 10, 11, 12, 13, 14, 15, 16, 17, 18, 19, 20, 21, 22, 23, 24, 25, 26, 27], [0, 1, 2, 3, 4, 5, 6, 7, 8, 9, 10, 11, 12, 13, 14, 15, 16, 17, 18, 19, 20, 21, 22, 23, 24, 25, 26, 27], [0, 1, 2, 3, 4, 5, 6, 7, 8, 9, 10, 11, 12, 13, 14, 15, 16, 17, 18, 19, 20, 21, 22, 23, 24, 25, 26, 27, 44], [0, 1, 2, 3, 4, 5, 6, 7, 8, 9, 10, 11, 12, 13, 14, 15, 16, 17, 18, 19, 20, 21, 22, 23, 24, 25, 26, 27, 43, 44, 45], [0, 1, 2, 3, 4, 5, 6, 7, 8, 9, 10, 11, 12, 13, 14, 15, 16, 17, 18, 19, 20, 21, 22, 23, 24, 25, 26, 27, 43, 44, 45, 46], [0, 1, 2, 3, 4, 5, 6, 7, 8, 9, 10, 11, 12, 13, 14, 15, 16, 17, 18, 19, 20, 21, 22, 23, 24, 25, 26, 27, 38, 39, 40, 41, 42, 43, 44, 45, 46, 47], [0, 1, 2, 3, 4, 5, 6, 7, 8, 9, 10, 11, 12, 13, 14, 15, 16, 17, 18, 19, 20, 21, 22, 23, 24, 25, 26, 27, 28, 29, 30, 31, 32, 33, 34, 35, 36, 37, 38, 39, 40, 41, 42, 43, 44, 45, 46, 47, 48], [0, 1, 2, 3, 4, 5, 6, 7, 8, 9, 10, 11, 12, 13, 14, 15, 16, 17, 18, 19, 20, 21, 22, 23, 24, 25, 26, 27, 28, 29, 30, 31, 32, 33, 34, 35, 36, 37, 38, 39, 40, 41, 42, 43, 44, 45, 46, 47, 48, 49], [0, 1, 2, 3, 4, 5, 6, 7, 8, 9, 10, 11, 12, 13, 14, 15, 16, 17, 18, 19, 20, 21, 22, 23, 24, 25, 26, 27, 28, 29, 30, 31, 32, 33, 34, 35, 36, 37, 38, 39, 40, 41, 42, 43, 44, 45, 46, 47, 48, 49, 50]] [om 110 14, oo 111 (.bin .gtr (.t 110) (ki 0)), om 112 111, og 113 112 true (.mv (.t 14)), og 114 112 true (.mv (.t 10)), og 115 112 true (.bin .leq (.t 113) (.t 114)), oo 116 (.pick (.t 112) (.t 115) (.c (.tf false))), om 117 116, og 118 117 true (.mv (.t 8)), og 119 117 true (.mv (.t 14)), og 120 117 true (.idx 1 (.t 118) (.t 119)), og 121 117 true (.load false 1 (.t 120)), og 122 117 true (.mv (.t 8)), og 123 117 true (.mv (.t 14)), og 124 117 true (.bin .sub (.t 123) (ki 1)), og 125 117 true (.idx 1 (.t 122) (.t 124)), og 126 117 true (.load false 1 (.t 125)), og 127 117 true (.bin .lss (.t 121) (.t 126)), oo 128 (.pick (.t 117) (.t 127) (.c (.tf false))), om 129 128, og 130 129 false (.mv (.t 14)), og 131 129 false (.bin .gtr (.t 130) (ki 1)), og 132 129 false (.mv (.t 131)), og 133 132 true (.mv (.t 14)), og 134 132 true (.mv (.t 10)), og 135 132 true (.bin .leq (.t 133) (.t 134)), og 136 129 false (.pick (.t 132) (.t 135) (.c (.tf false))), og 137 129 false (.mv (.t 136)), og 138 137 true (.mv (.t 8)), og 139 137 true (.mv (.t 14)), og 140 137 true (.idx 1 (.t 138) (.t 139)), og 141 137 true (.load false 1 (.t 140)), og 142 137 true (.mv (.t 8)), og 143 137 true (.mv (.t 14)), og 144 137 true (.bin .sub (.t 143) (ki 1)), og 145 137 true (.idx 1 (.t 142) (.t 144)), og 146 137 true (.load false 1 (.t 145)), og 147 137 true (.bin .sub (.t 141) (.t 146)), og 148 137 true (.mv (.t 8)), og 149 137 true (.mv (.t 14)), og 150 137 true (.bin .sub (.t 149) (ki 1)), og 151 137 true (.idx 1 (.t 148) (.t 150)), og 152 137 true (.load false 1 (.t 151)), og 153 137 true (.mv (.t 8)), og 154 137 true (.mv (.t 14)), og 155 137 true (.bin .sub (.t 154) (ki 2)), og 156 137 true (.idx 1 (.t 153) (.t 155)), og 157 137 true (.load false 1 (.t 156)), og 158 137 true (.bin .sub (.t 152) (.t 157)), og 159 137 true (.bin .gtr (.t 147) (.t 158)), og 160 129 false (.pick (.t 137) (.t 159) (.c (.tf false))), oo 161 (.pick (.t 129) (.c (.tf true)) (.t 160))]) (.cond ( .t 161) (.seq (.reg [oo 6 (.mv (.c (.tf false)))]) .ret) .skip))))))) (.reg [om 64 14, oo 65 (.bin .add (.t 64) (ki 1)), om 14 65])))
noncomputable def g10_1 (v2 : Int) (v7 : List (List Int)) (v8 : List Int) (v10 : Int) (v14 : Int) (b0 : List Int) (c1_0 : Int) (c1_1 : Int) : Option ((Int × List (List Int) × List Int × Int × Int × List Int × Int × Int × Unit) ⊕ ((Unit) ⊕ ((Int × List (List Int) × List Int × List Int × Unit)))) :=
 need (rng .i64 (v10 + (2 : Int))) (
 brO (decide (v14 ≤ (v10 + (2 : Int)))) (
 bindO (F22 v7 v14) fun y3 =>
 bindO (F29 v7 v14) fun y4 =>
 brO (!(y3.2.2.1 == (0 : Int))) (
 some (.inr <| .inl <| ())) (
 brO (!(y4.2.1 == (0 : Int))) (
 some (.inr <| .inl <| ())) (
 need (inb (imin v14 v10) (((v8).length : Nat) : Int)) (
 brO (!(y3.2.1 == ((v8).getD (Int.toNat (imin v14 v10)) (0 : Int)))) (
 some (.inr <| .inl <| ())) (
 brO (decide (c1_0 < y4.1.1)) (
 some (.inr <| .inl <| ())) (
 brO (decide (c1_1 < y4.1.2)) (
 some (.inr <| .inl <| ())) (
 brO (decide ((0 : Int) < v14)) (
 brO (decide (v14 ≤ v10)) (
 need (inb v14 (((v8).length : Nat) : Int)) (
 need (rng .i64 (v14 - (1 : Int))) (
 need (inb (v14 - (1 : Int)) (((v8).length : Nat) : Int)) (
 brO (decide (((v8).getD (Int.toNat v14) (0 : Int)) < ((v8).getD (Int.toNat (v14 - (1 : Int))) (0 : Int)))) (
 some (.inr <| .inl <| ())) (
 brO (decide ((1 : Int) < v14)) (
 brO (decide (v14 ≤ v10)) (
 need (inb v14 (((v8).length : Nat) : Int)) (
 need (rng .i64 (v14 - (1 : Int))) (
 need (inb (v14 - (1 : Int)) (((v8).length : Nat) : Int)) (
 need (rng .i64 (((v8).getD (Int.toNat v14) (0 : Int)) - ((v8).getD (Int.toNat (v14 - (1 : Int))) (0 : Int)))) (
 need (rng .i64 (v14 - (1 : Int))) (
 need (inb (v14 - (1 : Int)) (((v8).length : Nat) : Int)) (
 need (rng .i64 (v14 - (2 : Int))) (
 need (inb (v14 - (2 : Int)) (((v8).length : Nat) : Int)) (
 need (rng .i64 (((v8).getD (Int.toNat (v14 - (1 : Int))) (0 : Int)) - ((v8).getD (Int.toNat (v14 - (2 : Int))) (0 : Int)))) (
 brO (decide ((((v8).getD (Int.toNat (v14 - (1 : Int))) (0 : Int)) - ((v8).getD (Int.toNat (v14 - (2 : Int))) (0 : Int))) < (((v8).getD (Int.toNat v14) (0 : Int)) - ((v8).getD (Int.toNat (v14 - (1 : Int))) (0 : Int))))) (
 some (.inr <| .inl <| ())) (
 need (rng .i64 (v14 + (1 : Int))) (
 some (.inl (v2, (v7, (v8, (v10, ((v14 + (1 : Int)), (b0, (y4.1.1, (y4.1.2, ()))))))))))))))))))))) (
 need (rng .i64 (v14 + (1 : Int))) (
 some (.inl (v2, (v7, (v8, (v10, ((v14 + (1 : Int)), (b0, (y4.1.1, (y4.1.2, ())))))))))))) (
 need (rng .i64 (v14 + (1 : Int))) (
 some (.inl (v2, (v7, (v8, (v10, ((v14 + (1 : Int)), (b0, (y4.1.1, (y4.1.2, ())))))))))))))))) (
 brO (decide ((1 : Int) < v14)) (
 brO (decide (v14 ≤ v10)) (
 need (inb v14 (((v8).length : Nat) : Int)) (
 need (rng .i64 (v14 - (1 : Int))) (
 need (inb (v14 - (1 : Int)) (((v8).length : Nat) : Int)) (
 need (rng .i64 (((v8).getD (Int.toNat v14) (0 : Int)) - ((v8).getD (Int.toNat (v14 - (1 : Int))) (0 : Int)))) (
 need (rng .i64 (v14 - (1 : Int))) (
 need (inb (v14 - (1 : Int)) (((v8).length : Nat) : Int)) (
 need (rng .i64 (v14 - (2 : Int))) (
 need (inb (v14 - (2 : Int)) (((v8).length : Nat) : Int)) (
 need (rng .i64 (((v8).getD (Int.toNat (v14 - (1 : Int))) (0 : Int)) - ((v8).getD (Int.toNat (v14 - (2 : Int))) (0 : Int)))) (
 brO (decide ((((v8).getD (Int.toNat (v14 - (1 : Int))) (0 : Int)) - ((v8).getD (Int.toNat (v14 - (2 : Int))) (0 : Int))) < (((v8).getD (Int.toNat v14) (0 : Int)) - ((v8).getD (Int.toNat (v14 - (1 : Int))) (0 : Int))))) (
 some (.inr <| .inl <| ())) (
 need (rng .i64 (v14 + (1 : Int))) (
 some (.inl (v2, (v7, (v8, (v10, ((v14 + (1 : Int)), (b0, (y4.1.1, (y4.1.2, ()))))))))))))))))))))) (
 need (rng .i64 (v14 + (1 : Int))) (
 some (.inl (v2, (v7, (v8, (v10, ((v14 + (1 : Int)), (b0, (y4.1.1, (y4.1.2, ())))))))))))) (
 need (rng .i64 (v14 + (1 : Int))) (
 some (.inl (v2, (v7, (v8, (v10, ((v14 + (1 : Int)), (b0, (y4.1.1, (y4.1.2, ()))))))))))))) (
 brO (decide ((1 : Int) < v14)) (
 brO (decide (v14 ≤ v10)) (
 need (inb v14 (((v8).length : Nat) : Int)) (
 need (rng .i64 (v14 - (1 : Int))) (
 need (inb (v14 - (1 : Int)) (((v8).length : Nat) : Int)) (
 need (rng .i64 (((v8).getD (Int.toNat v14) (0 : Int)) - ((v8).getD (Int.toNat (v14 - (1 : Int))) (0 : Int)))) (
 need (rng .i64 (v14 - (1 : Int))) (
 need (inb (v14 - (1 : Int)) (((v8).length : Nat) : Int)) (
 need (rng .i64 (v14 - (2 : Int))) (
 need (inb (v14 - (2 : Int)) (((v8).length : Nat) : Int)) (
 need (rng .i64 (((v8).getD (Int.toNat (v14 - (1 : Int))) (0 : Int)) - ((v8).getD (Int.toNat (v14 - (2 : Int))) (0 : Int)))) (
 brO (decide ((((v8).getD (Int.toNat (v14 - (1 : Int))) (0 : Int)) - ((v8).getD (Int.toNat (v14 - (2 : Int))) (0 : Int))) < (((v8).getD (Int.toNat v14) (0 : Int)) - ((v8).getD (Int.toNat (v14 - (1 : Int))) (0 : Int))))) (
 some (.inr <| .inl <| ())) (
 need (rng .i64 (v14 + (1 : Int))) (
 some (.inl (v2, (v7, (v8, (v10, ((v14 + (1 : Int)), (b0, (y4.1.1, (y4.1.2, ()))))))))))))))))))))) (
 need (rng .i64 (v14 + (1 : Int))) (
 some (.inl (v2, (v7, (v8, (v10, ((v14 + (1 : Int)), (b0, (y4.1.1, (y4.1.2, ())))))))))))) (
 need (rng .i64 (v14 + (1 : Int))) (
 some (.inl (v2, (v7, (v8, (v10, ((v14 + (1 : Int)), (b0, (y4.1.1, (y4.1.2, ()))))))))))))))))))) (
 some (.inr <| .inr <| (v2, (v7, (v8, (b0, ())))))))
noncomputable def L10_1 : LoopS prog 258 none 0 := mkLoop mixed cx10 cx10_ok [] rfl p10_1 x10_1 rfl (b10_1) (fun x => g10_1 x.1 x.2.1 x.2.2.1 x.2.2.2.1 x.2.2.2.2.1 x.2.2.2.2.2.1 x.2.2.2.2.2.2.1 x.2.2.2.2.2.2.2.1) (by intro x; kernel_rfl)
@[reducible] def p10_2 : Pat := Pat.mk [(8, hzL), (24, hzL), (243, hzI), (244, hzI)] [] [] []
@[reducible] def x10_2 : Outs := [(.ret, Pat.mk [(6, .c (.tf false))] [] [] []), (.exit 4, Pat.mk [] [] [] [])]
noncomputable def b10_2 : D prog 258 none 0 := (.seq (.reg [oo 245 (.bin .lss (.t 244) (.t 243))]) (.seq (.cond ( .t 245) .skip (.exit 4)) (.seq (.block 5 (.seq (.reg [om 246 244, om 25 246]) (.seq (.draw [[], [], [0, 1], [0, 1, 2], [], [], [4, 5], [4, 5, 6], [0, 1, 2, 3, 4, 5, 6, 7]] [om 247 24, om 248 25, oo 249 (.idx 1 (.t 247) (.t 248)), ol 250 249, om 251 8, om 252 25, oo 253 (.idx 1 (.t 251) (.t 252)), ol 254 253, oo 255 (.bin .lss (.t 250) (.t 254))]) (.cond ( .t 255) (.seq (.reg [oo 6 (.mv (.c (.tf false)))]) .ret) .skip)))) (.reg [oo 256 (.bin .add (.t 244) (ki 1)), om 244 256]))))
noncomputable def g10_2 (v8 : List Int) (v24 : List Int) (v243 : Int) (v244 : Int) : Option ((List Int × List Int × Int × Int × Unit) ⊕ ((Unit) ⊕ ((Unit)))) :=
 brO (decide (v244 < v243)) (
 need (inb v244 (((v24).length : Nat) : Int)) (
 need (inb v244 (((v8).length : Nat) : Int)) (
 brO (decide (((v24).getD (Int.toNat v244) (0 : Int)) < ((v8).getD (Int.toNat v244) (0 : Int)))) (
 some (.inr <| .inl <| ())) (
 need (rng .i64 (v244 + (1 : Int))) (
 some (.inl (v8, (v24, (v243, ((v244 + (1 : Int)), ())))))))))) (
 some (.inr <| .inr <| ()))
noncomputable def L10_2 : LoopS prog 258 none 0 := mkLoop mixed cx10 cx10_ok [] rfl p10_2 x10_2 rfl (b10_2) (fun x => g10_2 x.1 x.2.1 x.2.2.1 x.2.2.2.1) (by intro x; kernel_rfl)
noncomputable def dd10 : D prog 258 none 0 := (.seq (.reg [oo 4 (.ex (Xop.boxA (.int .u8) 2) [.t 1]), oo 6 (.mv (.c (.tf false)))]) (.seq (.reg [om 26 0, .call (some 27) none (.c (.fn 39 [] [])) [.t 26] [some (.list (.list (.int .u8)))], om 7 27]) (.seq (.reg [om 29 7, .call (some 30) none (.c (.fn 24 [] [])) [.t 29] [some (.list (.list (.int .i64)))], om 28 30, oo 31 (.ext 0 (.t 28)), oo 32 (.ext 1 (.t 28)), om 8 31, om 9 32]) (.seq (.reg [oo 10 (.mv (ki 0))]) (.seq (.seq (.reg [om 33 7, oo 34 (.len (.t 33)), oo 35 (.mv (ki 0))]) (.block 0 (.loop L10_0))) (.seq (.seq (.reg [om 44 9, oo 45 (.bin .neq (.t 44) (ki 0)), om 46 45, og 47 46 false (.mv (.t 8)), og 48 46 false (.len (.t 47)), og 49 46 false (.mv (.t 10)), og 50 46 false (.bin .add (.t 49) (ki 1)), og 51 46 false (.bin .neq (.t 48) (.t 50)), oo 52 (.pick (.t 46) (.c (.tf true)) (.t 51)), om 53 52, og 54 53 false (.mv (.t 8)), og 55 53 false (.idx 1 (.t 54) (ki 0)), og 56 53 false (.load false 1 (.t 55)), og 57 53 false (.bin .neq (.t 56) (ki 0)), oo 58 (.pick (.t 53) (.c (.tf true)) (.t 57))]) (.cond ( .t 58) (.seq (.reg [oo 6 (.mv (.c (.tf false)))]) .ret) .skip)) (.seq (.reg [oo 59 (.build [.int .i64 (Int.ofNat 0), .int .i64 (Int.ofNat 0)] [(0, 1, ki 1000000), (1, 1, ki 1000000)]), oo 13 (.alloc [.int .i64 (Int.ofNat 0), .int .i64 (Int.ofNat 0)]), .op none none (.store 2 (.t 13) (.t 59))]) (.seq (.seq (.reg [oo 14 (.mv (ki 0))]) (.block 2 (.loop L10_1))) (.seq (.seq (.reg [om 162 7, oo 163 (.len (.t 162)), oo 164 (.bin .eql (.t 163) (ki 0))]) (.cond ( .t 164) (.seq (.reg [.call (some 165) none (.c (.fn 16 [] [])) [] [], om 6 165]) .ret) .skip)) (.seq (.reg [oo 166 (.fld 0 [false] (.t 4)), ol 167 166, oo 168 (.conv .i64 (.t 167)), om 169 7, oo 170 (.len (.t 169)), oo 171 (.bin .rem (.t 168) (.t 170)), om 20 171]) (.seq (.seq (.reg [om 172 7, om 173 20, oo 174 (.idx 1 (.t 172) (.t 173)), ol 175 174, oo 176 (.len (.t 175)), oo 177 (.bin .eql (.t 176) (ki 0))]) (.cond ( .t 177) (.seq (.reg [.call (some 178) none (.c (.fn 16 [] [])) [] [], om 6 178]) .ret) .skip)) (.seq (.draw [[], [0], [0, 1], [], [], [3, 4], [3, 4, 5], [3, 4, 5, 6], [0, 1, 2, 3, 4, 5, 6, 7], [0, 1, 2, 3, 4, 5, 6, 7, 8]] [oo 179 (.fld 1 [true] (.t 4)), ol 180 179, oo 181 (.conv .i64 (.t 180)), om 182 7, om 183 20, oo 184 (.idx 1 (.t 182) (.t 183)), ol 185 184, oo 186 (.len (.t 185)), oo 187 (.bin .rem (.t 181) (.t 186)), om 21 187]) (.seq (.reg [oo 188 (.bslice (.list (.int .i64)) []), om 189 7, oo 190 (.append 1 (.t 188) (.t 189)), om 22 190]) (.seq (.reg [om 191 22, om 192 20, oo 193 (.bslice (.int .i64) []), om 194 7, om 195 20, oo 196 (.idx 1 (.t 194) (.t 195)), ol 197 196, oo 198 (.append 1 (.t 193) (.t 197)), oo 199 (.idx 1 (.t 191) (.t 192)), .op none none (.store 1 (.t 199) (.t 198))]) (.seq (.reg [oo 23 (.mv (ki 400))]) (.seq (.seq (.reg [om 200 21, oo 201 (.bin .gtr (.t 200) (ki 0))]) (.cond ( .t 201) (.reg [om 202 7, om 203 20, oo 204 (.idx 1 (.t 202) (.t 203)), ol 205 204, om 206 21, oo 207 (.bin .sub (.t 206) (ki 1)), oo 208 (.idx 1 (.t 205) (.t 207)), ol 209 208, om 23 209]) .skip)) (.seq (.draw [[], [], [0, 1], [0, 1, 2], [], [], [], [], [6, 7], [6, 7, 8], [], [6, 7, 8, 9, 10], [6, 7, 8, 9, 10, 11], [], [13], [6, 7, 8, 9, 10, 11, 12, 13, 14], [5, 6, 7, 8, 9, 10, 11, 12, 13, 14, 15], [0, 1, 2, 3, 4, 5, 6, 7, 8, 9, 10, 11, 12, 13, 14, 15, 16], [0, 1, 2, 3, 4, 5, 6, 7, 8, 9, 10, 11, 12, 13, 14, 15, 16, 17]] [om 210 22, om 211 20, oo 212 (.idx 1 (.t 210) (.t 211)), ol 213 212, om 214 21, om 215 23, om 216 7, om 217 20, oo 218 (.idx 1 (.t 216) (.t 217)), ol 219 218, om 220 21, oo 221 (.idx 1 (.t 219) (.t 220)), ol 222 221, om 223 2, oo 224 (.conv .i64 (.t 223)), oo 225 (.bin .add (.t 222) (.t 224)), oo 226 (.minmax false (.t 215) [.t 225]), oo 227 (.idx 1 (.t 213) (.t 214)), .op none none (.store 1 (.t 227) (.t 226))]) (.seq (.reg [om 229 22, .call (some 230) none (.c (.fn 24 [] [])) [.t 229] [some (.list (.list (.int .i64)))], om 228 230, oo 231 (.ext 0 (.t 228)), oo 232 (.ext 1 (.t 228)), om 24 231, om 9 232]) (.seq (.seq (.reg [om 233 9, oo 234 (.bin .neq (.t 233) (ki 0)), om 235 234, og 236 235 false (.mv (.t 24)), og 237 235 false (.len (.t 236)), og 238 235 false (.mv (.t 8)), og 239 235 false (.len (.t 238)), og 240 235 false (.bin .neq (.t 237) (.t 239)), oo 241 (.pick (.t 235) (.c (.tf true)) (.t 240))]) (.cond ( .t 241) (.seq (.reg [oo 6 (.mv (.c (.tf false)))]) .ret) .skip)) (.seq (.seq (.reg [om 242 8, oo 243 (.len (.t 242)), oo 244 (.mv (ki 0))]) (.block 4 (.loop L10_2))) (.seq (.reg [.call (some 257) none (.c (.fn 16 [] [])) [] [], om 6 257]) .ret)))))))))))))))))))))
noncomputable def F10 (a0 : List (List Int)) (a1 : Int × Int) (a2 : Int) : Option (Bool × Unit) :=
 bindO (F39 a0) fun y0 =>
 bindO (F24 y0.1) fun y1 =>
 bindO (iter (fun x => g10_0 x.1 x.2.1 x.2.2.1 x.2.2.2.1 x.2.2.2.2.1 x.2.2.2.2.2.1 x.2.2.2.2.2.2.1 x.2.2.2.2.2.2.2.1 x.2.2.2.2.2.2.2.2.1) (a2, (y0.1, (y1.1, (y1.2.1, ((0 : Int), (y0.1, ((((y0.1).length : Nat) : Int), ((0 : Int), ((a1.1 :: (a1.2 :: [])), ())))))))))) fun z2 =>
 brO (!(z2.2.2.2.1 == (0 : Int))) (
 some (false, ())) (
 need (rng .i64 (z2.2.2.2.2.1 + (1 : Int))) (
 brO (!((((z2.2.2.1).length : Nat) : Int) == (z2.2.2.2.2.1 + (1 : Int)))) (
 some (false, ())) (
 need (inb (0 : Int) (((z2.2.2.1).length : Nat) : Int)) (
 brO (!(((z2.2.2.1).getD (Int.toNat (0 : Int)) (0 : Int)) == (0 : Int))) (
 some (false, ())) (
 bindO (iter (fun x => g10_1 x.1 x.2.1 x.2.2.1 x.2.2.2.1 x.2.2.2.2.1 x.2.2.2.2.2.1 x.2.2.2.2.2.2.1 x.2.2.2.2.2.2.2.1) (z2.1, (z2.2.1, (z2.2.2.1, (z2.2.2.2.2.1, ((0 : Int), (z2.2.2.2.2.2.1, ((1000000 : Int), ((1000000 : Int), ()))))))))) fun z5 =>
 match z5 with
 | .inl z6 =>
 some (false, ())
 | .inr z7 =>
 brO ((((z7.2.1).length : Nat) : Int) == (0 : Int)) (
 bindO (F16) fun y8 =>
 some (y8.1, ())) (
 need (decide ((0 : Nat) < (z7.2.2.2.1).length)) (
 need (rng .i64 ((z7.2.2.2.1).getD (0 : Nat) (0 : Int))) (
 need (!((((z7.2.1).length : Nat) : Int) == (0 : Int))) (
 need (inb (Int.tmod ((z7.2.2.2.1).getD (0 : Nat) (0 : Int)) (((z7.2.1).length : Nat) : Int)) (((z7.2.1).length : Nat) : Int)) (
 brO ((((((z7.2.1).getD (Int.toNat (Int.tmod ((z7.2.2.2.1).getD (0 : Nat) (0 : Int)) (((z7.2.1).length : Nat) : Int))) [])).length : Nat) : Int) == (0 : Int)) (
 bindO (F16) fun y9 =>
 some (y9.1, ())) (
 need (decide ((1 : Nat) < (z7.2.2.2.1).length)) (
 need (rng .i64 ((z7.2.2.2.1).getD (1 : Nat) (0 : Int))) (
 need (inb (Int.tmod ((z7.2.2.2.1).getD (0 : Nat) (0 : Int)) (((z7.2.1).length : Nat) : Int)) (((z7.2.1).length : Nat) : Int)) (
 need (!((((((z7.2.1).getD (Int.toNat (Int.tmod ((z7.2.2.2.1).getD (0 : Nat) (0 : Int)) (((z7.2.1).length : Nat) : Int))) [])).length : Nat) : Int) == (0 : Int))) (
 need (decide (((0 : Nat) + (z7.2.1).length) < bigL)) (
 need (inb (Int.tmod ((z7.2.2.2.1).getD (0 : Nat) (0 : Int)) (((z7.2.1).length : Nat) : Int)) (((z7.2.1).length : Nat) : Int)) (
 need (decide (((0 : Nat) + (((z7.2.1).getD (Int.toNat (Int.tmod ((z7.2.2.2.1).getD (0 : Nat) (0 : Int)) (((z7.2.1).length : Nat) : Int))) [])).length) < bigL)) (
 need (inb (Int.tmod ((z7.2.2.2.1).getD (0 : Nat) (0 : Int)) (((z7.2.1).length : Nat) : Int)) ((((0 : Nat) + (z7.2.1).length) : Nat) : Int)) (
 need (decide (((0 : Nat) + (Int.toNat (Int.tmod ((z7.2.2.2.1).getD (0 : Nat) (0 : Int)) (((z7.2.1).length : Nat) : Int)))) < ((((([]).drop (0 : Nat)).take (0 : Nat)) ++ z7.2.1)).length)) (
 brO (decide ((0 : Int) < (Int.tmod ((z7.2.2.2.1).getD (1 : Nat) (0 : Int)) (((((z7.2.1).getD (Int.toNat (Int.tmod ((z7.2.2.2.1).getD (0 : Nat) (0 : Int)) (((z7.2.1).length : Nat) : Int))) [])).length : Nat) : Int)))) (
 need (inb (Int.tmod ((z7.2.2.2.1).getD (0 : Nat) (0 : Int)) (((z7.2.1).length : Nat) : Int)) (((z7.2.1).length : Nat) : Int)) (
 need (rng .i64 ((Int.tmod ((z7.2.2.2.1).getD (1 : Nat) (0 : Int)) (((((z7.2.1).getD (Int.toNat (Int.tmod ((z7.2.2.2.1).getD (0 : Nat) (0 : Int)) (((z7.2.1).length : Nat) : Int))) [])).length : Nat) : Int)) - (1 : Int))) (
 need (inb ((Int.tmod ((z7.2.2.2.1).getD (1 : Nat) (0 : Int)) (((((z7.2.1).getD (Int.toNat (Int.tmod ((z7.2.2.2.1).getD (0 : Nat) (0 : Int)) (((z7.2.1).length : Nat) : Int))) [])).length : Nat) : Int)) - (1 : Int)) (((((z7.2.1).getD (Int.toNat (Int.tmod ((z7.2.2.2.1).getD (0 : Nat) (0 : Int)) (((z7.2.1).length : Nat) : Int))) [])).length : Nat) : Int)) (
 need (inb (Int.tmod ((z7.2.2.2.1).getD (0 : Nat) (0 : Int)) (((z7.2.1).length : Nat) : Int)) ((((0 : Nat) + (z7.2.1).length) : Nat) : Int)) (
 need (((((0 : Nat) + (Int.toNat (Int.tmod ((z7.2.2.2.1).getD (0 : Nat) (0 : Int)) (((z7.2.1).length : Nat) : Int)))) : Nat) : Int) == ((((0 : Nat) + (Int.toNat (Int.tmod ((z7.2.2.2.1).getD (0 : Nat) (0 : Int)) (((z7.2.1).length : Nat) : Int)))) : Nat) : Int)) (
 need (inb (Int.tmod ((z7.2.2.2.1).getD (0 : Nat) (0 : Int)) (((z7.2.1).length : Nat) : Int)) (((z7.2.1).length : Nat) : Int)) (
 need (inb (Int.tmod ((z7.2.2.2.1).getD (1 : Nat) (0 : Int)) (((((z7.2.1).getD (Int.toNat (Int.tmod ((z7.2.2.2.1).getD (0 : Nat) (0 : Int)) (((z7.2.1).length : Nat) : Int))) [])).length : Nat) : Int)) (((((z7.2.1).getD (Int.toNat (Int.tmod ((z7.2.2.2.1).getD (0 : Nat) (0 : Int)) (((z7.2.1).length : Nat) : Int))) [])).length : Nat) : Int)) (
 need (rng .i64 z7.1) (
 need (rng .i64 (((((z7.2.1).getD (Int.toNat (Int.tmod ((z7.2.2.2.1).getD (0 : Nat) (0 : Int)) (((z7.2.1).length : Nat) : Int))) [])).getD (Int.toNat (Int.tmod ((z7.2.2.2.1).getD (1 : Nat) (0 : Int)) (((((z7.2.1).getD (Int.toNat (Int.tmod ((z7.2.2.2.1).getD (0 : Nat) (0 : Int)) (((z7.2.1).length : Nat) : Int))) [])).length : Nat) : Int))) (0 : Int)) + z7.1)) (
 need (inb (Int.tmod ((z7.2.2.2.1).getD (1 : Nat) (0 : Int)) (((((z7.2.1).getD (Int.toNat (Int.tmod ((z7.2.2.2.1).getD (0 : Nat) (0 : Int)) (((z7.2.1).length : Nat) : Int))) [])).length : Nat) : Int)) ((((0 : Nat) + (((z7.2.1).getD (Int.toNat (Int.tmod ((z7.2.2.2.1).getD (0 : Nat) (0 : Int)) (((z7.2.1).length : Nat) : Int))) [])).length) : Nat) : Int)) (
 need (decide (((0 : Nat) + (Int.toNat (Int.tmod ((z7.2.2.2.1).getD (1 : Nat) (0 : Int)) (((((z7.2.1).getD (Int.toNat (Int.tmod ((z7.2.2.2.1).getD (0 : Nat) (0 : Int)) (((z7.2.1).length : Nat) : Int))) [])).length : Nat) : Int)))) < ((((([]).drop (0 : Nat)).take (0 : Nat)) ++ ((z7.2.1).getD (Int.toNat (Int.tmod ((z7.2.2.2.1).getD (0 : Nat) (0 : Int)) (((z7.2.1).length : Nat) : Int))) []))).length)) (
 bindO (F24 ((((((((((([]).drop (0 : Nat)).take (0 : Nat)) ++ z7.2.1)).set ((0 : Nat) + (Int.toNat (Int.tmod ((z7.2.2.2.1).getD (0 : Nat) (0 : Int)) (((z7.2.1).length : Nat) : Int)))) [])).set ((0 : Nat) + (Int.toNat (Int.tmod ((z7.2.2.2.1).getD (0 : Nat) (0 : Int)) (((z7.2.1).length : Nat) : Int)))) ((((((((([]).drop (0 : Nat)).take (0 : Nat)) ++ ((z7.2.1).getD (Int.toNat (Int.tmod ((z7.2.2.2.1).getD (0 : Nat) (0 : Int)) (((z7.2.1).length : Nat) : Int))) []))).set ((0 : Nat) + (Int.toNat (Int.tmod ((z7.2.2.2.1).getD (1 : Nat) (0 : Int)) (((((z7.2.1).getD (Int.toNat (Int.tmod ((z7.2.2.2.1).getD (0 : Nat) (0 : Int)) (((z7.2.1).length : Nat) : Int))) [])).length : Nat) : Int)))) (imin ((((z7.2.1).getD (Int.toNat (Int.tmod ((z7.2.2.2.1).getD (0 : Nat) (0 : Int)) (((z7.2.1).length : Nat) : Int))) [])).getD (Int.toNat ((Int.tmod ((z7.2.2.2.1).getD (1 : Nat) (0 : Int)) (((((z7.2.1).getD (Int.toNat (Int.tmod ((z7.2.2.2.1).getD (0 : Nat) (0 : Int)) (((z7.2.1).length : Nat) : Int))) [])).length : Nat) : Int)) - (1 : Int))) (0 : Int)) (((((z7.2.1).getD (Int.toNat (Int.tmod ((z7.2.2.2.1).getD (0 : Nat) (0 : Int)) (((z7.2.1).length : Nat) : Int))) [])).getD (Int.toNat (Int.tmod ((z7.2.2.2.1).getD (1 : Nat) (0 : Int)) (((((z7.2.1).getD (Int.toNat (Int.tmod ((z7.2.2.2.1).getD (0 : Nat) (0 : Int)) (((z7.2.1).length : Nat) : Int))) [])).length : Nat) : Int))) (0 : Int)) + z7.1)))).drop (0 : Nat)).take ((0 : Nat) + (((z7.2.1).getD (Int.toNat (Int.tmod ((z7.2.2.2.1).getD (0 : Nat) (0 : Int)) (((z7.2.1).length : Nat) : Int))) [])).length)))).drop (0 : Nat)).take ((0 : Nat) + (z7.2.1).length))) fun y10 =>
 brO (!(y10.2.1 == (0 : Int))) (
 some (false, ())) (
 brO (!((((y10.1).length : Nat) : Int) == (((z7.2.2.1).length : Nat) : Int))) (
 some (false, ())) (
 bindO (iter (fun x => g10_2 x.1 x.2.1 x.2.2.1 x.2.2.2.1) (z7.2.2.1, (y10.1, ((((z7.2.2.1).length : Nat) : Int), ((0 : Int), ()))))) fun z11 =>
 match z11 with
 | .inl z12 =>
 some (false, ())
 | .inr z13 =>
 bindO (F16) fun y14 =>
 some (y14.1, ()))))))))))))))) (
 need (inb (Int.tmod ((z7.2.2.2.1).getD (0 : Nat) (0 : Int)) (((z7.2.1).length : Nat) : Int)) ((((0 : Nat) + (z7.2.1).length) : Nat) : Int)) (
 need (((((0 : Nat) + (Int.toNat (Int.tmod ((z7.2.2.2.1).getD (0 : Nat) (0 : Int)) (((z7.2.1).length : Nat) : Int)))) : Nat) : Int) == ((((0 : Nat) + (Int.toNat (Int.tmod ((z7.2.2.2.1).getD (0 : Nat) (0 : Int)) (((z7.2.1).length : Nat) : Int)))) : Nat) : Int)) (
 need (inb (Int.tmod ((z7.2.2.2.1).getD (0 : Nat) (0 : Int)) (((z7.2.1).length : Nat) : Int)) (((z7.2.1).length : Nat) : Int)) (
 need (inb (Int.tmod ((z7.2.2.2.1).getD (1 : Nat) (0 : Int)) (((((z7.2.1).getD (Int.toNat (Int.tmod ((z7.2.2.2.1).getD (0 : Nat) (0 : Int)) (((z7.2.1).length : Nat) : Int))) [])).length : Nat) : Int)) (((((z7.2.1).getD (Int.toNat (Int.tmod ((z7.2.2.2.1).getD (0 : Nat) (0 : Int)) (((z7.2.1).length : Nat) : Int))) [])).length : Nat) : Int)) (
 need (rng .i64 z7.1) (
 need (rng .i64 (((((z7.2.1).getD (Int.toNat (Int.tmod ((z7.2.2.2.1).getD (0 : Nat) (0 : Int)) (((z7.2.1).length : Nat) : Int))) [])).getD (Int.toNat (Int.tmod ((z7.2.2.2.1).getD (1 : Nat) (0 : Int)) (((((z7.2.1).getD (Int.toNat (Int.tmod ((z7.2.2.2.1).getD (0 : Nat) (0 : Int)) (((z7.2.1).length : Nat) : Int))) [])).length : Nat) : Int))) (0 : Int)) + z7.1)) (
 need (inb (Int.tmod ((z7.2.2.2.1).getD (1 : Nat) (0 : Int)) (((((z7.2.1).getD (Int.toNat (Int.tmod ((z7.2.2.2.1).getD (0 : Nat) (0 : Int)) (((z7.2.1).length : Nat) : Int))) [])).length : Nat) : Int)) ((((0 : Nat) + (((z7.2.1).getD (Int.toNat (Int.tmod ((z7.2.2.2.1).getD (0 : Nat) (0 : Int)) (((z7.2.1).length : Nat) : Int))) [])).length) : Nat) : Int)) (
 need (decide (((0 : Nat) + (Int.toNat (Int.tmod ((z7.2.2.2.1).getD (1 : Nat) (0 : Int)) (((((z7.2.1).getD (Int.toNat (Int.tmod ((z7.2.2.2.1).getD (0 : Nat) (0 : Int)) (((z7.2.1).length : Nat) : Int))) [])).length : Nat) : Int)))) < ((((([]).drop (0 : Nat)).take (0 : Nat)) ++ ((z7.2.1).getD (Int.toNat (Int.tmod ((z7.2.2.2.1).getD (0 : Nat) (0 : Int)) (((z7.2.1).length : Nat) : Int))) []))).length)) (
 bindO (F24 ((((((((((([]).drop (0 : Nat)).take (0 : Nat)) ++ z7.2.1)).set ((0 : Nat) + (Int.toNat (Int.tmod ((z7.2.2.2.1).getD (0 : Nat) (0 : Int)) (((z7.2.1).length : Nat) : Int)))) [])).set ((0 : Nat) + (Int.toNat (Int.tmod ((z7.2.2.2.1).getD (0 : Nat) (0 : Int)) (((z7.2.1).length : Nat) : Int)))) ((((((((([]).drop (0 : Nat)).take (0 : Nat)) ++ ((z7.2.1).getD (Int.toNat (Int.tmod ((z7.2.2.2.1).getD (0 : Nat) (0 : Int)) (((z7.2.1).length : Nat) : Int))) []))).set ((0 : Nat) + (Int.toNat (Int.tmod ((z7.2.2.2.1).getD (1 : Nat) (0 : Int)) (((((z7.2.1).getD (Int.toNat (Int.tmod ((z7.2.2.2.1).getD (0 : Nat) (0 : Int)) (((z7.2.1).length : Nat) : Int))) [])).length : Nat) : Int)))) (imin (400 : Int) (((((z7.2.1).getD (Int.toNat (Int.tmod ((z7.2.2.2.1).getD (0 : Nat) (0 : Int)) (((z7.2.1).length : Nat) : Int))) [])).getD (Int.toNat (Int.tmod ((z7.2.2.2.1).getD (1 : Nat) (0 : Int)) (((((z7.2.1).getD (Int.toNat (Int.tmod ((z7.2.2.2.1).getD (0 : Nat) (0 : Int)) (((z7.2.1).length : Nat) : Int))) [])).length : Nat) : Int))) (0 : Int)) + z7.1)))).drop (0 : Nat)).take ((0 : Nat) + (((z7.2.1).getD (Int.toNat (Int.tmod ((z7.2.2.2.1).getD (0 : Nat) (0 : Int)) (((z7.2.1).length : Nat) : Int))) [])).length)))).drop (0 : Nat)).take ((0 : Nat) + (z7.2.1).length))) fun y15 =>
 brO (!(y15.2.1 == (0 : Int))) (
 some (false, ())) (
 brO (!((((y15.1).length : Nat) : Int) == (((z7.2.2.1).length : Nat) : Int))) (
 some (false, ())) (
 bindO (iter (fun x => g10_2 x.1 x.2.1 x.2.2.1 x.2.2.2.1) (z7.2.2.1, (y15.1, ((((z7.2.2.1).length : Nat) : Int), ((0 : Int), ()))))) fun z16 =>
 match z16 with
 | .inl z17 =>
 some (false, ())
 | .inr z18 =>
 bindO (F16) fun y19 =>
 some (y19.1, ()))))))))))))))))))))))))))))))))
theorem c10_ok : trF prog f10 = some ⟨258, 3, dd10.er, [.t 6], [some .bool]⟩ := by kernel_rfl
noncomputable def ct10 : Ct := ⟨10, [.c (.hole (.list (.list (.int .u8)))), .c (.hole (.prod (.int .u8) (.int .u8))), .c (.hole (.int .u8))], .c (.hole .bool), fun x => F10 x.1 x.2.1 x.2.2.1⟩
theorem ct10_ok : ct10.Ok prog := ct_ok mixed cx10_ok func10 c10_ok (enters_of func10 rfl rfl) dd10 rfl rfl (fun x => by kernel_rfl)

end Go.Proofs.Try

