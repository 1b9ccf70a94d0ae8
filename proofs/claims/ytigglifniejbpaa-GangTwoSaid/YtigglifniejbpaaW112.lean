/- Functions of the program as functions of data, part 3; printed by a program of mine. -/
import Derived.Test.YtigglifniejbpaaW111
import Derived.Test.YtigglifniejbpaaProg
set_option linter.unusedVariables false
set_option linter.unusedSimpArgs false
open Go.AM
namespace Go.Proofs.Try
set_option maxRecDepth 100000


/- 31 -/
noncomputable def cx31 : Cx := mkCxH [ct27] []
theorem cx31_ok : cx31.Ok prog := mkCxH_ok ⟨ct27_ok, trivial⟩ trivial
noncomputable def dd31 : D prog 29 none 0 := (.seq (.reg [.op (some 8) none (.mv (.c (.int .i64 (Int.ofNat 0))))]) (.seq (.reg [.op (some 12) none (.mv (.t 0)), .op (some 13) none (.mv (.t 1)), .op (some 14) none (.mv (.t 2)), .call (some 15) none (.c (.fn 27 [] [])) [.t 12, .t 13, .t 14] [some (.list (.list (.int .i64))), some (.int .i64), some (.int .i64)], .op (some 11) none (.mv (.t 15)), .op (some 16) none (.ext 0 (.t 11)), .op (some 17) none (.ext 1 (.t 11)), .op (some 9) none (.mv (.t 16)), .op (some 10) none (.mv (.t 17))]) (.seq (.block 0 (.seq (.reg [.op (some 19) none (.mv (.t 10)), .op (some 20) none (.bin .neq (.t 19) (.c (.int .i64 (Int.ofNat 0)))), .op (some 18) none (.mv (.t 20))]) (.cond ( .t 18) (.seq (.reg [.op (some 21) none (.mv (.t 10)), .op (some 8) none (.mv (.t 21))]) .ret) (.seq (.reg [.op (some 23) none (.mv (.t 3)), .op (some 24) none (.bin .lss (.t 23) (.c (.int .i64 (Int.ofNat 0)))), .op (some 22) none (.mv (.t 24))]) (.cond ( .t 22) (.seq (.reg [.op (some 8) none (.mv (.c (.int .i64 (Int.ofNat 2))))]) .ret) (.seq (.reg [.op (some 26) none (.mv (.t 9)), .op (some 27) none (.mv (.t 3)), .op (some 28) none (.bin .gtr (.t 26) (.t 27)), .op (some 25) none (.mv (.t 28))]) (.cond ( .t 25) (.seq (.reg [.op (some 8) none (.mv (.c (.int .i64 (Int.ofNat 11))))]) .ret) .skip))))))) (.seq (.reg [.op (some 8) none (.mv (.c (.int .i64 (Int.ofNat 0))))]) .ret))))
noncomputable def F31 (a0 : List (List Int)) (a1 : Int) (a2 : Int) (a3 : Int) : Option (Int × Unit) :=
 bindO (F27 a0 a1 a2) fun y0 =>
 brO (!(y0.2.1 == (0 : Int))) (
 some (y0.2.1, ())) (
 brO (decide (a3 < (0 : Int))) (
 some ((2 : Int), ())) (
 brO (decide (a3 < y0.1)) (
 some ((11 : Int), ())) (
 some ((0 : Int), ()))))
def CF31 (a0 : List (List Int)) (a1 : Int) (a2 : Int) (a3 : Int) : Option (Int × Unit) :=
 bindC (CF27 a0 a1 a2) fun y0 =>
 brC (!(y0.2.1 == (0 : Int))) (
 some (y0.2.1, ())) (
 brC (decide (a3 < (0 : Int))) (
 some ((2 : Int), ())) (
 brC (decide (a3 < y0.1)) (
 some ((11 : Int), ())) (
 some ((0 : Int), ()))))
theorem CF31_le (a0 : List (List Int)) (a1 : Int) (a2 : Int) (a3 : Int) : Le (CF31 a0 a1 a2 a3) (F31 a0 a1 a2 a3) := (Le.bd (CF27_le ..) fun y0 => (Le.br Le.r (Le.br Le.r (Le.br Le.r Le.r))))
theorem c31_ok : trF prog f31 = some ⟨29, 4, dd31.er, [.t 8], [some (.int .i64)]⟩ := by kernel_rfl
noncomputable def ct31 : Ct := ⟨31, [.c (.hole (.list (.list (.int .i64)))), .c (.hole (.int .i64)), .c (.hole (.int .i64)), .c (.hole (.int .i64))], .c (.hole (.int .i64)), fun x => F31 x.1 x.2.1 x.2.2.1 x.2.2.2.1⟩
theorem ct31_ok : ct31.Ok prog := ct_ok mixed cx31_ok func31 c31_ok (enters_of func31 rfl rfl) dd31 rfl rfl (fun x => by kernel_rfl)

/- 16 -/
noncomputable def cx16 : Cx := mkCxH [ct46, ct22, ct18, ct24, ct29, ct27, ct26, ct33, ct47, ct35, ct38, ct31] []
theorem cx16_ok : cx16.Ok prog := mkCxH_ok ⟨ct46_ok, ct22_ok, ct18_ok, ct24_ok, ct29_ok, ct27_ok, ct26_ok, ct33_ok, ct47_ok, ct35_ok, ct38_ok, ct31_ok, trivial⟩ trivial
noncomputable def dd16 : D prog 158 none 0 := (.seq (.reg [.op (some 0) none (.mv (.c (.tf false)))]) (.seq (.reg [.call (some 19) none (.c (.fn 46 [] [])) [] [], .call (some 20) none (.c (.fn 22 [] [])) [.t 19, .c (.int .i64 (Int.ofNat 4))] [some (.list (.list (.int .i64))), some (.int .i64)], .op (some 18) none (.mv (.t 20)), .op (some 21) none (.ext 0 (.t 18)), .op (some 22) none (.ext 1 (.t 18)), .op (some 23) none (.ext 2 (.t 18)), .op (some 1) none (.mv (.t 21)), .op (some 2) none (.mv (.t 22)), .op (some 3) none (.mv (.t 23))]) (.seq (.reg [.call (some 25) none (.c (.fn 46 [] [])) [] [], .op (some 26) none (.mv (.t 1)), .call (some 27) none (.c (.fn 18 [] [])) [.t 25, .t 26] [some (.list (.list (.int .i64))), some (.list (.int .i64))], .op (some 24) none (.mv (.t 27)), .op (some 28) none (.ext 0 (.t 24)), .op (some 29) none (.ext 1 (.t 24)), .op (some 30) none (.ext 2 (.t 24)), .op (some 4) none (.mv (.t 28)), .op (some 5) none (.mv (.t 29)), .op (some 6) none (.mv (.t 30))]) (.seq (.reg [.call (some 32) none (.c (.fn 46 [] [])) [] [], .call (some 33) none (.c (.fn 24 [] [])) [.t 32] [some (.list (.list (.int .i64)))], .op (some 31) none (.mv (.t 33)), .op (some 34) none (.ext 0 (.t 31)), .op (some 35) none (.ext 1 (.t 31)), .op (some 7) none (.mv (.t 34)), .op (some 8) none (.mv (.t 35))]) (.seq (.reg [.call (some 37) none (.c (.fn 46 [] [])) [] [], .call (some 38) none (.c (.fn 29 [] [])) [.t 37, .c (.int .i64 (Int.ofNat 3))] [some (.list (.list (.int .i64))), some (.int .i64)], .op (some 36) none (.mv (.t 38)), .op (some 39) none (.ext 0 (.t 36)), .op (some 40) none (.ext 1 (.t 36)), .op (some 9) none (.alloc [.int .i64 (Int.ofNat 0), .int .i64 (Int.ofNat 0)]), .op none none (.store 2 (.t 9) (.t 39)), .op (some 10) none (.mv (.t 40))]) (.seq (.reg [.call (some 42) none (.c (.fn 46 [] [])) [] [], .call (some 43) none (.c (.fn 27 [] [])) [.t 42, .c (.int .i64 (Int.ofNat 4)), .c (.int .i64 (Int.ofNat 7))] [some (.list (.list (.int .i64))), some (.int .i64), some (.int .i64)], .op (some 41) none (.mv (.t 43)), .op (some 44) none (.ext 0 (.t 41)), .op (some 45) none (.ext 1 (.t 41)), .op (some 11) none (.mv (.t 44)), .op (some 12) none (.mv (.t 45))]) (.seq (.seq (.reg [.op (some 46) none (.mv (.t 3)), .op (some 47) none (.bin .neq (.t 46) (.c (.int .i64 (Int.ofNat 0)))), .op (some 48) none (.mv (.t 47)), .op (some 49) (some (48, false)) (.mv (.t 6)), .op (some 50) (some (48, false)) (.bin .neq (.t 49) (.c (.int .i64 (Int.ofNat 0)))), .op (some 51) none (.pick (.t 48) (.c (.tf true)) (.t 50)), .op (some 52) none (.mv (.t 51)), .op (some 53) (some (52, false)) (.mv (.t 8)), .op (some 54) (some (52, false)) (.bin .neq (.t 53) (.c (.int .i64 (Int.ofNat 0)))), .op (some 55) none (.pick (.t 52) (.c (.tf true)) (.t 54)), .op (some 56) none (.mv (.t 55)), .op (some 57) (some (56, false)) (.mv (.t 10)), .op (some 58) (some (56, false)) (.bin .neq (.t 57) (.c (.int .i64 (Int.ofNat 0)))), .op (some 59) none (.pick (.t 56) (.c (.tf true)) (.t 58)), .op (some 60) none (.mv (.t 59)), .op (some 61) (some (60, false)) (.mv (.t 12)), .op (some 62) (some (60, false)) (.bin .neq (.t 61) (.c (.int .i64 (Int.ofNat 0)))), .op (some 63) none (.pick (.t 60) (.c (.tf true)) (.t 62)), .op (some 64) none (.mv (.t 63)), .op (some 65) (some (64, false)) (.mv (.t 2)), .op (some 66) (some (64, false)) (.bin .neq (.t 65) (.c (.int .i64 (Int.ofNat 29)))), .op (some 67) none (.pick (.t 64) (.c (.tf true)) (.t 66)), .op (some 68) none (.mv (.t 67)), .op (some 69) (some (68, false)) (.mv (.t 5)), .op (some 70) (some (68, false)) (.bin .neq (.t 69) (.c (.int .i64 (Int.ofNat 29)))), .op (some 71) none (.pick (.t 68) (.c (.tf true)) (.t 70)), .op (some 72) none (.mv (.t 71)), .op (some 73) (some (72, false)) (.mv (.t 4)), .op (some 74) (some (72, false)) (.bin .gtr (.t 73) (.c (.int .i64 (Int.ofNat 4)))), .op (some 75) none (.pick (.t 72) (.c (.tf true)) (.t 74)), .op (some 76) none (.mv (.t 75)), .op (some 77) (some (76, false)) (.mv (.t 7)), .op (some 78) (some (76, false)) (.bslice (.int .i64) [.c (.int .i64 (Int.ofNat 0)), .c (.int .i64 (Int.ofNat 9)), .c (.int .i64 (Int.ofNat 17)), .c (.int .i64 (Int.ofNat 24)), .c (.int .i64 (Int.ofNat 29)), .c (.int .i64 (Int.ofNat 34)), .c (.int .i64 (Int.ofNat 39)), .c (.int .i64 (Int.ofNat 42)), .c (.int .i64 (Int.ofNat 44))]), .call (some 79) (some (76, false)) (.c (.fn 26 [] [])) [.t 77, .t 78] [some (.list (.int .i64)), some (.list (.int .i64))], .op (some 80) (some (76, false)) (.not (.t 79)), .op (some 81) none (.pick (.t 76) (.c (.tf true)) (.t 80)), .op (some 82) none (.mv (.t 81)), .op (some 83) (some (82, false)) (.load true 2 (.t 9)), .op (some 84) (some (82, false)) (.build [.int .i64 (Int.ofNat 0), .int .i64 (Int.ofNat 0)] [(0, 1, .c (.int .i64 (Int.ofNat 5))), (1, 1, .c (.int .i64 (Int.ofNat 7)))]), .op (some 85) (some (82, false)) (.eqs true [.i, .i] (.t 83) (.t 84)), .op (some 86) none (.pick (.t 82) (.c (.tf true)) (.t 85)), .op (some 87) none (.mv (.t 86)), .op (some 88) (some (87, false)) (.mv (.t 11)), .op (some 89) (some (87, false)) (.bin .neq (.t 88) (.c (.int .i64 (Int.ofNat 31)))), .op (some 90) none (.pick (.t 87) (.c (.tf true)) (.t 89))]) (.cond ( .t 90) (.seq (.reg [.op (some 0) none (.mv (.c (.tf false)))]) .ret) .skip)) (.seq (.reg [.call (some 92) none (.c (.fn 46 [] [])) [] [], .op (some 93) none (.bslice (.int .i64) [.c (.int .i64 (Int.ofNat 3)), .c (.int .i64 (Int.ofNat 0)), .c (.int .i64 (Int.ofNat 1))]), .call (some 94) none (.c (.fn 33 [] [])) [.t 92, .c (.int .i64 (Int.ofNat 4)), .t 93] [some (.list (.list (.int .i64))), some (.int .i64), some (.list (.int .i64))], .op (some 91) none (.mv (.t 94)), .op (some 95) none (.ext 0 (.t 91)), .op (some 96) none (.ext 1 (.t 91)), .op (some 97) none (.ext 2 (.t 91)), .op (some 98) none (.ext 3 (.t 91)), .op (some 13) none (.mv (.t 95)), .op (some 14) none (.mv (.t 96)), .op (some 15) none (.mv (.t 97)), .op (some 3) none (.mv (.t 98))]) (.seq (.reg [.call (some 100) none (.c (.fn 46 [] [])) [] [], .op (some 101) none (.bslice (.int .i64) [.c (.int .i64 (Int.ofNat 2)), .c (.int .i64 (Int.ofNat 1)), .c (.int .i64 (Int.ofNat 1))]), .call (some 102) none (.c (.fn 33 [] [])) [.t 100, .c (.int .i64 (Int.ofNat 4)), .t 101] [some (.list (.list (.int .i64))), some (.int .i64), some (.list (.int .i64))], .op (some 99) none (.mv (.t 102)), .op (some 103) none (.ext 0 (.t 99)), .op (some 104) none (.ext 1 (.t 99)), .op (some 105) none (.ext 2 (.t 99)), .op (some 106) none (.ext 3 (.t 99)), .op (some 6) none (.mv (.t 106))]) (.seq (.reg [.call (some 108) none (.c (.fn 47 [] [])) [] [], .call (some 109) none (.c (.fn 35 [] [])) [.t 108, .c (.int .i64 (Int.ofNat 2))] [some (.list (.list (.prod (.int .i64) (.int .i64)))), some (.int .i64)], .op (some 107) none (.mv (.t 109)), .op (some 110) none (.ext 0 (.t 107)), .op (some 111) none (.ext 1 (.t 107)), .op (some 112) none (.ext 2 (.t 107)), .op (some 17) none (.alloc [.int .i64 (Int.ofNat 0), .int .i64 (Int.ofNat 0)]), .op (some 16) none (.mv (.t 110)), .op none none (.store 2 (.t 17) (.t 111)), .op (some 8) none (.mv (.t 112))]) (.seq (.reg [.op (some 113) none (.mv (.t 3)), .op (some 114) none (.bin .eql (.t 113) (.c (.int .i64 (Int.ofNat 0)))), .op (some 115) none (.mv (.t 114)), .op (some 116) (some (115, true)) (.mv (.t 6)), .op (some 117) (some (115, true)) (.bin .eql (.t 116) (.c (.int .i64 (Int.ofNat 5)))), .op (some 118) none (.pick (.t 115) (.t 117) (.c (.tf false))), .op (some 119) none (.mv (.t 118)), .op (some 120) (some (119, true)) (.mv (.t 8)), .op (some 121) (some (119, true)) (.bin .eql (.t 120) (.c (.int .i64 (Int.ofNat 0)))), .op (some 122) none (.pick (.t 119) (.t 121) (.c (.tf false))), .op (some 123) none (.mv (.t 122)), .op (some 124) (some (123, true)) (.mv (.t 13)), .op (some 125) (some (123, true)) (.bin .eql (.t 124) (.c (.int .i64 (Int.ofNat 0)))), .op (some 126) none (.pick (.t 123) (.t 125) (.c (.tf false))), .op (some 127) none (.mv (.t 126)), .op (some 128) (some (127, true)) (.mv (.t 14)), .op (some 129) (some (127, true)) (.bin .eql (.t 128) (.c (.int .i64 (Int.ofNat 1)))), .op (some 130) none (.pick (.t 127) (.t 129) (.c (.tf false))), .op (some 131) none (.mv (.t 130)), .op (some 132) (some (131, true)) (.mv (.t 15)), .op (some 133) (some (131, true)) (.bin .eql (.t 132) (.c (.int .i64 (Int.ofNat 6)))), .op (some 134) none (.pick (.t 131) (.t 133) (.c (.tf false))), .op (some 135) none (.mv (.t 134)), .op (some 136) (some (135, true)) (.mv (.t 16)), .op (some 137) (some (135, true)) (.build [.int .i64 (Int.ofNat 0), .int .i64 (Int.ofNat 0)] [(0, 1, .c (.int .i64 (Int.ofNat 1))), (1, 1, .c (.int .i64 (Int.ofNat 2)))]), .op (some 138) (some (135, true)) (.build [.int .i64 (Int.ofNat 0), .int .i64 (Int.ofNat 0)] [(0, 1, .c (.int .i64 (Int.ofNat 0))), (1, 1, .c (.int .i64 (Int.ofNat 1)))]), .op (some 139) (some (135, true)) (.build [.int .i64 (Int.ofNat 0), .int .i64 (Int.ofNat 0)] [(0, 1, .c (.int .i64 (Int.ofNat 0))), (1, 1, .c (.int .i64 (Int.ofNat 1)))]), .op (some 140) (some (135, true)) (.bslice (.prod (.int .i64) (.int .i64)) [.t 137, .t 138, .t 139]), .call (some 141) (some (135, true)) (.c (.fn 38 [] [])) [.t 136, .t 140] [some (.list (.prod (.int .i64) (.int .i64))), some (.list (.prod (.int .i64) (.int .i64)))], .op (some 142) none (.pick (.t 135) (.t 141) (.c (.tf false))), .op (some 143) none (.mv (.t 142)), .op (some 144) (some (143, true)) (.load true 2 (.t 17)), .op (some 145) (some (143, true)) (.build [.int .i64 (Int.ofNat 0), .int .i64 (Int.ofNat 0)] [(0, 1, .c (.int .i64 (Int.ofNat 14))), (1, 1, .c (.int .i64 (Int.ofNat 17)))]), .op (some 146) (some (143, true)) (.eqs false [.i, .i] (.t 144) (.t 145)), .op (some 147) none (.pick (.t 143) (.t 146) (.c (.tf false))), .op (some 148) none (.mv (.t 147)), .call (some 149) (some (148, true)) (.c (.fn 46 [] [])) [] [], .call (some 150) (some (148, true)) (.c (.fn 31 [] [])) [.t 149, .c (.int .i64 (Int.ofNat 4)), .c (.int .i64 (Int.ofNat 5)), .c (.int .i64 (Int.ofNat 29))] [some (.list (.list (.int .i64))), some (.int .i64), some (.int .i64), some (.int .i64)], .op (some 151) (some (148, true)) (.bin .eql (.t 150) (.c (.int .i64 (Int.ofNat 0)))), .op (some 152) none (.pick (.t 148) (.t 151) (.c (.tf false))), .op (some 153) none (.mv (.t 152)), .call (some 154) (some (153, true)) (.c (.fn 46 [] [])) [] [], .call (some 155) (some (153, true)) (.c (.fn 31 [] [])) [.t 154, .c (.int .i64 (Int.ofNat 4)), .c (.int .i64 (Int.ofNat 5)), .c (.int .i64 (Int.ofNat 28))] [some (.list (.list (.int .i64))), some (.int .i64), some (.int .i64), some (.int .i64)], .op (some 156) (some (153, true)) (.bin .eql (.t 155) (.c (.int .i64 (Int.ofNat 11)))), .op (some 157) none (.pick (.t 153) (.t 156) (.c (.tf false))), .op (some 0) none (.mv (.t 157))]) .ret)))))))))))
noncomputable def F16 : Option (Bool × Unit) :=
 bindO (F46) fun y0 =>
 bindO (F22 y0.1 (4 : Int)) fun y1 =>
 bindO (F46) fun y2 =>
 bindO (F18 y2.1 y1.1) fun y3 =>
 bindO (F46) fun y4 =>
 bindO (F24 y4.1) fun y5 =>
 bindO (F46) fun y6 =>
 bindO (F29 y6.1 (3 : Int)) fun y7 =>
 bindO (F46) fun y8 =>
 bindO (F27 y8.1 (4 : Int) (7 : Int)) fun y9 =>
 brO (!(y1.2.2.1 == (0 : Int))) (
 some (false, ())) (
 brO (!(y3.2.2.1 == (0 : Int))) (
 some (false, ())) (
 brO (!(y5.2.1 == (0 : Int))) (
 some (false, ())) (
 brO (!(y7.2.1 == (0 : Int))) (
 some (false, ())) (
 brO (!(y9.2.1 == (0 : Int))) (
 some (false, ())) (
 brO (!(y1.2.1 == (29 : Int))) (
 some (false, ())) (
 brO (!(y3.2.1 == (29 : Int))) (
 some (false, ())) (
 brO (decide ((4 : Int) < y3.1)) (
 some (false, ())) (
 bindO (F26 y5.1 (((((0 : Int) :: ((9 : Int) :: ((17 : Int) :: ((24 : Int) :: ((29 : Int) :: ((34 : Int) :: ((39 : Int) :: ((42 : Int) :: ((44 : Int) :: [])))))))))).drop (0 : Nat)).take (9 : Nat))) fun y10 =>
 brO (!y10.1) (
 some (false, ())) (
 brO (!((y7.1.1 == (5 : Int)) && ((y7.1.2 == (7 : Int)) && true))) (
 some (false, ())) (
 brO (!(y9.1 == (31 : Int))) (
 some (false, ())) (
 bindO (F46) fun y11 =>
 bindO (F33 y11.1 (4 : Int) (((((3 : Int) :: ((0 : Int) :: ((1 : Int) :: [])))).drop (0 : Nat)).take (3 : Nat))) fun y12 =>
 bindO (F46) fun y13 =>
 bindO (F33 y13.1 (4 : Int) (((((2 : Int) :: ((1 : Int) :: ((1 : Int) :: [])))).drop (0 : Nat)).take (3 : Nat))) fun y14 =>
 bindO (F47) fun y15 =>
 bindO (F35 y15.1 (2 : Int)) fun y16 =>
 brO (y12.2.2.2.1 == (0 : Int)) (
 brO (y14.2.2.2.1 == (5 : Int)) (
 brO (y16.2.2.1 == (0 : Int)) (
 brO (y12.1 == (0 : Int)) (
 brO (y12.2.1 == (1 : Int)) (
 brO (y12.2.2.1 == (6 : Int)) (
 bindO (F38 y16.1 ((((((1 : Int), (2 : Int)) :: (((0 : Int), (1 : Int)) :: (((0 : Int), (1 : Int)) :: [])))).drop (0 : Nat)).take (3 : Nat))) fun y17 =>
 brO y17.1 (
 brO ((y16.2.1.1 == (14 : Int)) && ((y16.2.1.2 == (17 : Int)) && true)) (
 bindO (F46) fun y18 =>
 bindO (F31 y18.1 (4 : Int) (5 : Int) (29 : Int)) fun y19 =>
 brO (y19.1 == (0 : Int)) (
 bindO (F46) fun y20 =>
 bindO (F31 y20.1 (4 : Int) (5 : Int) (28 : Int)) fun y21 =>
 some ((y21.1 == (11 : Int)), ())) (
 some (false, ()))) (
 some (false, ()))) (
 some (false, ()))) (
 some (false, ()))) (
 some (false, ()))) (
 some (false, ()))) (
 some (false, ()))) (
 some (false, ()))) (
 some (false, ())))))))))))))
def CF16 : Option (Bool × Unit) :=
 bindC (CF46) fun y0 =>
 bindC (CF22 y0.1 (4 : Int)) fun y1 =>
 bindC (CF46) fun y2 =>
 bindC (CF18 y2.1 y1.1) fun y3 =>
 bindC (CF46) fun y4 =>
 bindC (CF24 y4.1) fun y5 =>
 bindC (CF46) fun y6 =>
 bindC (CF29 y6.1 (3 : Int)) fun y7 =>
 bindC (CF46) fun y8 =>
 bindC (CF27 y8.1 (4 : Int) (7 : Int)) fun y9 =>
 brC (!(y1.2.2.1 == (0 : Int))) (
 some (false, ())) (
 brC (!(y3.2.2.1 == (0 : Int))) (
 some (false, ())) (
 brC (!(y5.2.1 == (0 : Int))) (
 some (false, ())) (
 brC (!(y7.2.1 == (0 : Int))) (
 some (false, ())) (
 brC (!(y9.2.1 == (0 : Int))) (
 some (false, ())) (
 brC (!(y1.2.1 == (29 : Int))) (
 some (false, ())) (
 brC (!(y3.2.1 == (29 : Int))) (
 some (false, ())) (
 brC (decide ((4 : Int) < y3.1)) (
 some (false, ())) (
 bindC (CF26 y5.1 (((((0 : Int) :: ((9 : Int) :: ((17 : Int) :: ((24 : Int) :: ((29 : Int) :: ((34 : Int) :: ((39 : Int) :: ((42 : Int) :: ((44 : Int) :: [])))))))))).drop (0 : Nat)).take (9 : Nat))) fun y10 =>
 brC (!y10.1) (
 some (false, ())) (
 brC (!((y7.1.1 == (5 : Int)) && ((y7.1.2 == (7 : Int)) && true))) (
 some (false, ())) (
 brC (!(y9.1 == (31 : Int))) (
 some (false, ())) (
 bindC (CF46) fun y11 =>
 bindC (CF33 y11.1 (4 : Int) (((((3 : Int) :: ((0 : Int) :: ((1 : Int) :: [])))).drop (0 : Nat)).take (3 : Nat))) fun y12 =>
 bindC (CF46) fun y13 =>
 bindC (CF33 y13.1 (4 : Int) (((((2 : Int) :: ((1 : Int) :: ((1 : Int) :: [])))).drop (0 : Nat)).take (3 : Nat))) fun y14 =>
 bindC (CF47) fun y15 =>
 bindC (CF35 y15.1 (2 : Int)) fun y16 =>
 brC (y12.2.2.2.1 == (0 : Int)) (
 brC (y14.2.2.2.1 == (5 : Int)) (
 brC (y16.2.2.1 == (0 : Int)) (
 brC (y12.1 == (0 : Int)) (
 brC (y12.2.1 == (1 : Int)) (
 brC (y12.2.2.1 == (6 : Int)) (
 bindC (CF38 y16.1 ((((((1 : Int), (2 : Int)) :: (((0 : Int), (1 : Int)) :: (((0 : Int), (1 : Int)) :: [])))).drop (0 : Nat)).take (3 : Nat))) fun y17 =>
 brC y17.1 (
 brC ((y16.2.1.1 == (14 : Int)) && ((y16.2.1.2 == (17 : Int)) && true)) (
 bindC (CF46) fun y18 =>
 bindC (CF31 y18.1 (4 : Int) (5 : Int) (29 : Int)) fun y19 =>
 brC (y19.1 == (0 : Int)) (
 bindC (CF46) fun y20 =>
 bindC (CF31 y20.1 (4 : Int) (5 : Int) (28 : Int)) fun y21 =>
 some ((y21.1 == (11 : Int)), ())) (
 some (false, ()))) (
 some (false, ()))) (
 some (false, ()))) (
 some (false, ()))) (
 some (false, ()))) (
 some (false, ()))) (
 some (false, ()))) (
 some (false, ()))) (
 some (false, ())))))))))))))
theorem CF16_le : Le (CF16) (F16) := (Le.bd (CF46_le ..) fun y0 => (Le.bd (CF22_le ..) fun y1 => (Le.bd (CF46_le ..) fun y2 => (Le.bd (CF18_le ..) fun y3 => (Le.bd (CF46_le ..) fun y4 => (Le.bd (CF24_le ..) fun y5 => (Le.bd (CF46_le ..) fun y6 => (Le.bd (CF29_le ..) fun y7 => (Le.bd (CF46_le ..) fun y8 => (Le.bd (CF27_le ..) fun y9 => (Le.br Le.r (Le.br Le.r (Le.br Le.r (Le.br Le.r (Le.br Le.r (Le.br Le.r (Le.br Le.r (Le.br Le.r (Le.bd (CF26_le ..) fun y10 => (Le.br Le.r (Le.br Le.r (Le.br Le.r (Le.bd (CF46_le ..) fun y11 => (Le.bd (CF33_le ..) fun y12 => (Le.bd (CF46_le ..) fun y13 => (Le.bd (CF33_le ..) fun y14 => (Le.bd (CF47_le ..) fun y15 => (Le.bd (CF35_le ..) fun y16 => (Le.br (Le.br (Le.br (Le.br (Le.br (Le.br (Le.bd (CF38_le ..) fun y17 => (Le.br (Le.br (Le.bd (CF46_le ..) fun y18 => (Le.bd (CF31_le ..) fun y19 => (Le.br (Le.bd (CF46_le ..) fun y20 => (Le.bd (CF31_le ..) fun y21 => Le.r)) Le.r))) Le.r) Le.r)) Le.r) Le.r) Le.r) Le.r) Le.r) Le.r)))))))))))))))))))))))))))))
theorem c16_ok : trF prog f16 = some ⟨158, 0, dd16.er, [.t 0], [some .bool]⟩ := by kernel_rfl
noncomputable def ct16 : Ct := ⟨16, [], .c (.hole .bool), fun x => F16⟩
theorem ct16_ok : ct16.Ok prog := ct_ok mixed cx16_ok func16 c16_ok (enters_of func16 rfl rfl) dd16 rfl rfl (fun x => by kernel_rfl)

/- 39 -/
noncomputable def cx39 : Cx := mkCxH [] []
theorem cx39_ok : cx39.Ok prog := mkCxH_ok trivial trivial
@[reducible] def p39_1 : Pat := Pat.mk [(0, .c (.hole (.list (.list (.int .u8))))), (3, .c (.sl0 0 (.list (.int .i64)))), (4, .c (.hole (.int .i64))), (5, .c (.hole (.int .i64))), (6, .c (.sl0 1 (.int .i64))), (7, .c (.hole (.int .i64))), (13, .c (.hole (.int .i64))), (14, .c (.hole .bool))] [(0, .arr (.list (.int .i64)) false), (1, .arr (.int .i64) false)] [.slot 3, .slot 6] []
@[reducible] def x39_1 : Outs := [(.exit 2, Pat.mk [(0, .c (.hole (.list (.list (.int .u8))))), (3, .c (.sl0 0 (.list (.int .i64)))), (4, .c (.hole (.int .i64))), (6, .c (.sl0 1 (.int .i64))), (13, .c (.hole (.int .i64))), (14, .c (.hole .bool))] [(0, .arr (.list (.int .i64)) false), (1, .arr (.int .i64) false)] [.slot 3, .slot 6] [])]
noncomputable def b39_1 : D prog 52 none 0 := (.seq (.seq (.reg [.op (some 19) none (.mv (.t 7)), .op (some 20) none (.mv (.t 0)), .op (some 21) none (.mv (.t 4)), .op (some 22) none (.idx 1 (.t 20) (.t 21)), .op (some 23) none (.load false 1 (.t 22)), .op (some 24) none (.len (.t 23)), .op (some 25) none (.bin .lss (.t 19) (.t 24)), .op (some 26) none (.mv (.t 25)), .op (some 27) (some (26, true)) (.mv (.t 7)), .op (some 28) (some (26, true)) (.bin .lss (.t 27) (.c (.int .i64 (Int.ofNat 4)))), .op (some 29) none (.pick (.t 26) (.t 28) (.c (.tf false)))]) (.cond ( .t 29) .skip (.exit 2))) (.seq (.block 3 (.seq (.reg [.op (some 32) none (.mv (.t 5)), .op (some 33) none (.mv (.t 0)), .op (some 34) none (.mv (.t 4)), .op (some 35) none (.idx 1 (.t 33) (.t 34)), .op (some 36) none (.load false 1 (.t 35)), .op (some 37) none (.mv (.t 7)), .op (some 38) none (.idx 1 (.t 36) (.t 37)), .op (some 39) none (.load false 1 (.t 38)), .op (some 40) none (.conv .i64 (.t 39)), .op (some 41) none (.bin .sub (.t 32) (.t 40)), .op (some 42) none (.minmax true (.c (.int .i64 (Int.ofNat 0))) [.t 41]), .op (some 5) none (.mv (.t 42))]) (.reg [.op (some 43) none (.mv (.t 6)), .op (some 44) none (.mv (.t 5)), .op (some 45) none (.bslice (.int .i64) [.t 44]), .op (some 46) none (.append 1 (.t 43) (.t 45)), .op (some 6) none (.mv (.t 46))]))) (.reg [.op (some 30) none (.mv (.t 7)), .op (some 31) none (.bin .add (.t 30) (.c (.int .i64 (Int.ofNat 1)))), .op (some 7) none (.mv (.t 31))])))
noncomputable def g39_1 (v0 : List (List Int)) (nv3 : Nat) (v4 : Int) (v5 : Int) (nv6 : Nat) (v7 : Int) (v13 : Int) (v14 : Bool) (b0 : List (List Int)) (b1 : List Int) : Option ((List (List Int) × Nat × Int × Int × Nat × Int × Int × Bool × List (List Int) × List Int × Unit) ⊕ ((List (List Int) × Nat × Int × Nat × Int × Bool × List (List Int) × List Int × Unit))) :=
 need (inb v4 (((v0).length : Nat) : Int)) (
 brO (decide (v7 < (((((v0).getD (Int.toNat v4) [])).length : Nat) : Int))) (
 brO (decide (v7 < (4 : Int))) (
 need (inb v4 (((v0).length : Nat) : Int)) (
 need (inb v7 (((((v0).getD (Int.toNat v4) [])).length : Nat) : Int)) (
 need (rng .i64 ((((v0).getD (Int.toNat v4) [])).getD (Int.toNat v7) (0 : Int))) (
 need (rng .i64 (v5 - ((((v0).getD (Int.toNat v4) [])).getD (Int.toNat v7) (0 : Int)))) (
 need (decide ((nv6 + ((((((imax (0 : Int) (v5 - ((((v0).getD (Int.toNat v4) [])).getD (Int.toNat v7) (0 : Int)))) :: [])).drop (0 : Nat)).take (1 : Nat))).length) < bigL)) (
 need (rng .i64 (v7 + (1 : Int))) (
 some (.inl (v0, (nv3, (v4, ((imax (0 : Int) (v5 - ((((v0).getD (Int.toNat v4) [])).getD (Int.toNat v7) (0 : Int)))), ((nv6 + ((((((imax (0 : Int) (v5 - ((((v0).getD (Int.toNat v4) [])).getD (Int.toNat v7) (0 : Int)))) :: [])).drop (0 : Nat)).take (1 : Nat))).length), ((v7 + (1 : Int)), (v13, (v14, (b0, (((((b1).drop (0 : Nat)).take nv6) ++ (((((imax (0 : Int) (v5 - ((((v0).getD (Int.toNat v4) [])).getD (Int.toNat v7) (0 : Int)))) :: [])).drop (0 : Nat)).take (1 : Nat))), ())))))))))))))))))) (
 some (.inr (v0, (nv3, (v4, (nv6, (v13, (v14, (b0, (b1, ()))))))))))) (
 some (.inr (v0, (nv3, (v4, (nv6, (v13, (v14, (b0, (b1, ())))))))))))
theorem s39_1 : ∀ x, roundE (kzO (p39_1.T ⊕ x39_1.T)) cx39 ar0 [] p39_1 x39_1 (b39_1) (fun y => some (.inl y)) (fun b => some (.inr b)) x = g39_1 x.1 x.2.1 x.2.2.1 x.2.2.2.1 x.2.2.2.2.1 x.2.2.2.2.2.1 x.2.2.2.2.2.2.1 x.2.2.2.2.2.2.2.1 x.2.2.2.2.2.2.2.2.1 x.2.2.2.2.2.2.2.2.2.1 := by intro x; kernel_rfl
noncomputable def L39_1 : LoopS prog 52 none 0 := mkLoop mixed cx39 cx39_ok [] rfl p39_1 x39_1 rfl (b39_1) (fun x => g39_1 x.1 x.2.1 x.2.2.1 x.2.2.2.1 x.2.2.2.2.1 x.2.2.2.2.2.1 x.2.2.2.2.2.2.1 x.2.2.2.2.2.2.2.1 x.2.2.2.2.2.2.2.2.1 x.2.2.2.2.2.2.2.2.2.1) (s39_1)
@[reducible] def p39_0 : Pat := Pat.mk [(0, .c (.hole (.list (.list (.int .u8))))), (3, .c (.sl0 0 (.list (.int .i64)))), (4, .c (.hole (.int .i64)))] [(0, .arr (.list (.int .i64)) false)] [.slot 3] []
@[reducible] def x39_0 : Outs := [(.exit 0, Pat.mk [(3, .c (.sl0 0 (.list (.int .i64))))] [(0, .arr (.list (.int .i64)) false)] [.slot 3] [])]
noncomputable def b39_0 : D prog 52 none 0 := (.seq (.seq (.reg [.op (some 8) none (.mv (.t 4)), .op (some 9) none (.mv (.t 0)), .op (some 10) none (.len (.t 9)), .op (some 11) none (.bin .lss (.t 8) (.t 10)), .op (some 12) none (.mv (.t 11)), .op (some 13) (some (12, true)) (.mv (.t 4)), .op (some 14) (some (12, true)) (.bin .lss (.t 13) (.c (.int .i64 (Int.ofNat 4)))), .op (some 15) none (.pick (.t 12) (.t 14) (.c (.tf false)))]) (.cond ( .t 15) .skip (.exit 0))) (.seq (.block 1 (.seq (.reg [.op (some 5) none (.mv (.c (.int .i64 (Int.ofNat 300))))]) (.seq (.reg [.op (some 18) none (.bslice (.int .i64) []), .op (some 6) none (.mv (.t 18))]) (.seq (.seq (.reg [.op (some 7) none (.mv (.c (.int .i64 (Int.ofNat 0))))]) (.block 2 (.loop L39_1))) (.reg [.op (some 47) none (.mv (.t 3)), .op (some 48) none (.mv (.t 6)), .op (some 49) none (.bslice (.list (.int .i64)) [.t 48]), .op (some 50) none (.append 1 (.t 47) (.t 49)), .op (some 3) none (.mv (.t 50))]))))) (.reg [.op (some 16) none (.mv (.t 4)), .op (some 17) none (.bin .add (.t 16) (.c (.int .i64 (Int.ofNat 1)))), .op (some 4) none (.mv (.t 17))])))
noncomputable def g39_0 (v0 : List (List Int)) (nv3 : Nat) (v4 : Int) (b0 : List (List Int)) : Option ((List (List Int) × Nat × Int × List (List Int) × Unit) ⊕ ((Nat × List (List Int) × Unit))) :=
 brO (decide (v4 < (((v0).length : Nat) : Int))) (
 brO (decide (v4 < (4 : Int))) (
 bindO (iter (fun x => g39_1 x.1 x.2.1 x.2.2.1 x.2.2.2.1 x.2.2.2.2.1 x.2.2.2.2.2.1 x.2.2.2.2.2.2.1 x.2.2.2.2.2.2.2.1 x.2.2.2.2.2.2.2.2.1 x.2.2.2.2.2.2.2.2.2.1) (v0, (nv3, (v4, ((300 : Int), ((0 : Nat), ((0 : Int), (v4, ((decide (v4 < (4 : Int))), (b0, ([], ()))))))))))) fun z0 =>
 need (decide ((z0.2.1 + ((((((((z0.2.2.2.2.2.2.2.1).drop (0 : Nat)).take z0.2.2.2.1) :: [])).drop (0 : Nat)).take (1 : Nat))).length) < bigL)) (
 need (rng .i64 (z0.2.2.1 + (1 : Int))) (
 some (.inl (z0.1, ((z0.2.1 + ((((((((z0.2.2.2.2.2.2.2.1).drop (0 : Nat)).take z0.2.2.2.1) :: [])).drop (0 : Nat)).take (1 : Nat))).length), ((z0.2.2.1 + (1 : Int)), (((((z0.2.2.2.2.2.2.1).drop (0 : Nat)).take z0.2.1) ++ (((((((z0.2.2.2.2.2.2.2.1).drop (0 : Nat)).take z0.2.2.2.1) :: [])).drop (0 : Nat)).take (1 : Nat))), ())))))))) (
 some (.inr (nv3, (b0, ()))))) (
 some (.inr (nv3, (b0, ()))))
theorem s39_0 : ∀ x, roundE (kzO (p39_0.T ⊕ x39_0.T)) cx39 ar0 [] p39_0 x39_0 (b39_0) (fun y => some (.inl y)) (fun b => some (.inr b)) x = g39_0 x.1 x.2.1 x.2.2.1 x.2.2.2.1 := by intro x; kernel_rfl
noncomputable def L39_0 : LoopS prog 52 none 0 := mkLoop mixed cx39 cx39_ok [] rfl p39_0 x39_0 rfl (b39_0) (fun x => g39_0 x.1 x.2.1 x.2.2.1 x.2.2.2.1) (s39_0)
noncomputable def dd39 : D prog 52 none 0 := (.seq (.reg [.op (some 2) none (.mv (.c .nsl))]) (.seq (.reg [.op (some 3) none (.mv (.c .nsl))]) (.seq (.seq (.reg [.op (some 4) none (.mv (.c (.int .i64 (Int.ofNat 0))))]) (.block 0 (.loop L39_0))) (.seq (.reg [.op (some 51) none (.mv (.t 3)), .op (some 2) none (.mv (.t 51))]) .ret))))
noncomputable def F39 (a0 : List (List Int)) : Option (List (List Int) × Unit) :=
 bindO (iter (fun x => g39_0 x.1 x.2.1 x.2.2.1 x.2.2.2.1) (a0, ((0 : Nat), ((0 : Int), ([], ()))))) fun z1 =>
 some ((((z1.2.1).drop (0 : Nat)).take z1.1), ())
theorem c39_ok : trF prog f39 = some ⟨52, 1, dd39.er, [.t 2], [some (.list (.list (.int .i64)))]⟩ := by kernel_rfl
noncomputable def ct39 : Ct := ⟨39, [.c (.hole (.list (.list (.int .u8))))], .c (.hole (.list (.list (.int .i64)))), fun x => F39 x.1⟩
theorem ct39_ok : ct39.Ok prog := ct_ok mixed cx39_ok func39 c39_ok (enters_of func39 rfl rfl) dd39 rfl rfl (fun x => by kernel_rfl)

/- 11 -/
noncomputable def cx11 : Cx := mkCxH [ct39, ct22, ct16] []
theorem cx11_ok : cx11.Ok prog := mkCxH_ok ⟨ct39_ok, ct22_ok, ct16_ok, trivial⟩ trivial
@[reducible] def p11_0 : Pat := Pat.mk [(7, .c (.hole (.list (.list (.int .i64))))), (8, .c (.hole (.list (.list (.int .i64))))), (9, .c (.hole (.int .i64))), (11, .c (.hole (.int .i64))), (13, .c (.hole (.int .i64))), (14, .c (.hole (.int .i64)))] [] [] []
@[reducible] def x11_0 : Outs := [(.ret, Pat.mk [(6, .c (.tf false))] [] [] []), (.exit 0, Pat.mk [(11, .c (.hole (.int .i64))), (13, .c (.hole (.int .i64)))] [] [] [])]
noncomputable def b11_0 : D prog 79 none 0 := (.seq (.seq (.reg [.op (some 41) none (.mv (.t 14)), .op (some 42) none (.mv (.t 9)), .op (some 43) none (.bin .leq (.t 41) (.t 42))]) (.cond ( .t 43) .skip (.exit 0))) (.seq (.block 1 (.seq (.reg [.op (some 47) none (.mv (.t 7)), .op (some 48) none (.mv (.t 14)), .call (some 49) none (.c (.fn 22 [] [])) [.t 47, .t 48] [some (.list (.list (.int .i64))), some (.int .i64)], .op (some 46) none (.mv (.t 49)), .op (some 50) none (.ext 0 (.t 46)), .op (some 51) none (.ext 1 (.t 46)), .op (some 52) none (.ext 2 (.t 46)), .op (some 15) none (.mv (.t 50)), .op (some 16) none (.mv (.t 51)), .op (some 17) none (.mv (.t 52))]) (.seq (.reg [.op (some 54) none (.mv (.t 8)), .op (some 55) none (.mv (.t 9)), .op (some 56) none (.mv (.t 14)), .op (some 57) none (.bin .sub (.t 55) (.t 56)), .call (some 58) none (.c (.fn 22 [] [])) [.t 54, .t 57] [some (.list (.list (.int .i64))), some (.int .i64)], .op (some 53) none (.mv (.t 58)), .op (some 59) none (.ext 0 (.t 53)), .op (some 60) none (.ext 1 (.t 53)), .op (some 61) none (.ext 2 (.t 53)), .op (some 18) none (.mv (.t 59)), .op (some 19) none (.mv (.t 60)), .op (some 20) none (.mv (.t 61))]) (.seq (.seq (.reg [.op (some 62) none (.mv (.t 17)), .op (some 63) none (.bin .neq (.t 62) (.c (.int .i64 (Int.ofNat 0)))), .op (some 64) none (.mv (.t 63)), .op (some 65) (some (64, false)) (.mv (.t 20)), .op (some 66) (some (64, false)) (.bin .neq (.t 65) (.c (.int .i64 (Int.ofNat 0)))), .op (some 67) none (.pick (.t 64) (.c (.tf true)) (.t 66))]) (.cond ( .t 67) (.seq (.reg [.op (some 6) none (.mv (.c (.tf false)))]) .ret) .skip)) (.reg [.op (some 68) none (.mv (.t 13)), .op (some 69) none (.mv (.t 16)), .op (some 70) none (.mv (.t 19)), .op (some 71) none (.bin .add (.t 69) (.t 70)), .op (some 72) none (.minmax true (.t 68) [.t 71]), .op (some 13) none (.mv (.t 72))]))))) (.reg [.op (some 44) none (.mv (.t 14)), .op (some 45) none (.bin .add (.t 44) (.c (.int .i64 (Int.ofNat 1)))), .op (some 14) none (.mv (.t 45))])))
noncomputable def g11_0 (v7 : List (List Int)) (v8 : List (List Int)) (v9 : Int) (v11 : Int) (v13 : Int) (v14 : Int) : Option ((List (List Int) × List (List Int) × Int × Int × Int × Int × Unit) ⊕ ((Unit) ⊕ ((Int × Int × Unit)))) :=
 brO (decide (v14 ≤ v9)) (
 bindO (F22 v7 v14) fun y3 =>
 need (rng .i64 (v9 - v14)) (
 bindO (F22 v8 (v9 - v14)) fun y4 =>
 brO (!(y3.2.2.1 == (0 : Int))) (
 some (.inr <| .inl <| ())) (
 brO (!(y4.2.2.1 == (0 : Int))) (
 some (.inr <| .inl <| ())) (
 need (rng .i64 (y3.2.1 + y4.2.1)) (
 need (rng .i64 (v14 + (1 : Int))) (
 some (.inl (v7, (v8, (v9, (v11, ((imax v13 (y3.2.1 + y4.2.1)), ((v14 + (1 : Int)), ()))))))))))))) (
 some (.inr <| .inr <| (v11, (v13, ()))))
theorem s11_0 : ∀ x, roundE (kzO (p11_0.T ⊕ x11_0.T)) cx11 ar0 [] p11_0 x11_0 (b11_0) (fun y => some (.inl y)) (fun b => some (.inr b)) x = g11_0 x.1 x.2.1 x.2.2.1 x.2.2.2.1 x.2.2.2.2.1 x.2.2.2.2.2.1 := by intro x; kernel_rfl
noncomputable def L11_0 : LoopS prog 79 none 0 := mkLoop mixed cx11 cx11_ok [] rfl p11_0 x11_0 rfl (b11_0) (fun x => g11_0 x.1 x.2.1 x.2.2.1 x.2.2.2.1 x.2.2.2.2.1 x.2.2.2.2.2.1) (s11_0)
noncomputable def dd11 : D prog 79 none 0 := (.seq (.reg [.op (some 6) none (.mv (.c (.tf false)))]) (.seq (.reg [.op (some 21) none (.mv (.t 0)), .call (some 22) none (.c (.fn 39 [] [])) [.t 21] [some (.list (.list (.int .u8)))], .op (some 23) none (.mv (.t 1)), .call (some 24) none (.c (.fn 39 [] [])) [.t 23] [some (.list (.list (.int .u8)))], .op (some 7) none (.mv (.t 22)), .op (some 8) none (.mv (.t 24))]) (.seq (.reg [.op (some 25) none (.mv (.t 2)), .op (some 26) none (.conv .i64 (.t 25)), .op (some 27) none (.bin .rem (.t 26) (.c (.int .i64 (Int.ofNat 20)))), .op (some 9) none (.mv (.t 27))]) (.seq (.reg [.op (some 29) none (.bslice (.list (.int .i64)) []), .op (some 30) none (.mv (.t 7)), .op (some 31) none (.append 1 (.t 29) (.t 30)), .op (some 32) none (.mv (.t 8)), .op (some 33) none (.append 1 (.t 31) (.t 32)), .op (some 34) none (.mv (.t 9)), .call (some 35) none (.c (.fn 22 [] [])) [.t 33, .t 34] [some (.list (.list (.int .i64))), some (.int .i64)], .op (some 28) none (.mv (.t 35)), .op (some 36) none (.ext 0 (.t 28)), .op (some 37) none (.ext 1 (.t 28)), .op (some 38) none (.ext 2 (.t 28)), .op (some 10) none (.mv (.t 36)), .op (some 11) none (.mv (.t 37)), .op (some 12) none (.mv (.t 38))]) (.seq (.seq (.reg [.op (some 39) none (.mv (.t 12)), .op (some 40) none (.bin .neq (.t 39) (.c (.int .i64 (Int.ofNat 0))))]) (.cond ( .t 40) (.seq (.reg [.op (some 6) none (.mv (.c (.tf false)))]) .ret) .skip)) (.seq (.reg [.op (some 13) none (.mv (.c (.int .i64 (Int.ofNat 0))))]) (.seq (.seq (.reg [.op (some 14) none (.mv (.c (.int .i64 (Int.ofNat 0))))]) (.block 0 (.loop L11_0))) (.seq (.reg [.op (some 73) none (.mv (.t 11)), .op (some 74) none (.mv (.t 13)), .op (some 75) none (.bin .eql (.t 73) (.t 74)), .op (some 76) none (.mv (.t 75)), .call (some 77) (some (76, true)) (.c (.fn 16 [] [])) [] [], .op (some 78) none (.pick (.t 76) (.t 77) (.c (.tf false))), .op (some 6) none (.mv (.t 78))]) .ret))))))))
noncomputable def F11 (a0 : List (List Int)) (a1 : List (List Int)) (a2 : Int) : Option (Bool × Unit) :=
 bindO (F39 a0) fun y0 =>
 bindO (F39 a1) fun y1 =>
 need (rng .i64 a2) (
 need (!((20 : Int) == (0 : Int))) (
 need (decide (((0 : Nat) + (y0.1).length) < bigL)) (
 need (decide ((((0 : Nat) + (y0.1).length) + (y1.1).length) < bigL)) (
 bindO (F22 ((((((((((([]).drop (0 : Nat)).take (0 : Nat)) ++ y0.1)).drop (0 : Nat)).take ((0 : Nat) + (y0.1).length)) ++ y1.1)).drop (0 : Nat)).take (((0 : Nat) + (y0.1).length) + (y1.1).length)) (Int.tmod a2 (20 : Int))) fun y2 =>
 brO (!(y2.2.2.1 == (0 : Int))) (
 some (false, ())) (
 bindO (iter (fun x => g11_0 x.1 x.2.1 x.2.2.1 x.2.2.2.1 x.2.2.2.2.1 x.2.2.2.2.2.1) (y0.1, (y1.1, ((Int.tmod a2 (20 : Int)), (y2.2.1, ((0 : Int), ((0 : Int), ()))))))) fun z5 =>
 match z5 with
 | .inl z6 =>
 some (false, ())
 | .inr z7 =>
 brO (z7.1 == z7.2.1) (
 bindO (F16) fun y8 =>
 some (y8.1, ())) (
 some (false, ())))))))
theorem c11_ok : trF prog f11 = some ⟨79, 3, dd11.er, [.t 6], [some .bool]⟩ := by kernel_rfl
noncomputable def ct11 : Ct := ⟨11, [.c (.hole (.list (.list (.int .u8)))), .c (.hole (.list (.list (.int .u8)))), .c (.hole (.int .u8))], .c (.hole .bool), fun x => F11 x.1 x.2.1 x.2.2.1⟩
theorem ct11_ok : ct11.Ok prog := ct_ok mixed cx11_ok func11 c11_ok (enters_of func11 rfl rfl) dd11 rfl rfl (fun x => by kernel_rfl)

end Go.Proofs.Try

