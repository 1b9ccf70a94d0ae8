/- Functions of the program as functions of data, part 2; printed by a program of mine. -/
import Derived.Test.YtpmpfolfjajjoaaW80
import Derived.Test.YtpmpfolfjajjoaaProg
set_option linter.unusedSectionVars false
set_option linter.unusedVariables false
set_option linter.unusedSimpArgs false
open Go.AM
namespace Go.Proofs.Try
set_option maxRecDepth 100000
set_option synthInstance.maxSize 4000
set_option synthInstance.maxHeartbeats 400000


/- 8 -/
noncomputable def cx8 : Cx := (mkCxH [ct10, ct11, ct14, ct20, ct18] [])
theorem cx8_ok : cx8.Ok prog := mkCxH_ok ⟨ct10_ok, ct11_ok, ct14_ok, ct20_ok, ct18_ok, trivial⟩ trivial
noncomputable def dd8 : D prog 138 none 0 := dO [] (kd prog f8) 0
noncomputable def F8 (a0 : List (List (Int × Int))) (a1 : Int) (a2 : Int) : Tr0 (Bool × Unit) :=
 .bd (F10 a0) fun y0 =>
 .br (!y0.2.1) (
 .ret (false, ())) (
 .bd (F11 y0.1) fun y1 =>
 .ni a1 <|
 .nd (!((((y1.1).length : Nat) : Int) == (0 : Int))) <|
 .nb (Int.tmod a1 (((y1.1).length : Nat) : Int)) (((y1.1).length : Nat) : Int) <|
 .ni a2 <|
 .nd (!((((y1.1).length : Nat) : Int) == (0 : Int))) <|
 .nb (Int.tmod a2 (((y1.1).length : Nat) : Int)) (((y1.1).length : Nat) : Int) <|
 .ni (((y1.1).getD (Int.toNat (Int.tmod a1 (((y1.1).length : Nat) : Int))) ((0 : Int), (0 : Int))).1 + ((y1.1).getD (Int.toNat (Int.tmod a2 (((y1.1).length : Nat) : Int))) ((0 : Int), (0 : Int))).1) <|
 .nd (!((2 : Int) == (0 : Int))) <|
 .ni (Int.tdiv (((y1.1).getD (Int.toNat (Int.tmod a1 (((y1.1).length : Nat) : Int))) ((0 : Int), (0 : Int))).1 + ((y1.1).getD (Int.toNat (Int.tmod a2 (((y1.1).length : Nat) : Int))) ((0 : Int), (0 : Int))).1) (2 : Int)) <|
 .ni (((y1.1).getD (Int.toNat (Int.tmod a1 (((y1.1).length : Nat) : Int))) ((0 : Int), (0 : Int))).2 + ((y1.1).getD (Int.toNat (Int.tmod a2 (((y1.1).length : Nat) : Int))) ((0 : Int), (0 : Int))).2) <|
 .nd (!((2 : Int) == (0 : Int))) <|
 .ni (Int.tdiv (((y1.1).getD (Int.toNat (Int.tmod a1 (((y1.1).length : Nat) : Int))) ((0 : Int), (0 : Int))).2 + ((y1.1).getD (Int.toNat (Int.tmod a2 (((y1.1).length : Nat) : Int))) ((0 : Int), (0 : Int))).2) (2 : Int)) <|
 .jx (
 .ni ((2 : Int) * (Int.tdiv (((y1.1).getD (Int.toNat (Int.tmod a1 (((y1.1).length : Nat) : Int))) ((0 : Int), (0 : Int))).1 + ((y1.1).getD (Int.toNat (Int.tmod a2 (((y1.1).length : Nat) : Int))) ((0 : Int), (0 : Int))).1) (2 : Int))) <|
 .ni (((y1.1).getD (Int.toNat (Int.tmod a1 (((y1.1).length : Nat) : Int))) ((0 : Int), (0 : Int))).1 + ((y1.1).getD (Int.toNat (Int.tmod a2 (((y1.1).length : Nat) : Int))) ((0 : Int), (0 : Int))).1) <|
 .br (!(((2 : Int) * (Int.tdiv (((y1.1).getD (Int.toNat (Int.tmod a1 (((y1.1).length : Nat) : Int))) ((0 : Int), (0 : Int))).1 + ((y1.1).getD (Int.toNat (Int.tmod a2 (((y1.1).length : Nat) : Int))) ((0 : Int), (0 : Int))).1) (2 : Int))) == (((y1.1).getD (Int.toNat (Int.tmod a1 (((y1.1).length : Nat) : Int))) ((0 : Int), (0 : Int))).1 + ((y1.1).getD (Int.toNat (Int.tmod a2 (((y1.1).length : Nat) : Int))) ((0 : Int), (0 : Int))).1))) (
 .ret (.inl (y0.1, (((y1.1).getD (Int.toNat (Int.tmod a1 (((y1.1).length : Nat) : Int))) ((0 : Int), (0 : Int))).1, (((y1.1).getD (Int.toNat (Int.tmod a1 (((y1.1).length : Nat) : Int))) ((0 : Int), (0 : Int))).2, ()))))) (
 .ni ((2 : Int) * (Int.tdiv (((y1.1).getD (Int.toNat (Int.tmod a1 (((y1.1).length : Nat) : Int))) ((0 : Int), (0 : Int))).2 + ((y1.1).getD (Int.toNat (Int.tmod a2 (((y1.1).length : Nat) : Int))) ((0 : Int), (0 : Int))).2) (2 : Int))) <|
 .ni (((y1.1).getD (Int.toNat (Int.tmod a1 (((y1.1).length : Nat) : Int))) ((0 : Int), (0 : Int))).2 + ((y1.1).getD (Int.toNat (Int.tmod a2 (((y1.1).length : Nat) : Int))) ((0 : Int), (0 : Int))).2) <|
 .br (!(((2 : Int) * (Int.tdiv (((y1.1).getD (Int.toNat (Int.tmod a1 (((y1.1).length : Nat) : Int))) ((0 : Int), (0 : Int))).2 + ((y1.1).getD (Int.toNat (Int.tmod a2 (((y1.1).length : Nat) : Int))) ((0 : Int), (0 : Int))).2) (2 : Int))) == (((y1.1).getD (Int.toNat (Int.tmod a1 (((y1.1).length : Nat) : Int))) ((0 : Int), (0 : Int))).2 + ((y1.1).getD (Int.toNat (Int.tmod a2 (((y1.1).length : Nat) : Int))) ((0 : Int), (0 : Int))).2))) (
 .ret (.inl (y0.1, (((y1.1).getD (Int.toNat (Int.tmod a1 (((y1.1).length : Nat) : Int))) ((0 : Int), (0 : Int))).1, (((y1.1).getD (Int.toNat (Int.tmod a1 (((y1.1).length : Nat) : Int))) ((0 : Int), (0 : Int))).2, ()))))) (
 .ret (.inl (y0.1, ((Int.tdiv (((y1.1).getD (Int.toNat (Int.tmod a1 (((y1.1).length : Nat) : Int))) ((0 : Int), (0 : Int))).1 + ((y1.1).getD (Int.toNat (Int.tmod a2 (((y1.1).length : Nat) : Int))) ((0 : Int), (0 : Int))).1) (2 : Int)), ((Int.tdiv (((y1.1).getD (Int.toNat (Int.tmod a1 (((y1.1).length : Nat) : Int))) ((0 : Int), (0 : Int))).2 + ((y1.1).getD (Int.toNat (Int.tmod a2 (((y1.1).length : Nat) : Int))) ((0 : Int), (0 : Int))).2) (2 : Int)), ()))))))) fun j2 =>
 .bd (F14 j2.1 (j2.2.1, j2.2.2.1)) fun y3 =>
 .bd (F20 j2.1 (j2.2.1, j2.2.2.1) (y3.1.1, y3.1.2)) fun y4 =>
 .br (!(y3.2.1 == (0 : Int))) (
 .ret (false, ())) (
 .br (!(y4.1 == (0 : Int))) (
 .ret (false, ())) (
 .br (decide (y3.1.1 < (1 : Int))) (
 .ret (false, ())) (
 .br ((((y3.1.2).length : Nat) : Int) == (0 : Int)) (
 .br (decide ((0 : Int) < (((j2.1).length : Nat) : Int))) (
 .ret (false, ())) (
 .br (decide ((0 : Int) < (((j2.1).length : Nat) : Int))) (
 .nd (decide (((0 : Nat) + (y3.1.2).length) < bigL)) <|
 .nb (0 : Int) ((((0 : Nat) + (y3.1.2).length) : Nat) : Int) <|
 .nd (decide (((0 : Nat) + (Int.toNat (0 : Int))) < ((((([]).drop (0 : Nat)).take (0 : Nat)) ++ y3.1.2)).length)) <|
 .ni ((((((([]).drop (0 : Nat)).take (0 : Nat)) ++ y3.1.2)).getD ((0 : Nat) + (Int.toNat (0 : Int))) ((0 : Int), (0 : Int))).1 + (1 : Int)) <|
 .nb (0 : Int) ((((0 : Nat) + (y3.1.2).length) : Nat) : Int) <|
 .nd (decide (((0 : Nat) + (Int.toNat (0 : Int))) < ((((([]).drop (0 : Nat)).take (0 : Nat)) ++ y3.1.2)).length)) <|
 .bd (F20 j2.1 (j2.2.1, j2.2.2.1) (y3.1.1, ((((((((([]).drop (0 : Nat)).take (0 : Nat)) ++ y3.1.2)).set ((0 : Nat) + (Int.toNat (0 : Int))) (((((((([]).drop (0 : Nat)).take (0 : Nat)) ++ y3.1.2)).getD ((0 : Nat) + (Int.toNat (0 : Int))) ((0 : Int), (0 : Int))).1 + (1 : Int)), (((((([]).drop (0 : Nat)).take (0 : Nat)) ++ y3.1.2)).getD ((0 : Nat) + (Int.toNat (0 : Int))) ((0 : Int), (0 : Int))).2))).drop (0 : Nat)).take ((0 : Nat) + (y3.1.2).length)))) fun y5 =>
 .br (y5.1 == (19 : Int)) (
 .bd (F18) fun y6 =>
 .ret (y6.1, ())) (
 .br (y5.1 == (10 : Int)) (
 .bd (F18) fun y7 =>
 .ret (y7.1, ())) (
 .ret (false, ())))) (
 .bd (F18) fun y8 =>
 .ret (y8.1, ())))) (
 .br (decide ((0 : Int) < (((j2.1).length : Nat) : Int))) (
 .nd (decide (((0 : Nat) + (y3.1.2).length) < bigL)) <|
 .nb (0 : Int) ((((0 : Nat) + (y3.1.2).length) : Nat) : Int) <|
 .nd (decide (((0 : Nat) + (Int.toNat (0 : Int))) < ((((([]).drop (0 : Nat)).take (0 : Nat)) ++ y3.1.2)).length)) <|
 .ni ((((((([]).drop (0 : Nat)).take (0 : Nat)) ++ y3.1.2)).getD ((0 : Nat) + (Int.toNat (0 : Int))) ((0 : Int), (0 : Int))).1 + (1 : Int)) <|
 .nb (0 : Int) ((((0 : Nat) + (y3.1.2).length) : Nat) : Int) <|
 .nd (decide (((0 : Nat) + (Int.toNat (0 : Int))) < ((((([]).drop (0 : Nat)).take (0 : Nat)) ++ y3.1.2)).length)) <|
 .bd (F20 j2.1 (j2.2.1, j2.2.2.1) (y3.1.1, ((((((((([]).drop (0 : Nat)).take (0 : Nat)) ++ y3.1.2)).set ((0 : Nat) + (Int.toNat (0 : Int))) (((((((([]).drop (0 : Nat)).take (0 : Nat)) ++ y3.1.2)).getD ((0 : Nat) + (Int.toNat (0 : Int))) ((0 : Int), (0 : Int))).1 + (1 : Int)), (((((([]).drop (0 : Nat)).take (0 : Nat)) ++ y3.1.2)).getD ((0 : Nat) + (Int.toNat (0 : Int))) ((0 : Int), (0 : Int))).2))).drop (0 : Nat)).take ((0 : Nat) + (y3.1.2).length)))) fun y9 =>
 .br (y9.1 == (19 : Int)) (
 .bd (F18) fun y10 =>
 .ret (y10.1, ())) (
 .br (y9.1 == (10 : Int)) (
 .bd (F18) fun y11 =>
 .ret (y11.1, ())) (
 .ret (false, ())))) (
 .bd (F18) fun y12 =>
 .ret (y12.1, ())))))))
theorem c8_ok : trF prog f8 = some ⟨138, 3, dd8.er, [.t 6], [some .bool]⟩ := by kernel_rfl
noncomputable def ct8 : Ct := ⟨8, [.c (.hole (.list (.list (.prod (.int .i8) (.int .i8))))), .c (.hole (.int .u8)), .c (.hole (.int .u8))], .c (.hole .bool), fun x => run0 (F8 x.1 x.2.1 x.2.2.1)⟩
theorem ct8_ok : ct8.Ok prog := ct_ok mixed cx8_ok func8 c8_ok (enters_of func8 rfl rfl) dd8 (by kernel_rfl) rfl (fun x => Eq.trans (b := run0 (flat (F8 x.1 x.2.1 x.2.2.1))) (by kernel_rfl) run_flat)

end Go.Proofs.Try

