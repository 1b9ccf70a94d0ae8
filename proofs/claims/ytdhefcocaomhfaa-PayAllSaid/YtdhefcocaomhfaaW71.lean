/- Functions of the program as functions of data, part 2; printed by a program of mine. -/
import Derived.Test.YtdhefcocaomhfaaW70
import Derived.Test.YtdhefcocaomhfaaProg
set_option linter.unusedSectionVars false
set_option linter.unusedVariables false
set_option linter.unusedSimpArgs false
open Go.AM
namespace Go.Proofs.Try
set_option maxRecDepth 100000
set_option synthInstance.maxSize 4000
set_option synthInstance.maxHeartbeats 400000


/- 7 -/
noncomputable def cx7 : Cx := mkCxH [ct34, ct35, ct36, ct17, ct26, ct28, ct24, ct20, ct32, ct16] []
theorem cx7_ok : cx7.Ok prog := mkCxH_ok ⟨ct34_ok, ct35_ok, ct36_ok, ct17_ok, ct26_ok, ct28_ok, ct24_ok, ct20_ok, ct32_ok, ct16_ok, trivial⟩ trivial
@[reducible] def p7_0 : Pat := Pat.mk [(3, .c (.ptr 0 0)), (4, hL), (5, hL), (6, hI), (7, hI), (11, hL), (13, hI), (15, hI), (16, hI), (18, hI), (97, hL), (98, hI), (99, hI)] [(0, .cells [.hole tI, .hole tI, .hole tI, .hole (.list (.prod .str tI)), .hole (.list (.prod tI (.prod tI (.prod tI tI))))] false)] [.slot 3] []
@[reducible] def x7_0 : Outs := [(.ret, Pat.mk [(2, .c (.tf false))] [] [] []), (.exit 0, Pat.mk [(3, .c (.ptr 0 0)), (7, hI), (11, hL), (15, hI), (16, hI), (18, hI)] [(0, .cells [.hole tI, .hole tI, .hole tI, .hole (.list (.prod .str tI)), .hole (.list (.prod tI (.prod tI (.prod tI tI))))] false)] [.slot 3] [])]
noncomputable def b7_0 : D prog 205 none 0 := dO [] (pick (kd prog f7) [(0, false)]) 0
noncomputable def g7_0 : List Int × List Int × Int × Int × List Int × Int × Int × Int × Int × List Int × Int × Int × Int × Int × Int × (List (ByteArray × Int)) × (List (Int × Int × Int × Int)) × Unit → Tr0 ((List Int × List Int × Int × Int × List Int × Int × Int × Int × Int × List Int × Int × Int × Int × Int × Int × (List (ByteArray × Int)) × (List (Int × Int × Int × Int)) × Unit) ⊕ ((Unit) ⊕ ((Int × List Int × Int × Int × Int × Int × Int × Int × (List (ByteArray × Int)) × (List (Int × Int × Int × Int)) × Unit)))) := fun (v4, v5, v6, v7, v11, v13, v15, v16, v18, v97, v98, v99, c0_0, c0_1, c0_2, c0_3, c0_4, _) =>
 .br (decide (v99 < v98)) (
 .nb v99 (((v97).length : Nat) : Int) <|
 .ni (v18 + ((v97).getD (Int.toNat v99) (0 : Int))) <|
 .br (decide (((v97).getD (Int.toNat v99) (0 : Int)) < (0 : Int))) (
 .ret (.inr <| .inl <| ())) (
 .nb v99 (((c0_3).length : Nat) : Int) <|
 .br (decide (((c0_3).getD (Int.toNat v99) ((bs []), (0 : Int))).2 < ((v97).getD (Int.toNat v99) (0 : Int)))) (
 .ret (.inr <| .inl <| ())) (
 .ni (((v97).getD (Int.toNat v99) (0 : Int)) * v6) <|
 .nb v99 (((v5).length : Nat) : Int) <|
 .ni (((v5).getD (Int.toNat v99) (0 : Int)) - v6) <|
 .br (decide ((((v97).getD (Int.toNat v99) (0 : Int)) * v6) ≤ (((v5).getD (Int.toNat v99) (0 : Int)) - v6))) (
 .ret (.inr <| .inl <| ())) (
 .ni (((v97).getD (Int.toNat v99) (0 : Int)) * v6) <|
 .nb v99 (((v5).length : Nat) : Int) <|
 .ni (((v5).getD (Int.toNat v99) (0 : Int)) + v6) <|
 .br (decide ((((v5).getD (Int.toNat v99) (0 : Int)) + v6) ≤ (((v97).getD (Int.toNat v99) (0 : Int)) * v6))) (
 .ret (.inr <| .inl <| ())) (
 .br (decide ((0 : Int) < v13)) (
 .nb v99 (((v4).length : Nat) : Int) <|
 .br (decide ((0 : Int) < ((v4).getD (Int.toNat v99) (0 : Int)))) (
 .nb v99 (((c0_3).length : Nat) : Int) <|
 .br (!(((v97).getD (Int.toNat v99) (0 : Int)) == ((c0_3).getD (Int.toNat v99) ((bs []), (0 : Int))).2)) (
 .ret (.inr <| .inl <| ())) (
 .nb v99 (((v4).length : Nat) : Int) <|
 .ni (v15 * ((v4).getD (Int.toNat v99) (0 : Int))) <|
 .ni ((v15 * ((v4).getD (Int.toNat v99) (0 : Int))) * v6) <|
 .nb v99 (((c0_3).length : Nat) : Int) <|
 .ni (((c0_3).getD (Int.toNat v99) ((bs []), (0 : Int))).2 * v16) <|
 .ni ((((c0_3).getD (Int.toNat v99) ((bs []), (0 : Int))).2 * v16) * v6) <|
 .nb v99 (((v5).length : Nat) : Int) <|
 .ni (((v5).getD (Int.toNat v99) (0 : Int)) * v16) <|
 .br (!((imin ((v15 * ((v4).getD (Int.toNat v99) (0 : Int))) * v6) ((((c0_3).getD (Int.toNat v99) ((bs []), (0 : Int))).2 * v16) * v6)) == (((v5).getD (Int.toNat v99) (0 : Int)) * v16))) (
 .ret (.inr <| .inl <| ())) (
 .ni (v99 + (1 : Int)) <|
 .ret (.inl (v4, (v5, (v6, (v7, (v11, (v13, (v15, (v16, ((v18 + ((v97).getD (Int.toNat v99) (0 : Int))), (v97, (v98, ((v99 + (1 : Int)), (c0_0, (c0_1, (c0_2, (c0_3, (c0_4, ()))))))))))))))))))))) (
 .nb v99 (((v4).length : Nat) : Int) <|
 .ni (v15 * ((v4).getD (Int.toNat v99) (0 : Int))) <|
 .ni ((v15 * ((v4).getD (Int.toNat v99) (0 : Int))) * v6) <|
 .nb v99 (((c0_3).length : Nat) : Int) <|
 .ni (((c0_3).getD (Int.toNat v99) ((bs []), (0 : Int))).2 * v16) <|
 .ni ((((c0_3).getD (Int.toNat v99) ((bs []), (0 : Int))).2 * v16) * v6) <|
 .nb v99 (((v5).length : Nat) : Int) <|
 .ni (((v5).getD (Int.toNat v99) (0 : Int)) * v16) <|
 .br (!((imin ((v15 * ((v4).getD (Int.toNat v99) (0 : Int))) * v6) ((((c0_3).getD (Int.toNat v99) ((bs []), (0 : Int))).2 * v16) * v6)) == (((v5).getD (Int.toNat v99) (0 : Int)) * v16))) (
 .ret (.inr <| .inl <| ())) (
 .ni (v99 + (1 : Int)) <|
 .ret (.inl (v4, (v5, (v6, (v7, (v11, (v13, (v15, (v16, ((v18 + ((v97).getD (Int.toNat v99) (0 : Int))), (v97, (v98, ((v99 + (1 : Int)), (c0_0, (c0_1, (c0_2, (c0_3, (c0_4, ()))))))))))))))))))))) (
 .nb v99 (((v4).length : Nat) : Int) <|
 .ni (v15 * ((v4).getD (Int.toNat v99) (0 : Int))) <|
 .ni ((v15 * ((v4).getD (Int.toNat v99) (0 : Int))) * v6) <|
 .nb v99 (((c0_3).length : Nat) : Int) <|
 .ni (((c0_3).getD (Int.toNat v99) ((bs []), (0 : Int))).2 * v16) <|
 .ni ((((c0_3).getD (Int.toNat v99) ((bs []), (0 : Int))).2 * v16) * v6) <|
 .nb v99 (((v5).length : Nat) : Int) <|
 .ni (((v5).getD (Int.toNat v99) (0 : Int)) * v16) <|
 .br (!((imin ((v15 * ((v4).getD (Int.toNat v99) (0 : Int))) * v6) ((((c0_3).getD (Int.toNat v99) ((bs []), (0 : Int))).2 * v16) * v6)) == (((v5).getD (Int.toNat v99) (0 : Int)) * v16))) (
 .ret (.inr <| .inl <| ())) (
 .ni (v99 + (1 : Int)) <|
 .ret (.inl (v4, (v5, (v6, (v7, (v11, (v13, (v15, (v16, ((v18 + ((v97).getD (Int.toNat v99) (0 : Int))), (v97, (v98, ((v99 + (1 : Int)), (c0_0, (c0_1, (c0_2, (c0_3, (c0_4, ()))))))))))))))))))))))))) (
 .ret (.inr <| .inr <| (v7, (v11, (v15, (v16, (v18, (c0_0, (c0_1, (c0_2, (c0_3, (c0_4, ()))))))))))))
theorem s7_0 : ∀ x, roundE (kzO (p7_0.T ⊕ x7_0.T)) cx7 ar0 [] p7_0 x7_0 (b7_0) (fun y => some (.inl y)) (fun b => some (.inr b)) x = run0 (g7_0 x) := fun x => by kernel_rfl
noncomputable def L7_0 : LoopS prog 205 none 0 := mkLoop mixed cx7 cx7_ok [] rfl p7_0 x7_0 rfl (b7_0) (fun x => run0 (g7_0 x)) (s7_0)
noncomputable def dd7 : D prog 205 none 0 := dO [.l L7_0] (kd prog f7) 0
noncomputable def F7 (a0 : Int × Int × Int × (List Int) × List (Int × Int × Int × Int)) : Tr0 (Bool × Unit) :=
 .bd (F34 (a0.1, (a0.2.1, (a0.2.2.1, (a0.2.2.2.1, a0.2.2.2.2))))) fun y0 =>
 .bd (F35 (y0.1.1, (y0.1.2.1, (y0.1.2.2.1, (y0.1.2.2.2.1, y0.1.2.2.2.2)))) []) fun y1 =>
 .bd (F36 (y0.1.1, (y0.1.2.1, (y0.1.2.2.1, (y0.1.2.2.2.1, y0.1.2.2.2.2)))) y1.1) fun y2 =>
 .bd (F17 (y0.1.1, (y0.1.2.1, (y0.1.2.2.1, (y0.1.2.2.2.1, y0.1.2.2.2.2))))) fun y3 =>
 .bd (F26 (y0.1.1, (y0.1.2.1, (y0.1.2.2.1, (y0.1.2.2.2.1, y0.1.2.2.2.2))))) fun y4 =>
 .bd (F28 (y0.1.1, (y0.1.2.1, (y0.1.2.2.1, (y0.1.2.2.2.1, y0.1.2.2.2.2))))) fun y5 =>
 .bd (F24 (y0.1.1, (y0.1.2.1, (y0.1.2.2.1, (y0.1.2.2.2.1, y0.1.2.2.2.2))))) fun y6 =>
 .br (!(y3.2.2.1 == (0 : Int))) (
 .ret (false, ())) (
 .br (!(y4.2.1 == (0 : Int))) (
 .ret (false, ())) (
 .br (!(y5.2.1 == (0 : Int))) (
 .ret (false, ())) (
 .br (!(y6.2.2.1 == (0 : Int))) (
 .ret (false, ())) (
 .bd (F20 y3.1 y1.1) fun y7 =>
 .br (!y7.1) (
 .ret (false, ())) (
 .br (!((((y4.1).length : Nat) : Int) == (((y1.1).length : Nat) : Int))) (
 .ret (false, ())) (
 .ni (y0.1.1 - y2.2.2.1) <|
 .br (!(y5.1 == (y0.1.1 - y2.2.2.1))) (
 .ret (false, ())) (
 .br (decide (y6.2.1 < (1 : Int))) (
 .ret (false, ())) (
 .br (decide (y6.1 < (0 : Int))) (
 .ret (false, ())) (
 .bd (.it g7_0 (y1.1, (y2.1, (y2.2.1, (y2.2.2.1, (y4.1, (y5.1, (y6.1, (y6.2.1, ((0 : Int), (y4.1, ((((y4.1).length : Nat) : Int), ((0 : Int), (y0.1.1, (y0.1.2.1, (y0.1.2.2.1, (y0.1.2.2.2.1, (y0.1.2.2.2.2, ())))))))))))))))))) fun z8 =>
 .sm z8 (fun z9 =>
 .ret (false, ())) fun z10 =>
 .br (z10.2.2.2.2.1 == z10.1) (
 .bd (F32 (z10.2.2.2.2.2.1, (z10.2.2.2.2.2.2.1, (z10.2.2.2.2.2.2.2.1, (z10.2.2.2.2.2.2.2.2.1, z10.2.2.2.2.2.2.2.2.2.1)))) z10.2.1 z10.2.2.1 z10.2.2.2.1) fun y11 =>
 .br (y11.1 == (0 : Int)) (
 .bd (F16) fun y12 =>
 .ret (y12.1, ())) (
 .ret (false, ()))) (
 .ret (false, ())))))))))))
theorem c7_ok : trF prog f7 = some ⟨205, 1, dd7.er, [.t 2], [some .bool]⟩ := by kernel_rfl
noncomputable def ct7 : Ct := ⟨7, [.c (.hole (.prod (.int .u16) (.prod (.int .u8) (.prod (.int .u8) (.prod (.list (.int .u16)) (.list (.prod (.int .u8) (.prod (.int .u8) (.prod (.int .u8) (.int .u8))))))))))], .c (.hole .bool), fun x => run0 (F7 x.1)⟩
theorem ct7_ok : ct7.Ok prog := ct_ok mixed cx7_ok func7 c7_ok (enters_of func7 rfl rfl) dd7 (by kernel_rfl) rfl (fun x => by kernel_rfl)

end Go.Proofs.Try

