/- Functions of the program as functions of data, part 2; printed by a program of mine. -/
import Derived.Test.YtdhefcocaomhfaaW80
import Derived.Test.YtdhefcocaomhfaaProg
set_option linter.unusedSectionVars false
set_option linter.unusedVariables false
set_option linter.unusedSimpArgs false
open Go.AM
namespace Go.Proofs.Try
set_option maxRecDepth 100000
set_option synthInstance.maxSize 4000
set_option synthInstance.maxHeartbeats 400000


/- 8 -/
noncomputable def cx8 : Cx := mkCxH [ct34, ct35, ct36, ct26, ct16] []
theorem cx8_ok : cx8.Ok prog := mkCxH_ok ⟨ct34_ok, ct35_ok, ct36_ok, ct26_ok, ct16_ok, trivial⟩ trivial
@[reducible] def p8_1 : Pat := Pat.mk [(3, .c (.ptr 0 0)), (4, hL), (5, hI), (7, hL), (9, hI), (40, hI), (41, hI), (45, hI), (46, hI)] [(0, .cells [.hole tI, .hole tI, .hole tI, .hole (.list (.prod .str tI)), .hole (.list (.prod tI (.prod tI (.prod tI tI))))] false)] [.slot 3] []
@[reducible] def x8_1 : Outs := [(.ret, Pat.mk [(2, .c (.tf false))] [] [] []), (.exit 2, Pat.mk [(3, .c (.ptr 0 0)), (4, hL), (5, hI), (7, hL), (40, hI), (41, hI)] [(0, .cells [.hole tI, .hole tI, .hole tI, .hole (.list (.prod .str tI)), .hole (.list (.prod tI (.prod tI (.prod tI tI))))] false)] [.slot 3] [])]
noncomputable def b8_1 : D prog 119 none 0 := dO [] (pick (kd prog f8) [(0, false), (0, false)]) 0
noncomputable def g8_1 : List Int × Int × List Int × Int × Int × Int × Int × Int × Int × Int × Int × (List (ByteArray × Int)) × (List (Int × Int × Int × Int)) × Unit → Tr0 ((List Int × Int × List Int × Int × Int × Int × Int × Int × Int × Int × Int × (List (ByteArray × Int)) × (List (Int × Int × Int × Int)) × Unit) ⊕ ((Unit) ⊕ ((List Int × Int × List Int × Int × Int × Int × Int × Int × (List (ByteArray × Int)) × (List (Int × Int × Int × Int)) × Unit)))) := fun (v4, v5, v7, v9, v40, v41, v45, v46, c0_0, c0_1, c0_2, c0_3, c0_4, _) =>
 .br (decide (v46 < v45)) (
 .nb v9 (((v7).length : Nat) : Int) <|
 .ni (((v7).getD (Int.toNat v9) (0 : Int)) * v5) <|
 .nb v9 (((v4).length : Nat) : Int) <|
 .nb v46 (((v7).length : Nat) : Int) <|
 .ni (((v7).getD (Int.toNat v46) (0 : Int)) * v5) <|
 .nb v46 (((v4).length : Nat) : Int) <|
 .nb v9 (((v4).length : Nat) : Int) <|
 .nd (!(v5 == (0 : Int))) <|
 .nb v46 (((v4).length : Nat) : Int) <|
 .nd (!(v5 == (0 : Int))) <|
 .br (decide (((v4).getD (Int.toNat v9) (0 : Int)) < (((v7).getD (Int.toNat v9) (0 : Int)) * v5))) (
 .br (decide ((((v7).getD (Int.toNat v46) (0 : Int)) * v5) ≤ ((v4).getD (Int.toNat v46) (0 : Int)))) (
 .br (decide ((0 : Int) < (Int.tmod ((v4).getD (Int.toNat v46) (0 : Int)) v5))) (
 .br (decide ((Int.tmod ((v4).getD (Int.toNat v9) (0 : Int)) v5) < (Int.tmod ((v4).getD (Int.toNat v46) (0 : Int)) v5))) (
 .ret (.inr <| .inl <| ())) (
 .br ((Int.tmod ((v4).getD (Int.toNat v9) (0 : Int)) v5) == (Int.tmod ((v4).getD (Int.toNat v46) (0 : Int)) v5)) (
 .nb v9 (((c0_3).length : Nat) : Int) <|
 .nb v46 (((c0_3).length : Nat) : Int) <|
 .br (!(bite (slt ((c0_3).getD (Int.toNat v9) ((bs []), (0 : Int))).1 ((c0_3).getD (Int.toNat v46) ((bs []), (0 : Int))).1) true (seq ((c0_3).getD (Int.toNat v9) ((bs []), (0 : Int))).1 ((c0_3).getD (Int.toNat v46) ((bs []), (0 : Int))).1))) (
 .ret (.inr <| .inl <| ())) (
 .ni (v46 + (1 : Int)) <|
 .ret (.inl (v4, (v5, (v7, (v9, (v40, (v41, (v45, ((v46 + (1 : Int)), (c0_0, (c0_1, (c0_2, (c0_3, (c0_4, ())))))))))))))))) (
 .ni (v46 + (1 : Int)) <|
 .ret (.inl (v4, (v5, (v7, (v9, (v40, (v41, (v45, ((v46 + (1 : Int)), (c0_0, (c0_1, (c0_2, (c0_3, (c0_4, ()))))))))))))))))) (
 .ni (v46 + (1 : Int)) <|
 .ret (.inl (v4, (v5, (v7, (v9, (v40, (v41, (v45, ((v46 + (1 : Int)), (c0_0, (c0_1, (c0_2, (c0_3, (c0_4, ())))))))))))))))) (
 .ni (v46 + (1 : Int)) <|
 .ret (.inl (v4, (v5, (v7, (v9, (v40, (v41, (v45, ((v46 + (1 : Int)), (c0_0, (c0_1, (c0_2, (c0_3, (c0_4, ())))))))))))))))) (
 .ni (v46 + (1 : Int)) <|
 .ret (.inl (v4, (v5, (v7, (v9, (v40, (v41, (v45, ((v46 + (1 : Int)), (c0_0, (c0_1, (c0_2, (c0_3, (c0_4, ())))))))))))))))) (
 .ret (.inr <| .inr <| (v4, (v5, (v7, (v40, (v41, (c0_0, (c0_1, (c0_2, (c0_3, (c0_4, ()))))))))))))
theorem s8_1 : ∀ x, roundE (kzO (p8_1.T ⊕ x8_1.T)) cx8 ar0 [] p8_1 x8_1 (b8_1) (fun y => some (.inl y)) (fun b => some (.inr b)) x = run0 (g8_1 x) := fun x => by kernel_rfl
noncomputable def L8_1 : LoopS prog 119 none 0 := mkLoop mixed cx8 cx8_ok [] rfl p8_1 x8_1 rfl (b8_1) (fun x => run0 (g8_1 x)) (s8_1)
@[reducible] def p8_0 : Pat := Pat.mk [(3, .c (.ptr 0 0)), (4, hL), (5, hI), (7, hL), (40, hI), (41, hI)] [(0, .cells [.hole tI, .hole tI, .hole tI, .hole (.list (.prod .str tI)), .hole (.list (.prod tI (.prod tI (.prod tI tI))))] false)] [.slot 3] []
@[reducible] def x8_0 : Outs := [(.ret, Pat.mk [(2, .c (.tf false))] [] [] []), (.exit 0, Pat.mk [] [] [] [])]
noncomputable def b8_0 : D prog 119 none 0 := dO [.l L8_1] (pick (kd prog f8) [(0, false)]) 0
noncomputable def g8_0 : List Int × Int × List Int × Int × Int × Int × Int × Int × (List (ByteArray × Int)) × (List (Int × Int × Int × Int)) × Unit → Tr0 ((List Int × Int × List Int × Int × Int × Int × Int × Int × (List (ByteArray × Int)) × (List (Int × Int × Int × Int)) × Unit) ⊕ ((Unit) ⊕ ((Unit)))) := fun (v4, v5, v7, v40, v41, c0_0, c0_1, c0_2, c0_3, c0_4, _) =>
 .br (decide (v41 < v40)) (
 .bd (.it g8_1 (v4, (v5, (v7, (v41, (v40, (v41, ((((v7).length : Nat) : Int), ((0 : Int), (c0_0, (c0_1, (c0_2, (c0_3, (c0_4, ())))))))))))))) fun z4 =>
 .sm z4 (fun z5 =>
 .ret (.inr <| .inl <| ())) fun z6 =>
 .ni (z6.2.2.2.2.1 + (1 : Int)) <|
 .ret (.inl (z6.1, (z6.2.1, (z6.2.2.1, (z6.2.2.2.1, ((z6.2.2.2.2.1 + (1 : Int)), (z6.2.2.2.2.2.1, (z6.2.2.2.2.2.2.1, (z6.2.2.2.2.2.2.2.1, (z6.2.2.2.2.2.2.2.2.1, (z6.2.2.2.2.2.2.2.2.2.1, ())))))))))))) (
 .ret (.inr <| .inr <| ()))
theorem s8_0 : ∀ x, roundE (kzO (p8_0.T ⊕ x8_0.T)) cx8 ar0 [] p8_0 x8_0 (b8_0) (fun y => some (.inl y)) (fun b => some (.inr b)) x = run0 (g8_0 x) := fun x => by kernel_rfl
noncomputable def L8_0 : LoopS prog 119 none 0 := mkLoop mixed cx8 cx8_ok [] rfl p8_0 x8_0 rfl (b8_0) (fun x => run0 (g8_0 x)) (s8_0)
noncomputable def dd8 : D prog 119 none 0 := dO [.l L8_0] (kd prog f8) 0
noncomputable def F8 (a0 : Int × Int × Int × (List Int) × List (Int × Int × Int × Int)) : Tr0 (Bool × Unit) :=
 .bd (F34 (a0.1, (a0.2.1, (a0.2.2.1, (a0.2.2.2.1, a0.2.2.2.2))))) fun y0 =>
 .bd (F35 (y0.1.1, (y0.1.2.1, (y0.1.2.2.1, (y0.1.2.2.2.1, y0.1.2.2.2.2)))) []) fun y1 =>
 .bd (F36 (y0.1.1, (y0.1.2.1, (y0.1.2.2.1, (y0.1.2.2.2.1, y0.1.2.2.2.2)))) y1.1) fun y2 =>
 .bd (F26 (y0.1.1, (y0.1.2.1, (y0.1.2.2.1, (y0.1.2.2.2.1, y0.1.2.2.2.2))))) fun y3 =>
 .br (!(y3.2.1 == (0 : Int))) (
 .ret (false, ())) (
 .br (!((((y3.1).length : Nat) : Int) == (((y2.1).length : Nat) : Int))) (
 .ret (false, ())) (
 .bd (.it g8_0 (y2.1, (y2.2.1, (y3.1, ((((y3.1).length : Nat) : Int), ((0 : Int), (y0.1.1, (y0.1.2.1, (y0.1.2.2.1, (y0.1.2.2.2.1, (y0.1.2.2.2.2, ()))))))))))) fun z7 =>
 .sm z7 (fun z8 =>
 .ret (false, ())) fun z9 =>
 .bd (F16) fun y10 =>
 .ret (y10.1, ())))
theorem c8_ok : trF prog f8 = some ⟨119, 1, dd8.er, [.t 2], [some .bool]⟩ := by kernel_rfl
noncomputable def ct8 : Ct := ⟨8, [.c (.hole (.prod (.int .u16) (.prod (.int .u8) (.prod (.int .u8) (.prod (.list (.int .u16)) (.list (.prod (.int .u8) (.prod (.int .u8) (.prod (.int .u8) (.int .u8))))))))))], .c (.hole .bool), fun x => run0 (F8 x.1)⟩
theorem ct8_ok : ct8.Ok prog := ct_ok mixed cx8_ok func8 c8_ok (enters_of func8 rfl rfl) dd8 (by kernel_rfl) rfl (fun x => by kernel_rfl)

end Go.Proofs.Try

