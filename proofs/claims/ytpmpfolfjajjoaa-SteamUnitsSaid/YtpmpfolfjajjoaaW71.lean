/- Functions of the program as functions of data, part 2; printed by a program of mine. -/
import Derived.Test.YtpmpfolfjajjoaaW70
import Derived.Test.YtpmpfolfjajjoaaProg
set_option linter.unusedSectionVars false
set_option linter.unusedVariables false
set_option linter.unusedSimpArgs false
open Go.AM
namespace Go.Proofs.Try
set_option maxRecDepth 100000
set_option synthInstance.maxSize 4000
set_option synthInstance.maxHeartbeats 400000


/- 25, lent -/
@[reducible] def pH25 : Pat := Pat.mk [(0, .c (.hole (.list (.prod (.int .i8) (.int .i8)))))] [] [] []
@[reducible] def qH25 : Pat := Pat.mk [(0, .c (.sl0 0 (.prod tI tI)))] [(0, .arr (.prod tI tI) false)] [.slot 0] []
noncomputable def cxH25 : Cx := (mkCxH [] [])
theorem cxH25_ok : cxH25.Ok prog := mkCxH_ok trivial trivial
@[reducible] def pH25_0 : Pat := Pat.mk [(0, .c (.hole (.list (.prod (.int .i8) (.int .i8))))), (3, .c (.sl0 0 (.prod tI tI))), (4, hI)] [(0, .arr (.prod tI tI) false)] [.slot 3] []
@[reducible] def xH25_0 : Outs := [(.exit 0, Pat.mk [(3, .c (.sl0 0 (.prod tI tI)))] [(0, .arr (.prod tI tI) false)] [.slot 3] [])]
noncomputable def bH25_0 : D prog 38 none 0 := dO [] (pick (kd prog f25) [(0, false)]) 0
noncomputable def gH25_0 : (List (Int × Int)) × Nat × Int × (List (Int × Int)) × Unit → Tr0 (((List (Int × Int)) × Nat × Int × (List (Int × Int)) × Unit) ⊕ ((Nat × (List (Int × Int)) × Unit))) := fun (v0, nv3, v4, b0, _) =>
 .br (decide (v4 < (((v0).length : Nat) : Int))) (
 .br (decide (v4 < (4 : Int))) (
 .jx (
 .br (v4 == (0 : Int)) (
 .ret (.inl (v0, ((0 : Nat), (v4, (v4, ((decide (v4 < (4 : Int))), ([], ())))))))) (
 .ret (.inl (v0, (nv3, (v4, (v4, ((decide (v4 < (4 : Int))), (b0, ()))))))))) fun j0 =>
 .nb j0.2.2.1 (((j0.1).length : Nat) : Int) <|
 .ni ((j0.1).getD (Int.toNat j0.2.2.1) ((0 : Int), (0 : Int))).1 <|
 .nd (!((8 : Int) == (0 : Int))) <|
 .ni (Int.tdiv ((j0.1).getD (Int.toNat j0.2.2.1) ((0 : Int), (0 : Int))).1 (8 : Int)) <|
 .nb j0.2.2.1 (((j0.1).length : Nat) : Int) <|
 .ni ((j0.1).getD (Int.toNat j0.2.2.1) ((0 : Int), (0 : Int))).2 <|
 .nd (!((8 : Int) == (0 : Int))) <|
 .ni (Int.tdiv ((j0.1).getD (Int.toNat j0.2.2.1) ((0 : Int), (0 : Int))).2 (8 : Int)) <|
 .nd (decide ((j0.2.1 + (((((((Int.tdiv ((j0.1).getD (Int.toNat j0.2.2.1) ((0 : Int), (0 : Int))).1 (8 : Int)), (Int.tdiv ((j0.1).getD (Int.toNat j0.2.2.1) ((0 : Int), (0 : Int))).2 (8 : Int))) :: [])).drop (0 : Nat)).take (1 : Nat))).length) < bigL)) <|
 .ni (j0.2.2.1 + (1 : Int)) <|
 .ret (.inl (j0.1, ((j0.2.1 + (((((((Int.tdiv ((j0.1).getD (Int.toNat j0.2.2.1) ((0 : Int), (0 : Int))).1 (8 : Int)), (Int.tdiv ((j0.1).getD (Int.toNat j0.2.2.1) ((0 : Int), (0 : Int))).2 (8 : Int))) :: [])).drop (0 : Nat)).take (1 : Nat))).length), ((j0.2.2.1 + (1 : Int)), (((((j0.2.2.2.2.2.1).drop (0 : Nat)).take j0.2.1) ++ ((((((Int.tdiv ((j0.1).getD (Int.toNat j0.2.2.1) ((0 : Int), (0 : Int))).1 (8 : Int)), (Int.tdiv ((j0.1).getD (Int.toNat j0.2.2.1) ((0 : Int), (0 : Int))).2 (8 : Int))) :: [])).drop (0 : Nat)).take (1 : Nat))), ())))))) (
 .ret (.inr (nv3, (b0, ()))))) (
 .ret (.inr (nv3, (b0, ()))))
theorem sH25_0 : ∀ x, roundE (kzO (pH25_0.T ⊕ xH25_0.T)) cxH25 ar0 [] pH25_0 xH25_0 (bH25_0) (fun y => some (.inl y)) (fun b => some (.inr b)) x = run0 (gH25_0 x) := fun x => Eq.trans (b := run0 (flat (gH25_0 x))) (by kernel_rfl) run_flat
noncomputable def LH25_0 : LoopS prog 38 none 0 := mkLoop mixed cxH25 cxH25_ok [] rfl pH25_0 xH25_0 rfl (bH25_0) (fun x => run0 (gH25_0 x)) (sH25_0)
noncomputable def ddH25 : D prog 38 none 0 := dO [.l LH25_0] (kd prog f25) 0
noncomputable def FH25 (v0 : List (Int × Int)) : Tr0 (Nat × (List (Int × Int)) × Unit) :=
 .bd (.it gH25_0 (v0, ((1 : Nat), ((0 : Int), ((((1 : Int), (1 : Int)) :: []), ()))))) fun z1 =>
 .ret (z1.1, (z1.2.1, ()))
theorem cH25_ok : trF prog f25 = some ⟨38, 1, ddH25.er, [.t 2], [some (.list (.prod tI tI))]⟩ := by kernel_rfl
noncomputable def ht25 : Ht := ⟨25, pH25, qH25, (fun x => run0 (FH25 x.1))⟩
theorem ht25_ok : ht25.Ok prog := ht_ok mixed cxH25_ok rfl func25 cH25_ok (enters_of func25 rfl rfl) ddH25 (by kernel_rfl) rfl rfl ⟨_, rfl⟩ rfl (pre := []) rfl (fun x => by kernel_rfl)

/- 7 -/
noncomputable def cx7 : Cx := (mkCxH [ct10, ct16, ct23, ct24, ct13, ct18] [ht25])
theorem cx7_ok : cx7.Ok prog := mkCxH_ok ⟨ct10_ok, ct16_ok, ct23_ok, ct24_ok, ct13_ok, ct18_ok, trivial⟩ ⟨⟨ht25_ok, rfl⟩, trivial⟩
@[reducible] def p7_1 : Pat := Pat.mk [(1, .c (.hole (.list (.prod (.int .i8) (.int .i8))))), (6, .c (.pa 0 (.int .i8) 2)), (7, .c (.pa 1 (.int .i8) 2)), (9, .c (.hole (.list (.list (.prod tI tI))))), (11, .c (.sl0 2 (.list (.prod tI tI)))), (12, .c (.sl0 3 (.list (.prod tI tI)))), (13, hI), (14, .c (.sl0 4 (.prod tI tI))), (37, hI), (38, hI), (55, .c (.hole (.list (.prod tI tI)))), (56, hI), (57, hI)] [(0, .arr (.int .i8) false), (1, .arr (.int .i8) false), (2, .arr (.list (.prod tI tI)) false), (3, .arr (.list (.prod tI tI)) false), (4, .arr (.prod tI tI) false)] [.slot 6, .slot 7, .slot 11, .slot 12, .slot 14] []
@[reducible] def x7_1 : Outs := [(.exit 2, Pat.mk [(1, .c (.hole (.list (.prod (.int .i8) (.int .i8))))), (6, .c (.pa 0 (.int .i8) 2)), (7, .c (.pa 1 (.int .i8) 2)), (9, .c (.hole (.list (.list (.prod tI tI))))), (11, .c (.sl0 2 (.list (.prod tI tI)))), (12, .c (.sl0 3 (.list (.prod tI tI)))), (14, .c (.sl0 4 (.prod tI tI))), (37, hI), (38, hI)] [(0, .arr (.int .i8) false), (1, .arr (.int .i8) false), (2, .arr (.list (.prod tI tI)) false), (3, .arr (.list (.prod tI tI)) false), (4, .arr (.prod tI tI) false)] [.slot 6, .slot 7, .slot 11, .slot 12, .slot 14] [])]
noncomputable def b7_1 : D prog 209 none 0 := dO [] (pick (kd prog f7) [(0, false), (0, false)]) 0
noncomputable def g7_1 : (List (Int × Int)) × (List (List (Int × Int))) × Nat × Nat × Int × Nat × Int × Int × (List (Int × Int)) × Int × Int × List Int × List Int × (List (List (Int × Int))) × (List (List (Int × Int))) × (List (Int × Int)) × Unit → Tr0 (((List (Int × Int)) × (List (List (Int × Int))) × Nat × Nat × Int × Nat × Int × Int × (List (Int × Int)) × Int × Int × List Int × List Int × (List (List (Int × Int))) × (List (List (Int × Int))) × (List (Int × Int)) × Unit) ⊕ (((List (Int × Int)) × (List (List (Int × Int))) × Nat × Nat × Nat × Int × Int × List Int × List Int × (List (List (Int × Int))) × (List (List (Int × Int))) × (List (Int × Int)) × Unit))) := fun (v1, v9, nv11, nv12, v13, nv14, v37, v38, v55, v56, v57, b0, b1, b2, b3, b4, _) =>
 .br (decide (v57 < v56)) (
 .nb v57 (((v55).length : Nat) : Int) <|
 .jx (
 .br (v13 == (0 : Int)) (
 .nd (decide ((0 : Nat) < (b1).length)) <|
 .ni ((b1).getD (0 : Nat) (0 : Int)) <|
 .ni (((v55).getD (Int.toNat v57) ((0 : Int), (0 : Int))).1 + ((b1).getD (0 : Nat) (0 : Int))) <|
 .nd (decide ((1 : Nat) < (b1).length)) <|
 .ni ((b1).getD (1 : Nat) (0 : Int)) <|
 .ni (((v55).getD (Int.toNat v57) ((0 : Int), (0 : Int))).2 + ((b1).getD (1 : Nat) (0 : Int))) <|
 .ret (.inl (v1, (v9, (nv11, (nv12, (v13, (nv14, (v37, (v38, (v55, (v56, (v57, (b0, (b1, (b2, (b3, (b4, ((((v55).getD (Int.toNat v57) ((0 : Int), (0 : Int))).1 + ((b1).getD (0 : Nat) (0 : Int))), ((((v55).getD (Int.toNat v57) ((0 : Int), (0 : Int))).2 + ((b1).getD (1 : Nat) (0 : Int))), ())))))))))))))))))))) (
 .ret (.inl (v1, (v9, (nv11, (nv12, (v13, (nv14, (v37, (v38, (v55, (v56, (v57, (b0, (b1, (b2, (b3, (b4, (((v55).getD (Int.toNat v57) ((0 : Int), (0 : Int))).1, (((v55).getD (Int.toNat v57) ((0 : Int), (0 : Int))).2, ()))))))))))))))))))))) fun j1 =>
 .nd (decide ((j1.2.2.2.2.2.1 + ((((((j1.2.2.2.2.2.2.2.2.2.2.2.2.2.2.2.2.1, j1.2.2.2.2.2.2.2.2.2.2.2.2.2.2.2.2.2.1) :: [])).drop (0 : Nat)).take (1 : Nat))).length) < bigL)) <|
 .ni (j1.2.2.2.2.2.2.2.2.2.2.1 + (1 : Int)) <|
 .ret (.inl (j1.1, (j1.2.1, (j1.2.2.1, (j1.2.2.2.1, (j1.2.2.2.2.1, ((j1.2.2.2.2.2.1 + ((((((j1.2.2.2.2.2.2.2.2.2.2.2.2.2.2.2.2.1, j1.2.2.2.2.2.2.2.2.2.2.2.2.2.2.2.2.2.1) :: [])).drop (0 : Nat)).take (1 : Nat))).length), (j1.2.2.2.2.2.2.1, (j1.2.2.2.2.2.2.2.1, (j1.2.2.2.2.2.2.2.2.1, (j1.2.2.2.2.2.2.2.2.2.1, ((j1.2.2.2.2.2.2.2.2.2.2.1 + (1 : Int)), (j1.2.2.2.2.2.2.2.2.2.2.2.1, (j1.2.2.2.2.2.2.2.2.2.2.2.2.1, (j1.2.2.2.2.2.2.2.2.2.2.2.2.2.1, (j1.2.2.2.2.2.2.2.2.2.2.2.2.2.2.1, (((((j1.2.2.2.2.2.2.2.2.2.2.2.2.2.2.2.1).drop (0 : Nat)).take j1.2.2.2.2.2.1) ++ (((((j1.2.2.2.2.2.2.2.2.2.2.2.2.2.2.2.2.1, j1.2.2.2.2.2.2.2.2.2.2.2.2.2.2.2.2.2.1) :: [])).drop (0 : Nat)).take (1 : Nat))), ())))))))))))))))))) (
 .ret (.inr (v1, (v9, (nv11, (nv12, (nv14, (v37, (v38, (b0, (b1, (b2, (b3, (b4, ()))))))))))))))
theorem s7_1 : ∀ x, roundE (kzO (p7_1.T ⊕ x7_1.T)) cx7 ar0 [] p7_1 x7_1 (b7_1) (fun y => some (.inl y)) (fun b => some (.inr b)) x = run0 (g7_1 x) := fun x => Eq.trans (b := run0 (flat (g7_1 x))) (by kernel_rfl) run_flat
noncomputable def L7_1 : LoopS prog 209 none 0 := mkLoop mixed cx7 cx7_ok [] rfl p7_1 x7_1 rfl (b7_1) (fun x => run0 (g7_1 x)) (s7_1)
@[reducible] def p7_0 : Pat := Pat.mk [(1, .c (.hole (.list (.prod (.int .i8) (.int .i8))))), (6, .c (.pa 0 (.int .i8) 2)), (7, .c (.pa 1 (.int .i8) 2)), (9, .c (.hole (.list (.list (.prod tI tI))))), (11, .c (.sl0 2 (.list (.prod tI tI)))), (12, .c (.sl0 3 (.list (.prod tI tI)))), (37, hI), (38, hI)] [(0, .arr (.int .i8) false), (1, .arr (.int .i8) false), (2, .arr (.list (.prod tI tI)) false), (3, .arr (.list (.prod tI tI)) false)] [.slot 6, .slot 7, .slot 11, .slot 12] []
@[reducible] def x7_0 : Outs := [(.exit 0, Pat.mk [(1, .c (.hole (.list (.prod (.int .i8) (.int .i8))))), (6, .c (.pa 0 (.int .i8) 2)), (7, .c (.pa 1 (.int .i8) 2)), (9, .c (.hole (.list (.list (.prod tI tI))))), (11, .c (.sl0 2 (.list (.prod tI tI)))), (12, .c (.sl0 3 (.list (.prod tI tI))))] [(0, .arr (.int .i8) false), (1, .arr (.int .i8) false), (2, .arr (.list (.prod tI tI)) false), (3, .arr (.list (.prod tI tI)) false)] [.slot 6, .slot 7, .slot 11, .slot 12] [])]
noncomputable def b7_0 : D prog 209 none 0 := dO [.l L7_1] (pick (kd prog f7) [(0, false)]) 0
noncomputable def g7_0 : (List (Int × Int)) × (List (List (Int × Int))) × Nat × Nat × Int × Int × List Int × List Int × (List (List (Int × Int))) × (List (List (Int × Int))) × Unit → Tr0 (((List (Int × Int)) × (List (List (Int × Int))) × Nat × Nat × Int × Int × List Int × List Int × (List (List (Int × Int))) × (List (List (Int × Int))) × Unit) ⊕ (((List (Int × Int)) × (List (List (Int × Int))) × Nat × Nat × List Int × List Int × (List (List (Int × Int))) × (List (List (Int × Int))) × Unit))) := fun (v1, v9, nv11, nv12, v37, v38, b0, b1, b2, b3, _) =>
 .br (decide (v38 < v37)) (
 .ni ((((v9).length : Nat) : Int) - (1 : Int)) <|
 .ni (((((v9).length : Nat) : Int) - (1 : Int)) - v38) <|
 .nb (((((v9).length : Nat) : Int) - (1 : Int)) - v38) (((v9).length : Nat) : Int) <|
 .nd (decide ((nv11 + (((((((v9).getD (Int.toNat (((((v9).length : Nat) : Int) - (1 : Int)) - v38)) []) :: [])).drop (0 : Nat)).take (1 : Nat))).length) < bigL)) <|
 .nb v38 (((v9).length : Nat) : Int) <|
 .bd (.it g7_1 (v1, (v9, ((nv11 + (((((((v9).getD (Int.toNat (((((v9).length : Nat) : Int) - (1 : Int)) - v38)) []) :: [])).drop (0 : Nat)).take (1 : Nat))).length), (nv12, (v38, ((0 : Nat), (v37, (v38, (((v9).getD (Int.toNat v38) []), ((((((v9).getD (Int.toNat v38) [])).length : Nat) : Int), ((0 : Int), (b0, (b1, (((((b2).drop (0 : Nat)).take nv11) ++ ((((((v9).getD (Int.toNat (((((v9).length : Nat) : Int) - (1 : Int)) - v38)) []) :: [])).drop (0 : Nat)).take (1 : Nat))), (b3, ([], ()))))))))))))))))) fun z2 =>
 .nd (decide ((z2.2.2.2.1 + ((((((((z2.2.2.2.2.2.2.2.2.2.2.2.1).drop (0 : Nat)).take z2.2.2.2.2.1) :: [])).drop (0 : Nat)).take (1 : Nat))).length) < bigL)) <|
 .ni (z2.2.2.2.2.2.2.1 + (1 : Int)) <|
 .ret (.inl (z2.1, (z2.2.1, (z2.2.2.1, ((z2.2.2.2.1 + ((((((((z2.2.2.2.2.2.2.2.2.2.2.2.1).drop (0 : Nat)).take z2.2.2.2.2.1) :: [])).drop (0 : Nat)).take (1 : Nat))).length), (z2.2.2.2.2.2.1, ((z2.2.2.2.2.2.2.1 + (1 : Int)), (z2.2.2.2.2.2.2.2.1, (z2.2.2.2.2.2.2.2.2.1, (z2.2.2.2.2.2.2.2.2.2.1, (((((z2.2.2.2.2.2.2.2.2.2.2.1).drop (0 : Nat)).take z2.2.2.2.1) ++ (((((((z2.2.2.2.2.2.2.2.2.2.2.2.1).drop (0 : Nat)).take z2.2.2.2.2.1) :: [])).drop (0 : Nat)).take (1 : Nat))), ())))))))))))) (
 .ret (.inr (v1, (v9, (nv11, (nv12, (b0, (b1, (b2, (b3, ()))))))))))
theorem s7_0 : ∀ x, roundE (kzO (p7_0.T ⊕ x7_0.T)) cx7 ar0 [] p7_0 x7_0 (b7_0) (fun y => some (.inl y)) (fun b => some (.inr b)) x = run0 (g7_0 x) := fun x => by kernel_rfl
noncomputable def L7_0 : LoopS prog 209 none 0 := mkLoop mixed cx7 cx7_ok [] rfl p7_0 x7_0 rfl (b7_0) (fun x => run0 (g7_0 x)) (s7_0)
@[reducible] def p7_2 : Pat := Pat.mk [(1, .c (.hole (.list (.prod (.int .i8) (.int .i8))))), (6, .c (.pa 0 (.int .i8) 2)), (7, .c (.pa 1 (.int .i8) 2)), (9, .c (.hole (.list (.list (.prod tI tI))))), (21, .c (.hole (.list (.prod tI tI)))), (125, .c (.hole (.list (.prod tI tI)))), (126, hI), (127, hI)] [(0, .arr (.int .i8) false), (1, .arr (.int .i8) false)] [.slot 6, .slot 7] []
@[reducible] def x7_2 : Outs := [(.ret, Pat.mk [(8, .c (.tf false))] [] [] []), (.exit 4, Pat.mk [(1, .c (.hole (.list (.prod (.int .i8) (.int .i8))))), (6, .c (.pa 0 (.int .i8) 2)), (9, .c (.hole (.list (.list (.prod tI tI)))))] [(0, .arr (.int .i8) false)] [.slot 6] [])]
noncomputable def b7_2 : D prog 209 none 0 := dO [] (pick (kd prog f7) [(1, false)]) 0
noncomputable def g7_2 : (List (Int × Int)) × (List (List (Int × Int))) × (List (Int × Int)) × (List (Int × Int)) × Int × Int × List Int × List Int × Unit → Tr0 (((List (Int × Int)) × (List (List (Int × Int))) × (List (Int × Int)) × (List (Int × Int)) × Int × Int × List Int × List Int × Unit) ⊕ ((Unit) ⊕ (((List (Int × Int)) × (List (List (Int × Int))) × List Int × Unit)))) := fun (v1, v9, v21, v125, v126, v127, b0, b1, _) =>
 .br (decide (v127 < v126)) (
 .nb v127 (((v125).length : Nat) : Int) <|
 .jx (
 .br (decide ((0 : Int) < (((v9).length : Nat) : Int))) (
 .nd (decide ((0 : Nat) < (b1).length)) <|
 .ni ((b1).getD (0 : Nat) (0 : Int)) <|
 .ni (((v125).getD (Int.toNat v127) ((0 : Int), (0 : Int))).1 + ((b1).getD (0 : Nat) (0 : Int))) <|
 .nd (decide ((1 : Nat) < (b1).length)) <|
 .ni ((b1).getD (1 : Nat) (0 : Int)) <|
 .ni (((v125).getD (Int.toNat v127) ((0 : Int), (0 : Int))).2 + ((b1).getD (1 : Nat) (0 : Int))) <|
 .ret (.inl (v1, (v9, (v21, (v127, (v125, (v126, (v127, (b0, (b1, ((((v125).getD (Int.toNat v127) ((0 : Int), (0 : Int))).1 + ((b1).getD (0 : Nat) (0 : Int))), ((((v125).getD (Int.toNat v127) ((0 : Int), (0 : Int))).2 + ((b1).getD (1 : Nat) (0 : Int))), ()))))))))))))) (
 .ret (.inl (v1, (v9, (v21, (v127, (v125, (v126, (v127, (b0, (b1, (((v125).getD (Int.toNat v127) ((0 : Int), (0 : Int))).1, (((v125).getD (Int.toNat v127) ((0 : Int), (0 : Int))).2, ())))))))))))))) fun j8 =>
 .nb j8.2.2.2.1 (((j8.2.2.1).length : Nat) : Int) <|
 .br (!((((j8.2.2.1).getD (Int.toNat j8.2.2.2.1) ((0 : Int), (0 : Int))).1 == j8.2.2.2.2.2.2.2.2.2.1) && ((((j8.2.2.1).getD (Int.toNat j8.2.2.2.1) ((0 : Int), (0 : Int))).2 == j8.2.2.2.2.2.2.2.2.2.2.1) && true))) (
 .ret (.inr <| .inl <| ())) (
 .ni (j8.2.2.2.2.2.2.1 + (1 : Int)) <|
 .ret (.inl (j8.1, (j8.2.1, (j8.2.2.1, (j8.2.2.2.2.1, (j8.2.2.2.2.2.1, ((j8.2.2.2.2.2.2.1 + (1 : Int)), (j8.2.2.2.2.2.2.2.1, (j8.2.2.2.2.2.2.2.2.1, ()))))))))))) (
 .ret (.inr <| .inr <| (v1, (v9, (b0, ())))))
theorem s7_2 : ∀ x, roundE (kzO (p7_2.T ⊕ x7_2.T)) cx7 ar0 [] p7_2 x7_2 (b7_2) (fun y => some (.inl y)) (fun b => some (.inr b)) x = run0 (g7_2 x) := fun x => Eq.trans (b := run0 (flat (g7_2 x))) (by kernel_rfl) run_flat
noncomputable def L7_2 : LoopS prog 209 none 0 := mkLoop mixed cx7 cx7_ok [] rfl p7_2 x7_2 rfl (b7_2) (fun x => run0 (g7_2 x)) (s7_2)
noncomputable def dd7 : D prog 209 none 0 := dO [.l L7_0, .l L7_2] (kd prog f7) 0
noncomputable def F7 (a0 : List (List (Int × Int))) (a1 : List (Int × Int)) (a2 : Int × Int) (a3 : Int × Int) : Tr0 (Bool × Unit) :=
 .bd (F10 a0) fun y0 =>
 .br (!y0.2.1) (
 .ret (false, ())) (
 .bd (.it g7_0 (a1, (y0.1, ((0 : Nat), ((0 : Nat), ((((y0.1).length : Nat) : Int), ((0 : Int), ((a2.1 :: (a2.2 :: [])), ((a3.1 :: (a3.2 :: [])), ([], ([], ()))))))))))) fun z3 =>
 .bd (F16 z3.2.1) fun y4 =>
 .bd (F16 (((z3.2.2.2.2.2.2.1).drop (0 : Nat)).take z3.2.2.1)) fun y5 =>
 .bd (F16 (((z3.2.2.2.2.2.2.2.1).drop (0 : Nat)).take z3.2.2.2.1)) fun y6 =>
 .br (!(y4.2.1 == (0 : Int))) (
 .ret (false, ())) (
 .br (!(y5.2.1 == (0 : Int))) (
 .ret (false, ())) (
 .br (!(y6.2.1 == (0 : Int))) (
 .ret (false, ())) (
 .bd (F23 y4.1 y5.1) fun y7 =>
 .br (!y7.1) (
 .ret (false, ())) (
 .br (!((((y4.1).length : Nat) : Int) == (((y6.1).length : Nat) : Int))) (
 .ret (false, ())) (
 .bd (.it g7_2 (z3.1, (z3.2.1, (y6.1, (y4.1, ((((y4.1).length : Nat) : Int), ((0 : Int), (z3.2.2.2.2.1, (z3.2.2.2.2.2.1, ()))))))))) fun z9 =>
 .sm z9 (fun z10 =>
 .ret (false, ())) fun z11 =>
 .bd (FH25 z11.1) fun y12 =>
 .nd (decide ((y12.1 + (((((((0 : Int), (0 : Int)) :: [])).drop (0 : Nat)).take (1 : Nat))).length) < bigL)) <|
 .bd (F24 (((((((y12.2.1).drop (0 : Nat)).take y12.1) ++ ((((((0 : Int), (0 : Int)) :: [])).drop (0 : Nat)).take (1 : Nat)))).drop (0 : Nat)).take (y12.1 + (((((((0 : Int), (0 : Int)) :: [])).drop (0 : Nat)).take (1 : Nat))).length))) fun y13 =>
 .br (!(y13.2.1 == (0 : Int))) (
 .ret (false, ())) (
 .nd (decide ((0 : Nat) < (z11.2.2.1).length)) <|
 .ni ((z11.2.2.1).getD (0 : Nat) (0 : Int)) <|
 .nd (!((3 : Int) == (0 : Int))) <|
 .ni (Int.tdiv ((z11.2.2.1).getD (0 : Nat) (0 : Int)) (3 : Int)) <|
 .nd (decide ((1 : Nat) < (z11.2.2.1).length)) <|
 .ni ((z11.2.2.1).getD (1 : Nat) (0 : Int)) <|
 .nd (!((3 : Int) == (0 : Int))) <|
 .ni (Int.tdiv ((z11.2.2.1).getD (1 : Nat) (0 : Int)) (3 : Int)) <|
 .bd (F13 z11.2.1 ((Int.tdiv ((z11.2.2.1).getD (0 : Nat) (0 : Int)) (3 : Int)), (Int.tdiv ((z11.2.2.1).getD (1 : Nat) (0 : Int)) (3 : Int)))) fun y14 =>
 .nd (decide (((0 : Nat) + (z11.2.1).length) < bigL)) <|
 .nd (decide ((((0 : Nat) + (z11.2.1).length) + (((((y13.1 :: [])).drop (0 : Nat)).take (1 : Nat))).length) < bigL)) <|
 .bd (F13 ((((((((((([]).drop (0 : Nat)).take (0 : Nat)) ++ z11.2.1)).drop (0 : Nat)).take ((0 : Nat) + (z11.2.1).length)) ++ ((((y13.1 :: [])).drop (0 : Nat)).take (1 : Nat)))).drop (0 : Nat)).take (((0 : Nat) + (z11.2.1).length) + (((((y13.1 :: [])).drop (0 : Nat)).take (1 : Nat))).length)) ((Int.tdiv ((z11.2.2.1).getD (0 : Nat) (0 : Int)) (3 : Int)), (Int.tdiv ((z11.2.2.1).getD (1 : Nat) (0 : Int)) (3 : Int)))) fun y15 =>
 .br (y14.2.1 == (0 : Int)) (
 .br (y15.2.1 == (0 : Int)) (
 .br (!y14.1) (
 .bd (F18) fun y16 =>
 .ret (y16.1, ())) (
 .br y15.1 (
 .bd (F18) fun y17 =>
 .ret (y17.1, ())) (
 .ret (false, ())))) (
 .ret (false, ()))) (
 .ret (false, ())))))))))
theorem c7_ok : trF prog f7 = some ⟨209, 4, dd7.er, [.t 8], [some .bool]⟩ := by kernel_rfl
noncomputable def ct7 : Ct := ⟨7, [.c (.hole (.list (.list (.prod (.int .i8) (.int .i8))))), .c (.hole (.list (.prod (.int .i8) (.int .i8)))), .c (.hole (.prod (.int .i8) (.int .i8))), .c (.hole (.prod (.int .i8) (.int .i8)))], .c (.hole .bool), fun x => run0 (F7 x.1 x.2.1 x.2.2.1 x.2.2.2.1)⟩
theorem ct7_ok : ct7.Ok prog := ct_ok mixed cx7_ok func7 c7_ok (enters_of func7 rfl rfl) dd7 (by kernel_rfl) rfl (fun x => by kernel_rfl)

end Go.Proofs.Try

