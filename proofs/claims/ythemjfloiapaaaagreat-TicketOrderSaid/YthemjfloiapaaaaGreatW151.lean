/- Functions of the program as functions of data, part 2; printed by a program of mine. -/
import Derived.Test.YthemjfloiapaaaaGreatW150
import Derived.Test.YthemjfloiapaaaaGreatProg
set_option linter.unusedSectionVars false
set_option linter.unusedVariables false
set_option linter.unusedSimpArgs false
open Go.AM
namespace Go.Proofs.Tryz
set_option maxRecDepth 100000
set_option synthInstance.maxSize 4000
set_option synthInstance.maxHeartbeats 400000


/- 15 -/
noncomputable def cx15 : Cx := (mkCxH [ct28, ct17] [ht29, ht18, ht20, ht48, ht48_v1, ht53])
theorem cx15_ok : cx15.Ok prog := mkCxH_ok ⟨ct28_ok, ct17_ok, trivial⟩ ⟨⟨ht29_ok, rfl⟩, ⟨ht18_ok, rfl⟩, ⟨ht20_ok, rfl⟩, ⟨ht48_ok, rfl⟩, ⟨ht48_v1_ok, rfl⟩, ⟨ht53_ok, rfl⟩, trivial⟩
@[reducible] def p15_0 : Pat := Pat.mk [(1, .c (.hole (.list (.int .u8)))), (6, .c (.ptr 0 0)), (7, .c (.ptr 1 0)), (8, .c (.ptr 2 0)), (9, .c (.ptr 3 0)), (10, .c (.sl0 4 tG)), (11, hI)] [(0, .cells [.mp 5] false), (1, .cells [.mp 6] false), (2, .cells [.mp 7] false), (3, .cells [.mp 8] false), (4, .arr tG false), (5, .map tG true .bool false), (6, .map tG true .bool false), (7, .map tG true .bool false), (8, .map tG true .bool false)] [.slot 6, .slot 7, .slot 8, .slot 9, .slot 10, .cell 0 0, .cell 1 0, .cell 2 0, .cell 3 0] []
@[reducible] def x15_0 : Outs := [(.ret, Pat.mk [(4, .c (.tf false))] [] [] []), (.exit 0, Pat.mk [(6, .c (.ptr 0 0)), (7, .c (.ptr 1 0)), (8, .c (.ptr 2 0)), (9, .c (.ptr 3 0))] [(0, .cells [.mp 4] false), (1, .cells [.mp 5] false), (2, .cells [.mp 6] false), (3, .cells [.mp 7] false), (4, .map tG true .bool false), (5, .map tG true .bool false), (6, .map tG true .bool false), (7, .map tG true .bool false)] [.slot 6, .slot 7, .slot 8, .slot 9, .cell 0 0, .cell 1 0, .cell 2 0, .cell 3 0] [])]
noncomputable def b15_0 : D prog 116 none 0 := dO [] (pick (kd prog f15) [(0, false)]) 0
noncomputable def g15_0 : List Int × Nat × Int × (List (GG)) × (List ((GG) × Bool)) × (List ((GG) × Bool)) × (List ((GG) × Bool)) × (List ((GG) × Bool)) × Unit → Tr0 ((List Int × Nat × Int × (List (GG)) × (List ((GG) × Bool)) × (List ((GG) × Bool)) × (List ((GG) × Bool)) × (List ((GG) × Bool)) × Unit) ⊕ ((Unit) ⊕ (((List ((GG) × Bool)) × (List ((GG) × Bool)) × (List ((GG) × Bool)) × (List ((GG) × Bool)) × Unit)))) := fun (v1, nv10, v11, b4, m5, m6, m7, m8, _) =>
 .br (decide ((0 : Int) < ((nv10 : Nat) : Int))) (
 .jx (
 .br (decide (v11 < (((v1).length : Nat) : Int))) (
 .nb v11 (((v1).length : Nat) : Int) <|
 .ni ((v1).getD (Int.toNat v11) (0 : Int)) <|
 .nd (!(((nv10 : Nat) : Int) == (0 : Int))) <|
 .ret (.inl (v1, (nv10, (v11, ((Int.tmod ((v1).getD (Int.toNat v11) (0 : Int)) ((nv10 : Nat) : Int)), (b4, (m5, (m6, (m7, (m8, ()))))))))))) (
 .ret (.inl (v1, (nv10, (v11, ((0 : Int), (b4, (m5, (m6, (m7, (m8, ())))))))))))) fun j5 =>
 .nb j5.2.2.2.1 ((j5.2.1 : Nat) : Int) <|
 .nd (decide (((0 : Nat) + (Int.toNat j5.2.2.2.1)) < (j5.2.2.2.2.1).length)) <|
 .nd (decide ((0 : Int) ≤ (0 : Int))) <|
 .nd (decide ((0 : Int) ≤ j5.2.2.2.1)) <|
 .nd (decide (j5.2.2.2.1 ≤ ((j5.2.1 : Nat) : Int))) <|
 .nd (decide (((0 : Nat) + ((((j5.2.2.2.2.1).drop ((0 : Nat) + (Int.toNat (0 : Int)))).take ((Int.toNat j5.2.2.2.1) - (Int.toNat (0 : Int))))).length) < bigL)) <|
 .ni (j5.2.2.2.1 + (1 : Int)) <|
 .nd (decide ((0 : Int) ≤ (j5.2.2.2.1 + (1 : Int)))) <|
 .nd (decide ((j5.2.2.2.1 + (1 : Int)) ≤ ((j5.2.1 : Nat) : Int))) <|
 .nd (decide (((j5.2.1 : Nat) : Int) ≤ ((j5.2.1 : Nat) : Int))) <|
 .nd (decide ((((0 : Nat) + ((((j5.2.2.2.2.1).drop ((0 : Nat) + (Int.toNat (0 : Int)))).take ((Int.toNat j5.2.2.2.1) - (Int.toNat (0 : Int))))).length) + ((((j5.2.2.2.2.1).drop ((0 : Nat) + (Int.toNat (j5.2.2.2.1 + (1 : Int))))).take ((Int.toNat ((j5.2.1 : Nat) : Int)) - (Int.toNat (j5.2.2.2.1 + (1 : Int)))))).length) < bigL)) <|
 .bd (FH20 (((j5.2.2.2.2.1).getD ((0 : Nat) + (Int.toNat j5.2.2.2.1)) ((bs []), ((0 : Int), ((bs []), ((bs []), (0 : Int)))))).1, (((j5.2.2.2.2.1).getD ((0 : Nat) + (Int.toNat j5.2.2.2.1)) ((bs []), ((0 : Int), ((bs []), ((bs []), (0 : Int)))))).2.1, (((j5.2.2.2.2.1).getD ((0 : Nat) + (Int.toNat j5.2.2.2.1)) ((bs []), ((0 : Int), ((bs []), ((bs []), (0 : Int)))))).2.2.1, (((j5.2.2.2.2.1).getD ((0 : Nat) + (Int.toNat j5.2.2.2.1)) ((bs []), ((0 : Int), ((bs []), ((bs []), (0 : Int)))))).2.2.2.1, ((j5.2.2.2.2.1).getD ((0 : Nat) + (Int.toNat j5.2.2.2.1)) ((bs []), ((0 : Int), ((bs []), ((bs []), (0 : Int)))))).2.2.2.2)))) j5.2.2.2.2.2.2.2.2.1) fun y6 =>
 .br (!(y6.1 == (0 : Int))) (
 .ret (.inr <| .inl <| ())) (
 .bd (FH20 (((j5.2.2.2.2.1).getD ((0 : Nat) + (Int.toNat j5.2.2.2.1)) ((bs []), ((0 : Int), ((bs []), ((bs []), (0 : Int)))))).1, (((j5.2.2.2.2.1).getD ((0 : Nat) + (Int.toNat j5.2.2.2.1)) ((bs []), ((0 : Int), ((bs []), ((bs []), (0 : Int)))))).2.1, (((j5.2.2.2.2.1).getD ((0 : Nat) + (Int.toNat j5.2.2.2.1)) ((bs []), ((0 : Int), ((bs []), ((bs []), (0 : Int)))))).2.2.1, (((j5.2.2.2.2.1).getD ((0 : Nat) + (Int.toNat j5.2.2.2.1)) ((bs []), ((0 : Int), ((bs []), ((bs []), (0 : Int)))))).2.2.2.1, ((j5.2.2.2.2.1).getD ((0 : Nat) + (Int.toNat j5.2.2.2.1)) ((bs []), ((0 : Int), ((bs []), ((bs []), (0 : Int)))))).2.2.2.2)))) y6.2.1) fun y7 =>
 .br (!(y7.1 == (0 : Int))) (
 .ret (.inr <| .inl <| ())) (
 .br (decide (j5.2.2.1 < (((j5.1).length : Nat) : Int))) (
 .nb j5.2.2.1 (((j5.1).length : Nat) : Int) <|
 .br (decide ((128 : Int) ≤ ((j5.1).getD (Int.toNat j5.2.2.1) (0 : Int)))) (
 .bd (FH20 (((j5.2.2.2.2.1).getD ((0 : Nat) + (Int.toNat j5.2.2.2.1)) ((bs []), ((0 : Int), ((bs []), ((bs []), (0 : Int)))))).1, (((j5.2.2.2.2.1).getD ((0 : Nat) + (Int.toNat j5.2.2.2.1)) ((bs []), ((0 : Int), ((bs []), ((bs []), (0 : Int)))))).2.1, (((j5.2.2.2.2.1).getD ((0 : Nat) + (Int.toNat j5.2.2.2.1)) ((bs []), ((0 : Int), ((bs []), ((bs []), (0 : Int)))))).2.2.1, (((j5.2.2.2.2.1).getD ((0 : Nat) + (Int.toNat j5.2.2.2.1)) ((bs []), ((0 : Int), ((bs []), ((bs []), (0 : Int)))))).2.2.2.1, ((j5.2.2.2.2.1).getD ((0 : Nat) + (Int.toNat j5.2.2.2.1)) ((bs []), ((0 : Int), ((bs []), ((bs []), (0 : Int)))))).2.2.2.2)))) j5.2.2.2.2.2.2.1) fun y8 =>
 .br (!(y8.1 == (0 : Int))) (
 .ret (.inr <| .inl <| ())) (
 .ni (j5.2.2.1 + (1 : Int)) <|
 .ret (.inl (j5.1, ((((0 : Nat) + ((((j5.2.2.2.2.1).drop ((0 : Nat) + (Int.toNat (0 : Int)))).take ((Int.toNat j5.2.2.2.1) - (Int.toNat (0 : Int))))).length) + ((((j5.2.2.2.2.1).drop ((0 : Nat) + (Int.toNat (j5.2.2.2.1 + (1 : Int))))).take ((Int.toNat ((j5.2.1 : Nat) : Int)) - (Int.toNat (j5.2.2.2.1 + (1 : Int)))))).length), ((j5.2.2.1 + (1 : Int)), ((((((((([]).drop (0 : Nat)).take (0 : Nat)) ++ (((j5.2.2.2.2.1).drop ((0 : Nat) + (Int.toNat (0 : Int)))).take ((Int.toNat j5.2.2.2.1) - (Int.toNat (0 : Int)))))).drop (0 : Nat)).take ((0 : Nat) + ((((j5.2.2.2.2.1).drop ((0 : Nat) + (Int.toNat (0 : Int)))).take ((Int.toNat j5.2.2.2.1) - (Int.toNat (0 : Int))))).length)) ++ (((j5.2.2.2.2.1).drop ((0 : Nat) + (Int.toNat (j5.2.2.2.1 + (1 : Int))))).take ((Int.toNat ((j5.2.1 : Nat) : Int)) - (Int.toNat (j5.2.2.2.1 + (1 : Int)))))), (j5.2.2.2.2.2.1, (y8.2.1, (j5.2.2.2.2.2.2.2.1, (y7.2.1, ()))))))))))) (
 .bd (FH20 (((j5.2.2.2.2.1).getD ((0 : Nat) + (Int.toNat j5.2.2.2.1)) ((bs []), ((0 : Int), ((bs []), ((bs []), (0 : Int)))))).1, (((j5.2.2.2.2.1).getD ((0 : Nat) + (Int.toNat j5.2.2.2.1)) ((bs []), ((0 : Int), ((bs []), ((bs []), (0 : Int)))))).2.1, (((j5.2.2.2.2.1).getD ((0 : Nat) + (Int.toNat j5.2.2.2.1)) ((bs []), ((0 : Int), ((bs []), ((bs []), (0 : Int)))))).2.2.1, (((j5.2.2.2.2.1).getD ((0 : Nat) + (Int.toNat j5.2.2.2.1)) ((bs []), ((0 : Int), ((bs []), ((bs []), (0 : Int)))))).2.2.2.1, ((j5.2.2.2.2.1).getD ((0 : Nat) + (Int.toNat j5.2.2.2.1)) ((bs []), ((0 : Int), ((bs []), ((bs []), (0 : Int)))))).2.2.2.2)))) j5.2.2.2.2.2.2.2.1) fun y9 =>
 .br (!(y9.1 == (0 : Int))) (
 .ret (.inr <| .inl <| ())) (
 .ni (j5.2.2.1 + (1 : Int)) <|
 .ret (.inl (j5.1, ((((0 : Nat) + ((((j5.2.2.2.2.1).drop ((0 : Nat) + (Int.toNat (0 : Int)))).take ((Int.toNat j5.2.2.2.1) - (Int.toNat (0 : Int))))).length) + ((((j5.2.2.2.2.1).drop ((0 : Nat) + (Int.toNat (j5.2.2.2.1 + (1 : Int))))).take ((Int.toNat ((j5.2.1 : Nat) : Int)) - (Int.toNat (j5.2.2.2.1 + (1 : Int)))))).length), ((j5.2.2.1 + (1 : Int)), ((((((((([]).drop (0 : Nat)).take (0 : Nat)) ++ (((j5.2.2.2.2.1).drop ((0 : Nat) + (Int.toNat (0 : Int)))).take ((Int.toNat j5.2.2.2.1) - (Int.toNat (0 : Int)))))).drop (0 : Nat)).take ((0 : Nat) + ((((j5.2.2.2.2.1).drop ((0 : Nat) + (Int.toNat (0 : Int)))).take ((Int.toNat j5.2.2.2.1) - (Int.toNat (0 : Int))))).length)) ++ (((j5.2.2.2.2.1).drop ((0 : Nat) + (Int.toNat (j5.2.2.2.1 + (1 : Int))))).take ((Int.toNat ((j5.2.1 : Nat) : Int)) - (Int.toNat (j5.2.2.2.1 + (1 : Int)))))), (j5.2.2.2.2.2.1, (j5.2.2.2.2.2.2.1, (y9.2.1, (y7.2.1, ())))))))))))) (
 .bd (FH20 (((j5.2.2.2.2.1).getD ((0 : Nat) + (Int.toNat j5.2.2.2.1)) ((bs []), ((0 : Int), ((bs []), ((bs []), (0 : Int)))))).1, (((j5.2.2.2.2.1).getD ((0 : Nat) + (Int.toNat j5.2.2.2.1)) ((bs []), ((0 : Int), ((bs []), ((bs []), (0 : Int)))))).2.1, (((j5.2.2.2.2.1).getD ((0 : Nat) + (Int.toNat j5.2.2.2.1)) ((bs []), ((0 : Int), ((bs []), ((bs []), (0 : Int)))))).2.2.1, (((j5.2.2.2.2.1).getD ((0 : Nat) + (Int.toNat j5.2.2.2.1)) ((bs []), ((0 : Int), ((bs []), ((bs []), (0 : Int)))))).2.2.2.1, ((j5.2.2.2.2.1).getD ((0 : Nat) + (Int.toNat j5.2.2.2.1)) ((bs []), ((0 : Int), ((bs []), ((bs []), (0 : Int)))))).2.2.2.2)))) j5.2.2.2.2.2.2.2.1) fun y10 =>
 .br (!(y10.1 == (0 : Int))) (
 .ret (.inr <| .inl <| ())) (
 .ni (j5.2.2.1 + (1 : Int)) <|
 .ret (.inl (j5.1, ((((0 : Nat) + ((((j5.2.2.2.2.1).drop ((0 : Nat) + (Int.toNat (0 : Int)))).take ((Int.toNat j5.2.2.2.1) - (Int.toNat (0 : Int))))).length) + ((((j5.2.2.2.2.1).drop ((0 : Nat) + (Int.toNat (j5.2.2.2.1 + (1 : Int))))).take ((Int.toNat ((j5.2.1 : Nat) : Int)) - (Int.toNat (j5.2.2.2.1 + (1 : Int)))))).length), ((j5.2.2.1 + (1 : Int)), ((((((((([]).drop (0 : Nat)).take (0 : Nat)) ++ (((j5.2.2.2.2.1).drop ((0 : Nat) + (Int.toNat (0 : Int)))).take ((Int.toNat j5.2.2.2.1) - (Int.toNat (0 : Int)))))).drop (0 : Nat)).take ((0 : Nat) + ((((j5.2.2.2.2.1).drop ((0 : Nat) + (Int.toNat (0 : Int)))).take ((Int.toNat j5.2.2.2.1) - (Int.toNat (0 : Int))))).length)) ++ (((j5.2.2.2.2.1).drop ((0 : Nat) + (Int.toNat (j5.2.2.2.1 + (1 : Int))))).take ((Int.toNat ((j5.2.1 : Nat) : Int)) - (Int.toNat (j5.2.2.2.1 + (1 : Int)))))), (j5.2.2.2.2.2.1, (j5.2.2.2.2.2.2.1, (y10.2.1, (y7.2.1, ())))))))))))))) (
 .ret (.inr <| .inr <| (m5, (m6, (m7, (m8, ()))))))
theorem s15_0 : ∀ x, roundE (kzO (p15_0.T ⊕ x15_0.T)) cx15 ar0 [] p15_0 x15_0 (b15_0) (fun y => some (.inl y)) (fun b => some (.inr b)) x = run0 (g15_0 x) := fun x => Eq.trans (b := run0 (flat (g15_0 x))) (by kernel_rfl) run_flat
noncomputable def L15_0 : LoopS prog 116 none 0 := mkLoop mixed cx15 cx15_ok [] rfl p15_0 x15_0 rfl (b15_0) (fun x => run0 (g15_0 x)) (s15_0)
noncomputable def dd15 : D prog 116 none 0 := dO [.l L15_0] (kd prog f15) 0
noncomputable def F15 (a0 : List (Int × Int × Int × Int)) (a1 : List Int) : Tr0 (Bool × Unit) :=
 .bd (F28 a0) fun y0 =>
 .bd (FH29 y0.1) fun y1 =>
 .bd (FH18) fun y2 =>
 .bd (FH18) fun y3 =>
 .bd (FH18) fun y4 =>
 .nd (decide (((0 : Nat) + (y0.1).length) < bigL)) <|
 .bd (.it g15_0 (a1, (((0 : Nat) + (y0.1).length), ((0 : Int), ((((([]).drop (0 : Nat)).take (0 : Nat)) ++ y0.1), (y1.1, (y2.1, (y3.1, (y4.1, ()))))))))) fun z11 =>
 .sm z11 (fun z12 =>
 .ret (false, ())) fun z13 =>
 .bd (FH48 z13.2.1 z13.2.2.1) fun y14 =>
 .br (!(y14.1 == (0 : Int))) (
 .ret (false, ())) (
 .bd (FH48 y14.2.2.1 y14.2.1) fun y15 =>
 .br (!(y15.1 == (0 : Int))) (
 .ret (false, ())) (
 .bd (FH48_v1 y15.2.2.1) fun y16 =>
 .br (!(y16.1 == (0 : Int))) (
 .ret (false, ())) (
 .bd (FH53 z13.1 z13.2.2.2.1) fun y17 =>
 .br y17.1 (
 .bd (FH53 y17.2.1 y16.2.1) fun y18 =>
 .br y18.1 (
 .bd (FH53 y18.2.1 y15.2.1) fun y19 =>
 .br y19.1 (
 .bd (F17) fun y20 =>
 .ret (y20.1, ())) (
 .ret (false, ()))) (
 .ret (false, ()))) (
 .ret (false, ())))))
theorem c15_ok : trF prog f15 = some ⟨116, 2, dd15.er, [.t 4], [some .bool]⟩ := by kernel_rfl
noncomputable def ct15 : Ct := ⟨15, [.c (.hole (.list (.prod (.int .u8) (.prod (.int .u8) (.prod (.int .u8) (.int .u8)))))), .c (.hole (.list (.int .u8)))], .c (.hole .bool), fun x => run0 (F15 x.1 x.2.1)⟩
theorem ct15_ok : ct15.Ok prog := ct_ok mixed cx15_ok func15 c15_ok (enters_of func15 rfl rfl) dd15 (by kernel_rfl) rfl (fun x => by kernel_rfl)

end Go.Proofs.Tryz

