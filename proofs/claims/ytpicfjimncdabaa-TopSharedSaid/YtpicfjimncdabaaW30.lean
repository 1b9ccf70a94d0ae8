/- Functions of the program as functions of data, part 1; printed by a program of mine. -/
import Derived.Test.YtpicfjimncdabaaAMc
import Derived.Test.YtpicfjimncdabaaProg
set_option linter.unusedSectionVars false
set_option linter.unusedVariables false
set_option linter.unusedSimpArgs false
open Go.AM
namespace Go.Proofs.Try
set_option maxRecDepth 100000
set_option synthInstance.maxSize 4000
set_option synthInstance.maxHeartbeats 400000
set_option synthInstance.maxSize 4000
set_option synthInstance.maxHeartbeats 400000
theorem mixed : prog.follows .mixedOrders = true := by kernel_rfl
@[reducible] def oo (n : Nat) (i : I) : Itm := .op (some n) none i
@[reducible] def om (n k : Nat) : Itm := .op (some n) none (.mv (.t k))
@[reducible] def ol (n k : Nat) : Itm := .op (some n) none (.load false 1 (.t k))
@[reducible] def og (n k : Nat) (b : Bool) (i : I) : Itm := .op (some n) (some (k, b)) i
@[reducible] def ki (n : Nat) : O := .c (.int .i64 (Int.ofNat n))
@[reducible] def hzI : SP := .c (.hole (.int .i64))
@[reducible] def hzL : SP := .c (.hole (.list (.int .i64)))
@[reducible] def hzM : SP := .c (.hole (.list (.list (.int .i64))))

/- 4 -/
noncomputable def cx4 : Cx := (mkCxH [] [])
theorem cx4_ok : cx4.Ok prog := mkCxH_ok trivial trivial
@[reducible] def p4_0 : Pat := Pat.mk [(0, .c (.hole (.list (.prod (.int .u8) (.prod (.int .u8) (.int .u8)))))), (3, .c (.sl0 0 tL)), (4, hI)] [(0, .arr tL false)] [.slot 3] []
@[reducible] def x4_0 : Outs := [(.exit 0, Pat.mk [(3, .c (.sl0 0 tL))] [(0, .arr tL false)] [.slot 3] [])]
noncomputable def b4_0 : D prog 50 none 0 := dO [] (pick (kd prog f4) [(0, false)]) 0
noncomputable def g4_0 : (List (Int × Int × Int)) × Nat × Int × List (List Int) × Unit → Tr0 (((List (Int × Int × Int)) × Nat × Int × List (List Int) × Unit) ⊕ ((Nat × List (List Int) × Unit))) := fun (v0, nv3, v4, b0, _) =>
 .br (decide (v4 < (((v0).length : Nat) : Int))) (
 .br (decide (v4 < (4 : Int))) (
 .nb v4 (((v0).length : Nat) : Int) <|
 .ni ((v0).getD (Int.toNat v4) ((0 : Int), ((0 : Int), (0 : Int)))).1 <|
 .nb v4 (((v0).length : Nat) : Int) <|
 .ni ((v0).getD (Int.toNat v4) ((0 : Int), ((0 : Int), (0 : Int)))).2.1 <|
 .nd (!((100 : Int) == (0 : Int))) <|
 .ni (((v0).getD (Int.toNat v4) ((0 : Int), ((0 : Int), (0 : Int)))).1 - (Int.tmod ((v0).getD (Int.toNat v4) ((0 : Int), ((0 : Int), (0 : Int)))).2.1 (100 : Int))) <|
 .nb v4 (((v0).length : Nat) : Int) <|
 .ni ((v0).getD (Int.toNat v4) ((0 : Int), ((0 : Int), (0 : Int)))).2.2 <|
 .nd (!((100 : Int) == (0 : Int))) <|
 .ni ((imax (0 : Int) (((v0).getD (Int.toNat v4) ((0 : Int), ((0 : Int), (0 : Int)))).1 - (Int.tmod ((v0).getD (Int.toNat v4) ((0 : Int), ((0 : Int), (0 : Int)))).2.1 (100 : Int)))) - (Int.tmod ((v0).getD (Int.toNat v4) ((0 : Int), ((0 : Int), (0 : Int)))).2.2 (100 : Int))) <|
 .nd (decide ((nv3 + (((((((((((v0).getD (Int.toNat v4) ((0 : Int), ((0 : Int), (0 : Int)))).1 :: ((imax (0 : Int) (((v0).getD (Int.toNat v4) ((0 : Int), ((0 : Int), (0 : Int)))).1 - (Int.tmod ((v0).getD (Int.toNat v4) ((0 : Int), ((0 : Int), (0 : Int)))).2.1 (100 : Int)))) :: ((imax (0 : Int) ((imax (0 : Int) (((v0).getD (Int.toNat v4) ((0 : Int), ((0 : Int), (0 : Int)))).1 - (Int.tmod ((v0).getD (Int.toNat v4) ((0 : Int), ((0 : Int), (0 : Int)))).2.1 (100 : Int)))) - (Int.tmod ((v0).getD (Int.toNat v4) ((0 : Int), ((0 : Int), (0 : Int)))).2.2 (100 : Int)))) :: [])))).drop (0 : Nat)).take (3 : Nat)) :: [])).drop (0 : Nat)).take (1 : Nat))).length) < bigL)) <|
 .ni (v4 + (1 : Int)) <|
 .ret (.inl (v0, ((nv3 + (((((((((((v0).getD (Int.toNat v4) ((0 : Int), ((0 : Int), (0 : Int)))).1 :: ((imax (0 : Int) (((v0).getD (Int.toNat v4) ((0 : Int), ((0 : Int), (0 : Int)))).1 - (Int.tmod ((v0).getD (Int.toNat v4) ((0 : Int), ((0 : Int), (0 : Int)))).2.1 (100 : Int)))) :: ((imax (0 : Int) ((imax (0 : Int) (((v0).getD (Int.toNat v4) ((0 : Int), ((0 : Int), (0 : Int)))).1 - (Int.tmod ((v0).getD (Int.toNat v4) ((0 : Int), ((0 : Int), (0 : Int)))).2.1 (100 : Int)))) - (Int.tmod ((v0).getD (Int.toNat v4) ((0 : Int), ((0 : Int), (0 : Int)))).2.2 (100 : Int)))) :: [])))).drop (0 : Nat)).take (3 : Nat)) :: [])).drop (0 : Nat)).take (1 : Nat))).length), ((v4 + (1 : Int)), (((((b0).drop (0 : Nat)).take nv3) ++ ((((((((((v0).getD (Int.toNat v4) ((0 : Int), ((0 : Int), (0 : Int)))).1 :: ((imax (0 : Int) (((v0).getD (Int.toNat v4) ((0 : Int), ((0 : Int), (0 : Int)))).1 - (Int.tmod ((v0).getD (Int.toNat v4) ((0 : Int), ((0 : Int), (0 : Int)))).2.1 (100 : Int)))) :: ((imax (0 : Int) ((imax (0 : Int) (((v0).getD (Int.toNat v4) ((0 : Int), ((0 : Int), (0 : Int)))).1 - (Int.tmod ((v0).getD (Int.toNat v4) ((0 : Int), ((0 : Int), (0 : Int)))).2.1 (100 : Int)))) - (Int.tmod ((v0).getD (Int.toNat v4) ((0 : Int), ((0 : Int), (0 : Int)))).2.2 (100 : Int)))) :: [])))).drop (0 : Nat)).take (3 : Nat)) :: [])).drop (0 : Nat)).take (1 : Nat))), ())))))) (
 .ret (.inr (nv3, (b0, ()))))) (
 .ret (.inr (nv3, (b0, ()))))
theorem s4_0 : ∀ x, roundE (kzO (p4_0.T ⊕ x4_0.T)) cx4 ar0 [] p4_0 x4_0 (b4_0) (fun y => some (.inl y)) (fun b => some (.inr b)) x = run0 (g4_0 x) := fun x => by kernel_rfl
noncomputable def L4_0 : LoopS prog 50 none 0 := mkLoop mixed cx4 cx4_ok [] rfl p4_0 x4_0 rfl (b4_0) (fun x => run0 (g4_0 x)) (s4_0)
noncomputable def dd4 : D prog 50 none 0 := dO [.l L4_0] (kd prog f4) 0
noncomputable def F4 (a0 : List (Int × Int × Int)) : Tr0 (List (List Int) × Unit) :=
 .bd (.it g4_0 (a0, ((0 : Nat), ((0 : Int), ([], ()))))) fun z0 =>
 .ret ((((z0.2.1).drop (0 : Nat)).take z0.1), ())
theorem c4_ok : trF prog f4 = some ⟨50, 1, dd4.er, [.t 2], [some tLL]⟩ := by kernel_rfl
noncomputable def ct4 : Ct := ⟨4, [.c (.hole (.list (.prod (.int .u8) (.prod (.int .u8) (.int .u8)))))], hLL, fun x => run0 (F4 x.1)⟩
theorem ct4_ok : ct4.Ok prog := ct_ok mixed cx4_ok func4 c4_ok (enters_of func4 rfl rfl) dd4 (by kernel_rfl) rfl (fun x => by kernel_rfl)

/- 28 -/
noncomputable def cx28 : Cx := (mkCxH [] [])
theorem cx28_ok : cx28.Ok prog := mkCxH_ok trivial trivial
noncomputable def dd28 : D prog 15 none 0 := dO [] (kd prog f28) 0
noncomputable def F28 (a0 : Int) (a1 : Int) (a2 : Int) : Tr0 (Bool × Unit) :=
 .br (decide (a0 ≤ a1)) (
 .ret ((decide (a1 ≤ a2)), ())) (
 .ret (false, ()))
theorem c28_ok : trF prog f28 = some ⟨15, 3, dd28.er, [.t 6], [some .bool]⟩ := by kernel_rfl
noncomputable def ct28 : Ct := ⟨28, [hI, hI, hI], .c (.hole .bool), fun x => run0 (F28 x.1 x.2.1 x.2.2.1)⟩
theorem ct28_ok : ct28.Ok prog := ct_ok mixed cx28_ok func28 c28_ok (enters_of func28 rfl rfl) dd28 (by kernel_rfl) rfl (fun x => by kernel_rfl)

/- 43 -/
noncomputable def cx43 : Cx := (mkCxH [ct28] [])
theorem cx43_ok : cx43.Ok prog := mkCxH_ok ⟨ct28_ok, trivial⟩ trivial
noncomputable def dd43 : D prog 5 none 0 := dO [] (kd prog f43) 0
noncomputable def F43 (a0 : Int) : Tr0 (Bool × Unit) :=
 .bd (F28 (0 : Int) a0 (1000000 : Int)) fun y0 =>
 .ret (y0.1, ())
theorem c43_ok : trF prog f43 = some ⟨5, 1, dd43.er, [.t 2], [some .bool]⟩ := by kernel_rfl
noncomputable def ct43 : Ct := ⟨43, [hI], .c (.hole .bool), fun x => run0 (F43 x.1)⟩
theorem ct43_ok : ct43.Ok prog := ct_ok mixed cx43_ok func43 c43_ok (enters_of func43 rfl rfl) dd43 (by kernel_rfl) rfl (fun x => by kernel_rfl)

/- 44 -/
noncomputable def cx44 : Cx := (mkCxH [] [])
theorem cx44_ok : cx44.Ok prog := mkCxH_ok trivial trivial
noncomputable def dd44 : D prog 8 none 0 := dO [] (kd prog f44) 0
noncomputable def F44 (a0 : Int) (a1 : Int) : Tr0 (Bool × Unit) :=
 .ret ((decide (a0 ≤ a1)), ())
theorem c44_ok : trF prog f44 = some ⟨8, 2, dd44.er, [.t 4], [some .bool]⟩ := by kernel_rfl
noncomputable def ct44 : Ct := ⟨44, [hI, hI], .c (.hole .bool), fun x => run0 (F44 x.1 x.2.1)⟩
theorem ct44_ok : ct44.Ok prog := ct_ok mixed cx44_ok func44 c44_ok (enters_of func44 rfl rfl) dd44 (by kernel_rfl) rfl (fun x => by kernel_rfl)

/- 42 -/
noncomputable def cx42 : Cx := (mkCxH [ct43, ct44] [])
theorem cx42_ok : cx42.Ok prog := mkCxH_ok ⟨ct43_ok, ct44_ok, trivial⟩ trivial
@[reducible] def p42_1 : Pat := Pat.mk [(1, .c (.fn0 43)), (2, .c (.fn0 44)), (8, hL), (14, hLL), (15, hI), (16, hI), (23, hL), (24, hI), (25, hI)] [] [] []
@[reducible] def x42_1 : Outs := [(.ret, Pat.mk [(6, hI)] [] [] []), (.exit 2, Pat.mk [(1, .c (.fn0 43)), (2, .c (.fn0 44)), (14, hLL), (15, hI), (16, hI)] [] [] [])]
noncomputable def b42_1 : D prog 51 none 0 := dO [] (pick (kd prog f42) [(0, false), (0, false)]) 0
noncomputable def g42_1 : List Int × List (List Int) × Int × Int × List Int × Int × Int × Unit → Tr0 ((List Int × List (List Int) × Int × Int × List Int × Int × Int × Unit) ⊕ ((Int × Unit) ⊕ ((List (List Int) × Int × Int × Unit)))) := fun (v8, v14, v15, v16, v23, v24, v25, _) =>
 .br (decide (v25 < v24)) (
 .nb v25 (((v23).length : Nat) : Int) <|
 .bd (F43 ((v23).getD (Int.toNat v25) (0 : Int))) fun y0 =>
 .br (!y0.1) (
 .ret (.inr <| .inl <| ((2 : Int), ()))) (
 .br (decide ((0 : Int) < v25)) (
 .ni (v25 - (1 : Int)) <|
 .nb (v25 - (1 : Int)) (((v8).length : Nat) : Int) <|
 .bd (F44 ((v23).getD (Int.toNat v25) (0 : Int)) ((v8).getD (Int.toNat (v25 - (1 : Int))) (0 : Int))) fun y1 =>
 .br (!y1.1) (
 .ret (.inr <| .inl <| ((7 : Int), ()))) (
 .ni (v25 + (1 : Int)) <|
 .ret (.inl (v8, (v14, (v15, (v16, (v23, (v24, ((v25 + (1 : Int)), ())))))))))) (
 .ni (v25 + (1 : Int)) <|
 .ret (.inl (v8, (v14, (v15, (v16, (v23, (v24, ((v25 + (1 : Int)), ()))))))))))) (
 .ret (.inr <| .inr <| (v14, (v15, (v16, ())))))
theorem s42_1 : ∀ x, roundE (kzO (p42_1.T ⊕ x42_1.T)) cx42 ar0 [] p42_1 x42_1 (b42_1) (fun y => some (.inl y)) (fun b => some (.inr b)) x = run0 (g42_1 x) := fun x => by kernel_rfl
noncomputable def L42_1 : LoopS prog 51 none 0 := mkLoop mixed cx42 cx42_ok [] rfl p42_1 x42_1 rfl (b42_1) (fun x => run0 (g42_1 x)) (s42_1)
@[reducible] def p42_0 : Pat := Pat.mk [(1, .c (.fn0 43)), (2, .c (.fn0 44)), (14, hLL), (15, hI), (16, hI)] [] [] []
@[reducible] def x42_0 : Outs := [(.ret, Pat.mk [(6, hI)] [] [] []), (.exit 0, Pat.mk [] [] [] [])]
noncomputable def b42_0 : D prog 51 none 0 := dO [.l L42_1] (pick (kd prog f42) [(0, false)]) 0
noncomputable def g42_0 : List (List Int) × Int × Int × Unit → Tr0 ((List (List Int) × Int × Int × Unit) ⊕ ((Int × Unit) ⊕ ((Unit)))) := fun (v14, v15, v16, _) =>
 .br (decide (v16 < v15)) (
 .nb v16 (((v14).length : Nat) : Int) <|
 .br (decide ((10 : Int) < (((((v14).getD (Int.toNat v16) [])).length : Nat) : Int))) (
 .ret (.inr <| .inl <| ((1 : Int), ()))) (
 .bd (.it g42_1 (((v14).getD (Int.toNat v16) []), (v14, (v15, (v16, (((v14).getD (Int.toNat v16) []), ((((((v14).getD (Int.toNat v16) [])).length : Nat) : Int), ((0 : Int), ())))))))) fun z2 =>
 .sm z2 (fun z3 =>
 .ret (.inr <| .inl <| (z3.1, ()))) fun z4 =>
 .ni (z4.2.2.1 + (1 : Int)) <|
 .ret (.inl (z4.1, (z4.2.1, ((z4.2.2.1 + (1 : Int)), ())))))) (
 .ret (.inr <| .inr <| ()))
theorem s42_0 : ∀ x, roundE (kzO (p42_0.T ⊕ x42_0.T)) cx42 ar0 [] p42_0 x42_0 (b42_0) (fun y => some (.inl y)) (fun b => some (.inr b)) x = run0 (g42_0 x) := fun x => by kernel_rfl
noncomputable def L42_0 : LoopS prog 51 none 0 := mkLoop mixed cx42 cx42_ok [] rfl p42_0 x42_0 rfl (b42_0) (fun x => run0 (g42_0 x)) (s42_0)
noncomputable def dd42 : D prog 51 none 0 := dO [.l L42_0] (kd prog f42) 0
noncomputable def F42 (a0 : List (List Int)) : Tr0 (Int × Unit) :=
 .br (decide ((12 : Int) < (((a0).length : Nat) : Int))) (
 .ret ((1 : Int), ())) (
 .bd (.it g42_0 (a0, ((((a0).length : Nat) : Int), ((0 : Int), ())))) fun z5 =>
 .sm z5 (fun z6 =>
 .ret (z6.1, ())) fun z7 =>
 .ret ((0 : Int), ()))
theorem c42_ok : trF prog f42 = some ⟨51, 3, dd42.er, [.t 6], [some tI]⟩ := by kernel_rfl
noncomputable def ct42 : Ct := ⟨42, [hLL, .c (.fn0 43), .c (.fn0 44)], hI, fun x => run0 (F42 x.1)⟩
theorem ct42_ok : ct42.Ok prog := ct_ok mixed cx42_ok func42 c42_ok (enters_of func42 rfl rfl) dd42 (by kernel_rfl) rfl (fun x => by kernel_rfl)

/- 27 -/
noncomputable def cx27 : Cx := (mkCxH [ct42] [])
theorem cx27_ok : cx27.Ok prog := mkCxH_ok ⟨ct42_ok, trivial⟩ trivial
noncomputable def dd27 : D prog 5 none 0 := dO [] (kd prog f27) 0
noncomputable def F27 (a0 : List (List Int)) : Tr0 (Int × Unit) :=
 .bd (F42 a0) fun y0 =>
 .ret (y0.1, ())
theorem c27_ok : trF prog f27 = some ⟨5, 1, dd27.er, [.t 2], [some tI]⟩ := by kernel_rfl
noncomputable def ct27 : Ct := ⟨27, [hLL], hI, fun x => run0 (F27 x.1)⟩
theorem ct27_ok : ct27.Ok prog := ct_ok mixed cx27_ok func27 c27_ok (enters_of func27 rfl rfl) dd27 (by kernel_rfl) rfl (fun x => by kernel_rfl)

/- 11 -/
noncomputable def cx11 : Cx := (mkCxH [ct27, ct28] [])
theorem cx11_ok : cx11.Ok prog := mkCxH_ok ⟨ct27_ok, ct28_ok, trivial⟩ trivial
noncomputable def dd11 : D prog 16 none 0 := dO [] (kd prog f11) 0
noncomputable def F11 (a0 : List (List Int)) (a1 : Int) : Tr0 (Int × Unit) :=
 .bd (F27 a0) fun y0 =>
 .br (y0.1 == (0 : Int)) (
 .bd (F28 (0 : Int) a1 (200 : Int)) fun y1 =>
 .br (!y1.1) (
 .ret ((2 : Int), ())) (
 .ret (y0.1, ()))) (
 .ret (y0.1, ()))
theorem c11_ok : trF prog f11 = some ⟨16, 2, dd11.er, [.t 4], [some tI]⟩ := by kernel_rfl
noncomputable def ct11 : Ct := ⟨11, [hLL, hI], hI, fun x => run0 (F11 x.1 x.2.1)⟩
theorem ct11_ok : ct11.Ok prog := ct_ok mixed cx11_ok func11 c11_ok (enters_of func11 rfl rfl) dd11 (by kernel_rfl) rfl (fun x => by kernel_rfl)

/- 30 -/
noncomputable def cx30 : Cx := (mkCxH [] [])
theorem cx30_ok : cx30.Ok prog := mkCxH_ok trivial trivial
noncomputable def dd30 : D prog 3 none 0 := dO [] (kd prog f30) 0
noncomputable def F30 (a0 : Int) : Tr0 (Int × Unit) :=
 .ret ((0 : Int), ())
theorem c30_ok : trF prog f30 = some ⟨3, 1, dd30.er, [.t 2], [some tI]⟩ := by kernel_rfl
noncomputable def ct30 : Ct := ⟨30, [hI], hI, fun x => run0 (F30 x.1)⟩
theorem ct30_ok : ct30.Ok prog := ct_ok mixed cx30_ok func30 c30_ok (enters_of func30 rfl rfl) dd30 (by kernel_rfl) rfl (fun x => by kernel_rfl)

/- 24 -/
noncomputable def cx24 : Cx := (mkCxH [] [])
theorem cx24_ok : cx24.Ok prog := mkCxH_ok trivial trivial
@[reducible] def p24_0 : Pat := Pat.mk [(3, hI), (6, hL), (7, hI), (8, hI)] [] [] []
@[reducible] def x24_0 : Outs := [(.ret, Pat.mk [(2, hI)] [] [] []), (.exit 0, Pat.mk [(3, hI)] [] [] [])]
noncomputable def b24_0 : D prog 18 none 0 := dO [] (pick (kd prog f24) [(0, false)]) 0
noncomputable def g24_0 : Int × List Int × Int × Int × Unit → Tr0 ((Int × List Int × Int × Int × Unit) ⊕ ((Int × Unit) ⊕ ((Int × Unit)))) := fun (v3, v6, v7, v8, _) =>
 .br (decide (v8 < v7)) (
 .nb v8 (((v6).length : Nat) : Int) <|
 .br (!(((v6).getD (Int.toNat v8) (0 : Int)) == v3)) (
 .ret (.inr <| .inl <| (((v6).getD (Int.toNat v8) (0 : Int)), ()))) (
 .ni (v8 + (1 : Int)) <|
 .ret (.inl (v3, (v6, (v7, ((v8 + (1 : Int)), ()))))))) (
 .ret (.inr <| .inr <| (v3, ())))
theorem s24_0 : ∀ x, roundE (kzO (p24_0.T ⊕ x24_0.T)) cx24 ar0 [] p24_0 x24_0 (b24_0) (fun y => some (.inl y)) (fun b => some (.inr b)) x = run0 (g24_0 x) := fun x => by kernel_rfl
noncomputable def L24_0 : LoopS prog 18 none 0 := mkLoop mixed cx24 cx24_ok [] rfl p24_0 x24_0 rfl (b24_0) (fun x => run0 (g24_0 x)) (s24_0)
noncomputable def dd24 : D prog 18 none 0 := dO [.l L24_0] (kd prog f24) 0
noncomputable def F24 (a0 : List Int) : Tr0 (Int × Unit) :=
 .bd (.it g24_0 ((0 : Int), (a0, ((((a0).length : Nat) : Int), ((0 : Int), ()))))) fun z0 =>
 .sm z0 (fun z1 =>
 .ret (z1.1, ())) fun z2 =>
 .ret (z2.1, ())
theorem c24_ok : trF prog f24 = some ⟨18, 1, dd24.er, [.t 2], [some tI]⟩ := by kernel_rfl
noncomputable def ct24 : Ct := ⟨24, [hL], hI, fun x => run0 (F24 x.1)⟩
theorem ct24_ok : ct24.Ok prog := ct_ok mixed cx24_ok func24 c24_ok (enters_of func24 rfl rfl) dd24 (by kernel_rfl) rfl (fun x => by kernel_rfl)

/- 46 -/
noncomputable def cx46 : Cx := (mkCxH [ct30, ct24] [])
theorem cx46_ok : cx46.Ok prog := mkCxH_ok ⟨ct30_ok, ct24_ok, trivial⟩ trivial
noncomputable def dd46 : D prog 30 none 0 := dO [] (kd prog f46) 0
noncomputable def F46 (a0 : Int × Int) (a1 : Int × Int) : Tr0 (Int × Unit) :=
 .br ((a0.1 == a1.1) && ((a0.2 == a1.2) && true)) (
 .ret ((0 : Int), ())) (
 .ni (a1.1 - a0.1) <|
 .bd (F30 a1.2) fun y0 =>
 .bd (F30 a0.2) fun y1 =>
 .ni (y0.1 - y1.1) <|
 .ni (a0.2 - a1.2) <|
 .bd (F24 (((((a1.1 - a0.1) :: ((y0.1 - y1.1) :: ((a0.2 - a1.2) :: [])))).drop (0 : Nat)).take (3 : Nat))) fun y2 =>
 .ret (y2.1, ()))
theorem c46_ok : trF prog f46 = some ⟨30, 3, dd46.er, [.t 5], [some tI]⟩ := by kernel_rfl
noncomputable def ct46 : Ct := ⟨46, [.c (.hole (.prod tI tI)), .c (.hole (.prod tI tI)), .c (.ipcs (.cons (.fn0 30) .nil))], hI, fun x => run0 (F46 x.1 x.2.1)⟩
theorem ct46_ok : ct46.Ok prog := ct_ok mixed cx46_ok func46 c46_ok (enters_of func46 rfl rfl) dd46 (by kernel_rfl) rfl (fun x => by kernel_rfl)

/- 47 -/
noncomputable def cx47 : Cx := (mkCxH [] [])
theorem cx47_ok : cx47.Ok prog := mkCxH_ok trivial trivial
noncomputable def dd47 : D prog 4 none 0 := dO [] (kd prog f47) 0
noncomputable def F47 (a0 : List (Int × Int)) : Tr0 ((List (Int × Int)) × Unit) :=
 .ret (a0, ())
theorem c47_ok : trF prog f47 = some ⟨4, 1, dd47.er, [.t 2], [none]⟩ := by kernel_rfl
noncomputable def ct47 : Ct := ⟨47, [.c (.hole (.list (.prod tI tI)))], .fn 65 [] [.ipc (.list (.prod tI tI))], fun x => run0 (F47 x.1)⟩
theorem ct47_ok : ct47.Ok prog := ct_ok mixed cx47_ok func47 c47_ok (enters_of func47 rfl rfl) dd47 (by kernel_rfl) rfl (fun x => by kernel_rfl)

/- 73, lent -/
@[reducible] def pH73_v1 : Pat := Pat.mk [(0, .c (.sl0 0 (.prod tI tI))), (1, hI), (2, hI), (3, .fn 46 [] [.ptr 1 0])] [(0, .arr (.prod tI tI) false), (1, .cells [.fn0 30] false)] [.slot 0, .part 3 0] []
@[reducible] def qH73_v1 : Pat := Pat.mk [(0, .c .any)] [(1, .cells [.fn0 30] false), (0, .arr (.prod tI tI) false)] [] []
noncomputable def cxH73_v1 : Cx := (mkCxH [ct46] [])
theorem cxH73_v1_ok : cxH73_v1.Ok prog := mkCxH_ok ⟨ct46_ok, trivial⟩ trivial
@[reducible] def pH73_v1_1 : Pat := Pat.mk [(0, .c (.sl0 0 (.prod tI tI))), (1, hI), (2, hI), (3, .fn 46 [] [.ptr 1 0]), (8, hI), (9, hI)] [(0, .arr (.prod tI tI) false), (1, .cells [.fn0 30] false)] [] []
@[reducible] def xH73_v1_1 : Outs := [(.exit 2, Pat.mk [(0, .c (.sl0 0 (.prod tI tI))), (1, hI), (2, hI), (3, .fn 46 [] [.ptr 1 0]), (8, hI)] [(0, .arr (.prod tI tI) false), (1, .cells [.fn0 30] false)] [] [])]
noncomputable def bH73_v1_1 : D prog 53 none 2 := dO [] (pick (kd prog f73) [(0, false), (0, false)]) 0
noncomputable def gH73_v1_1 : Nat × Int × Int × Int × Int × (List (Int × Int)) × Unit → Tr0 ((Nat × Int × Int × Int × Int × (List (Int × Int)) × Unit) ⊕ ((Nat × Int × Int × Int × (List (Int × Int)) × Unit))) := fun (nv0, v1, v2, v8, v9, b0, _) =>
 .br (decide (v1 < v9)) (
 .nb v9 ((nv0 : Nat) : Int) <|
 .nd (decide (((0 : Nat) + (Int.toNat v9)) < (b0).length)) <|
 .ni (v9 - (1 : Int)) <|
 .nb (v9 - (1 : Int)) ((nv0 : Nat) : Int) <|
 .nd (decide (((0 : Nat) + (Int.toNat (v9 - (1 : Int)))) < (b0).length)) <|
 .bd (F46 (((b0).getD ((0 : Nat) + (Int.toNat v9)) ((0 : Int), (0 : Int))).1, ((b0).getD ((0 : Nat) + (Int.toNat v9)) ((0 : Int), (0 : Int))).2) (((b0).getD ((0 : Nat) + (Int.toNat (v9 - (1 : Int)))) ((0 : Int), (0 : Int))).1, ((b0).getD ((0 : Nat) + (Int.toNat (v9 - (1 : Int)))) ((0 : Int), (0 : Int))).2)) fun y0 =>
 .br (decide (y0.1 < (0 : Int))) (
 .ni (v9 - (1 : Int)) <|
 .ni (v9 - (1 : Int)) <|
 .nb (v9 - (1 : Int)) ((nv0 : Nat) : Int) <|
 .nd (decide (((0 : Nat) + (Int.toNat (v9 - (1 : Int)))) < (b0).length)) <|
 .nb v9 ((nv0 : Nat) : Int) <|
 .nd (decide (((0 : Nat) + (Int.toNat v9)) < (b0).length)) <|
 .nb v9 ((nv0 : Nat) : Int) <|
 .nd (decide (((0 : Nat) + (Int.toNat v9)) < (b0).length)) <|
 .nb (v9 - (1 : Int)) ((nv0 : Nat) : Int) <|
 .nd (decide (((0 : Nat) + (Int.toNat (v9 - (1 : Int)))) < (((b0).set ((0 : Nat) + (Int.toNat v9)) (((b0).getD ((0 : Nat) + (Int.toNat (v9 - (1 : Int)))) ((0 : Int), (0 : Int))).1, ((b0).getD ((0 : Nat) + (Int.toNat (v9 - (1 : Int)))) ((0 : Int), (0 : Int))).2))).length)) <|
 .ni (v9 - (1 : Int)) <|
 .ret (.inl (nv0, (v1, (v2, (v8, ((v9 - (1 : Int)), (((((b0).set ((0 : Nat) + (Int.toNat v9)) (((b0).getD ((0 : Nat) + (Int.toNat (v9 - (1 : Int)))) ((0 : Int), (0 : Int))).1, ((b0).getD ((0 : Nat) + (Int.toNat (v9 - (1 : Int)))) ((0 : Int), (0 : Int))).2))).set ((0 : Nat) + (Int.toNat (v9 - (1 : Int)))) (((b0).getD ((0 : Nat) + (Int.toNat v9)) ((0 : Int), (0 : Int))).1, ((b0).getD ((0 : Nat) + (Int.toNat v9)) ((0 : Int), (0 : Int))).2)), ())))))))) (
 .ret (.inr (nv0, (v1, (v2, (v8, (b0, ())))))))) (
 .ret (.inr (nv0, (v1, (v2, (v8, (b0, ())))))))
theorem sH73_v1_1 : ∀ x, roundE (kzO (pH73_v1_1.T ⊕ xH73_v1_1.T)) cxH73_v1 ar0 [0, 1] pH73_v1_1 xH73_v1_1 (bH73_v1_1) (fun y => some (.inl y)) (fun b => some (.inr b)) x = run0 (gH73_v1_1 x) := fun x => by kernel_rfl
noncomputable def LH73_v1_1 : LoopS prog 53 none 2 := mkLoop mixed cxH73_v1 cxH73_v1_ok [0, 1] rfl pH73_v1_1 xH73_v1_1 rfl (bH73_v1_1) (fun x => run0 (gH73_v1_1 x)) (sH73_v1_1)
@[reducible] def pH73_v1_0 : Pat := Pat.mk [(0, .c (.sl0 0 (.prod tI tI))), (1, hI), (2, hI), (3, .fn 46 [] [.ptr 1 0]), (8, hI)] [(0, .arr (.prod tI tI) false), (1, .cells [.fn0 30] false)] [] []
@[reducible] def xH73_v1_0 : Outs := [(.exit 0, Pat.mk [] [(1, .cells [.fn0 30] false), (0, .arr (.prod tI tI) false)] [] [])]
noncomputable def bH73_v1_0 : D prog 53 none 2 := dO [.l LH73_v1_1] (pick (kd prog f73) [(0, false)]) 0
noncomputable def gH73_v1_0 : Nat × Int × Int × Int × (List (Int × Int)) × Unit → Tr0 ((Nat × Int × Int × Int × (List (Int × Int)) × Unit) ⊕ (((List (Int × Int)) × Unit))) := fun (nv0, v1, v2, v8, b0, _) =>
 .br (decide (v8 < v2)) (
 .bd (.it gH73_v1_1 (nv0, (v1, (v2, (v8, (v8, (b0, ()))))))) fun z1 =>
 .ni (z1.2.2.2.1 + (1 : Int)) <|
 .ret (.inl (z1.1, (z1.2.1, (z1.2.2.1, ((z1.2.2.2.1 + (1 : Int)), (z1.2.2.2.2.1, ()))))))) (
 .ret (.inr (b0, ())))
theorem sH73_v1_0 : ∀ x, roundE (kzO (pH73_v1_0.T ⊕ xH73_v1_0.T)) cxH73_v1 ar0 [0, 1] pH73_v1_0 xH73_v1_0 (bH73_v1_0) (fun y => some (.inl y)) (fun b => some (.inr b)) x = run0 (gH73_v1_0 x) := fun x => by kernel_rfl
noncomputable def LH73_v1_0 : LoopS prog 53 none 2 := mkLoop mixed cxH73_v1 cxH73_v1_ok [0, 1] rfl pH73_v1_0 xH73_v1_0 rfl (bH73_v1_0) (fun x => run0 (gH73_v1_0 x)) (sH73_v1_0)
noncomputable def ddH73_v1 : D prog 53 none 2 := dO [.l LH73_v1_0] (kd prog f73) 0
noncomputable def FH73_v1 (nv0 : Nat) (v1 : Int) (v2 : Int) (b0 : List (Int × Int)) : Tr0 ((List (Int × Int)) × Unit) :=
 .ni (v1 + (1 : Int)) <|
 .bd (.it gH73_v1_0 (nv0, (v1, (v2, ((v1 + (1 : Int)), (b0, ())))))) fun z2 =>
 .ret (z2.1, ())
theorem cH73_v1_ok : trF prog f73 = some ⟨53, 4, ddH73_v1.er, [], []⟩ := by kernel_rfl
noncomputable def ht73_v1 : Ht := ⟨73, pH73_v1, qH73_v1, (fun x => run0 (FH73_v1 x.1 x.2.1 x.2.2.1 x.2.2.2.1))⟩
theorem ht73_v1_ok : ht73_v1.Ok prog := ht_ok mixed cxH73_v1_ok rfl func73 cH73_v1_ok (enters_of func73 rfl rfl) ddH73_v1 (by kernel_rfl) rfl rfl ⟨_, rfl⟩ rfl (pre := [0, 1]) rfl (fun x => by kernel_rfl)

/- 79, lent -/
@[reducible] def pH79_v1 : Pat := Pat.mk [(0, .c (.sl0 0 (.prod tI tI))), (1, hI), (2, hI), (3, hI), (4, .fn 46 [] [.ptr 1 0])] [(0, .arr (.prod tI tI) false), (1, .cells [.fn0 30] false)] [.slot 0, .part 4 0] []
@[reducible] def qH79_v1 : Pat := Pat.mk [(0, .c .any)] [(1, .cells [.fn0 30] false), (0, .arr (.prod tI tI) false)] [] []
noncomputable def cxH79_v1 : Cx := (mkCxH [] [])
theorem cxH79_v1_ok : cxH79_v1.Ok prog := mkCxH_ok trivial trivial
@[reducible] def pH79_v1_0 : Pat := Pat.mk [(0, .c (.sl0 0 (.prod tI tI))), (1, hI), (2, hI), (3, hI), (10, hI)] [(0, .arr (.prod tI tI) false), (1, .cells [.fn0 30] false)] [] []
@[reducible] def xH79_v1_0 : Outs := [(.exit 0, Pat.mk [] [(1, .cells [.fn0 30] false), (0, .arr (.prod tI tI) false)] [] [])]
noncomputable def bH79_v1_0 : D prog 38 none 2 := dO [] (pick (kd prog f79) [(0, false)]) 0
noncomputable def gH79_v1_0 : Nat × Int × Int × Int × Int × (List (Int × Int)) × Unit → Tr0 ((Nat × Int × Int × Int × Int × (List (Int × Int)) × Unit) ⊕ (((List (Int × Int)) × Unit))) := fun (nv0, v1, v2, v3, v10, b0, _) =>
 .br (decide (v10 < v3)) (
 .ni (v1 + v10) <|
 .ni (v2 + v10) <|
 .ni (v2 + v10) <|
 .nb (v2 + v10) ((nv0 : Nat) : Int) <|
 .nd (decide (((0 : Nat) + (Int.toNat (v2 + v10))) < (b0).length)) <|
 .ni (v1 + v10) <|
 .nb (v1 + v10) ((nv0 : Nat) : Int) <|
 .nd (decide (((0 : Nat) + (Int.toNat (v1 + v10))) < (b0).length)) <|
 .nb (v1 + v10) ((nv0 : Nat) : Int) <|
 .nd (decide (((0 : Nat) + (Int.toNat (v1 + v10))) < (b0).length)) <|
 .nb (v2 + v10) ((nv0 : Nat) : Int) <|
 .nd (decide (((0 : Nat) + (Int.toNat (v2 + v10))) < (((b0).set ((0 : Nat) + (Int.toNat (v1 + v10))) (((b0).getD ((0 : Nat) + (Int.toNat (v2 + v10))) ((0 : Int), (0 : Int))).1, ((b0).getD ((0 : Nat) + (Int.toNat (v2 + v10))) ((0 : Int), (0 : Int))).2))).length)) <|
 .ni (v10 + (1 : Int)) <|
 .ret (.inl (nv0, (v1, (v2, (v3, ((v10 + (1 : Int)), (((((b0).set ((0 : Nat) + (Int.toNat (v1 + v10))) (((b0).getD ((0 : Nat) + (Int.toNat (v2 + v10))) ((0 : Int), (0 : Int))).1, ((b0).getD ((0 : Nat) + (Int.toNat (v2 + v10))) ((0 : Int), (0 : Int))).2))).set ((0 : Nat) + (Int.toNat (v2 + v10))) (((b0).getD ((0 : Nat) + (Int.toNat (v1 + v10))) ((0 : Int), (0 : Int))).1, ((b0).getD ((0 : Nat) + (Int.toNat (v1 + v10))) ((0 : Int), (0 : Int))).2)), ())))))))) (
 .ret (.inr (b0, ())))
theorem sH79_v1_0 : ∀ x, roundE (kzO (pH79_v1_0.T ⊕ xH79_v1_0.T)) cxH79_v1 ar0 [0, 1] pH79_v1_0 xH79_v1_0 (bH79_v1_0) (fun y => some (.inl y)) (fun b => some (.inr b)) x = run0 (gH79_v1_0 x) := fun x => by kernel_rfl
noncomputable def LH79_v1_0 : LoopS prog 38 none 2 := mkLoop mixed cxH79_v1 cxH79_v1_ok [0, 1] rfl pH79_v1_0 xH79_v1_0 rfl (bH79_v1_0) (fun x => run0 (gH79_v1_0 x)) (sH79_v1_0)
noncomputable def ddH79_v1 : D prog 38 none 2 := dO [.l LH79_v1_0] (kd prog f79) 0
noncomputable def FH79_v1 (nv0 : Nat) (v1 : Int) (v2 : Int) (v3 : Int) (b0 : List (Int × Int)) : Tr0 ((List (Int × Int)) × Unit) :=
 .bd (.it gH79_v1_0 (nv0, (v1, (v2, (v3, ((0 : Int), (b0, ()))))))) fun z0 =>
 .ret (z0.1, ())
theorem cH79_v1_ok : trF prog f79 = some ⟨38, 5, ddH79_v1.er, [], []⟩ := by kernel_rfl
noncomputable def ht79_v1 : Ht := ⟨79, pH79_v1, qH79_v1, (fun x => run0 (FH79_v1 x.1 x.2.1 x.2.2.1 x.2.2.2.1 x.2.2.2.2.1))⟩
theorem ht79_v1_ok : ht79_v1.Ok prog := ht_ok mixed cxH79_v1_ok rfl func79 cH79_v1_ok (enters_of func79 rfl rfl) ddH79_v1 (by kernel_rfl) rfl rfl ⟨_, rfl⟩ rfl (pre := [0, 1]) rfl (fun x => by kernel_rfl)

/- 77, lent -/
@[reducible] def pH77_v1 : Pat := Pat.mk [(0, .c (.sl0 0 (.prod tI tI))), (1, hI), (2, hI), (3, hI), (4, .fn 46 [] [.ptr 1 0])] [(0, .arr (.prod tI tI) false), (1, .cells [.fn0 30] false)] [.slot 0, .part 4 0] []
@[reducible] def qH77_v1 : Pat := Pat.mk [(0, .c .any)] [(1, .cells [.fn0 30] false), (0, .arr (.prod tI tI) false)] [] []
noncomputable def cxH77_v1 : Cx := (mkCxH [] [ht79_v1])
theorem cxH77_v1_ok : cxH77_v1.Ok prog := mkCxH_ok trivial ⟨⟨ht79_v1_ok, rfl⟩, trivial⟩
@[reducible] def pH77_v1_0 : Pat := Pat.mk [(0, .c (.sl0 0 (.prod tI tI))), (2, hI), (4, .fn 46 [] [.ptr 1 0]), (10, hI), (11, hI)] [(0, .arr (.prod tI tI) false), (1, .cells [.fn0 30] false)] [] []
@[reducible] def xH77_v1_0 : Outs := [(.exit 0, Pat.mk [(0, .c (.sl0 0 (.prod tI tI))), (2, hI), (4, .fn 46 [] [.ptr 1 0]), (10, hI)] [(0, .arr (.prod tI tI) false), (1, .cells [.fn0 30] false)] [] [])]
noncomputable def bH77_v1_0 : D prog 58 none 2 := dO [] (pick (kd prog f77) [(0, false)]) 0
noncomputable def gH77_v1_0 : Nat × Int × Int × Int × (List (Int × Int)) × Unit → Tr0 ((Nat × Int × Int × Int × (List (Int × Int)) × Unit) ⊕ ((Nat × Int × Int × (List (Int × Int)) × Unit))) := fun (nv0, v2, v10, v11, b0, _) =>
 .br (!(v10 == v11)) (
 .br (decide (v11 < v10)) (
 .ni (v2 - v10) <|
 .bd (FH79_v1 nv0 (v2 - v10) v2 v11 b0) fun y0 =>
 .ni (v10 - v11) <|
 .ret (.inl (nv0, (v2, ((v10 - v11), (v11, (y0.1, ()))))))) (
 .ni (v2 - v10) <|
 .ni (v2 + v11) <|
 .ni ((v2 + v11) - v10) <|
 .bd (FH79_v1 nv0 (v2 - v10) ((v2 + v11) - v10) v10 b0) fun y1 =>
 .ni (v11 - v10) <|
 .ret (.inl (nv0, (v2, (v10, ((v11 - v10), (y1.1, ())))))))) (
 .ret (.inr (nv0, (v2, (v10, (b0, ()))))))
theorem sH77_v1_0 : ∀ x, roundE (kzO (pH77_v1_0.T ⊕ xH77_v1_0.T)) cxH77_v1 ar0 [0, 1] pH77_v1_0 xH77_v1_0 (bH77_v1_0) (fun y => some (.inl y)) (fun b => some (.inr b)) x = run0 (gH77_v1_0 x) := fun x => by kernel_rfl
noncomputable def LH77_v1_0 : LoopS prog 58 none 2 := mkLoop mixed cxH77_v1 cxH77_v1_ok [0, 1] rfl pH77_v1_0 xH77_v1_0 rfl (bH77_v1_0) (fun x => run0 (gH77_v1_0 x)) (sH77_v1_0)
noncomputable def ddH77_v1 : D prog 58 none 2 := dO [.l LH77_v1_0] (kd prog f77) 0
noncomputable def FH77_v1 (nv0 : Nat) (v1 : Int) (v2 : Int) (v3 : Int) (b0 : List (Int × Int)) : Tr0 ((List (Int × Int)) × Unit) :=
 .ni (v2 - v1) <|
 .ni (v3 - v2) <|
 .bd (.it gH77_v1_0 (nv0, (v2, ((v2 - v1), ((v3 - v2), (b0, ())))))) fun z2 =>
 .ni (z2.2.1 - z2.2.2.1) <|
 .bd (FH79_v1 z2.1 (z2.2.1 - z2.2.2.1) z2.2.1 z2.2.2.1 z2.2.2.2.1) fun y3 =>
 .ret (y3.1, ())
theorem cH77_v1_ok : trF prog f77 = some ⟨58, 5, ddH77_v1.er, [], []⟩ := by kernel_rfl
noncomputable def ht77_v1 : Ht := ⟨77, pH77_v1, qH77_v1, (fun x => run0 (FH77_v1 x.1 x.2.1 x.2.2.1 x.2.2.2.1 x.2.2.2.2.1))⟩
theorem ht77_v1_ok : ht77_v1.Ok prog := ht_ok mixed cxH77_v1_ok rfl func77 cH77_v1_ok (enters_of func77 rfl rfl) ddH77_v1 (by kernel_rfl) rfl rfl ⟨_, rfl⟩ rfl (pre := [0, 1]) rfl (fun x => by kernel_rfl)

/- 74, lent -/
@[reducible] def pH74_v1 : Pat := Pat.mk [(0, .c (.sl0 0 (.prod tI tI))), (1, hI), (2, hI), (3, hI), (4, .fn 46 [] [.ptr 1 0])] [(0, .arr (.prod tI tI) false), (1, .cells [.fn0 30] false)] [.slot 0, .part 4 0] []
@[reducible] def qH74_v1 : Pat := Pat.mk [(0, .c .any)] [(1, .cells [.fn0 30] false), (0, .arr (.prod tI tI) false)] [] []
noncomputable def cxH74_v1 (rec : pH74_v1.T → Option qH74_v1.T) : Cx := (mkCxH [ct46] [ht77_v1, ⟨74, pH74_v1, qH74_v1, rec⟩])
theorem cxH74_v1_ok (rec : pH74_v1.T → Option qH74_v1.T) (h : Ht.Ok prog ⟨74, pH74_v1, qH74_v1, rec⟩) : (cxH74_v1 rec).Ok prog := mkCxH_ok ⟨ct46_ok, trivial⟩ ⟨⟨ht77_v1_ok, rfl⟩, ⟨h, rfl⟩, trivial⟩
@[reducible] def pH74_v1_0 : Pat := Pat.mk [(0, .c (.sl0 0 (.prod tI tI))), (1, hI), (4, .fn 46 [] [.ptr 1 0]), (10, hI), (11, hI)] [(0, .arr (.prod tI tI) false), (1, .cells [.fn0 30] false)] [] []
@[reducible] def xH74_v1_0 : Outs := [(.exit 0, Pat.mk [(0, .c (.sl0 0 (.prod tI tI))), (1, hI), (10, hI)] [(0, .arr (.prod tI tI) false), (1, .cells [.fn0 30] false)] [] [])]
noncomputable def bH74_v1_0 (rec : pH74_v1.T → Option qH74_v1.T) (h : Ht.Ok prog ⟨74, pH74_v1, qH74_v1, rec⟩) : D prog 220 none 2 := dO [] (pick (kd prog f74) [(0, false)]) 0
noncomputable def gH74_v1_0 : Nat × Int × Int × Int × (List (Int × Int)) × Unit → Tr pH74_v1.T qH74_v1.T ((Nat × Int × Int × Int × (List (Int × Int)) × Unit) ⊕ ((Nat × Int × Int × (List (Int × Int)) × Unit))) := fun (nv0, v1, v10, v11, b0, _) =>
 .br (decide (v10 < v11)) (
 .ni (v10 + v11) <|
 .nd (rng .u64 (v10 + v11)) <|
 .nb (1 : Int) (64 : Int) <|
 .ni (ar0.shr (v10 + v11) (1 : Int)) <|
 .nb (ar0.shr (v10 + v11) (1 : Int)) ((nv0 : Nat) : Int) <|
 .nd (decide (((0 : Nat) + (Int.toNat (ar0.shr (v10 + v11) (1 : Int)))) < (b0).length)) <|
 .nb v1 ((nv0 : Nat) : Int) <|
 .nd (decide (((0 : Nat) + (Int.toNat v1)) < (b0).length)) <|
 .bd (.up (F46 (((b0).getD ((0 : Nat) + (Int.toNat (ar0.shr (v10 + v11) (1 : Int)))) ((0 : Int), (0 : Int))).1, ((b0).getD ((0 : Nat) + (Int.toNat (ar0.shr (v10 + v11) (1 : Int)))) ((0 : Int), (0 : Int))).2) (((b0).getD ((0 : Nat) + (Int.toNat v1)) ((0 : Int), (0 : Int))).1, ((b0).getD ((0 : Nat) + (Int.toNat v1)) ((0 : Int), (0 : Int))).2))) fun y0 =>
 .br (decide (y0.1 < (0 : Int))) (
 .ni ((ar0.shr (v10 + v11) (1 : Int)) + (1 : Int)) <|
 .ret (.inl (nv0, (v1, (((ar0.shr (v10 + v11) (1 : Int)) + (1 : Int)), (v11, (b0, ()))))))) (
 .ret (.inl (nv0, (v1, (v10, ((ar0.shr (v10 + v11) (1 : Int)), (b0, ())))))))) (
 .ret (.inr (nv0, (v1, (v10, (b0, ()))))))
theorem sH74_v1_0 (rec : pH74_v1.T → Option qH74_v1.T) (h : Ht.Ok prog ⟨74, pH74_v1, qH74_v1, rec⟩) : ∀ x, roundE (kzO (pH74_v1_0.T ⊕ xH74_v1_0.T)) (cxH74_v1 rec) ar0 [0, 1] pH74_v1_0 xH74_v1_0 (bH74_v1_0 rec h) (fun y => some (.inl y)) (fun b => some (.inr b)) x = run rec (gH74_v1_0 x) := fun x => by kernel_rfl
noncomputable def LH74_v1_0 (rec : pH74_v1.T → Option qH74_v1.T) (h : Ht.Ok prog ⟨74, pH74_v1, qH74_v1, rec⟩) : LoopS prog 220 none 2 := mkLoop mixed (cxH74_v1 rec) (cxH74_v1_ok rec h) [0, 1] rfl pH74_v1_0 xH74_v1_0 rfl (bH74_v1_0 rec h) (fun x => run rec (gH74_v1_0 x)) (sH74_v1_0 rec h)
@[reducible] def pH74_v1_1 : Pat := Pat.mk [(0, .c (.sl0 0 (.prod tI tI))), (10, hI), (13, hI)] [(0, .arr (.prod tI tI) false), (1, .cells [.fn0 30] false)] [] []
@[reducible] def xH74_v1_1 : Outs := [(.exit 2, Pat.mk [] [(1, .cells [.fn0 30] false), (0, .arr (.prod tI tI) false)] [] [])]
noncomputable def bH74_v1_1 (rec : pH74_v1.T → Option qH74_v1.T) (h : Ht.Ok prog ⟨74, pH74_v1, qH74_v1, rec⟩) : D prog 220 none 2 := dO [] (pick (kd prog f74) [(1, false)]) 0
noncomputable def gH74_v1_1 : Nat × Int × Int × (List (Int × Int)) × Unit → Tr pH74_v1.T qH74_v1.T ((Nat × Int × Int × (List (Int × Int)) × Unit) ⊕ (((List (Int × Int)) × Unit))) := fun (nv0, v10, v13, b0, _) =>
 .ni (v10 - (1 : Int)) <|
 .br (decide (v13 < (v10 - (1 : Int)))) (
 .ni (v13 + (1 : Int)) <|
 .ni (v13 + (1 : Int)) <|
 .nb (v13 + (1 : Int)) ((nv0 : Nat) : Int) <|
 .nd (decide (((0 : Nat) + (Int.toNat (v13 + (1 : Int)))) < (b0).length)) <|
 .nb v13 ((nv0 : Nat) : Int) <|
 .nd (decide (((0 : Nat) + (Int.toNat v13)) < (b0).length)) <|
 .nb v13 ((nv0 : Nat) : Int) <|
 .nd (decide (((0 : Nat) + (Int.toNat v13)) < (b0).length)) <|
 .nb (v13 + (1 : Int)) ((nv0 : Nat) : Int) <|
 .nd (decide (((0 : Nat) + (Int.toNat (v13 + (1 : Int)))) < (((b0).set ((0 : Nat) + (Int.toNat v13)) (((b0).getD ((0 : Nat) + (Int.toNat (v13 + (1 : Int)))) ((0 : Int), (0 : Int))).1, ((b0).getD ((0 : Nat) + (Int.toNat (v13 + (1 : Int)))) ((0 : Int), (0 : Int))).2))).length)) <|
 .ni (v13 + (1 : Int)) <|
 .ret (.inl (nv0, (v10, ((v13 + (1 : Int)), (((((b0).set ((0 : Nat) + (Int.toNat v13)) (((b0).getD ((0 : Nat) + (Int.toNat (v13 + (1 : Int)))) ((0 : Int), (0 : Int))).1, ((b0).getD ((0 : Nat) + (Int.toNat (v13 + (1 : Int)))) ((0 : Int), (0 : Int))).2))).set ((0 : Nat) + (Int.toNat (v13 + (1 : Int)))) (((b0).getD ((0 : Nat) + (Int.toNat v13)) ((0 : Int), (0 : Int))).1, ((b0).getD ((0 : Nat) + (Int.toNat v13)) ((0 : Int), (0 : Int))).2)), ())))))) (
 .ret (.inr (b0, ())))
theorem sH74_v1_1 (rec : pH74_v1.T → Option qH74_v1.T) (h : Ht.Ok prog ⟨74, pH74_v1, qH74_v1, rec⟩) : ∀ x, roundE (kzO (pH74_v1_1.T ⊕ xH74_v1_1.T)) (cxH74_v1 rec) ar0 [0, 1] pH74_v1_1 xH74_v1_1 (bH74_v1_1 rec h) (fun y => some (.inl y)) (fun b => some (.inr b)) x = run rec (gH74_v1_1 x) := fun x => by kernel_rfl
noncomputable def LH74_v1_1 (rec : pH74_v1.T → Option qH74_v1.T) (h : Ht.Ok prog ⟨74, pH74_v1, qH74_v1, rec⟩) : LoopS prog 220 none 2 := mkLoop mixed (cxH74_v1 rec) (cxH74_v1_ok rec h) [0, 1] rfl pH74_v1_1 xH74_v1_1 rfl (bH74_v1_1 rec h) (fun x => run rec (gH74_v1_1 x)) (sH74_v1_1 rec h)
@[reducible] def pH74_v1_2 : Pat := Pat.mk [(0, .c (.sl0 0 (.prod tI tI))), (2, hI), (4, .fn 46 [] [.ptr 1 0]), (14, hI), (15, hI)] [(0, .arr (.prod tI tI) false), (1, .cells [.fn0 30] false)] [] []
@[reducible] def xH74_v1_2 : Outs := [(.exit 4, Pat.mk [(0, .c (.sl0 0 (.prod tI tI))), (2, hI), (14, hI)] [(0, .arr (.prod tI tI) false), (1, .cells [.fn0 30] false)] [] [])]
noncomputable def bH74_v1_2 (rec : pH74_v1.T → Option qH74_v1.T) (h : Ht.Ok prog ⟨74, pH74_v1, qH74_v1, rec⟩) : D prog 220 none 2 := dO [] (pick (kd prog f74) [(2, false)]) 0
noncomputable def gH74_v1_2 : Nat × Int × Int × Int × (List (Int × Int)) × Unit → Tr pH74_v1.T qH74_v1.T ((Nat × Int × Int × Int × (List (Int × Int)) × Unit) ⊕ ((Nat × Int × Int × (List (Int × Int)) × Unit))) := fun (nv0, v2, v14, v15, b0, _) =>
 .br (decide (v14 < v15)) (
 .ni (v14 + v15) <|
 .nd (rng .u64 (v14 + v15)) <|
 .nb (1 : Int) (64 : Int) <|
 .ni (ar0.shr (v14 + v15) (1 : Int)) <|
 .nb v2 ((nv0 : Nat) : Int) <|
 .nd (decide (((0 : Nat) + (Int.toNat v2)) < (b0).length)) <|
 .nb (ar0.shr (v14 + v15) (1 : Int)) ((nv0 : Nat) : Int) <|
 .nd (decide (((0 : Nat) + (Int.toNat (ar0.shr (v14 + v15) (1 : Int)))) < (b0).length)) <|
 .bd (.up (F46 (((b0).getD ((0 : Nat) + (Int.toNat v2)) ((0 : Int), (0 : Int))).1, ((b0).getD ((0 : Nat) + (Int.toNat v2)) ((0 : Int), (0 : Int))).2) (((b0).getD ((0 : Nat) + (Int.toNat (ar0.shr (v14 + v15) (1 : Int)))) ((0 : Int), (0 : Int))).1, ((b0).getD ((0 : Nat) + (Int.toNat (ar0.shr (v14 + v15) (1 : Int)))) ((0 : Int), (0 : Int))).2))) fun y3 =>
 .br (!(decide (y3.1 < (0 : Int)))) (
 .ni ((ar0.shr (v14 + v15) (1 : Int)) + (1 : Int)) <|
 .ret (.inl (nv0, (v2, (((ar0.shr (v14 + v15) (1 : Int)) + (1 : Int)), (v15, (b0, ()))))))) (
 .ret (.inl (nv0, (v2, (v14, ((ar0.shr (v14 + v15) (1 : Int)), (b0, ())))))))) (
 .ret (.inr (nv0, (v2, (v14, (b0, ()))))))
theorem sH74_v1_2 (rec : pH74_v1.T → Option qH74_v1.T) (h : Ht.Ok prog ⟨74, pH74_v1, qH74_v1, rec⟩) : ∀ x, roundE (kzO (pH74_v1_2.T ⊕ xH74_v1_2.T)) (cxH74_v1 rec) ar0 [0, 1] pH74_v1_2 xH74_v1_2 (bH74_v1_2 rec h) (fun y => some (.inl y)) (fun b => some (.inr b)) x = run rec (gH74_v1_2 x) := fun x => by kernel_rfl
noncomputable def LH74_v1_2 (rec : pH74_v1.T → Option qH74_v1.T) (h : Ht.Ok prog ⟨74, pH74_v1, qH74_v1, rec⟩) : LoopS prog 220 none 2 := mkLoop mixed (cxH74_v1 rec) (cxH74_v1_ok rec h) [0, 1] rfl pH74_v1_2 xH74_v1_2 rfl (bH74_v1_2 rec h) (fun x => run rec (gH74_v1_2 x)) (sH74_v1_2 rec h)
@[reducible] def pH74_v1_3 : Pat := Pat.mk [(0, .c (.sl0 0 (.prod tI tI))), (14, hI), (17, hI)] [(0, .arr (.prod tI tI) false), (1, .cells [.fn0 30] false)] [] []
@[reducible] def xH74_v1_3 : Outs := [(.exit 6, Pat.mk [] [(1, .cells [.fn0 30] false), (0, .arr (.prod tI tI) false)] [] [])]
noncomputable def bH74_v1_3 (rec : pH74_v1.T → Option qH74_v1.T) (h : Ht.Ok prog ⟨74, pH74_v1, qH74_v1, rec⟩) : D prog 220 none 2 := dO [] (pick (kd prog f74) [(3, false)]) 0
noncomputable def gH74_v1_3 : Nat × Int × Int × (List (Int × Int)) × Unit → Tr pH74_v1.T qH74_v1.T ((Nat × Int × Int × (List (Int × Int)) × Unit) ⊕ (((List (Int × Int)) × Unit))) := fun (nv0, v14, v17, b0, _) =>
 .br (decide (v14 < v17)) (
 .ni (v17 - (1 : Int)) <|
 .ni (v17 - (1 : Int)) <|
 .nb (v17 - (1 : Int)) ((nv0 : Nat) : Int) <|
 .nd (decide (((0 : Nat) + (Int.toNat (v17 - (1 : Int)))) < (b0).length)) <|
 .nb v17 ((nv0 : Nat) : Int) <|
 .nd (decide (((0 : Nat) + (Int.toNat v17)) < (b0).length)) <|
 .nb v17 ((nv0 : Nat) : Int) <|
 .nd (decide (((0 : Nat) + (Int.toNat v17)) < (b0).length)) <|
 .nb (v17 - (1 : Int)) ((nv0 : Nat) : Int) <|
 .nd (decide (((0 : Nat) + (Int.toNat (v17 - (1 : Int)))) < (((b0).set ((0 : Nat) + (Int.toNat v17)) (((b0).getD ((0 : Nat) + (Int.toNat (v17 - (1 : Int)))) ((0 : Int), (0 : Int))).1, ((b0).getD ((0 : Nat) + (Int.toNat (v17 - (1 : Int)))) ((0 : Int), (0 : Int))).2))).length)) <|
 .ni (v17 - (1 : Int)) <|
 .ret (.inl (nv0, (v14, ((v17 - (1 : Int)), (((((b0).set ((0 : Nat) + (Int.toNat v17)) (((b0).getD ((0 : Nat) + (Int.toNat (v17 - (1 : Int)))) ((0 : Int), (0 : Int))).1, ((b0).getD ((0 : Nat) + (Int.toNat (v17 - (1 : Int)))) ((0 : Int), (0 : Int))).2))).set ((0 : Nat) + (Int.toNat (v17 - (1 : Int)))) (((b0).getD ((0 : Nat) + (Int.toNat v17)) ((0 : Int), (0 : Int))).1, ((b0).getD ((0 : Nat) + (Int.toNat v17)) ((0 : Int), (0 : Int))).2)), ())))))) (
 .ret (.inr (b0, ())))
theorem sH74_v1_3 (rec : pH74_v1.T → Option qH74_v1.T) (h : Ht.Ok prog ⟨74, pH74_v1, qH74_v1, rec⟩) : ∀ x, roundE (kzO (pH74_v1_3.T ⊕ xH74_v1_3.T)) (cxH74_v1 rec) ar0 [0, 1] pH74_v1_3 xH74_v1_3 (bH74_v1_3 rec h) (fun y => some (.inl y)) (fun b => some (.inr b)) x = run rec (gH74_v1_3 x) := fun x => by kernel_rfl
noncomputable def LH74_v1_3 (rec : pH74_v1.T → Option qH74_v1.T) (h : Ht.Ok prog ⟨74, pH74_v1, qH74_v1, rec⟩) : LoopS prog 220 none 2 := mkLoop mixed (cxH74_v1 rec) (cxH74_v1_ok rec h) [0, 1] rfl pH74_v1_3 xH74_v1_3 rfl (bH74_v1_3 rec h) (fun x => run rec (gH74_v1_3 x)) (sH74_v1_3 rec h)
@[reducible] def pH74_v1_4 : Pat := Pat.mk [(0, .c (.sl0 0 (.prod tI tI))), (1, hI), (2, hI), (3, hI), (4, .fn 46 [] [.ptr 1 0]), (18, hI), (19, hI), (20, hI), (21, hI), (22, hI)] [(0, .arr (.prod tI tI) false), (1, .cells [.fn0 30] false)] [] []
@[reducible] def xH74_v1_4 : Outs := [(.exit 8, Pat.mk [(0, .c (.sl0 0 (.prod tI tI))), (1, hI), (2, hI), (3, hI), (4, .fn 46 [] [.ptr 1 0]), (18, hI), (19, hI), (20, hI)] [(0, .arr (.prod tI tI) false), (1, .cells [.fn0 30] false)] [] [])]
noncomputable def bH74_v1_4 (rec : pH74_v1.T → Option qH74_v1.T) (h : Ht.Ok prog ⟨74, pH74_v1, qH74_v1, rec⟩) : D prog 220 none 2 := dO [] (pick (kd prog f74) [(4, false)]) 0
noncomputable def gH74_v1_4 : Nat × Int × Int × Int × Int × Int × Int × Int × Int × (List (Int × Int)) × Unit → Tr pH74_v1.T qH74_v1.T ((Nat × Int × Int × Int × Int × Int × Int × Int × Int × (List (Int × Int)) × Unit) ⊕ ((Nat × Int × Int × Int × Int × Int × Int × (List (Int × Int)) × Unit))) := fun (nv0, v1, v2, v3, v18, v19, v20, v21, v22, b0, _) =>
 .br (decide (v20 < v21)) (
 .ni (v20 + v21) <|
 .nd (rng .u64 (v20 + v21)) <|
 .nb (1 : Int) (64 : Int) <|
 .ni (ar0.shr (v20 + v21) (1 : Int)) <|
 .ni (v22 - (ar0.shr (v20 + v21) (1 : Int))) <|
 .nb (v22 - (ar0.shr (v20 + v21) (1 : Int))) ((nv0 : Nat) : Int) <|
 .nd (decide (((0 : Nat) + (Int.toNat (v22 - (ar0.shr (v20 + v21) (1 : Int))))) < (b0).length)) <|
 .nb (ar0.shr (v20 + v21) (1 : Int)) ((nv0 : Nat) : Int) <|
 .nd (decide (((0 : Nat) + (Int.toNat (ar0.shr (v20 + v21) (1 : Int)))) < (b0).length)) <|
 .bd (.up (F46 (((b0).getD ((0 : Nat) + (Int.toNat (v22 - (ar0.shr (v20 + v21) (1 : Int))))) ((0 : Int), (0 : Int))).1, ((b0).getD ((0 : Nat) + (Int.toNat (v22 - (ar0.shr (v20 + v21) (1 : Int))))) ((0 : Int), (0 : Int))).2) (((b0).getD ((0 : Nat) + (Int.toNat (ar0.shr (v20 + v21) (1 : Int)))) ((0 : Int), (0 : Int))).1, ((b0).getD ((0 : Nat) + (Int.toNat (ar0.shr (v20 + v21) (1 : Int)))) ((0 : Int), (0 : Int))).2))) fun y7 =>
 .br (!(decide (y7.1 < (0 : Int)))) (
 .ni ((ar0.shr (v20 + v21) (1 : Int)) + (1 : Int)) <|
 .ret (.inl (nv0, (v1, (v2, (v3, (v18, (v19, (((ar0.shr (v20 + v21) (1 : Int)) + (1 : Int)), (v21, (v22, (b0, ())))))))))))) (
 .ret (.inl (nv0, (v1, (v2, (v3, (v18, (v19, (v20, ((ar0.shr (v20 + v21) (1 : Int)), (v22, (b0, ()))))))))))))) (
 .ret (.inr (nv0, (v1, (v2, (v3, (v18, (v19, (v20, (b0, ()))))))))))
theorem sH74_v1_4 (rec : pH74_v1.T → Option qH74_v1.T) (h : Ht.Ok prog ⟨74, pH74_v1, qH74_v1, rec⟩) : ∀ x, roundE (kzO (pH74_v1_4.T ⊕ xH74_v1_4.T)) (cxH74_v1 rec) ar0 [0, 1] pH74_v1_4 xH74_v1_4 (bH74_v1_4 rec h) (fun y => some (.inl y)) (fun b => some (.inr b)) x = run rec (gH74_v1_4 x) := fun x => by kernel_rfl
noncomputable def LH74_v1_4 (rec : pH74_v1.T → Option qH74_v1.T) (h : Ht.Ok prog ⟨74, pH74_v1, qH74_v1, rec⟩) : LoopS prog 220 none 2 := mkLoop mixed (cxH74_v1 rec) (cxH74_v1_ok rec h) [0, 1] rfl pH74_v1_4 xH74_v1_4 rfl (bH74_v1_4 rec h) (fun x => run rec (gH74_v1_4 x)) (sH74_v1_4 rec h)
noncomputable def ddH74_v1 (rec : pH74_v1.T → Option qH74_v1.T) (h : Ht.Ok prog ⟨74, pH74_v1, qH74_v1, rec⟩) : D prog 220 none 2 := dO [.l (LH74_v1_0 rec h), .l (LH74_v1_1 rec h), .l (LH74_v1_2 rec h), .l (LH74_v1_3 rec h), .l (LH74_v1_4 rec h)] (kd prog f74) 0
noncomputable def FH74_v1 (nv0 : Nat) (v1 : Int) (v2 : Int) (v3 : Int) (b0 : List (Int × Int)) : Tr pH74_v1.T qH74_v1.T ((List (Int × Int)) × Unit) :=
 .ni (v2 - v1) <|
 .br ((v2 - v1) == (1 : Int)) (
 .bd (.it gH74_v1_0 (nv0, (v1, (v2, (v3, (b0, ())))))) fun z1 =>
 .bd (.it gH74_v1_1 (z1.1, (z1.2.2.1, (z1.2.1, (z1.2.2.2.1, ()))))) fun z2 =>
 .ret (z2.1, ())) (
 .ni (v3 - v2) <|
 .br ((v3 - v2) == (1 : Int)) (
 .bd (.it gH74_v1_2 (nv0, (v2, (v1, (v2, (b0, ())))))) fun z4 =>
 .bd (.it gH74_v1_3 (z4.1, (z4.2.2.1, (z4.2.1, (z4.2.2.2.1, ()))))) fun z5 =>
 .ret (z5.1, ())) (
 .ni (v1 + v3) <|
 .nd (rng .u64 (v1 + v3)) <|
 .nb (1 : Int) (64 : Int) <|
 .ni (ar0.shr (v1 + v3) (1 : Int)) <|
 .ni ((ar0.shr (v1 + v3) (1 : Int)) + v2) <|
 .jx (
 .br (decide ((ar0.shr (v1 + v3) (1 : Int)) < v2)) (
 .ni (((ar0.shr (v1 + v3) (1 : Int)) + v2) - v3) <|
 .ret (.inl (nv0, (v1, (v2, (v3, ((ar0.shr (v1 + v3) (1 : Int)), (((ar0.shr (v1 + v3) (1 : Int)) + v2), ((((ar0.shr (v1 + v3) (1 : Int)) + v2) - v3), ((ar0.shr (v1 + v3) (1 : Int)), (b0, ()))))))))))) (
 .ret (.inl (nv0, (v1, (v2, (v3, ((ar0.shr (v1 + v3) (1 : Int)), (((ar0.shr (v1 + v3) (1 : Int)) + v2), (v1, (v2, (b0, ())))))))))))) fun j6 =>
 .ni (j6.2.2.2.2.2.1 - (1 : Int)) <|
 .bd (.it gH74_v1_4 (j6.1, (j6.2.1, (j6.2.2.1, (j6.2.2.2.1, (j6.2.2.2.2.1, (j6.2.2.2.2.2.1, (j6.2.2.2.2.2.2.1, (j6.2.2.2.2.2.2.2.1, ((j6.2.2.2.2.2.1 - (1 : Int)), (j6.2.2.2.2.2.2.2.2.1, ()))))))))))) fun z8 =>
 .ni (z8.2.2.2.2.2.1 - z8.2.2.2.2.2.2.1) <|
 .jx (
 .br (decide (z8.2.2.2.2.2.2.1 < z8.2.2.1)) (
 .br (decide (z8.2.2.1 < (z8.2.2.2.2.2.1 - z8.2.2.2.2.2.2.1))) (
 .bd (.up (FH77_v1 z8.1 z8.2.2.2.2.2.2.1 z8.2.2.1 (z8.2.2.2.2.2.1 - z8.2.2.2.2.2.2.1) z8.2.2.2.2.2.2.2.1)) fun y11 =>
 .ret (.inl (z8.1, (z8.2.1, (z8.2.2.2.1, (z8.2.2.2.2.1, (z8.2.2.2.2.2.2.1, ((z8.2.2.2.2.2.1 - z8.2.2.2.2.2.2.1), (y11.1, ()))))))))) (
 .ret (.inl (z8.1, (z8.2.1, (z8.2.2.2.1, (z8.2.2.2.2.1, (z8.2.2.2.2.2.2.1, ((z8.2.2.2.2.2.1 - z8.2.2.2.2.2.2.1), (z8.2.2.2.2.2.2.2.1, ())))))))))) (
 .ret (.inl (z8.1, (z8.2.1, (z8.2.2.2.1, (z8.2.2.2.2.1, (z8.2.2.2.2.2.2.1, ((z8.2.2.2.2.2.1 - z8.2.2.2.2.2.2.1), (z8.2.2.2.2.2.2.2.1, ())))))))))) fun j10 =>
 .jx (
 .br (decide (j10.2.1 < j10.2.2.2.2.1)) (
 .br (decide (j10.2.2.2.2.1 < j10.2.2.2.1)) (
 .bd (.rc (j10.1, (j10.2.1, (j10.2.2.2.2.1, (j10.2.2.2.1, (j10.2.2.2.2.2.2.1, ())))))) fun y14 =>
 .ret (.inl (j10.1, (j10.2.2.1, (j10.2.2.2.1, (j10.2.2.2.2.2.1, (y14.1, ()))))))) (
 .ret (.inl (j10.1, (j10.2.2.1, (j10.2.2.2.1, (j10.2.2.2.2.2.1, (j10.2.2.2.2.2.2.1, ())))))))) (
 .ret (.inl (j10.1, (j10.2.2.1, (j10.2.2.2.1, (j10.2.2.2.2.2.1, (j10.2.2.2.2.2.2.1, ())))))))) fun j13 =>
 .br (decide (j13.2.2.1 < j13.2.2.2.1)) (
 .br (decide (j13.2.2.2.1 < j13.2.1)) (
 .bd (.rc (j13.1, (j13.2.2.1, (j13.2.2.2.1, (j13.2.1, (j13.2.2.2.2.1, ())))))) fun y15 =>
 .ret (y15.1, ())) (
 .ret (j13.2.2.2.2.1, ()))) (
 .ret (j13.2.2.2.2.1, ()))))
theorem cH74_v1_ok (rec : pH74_v1.T → Option qH74_v1.T) (h : Ht.Ok prog ⟨74, pH74_v1, qH74_v1, rec⟩) : trF prog f74 = some ⟨220, 5, (ddH74_v1 rec h).er, [], []⟩ := by kernel_rfl
theorem ht74_v1_step (rec : pH74_v1.T → Option qH74_v1.T) (h : Ht.Ok prog ⟨74, pH74_v1, qH74_v1, rec⟩) : Ht.Ok prog ⟨74, pH74_v1, qH74_v1, (fun x => run rec (FH74_v1 x.1 x.2.1 x.2.2.1 x.2.2.2.1 x.2.2.2.2.1))⟩ := ht_ok mixed (cxH74_v1_ok rec h) rfl func74 (cH74_v1_ok rec h) (enters_of func74 rfl rfl) (ddH74_v1 rec h) (by kernel_rfl) rfl rfl ⟨_, rfl⟩ rfl (pre := [0, 1]) rfl (fun x => Eq.trans (b := run rec (flat (FH74_v1 x.1 x.2.1 x.2.2.1 x.2.2.2.1 x.2.2.2.2.1))) (by kernel_rfl) run_flat)
noncomputable def FH74_v1fix (nv0 : Nat) (v1 : Int) (v2 : Int) (v3 : Int) (b0 : List (Int × Int)) : Tr0 ((List (Int × Int)) × Unit) := .fx (A1 := pH74_v1.T) (B1 := qH74_v1.T) (fun x => FH74_v1 x.1 x.2.1 x.2.2.1 x.2.2.2.1 x.2.2.2.2.1) (nv0, v1, v2, v3, b0, ())
noncomputable def ht74_v1 : Ht := ⟨74, pH74_v1, qH74_v1, fun x => run0 (FH74_v1fix x.1 x.2.1 x.2.2.1 x.2.2.2.1 x.2.2.2.2.1)⟩
theorem ht74_v1_ok : ht74_v1.Ok prog := ht_fix (F := fun rec x => run rec (FH74_v1 x.1 x.2.1 x.2.2.1 x.2.2.2.1 x.2.2.2.2.1)) (fun rec h => ht74_v1_step rec h)

/- 64, lent -/
@[reducible] def pH64_v1 : Pat := Pat.mk [(0, .c (.sl0 0 (.prod tI tI))), (1, hI), (2, .fn 46 [] [.ptr 1 0])] [(0, .arr (.prod tI tI) false), (1, .cells [.fn0 30] false)] [.slot 0, .part 2 0] []
@[reducible] def qH64_v1 : Pat := Pat.mk [(0, .c .any)] [(1, .cells [.fn0 30] false), (0, .arr (.prod tI tI) false)] [] []
noncomputable def cxH64_v1 : Cx := (mkCxH [] [ht73_v1, ht74_v1])
theorem cxH64_v1_ok : cxH64_v1.Ok prog := mkCxH_ok trivial ⟨⟨ht73_v1_ok, rfl⟩, ⟨ht74_v1_ok, rfl⟩, trivial⟩
@[reducible] def pH64_v1_0 : Pat := Pat.mk [(0, .c (.sl0 0 (.prod tI tI))), (1, hI), (2, .fn 46 [] [.ptr 1 0]), (6, hI), (7, hI), (8, hI)] [(0, .arr (.prod tI tI) false), (1, .cells [.fn0 30] false)] [] []
@[reducible] def xH64_v1_0 : Outs := [(.exit 0, Pat.mk [(0, .c (.sl0 0 (.prod tI tI))), (1, hI), (2, .fn 46 [] [.ptr 1 0]), (6, hI), (7, hI)] [(0, .arr (.prod tI tI) false), (1, .cells [.fn0 30] false)] [] [])]
noncomputable def bH64_v1_0 : D prog 63 none 2 := dO [] (pick (kd prog f64) [(0, false)]) 0
noncomputable def gH64_v1_0 : Nat × Int × Int × Int × Int × (List (Int × Int)) × Unit → Tr0 ((Nat × Int × Int × Int × Int × (List (Int × Int)) × Unit) ⊕ ((Nat × Int × Int × Int × (List (Int × Int)) × Unit))) := fun (nv0, v1, v6, v7, v8, b0, _) =>
 .br (decide (v8 ≤ v1)) (
 .bd (FH73_v1 nv0 v7 v8 b0) fun y0 =>
 .ni (v8 + v6) <|
 .ret (.inl (nv0, (v1, (v6, (v8, ((v8 + v6), (y0.1, ())))))))) (
 .ret (.inr (nv0, (v1, (v6, (v7, (b0, ())))))))
theorem sH64_v1_0 : ∀ x, roundE (kzO (pH64_v1_0.T ⊕ xH64_v1_0.T)) cxH64_v1 ar0 [0, 1] pH64_v1_0 xH64_v1_0 (bH64_v1_0) (fun y => some (.inl y)) (fun b => some (.inr b)) x = run0 (gH64_v1_0 x) := fun x => by kernel_rfl
noncomputable def LH64_v1_0 : LoopS prog 63 none 2 := mkLoop mixed cxH64_v1 cxH64_v1_ok [0, 1] rfl pH64_v1_0 xH64_v1_0 rfl (bH64_v1_0) (fun x => run0 (gH64_v1_0 x)) (sH64_v1_0)
@[reducible] def pH64_v1_2 : Pat := Pat.mk [(0, .c (.sl0 0 (.prod tI tI))), (1, hI), (2, .fn 46 [] [.ptr 1 0]), (6, hI), (7, hI), (8, hI)] [(0, .arr (.prod tI tI) false), (1, .cells [.fn0 30] false)] [] []
@[reducible] def xH64_v1_2 : Outs := [(.exit 4, Pat.mk [(0, .c (.sl0 0 (.prod tI tI))), (1, hI), (2, .fn 46 [] [.ptr 1 0]), (6, hI), (7, hI)] [(0, .arr (.prod tI tI) false), (1, .cells [.fn0 30] false)] [] [])]
noncomputable def bH64_v1_2 : D prog 63 none 2 := dO [] (pick (kd prog f64) [(1, false), (0, false)]) 0
noncomputable def gH64_v1_2 : Nat × Int × Int × Int × Int × (List (Int × Int)) × Unit → Tr0 ((Nat × Int × Int × Int × Int × (List (Int × Int)) × Unit) ⊕ ((Nat × Int × Int × Int × (List (Int × Int)) × Unit))) := fun (nv0, v1, v6, v7, v8, b0, _) =>
 .br (decide (v8 ≤ v1)) (
 .ni (v7 + v6) <|
 .bd (FH74_v1fix nv0 v7 (v7 + v6) v8 b0) fun y3 =>
 .ni ((2 : Int) * v6) <|
 .ni (v8 + ((2 : Int) * v6)) <|
 .ret (.inl (nv0, (v1, (v6, (v8, ((v8 + ((2 : Int) * v6)), (y3.1, ())))))))) (
 .ret (.inr (nv0, (v1, (v6, (v7, (b0, ())))))))
theorem sH64_v1_2 : ∀ x, roundE (kzO (pH64_v1_2.T ⊕ xH64_v1_2.T)) cxH64_v1 ar0 [0, 1] pH64_v1_2 xH64_v1_2 (bH64_v1_2) (fun y => some (.inl y)) (fun b => some (.inr b)) x = run0 (gH64_v1_2 x) := fun x => by kernel_rfl
noncomputable def LH64_v1_2 : LoopS prog 63 none 2 := mkLoop mixed cxH64_v1 cxH64_v1_ok [0, 1] rfl pH64_v1_2 xH64_v1_2 rfl (bH64_v1_2) (fun x => run0 (gH64_v1_2 x)) (sH64_v1_2)
@[reducible] def pH64_v1_1 : Pat := Pat.mk [(0, .c (.sl0 0 (.prod tI tI))), (1, hI), (2, .fn 46 [] [.ptr 1 0]), (6, hI)] [(0, .arr (.prod tI tI) false), (1, .cells [.fn0 30] false)] [] []
@[reducible] def xH64_v1_1 : Outs := [(.exit 2, Pat.mk [] [(1, .cells [.fn0 30] false), (0, .arr (.prod tI tI) false)] [] [])]
noncomputable def bH64_v1_1 : D prog 63 none 2 := dO [.l LH64_v1_2] (pick (kd prog f64) [(1, false)]) 0
noncomputable def gH64_v1_1 : Nat × Int × Int × (List (Int × Int)) × Unit → Tr0 ((Nat × Int × Int × (List (Int × Int)) × Unit) ⊕ (((List (Int × Int)) × Unit))) := fun (nv0, v1, v6, b0, _) =>
 .br (decide (v6 < v1)) (
 .ni ((2 : Int) * v6) <|
 .bd (.it gH64_v1_2 (nv0, (v1, (v6, ((0 : Int), (((2 : Int) * v6), (b0, ()))))))) fun z4 =>
 .ni (z4.2.2.2.1 + z4.2.2.1) <|
 .br (decide ((z4.2.2.2.1 + z4.2.2.1) < z4.2.1)) (
 .bd (FH74_v1fix z4.1 z4.2.2.2.1 (z4.2.2.2.1 + z4.2.2.1) z4.2.1 z4.2.2.2.2.1) fun y5 =>
 .ni (z4.2.2.1 * (2 : Int)) <|
 .ret (.inl (z4.1, (z4.2.1, ((z4.2.2.1 * (2 : Int)), (y5.1, ())))))) (
 .ni (z4.2.2.1 * (2 : Int)) <|
 .ret (.inl (z4.1, (z4.2.1, ((z4.2.2.1 * (2 : Int)), (z4.2.2.2.2.1, ()))))))) (
 .ret (.inr (b0, ())))
theorem sH64_v1_1 : ∀ x, roundE (kzO (pH64_v1_1.T ⊕ xH64_v1_1.T)) cxH64_v1 ar0 [0, 1] pH64_v1_1 xH64_v1_1 (bH64_v1_1) (fun y => some (.inl y)) (fun b => some (.inr b)) x = run0 (gH64_v1_1 x) := fun x => by kernel_rfl
noncomputable def LH64_v1_1 : LoopS prog 63 none 2 := mkLoop mixed cxH64_v1 cxH64_v1_ok [0, 1] rfl pH64_v1_1 xH64_v1_1 rfl (bH64_v1_1) (fun x => run0 (gH64_v1_1 x)) (sH64_v1_1)
noncomputable def ddH64_v1 : D prog 63 none 2 := dO [.l LH64_v1_0, .l LH64_v1_1] (kd prog f64) 0
noncomputable def FH64_v1 (nv0 : Nat) (v1 : Int) (b0 : List (Int × Int)) : Tr0 ((List (Int × Int)) × Unit) :=
 .bd (.it gH64_v1_0 (nv0, (v1, ((20 : Int), ((0 : Int), ((20 : Int), (b0, ()))))))) fun z1 =>
 .bd (FH73_v1 z1.1 z1.2.2.2.1 z1.2.1 z1.2.2.2.2.1) fun y2 =>
 .bd (.it gH64_v1_1 (z1.1, (z1.2.1, (z1.2.2.1, (y2.1, ()))))) fun z6 =>
 .ret (z6.1, ())
theorem cH64_v1_ok : trF prog f64 = some ⟨63, 3, ddH64_v1.er, [], []⟩ := by kernel_rfl
noncomputable def ht64_v1 : Ht := ⟨64, pH64_v1, qH64_v1, (fun x => run0 (FH64_v1 x.1 x.2.1 x.2.2.1))⟩
theorem ht64_v1_ok : ht64_v1.Ok prog := ht_ok mixed cxH64_v1_ok rfl func64 cH64_v1_ok (enters_of func64 rfl rfl) ddH64_v1 (by kernel_rfl) rfl rfl ⟨_, rfl⟩ rfl (pre := [0, 1]) rfl (fun x => by kernel_rfl)

/- 45, lent -/
@[reducible] def pH45_v1 : Pat := Pat.mk [(0, .c (.sl0 0 (.prod tI tI))), (1, .fn 46 [] [.ptr 1 0])] [(0, .arr (.prod tI tI) false), (1, .cells [.fn0 30] false)] [.slot 0, .part 1 0] []
@[reducible] def qH45_v1 : Pat := Pat.mk [(0, .c .any)] [(1, .cells [.fn0 30] false), (0, .arr (.prod tI tI) false)] [] []
noncomputable def cxH45_v1 : Cx := (mkCxH [] [ht64_v1])
theorem cxH45_v1_ok : cxH45_v1.Ok prog := mkCxH_ok trivial ⟨⟨ht64_v1_ok, rfl⟩, trivial⟩
noncomputable def ddH45_v1 : D prog 9 none 2 := dO [] (kd prog f45) 0
noncomputable def FH45_v1 (nv0 : Nat) (b0 : List (Int × Int)) : Tr0 ((List (Int × Int)) × Unit) :=
 .bd (FH64_v1 nv0 ((nv0 : Nat) : Int) b0) fun y0 =>
 .ret (y0.1, ())
theorem cH45_v1_ok : trF prog f45 = some ⟨9, 2, ddH45_v1.er, [], []⟩ := by kernel_rfl
noncomputable def ht45_v1 : Ht := ⟨45, pH45_v1, qH45_v1, (fun x => run0 (FH45_v1 x.1 x.2.1))⟩
theorem ht45_v1_ok : ht45_v1.Ok prog := ht_ok mixed cxH45_v1_ok rfl func45 cH45_v1_ok (enters_of func45 rfl rfl) ddH45_v1 (by kernel_rfl) rfl rfl ⟨_, rfl⟩ rfl (pre := [0, 1]) rfl (fun x => by kernel_rfl)

/- 29 -/
noncomputable def cx29 : Cx := (mkCxH [ct47] [ht45_v1])
theorem cx29_ok : cx29.Ok prog := mkCxH_ok ⟨ct47_ok, trivial⟩ ⟨⟨ht45_v1_ok, rfl⟩, trivial⟩
@[reducible] def p29_1 : Pat := Pat.mk [(3, .c (.ptr 0 0)), (5, .c (.sl0 1 (.prod tI tI))), (6, hI), (10, hLL), (11, hI), (12, hI), (17, hL), (18, hI), (19, hI)] [(0, .cells [.fn0 30] false), (1, .arr (.prod tI tI) false)] [.slot 3, .slot 5] []
@[reducible] def x29_1 : Outs := [(.exit 2, Pat.mk [(3, .c (.ptr 0 0)), (5, .c (.sl0 1 (.prod tI tI))), (10, hLL), (11, hI), (12, hI)] [(0, .cells [.fn0 30] false), (1, .arr (.prod tI tI) false)] [.slot 3, .slot 5] [])]
noncomputable def b29_1 : D prog 36 none 0 := dO [] (pick (kd prog f29) [(0, false), (0, false)]) 0
noncomputable def g29_1 : Nat × Int × List (List Int) × Int × Int × List Int × Int × Int × (List (Int × Int)) × Unit → Tr0 ((Nat × Int × List (List Int) × Int × Int × List Int × Int × Int × (List (Int × Int)) × Unit) ⊕ ((Nat × List (List Int) × Int × Int × (List (Int × Int)) × Unit))) := fun (nv5, v6, v10, v11, v12, v17, v18, v19, b1, _) =>
 .br (decide (v19 < v18)) (
 .nb v19 (((v17).length : Nat) : Int) <|
 .nd (decide ((nv5 + ((((((((v17).getD (Int.toNat v19) (0 : Int)), v6) :: [])).drop (0 : Nat)).take (1 : Nat))).length) < bigL)) <|
 .ni (v19 + (1 : Int)) <|
 .ret (.inl ((nv5 + ((((((((v17).getD (Int.toNat v19) (0 : Int)), v6) :: [])).drop (0 : Nat)).take (1 : Nat))).length), (v6, (v10, (v11, (v12, (v17, (v18, ((v19 + (1 : Int)), (((((b1).drop (0 : Nat)).take nv5) ++ (((((((v17).getD (Int.toNat v19) (0 : Int)), v6) :: [])).drop (0 : Nat)).take (1 : Nat))), ()))))))))))) (
 .ret (.inr (nv5, (v10, (v11, (v12, (b1, ())))))))
theorem s29_1 : ∀ x, roundE (kzO (p29_1.T ⊕ x29_1.T)) cx29 ar0 [] p29_1 x29_1 (b29_1) (fun y => some (.inl y)) (fun b => some (.inr b)) x = run0 (g29_1 x) := fun x => by kernel_rfl
noncomputable def L29_1 : LoopS prog 36 none 0 := mkLoop mixed cx29 cx29_ok [] rfl p29_1 x29_1 rfl (b29_1) (fun x => run0 (g29_1 x)) (s29_1)
@[reducible] def p29_0 : Pat := Pat.mk [(3, .c (.ptr 0 0)), (5, .c (.sl0 1 (.prod tI tI))), (10, hLL), (11, hI), (12, hI)] [(0, .cells [.fn0 30] false), (1, .arr (.prod tI tI) false)] [.slot 3, .slot 5] []
@[reducible] def x29_0 : Outs := [(.exit 0, Pat.mk [(3, .c (.ptr 0 0)), (5, .c (.sl0 1 (.prod tI tI)))] [(0, .cells [.fn0 30] false), (1, .arr (.prod tI tI) false)] [.slot 3, .slot 5] [])]
noncomputable def b29_0 : D prog 36 none 0 := dO [.l L29_1] (pick (kd prog f29) [(0, false)]) 0
noncomputable def g29_0 : Nat × List (List Int) × Int × Int × (List (Int × Int)) × Unit → Tr0 ((Nat × List (List Int) × Int × Int × (List (Int × Int)) × Unit) ⊕ ((Nat × (List (Int × Int)) × Unit))) := fun (nv5, v10, v11, v12, b1, _) =>
 .br (decide (v12 < v11)) (
 .nb v12 (((v10).length : Nat) : Int) <|
 .bd (.it g29_1 (nv5, (v12, (v10, (v11, (v12, (((v10).getD (Int.toNat v12) []), ((((((v10).getD (Int.toNat v12) [])).length : Nat) : Int), ((0 : Int), (b1, ())))))))))) fun z0 =>
 .ni (z0.2.2.2.1 + (1 : Int)) <|
 .ret (.inl (z0.1, (z0.2.1, (z0.2.2.1, ((z0.2.2.2.1 + (1 : Int)), (z0.2.2.2.2.1, ()))))))) (
 .ret (.inr (nv5, (b1, ()))))
theorem s29_0 : ∀ x, roundE (kzO (p29_0.T ⊕ x29_0.T)) cx29 ar0 [] p29_0 x29_0 (b29_0) (fun y => some (.inl y)) (fun b => some (.inr b)) x = run0 (g29_0 x) := fun x => by kernel_rfl
noncomputable def L29_0 : LoopS prog 36 none 0 := mkLoop mixed cx29 cx29_ok [] rfl p29_0 x29_0 rfl (b29_0) (fun x => run0 (g29_0 x)) (s29_0)
noncomputable def dd29 : D prog 36 none 0 := dO [.l L29_0] (kd prog f29) 0
noncomputable def F29 (a0 : List (List Int)) : Tr0 ((List (Int × Int)) × Unit) :=
 .bd (.it g29_0 ((0 : Nat), (a0, ((((a0).length : Nat) : Int), ((0 : Int), ([], ())))))) fun z1 =>
 .bd (FH45_v1 z1.1 z1.2.1) fun y2 =>
 .bd (F47 (((y2.1).drop (0 : Nat)).take z1.1)) fun y3 =>
 .ret (y3.1, ())
theorem c29_ok : trF prog f29 = some ⟨36, 2, dd29.er, [.t 4], [none]⟩ := by kernel_rfl
noncomputable def ct29 : Ct := ⟨29, [hLL, .c (.fn0 30)], .fn 65 [] [.ipc (.list (.prod tI tI))], fun x => run0 (F29 x.1)⟩
theorem ct29_ok : ct29.Ok prog := ct_ok mixed cx29_ok func29 c29_ok (enters_of func29 rfl rfl) dd29 (by kernel_rfl) rfl (fun x => by kernel_rfl)

/- 12 -/
noncomputable def cx12 : Cx := (mkCxH [ct29] [])
theorem cx12_ok : cx12.Ok prog := mkCxH_ok ⟨ct29_ok, trivial⟩ trivial
noncomputable def ad12_0 : D prog 30 (some 5) 8 := dO [] (pick (kd prog f12) [(0, false)]) 0
noncomputable def bd12_0 : D prog 30 (some 5) 8 := dO [] (pick (kd prog f12) [(0, true)]) 0
noncomputable def cx12_0i : Cx := itCx cx12 (fun kz => rdK kz cx12 ar0 5 8 [12] (ad12_0) (bd12_0))
theorem cx12_0i_ok : (cx12_0i).Ok prog := itCx_ok cx12_ok (fun h => rdK_ok mixed cx12_ok h)
@[reducible] def p12_0i_0 : Pat := Pat.mk [(0, .c (.yl 5)), (5, .c (.hole (.list (.prod tI tI)))), (6, hI), (7, hI)] [(5, .loop .ready none 4 [(3, .c (.ptr 0 0)), (4, .c (.ptr 1 0)), (5, .c (.ptr 2 0)), (11, .fn 65 [] [.ipc (.list (.prod tI tI))])] [12] (.reg [.op (some 6) none (.alloc [.int .i64 (Int.ofNat 0), .int .i64 (Int.ofNat 0)]), .op none none (.store 2 (.t 6) (.t 12))]) (.block 1 (.seq (.seq (.reg [.op (some 13) none (.load false 1 (.t 3)), .op (some 14) none (.bin .eql (.t 13) (.c (.int .i64 (Int.ofNat 0))))]) (.cond (.t 14) (.exit 0) .skip)) (.seq (.reg [.op (some 15) none (.load false 1 (.t 3)), .op (some 16) none (.bin .sub (.t 15) (.c (.int .i64 (Int.ofNat 1)))), .op none none (.store 1 (.t 3) (.t 16))]) (.seq (.reg [.op (some 17) none (.load false 1 (.t 4)), .op (some 18) none (.fld 1 [true] (.t 6)), .op (some 19) none (.load false 1 (.t 18)), .op (some 20) none (.idx 1 (.t 17) (.t 19)), .op (some 21) none (.load false 1 (.t 20)), .op (some 22) none (.bin .add (.t 21) (.c (.int .i64 (Int.ofNat 1)))), .op (some 23) none (.idx 1 (.t 17) (.t 19)), .op none none (.store 1 (.t 23) (.t 22))]) (.reg [.op (some 24) none (.load false 1 (.t 5)), .op (some 25) none (.fld 0 [false] (.t 6)), .op (some 26) none (.load false 1 (.t 25)), .op (some 27) none (.bin .add (.t 24) (.t 26)), .op none none (.store 1 (.t 5) (.t 27))]))))) 30), (4, .dfr), (0, .cells [.hole tI] false), (1, .cells [.sl0 6 tI] false), (2, .cells [.hole tI] false), (6, .arr tI false)] [.cell 1 0] []
@[reducible] def x12_0i_0 : Outs := [(.ret, Pat.mk [] [(0, .cells [.hole tI] false), (1, .cells [.sl0 6 tI] false), (2, .cells [.hole tI] false), (4, .dfr), (5, .loop .done (some (.exit 0)) 4 [(3, .c (.ptr 0 0)), (4, .c (.ptr 1 0)), (5, .c (.ptr 2 0)), (11, .fn 65 [] [.ipc (.list (.prod tI tI))])] [12] (.reg [.op (some 6) none (.alloc [.int .i64 (Int.ofNat 0), .int .i64 (Int.ofNat 0)]), .op none none (.store 2 (.t 6) (.t 12))]) (.block 1 (.seq (.seq (.reg [.op (some 13) none (.load false 1 (.t 3)), .op (some 14) none (.bin .eql (.t 13) (.c (.int .i64 (Int.ofNat 0))))]) (.cond (.t 14) (.exit 0) .skip)) (.seq (.reg [.op (some 15) none (.load false 1 (.t 3)), .op (some 16) none (.bin .sub (.t 15) (.c (.int .i64 (Int.ofNat 1)))), .op none none (.store 1 (.t 3) (.t 16))]) (.seq (.reg [.op (some 17) none (.load false 1 (.t 4)), .op (some 18) none (.fld 1 [true] (.t 6)), .op (some 19) none (.load false 1 (.t 18)), .op (some 20) none (.idx 1 (.t 17) (.t 19)), .op (some 21) none (.load false 1 (.t 20)), .op (some 22) none (.bin .add (.t 21) (.c (.int .i64 (Int.ofNat 1)))), .op (some 23) none (.idx 1 (.t 17) (.t 19)), .op none none (.store 1 (.t 23) (.t 22))]) (.reg [.op (some 24) none (.load false 1 (.t 5)), .op (some 25) none (.fld 0 [false] (.t 6)), .op (some 26) none (.load false 1 (.t 25)), .op (some 27) none (.bin .add (.t 24) (.t 26)), .op none none (.store 1 (.t 5) (.t 27))]))))) 30), (6, .arr tI false)] [.cell 1 0] []), (.exit 0, Pat.mk [] [(0, .cells [.hole tI] false), (1, .cells [.sl0 6 tI] false), (2, .cells [.hole tI] false), (4, .dfr), (5, .loop .ready none 4 [(3, .c (.ptr 0 0)), (4, .c (.ptr 1 0)), (5, .c (.ptr 2 0)), (11, .fn 65 [] [.ipc (.list (.prod tI tI))])] [12] (.reg [.op (some 6) none (.alloc [.int .i64 (Int.ofNat 0), .int .i64 (Int.ofNat 0)]), .op none none (.store 2 (.t 6) (.t 12))]) (.block 1 (.seq (.seq (.reg [.op (some 13) none (.load false 1 (.t 3)), .op (some 14) none (.bin .eql (.t 13) (.c (.int .i64 (Int.ofNat 0))))]) (.cond (.t 14) (.exit 0) .skip)) (.seq (.reg [.op (some 15) none (.load false 1 (.t 3)), .op (some 16) none (.bin .sub (.t 15) (.c (.int .i64 (Int.ofNat 1)))), .op none none (.store 1 (.t 3) (.t 16))]) (.seq (.reg [.op (some 17) none (.load false 1 (.t 4)), .op (some 18) none (.fld 1 [true] (.t 6)), .op (some 19) none (.load false 1 (.t 18)), .op (some 20) none (.idx 1 (.t 17) (.t 19)), .op (some 21) none (.load false 1 (.t 20)), .op (some 22) none (.bin .add (.t 21) (.c (.int .i64 (Int.ofNat 1)))), .op (some 23) none (.idx 1 (.t 17) (.t 19)), .op none none (.store 1 (.t 23) (.t 22))]) (.reg [.op (some 24) none (.load false 1 (.t 5)), .op (some 25) none (.fld 0 [false] (.t 6)), .op (some 26) none (.load false 1 (.t 25)), .op (some 27) none (.bin .add (.t 24) (.t 26)), .op none none (.store 1 (.t 5) (.t 27))]))))) 30), (6, .arr tI false)] [.cell 1 0] [])]
noncomputable def b12_0i_0 : D prog 16 none 6 := dO [] (pick (kd prog f65) [(0, false)]) 0
noncomputable def g12_0i_0 : (List (Int × Int)) × Int × Int × (List (Int × Int)) × Int × Nat × Int × List Int × Unit → Tr0 (((List (Int × Int)) × Int × Int × (List (Int × Int)) × Int × Nat × Int × List Int × Unit) ⊕ ((Int × Nat × Int × (List (Int × Int)) × List Int × Unit) ⊕ ((Int × Nat × Int × (List (Int × Int)) × List Int × Unit)))) := fun (v5, v6, v7, w11_0, c0_0, nc1_0, c2_0, b6, _) =>
 .br (decide (v7 < v6)) (
 .nb v7 (((v5).length : Nat) : Int) <|
 .br (c0_0 == (0 : Int)) (
 .ret (.inr <| .inl <| (c0_0, (nc1_0, (c2_0, (w11_0, (b6, ()))))))) (
 .ni (c0_0 - (1 : Int)) <|
 .nb ((v5).getD (Int.toNat v7) ((0 : Int), (0 : Int))).2 ((nc1_0 : Nat) : Int) <|
 .nd (decide (((0 : Nat) + (Int.toNat ((v5).getD (Int.toNat v7) ((0 : Int), (0 : Int))).2)) < (b6).length)) <|
 .ni (((b6).getD ((0 : Nat) + (Int.toNat ((v5).getD (Int.toNat v7) ((0 : Int), (0 : Int))).2)) (0 : Int)) + (1 : Int)) <|
 .nb ((v5).getD (Int.toNat v7) ((0 : Int), (0 : Int))).2 ((nc1_0 : Nat) : Int) <|
 .nd (decide (((0 : Nat) + (Int.toNat ((v5).getD (Int.toNat v7) ((0 : Int), (0 : Int))).2)) < (b6).length)) <|
 .ni (c2_0 + ((v5).getD (Int.toNat v7) ((0 : Int), (0 : Int))).1) <|
 .ni (v7 + (1 : Int)) <|
 .ret (.inl (v5, (v6, ((v7 + (1 : Int)), (w11_0, ((c0_0 - (1 : Int)), (nc1_0, ((c2_0 + ((v5).getD (Int.toNat v7) ((0 : Int), (0 : Int))).1), (((b6).set ((0 : Nat) + (Int.toNat ((v5).getD (Int.toNat v7) ((0 : Int), (0 : Int))).2)) (((b6).getD ((0 : Nat) + (Int.toNat ((v5).getD (Int.toNat v7) ((0 : Int), (0 : Int))).2)) (0 : Int)) + (1 : Int))), ()))))))))))) (
 .ret (.inr <| .inr <| (c0_0, (nc1_0, (c2_0, (w11_0, (b6, ())))))))
theorem s12_0i_0 : ∀ x, roundE (kzO (p12_0i_0.T ⊕ x12_0i_0.T)) cx12_0i ar0 [0, 1, 2, 3, 4, 5] p12_0i_0 x12_0i_0 (b12_0i_0) (fun y => some (.inl y)) (fun b => some (.inr b)) x = run0 (g12_0i_0 x) := fun x => by kernel_rfl
noncomputable def L12_0i_0 : LoopS prog 16 none 6 := mkLoop mixed cx12_0i cx12_0i_ok [0, 1, 2, 3, 4, 5] rfl p12_0i_0 x12_0i_0 rfl (b12_0i_0) (fun x => run0 (g12_0i_0 x)) (s12_0i_0)
@[reducible] def p12_0 : Pat := Pat.mk [(3, .c (.ptr 0 0)), (4, .c (.ptr 1 0)), (5, .c (.ptr 2 0)), (11, .fn 65 [] [.ipc (.list (.prod tI tI))])] [(0, .cells [.hole tI] false), (1, .cells [.sl0 3 tI] false), (2, .cells [.hole tI] false), (3, .arr tI false)] [.slot 3, .slot 4, .slot 5, .cell 1 0] []
@[reducible] def x12_0 : Outs := [(.exit 0, Pat.mk [(4, .c (.ptr 0 0)), (5, .c (.ptr 1 0))] [(0, .cells [.sl0 3 tI] false), (1, .cells [.hole tI] false), (2, .dfr), (3, .arr tI false)] [.slot 4, .slot 5, .mark 0, .cell 0 0] [2]), (.normal, Pat.mk [(4, .c (.ptr 0 0)), (5, .c (.ptr 1 0))] [(0, .cells [.sl0 3 tI] false), (1, .cells [.hole tI] false), (2, .dfr), (3, .arr tI false)] [.slot 4, .slot 5, .mark 0, .cell 0 0] [2])]
noncomputable def b12_0i : D prog 16 none 6 := dO [.l L12_0i_0] (kd prog f65) 0
theorem ci12_0 : trF prog f65 = some ⟨16, 2, (b12_0i).er, [], []⟩ := by kernel_rfl
noncomputable def g12_0 : (List (Int × Int)) × Int × Nat × Int × List Int × Unit → Tr0 ((Nat × Int × List Int × Unit) ⊕ ((Nat × Int × List Int × Unit))) := fun (v11_0, c0_0, nc1_0, c2_0, b3, _) =>
 .bd (.it g12_0i_0 (v11_0, ((((v11_0).length : Nat) : Int), ((0 : Int), (v11_0, (c0_0, (nc1_0, (c2_0, (b3, ()))))))))) fun z1 =>
 .sm z1 (fun z2 =>
 .ret (.inl <| (z2.2.1, (z2.2.2.1, (z2.2.2.2.2.1, ()))))) fun z3 =>
 .ret (.inr <| (z3.2.1, (z3.2.2.1, (z3.2.2.2.2.1, ()))))
theorem s12_0 : ∀ x, rangeE (N := 30) (out := none) (base := 0) (kzO x12_0.T) cx12_0i ar0 [] p12_0 x12_0 ( .t 11) [12] (ad12_0).er (bd12_0).er [] 2 65 (b12_0i) some x = run0 (g12_0 x) := fun x => by kernel_rfl
noncomputable def R12_0 : RangeS prog 30 none 0 := mkRange mixed cx12_0i cx12_0i_ok [] rfl p12_0 x12_0 ( .t 11) [12] rfl (ad12_0).er (bd12_0).er 65 func65 (ci12_0) (enters_of func65 rfl rfl) 6 rfl (b12_0i) rfl (fun x => run0 (g12_0 x)) (s12_0)
noncomputable def dd12 : D prog 30 none 0 := dO [.r R12_0] (kd prog f12) 0
noncomputable def F12 (a0 : List (List Int)) (a1 : Int) : Tr0 (List Int × Int × Unit) :=
 .nb (((a0).length : Nat) : Int) ((bigL : Nat) : Int) <|
 .jx (
 .bd (F29 a0) fun y8 =>
 .bd (g12_0 (y8.1, (a1, ((Int.toNat (((a0).length : Nat) : Int)), ((0 : Int), ((List.replicate (Int.toNat (((a0).length : Nat) : Int)) (0 : Int)), ())))))) fun z9 =>
 .sm z9 (fun z10 =>
 .ret (.inl (z10.1, (z10.2.1, (z10.2.2.1, ()))))) fun z11 =>
 .ret (.inl (z11.1, (z11.2.1, (z11.2.2.1, ()))))) fun j7 =>
 .ret ((((j7.2.2.1).drop (0 : Nat)).take j7.1), (j7.2.1, ()))
theorem c12_ok : trF prog f12 = some ⟨30, 2, dd12.er, [.cell 4 false 1, .cell 5 false 1], [some tL, some tI]⟩ := by kernel_rfl
noncomputable def ct12 : Ct := ⟨12, [hLL, hI], .tup [.hole tL, .hole tI], fun x => run0 (F12 x.1 x.2.1)⟩
theorem ct12_ok : ct12.Ok prog := ct_ok mixed cx12_ok func12 c12_ok (enters_of func12 rfl rfl) dd12 (by kernel_rfl) rfl (fun x => Eq.trans (b := run0 (flat (F12 x.1 x.2.1))) (by kernel_rfl) run_flat)

/- 5 -/
noncomputable def cx5 : Cx := (mkCxH [ct11, ct12] [])
theorem cx5_ok : cx5.Ok prog := mkCxH_ok ⟨ct11_ok, ct12_ok, trivial⟩ trivial
noncomputable def dd5 : D prog 22 none 0 := dO [] (kd prog f5) 0
noncomputable def F5 (a0 : List (List Int)) (a1 : Int) : Tr0 (List Int × Int × Int × Unit) :=
 .bd (F11 a0 a1) fun y0 =>
 .br (!(y0.1 == (0 : Int))) (
 .ret ([], ((0 : Int), (y0.1, ())))) (
 .bd (F12 a0 a1) fun y1 =>
 .ret (y1.1, (y1.2.1, ((0 : Int), ()))))
theorem c5_ok : trF prog f5 = some ⟨22, 2, dd5.er, [.t 4, .t 5, .t 6], [some tL, some tI, some tI]⟩ := by kernel_rfl
noncomputable def ct5 : Ct := ⟨5, [hLL, hI], .tup [.hole tL, .hole tI, .hole tI], fun x => run0 (F5 x.1 x.2.1)⟩
theorem ct5_ok : ct5.Ok prog := ct_ok mixed cx5_ok func5 c5_ok (enters_of func5 rfl rfl) dd5 (by kernel_rfl) rfl (fun x => by kernel_rfl)

/- 6 -/
noncomputable def cx6 : Cx := (mkCxH [] [])
theorem cx6_ok : cx6.Ok prog := mkCxH_ok trivial trivial
@[reducible] def p6_0 : Pat := Pat.mk [(0, .c (.hole .str)), (6, .c (.hole (.list (.int .u8)))), (7, hI), (8, hI)] [] [] []
@[reducible] def x6_0 : Outs := [(.ret, Pat.mk [(2, .c (.tf false))] [] [] []), (.exit 0, Pat.mk [(0, .c (.hole .str))] [] [] [])]
noncomputable def b6_0 : D prog 40 none 0 := dO [] (pick (kd prog f6) [(0, false)]) 0
noncomputable def g6_0 : ByteArray × List Int × Int × Int × Unit → Tr0 ((ByteArray × List Int × Int × Int × Unit) ⊕ ((Unit) ⊕ ((ByteArray × Unit)))) := fun (v0, v6, v7, v8, _) =>
 .br (decide (v8 < v7)) (
 .nb v8 (((v6).length : Nat) : Int) <|
 .br (decide (((v6).getD (Int.toNat v8) (0 : Int)) < (97 : Int))) (
 .br (v8 == (0 : Int)) (
 .ret (.inr <| .inl <| ())) (
 .br (decide (((v6).getD (Int.toNat v8) (0 : Int)) < (48 : Int))) (
 .ret (.inr <| .inl <| ())) (
 .br (decide ((57 : Int) < ((v6).getD (Int.toNat v8) (0 : Int)))) (
 .ret (.inr <| .inl <| ())) (
 .ni (v8 + (1 : Int)) <|
 .ret (.inl (v0, (v6, (v7, ((v8 + (1 : Int)), ()))))))))) (
 .br (decide ((122 : Int) < ((v6).getD (Int.toNat v8) (0 : Int)))) (
 .br (v8 == (0 : Int)) (
 .ret (.inr <| .inl <| ())) (
 .br (decide (((v6).getD (Int.toNat v8) (0 : Int)) < (48 : Int))) (
 .ret (.inr <| .inl <| ())) (
 .br (decide ((57 : Int) < ((v6).getD (Int.toNat v8) (0 : Int)))) (
 .ret (.inr <| .inl <| ())) (
 .ni (v8 + (1 : Int)) <|
 .ret (.inl (v0, (v6, (v7, ((v8 + (1 : Int)), ()))))))))) (
 .ni (v8 + (1 : Int)) <|
 .ret (.inl (v0, (v6, (v7, ((v8 + (1 : Int)), ())))))))) (
 .ret (.inr <| .inr <| (v0, ())))
theorem s6_0 : ∀ x, roundE (kzO (p6_0.T ⊕ x6_0.T)) cx6 ar0 [] p6_0 x6_0 (b6_0) (fun y => some (.inl y)) (fun b => some (.inr b)) x = run0 (g6_0 x) := fun x => by kernel_rfl
noncomputable def L6_0 : LoopS prog 40 none 0 := mkLoop mixed cx6 cx6_ok [] rfl p6_0 x6_0 rfl (b6_0) (fun x => run0 (g6_0 x)) (s6_0)
noncomputable def dd6 : D prog 40 none 0 := dO [.l L6_0] (kd prog f6) 0
noncomputable def F6 (a0 : ByteArray) : Tr0 (Bool × Unit) :=
 .bd (.it g6_0 (a0, ((bysL a0), (((((bysL a0)).length : Nat) : Int), ((0 : Int), ()))))) fun z0 =>
 .sm z0 (fun z1 =>
 .ret (false, ())) fun z2 =>
 .br (decide ((0 : Int) < ((z2.1.size : Nat) : Int))) (
 .ret ((decide (((z2.1.size : Nat) : Int) ≤ (10 : Int))), ())) (
 .ret (false, ()))
theorem c6_ok : trF prog f6 = some ⟨40, 1, dd6.er, [.t 2], [some .bool]⟩ := by kernel_rfl
noncomputable def ct6 : Ct := ⟨6, [.c (.hole .str)], .c (.hole .bool), fun x => run0 (F6 x.1)⟩
theorem ct6_ok : ct6.Ok prog := ct_ok mixed cx6_ok func6 c6_ok (enters_of func6 rfl rfl) dd6 (by kernel_rfl) rfl (fun x => by kernel_rfl)

/- 48 -/
noncomputable def cx48 : Cx := (mkCxH [] [])
theorem cx48_ok : cx48.Ok prog := mkCxH_ok trivial trivial
noncomputable def dd48 : D prog 15 none 0 := dO [] (kd prog f48) 0
noncomputable def F48 (a0 : Int) (a1 : Int) (a2 : Int) : Tr0 (Bool × Unit) :=
 .br (decide (a0 ≤ a1)) (
 .ret ((decide (a1 ≤ a2)), ())) (
 .ret (false, ()))
theorem c48_ok : trF prog f48 = some ⟨15, 3, dd48.er, [.t 6], [some .bool]⟩ := by kernel_rfl
noncomputable def ct48 : Ct := ⟨48, [hI, hI, hI], .c (.hole .bool), fun x => run0 (F48 x.1 x.2.1 x.2.2.1)⟩
theorem ct48_ok : ct48.Ok prog := ct_ok mixed cx48_ok func48 c48_ok (enters_of func48 rfl rfl) dd48 (by kernel_rfl) rfl (fun x => by kernel_rfl)

/- 31 -/
noncomputable def cx31 : Cx := (mkCxH [ct48] [])
theorem cx31_ok : cx31.Ok prog := mkCxH_ok ⟨ct48_ok, trivial⟩ trivial
noncomputable def dd31 : D prog 19 none 0 := dO [] (kd prog f31) 0
noncomputable def F31 (a0 : Int × Int × Int × (List (ByteArray × Int)) × List (Int × Int × Int × Int)) : Tr0 (Int × Unit) :=
 .bd (F48 (0 : Int) a0.1 (1000000000 : Int)) fun y0 =>
 .br (!y0.1) (
 .ret ((2 : Int), ())) (
 .bd (F48 (0 : Int) a0.2.1 (1000 : Int)) fun y1 =>
 .br (!y1.1) (
 .ret ((2 : Int), ())) (
 .bd (F48 (0 : Int) a0.2.2.1 (1000 : Int)) fun y2 =>
 .br (!y2.1) (
 .ret ((2 : Int), ())) (
 .ret ((0 : Int), ()))))
theorem c31_ok : trF prog f31 = some ⟨19, 1, dd31.er, [.t 2], [some tI]⟩ := by kernel_rfl
noncomputable def ct31 : Ct := ⟨31, [.c (.hole (.prod tI (.prod tI (.prod tI (.prod (.list (.prod .str tI)) (.list (.prod tI (.prod tI (.prod tI tI)))))))))], hI, fun x => run0 (F31 x.1)⟩
theorem ct31_ok : ct31.Ok prog := ct_ok mixed cx31_ok func31 c31_ok (enters_of func31 rfl rfl) dd31 (by kernel_rfl) rfl (fun x => by kernel_rfl)

/- 32 -/
noncomputable def cx32 : Cx := (mkCxH [ct6, ct48] [])
theorem cx32_ok : cx32.Ok prog := mkCxH_ok ⟨ct6_ok, ct48_ok, trivial⟩ trivial
@[reducible] def p32_0 : Pat := Pat.mk [(3, .c (.mp 0)), (18, .c (.hole (.list (.prod .str tI)))), (19, hI), (20, hI)] [(0, .map .str false .bool false)] [.slot 3] []
@[reducible] def x32_0 : Outs := [(.ret, Pat.mk [(2, hI)] [] [] []), (.exit 1, Pat.mk [] [] [] [])]
noncomputable def b32_0 : D prog 43 none 0 := dO [] (pick (kd prog f32) [(0, false)]) 0
noncomputable def g32_0 : (List (ByteArray × Int)) × Int × Int × (List (ByteArray × Bool)) × Unit → Tr0 (((List (ByteArray × Int)) × Int × Int × (List (ByteArray × Bool)) × Unit) ⊕ ((Int × Unit) ⊕ ((Unit)))) := fun (v18, v19, v20, m0, _) =>
 .br (decide (v20 < v19)) (
 .nb v20 (((v18).length : Nat) : Int) <|
 .bd (F6 ((v18).getD (Int.toNat v20) ((bs []), (0 : Int))).1) fun y0 =>
 .br (!y0.1) (
 .ret (.inr <| .inl <| ((8 : Int), ()))) (
 .br (mgetL .str false m0 ((v18).getD (Int.toNat v20) ((bs []), (0 : Int))).1) (
 .ret (.inr <| .inl <| ((6 : Int), ()))) (
 .bd (F48 (0 : Int) ((v18).getD (Int.toNat v20) ((bs []), (0 : Int))).2 (1000000000 : Int)) fun y1 =>
 .br (!y1.1) (
 .ret (.inr <| .inl <| ((2 : Int), ()))) (
 .ni (v20 + (1 : Int)) <|
 .ret (.inl (v18, (v19, ((v20 + (1 : Int)), ((msetL .str m0 ((v18).getD (Int.toNat v20) ((bs []), (0 : Int))).1 true), ()))))))))) (
 .ret (.inr <| .inr <| ()))
theorem s32_0 : ∀ x, roundE (kzO (p32_0.T ⊕ x32_0.T)) cx32 ar0 [] p32_0 x32_0 (b32_0) (fun y => some (.inl y)) (fun b => some (.inr b)) x = run0 (g32_0 x) := fun x => by kernel_rfl
noncomputable def L32_0 : LoopS prog 43 none 0 := mkLoop mixed cx32 cx32_ok [] rfl p32_0 x32_0 rfl (b32_0) (fun x => run0 (g32_0 x)) (s32_0)
noncomputable def dd32 : D prog 43 none 0 := dO [.l L32_0] (kd prog f32) 0
noncomputable def F32 (a0 : Int × Int × Int × (List (ByteArray × Int)) × List (Int × Int × Int × Int)) : Tr0 (Int × Unit) :=
 .br ((((a0.2.2.2.1).length : Nat) : Int) == (0 : Int)) (
 .ret ((4 : Int), ())) (
 .br (decide ((12 : Int) < (((a0.2.2.2.1).length : Nat) : Int))) (
 .ret ((1 : Int), ())) (
 .bd (.it g32_0 (a0.2.2.2.1, ((((a0.2.2.2.1).length : Nat) : Int), ((0 : Int), ([], ()))))) fun z2 =>
 .sm z2 (fun z3 =>
 .ret (z3.1, ())) fun z4 =>
 .ret ((0 : Int), ())))
theorem c32_ok : trF prog f32 = some ⟨43, 1, dd32.er, [.t 2], [some tI]⟩ := by kernel_rfl
noncomputable def ct32 : Ct := ⟨32, [.c (.hole (.prod tI (.prod tI (.prod tI (.prod (.list (.prod .str tI)) (.list (.prod tI (.prod tI (.prod tI tI)))))))))], hI, fun x => run0 (F32 x.1)⟩
theorem ct32_ok : ct32.Ok prog := ct_ok mixed cx32_ok func32 c32_ok (enters_of func32 rfl rfl) dd32 (by kernel_rfl) rfl (fun x => by kernel_rfl)

/- 33 -/
noncomputable def cx33 : Cx := (mkCxH [ct48] [])
theorem cx33_ok : cx33.Ok prog := mkCxH_ok ⟨ct48_ok, trivial⟩ trivial
@[reducible] def p33_0 : Pat := Pat.mk [(1, .c (.ptr 0 0)), (10, .c (.hole (.list (.prod tI (.prod tI (.prod tI tI)))))), (11, hI), (12, hI)] [(0, .cells [.hole tI, .hole tI, .hole tI, .hole (.list (.prod .str tI)), .hole (.list (.prod tI (.prod tI (.prod tI tI))))] false)] [.slot 1] []
@[reducible] def x33_0 : Outs := [(.ret, Pat.mk [(2, hI)] [] [] []), (.exit 0, Pat.mk [] [] [] [])]
noncomputable def b33_0 : D prog 45 none 0 := dO [] (pick (kd prog f33) [(0, false)]) 0
noncomputable def g33_0 : (List (Int × Int × Int × Int)) × Int × Int × Int × Int × Int × (List (ByteArray × Int)) × (List (Int × Int × Int × Int)) × Unit → Tr0 (((List (Int × Int × Int × Int)) × Int × Int × Int × Int × Int × (List (ByteArray × Int)) × (List (Int × Int × Int × Int)) × Unit) ⊕ ((Int × Unit) ⊕ ((Unit)))) := fun (v10, v11, v12, c0_0, c0_1, c0_2, c0_3, c0_4, _) =>
 .br (decide (v12 < v11)) (
 .nb v12 (((v10).length : Nat) : Int) <|
 .ni ((((c0_3).length : Nat) : Int) - (1 : Int)) <|
 .bd (F48 (0 : Int) ((v10).getD (Int.toNat v12) ((0 : Int), ((0 : Int), ((0 : Int), (0 : Int))))).1 ((((c0_3).length : Nat) : Int) - (1 : Int))) fun y0 =>
 .br (!y0.1) (
 .ret (.inr <| .inl <| ((5 : Int), ()))) (
 .bd (F48 (0 : Int) ((v10).getD (Int.toNat v12) ((0 : Int), ((0 : Int), ((0 : Int), (0 : Int))))).2.1 (100000 : Int)) fun y1 =>
 .br (!y1.1) (
 .ret (.inr <| .inl <| ((2 : Int), ()))) (
 .bd (F48 (0 : Int) ((v10).getD (Int.toNat v12) ((0 : Int), ((0 : Int), ((0 : Int), (0 : Int))))).2.2.1 ((v10).getD (Int.toNat v12) ((0 : Int), ((0 : Int), ((0 : Int), (0 : Int))))).2.1) fun y2 =>
 .br (!y2.1) (
 .ret (.inr <| .inl <| ((2 : Int), ()))) (
 .bd (F48 (0 : Int) ((v10).getD (Int.toNat v12) ((0 : Int), ((0 : Int), ((0 : Int), (0 : Int))))).2.2.2 (1000 : Int)) fun y3 =>
 .br (!y3.1) (
 .ret (.inr <| .inl <| ((2 : Int), ()))) (
 .ni (v12 + (1 : Int)) <|
 .ret (.inl (v10, (v11, ((v12 + (1 : Int)), (c0_0, (c0_1, (c0_2, (c0_3, (c0_4, ())))))))))))))) (
 .ret (.inr <| .inr <| ()))
theorem s33_0 : ∀ x, roundE (kzO (p33_0.T ⊕ x33_0.T)) cx33 ar0 [] p33_0 x33_0 (b33_0) (fun y => some (.inl y)) (fun b => some (.inr b)) x = run0 (g33_0 x) := fun x => by kernel_rfl
noncomputable def L33_0 : LoopS prog 45 none 0 := mkLoop mixed cx33 cx33_ok [] rfl p33_0 x33_0 rfl (b33_0) (fun x => run0 (g33_0 x)) (s33_0)
noncomputable def dd33 : D prog 45 none 0 := dO [.l L33_0] (kd prog f33) 0
noncomputable def F33 (a0 : Int × Int × Int × (List (ByteArray × Int)) × List (Int × Int × Int × Int)) : Tr0 (Int × Unit) :=
 .br (decide ((50 : Int) < (((a0.2.2.2.2).length : Nat) : Int))) (
 .ret ((1 : Int), ())) (
 .bd (.it g33_0 (a0.2.2.2.2, ((((a0.2.2.2.2).length : Nat) : Int), ((0 : Int), (a0.1, (a0.2.1, (a0.2.2.1, (a0.2.2.2.1, (a0.2.2.2.2, ()))))))))) fun z4 =>
 .sm z4 (fun z5 =>
 .ret (z5.1, ())) fun z6 =>
 .ret ((0 : Int), ()))
theorem c33_ok : trF prog f33 = some ⟨45, 1, dd33.er, [.t 2], [some tI]⟩ := by kernel_rfl
noncomputable def ct33 : Ct := ⟨33, [.c (.hole (.prod tI (.prod tI (.prod tI (.prod (.list (.prod .str tI)) (.list (.prod tI (.prod tI (.prod tI tI)))))))))], hI, fun x => run0 (F33 x.1)⟩
theorem ct33_ok : ct33.Ok prog := ct_ok mixed cx33_ok func33 c33_ok (enters_of func33 rfl rfl) dd33 (by kernel_rfl) rfl (fun x => by kernel_rfl)

/- 13 -/
noncomputable def cx13 : Cx := (mkCxH [ct31, ct32, ct33] [])
theorem cx13_ok : cx13.Ok prog := mkCxH_ok ⟨ct31_ok, ct32_ok, ct33_ok, trivial⟩ trivial
noncomputable def b13_0 : D prog 21 none 0 := dO [] (pick (kd prog f13) [(0, false)]) 0
noncomputable def L13_0 : LoopS prog 21 none 0 := mkUnr mixed cx13 cx13_ok (b13_0) 4
noncomputable def dd13 : D prog 21 none 0 := dO [.l L13_0] (kd prog f13) 0
noncomputable def F13 (a0 : Int × Int × Int × (List (ByteArray × Int)) × List (Int × Int × Int × Int)) : Tr0 (Int × Unit) :=
 .br (decide ((0 : Int) < (3 : Int))) (
 .bd (F31 (a0.1, (a0.2.1, (a0.2.2.1, (a0.2.2.2.1, a0.2.2.2.2))))) fun y0 =>
 .br (!(y0.1 == (0 : Int))) (
 .ret (y0.1, ())) (
 .ni ((0 : Int) + (1 : Int)) <|
 .br (decide ((1 : Int) < (3 : Int))) (
 .bd (F32 (a0.1, (a0.2.1, (a0.2.2.1, (a0.2.2.2.1, a0.2.2.2.2))))) fun y1 =>
 .br (!(y1.1 == (0 : Int))) (
 .ret (y1.1, ())) (
 .ni ((1 : Int) + (1 : Int)) <|
 .br (decide ((2 : Int) < (3 : Int))) (
 .bd (F33 (a0.1, (a0.2.1, (a0.2.2.1, (a0.2.2.2.1, a0.2.2.2.2))))) fun y2 =>
 .br (!(y2.1 == (0 : Int))) (
 .ret (y2.1, ())) (
 .ni ((2 : Int) + (1 : Int)) <|
 .br (decide ((3 : Int) < (3 : Int))) (
 .no) (
 .ret ((0 : Int), ())))) (
 .ret ((0 : Int), ())))) (
 .ret ((0 : Int), ())))) (
 .ret ((0 : Int), ()))
theorem c13_ok : trF prog f13 = some ⟨21, 1, dd13.er, [.t 2], [some tI]⟩ := by kernel_rfl
noncomputable def ct13 : Ct := ⟨13, [.c (.hole (.prod tI (.prod tI (.prod tI (.prod (.list (.prod .str tI)) (.list (.prod tI (.prod tI (.prod tI tI)))))))))], hI, fun x => run0 (F13 x.1)⟩
theorem ct13_ok : ct13.Ok prog := ct_ok mixed cx13_ok func13 c13_ok (enters_of func13 rfl rfl) dd13 (by kernel_rfl) rfl (fun x => by kernel_rfl)

/- 15 -/
noncomputable def cx15 : Cx := (mkCxH [] [])
theorem cx15_ok : cx15.Ok prog := mkCxH_ok trivial trivial
noncomputable def dd15 : D prog 19 none 0 := dO [] (kd prog f15) 0
noncomputable def F15 (a0 : Int × Int × Int × (List (ByteArray × Int)) × List (Int × Int × Int × Int)) (a1 : Int) (a2 : Int) : Tr0 (Int × Unit) :=
 .ni ((2 : Int) * a0.2.1) <|
 .ni (a1 - ((2 : Int) * a0.2.1)) <|
 .ni (a2 - a0.2.2.1) <|
 .ni ((imax (0 : Int) (a1 - ((2 : Int) * a0.2.1))) * (imax (0 : Int) (a2 - a0.2.2.1))) <|
 .ret (((imax (0 : Int) (a1 - ((2 : Int) * a0.2.1))) * (imax (0 : Int) (a2 - a0.2.2.1))), ())
theorem c15_ok : trF prog f15 = some ⟨19, 3, dd15.er, [.t 6], [some tI]⟩ := by kernel_rfl
noncomputable def ct15 : Ct := ⟨15, [.c (.hole (.prod tI (.prod tI (.prod tI (.prod (.list (.prod .str tI)) (.list (.prod tI (.prod tI (.prod tI tI))))))))), hI, hI], hI, fun x => run0 (F15 x.1 x.2.1 x.2.2.1)⟩
theorem ct15_ok : ct15.Ok prog := ct_ok mixed cx15_ok func15 c15_ok (enters_of func15 rfl rfl) dd15 (by kernel_rfl) rfl (fun x => by kernel_rfl)

/- 14 -/
noncomputable def cx14 : Cx := (mkCxH [ct15] [])
theorem cx14_ok : cx14.Ok prog := mkCxH_ok ⟨ct15_ok, trivial⟩ trivial
@[reducible] def p14_0 : Pat := Pat.mk [(1, .fn 15 [.hole (.prod tI (.prod tI (.prod tI (.prod (.list (.prod .str tI)) (.list (.prod tI (.prod tI (.prod tI tI))))))))] []), (5, .c (.sl0 0 tI)), (13, .c (.hole (.list (.prod tI (.prod tI (.prod tI tI)))))), (14, hI), (15, hI)] [(0, .arr tI false)] [.slot 5] []
@[reducible] def x14_0 : Outs := [(.exit 0, Pat.mk [(5, .c (.sl0 0 tI))] [(0, .arr tI false)] [.slot 5] [])]
noncomputable def b14_0 : D prog 37 none 0 := dO [] (pick (kd prog f14) [(0, false)]) 0
noncomputable def g14_0 : (Int × Int × Int × (List (ByteArray × Int)) × List (Int × Int × Int × Int)) × Nat × (List (Int × Int × Int × Int)) × Int × Int × List Int × Unit → Tr0 (((Int × Int × Int × (List (ByteArray × Int)) × List (Int × Int × Int × Int)) × Nat × (List (Int × Int × Int × Int)) × Int × Int × List Int × Unit) ⊕ ((Nat × List Int × Unit))) := fun (v1_0, nv5, v13, v14, v15, b0, _) =>
 .br (decide (v15 < v14)) (
 .nb v15 (((v13).length : Nat) : Int) <|
 .nb ((v13).getD (Int.toNat v15) ((0 : Int), ((0 : Int), ((0 : Int), (0 : Int))))).1 ((nv5 : Nat) : Int) <|
 .nd (decide (((0 : Nat) + (Int.toNat ((v13).getD (Int.toNat v15) ((0 : Int), ((0 : Int), ((0 : Int), (0 : Int))))).1)) < (b0).length)) <|
 .ni (((v13).getD (Int.toNat v15) ((0 : Int), ((0 : Int), ((0 : Int), (0 : Int))))).2.1 - ((v13).getD (Int.toNat v15) ((0 : Int), ((0 : Int), ((0 : Int), (0 : Int))))).2.2.1) <|
 .bd (F15 (v1_0.1, (v1_0.2.1, (v1_0.2.2.1, (v1_0.2.2.2.1, v1_0.2.2.2.2)))) (((v13).getD (Int.toNat v15) ((0 : Int), ((0 : Int), ((0 : Int), (0 : Int))))).2.1 - ((v13).getD (Int.toNat v15) ((0 : Int), ((0 : Int), ((0 : Int), (0 : Int))))).2.2.1) ((v13).getD (Int.toNat v15) ((0 : Int), ((0 : Int), ((0 : Int), (0 : Int))))).2.2.2) fun y0 =>
 .ni (((b0).getD ((0 : Nat) + (Int.toNat ((v13).getD (Int.toNat v15) ((0 : Int), ((0 : Int), ((0 : Int), (0 : Int))))).1)) (0 : Int)) + y0.1) <|
 .nb ((v13).getD (Int.toNat v15) ((0 : Int), ((0 : Int), ((0 : Int), (0 : Int))))).1 ((nv5 : Nat) : Int) <|
 .nd (decide (((0 : Nat) + (Int.toNat ((v13).getD (Int.toNat v15) ((0 : Int), ((0 : Int), ((0 : Int), (0 : Int))))).1)) < (b0).length)) <|
 .ni (v15 + (1 : Int)) <|
 .ret (.inl ((v1_0.1, (v1_0.2.1, (v1_0.2.2.1, (v1_0.2.2.2.1, v1_0.2.2.2.2)))), (nv5, (v13, (v14, ((v15 + (1 : Int)), (((b0).set ((0 : Nat) + (Int.toNat ((v13).getD (Int.toNat v15) ((0 : Int), ((0 : Int), ((0 : Int), (0 : Int))))).1)) (((b0).getD ((0 : Nat) + (Int.toNat ((v13).getD (Int.toNat v15) ((0 : Int), ((0 : Int), ((0 : Int), (0 : Int))))).1)) (0 : Int)) + y0.1)), ())))))))) (
 .ret (.inr (nv5, (b0, ()))))
theorem s14_0 : ∀ x, roundE (kzO (p14_0.T ⊕ x14_0.T)) cx14 ar0 [] p14_0 x14_0 (b14_0) (fun y => some (.inl y)) (fun b => some (.inr b)) x = run0 (g14_0 x) := fun x => by kernel_rfl
noncomputable def L14_0 : LoopS prog 37 none 0 := mkLoop mixed cx14 cx14_ok [] rfl p14_0 x14_0 rfl (b14_0) (fun x => run0 (g14_0 x)) (s14_0)
noncomputable def dd14 : D prog 37 none 0 := dO [.l L14_0] (kd prog f14) 0
noncomputable def F14 (a0 : Int × Int × Int × (List (ByteArray × Int)) × List (Int × Int × Int × Int)) (a1_0 : Int × Int × Int × (List (ByteArray × Int)) × List (Int × Int × Int × Int)) : Tr0 (List Int × Unit) :=
 .nb (((a0.2.2.2.1).length : Nat) : Int) ((bigL : Nat) : Int) <|
 .bd (.it g14_0 ((a1_0.1, (a1_0.2.1, (a1_0.2.2.1, (a1_0.2.2.2.1, a1_0.2.2.2.2)))), ((Int.toNat (((a0.2.2.2.1).length : Nat) : Int)), (a0.2.2.2.2, ((((a0.2.2.2.2).length : Nat) : Int), ((0 : Int), ((List.replicate (Int.toNat (((a0.2.2.2.1).length : Nat) : Int)) (0 : Int)), ()))))))) fun z1 =>
 .ret ((((z1.2.1).drop (0 : Nat)).take z1.1), ())
theorem c14_ok : trF prog f14 = some ⟨37, 2, dd14.er, [.t 4], [some tL]⟩ := by kernel_rfl
noncomputable def ct14 : Ct := ⟨14, [.c (.hole (.prod tI (.prod tI (.prod tI (.prod (.list (.prod .str tI)) (.list (.prod tI (.prod tI (.prod tI tI))))))))), .fn 15 [.hole (.prod tI (.prod tI (.prod tI (.prod (.list (.prod .str tI)) (.list (.prod tI (.prod tI (.prod tI tI))))))))] []], hL, fun x => run0 (F14 x.1 x.2.1)⟩
theorem ct14_ok : ct14.Ok prog := ct_ok mixed cx14_ok func14 c14_ok (enters_of func14 rfl rfl) dd14 (by kernel_rfl) rfl (fun x => by kernel_rfl)

/- 16 -/
noncomputable def cx16 : Cx := (mkCxH [] [])
theorem cx16_ok : cx16.Ok prog := mkCxH_ok trivial trivial
noncomputable def dd16 : D prog 18 none 0 := dO [] (kd prog f16) 0
noncomputable def F16 (a0 : Int × Int × Int × (List (ByteArray × Int)) × List (Int × Int × Int × Int)) (a1 : Int) (a2 : Int) : Tr0 (Int × Unit) :=
 .ni ((2 : Int) * a0.2.1) <|
 .ni (a1 + ((2 : Int) * a0.2.1)) <|
 .ni (a2 + a0.2.2.1) <|
 .ni ((a1 + ((2 : Int) * a0.2.1)) * (imin (1000 : Int) (a2 + a0.2.2.1))) <|
 .ret (((a1 + ((2 : Int) * a0.2.1)) * (imin (1000 : Int) (a2 + a0.2.2.1))), ())
theorem c16_ok : trF prog f16 = some ⟨18, 3, dd16.er, [.t 6], [some tI]⟩ := by kernel_rfl
noncomputable def ct16 : Ct := ⟨16, [.c (.hole (.prod tI (.prod tI (.prod tI (.prod (.list (.prod .str tI)) (.list (.prod tI (.prod tI (.prod tI tI))))))))), hI, hI], hI, fun x => run0 (F16 x.1 x.2.1 x.2.2.1)⟩
theorem ct16_ok : ct16.Ok prog := ct_ok mixed cx16_ok func16 c16_ok (enters_of func16 rfl rfl) dd16 (by kernel_rfl) rfl (fun x => by kernel_rfl)

/- 14 -/
noncomputable def cx14_v1 : Cx := (mkCxH [ct16] [])
theorem cx14_v1_ok : cx14_v1.Ok prog := mkCxH_ok ⟨ct16_ok, trivial⟩ trivial
@[reducible] def p14_v1_0 : Pat := Pat.mk [(1, .fn 16 [.hole (.prod tI (.prod tI (.prod tI (.prod (.list (.prod .str tI)) (.list (.prod tI (.prod tI (.prod tI tI))))))))] []), (5, .c (.sl0 0 tI)), (13, .c (.hole (.list (.prod tI (.prod tI (.prod tI tI)))))), (14, hI), (15, hI)] [(0, .arr tI false)] [.slot 5] []
@[reducible] def x14_v1_0 : Outs := [(.exit 0, Pat.mk [(5, .c (.sl0 0 tI))] [(0, .arr tI false)] [.slot 5] [])]
noncomputable def b14_v1_0 : D prog 37 none 0 := dO [] (pick (kd prog f14) [(0, false)]) 0
noncomputable def g14_v1_0 : (Int × Int × Int × (List (ByteArray × Int)) × List (Int × Int × Int × Int)) × Nat × (List (Int × Int × Int × Int)) × Int × Int × List Int × Unit → Tr0 (((Int × Int × Int × (List (ByteArray × Int)) × List (Int × Int × Int × Int)) × Nat × (List (Int × Int × Int × Int)) × Int × Int × List Int × Unit) ⊕ ((Nat × List Int × Unit))) := fun (v1_0, nv5, v13, v14, v15, b0, _) =>
 .br (decide (v15 < v14)) (
 .nb v15 (((v13).length : Nat) : Int) <|
 .nb ((v13).getD (Int.toNat v15) ((0 : Int), ((0 : Int), ((0 : Int), (0 : Int))))).1 ((nv5 : Nat) : Int) <|
 .nd (decide (((0 : Nat) + (Int.toNat ((v13).getD (Int.toNat v15) ((0 : Int), ((0 : Int), ((0 : Int), (0 : Int))))).1)) < (b0).length)) <|
 .ni (((v13).getD (Int.toNat v15) ((0 : Int), ((0 : Int), ((0 : Int), (0 : Int))))).2.1 - ((v13).getD (Int.toNat v15) ((0 : Int), ((0 : Int), ((0 : Int), (0 : Int))))).2.2.1) <|
 .bd (F16 (v1_0.1, (v1_0.2.1, (v1_0.2.2.1, (v1_0.2.2.2.1, v1_0.2.2.2.2)))) (((v13).getD (Int.toNat v15) ((0 : Int), ((0 : Int), ((0 : Int), (0 : Int))))).2.1 - ((v13).getD (Int.toNat v15) ((0 : Int), ((0 : Int), ((0 : Int), (0 : Int))))).2.2.1) ((v13).getD (Int.toNat v15) ((0 : Int), ((0 : Int), ((0 : Int), (0 : Int))))).2.2.2) fun y0 =>
 .ni (((b0).getD ((0 : Nat) + (Int.toNat ((v13).getD (Int.toNat v15) ((0 : Int), ((0 : Int), ((0 : Int), (0 : Int))))).1)) (0 : Int)) + y0.1) <|
 .nb ((v13).getD (Int.toNat v15) ((0 : Int), ((0 : Int), ((0 : Int), (0 : Int))))).1 ((nv5 : Nat) : Int) <|
 .nd (decide (((0 : Nat) + (Int.toNat ((v13).getD (Int.toNat v15) ((0 : Int), ((0 : Int), ((0 : Int), (0 : Int))))).1)) < (b0).length)) <|
 .ni (v15 + (1 : Int)) <|
 .ret (.inl ((v1_0.1, (v1_0.2.1, (v1_0.2.2.1, (v1_0.2.2.2.1, v1_0.2.2.2.2)))), (nv5, (v13, (v14, ((v15 + (1 : Int)), (((b0).set ((0 : Nat) + (Int.toNat ((v13).getD (Int.toNat v15) ((0 : Int), ((0 : Int), ((0 : Int), (0 : Int))))).1)) (((b0).getD ((0 : Nat) + (Int.toNat ((v13).getD (Int.toNat v15) ((0 : Int), ((0 : Int), ((0 : Int), (0 : Int))))).1)) (0 : Int)) + y0.1)), ())))))))) (
 .ret (.inr (nv5, (b0, ()))))
theorem s14_v1_0 : ∀ x, roundE (kzO (p14_v1_0.T ⊕ x14_v1_0.T)) cx14_v1 ar0 [] p14_v1_0 x14_v1_0 (b14_v1_0) (fun y => some (.inl y)) (fun b => some (.inr b)) x = run0 (g14_v1_0 x) := fun x => by kernel_rfl
noncomputable def L14_v1_0 : LoopS prog 37 none 0 := mkLoop mixed cx14_v1 cx14_v1_ok [] rfl p14_v1_0 x14_v1_0 rfl (b14_v1_0) (fun x => run0 (g14_v1_0 x)) (s14_v1_0)
noncomputable def dd14_v1 : D prog 37 none 0 := dO [.l L14_v1_0] (kd prog f14) 0
noncomputable def F14_v1 (a0 : Int × Int × Int × (List (ByteArray × Int)) × List (Int × Int × Int × Int)) (a1_0 : Int × Int × Int × (List (ByteArray × Int)) × List (Int × Int × Int × Int)) : Tr0 (List Int × Unit) :=
 .nb (((a0.2.2.2.1).length : Nat) : Int) ((bigL : Nat) : Int) <|
 .bd (.it g14_v1_0 ((a1_0.1, (a1_0.2.1, (a1_0.2.2.1, (a1_0.2.2.2.1, a1_0.2.2.2.2)))), ((Int.toNat (((a0.2.2.2.1).length : Nat) : Int)), (a0.2.2.2.2, ((((a0.2.2.2.2).length : Nat) : Int), ((0 : Int), ((List.replicate (Int.toNat (((a0.2.2.2.1).length : Nat) : Int)) (0 : Int)), ()))))))) fun z1 =>
 .ret ((((z1.2.1).drop (0 : Nat)).take z1.1), ())
theorem c14_v1_ok : trF prog f14 = some ⟨37, 2, dd14_v1.er, [.t 4], [some tL]⟩ := by kernel_rfl
noncomputable def ct14_v1 : Ct := ⟨14, [.c (.hole (.prod tI (.prod tI (.prod tI (.prod (.list (.prod .str tI)) (.list (.prod tI (.prod tI (.prod tI tI))))))))), .fn 16 [.hole (.prod tI (.prod tI (.prod tI (.prod (.list (.prod .str tI)) (.list (.prod tI (.prod tI (.prod tI tI))))))))] []], hL, fun x => run0 (F14_v1 x.1 x.2.1)⟩
theorem ct14_v1_ok : ct14_v1.Ok prog := ct_ok mixed cx14_v1_ok func14 c14_v1_ok (enters_of func14 rfl rfl) dd14_v1 (by kernel_rfl) rfl (fun x => by kernel_rfl)

/- 17 -/
noncomputable def cx17 : Cx := (mkCxH [] [])
theorem cx17_ok : cx17.Ok prog := mkCxH_ok trivial trivial
noncomputable def dd17 : D prog 8 none 0 := dO [] (kd prog f17) 0
noncomputable def F17 (a0 : Int) (a1 : Int) : Tr0 (Int × Unit) :=
 .ni (a0 * a1) <|
 .ret ((a0 * a1), ())
theorem c17_ok : trF prog f17 = some ⟨8, 2, dd17.er, [.t 4], [some tI]⟩ := by kernel_rfl
noncomputable def ct17 : Ct := ⟨17, [hI, hI], hI, fun x => run0 (F17 x.1 x.2.1)⟩
theorem ct17_ok : ct17.Ok prog := ct_ok mixed cx17_ok func17 c17_ok (enters_of func17 rfl rfl) dd17 (by kernel_rfl) rfl (fun x => by kernel_rfl)

/- 14 -/
noncomputable def cx14_v2 : Cx := (mkCxH [ct17] [])
theorem cx14_v2_ok : cx14_v2.Ok prog := mkCxH_ok ⟨ct17_ok, trivial⟩ trivial
@[reducible] def p14_v2_0 : Pat := Pat.mk [(1, .c (.fn0 17)), (5, .c (.sl0 0 tI)), (13, .c (.hole (.list (.prod tI (.prod tI (.prod tI tI)))))), (14, hI), (15, hI)] [(0, .arr tI false)] [.slot 5] []
@[reducible] def x14_v2_0 : Outs := [(.exit 0, Pat.mk [(5, .c (.sl0 0 tI))] [(0, .arr tI false)] [.slot 5] [])]
noncomputable def b14_v2_0 : D prog 37 none 0 := dO [] (pick (kd prog f14) [(0, false)]) 0
noncomputable def g14_v2_0 : Nat × (List (Int × Int × Int × Int)) × Int × Int × List Int × Unit → Tr0 ((Nat × (List (Int × Int × Int × Int)) × Int × Int × List Int × Unit) ⊕ ((Nat × List Int × Unit))) := fun (nv5, v13, v14, v15, b0, _) =>
 .br (decide (v15 < v14)) (
 .nb v15 (((v13).length : Nat) : Int) <|
 .nb ((v13).getD (Int.toNat v15) ((0 : Int), ((0 : Int), ((0 : Int), (0 : Int))))).1 ((nv5 : Nat) : Int) <|
 .nd (decide (((0 : Nat) + (Int.toNat ((v13).getD (Int.toNat v15) ((0 : Int), ((0 : Int), ((0 : Int), (0 : Int))))).1)) < (b0).length)) <|
 .ni (((v13).getD (Int.toNat v15) ((0 : Int), ((0 : Int), ((0 : Int), (0 : Int))))).2.1 - ((v13).getD (Int.toNat v15) ((0 : Int), ((0 : Int), ((0 : Int), (0 : Int))))).2.2.1) <|
 .bd (F17 (((v13).getD (Int.toNat v15) ((0 : Int), ((0 : Int), ((0 : Int), (0 : Int))))).2.1 - ((v13).getD (Int.toNat v15) ((0 : Int), ((0 : Int), ((0 : Int), (0 : Int))))).2.2.1) ((v13).getD (Int.toNat v15) ((0 : Int), ((0 : Int), ((0 : Int), (0 : Int))))).2.2.2) fun y0 =>
 .ni (((b0).getD ((0 : Nat) + (Int.toNat ((v13).getD (Int.toNat v15) ((0 : Int), ((0 : Int), ((0 : Int), (0 : Int))))).1)) (0 : Int)) + y0.1) <|
 .nb ((v13).getD (Int.toNat v15) ((0 : Int), ((0 : Int), ((0 : Int), (0 : Int))))).1 ((nv5 : Nat) : Int) <|
 .nd (decide (((0 : Nat) + (Int.toNat ((v13).getD (Int.toNat v15) ((0 : Int), ((0 : Int), ((0 : Int), (0 : Int))))).1)) < (b0).length)) <|
 .ni (v15 + (1 : Int)) <|
 .ret (.inl (nv5, (v13, (v14, ((v15 + (1 : Int)), (((b0).set ((0 : Nat) + (Int.toNat ((v13).getD (Int.toNat v15) ((0 : Int), ((0 : Int), ((0 : Int), (0 : Int))))).1)) (((b0).getD ((0 : Nat) + (Int.toNat ((v13).getD (Int.toNat v15) ((0 : Int), ((0 : Int), ((0 : Int), (0 : Int))))).1)) (0 : Int)) + y0.1)), ()))))))) (
 .ret (.inr (nv5, (b0, ()))))
theorem s14_v2_0 : ∀ x, roundE (kzO (p14_v2_0.T ⊕ x14_v2_0.T)) cx14_v2 ar0 [] p14_v2_0 x14_v2_0 (b14_v2_0) (fun y => some (.inl y)) (fun b => some (.inr b)) x = run0 (g14_v2_0 x) := fun x => by kernel_rfl
noncomputable def L14_v2_0 : LoopS prog 37 none 0 := mkLoop mixed cx14_v2 cx14_v2_ok [] rfl p14_v2_0 x14_v2_0 rfl (b14_v2_0) (fun x => run0 (g14_v2_0 x)) (s14_v2_0)
noncomputable def dd14_v2 : D prog 37 none 0 := dO [.l L14_v2_0] (kd prog f14) 0
noncomputable def F14_v2 (a0 : Int × Int × Int × (List (ByteArray × Int)) × List (Int × Int × Int × Int)) : Tr0 (List Int × Unit) :=
 .nb (((a0.2.2.2.1).length : Nat) : Int) ((bigL : Nat) : Int) <|
 .bd (.it g14_v2_0 ((Int.toNat (((a0.2.2.2.1).length : Nat) : Int)), (a0.2.2.2.2, ((((a0.2.2.2.2).length : Nat) : Int), ((0 : Int), ((List.replicate (Int.toNat (((a0.2.2.2.1).length : Nat) : Int)) (0 : Int)), ())))))) fun z1 =>
 .ret ((((z1.2.1).drop (0 : Nat)).take z1.1), ())
theorem c14_v2_ok : trF prog f14 = some ⟨37, 2, dd14_v2.er, [.t 4], [some tL]⟩ := by kernel_rfl
noncomputable def ct14_v2 : Ct := ⟨14, [.c (.hole (.prod tI (.prod tI (.prod tI (.prod (.list (.prod .str tI)) (.list (.prod tI (.prod tI (.prod tI tI))))))))), .c (.fn0 17)], hL, fun x => run0 (F14_v2 x.1)⟩
theorem ct14_v2_ok : ct14_v2.Ok prog := ct_ok mixed cx14_v2_ok func14 c14_v2_ok (enters_of func14 rfl rfl) dd14_v2 (by kernel_rfl) rfl (fun x => by kernel_rfl)

/- 7 -/
noncomputable def cx7 : Cx := (mkCxH [ct13, ct14, ct14_v1, ct14_v2] [])
theorem cx7_ok : cx7.Ok prog := mkCxH_ok ⟨ct13_ok, ct14_ok, ct14_v1_ok, ct14_v2_ok, trivial⟩ trivial
@[reducible] def p7_0 : Pat := Pat.mk [(1, .c (.ptr 0 0)), (3, .c (.sl0 1 (.prod tI tI))), (6, hL), (7, hL), (23, hI), (24, hI)] [(0, .cells [.hole tI, .hole tI, .hole tI, .hole (.list (.prod .str tI)), .hole (.list (.prod tI (.prod tI (.prod tI tI))))] false), (1, .arr (.prod tI tI) false)] [.slot 1, .slot 3] []
@[reducible] def x7_0 : Outs := [(.exit 0, Pat.mk [(1, .c (.ptr 0 0)), (3, .c (.sl0 1 (.prod tI tI)))] [(0, .cells [.hole tI, .hole tI, .hole tI, .hole (.list (.prod .str tI)), .hole (.list (.prod tI (.prod tI (.prod tI tI))))] false), (1, .arr (.prod tI tI) false)] [.slot 1, .slot 3] [])]
noncomputable def b7_0 : D prog 43 none 0 := dO [] (pick (kd prog f7) [(0, false)]) 0
noncomputable def g7_0 : Nat × List Int × List Int × Int × Int × Int × Int × Int × (List (ByteArray × Int)) × (List (Int × Int × Int × Int)) × (List (Int × Int)) × Unit → Tr0 ((Nat × List Int × List Int × Int × Int × Int × Int × Int × (List (ByteArray × Int)) × (List (Int × Int × Int × Int)) × (List (Int × Int)) × Unit) ⊕ ((Nat × Int × Int × Int × (List (ByteArray × Int)) × (List (Int × Int × Int × Int)) × (List (Int × Int)) × Unit))) := fun (nv3, v6, v7, v23, v24, c0_0, c0_1, c0_2, c0_3, c0_4, b1, _) =>
 .br (decide (v24 < v23)) (
 .nb v24 (((v6).length : Nat) : Int) <|
 .nb v24 (((v7).length : Nat) : Int) <|
 .nd (decide ((nv3 + ((((((((v6).getD (Int.toNat v24) (0 : Int)), ((v7).getD (Int.toNat v24) (0 : Int))) :: [])).drop (0 : Nat)).take (1 : Nat))).length) < bigL)) <|
 .ni (v24 + (1 : Int)) <|
 .ret (.inl ((nv3 + ((((((((v6).getD (Int.toNat v24) (0 : Int)), ((v7).getD (Int.toNat v24) (0 : Int))) :: [])).drop (0 : Nat)).take (1 : Nat))).length), (v6, (v7, (v23, ((v24 + (1 : Int)), (c0_0, (c0_1, (c0_2, (c0_3, (c0_4, (((((b1).drop (0 : Nat)).take nv3) ++ (((((((v6).getD (Int.toNat v24) (0 : Int)), ((v7).getD (Int.toNat v24) (0 : Int))) :: [])).drop (0 : Nat)).take (1 : Nat))), ()))))))))))))) (
 .ret (.inr (nv3, (c0_0, (c0_1, (c0_2, (c0_3, (c0_4, (b1, ())))))))))
theorem s7_0 : ∀ x, roundE (kzO (p7_0.T ⊕ x7_0.T)) cx7 ar0 [] p7_0 x7_0 (b7_0) (fun y => some (.inl y)) (fun b => some (.inr b)) x = run0 (g7_0 x) := fun x => by kernel_rfl
noncomputable def L7_0 : LoopS prog 43 none 0 := mkLoop mixed cx7 cx7_ok [] rfl p7_0 x7_0 rfl (b7_0) (fun x => run0 (g7_0 x)) (s7_0)
noncomputable def dd7 : D prog 43 none 0 := dO [.l L7_0] (kd prog f7) 0
noncomputable def F7 (a0 : Int × Int × Int × (List (ByteArray × Int)) × List (Int × Int × Int × Int)) : Tr0 (List Int × (List (Int × Int)) × Int × Unit) :=
 .bd (F13 (a0.1, (a0.2.1, (a0.2.2.1, (a0.2.2.2.1, a0.2.2.2.2))))) fun y0 =>
 .br (!(y0.1 == (0 : Int))) (
 .ret ([], ([], (y0.1, ())))) (
 .bd (F14 (a0.1, (a0.2.1, (a0.2.2.1, (a0.2.2.2.1, a0.2.2.2.2)))) (a0.1, (a0.2.1, (a0.2.2.1, (a0.2.2.2.1, a0.2.2.2.2))))) fun y1 =>
 .bd (F14_v1 (a0.1, (a0.2.1, (a0.2.2.1, (a0.2.2.2.1, a0.2.2.2.2)))) (a0.1, (a0.2.1, (a0.2.2.1, (a0.2.2.2.1, a0.2.2.2.2))))) fun y2 =>
 .bd (.it g7_0 ((0 : Nat), (y1.1, (y2.1, ((((y1.1).length : Nat) : Int), ((0 : Int), (a0.1, (a0.2.1, (a0.2.2.1, (a0.2.2.2.1, (a0.2.2.2.2, ([], ())))))))))))) fun z3 =>
 .bd (F14_v2 (z3.2.1, (z3.2.2.1, (z3.2.2.2.1, (z3.2.2.2.2.1, z3.2.2.2.2.2.1))))) fun y4 =>
 .ret (y4.1, ((((z3.2.2.2.2.2.2.1).drop (0 : Nat)).take z3.1), ((0 : Int), ()))))
theorem c7_ok : trF prog f7 = some ⟨43, 1, dd7.er, [.t 2, .t 3, .t 4], [some tL, some (.list (.prod tI tI)), some tI]⟩ := by kernel_rfl
noncomputable def ct7 : Ct := ⟨7, [.c (.hole (.prod tI (.prod tI (.prod tI (.prod (.list (.prod .str tI)) (.list (.prod tI (.prod tI (.prod tI tI)))))))))], .tup [.hole tL, .hole (.list (.prod tI tI)), .hole tI], fun x => run0 (F7 x.1)⟩
theorem ct7_ok : ct7.Ok prog := ct_ok mixed cx7_ok func7 c7_ok (enters_of func7 rfl rfl) dd7 (by kernel_rfl) rfl (fun x => by kernel_rfl)

/- 18 -/
noncomputable def cx18 : Cx := (mkCxH [] [])
theorem cx18_ok : cx18.Ok prog := mkCxH_ok trivial trivial
@[reducible] def p18_0 : Pat := Pat.mk [(1, hL), (2, .c (.ptr 0 0)), (4, .c (.ptr 1 0)), (5, .c (.ptr 2 0)), (9, .c (.hole (.list (.prod .str tI)))), (10, hI), (11, hI)] [(0, .cells [.hole tI, .hole tI, .hole tI, .hole (.list (.prod .str tI)), .hole (.list (.prod tI (.prod tI (.prod tI tI))))] false), (1, .cells [.nsl, .hole tI] false), (2, .cells [.sl0 3 (.prod (.prod .str tI) (.prod tI tI)), .hole tI] false), (3, .arr (.prod (.prod .str tI) (.prod tI tI)) false)] [.slot 2, .slot 4, .slot 5, .cell 2 0] []
@[reducible] def x18_0 : Outs := [(.exit 0, Pat.mk [(2, .c (.ptr 0 0)), (4, .c (.ptr 1 0)), (5, .c (.ptr 2 0))] [(0, .cells [.hole tI, .hole tI, .hole tI, .hole (.list (.prod .str tI)), .hole (.list (.prod tI (.prod tI (.prod tI tI))))] false), (1, .cells [.nsl, .hole tI] false), (2, .cells [.sl0 3 (.prod (.prod .str tI) (.prod tI tI)), .hole tI] false), (3, .arr (.prod (.prod .str tI) (.prod tI tI)) false)] [.slot 2, .slot 4, .slot 5, .cell 2 0] [])]
noncomputable def b18_0 : D prog 47 none 0 := dO [] (pick (kd prog f18) [(0, false)]) 0
noncomputable def g18_0 : List Int × (List (ByteArray × Int)) × Int × Int × Int × Int × Int × (List (ByteArray × Int)) × (List (Int × Int × Int × Int)) × Int × Nat × Int × (List ((ByteArray × Int) × Int × Int)) × Unit → Tr0 ((List Int × (List (ByteArray × Int)) × Int × Int × Int × Int × Int × (List (ByteArray × Int)) × (List (Int × Int × Int × Int)) × Int × Nat × Int × (List ((ByteArray × Int) × Int × Int)) × Unit) ⊕ ((Int × Int × Int × (List (ByteArray × Int)) × (List (Int × Int × Int × Int)) × Int × Nat × Int × (List ((ByteArray × Int) × Int × Int)) × Unit))) := fun (v1, v9, v10, v11, c0_0, c0_1, c0_2, c0_3, c0_4, c1_1, nc2_0, c2_1, b3, _) =>
 .br (decide (v11 < v10)) (
 .nb v11 (((v9).length : Nat) : Int) <|
 .nb v11 (((v1).length : Nat) : Int) <|
 .nd (decide ((nc2_0 + (((((((((v9).getD (Int.toNat v11) ((bs []), (0 : Int))).1, ((v9).getD (Int.toNat v11) ((bs []), (0 : Int))).2), (v11, ((v1).getD (Int.toNat v11) (0 : Int)))) :: [])).drop (0 : Nat)).take (1 : Nat))).length) < bigL)) <|
 .nb v11 (((v1).length : Nat) : Int) <|
 .br (decide ((0 : Int) < ((v1).getD (Int.toNat v11) (0 : Int)))) (
 .ni (c2_1 + ((v9).getD (Int.toNat v11) ((bs []), (0 : Int))).2) <|
 .ni (v11 + (1 : Int)) <|
 .ret (.inl (v1, (v9, (v10, ((v11 + (1 : Int)), (c0_0, (c0_1, (c0_2, (c0_3, (c0_4, (c1_1, ((nc2_0 + (((((((((v9).getD (Int.toNat v11) ((bs []), (0 : Int))).1, ((v9).getD (Int.toNat v11) ((bs []), (0 : Int))).2), (v11, ((v1).getD (Int.toNat v11) (0 : Int)))) :: [])).drop (0 : Nat)).take (1 : Nat))).length), ((c2_1 + ((v9).getD (Int.toNat v11) ((bs []), (0 : Int))).2), (((((b3).drop (0 : Nat)).take nc2_0) ++ ((((((((v9).getD (Int.toNat v11) ((bs []), (0 : Int))).1, ((v9).getD (Int.toNat v11) ((bs []), (0 : Int))).2), (v11, ((v1).getD (Int.toNat v11) (0 : Int)))) :: [])).drop (0 : Nat)).take (1 : Nat))), ()))))))))))))))) (
 .ni (v11 + (1 : Int)) <|
 .ret (.inl (v1, (v9, (v10, ((v11 + (1 : Int)), (c0_0, (c0_1, (c0_2, (c0_3, (c0_4, (c1_1, ((nc2_0 + (((((((((v9).getD (Int.toNat v11) ((bs []), (0 : Int))).1, ((v9).getD (Int.toNat v11) ((bs []), (0 : Int))).2), (v11, ((v1).getD (Int.toNat v11) (0 : Int)))) :: [])).drop (0 : Nat)).take (1 : Nat))).length), (c2_1, (((((b3).drop (0 : Nat)).take nc2_0) ++ ((((((((v9).getD (Int.toNat v11) ((bs []), (0 : Int))).1, ((v9).getD (Int.toNat v11) ((bs []), (0 : Int))).2), (v11, ((v1).getD (Int.toNat v11) (0 : Int)))) :: [])).drop (0 : Nat)).take (1 : Nat))), ())))))))))))))))) (
 .ret (.inr (c0_0, (c0_1, (c0_2, (c0_3, (c0_4, (c1_1, (nc2_0, (c2_1, (b3, ())))))))))))
theorem s18_0 : ∀ x, roundE (kzO (p18_0.T ⊕ x18_0.T)) cx18 ar0 [] p18_0 x18_0 (b18_0) (fun y => some (.inl y)) (fun b => some (.inr b)) x = run0 (g18_0 x) := fun x => by kernel_rfl
noncomputable def L18_0 : LoopS prog 47 none 0 := mkLoop mixed cx18 cx18_ok [] rfl p18_0 x18_0 rfl (b18_0) (fun x => run0 (g18_0 x)) (s18_0)
noncomputable def dd18 : D prog 47 none 0 := dO [.l L18_0] (kd prog f18) 0
noncomputable def F18 (a0 : Int × Int × Int × (List (ByteArray × Int)) × List (Int × Int × Int × Int)) (a1 : List Int) : Tr0 (((List ((ByteArray × Int) × Int × Int)) × Int) × Unit) :=
 .bd (.it g18_0 (a1, (a0.2.2.2.1, ((((a0.2.2.2.1).length : Nat) : Int), ((0 : Int), (a0.1, (a0.2.1, (a0.2.2.1, (a0.2.2.2.1, (a0.2.2.2.2, ((0 : Int), ((0 : Nat), ((0 : Int), ([], ())))))))))))))) fun z0 =>
 .ret (((((z0.2.2.2.2.2.2.2.2.1).drop (0 : Nat)).take z0.2.2.2.2.2.2.1), (imin z0.2.2.2.2.2.2.2.1 z0.1)), ())
theorem c18_ok : trF prog f18 = some ⟨47, 2, dd18.er, [.cell 4 true 2], [some (.prod (.list (.prod (.prod .str tI) (.prod tI tI))) tI)]⟩ := by kernel_rfl
noncomputable def ct18 : Ct := ⟨18, [.c (.hole (.prod tI (.prod tI (.prod tI (.prod (.list (.prod .str tI)) (.list (.prod tI (.prod tI (.prod tI tI))))))))), hL], .c (.hole (.prod (.list (.prod (.prod .str tI) (.prod tI tI))) tI)), fun x => run0 (F18 x.1 x.2.1)⟩
theorem ct18_ok : ct18.Ok prog := ct_ok mixed cx18_ok func18 c18_ok (enters_of func18 rfl rfl) dd18 (by kernel_rfl) rfl (fun x => by kernel_rfl)

/- 34 -/
noncomputable def cx34 : Cx := (mkCxH [] [])
theorem cx34_ok : cx34.Ok prog := mkCxH_ok trivial trivial
noncomputable def dd34 : D prog 4 none 0 := dO [] (kd prog f34) 0
noncomputable def F34 (a0 : (List ((ByteArray × Int) × Int × Int)) × Int) : Tr0 (((List ((ByteArray × Int) × Int × Int)) × Int) × Unit) :=
 .ret ((a0.1, a0.2), ())
theorem c34_ok : trF prog f34 = some ⟨4, 1, dd34.er, [.t 2], [none]⟩ := by kernel_rfl
noncomputable def ct34 : Ct := ⟨34, [.c (.hole (.prod (.list (.prod (.prod .str tI) (.prod tI tI))) tI))], .fn 49 [] [.ipc (.prod (.list (.prod (.prod .str tI) (.prod tI tI))) tI)], fun x => run0 (F34 x.1)⟩
theorem ct34_ok : ct34.Ok prog := ct_ok mixed cx34_ok func34 c34_ok (enters_of func34 rfl rfl) dd34 (by kernel_rfl) rfl (fun x => by kernel_rfl)

/- 21, lent -/
@[reducible] def pH21 : Pat := Pat.mk [(0, .c (.hole (.list (.prod (.prod .str tI) (.prod tI tI)))))] [] [] []
@[reducible] def qH21 : Pat := Pat.mk [(0, .c (.sl0 0 (.prod (.prod .str tI) (.prod tI tI))))] [(0, .arr (.prod (.prod .str tI) (.prod tI tI)) false)] [.slot 0] []
noncomputable def cxH21 : Cx := (mkCxH [] [])
theorem cxH21_ok : cxH21.Ok prog := mkCxH_ok trivial trivial
noncomputable def ddH21 : D prog 8 none 0 := dO [] (kd prog f21) 0
noncomputable def FH21 (v0 : List ((ByteArray × Int) × Int × Int)) : Tr0 (Nat × (List ((ByteArray × Int) × Int × Int)) × Unit) :=
 .br ((((v0).length : Nat) : Int) == (0 : Int)) (
 .am inferInstance (
 .ret ((0 : Nat), ([], ()))) (
 .nd (decide (((0 : Nat) + (v0).length) < bigL)) <|
 .ret (((0 : Nat) + (v0).length), ((((([]).drop (0 : Nat)).take (0 : Nat)) ++ v0), ())))) (
 .nd (decide (((0 : Nat) + (v0).length) < bigL)) <|
 .ret (((0 : Nat) + (v0).length), ((((([]).drop (0 : Nat)).take (0 : Nat)) ++ v0), ())))
theorem cH21_ok : trF prog f21 = some ⟨8, 1, ddH21.er, [.t 2], [some (.list (.prod (.prod .str tI) (.prod tI tI)))]⟩ := by kernel_rfl
noncomputable def ht21 : Ht := ⟨21, pH21, qH21, (fun x => run0 (FH21 x.1))⟩
theorem ht21_ok : ht21.Ok prog := ht_ok mixed cxH21_ok rfl func21 cH21_ok (enters_of func21 rfl rfl) ddH21 (by kernel_rfl) rfl rfl ⟨_, rfl⟩ rfl (pre := []) rfl (fun x => by kernel_rfl)

/- 51 -/
noncomputable def cx51 : Cx := (mkCxH [] [])
theorem cx51_ok : cx51.Ok prog := mkCxH_ok trivial trivial
noncomputable def dd51 : D prog 6 none 0 := dO [] (kd prog f51) 0
noncomputable def F51 (a0 : ByteArray × Int × Int × Int) : Tr0 (Bool × Unit) :=
 .ret ((a0.2.2.2 == (0 : Int)), ())
theorem c51_ok : trF prog f51 = some ⟨6, 1, dd51.er, [.t 2], [some .bool]⟩ := by kernel_rfl
noncomputable def ct51 : Ct := ⟨51, [.c (.hole (.prod .str (.prod tI (.prod tI tI))))], .c (.hole .bool), fun x => run0 (F51 x.1)⟩
theorem ct51_ok : ct51.Ok prog := ct_ok mixed cx51_ok func51 c51_ok (enters_of func51 rfl rfl) dd51 (by kernel_rfl) rfl (fun x => by kernel_rfl)

/- 66 -/
noncomputable def cx66 : Cx := (mkCxH [ct51] [])
theorem cx66_ok : cx66.Ok prog := mkCxH_ok ⟨ct51_ok, trivial⟩ trivial
@[reducible] def p66_0 : Pat := Pat.mk [(0, .c (.hole (.list (.prod (.prod .str tI) (.prod tI tI))))), (1, .c (.fn0 51)), (7, hI), (8, hI)] [] [] []
@[reducible] def x66_0 : Outs := [(.ret, Pat.mk [(4, hI)] [] [] []), (.exit 0, Pat.mk [] [] [] [])]
noncomputable def b66_0 : D prog 19 none 0 := dO [] (pick (kd prog f66) [(0, false)]) 0
noncomputable def g66_0 : (List ((ByteArray × Int) × Int × Int)) × Int × Int × Unit → Tr0 (((List ((ByteArray × Int) × Int × Int)) × Int × Int × Unit) ⊕ ((Int × Unit) ⊕ ((Unit)))) := fun (v0, v7, v8, _) =>
 .br (decide (v8 < v7)) (
 .nb v8 (((v0).length : Nat) : Int) <|
 .bd (F51 (((v0).getD (Int.toNat v8) (((bs []), (0 : Int)), ((0 : Int), (0 : Int)))).1.1, (((v0).getD (Int.toNat v8) (((bs []), (0 : Int)), ((0 : Int), (0 : Int)))).1.2, (((v0).getD (Int.toNat v8) (((bs []), (0 : Int)), ((0 : Int), (0 : Int)))).2.1, ((v0).getD (Int.toNat v8) (((bs []), (0 : Int)), ((0 : Int), (0 : Int)))).2.2)))) fun y0 =>
 .br y0.1 (
 .ret (.inr <| .inl <| (v8, ()))) (
 .ni (v8 + (1 : Int)) <|
 .ret (.inl (v0, (v7, ((v8 + (1 : Int)), ())))))) (
 .ret (.inr <| .inr <| ()))
theorem s66_0 : ∀ x, roundE (kzO (p66_0.T ⊕ x66_0.T)) cx66 ar0 [] p66_0 x66_0 (b66_0) (fun y => some (.inl y)) (fun b => some (.inr b)) x = run0 (g66_0 x) := fun x => by kernel_rfl
noncomputable def L66_0 : LoopS prog 19 none 0 := mkLoop mixed cx66 cx66_ok [] rfl p66_0 x66_0 rfl (b66_0) (fun x => run0 (g66_0 x)) (s66_0)
noncomputable def dd66 : D prog 19 none 0 := dO [.l L66_0] (kd prog f66) 0
noncomputable def F66 (a0 : List ((ByteArray × Int) × Int × Int)) : Tr0 (Int × Unit) :=
 .bd (.it g66_0 (a0, ((((a0).length : Nat) : Int), ((0 : Int), ())))) fun z1 =>
 .sm z1 (fun z2 =>
 .ret (z2.1, ())) fun z3 =>
 .ret ((-1 : Int), ())
theorem c66_ok : trF prog f66 = some ⟨19, 2, dd66.er, [.t 4], [some tI]⟩ := by kernel_rfl
noncomputable def ct66 : Ct := ⟨66, [.c (.hole (.list (.prod (.prod .str tI) (.prod tI tI)))), .c (.fn0 51)], hI, fun x => run0 (F66 x.1)⟩
theorem ct66_ok : ct66.Ok prog := ct_ok mixed cx66_ok func66 c66_ok (enters_of func66 rfl rfl) dd66 (by kernel_rfl) rfl (fun x => by kernel_rfl)

/- 50, lent -/
@[reducible] def pH50 : Pat := Pat.mk [(0, .c (.sl0 0 (.prod (.prod .str tI) (.prod tI tI)))), (1, .c (.fn0 51))] [(0, .arr (.prod (.prod .str tI) (.prod tI tI)) false)] [.slot 0] []
@[reducible] def qH50 : Pat := Pat.mk [(0, .c (.slx 0 (.prod (.prod .str tI) (.prod tI tI))))] [(0, .arr (.prod (.prod .str tI) (.prod tI tI)) false)] [] []
noncomputable def cxH50 : Cx := (mkCxH [ct66, ct51] [])
theorem cxH50_ok : cxH50.Ok prog := mkCxH_ok ⟨ct66_ok, ct51_ok, trivial⟩ trivial
@[reducible] def pH50_0 : Pat := Pat.mk [(0, .c (.sl0 0 (.prod (.prod .str tI) (.prod tI tI)))), (1, .c (.fn0 51)), (5, hI), (6, hI)] [(0, .arr (.prod (.prod .str tI) (.prod tI tI)) false)] [] []
@[reducible] def xH50_0 : Outs := [(.exit 0, Pat.mk [(0, .c (.sl0 0 (.prod (.prod .str tI) (.prod tI tI)))), (5, hI)] [(0, .arr (.prod (.prod .str tI) (.prod tI tI)) false)] [] [])]
noncomputable def bH50_0 : D prog 42 none 1 := dO [] (pick (kd prog f50) [(0, false)]) 0
noncomputable def gH50_0 : Nat × Int × Int × (List ((ByteArray × Int) × Int × Int)) × Unit → Tr0 ((Nat × Int × Int × (List ((ByteArray × Int) × Int × Int)) × Unit) ⊕ ((Nat × Int × (List ((ByteArray × Int) × Int × Int)) × Unit))) := fun (nv0, v5, v6, b0, _) =>
 .br (decide (v6 < ((nv0 : Nat) : Int))) (
 .nb v6 ((nv0 : Nat) : Int) <|
 .nd (decide (((0 : Nat) + (Int.toNat v6)) < (b0).length)) <|
 .bd (F51 (((b0).getD ((0 : Nat) + (Int.toNat v6)) (((bs []), (0 : Int)), ((0 : Int), (0 : Int)))).1.1, (((b0).getD ((0 : Nat) + (Int.toNat v6)) (((bs []), (0 : Int)), ((0 : Int), (0 : Int)))).1.2, (((b0).getD ((0 : Nat) + (Int.toNat v6)) (((bs []), (0 : Int)), ((0 : Int), (0 : Int)))).2.1, ((b0).getD ((0 : Nat) + (Int.toNat v6)) (((bs []), (0 : Int)), ((0 : Int), (0 : Int)))).2.2)))) fun y1 =>
 .br (!y1.1) (
 .nb v5 ((nv0 : Nat) : Int) <|
 .nd (decide (((0 : Nat) + (Int.toNat v5)) < (b0).length)) <|
 .ni (v5 + (1 : Int)) <|
 .ni (v6 + (1 : Int)) <|
 .ret (.inl (nv0, ((v5 + (1 : Int)), ((v6 + (1 : Int)), (((b0).set ((0 : Nat) + (Int.toNat v5)) ((((b0).getD ((0 : Nat) + (Int.toNat v6)) (((bs []), (0 : Int)), ((0 : Int), (0 : Int)))).1.1, ((b0).getD ((0 : Nat) + (Int.toNat v6)) (((bs []), (0 : Int)), ((0 : Int), (0 : Int)))).1.2), (((b0).getD ((0 : Nat) + (Int.toNat v6)) (((bs []), (0 : Int)), ((0 : Int), (0 : Int)))).2.1, ((b0).getD ((0 : Nat) + (Int.toNat v6)) (((bs []), (0 : Int)), ((0 : Int), (0 : Int)))).2.2))), ())))))) (
 .ni (v6 + (1 : Int)) <|
 .ret (.inl (nv0, (v5, ((v6 + (1 : Int)), (b0, ()))))))) (
 .ret (.inr (nv0, (v5, (b0, ())))))
theorem sH50_0 : ∀ x, roundE (kzO (pH50_0.T ⊕ xH50_0.T)) cxH50 ar0 [0] pH50_0 xH50_0 (bH50_0) (fun y => some (.inl y)) (fun b => some (.inr b)) x = run0 (gH50_0 x) := fun x => by kernel_rfl
noncomputable def LH50_0 : LoopS prog 42 none 1 := mkLoop mixed cxH50 cxH50_ok [0] rfl pH50_0 xH50_0 rfl (bH50_0) (fun x => run0 (gH50_0 x)) (sH50_0)
noncomputable def ddH50 : D prog 42 none 1 := dO [.l LH50_0] (kd prog f50) 0
noncomputable def FH50 (nv0 : Nat) (b0 : List ((ByteArray × Int) × Int × Int)) : Tr0 (Nat × Nat × (List ((ByteArray × Int) × Int × Int)) × Unit) :=
 .bd (F66 (((b0).drop (0 : Nat)).take nv0)) fun y0 =>
 .br (y0.1 == (-1 : Int)) (
 .ret ((0 : Nat), (nv0, (b0, ())))) (
 .ni (y0.1 + (1 : Int)) <|
 .bd (.it gH50_0 (nv0, (y0.1, ((y0.1 + (1 : Int)), (b0, ()))))) fun z2 =>
 .nd (decide ((0 : Int) ≤ z2.2.1)) <|
 .nd (decide (z2.2.1 ≤ ((z2.1 : Nat) : Int))) <|
 .nd (decide (((z2.1 : Nat) : Int) ≤ ((z2.1 : Nat) : Int))) <|
 .nd (decide ((0 : Int) ≤ (0 : Int))) <|
 .nd (decide ((0 : Int) ≤ z2.2.1)) <|
 .nd (decide (z2.2.1 ≤ ((z2.1 : Nat) : Int))) <|
 .ret (((0 : Nat) + (Int.toNat (0 : Int))), (((Int.toNat z2.2.1) - (Int.toNat (0 : Int))), ((clrL (((bs []), (0 : Int)), ((0 : Int), (0 : Int))) z2.2.2.1 ((0 : Nat) + (Int.toNat z2.2.1)) ((Int.toNat ((z2.1 : Nat) : Int)) - (Int.toNat z2.2.1))), ()))))
theorem cH50_ok : trF prog f50 = some ⟨42, 2, ddH50.er, [.t 4], [some (.list (.prod (.prod .str tI) (.prod tI tI)))]⟩ := by kernel_rfl
noncomputable def ht50 : Ht := ⟨50, pH50, qH50, (fun x => run0 (FH50 x.1 x.2.1))⟩
theorem ht50_ok : ht50.Ok prog := ht_ok mixed cxH50_ok rfl func50 cH50_ok (enters_of func50 rfl rfl) ddH50 (by kernel_rfl) rfl rfl ⟨_, rfl⟩ rfl (pre := [0]) rfl (fun x => by kernel_rfl)

/- 36 -/
noncomputable def cx36 : Cx := (mkCxH [] [])
theorem cx36_ok : cx36.Ok prog := mkCxH_ok trivial trivial
noncomputable def dd36 : D prog 9 none 0 := dO [] (kd prog f36) 0
noncomputable def F36 (a0 : ByteArray × Int × Int × Int) : Tr0 ((Int × Int) × Unit) :=
 .ret ((a0.2.1, a0.2.2.2), ())
theorem c36_ok : trF prog f36 = some ⟨9, 1, dd36.er, [.cell 2 true 2], [some (.prod tI tI)]⟩ := by kernel_rfl
noncomputable def ct36 : Ct := ⟨36, [.c (.hole (.prod .str (.prod tI (.prod tI tI))))], .c (.hole (.prod tI tI)), fun x => run0 (F36 x.1)⟩
theorem ct36_ok : ct36.Ok prog := ct_ok mixed cx36_ok func36 c36_ok (enters_of func36 rfl rfl) dd36 (by kernel_rfl) rfl (fun x => by kernel_rfl)

/- 40 -/
noncomputable def cx40 : Cx := (mkCxH [] [])
theorem cx40_ok : cx40.Ok prog := mkCxH_ok trivial trivial
noncomputable def dd40 : D prog 6 none 0 := dO [] (kd prog f40) 0
noncomputable def F40 (a0 : Int) : Tr0 (Bool × Unit) :=
 .ret ((!(a0 == a0)), ())
theorem c40_ok : trF prog f40 = some ⟨6, 1, dd40.er, [.t 2], [some .bool]⟩ := by kernel_rfl
noncomputable def ct40 : Ct := ⟨40, [hI], .c (.hole .bool), fun x => run0 (F40 x.1)⟩
theorem ct40_ok : ct40.Ok prog := ct_ok mixed cx40_ok func40 c40_ok (enters_of func40 rfl rfl) dd40 (by kernel_rfl) rfl (fun x => by kernel_rfl)

/- 25 -/
noncomputable def cx25 : Cx := (mkCxH [ct40] [])
theorem cx25_ok : cx25.Ok prog := mkCxH_ok ⟨ct40_ok, trivial⟩ trivial
noncomputable def dd25 : D prog 20 none 0 := dO [] (kd prog f25) 0
noncomputable def F25 (a0 : Int) (a1 : Int) : Tr0 (Int × Unit) :=
 .bd (F40 a0) fun y0 =>
 .bd (F40 a1) fun y1 =>
 .br y0.1 (
 .br y1.1 (
 .ret ((0 : Int), ())) (
 .ret ((-1 : Int), ()))) (
 .br y1.1 (
 .ret ((1 : Int), ())) (
 .br (decide (a0 < a1)) (
 .ret ((-1 : Int), ())) (
 .br (decide (a1 < a0)) (
 .ret ((1 : Int), ())) (
 .ret ((0 : Int), ())))))
theorem c25_ok : trF prog f25 = some ⟨20, 2, dd25.er, [.t 4], [some tI]⟩ := by kernel_rfl
noncomputable def ct25 : Ct := ⟨25, [hI, hI], hI, fun x => run0 (F25 x.1 x.2.1)⟩
theorem ct25_ok : ct25.Ok prog := ct_ok mixed cx25_ok func25 c25_ok (enters_of func25 rfl rfl) dd25 (by kernel_rfl) rfl (fun x => by kernel_rfl)

/- 35 -/
noncomputable def cx35 : Cx := (mkCxH [ct25] [])
theorem cx35_ok : cx35.Ok prog := mkCxH_ok ⟨ct25_ok, trivial⟩ trivial
noncomputable def dd35 : D prog 16 none 0 := dO [] (kd prog f35) 0
noncomputable def F35 (a0 : Int × Int) (a1 : Int × Int) : Tr0 (Int × Unit) :=
 .ni (a0.1 * a1.2) <|
 .ni (a1.1 * a0.2) <|
 .bd (F25 (a0.1 * a1.2) (a1.1 * a0.2)) fun y0 =>
 .ret (y0.1, ())
theorem c35_ok : trF prog f35 = some ⟨16, 2, dd35.er, [.t 4], [some tI]⟩ := by kernel_rfl
noncomputable def ct35 : Ct := ⟨35, [.c (.hole (.prod tI tI)), .c (.hole (.prod tI tI))], hI, fun x => run0 (F35 x.1 x.2.1)⟩
theorem ct35_ok : ct35.Ok prog := ct_ok mixed cx35_ok func35 c35_ok (enters_of func35 rfl rfl) dd35 (by kernel_rfl) rfl (fun x => by kernel_rfl)

/- 53 -/
noncomputable def cx53 : Cx := (mkCxH [ct36, ct35] [])
theorem cx53_ok : cx53.Ok prog := mkCxH_ok ⟨ct36_ok, ct35_ok, trivial⟩ trivial
noncomputable def dd53 : D prog 12 none 0 := dO [] (kd prog f53) 0
noncomputable def F53 (a0 : ByteArray × Int × Int × Int) (a1 : ByteArray × Int × Int × Int) : Tr0 (Int × Unit) :=
 .bd (F36 (a0.1, (a0.2.1, (a0.2.2.1, a0.2.2.2)))) fun y0 =>
 .bd (F36 (a1.1, (a1.2.1, (a1.2.2.1, a1.2.2.2)))) fun y1 =>
 .bd (F35 (y0.1.1, y0.1.2) (y1.1.1, y1.1.2)) fun y2 =>
 .ret (y2.1, ())
theorem c53_ok : trF prog f53 = some ⟨12, 3, dd53.er, [.t 5], [some tI]⟩ := by kernel_rfl
noncomputable def ct53 : Ct := ⟨53, [.c (.hole (.prod .str (.prod tI (.prod tI tI)))), .c (.hole (.prod .str (.prod tI (.prod tI tI)))), .c (.ipcs (.cons (.fn0 35) .nil))], hI, fun x => run0 (F53 x.1 x.2.1)⟩
theorem ct53_ok : ct53.Ok prog := ct_ok mixed cx53_ok func53 c53_ok (enters_of func53 rfl rfl) dd53 (by kernel_rfl) rfl (fun x => by kernel_rfl)

/- 54, lent -/
@[reducible] def pH54 : Pat := Pat.mk [(0, .c (.slx 0 (.prod (.prod .str tI) (.prod tI tI)))), (1, hI), (2, hI), (3, .fn 53 [] [.ptr 1 0])] [(0, .arr (.prod (.prod .str tI) (.prod tI tI)) false), (1, .cells [.fn0 35] false)] [.slot 0, .part 3 0] []
@[reducible] def qH54 : Pat := Pat.mk [(0, .c .any)] [(1, .cells [.fn0 35] false), (0, .arr (.prod (.prod .str tI) (.prod tI tI)) false)] [] []
noncomputable def cxH54 : Cx := (mkCxH [ct53] [])
theorem cxH54_ok : cxH54.Ok prog := mkCxH_ok ⟨ct53_ok, trivial⟩ trivial
@[reducible] def pH54_1 : Pat := Pat.mk [(0, .c (.slx 0 (.prod (.prod .str tI) (.prod tI tI)))), (1, hI), (2, hI), (3, .fn 53 [] [.ptr 1 0]), (8, hI), (9, hI)] [(0, .arr (.prod (.prod .str tI) (.prod tI tI)) false), (1, .cells [.fn0 35] false)] [] []
@[reducible] def xH54_1 : Outs := [(.exit 2, Pat.mk [(0, .c (.slx 0 (.prod (.prod .str tI) (.prod tI tI)))), (1, hI), (2, hI), (3, .fn 53 [] [.ptr 1 0]), (8, hI)] [(0, .arr (.prod (.prod .str tI) (.prod tI tI)) false), (1, .cells [.fn0 35] false)] [] [])]
noncomputable def bH54_1 : D prog 53 none 2 := dO [] (pick (kd prog f54) [(0, false), (0, false)]) 0
noncomputable def gH54_1 : Nat × Nat × Int × Int × Int × Int × (List ((ByteArray × Int) × Int × Int)) × Unit → Tr0 ((Nat × Nat × Int × Int × Int × Int × (List ((ByteArray × Int) × Int × Int)) × Unit) ⊕ ((Nat × Nat × Int × Int × Int × (List ((ByteArray × Int) × Int × Int)) × Unit))) := fun (lv0, nv0, v1, v2, v8, v9, b0, _) =>
 .br (decide (v1 < v9)) (
 .nb v9 ((nv0 : Nat) : Int) <|
 .nd (decide ((lv0 + (Int.toNat v9)) < (b0).length)) <|
 .ni (v9 - (1 : Int)) <|
 .nb (v9 - (1 : Int)) ((nv0 : Nat) : Int) <|
 .nd (decide ((lv0 + (Int.toNat (v9 - (1 : Int)))) < (b0).length)) <|
 .bd (F53 (((b0).getD (lv0 + (Int.toNat v9)) (((bs []), (0 : Int)), ((0 : Int), (0 : Int)))).1.1, (((b0).getD (lv0 + (Int.toNat v9)) (((bs []), (0 : Int)), ((0 : Int), (0 : Int)))).1.2, (((b0).getD (lv0 + (Int.toNat v9)) (((bs []), (0 : Int)), ((0 : Int), (0 : Int)))).2.1, ((b0).getD (lv0 + (Int.toNat v9)) (((bs []), (0 : Int)), ((0 : Int), (0 : Int)))).2.2))) (((b0).getD (lv0 + (Int.toNat (v9 - (1 : Int)))) (((bs []), (0 : Int)), ((0 : Int), (0 : Int)))).1.1, (((b0).getD (lv0 + (Int.toNat (v9 - (1 : Int)))) (((bs []), (0 : Int)), ((0 : Int), (0 : Int)))).1.2, (((b0).getD (lv0 + (Int.toNat (v9 - (1 : Int)))) (((bs []), (0 : Int)), ((0 : Int), (0 : Int)))).2.1, ((b0).getD (lv0 + (Int.toNat (v9 - (1 : Int)))) (((bs []), (0 : Int)), ((0 : Int), (0 : Int)))).2.2)))) fun y0 =>
 .br (decide (y0.1 < (0 : Int))) (
 .ni (v9 - (1 : Int)) <|
 .ni (v9 - (1 : Int)) <|
 .nb (v9 - (1 : Int)) ((nv0 : Nat) : Int) <|
 .nd (decide ((lv0 + (Int.toNat (v9 - (1 : Int)))) < (b0).length)) <|
 .nb v9 ((nv0 : Nat) : Int) <|
 .nd (decide ((lv0 + (Int.toNat v9)) < (b0).length)) <|
 .nb v9 ((nv0 : Nat) : Int) <|
 .nd (decide ((lv0 + (Int.toNat v9)) < (b0).length)) <|
 .nb (v9 - (1 : Int)) ((nv0 : Nat) : Int) <|
 .nd (decide ((lv0 + (Int.toNat (v9 - (1 : Int)))) < (((b0).set (lv0 + (Int.toNat v9)) ((((b0).getD (lv0 + (Int.toNat (v9 - (1 : Int)))) (((bs []), (0 : Int)), ((0 : Int), (0 : Int)))).1.1, ((b0).getD (lv0 + (Int.toNat (v9 - (1 : Int)))) (((bs []), (0 : Int)), ((0 : Int), (0 : Int)))).1.2), (((b0).getD (lv0 + (Int.toNat (v9 - (1 : Int)))) (((bs []), (0 : Int)), ((0 : Int), (0 : Int)))).2.1, ((b0).getD (lv0 + (Int.toNat (v9 - (1 : Int)))) (((bs []), (0 : Int)), ((0 : Int), (0 : Int)))).2.2)))).length)) <|
 .ni (v9 - (1 : Int)) <|
 .ret (.inl (lv0, (nv0, (v1, (v2, (v8, ((v9 - (1 : Int)), (((((b0).set (lv0 + (Int.toNat v9)) ((((b0).getD (lv0 + (Int.toNat (v9 - (1 : Int)))) (((bs []), (0 : Int)), ((0 : Int), (0 : Int)))).1.1, ((b0).getD (lv0 + (Int.toNat (v9 - (1 : Int)))) (((bs []), (0 : Int)), ((0 : Int), (0 : Int)))).1.2), (((b0).getD (lv0 + (Int.toNat (v9 - (1 : Int)))) (((bs []), (0 : Int)), ((0 : Int), (0 : Int)))).2.1, ((b0).getD (lv0 + (Int.toNat (v9 - (1 : Int)))) (((bs []), (0 : Int)), ((0 : Int), (0 : Int)))).2.2)))).set (lv0 + (Int.toNat (v9 - (1 : Int)))) ((((b0).getD (lv0 + (Int.toNat v9)) (((bs []), (0 : Int)), ((0 : Int), (0 : Int)))).1.1, ((b0).getD (lv0 + (Int.toNat v9)) (((bs []), (0 : Int)), ((0 : Int), (0 : Int)))).1.2), (((b0).getD (lv0 + (Int.toNat v9)) (((bs []), (0 : Int)), ((0 : Int), (0 : Int)))).2.1, ((b0).getD (lv0 + (Int.toNat v9)) (((bs []), (0 : Int)), ((0 : Int), (0 : Int)))).2.2))), ()))))))))) (
 .ret (.inr (lv0, (nv0, (v1, (v2, (v8, (b0, ()))))))))) (
 .ret (.inr (lv0, (nv0, (v1, (v2, (v8, (b0, ()))))))))
theorem sH54_1 : ∀ x, roundE (kzO (pH54_1.T ⊕ xH54_1.T)) cxH54 ar0 [0, 1] pH54_1 xH54_1 (bH54_1) (fun y => some (.inl y)) (fun b => some (.inr b)) x = run0 (gH54_1 x) := fun x => by kernel_rfl
noncomputable def LH54_1 : LoopS prog 53 none 2 := mkLoop mixed cxH54 cxH54_ok [0, 1] rfl pH54_1 xH54_1 rfl (bH54_1) (fun x => run0 (gH54_1 x)) (sH54_1)
@[reducible] def pH54_0 : Pat := Pat.mk [(0, .c (.slx 0 (.prod (.prod .str tI) (.prod tI tI)))), (1, hI), (2, hI), (3, .fn 53 [] [.ptr 1 0]), (8, hI)] [(0, .arr (.prod (.prod .str tI) (.prod tI tI)) false), (1, .cells [.fn0 35] false)] [] []
@[reducible] def xH54_0 : Outs := [(.exit 0, Pat.mk [] [(1, .cells [.fn0 35] false), (0, .arr (.prod (.prod .str tI) (.prod tI tI)) false)] [] [])]
noncomputable def bH54_0 : D prog 53 none 2 := dO [.l LH54_1] (pick (kd prog f54) [(0, false)]) 0
noncomputable def gH54_0 : Nat × Nat × Int × Int × Int × (List ((ByteArray × Int) × Int × Int)) × Unit → Tr0 ((Nat × Nat × Int × Int × Int × (List ((ByteArray × Int) × Int × Int)) × Unit) ⊕ (((List ((ByteArray × Int) × Int × Int)) × Unit))) := fun (lv0, nv0, v1, v2, v8, b0, _) =>
 .br (decide (v8 < v2)) (
 .bd (.it gH54_1 (lv0, (nv0, (v1, (v2, (v8, (v8, (b0, ())))))))) fun z1 =>
 .ni (z1.2.2.2.2.1 + (1 : Int)) <|
 .ret (.inl (z1.1, (z1.2.1, (z1.2.2.1, (z1.2.2.2.1, ((z1.2.2.2.2.1 + (1 : Int)), (z1.2.2.2.2.2.1, ())))))))) (
 .ret (.inr (b0, ())))
theorem sH54_0 : ∀ x, roundE (kzO (pH54_0.T ⊕ xH54_0.T)) cxH54 ar0 [0, 1] pH54_0 xH54_0 (bH54_0) (fun y => some (.inl y)) (fun b => some (.inr b)) x = run0 (gH54_0 x) := fun x => by kernel_rfl
noncomputable def LH54_0 : LoopS prog 53 none 2 := mkLoop mixed cxH54 cxH54_ok [0, 1] rfl pH54_0 xH54_0 rfl (bH54_0) (fun x => run0 (gH54_0 x)) (sH54_0)
noncomputable def ddH54 : D prog 53 none 2 := dO [.l LH54_0] (kd prog f54) 0
noncomputable def FH54 (lv0 : Nat) (nv0 : Nat) (v1 : Int) (v2 : Int) (b0 : List ((ByteArray × Int) × Int × Int)) : Tr0 ((List ((ByteArray × Int) × Int × Int)) × Unit) :=
 .ni (v1 + (1 : Int)) <|
 .bd (.it gH54_0 (lv0, (nv0, (v1, (v2, ((v1 + (1 : Int)), (b0, ()))))))) fun z2 =>
 .ret (z2.1, ())
theorem cH54_ok : trF prog f54 = some ⟨53, 4, ddH54.er, [], []⟩ := by kernel_rfl
noncomputable def ht54 : Ht := ⟨54, pH54, qH54, (fun x => run0 (FH54 x.1 x.2.1 x.2.2.1 x.2.2.2.1 x.2.2.2.2.1))⟩
theorem ht54_ok : ht54.Ok prog := ht_ok mixed cxH54_ok rfl func54 cH54_ok (enters_of func54 rfl rfl) ddH54 (by kernel_rfl) rfl rfl ⟨_, rfl⟩ rfl (pre := [0, 1]) rfl (fun x => by kernel_rfl)

/- 80, lent -/
@[reducible] def pH80 : Pat := Pat.mk [(0, .c (.slx 0 (.prod (.prod .str tI) (.prod tI tI)))), (1, hI), (2, hI), (3, hI), (4, .fn 53 [] [.ptr 1 0])] [(0, .arr (.prod (.prod .str tI) (.prod tI tI)) false), (1, .cells [.fn0 35] false)] [.slot 0, .part 4 0] []
@[reducible] def qH80 : Pat := Pat.mk [(0, .c .any)] [(1, .cells [.fn0 35] false), (0, .arr (.prod (.prod .str tI) (.prod tI tI)) false)] [] []
noncomputable def cxH80 : Cx := (mkCxH [] [])
theorem cxH80_ok : cxH80.Ok prog := mkCxH_ok trivial trivial
@[reducible] def pH80_0 : Pat := Pat.mk [(0, .c (.slx 0 (.prod (.prod .str tI) (.prod tI tI)))), (1, hI), (2, hI), (3, hI), (10, hI)] [(0, .arr (.prod (.prod .str tI) (.prod tI tI)) false), (1, .cells [.fn0 35] false)] [] []
@[reducible] def xH80_0 : Outs := [(.exit 0, Pat.mk [] [(1, .cells [.fn0 35] false), (0, .arr (.prod (.prod .str tI) (.prod tI tI)) false)] [] [])]
noncomputable def bH80_0 : D prog 38 none 2 := dO [] (pick (kd prog f80) [(0, false)]) 0
noncomputable def gH80_0 : Nat × Nat × Int × Int × Int × Int × (List ((ByteArray × Int) × Int × Int)) × Unit → Tr0 ((Nat × Nat × Int × Int × Int × Int × (List ((ByteArray × Int) × Int × Int)) × Unit) ⊕ (((List ((ByteArray × Int) × Int × Int)) × Unit))) := fun (lv0, nv0, v1, v2, v3, v10, b0, _) =>
 .br (decide (v10 < v3)) (
 .ni (v1 + v10) <|
 .ni (v2 + v10) <|
 .ni (v2 + v10) <|
 .nb (v2 + v10) ((nv0 : Nat) : Int) <|
 .nd (decide ((lv0 + (Int.toNat (v2 + v10))) < (b0).length)) <|
 .ni (v1 + v10) <|
 .nb (v1 + v10) ((nv0 : Nat) : Int) <|
 .nd (decide ((lv0 + (Int.toNat (v1 + v10))) < (b0).length)) <|
 .nb (v1 + v10) ((nv0 : Nat) : Int) <|
 .nd (decide ((lv0 + (Int.toNat (v1 + v10))) < (b0).length)) <|
 .nb (v2 + v10) ((nv0 : Nat) : Int) <|
 .nd (decide ((lv0 + (Int.toNat (v2 + v10))) < (((b0).set (lv0 + (Int.toNat (v1 + v10))) ((((b0).getD (lv0 + (Int.toNat (v2 + v10))) (((bs []), (0 : Int)), ((0 : Int), (0 : Int)))).1.1, ((b0).getD (lv0 + (Int.toNat (v2 + v10))) (((bs []), (0 : Int)), ((0 : Int), (0 : Int)))).1.2), (((b0).getD (lv0 + (Int.toNat (v2 + v10))) (((bs []), (0 : Int)), ((0 : Int), (0 : Int)))).2.1, ((b0).getD (lv0 + (Int.toNat (v2 + v10))) (((bs []), (0 : Int)), ((0 : Int), (0 : Int)))).2.2)))).length)) <|
 .ni (v10 + (1 : Int)) <|
 .ret (.inl (lv0, (nv0, (v1, (v2, (v3, ((v10 + (1 : Int)), (((((b0).set (lv0 + (Int.toNat (v1 + v10))) ((((b0).getD (lv0 + (Int.toNat (v2 + v10))) (((bs []), (0 : Int)), ((0 : Int), (0 : Int)))).1.1, ((b0).getD (lv0 + (Int.toNat (v2 + v10))) (((bs []), (0 : Int)), ((0 : Int), (0 : Int)))).1.2), (((b0).getD (lv0 + (Int.toNat (v2 + v10))) (((bs []), (0 : Int)), ((0 : Int), (0 : Int)))).2.1, ((b0).getD (lv0 + (Int.toNat (v2 + v10))) (((bs []), (0 : Int)), ((0 : Int), (0 : Int)))).2.2)))).set (lv0 + (Int.toNat (v2 + v10))) ((((b0).getD (lv0 + (Int.toNat (v1 + v10))) (((bs []), (0 : Int)), ((0 : Int), (0 : Int)))).1.1, ((b0).getD (lv0 + (Int.toNat (v1 + v10))) (((bs []), (0 : Int)), ((0 : Int), (0 : Int)))).1.2), (((b0).getD (lv0 + (Int.toNat (v1 + v10))) (((bs []), (0 : Int)), ((0 : Int), (0 : Int)))).2.1, ((b0).getD (lv0 + (Int.toNat (v1 + v10))) (((bs []), (0 : Int)), ((0 : Int), (0 : Int)))).2.2))), ()))))))))) (
 .ret (.inr (b0, ())))
theorem sH80_0 : ∀ x, roundE (kzO (pH80_0.T ⊕ xH80_0.T)) cxH80 ar0 [0, 1] pH80_0 xH80_0 (bH80_0) (fun y => some (.inl y)) (fun b => some (.inr b)) x = run0 (gH80_0 x) := fun x => by kernel_rfl
noncomputable def LH80_0 : LoopS prog 38 none 2 := mkLoop mixed cxH80 cxH80_ok [0, 1] rfl pH80_0 xH80_0 rfl (bH80_0) (fun x => run0 (gH80_0 x)) (sH80_0)
noncomputable def ddH80 : D prog 38 none 2 := dO [.l LH80_0] (kd prog f80) 0
noncomputable def FH80 (lv0 : Nat) (nv0 : Nat) (v1 : Int) (v2 : Int) (v3 : Int) (b0 : List ((ByteArray × Int) × Int × Int)) : Tr0 ((List ((ByteArray × Int) × Int × Int)) × Unit) :=
 .bd (.it gH80_0 (lv0, (nv0, (v1, (v2, (v3, ((0 : Int), (b0, ())))))))) fun z0 =>
 .ret (z0.1, ())
theorem cH80_ok : trF prog f80 = some ⟨38, 5, ddH80.er, [], []⟩ := by kernel_rfl
noncomputable def ht80 : Ht := ⟨80, pH80, qH80, (fun x => run0 (FH80 x.1 x.2.1 x.2.2.1 x.2.2.2.1 x.2.2.2.2.1 x.2.2.2.2.2.1))⟩
theorem ht80_ok : ht80.Ok prog := ht_ok mixed cxH80_ok rfl func80 cH80_ok (enters_of func80 rfl rfl) ddH80 (by kernel_rfl) rfl rfl ⟨_, rfl⟩ rfl (pre := [0, 1]) rfl (fun x => by kernel_rfl)

/- 78, lent -/
@[reducible] def pH78 : Pat := Pat.mk [(0, .c (.slx 0 (.prod (.prod .str tI) (.prod tI tI)))), (1, hI), (2, hI), (3, hI), (4, .fn 53 [] [.ptr 1 0])] [(0, .arr (.prod (.prod .str tI) (.prod tI tI)) false), (1, .cells [.fn0 35] false)] [.slot 0, .part 4 0] []
@[reducible] def qH78 : Pat := Pat.mk [(0, .c .any)] [(1, .cells [.fn0 35] false), (0, .arr (.prod (.prod .str tI) (.prod tI tI)) false)] [] []
noncomputable def cxH78 : Cx := (mkCxH [] [ht80])
theorem cxH78_ok : cxH78.Ok prog := mkCxH_ok trivial ⟨⟨ht80_ok, rfl⟩, trivial⟩
@[reducible] def pH78_0 : Pat := Pat.mk [(0, .c (.slx 0 (.prod (.prod .str tI) (.prod tI tI)))), (2, hI), (4, .fn 53 [] [.ptr 1 0]), (10, hI), (11, hI)] [(0, .arr (.prod (.prod .str tI) (.prod tI tI)) false), (1, .cells [.fn0 35] false)] [] []
@[reducible] def xH78_0 : Outs := [(.exit 0, Pat.mk [(0, .c (.slx 0 (.prod (.prod .str tI) (.prod tI tI)))), (2, hI), (4, .fn 53 [] [.ptr 1 0]), (10, hI)] [(0, .arr (.prod (.prod .str tI) (.prod tI tI)) false), (1, .cells [.fn0 35] false)] [] [])]
noncomputable def bH78_0 : D prog 58 none 2 := dO [] (pick (kd prog f78) [(0, false)]) 0
noncomputable def gH78_0 : Nat × Nat × Int × Int × Int × (List ((ByteArray × Int) × Int × Int)) × Unit → Tr0 ((Nat × Nat × Int × Int × Int × (List ((ByteArray × Int) × Int × Int)) × Unit) ⊕ ((Nat × Nat × Int × Int × (List ((ByteArray × Int) × Int × Int)) × Unit))) := fun (lv0, nv0, v2, v10, v11, b0, _) =>
 .br (!(v10 == v11)) (
 .br (decide (v11 < v10)) (
 .ni (v2 - v10) <|
 .bd (FH80 lv0 nv0 (v2 - v10) v2 v11 b0) fun y0 =>
 .ni (v10 - v11) <|
 .ret (.inl (lv0, (nv0, (v2, ((v10 - v11), (v11, (y0.1, ())))))))) (
 .ni (v2 - v10) <|
 .ni (v2 + v11) <|
 .ni ((v2 + v11) - v10) <|
 .bd (FH80 lv0 nv0 (v2 - v10) ((v2 + v11) - v10) v10 b0) fun y1 =>
 .ni (v11 - v10) <|
 .ret (.inl (lv0, (nv0, (v2, (v10, ((v11 - v10), (y1.1, ()))))))))) (
 .ret (.inr (lv0, (nv0, (v2, (v10, (b0, ())))))))
theorem sH78_0 : ∀ x, roundE (kzO (pH78_0.T ⊕ xH78_0.T)) cxH78 ar0 [0, 1] pH78_0 xH78_0 (bH78_0) (fun y => some (.inl y)) (fun b => some (.inr b)) x = run0 (gH78_0 x) := fun x => by kernel_rfl
noncomputable def LH78_0 : LoopS prog 58 none 2 := mkLoop mixed cxH78 cxH78_ok [0, 1] rfl pH78_0 xH78_0 rfl (bH78_0) (fun x => run0 (gH78_0 x)) (sH78_0)
noncomputable def ddH78 : D prog 58 none 2 := dO [.l LH78_0] (kd prog f78) 0
noncomputable def FH78 (lv0 : Nat) (nv0 : Nat) (v1 : Int) (v2 : Int) (v3 : Int) (b0 : List ((ByteArray × Int) × Int × Int)) : Tr0 ((List ((ByteArray × Int) × Int × Int)) × Unit) :=
 .ni (v2 - v1) <|
 .ni (v3 - v2) <|
 .bd (.it gH78_0 (lv0, (nv0, (v2, ((v2 - v1), ((v3 - v2), (b0, ()))))))) fun z2 =>
 .ni (z2.2.2.1 - z2.2.2.2.1) <|
 .bd (FH80 z2.1 z2.2.1 (z2.2.2.1 - z2.2.2.2.1) z2.2.2.1 z2.2.2.2.1 z2.2.2.2.2.1) fun y3 =>
 .ret (y3.1, ())
theorem cH78_ok : trF prog f78 = some ⟨58, 5, ddH78.er, [], []⟩ := by kernel_rfl
noncomputable def ht78 : Ht := ⟨78, pH78, qH78, (fun x => run0 (FH78 x.1 x.2.1 x.2.2.1 x.2.2.2.1 x.2.2.2.2.1 x.2.2.2.2.2.1))⟩
theorem ht78_ok : ht78.Ok prog := ht_ok mixed cxH78_ok rfl func78 cH78_ok (enters_of func78 rfl rfl) ddH78 (by kernel_rfl) rfl rfl ⟨_, rfl⟩ rfl (pre := [0, 1]) rfl (fun x => by kernel_rfl)

/- 75, lent -/
@[reducible] def pH75 : Pat := Pat.mk [(0, .c (.slx 0 (.prod (.prod .str tI) (.prod tI tI)))), (1, hI), (2, hI), (3, hI), (4, .fn 53 [] [.ptr 1 0])] [(0, .arr (.prod (.prod .str tI) (.prod tI tI)) false), (1, .cells [.fn0 35] false)] [.slot 0, .part 4 0] []
@[reducible] def qH75 : Pat := Pat.mk [(0, .c .any)] [(1, .cells [.fn0 35] false), (0, .arr (.prod (.prod .str tI) (.prod tI tI)) false)] [] []
noncomputable def cxH75 (rec : pH75.T → Option qH75.T) : Cx := (mkCxH [ct53] [ht78, ⟨75, pH75, qH75, rec⟩])
theorem cxH75_ok (rec : pH75.T → Option qH75.T) (h : Ht.Ok prog ⟨75, pH75, qH75, rec⟩) : (cxH75 rec).Ok prog := mkCxH_ok ⟨ct53_ok, trivial⟩ ⟨⟨ht78_ok, rfl⟩, ⟨h, rfl⟩, trivial⟩
@[reducible] def pH75_0 : Pat := Pat.mk [(0, .c (.slx 0 (.prod (.prod .str tI) (.prod tI tI)))), (1, hI), (4, .fn 53 [] [.ptr 1 0]), (10, hI), (11, hI)] [(0, .arr (.prod (.prod .str tI) (.prod tI tI)) false), (1, .cells [.fn0 35] false)] [] []
@[reducible] def xH75_0 : Outs := [(.exit 0, Pat.mk [(0, .c (.slx 0 (.prod (.prod .str tI) (.prod tI tI)))), (1, hI), (10, hI)] [(0, .arr (.prod (.prod .str tI) (.prod tI tI)) false), (1, .cells [.fn0 35] false)] [] [])]
noncomputable def bH75_0 (rec : pH75.T → Option qH75.T) (h : Ht.Ok prog ⟨75, pH75, qH75, rec⟩) : D prog 220 none 2 := dO [] (pick (kd prog f75) [(0, false)]) 0
noncomputable def gH75_0 : Nat × Nat × Int × Int × Int × (List ((ByteArray × Int) × Int × Int)) × Unit → Tr pH75.T qH75.T ((Nat × Nat × Int × Int × Int × (List ((ByteArray × Int) × Int × Int)) × Unit) ⊕ ((Nat × Nat × Int × Int × (List ((ByteArray × Int) × Int × Int)) × Unit))) := fun (lv0, nv0, v1, v10, v11, b0, _) =>
 .br (decide (v10 < v11)) (
 .ni (v10 + v11) <|
 .nd (rng .u64 (v10 + v11)) <|
 .nb (1 : Int) (64 : Int) <|
 .ni (ar0.shr (v10 + v11) (1 : Int)) <|
 .nb (ar0.shr (v10 + v11) (1 : Int)) ((nv0 : Nat) : Int) <|
 .nd (decide ((lv0 + (Int.toNat (ar0.shr (v10 + v11) (1 : Int)))) < (b0).length)) <|
 .nb v1 ((nv0 : Nat) : Int) <|
 .nd (decide ((lv0 + (Int.toNat v1)) < (b0).length)) <|
 .bd (.up (F53 (((b0).getD (lv0 + (Int.toNat (ar0.shr (v10 + v11) (1 : Int)))) (((bs []), (0 : Int)), ((0 : Int), (0 : Int)))).1.1, (((b0).getD (lv0 + (Int.toNat (ar0.shr (v10 + v11) (1 : Int)))) (((bs []), (0 : Int)), ((0 : Int), (0 : Int)))).1.2, (((b0).getD (lv0 + (Int.toNat (ar0.shr (v10 + v11) (1 : Int)))) (((bs []), (0 : Int)), ((0 : Int), (0 : Int)))).2.1, ((b0).getD (lv0 + (Int.toNat (ar0.shr (v10 + v11) (1 : Int)))) (((bs []), (0 : Int)), ((0 : Int), (0 : Int)))).2.2))) (((b0).getD (lv0 + (Int.toNat v1)) (((bs []), (0 : Int)), ((0 : Int), (0 : Int)))).1.1, (((b0).getD (lv0 + (Int.toNat v1)) (((bs []), (0 : Int)), ((0 : Int), (0 : Int)))).1.2, (((b0).getD (lv0 + (Int.toNat v1)) (((bs []), (0 : Int)), ((0 : Int), (0 : Int)))).2.1, ((b0).getD (lv0 + (Int.toNat v1)) (((bs []), (0 : Int)), ((0 : Int), (0 : Int)))).2.2))))) fun y0 =>
 .br (decide (y0.1 < (0 : Int))) (
 .ni ((ar0.shr (v10 + v11) (1 : Int)) + (1 : Int)) <|
 .ret (.inl (lv0, (nv0, (v1, (((ar0.shr (v10 + v11) (1 : Int)) + (1 : Int)), (v11, (b0, ())))))))) (
 .ret (.inl (lv0, (nv0, (v1, (v10, ((ar0.shr (v10 + v11) (1 : Int)), (b0, ()))))))))) (
 .ret (.inr (lv0, (nv0, (v1, (v10, (b0, ())))))))
theorem sH75_0 (rec : pH75.T → Option qH75.T) (h : Ht.Ok prog ⟨75, pH75, qH75, rec⟩) : ∀ x, roundE (kzO (pH75_0.T ⊕ xH75_0.T)) (cxH75 rec) ar0 [0, 1] pH75_0 xH75_0 (bH75_0 rec h) (fun y => some (.inl y)) (fun b => some (.inr b)) x = run rec (gH75_0 x) := fun x => by kernel_rfl
noncomputable def LH75_0 (rec : pH75.T → Option qH75.T) (h : Ht.Ok prog ⟨75, pH75, qH75, rec⟩) : LoopS prog 220 none 2 := mkLoop mixed (cxH75 rec) (cxH75_ok rec h) [0, 1] rfl pH75_0 xH75_0 rfl (bH75_0 rec h) (fun x => run rec (gH75_0 x)) (sH75_0 rec h)
@[reducible] def pH75_1 : Pat := Pat.mk [(0, .c (.slx 0 (.prod (.prod .str tI) (.prod tI tI)))), (10, hI), (13, hI)] [(0, .arr (.prod (.prod .str tI) (.prod tI tI)) false), (1, .cells [.fn0 35] false)] [] []
@[reducible] def xH75_1 : Outs := [(.exit 2, Pat.mk [] [(1, .cells [.fn0 35] false), (0, .arr (.prod (.prod .str tI) (.prod tI tI)) false)] [] [])]
noncomputable def bH75_1 (rec : pH75.T → Option qH75.T) (h : Ht.Ok prog ⟨75, pH75, qH75, rec⟩) : D prog 220 none 2 := dO [] (pick (kd prog f75) [(1, false)]) 0
noncomputable def gH75_1 : Nat × Nat × Int × Int × (List ((ByteArray × Int) × Int × Int)) × Unit → Tr pH75.T qH75.T ((Nat × Nat × Int × Int × (List ((ByteArray × Int) × Int × Int)) × Unit) ⊕ (((List ((ByteArray × Int) × Int × Int)) × Unit))) := fun (lv0, nv0, v10, v13, b0, _) =>
 .ni (v10 - (1 : Int)) <|
 .br (decide (v13 < (v10 - (1 : Int)))) (
 .ni (v13 + (1 : Int)) <|
 .ni (v13 + (1 : Int)) <|
 .nb (v13 + (1 : Int)) ((nv0 : Nat) : Int) <|
 .nd (decide ((lv0 + (Int.toNat (v13 + (1 : Int)))) < (b0).length)) <|
 .nb v13 ((nv0 : Nat) : Int) <|
 .nd (decide ((lv0 + (Int.toNat v13)) < (b0).length)) <|
 .nb v13 ((nv0 : Nat) : Int) <|
 .nd (decide ((lv0 + (Int.toNat v13)) < (b0).length)) <|
 .nb (v13 + (1 : Int)) ((nv0 : Nat) : Int) <|
 .nd (decide ((lv0 + (Int.toNat (v13 + (1 : Int)))) < (((b0).set (lv0 + (Int.toNat v13)) ((((b0).getD (lv0 + (Int.toNat (v13 + (1 : Int)))) (((bs []), (0 : Int)), ((0 : Int), (0 : Int)))).1.1, ((b0).getD (lv0 + (Int.toNat (v13 + (1 : Int)))) (((bs []), (0 : Int)), ((0 : Int), (0 : Int)))).1.2), (((b0).getD (lv0 + (Int.toNat (v13 + (1 : Int)))) (((bs []), (0 : Int)), ((0 : Int), (0 : Int)))).2.1, ((b0).getD (lv0 + (Int.toNat (v13 + (1 : Int)))) (((bs []), (0 : Int)), ((0 : Int), (0 : Int)))).2.2)))).length)) <|
 .ni (v13 + (1 : Int)) <|
 .ret (.inl (lv0, (nv0, (v10, ((v13 + (1 : Int)), (((((b0).set (lv0 + (Int.toNat v13)) ((((b0).getD (lv0 + (Int.toNat (v13 + (1 : Int)))) (((bs []), (0 : Int)), ((0 : Int), (0 : Int)))).1.1, ((b0).getD (lv0 + (Int.toNat (v13 + (1 : Int)))) (((bs []), (0 : Int)), ((0 : Int), (0 : Int)))).1.2), (((b0).getD (lv0 + (Int.toNat (v13 + (1 : Int)))) (((bs []), (0 : Int)), ((0 : Int), (0 : Int)))).2.1, ((b0).getD (lv0 + (Int.toNat (v13 + (1 : Int)))) (((bs []), (0 : Int)), ((0 : Int), (0 : Int)))).2.2)))).set (lv0 + (Int.toNat (v13 + (1 : Int)))) ((((b0).getD (lv0 + (Int.toNat v13)) (((bs []), (0 : Int)), ((0 : Int), (0 : Int)))).1.1, ((b0).getD (lv0 + (Int.toNat v13)) (((bs []), (0 : Int)), ((0 : Int), (0 : Int)))).1.2), (((b0).getD (lv0 + (Int.toNat v13)) (((bs []), (0 : Int)), ((0 : Int), (0 : Int)))).2.1, ((b0).getD (lv0 + (Int.toNat v13)) (((bs []), (0 : Int)), ((0 : Int), (0 : Int)))).2.2))), ()))))))) (
 .ret (.inr (b0, ())))
theorem sH75_1 (rec : pH75.T → Option qH75.T) (h : Ht.Ok prog ⟨75, pH75, qH75, rec⟩) : ∀ x, roundE (kzO (pH75_1.T ⊕ xH75_1.T)) (cxH75 rec) ar0 [0, 1] pH75_1 xH75_1 (bH75_1 rec h) (fun y => some (.inl y)) (fun b => some (.inr b)) x = run rec (gH75_1 x) := fun x => by kernel_rfl
noncomputable def LH75_1 (rec : pH75.T → Option qH75.T) (h : Ht.Ok prog ⟨75, pH75, qH75, rec⟩) : LoopS prog 220 none 2 := mkLoop mixed (cxH75 rec) (cxH75_ok rec h) [0, 1] rfl pH75_1 xH75_1 rfl (bH75_1 rec h) (fun x => run rec (gH75_1 x)) (sH75_1 rec h)
@[reducible] def pH75_2 : Pat := Pat.mk [(0, .c (.slx 0 (.prod (.prod .str tI) (.prod tI tI)))), (2, hI), (4, .fn 53 [] [.ptr 1 0]), (14, hI), (15, hI)] [(0, .arr (.prod (.prod .str tI) (.prod tI tI)) false), (1, .cells [.fn0 35] false)] [] []
@[reducible] def xH75_2 : Outs := [(.exit 4, Pat.mk [(0, .c (.slx 0 (.prod (.prod .str tI) (.prod tI tI)))), (2, hI), (14, hI)] [(0, .arr (.prod (.prod .str tI) (.prod tI tI)) false), (1, .cells [.fn0 35] false)] [] [])]
noncomputable def bH75_2 (rec : pH75.T → Option qH75.T) (h : Ht.Ok prog ⟨75, pH75, qH75, rec⟩) : D prog 220 none 2 := dO [] (pick (kd prog f75) [(2, false)]) 0
noncomputable def gH75_2 : Nat × Nat × Int × Int × Int × (List ((ByteArray × Int) × Int × Int)) × Unit → Tr pH75.T qH75.T ((Nat × Nat × Int × Int × Int × (List ((ByteArray × Int) × Int × Int)) × Unit) ⊕ ((Nat × Nat × Int × Int × (List ((ByteArray × Int) × Int × Int)) × Unit))) := fun (lv0, nv0, v2, v14, v15, b0, _) =>
 .br (decide (v14 < v15)) (
 .ni (v14 + v15) <|
 .nd (rng .u64 (v14 + v15)) <|
 .nb (1 : Int) (64 : Int) <|
 .ni (ar0.shr (v14 + v15) (1 : Int)) <|
 .nb v2 ((nv0 : Nat) : Int) <|
 .nd (decide ((lv0 + (Int.toNat v2)) < (b0).length)) <|
 .nb (ar0.shr (v14 + v15) (1 : Int)) ((nv0 : Nat) : Int) <|
 .nd (decide ((lv0 + (Int.toNat (ar0.shr (v14 + v15) (1 : Int)))) < (b0).length)) <|
 .bd (.up (F53 (((b0).getD (lv0 + (Int.toNat v2)) (((bs []), (0 : Int)), ((0 : Int), (0 : Int)))).1.1, (((b0).getD (lv0 + (Int.toNat v2)) (((bs []), (0 : Int)), ((0 : Int), (0 : Int)))).1.2, (((b0).getD (lv0 + (Int.toNat v2)) (((bs []), (0 : Int)), ((0 : Int), (0 : Int)))).2.1, ((b0).getD (lv0 + (Int.toNat v2)) (((bs []), (0 : Int)), ((0 : Int), (0 : Int)))).2.2))) (((b0).getD (lv0 + (Int.toNat (ar0.shr (v14 + v15) (1 : Int)))) (((bs []), (0 : Int)), ((0 : Int), (0 : Int)))).1.1, (((b0).getD (lv0 + (Int.toNat (ar0.shr (v14 + v15) (1 : Int)))) (((bs []), (0 : Int)), ((0 : Int), (0 : Int)))).1.2, (((b0).getD (lv0 + (Int.toNat (ar0.shr (v14 + v15) (1 : Int)))) (((bs []), (0 : Int)), ((0 : Int), (0 : Int)))).2.1, ((b0).getD (lv0 + (Int.toNat (ar0.shr (v14 + v15) (1 : Int)))) (((bs []), (0 : Int)), ((0 : Int), (0 : Int)))).2.2))))) fun y3 =>
 .br (!(decide (y3.1 < (0 : Int)))) (
 .ni ((ar0.shr (v14 + v15) (1 : Int)) + (1 : Int)) <|
 .ret (.inl (lv0, (nv0, (v2, (((ar0.shr (v14 + v15) (1 : Int)) + (1 : Int)), (v15, (b0, ())))))))) (
 .ret (.inl (lv0, (nv0, (v2, (v14, ((ar0.shr (v14 + v15) (1 : Int)), (b0, ()))))))))) (
 .ret (.inr (lv0, (nv0, (v2, (v14, (b0, ())))))))
theorem sH75_2 (rec : pH75.T → Option qH75.T) (h : Ht.Ok prog ⟨75, pH75, qH75, rec⟩) : ∀ x, roundE (kzO (pH75_2.T ⊕ xH75_2.T)) (cxH75 rec) ar0 [0, 1] pH75_2 xH75_2 (bH75_2 rec h) (fun y => some (.inl y)) (fun b => some (.inr b)) x = run rec (gH75_2 x) := fun x => by kernel_rfl
noncomputable def LH75_2 (rec : pH75.T → Option qH75.T) (h : Ht.Ok prog ⟨75, pH75, qH75, rec⟩) : LoopS prog 220 none 2 := mkLoop mixed (cxH75 rec) (cxH75_ok rec h) [0, 1] rfl pH75_2 xH75_2 rfl (bH75_2 rec h) (fun x => run rec (gH75_2 x)) (sH75_2 rec h)
@[reducible] def pH75_3 : Pat := Pat.mk [(0, .c (.slx 0 (.prod (.prod .str tI) (.prod tI tI)))), (14, hI), (17, hI)] [(0, .arr (.prod (.prod .str tI) (.prod tI tI)) false), (1, .cells [.fn0 35] false)] [] []
@[reducible] def xH75_3 : Outs := [(.exit 6, Pat.mk [] [(1, .cells [.fn0 35] false), (0, .arr (.prod (.prod .str tI) (.prod tI tI)) false)] [] [])]
noncomputable def bH75_3 (rec : pH75.T → Option qH75.T) (h : Ht.Ok prog ⟨75, pH75, qH75, rec⟩) : D prog 220 none 2 := dO [] (pick (kd prog f75) [(3, false)]) 0
noncomputable def gH75_3 : Nat × Nat × Int × Int × (List ((ByteArray × Int) × Int × Int)) × Unit → Tr pH75.T qH75.T ((Nat × Nat × Int × Int × (List ((ByteArray × Int) × Int × Int)) × Unit) ⊕ (((List ((ByteArray × Int) × Int × Int)) × Unit))) := fun (lv0, nv0, v14, v17, b0, _) =>
 .br (decide (v14 < v17)) (
 .ni (v17 - (1 : Int)) <|
 .ni (v17 - (1 : Int)) <|
 .nb (v17 - (1 : Int)) ((nv0 : Nat) : Int) <|
 .nd (decide ((lv0 + (Int.toNat (v17 - (1 : Int)))) < (b0).length)) <|
 .nb v17 ((nv0 : Nat) : Int) <|
 .nd (decide ((lv0 + (Int.toNat v17)) < (b0).length)) <|
 .nb v17 ((nv0 : Nat) : Int) <|
 .nd (decide ((lv0 + (Int.toNat v17)) < (b0).length)) <|
 .nb (v17 - (1 : Int)) ((nv0 : Nat) : Int) <|
 .nd (decide ((lv0 + (Int.toNat (v17 - (1 : Int)))) < (((b0).set (lv0 + (Int.toNat v17)) ((((b0).getD (lv0 + (Int.toNat (v17 - (1 : Int)))) (((bs []), (0 : Int)), ((0 : Int), (0 : Int)))).1.1, ((b0).getD (lv0 + (Int.toNat (v17 - (1 : Int)))) (((bs []), (0 : Int)), ((0 : Int), (0 : Int)))).1.2), (((b0).getD (lv0 + (Int.toNat (v17 - (1 : Int)))) (((bs []), (0 : Int)), ((0 : Int), (0 : Int)))).2.1, ((b0).getD (lv0 + (Int.toNat (v17 - (1 : Int)))) (((bs []), (0 : Int)), ((0 : Int), (0 : Int)))).2.2)))).length)) <|
 .ni (v17 - (1 : Int)) <|
 .ret (.inl (lv0, (nv0, (v14, ((v17 - (1 : Int)), (((((b0).set (lv0 + (Int.toNat v17)) ((((b0).getD (lv0 + (Int.toNat (v17 - (1 : Int)))) (((bs []), (0 : Int)), ((0 : Int), (0 : Int)))).1.1, ((b0).getD (lv0 + (Int.toNat (v17 - (1 : Int)))) (((bs []), (0 : Int)), ((0 : Int), (0 : Int)))).1.2), (((b0).getD (lv0 + (Int.toNat (v17 - (1 : Int)))) (((bs []), (0 : Int)), ((0 : Int), (0 : Int)))).2.1, ((b0).getD (lv0 + (Int.toNat (v17 - (1 : Int)))) (((bs []), (0 : Int)), ((0 : Int), (0 : Int)))).2.2)))).set (lv0 + (Int.toNat (v17 - (1 : Int)))) ((((b0).getD (lv0 + (Int.toNat v17)) (((bs []), (0 : Int)), ((0 : Int), (0 : Int)))).1.1, ((b0).getD (lv0 + (Int.toNat v17)) (((bs []), (0 : Int)), ((0 : Int), (0 : Int)))).1.2), (((b0).getD (lv0 + (Int.toNat v17)) (((bs []), (0 : Int)), ((0 : Int), (0 : Int)))).2.1, ((b0).getD (lv0 + (Int.toNat v17)) (((bs []), (0 : Int)), ((0 : Int), (0 : Int)))).2.2))), ()))))))) (
 .ret (.inr (b0, ())))
theorem sH75_3 (rec : pH75.T → Option qH75.T) (h : Ht.Ok prog ⟨75, pH75, qH75, rec⟩) : ∀ x, roundE (kzO (pH75_3.T ⊕ xH75_3.T)) (cxH75 rec) ar0 [0, 1] pH75_3 xH75_3 (bH75_3 rec h) (fun y => some (.inl y)) (fun b => some (.inr b)) x = run rec (gH75_3 x) := fun x => by kernel_rfl
noncomputable def LH75_3 (rec : pH75.T → Option qH75.T) (h : Ht.Ok prog ⟨75, pH75, qH75, rec⟩) : LoopS prog 220 none 2 := mkLoop mixed (cxH75 rec) (cxH75_ok rec h) [0, 1] rfl pH75_3 xH75_3 rfl (bH75_3 rec h) (fun x => run rec (gH75_3 x)) (sH75_3 rec h)
@[reducible] def pH75_4 : Pat := Pat.mk [(0, .c (.slx 0 (.prod (.prod .str tI) (.prod tI tI)))), (1, hI), (2, hI), (3, hI), (4, .fn 53 [] [.ptr 1 0]), (18, hI), (19, hI), (20, hI), (21, hI), (22, hI)] [(0, .arr (.prod (.prod .str tI) (.prod tI tI)) false), (1, .cells [.fn0 35] false)] [] []
@[reducible] def xH75_4 : Outs := [(.exit 8, Pat.mk [(0, .c (.slx 0 (.prod (.prod .str tI) (.prod tI tI)))), (1, hI), (2, hI), (3, hI), (4, .fn 53 [] [.ptr 1 0]), (18, hI), (19, hI), (20, hI)] [(0, .arr (.prod (.prod .str tI) (.prod tI tI)) false), (1, .cells [.fn0 35] false)] [] [])]
noncomputable def bH75_4 (rec : pH75.T → Option qH75.T) (h : Ht.Ok prog ⟨75, pH75, qH75, rec⟩) : D prog 220 none 2 := dO [] (pick (kd prog f75) [(4, false)]) 0
noncomputable def gH75_4 : Nat × Nat × Int × Int × Int × Int × Int × Int × Int × Int × (List ((ByteArray × Int) × Int × Int)) × Unit → Tr pH75.T qH75.T ((Nat × Nat × Int × Int × Int × Int × Int × Int × Int × Int × (List ((ByteArray × Int) × Int × Int)) × Unit) ⊕ ((Nat × Nat × Int × Int × Int × Int × Int × Int × (List ((ByteArray × Int) × Int × Int)) × Unit))) := fun (lv0, nv0, v1, v2, v3, v18, v19, v20, v21, v22, b0, _) =>
 .br (decide (v20 < v21)) (
 .ni (v20 + v21) <|
 .nd (rng .u64 (v20 + v21)) <|
 .nb (1 : Int) (64 : Int) <|
 .ni (ar0.shr (v20 + v21) (1 : Int)) <|
 .ni (v22 - (ar0.shr (v20 + v21) (1 : Int))) <|
 .nb (v22 - (ar0.shr (v20 + v21) (1 : Int))) ((nv0 : Nat) : Int) <|
 .nd (decide ((lv0 + (Int.toNat (v22 - (ar0.shr (v20 + v21) (1 : Int))))) < (b0).length)) <|
 .nb (ar0.shr (v20 + v21) (1 : Int)) ((nv0 : Nat) : Int) <|
 .nd (decide ((lv0 + (Int.toNat (ar0.shr (v20 + v21) (1 : Int)))) < (b0).length)) <|
 .bd (.up (F53 (((b0).getD (lv0 + (Int.toNat (v22 - (ar0.shr (v20 + v21) (1 : Int))))) (((bs []), (0 : Int)), ((0 : Int), (0 : Int)))).1.1, (((b0).getD (lv0 + (Int.toNat (v22 - (ar0.shr (v20 + v21) (1 : Int))))) (((bs []), (0 : Int)), ((0 : Int), (0 : Int)))).1.2, (((b0).getD (lv0 + (Int.toNat (v22 - (ar0.shr (v20 + v21) (1 : Int))))) (((bs []), (0 : Int)), ((0 : Int), (0 : Int)))).2.1, ((b0).getD (lv0 + (Int.toNat (v22 - (ar0.shr (v20 + v21) (1 : Int))))) (((bs []), (0 : Int)), ((0 : Int), (0 : Int)))).2.2))) (((b0).getD (lv0 + (Int.toNat (ar0.shr (v20 + v21) (1 : Int)))) (((bs []), (0 : Int)), ((0 : Int), (0 : Int)))).1.1, (((b0).getD (lv0 + (Int.toNat (ar0.shr (v20 + v21) (1 : Int)))) (((bs []), (0 : Int)), ((0 : Int), (0 : Int)))).1.2, (((b0).getD (lv0 + (Int.toNat (ar0.shr (v20 + v21) (1 : Int)))) (((bs []), (0 : Int)), ((0 : Int), (0 : Int)))).2.1, ((b0).getD (lv0 + (Int.toNat (ar0.shr (v20 + v21) (1 : Int)))) (((bs []), (0 : Int)), ((0 : Int), (0 : Int)))).2.2))))) fun y7 =>
 .br (!(decide (y7.1 < (0 : Int)))) (
 .ni ((ar0.shr (v20 + v21) (1 : Int)) + (1 : Int)) <|
 .ret (.inl (lv0, (nv0, (v1, (v2, (v3, (v18, (v19, (((ar0.shr (v20 + v21) (1 : Int)) + (1 : Int)), (v21, (v22, (b0, ()))))))))))))) (
 .ret (.inl (lv0, (nv0, (v1, (v2, (v3, (v18, (v19, (v20, ((ar0.shr (v20 + v21) (1 : Int)), (v22, (b0, ())))))))))))))) (
 .ret (.inr (lv0, (nv0, (v1, (v2, (v3, (v18, (v19, (v20, (b0, ())))))))))))
theorem sH75_4 (rec : pH75.T → Option qH75.T) (h : Ht.Ok prog ⟨75, pH75, qH75, rec⟩) : ∀ x, roundE (kzO (pH75_4.T ⊕ xH75_4.T)) (cxH75 rec) ar0 [0, 1] pH75_4 xH75_4 (bH75_4 rec h) (fun y => some (.inl y)) (fun b => some (.inr b)) x = run rec (gH75_4 x) := fun x => by kernel_rfl
noncomputable def LH75_4 (rec : pH75.T → Option qH75.T) (h : Ht.Ok prog ⟨75, pH75, qH75, rec⟩) : LoopS prog 220 none 2 := mkLoop mixed (cxH75 rec) (cxH75_ok rec h) [0, 1] rfl pH75_4 xH75_4 rfl (bH75_4 rec h) (fun x => run rec (gH75_4 x)) (sH75_4 rec h)
noncomputable def ddH75 (rec : pH75.T → Option qH75.T) (h : Ht.Ok prog ⟨75, pH75, qH75, rec⟩) : D prog 220 none 2 := dO [.l (LH75_0 rec h), .l (LH75_1 rec h), .l (LH75_2 rec h), .l (LH75_3 rec h), .l (LH75_4 rec h)] (kd prog f75) 0
noncomputable def FH75 (lv0 : Nat) (nv0 : Nat) (v1 : Int) (v2 : Int) (v3 : Int) (b0 : List ((ByteArray × Int) × Int × Int)) : Tr pH75.T qH75.T ((List ((ByteArray × Int) × Int × Int)) × Unit) :=
 .ni (v2 - v1) <|
 .br ((v2 - v1) == (1 : Int)) (
 .bd (.it gH75_0 (lv0, (nv0, (v1, (v2, (v3, (b0, ()))))))) fun z1 =>
 .bd (.it gH75_1 (z1.1, (z1.2.1, (z1.2.2.2.1, (z1.2.2.1, (z1.2.2.2.2.1, ())))))) fun z2 =>
 .ret (z2.1, ())) (
 .ni (v3 - v2) <|
 .br ((v3 - v2) == (1 : Int)) (
 .bd (.it gH75_2 (lv0, (nv0, (v2, (v1, (v2, (b0, ()))))))) fun z4 =>
 .bd (.it gH75_3 (z4.1, (z4.2.1, (z4.2.2.2.1, (z4.2.2.1, (z4.2.2.2.2.1, ())))))) fun z5 =>
 .ret (z5.1, ())) (
 .ni (v1 + v3) <|
 .nd (rng .u64 (v1 + v3)) <|
 .nb (1 : Int) (64 : Int) <|
 .ni (ar0.shr (v1 + v3) (1 : Int)) <|
 .ni ((ar0.shr (v1 + v3) (1 : Int)) + v2) <|
 .jx (
 .br (decide ((ar0.shr (v1 + v3) (1 : Int)) < v2)) (
 .ni (((ar0.shr (v1 + v3) (1 : Int)) + v2) - v3) <|
 .ret (.inl (lv0, (nv0, (v1, (v2, (v3, ((ar0.shr (v1 + v3) (1 : Int)), (((ar0.shr (v1 + v3) (1 : Int)) + v2), ((((ar0.shr (v1 + v3) (1 : Int)) + v2) - v3), ((ar0.shr (v1 + v3) (1 : Int)), (b0, ())))))))))))) (
 .ret (.inl (lv0, (nv0, (v1, (v2, (v3, ((ar0.shr (v1 + v3) (1 : Int)), (((ar0.shr (v1 + v3) (1 : Int)) + v2), (v1, (v2, (b0, ()))))))))))))) fun j6 =>
 .ni (j6.2.2.2.2.2.2.1 - (1 : Int)) <|
 .bd (.it gH75_4 (j6.1, (j6.2.1, (j6.2.2.1, (j6.2.2.2.1, (j6.2.2.2.2.1, (j6.2.2.2.2.2.1, (j6.2.2.2.2.2.2.1, (j6.2.2.2.2.2.2.2.1, (j6.2.2.2.2.2.2.2.2.1, ((j6.2.2.2.2.2.2.1 - (1 : Int)), (j6.2.2.2.2.2.2.2.2.2.1, ())))))))))))) fun z8 =>
 .ni (z8.2.2.2.2.2.2.1 - z8.2.2.2.2.2.2.2.1) <|
 .jx (
 .br (decide (z8.2.2.2.2.2.2.2.1 < z8.2.2.2.1)) (
 .br (decide (z8.2.2.2.1 < (z8.2.2.2.2.2.2.1 - z8.2.2.2.2.2.2.2.1))) (
 .bd (.up (FH78 z8.1 z8.2.1 z8.2.2.2.2.2.2.2.1 z8.2.2.2.1 (z8.2.2.2.2.2.2.1 - z8.2.2.2.2.2.2.2.1) z8.2.2.2.2.2.2.2.2.1)) fun y11 =>
 .ret (.inl (z8.1, (z8.2.1, (z8.2.2.1, (z8.2.2.2.2.1, (z8.2.2.2.2.2.1, (z8.2.2.2.2.2.2.2.1, ((z8.2.2.2.2.2.2.1 - z8.2.2.2.2.2.2.2.1), (y11.1, ())))))))))) (
 .ret (.inl (z8.1, (z8.2.1, (z8.2.2.1, (z8.2.2.2.2.1, (z8.2.2.2.2.2.1, (z8.2.2.2.2.2.2.2.1, ((z8.2.2.2.2.2.2.1 - z8.2.2.2.2.2.2.2.1), (z8.2.2.2.2.2.2.2.2.1, ()))))))))))) (
 .ret (.inl (z8.1, (z8.2.1, (z8.2.2.1, (z8.2.2.2.2.1, (z8.2.2.2.2.2.1, (z8.2.2.2.2.2.2.2.1, ((z8.2.2.2.2.2.2.1 - z8.2.2.2.2.2.2.2.1), (z8.2.2.2.2.2.2.2.2.1, ()))))))))))) fun j10 =>
 .jx (
 .br (decide (j10.2.2.1 < j10.2.2.2.2.2.1)) (
 .br (decide (j10.2.2.2.2.2.1 < j10.2.2.2.2.1)) (
 .bd (.rc (j10.1, (j10.2.1, (j10.2.2.1, (j10.2.2.2.2.2.1, (j10.2.2.2.2.1, (j10.2.2.2.2.2.2.2.1, ()))))))) fun y14 =>
 .ret (.inl (j10.1, (j10.2.1, (j10.2.2.2.1, (j10.2.2.2.2.1, (j10.2.2.2.2.2.2.1, (y14.1, ())))))))) (
 .ret (.inl (j10.1, (j10.2.1, (j10.2.2.2.1, (j10.2.2.2.2.1, (j10.2.2.2.2.2.2.1, (j10.2.2.2.2.2.2.2.1, ()))))))))) (
 .ret (.inl (j10.1, (j10.2.1, (j10.2.2.2.1, (j10.2.2.2.2.1, (j10.2.2.2.2.2.2.1, (j10.2.2.2.2.2.2.2.1, ()))))))))) fun j13 =>
 .br (decide (j13.2.2.2.1 < j13.2.2.2.2.1)) (
 .br (decide (j13.2.2.2.2.1 < j13.2.2.1)) (
 .bd (.rc (j13.1, (j13.2.1, (j13.2.2.2.1, (j13.2.2.2.2.1, (j13.2.2.1, (j13.2.2.2.2.2.1, ()))))))) fun y15 =>
 .ret (y15.1, ())) (
 .ret (j13.2.2.2.2.2.1, ()))) (
 .ret (j13.2.2.2.2.2.1, ()))))
theorem cH75_ok (rec : pH75.T → Option qH75.T) (h : Ht.Ok prog ⟨75, pH75, qH75, rec⟩) : trF prog f75 = some ⟨220, 5, (ddH75 rec h).er, [], []⟩ := by kernel_rfl
theorem ht75_step (rec : pH75.T → Option qH75.T) (h : Ht.Ok prog ⟨75, pH75, qH75, rec⟩) : Ht.Ok prog ⟨75, pH75, qH75, (fun x => run rec (FH75 x.1 x.2.1 x.2.2.1 x.2.2.2.1 x.2.2.2.2.1 x.2.2.2.2.2.1))⟩ := ht_ok mixed (cxH75_ok rec h) rfl func75 (cH75_ok rec h) (enters_of func75 rfl rfl) (ddH75 rec h) (by kernel_rfl) rfl rfl ⟨_, rfl⟩ rfl (pre := [0, 1]) rfl (fun x => Eq.trans (b := run rec (flat (FH75 x.1 x.2.1 x.2.2.1 x.2.2.2.1 x.2.2.2.2.1 x.2.2.2.2.2.1))) (by kernel_rfl) run_flat)
noncomputable def FH75fix (lv0 : Nat) (nv0 : Nat) (v1 : Int) (v2 : Int) (v3 : Int) (b0 : List ((ByteArray × Int) × Int × Int)) : Tr0 ((List ((ByteArray × Int) × Int × Int)) × Unit) := .fx (A1 := pH75.T) (B1 := qH75.T) (fun x => FH75 x.1 x.2.1 x.2.2.1 x.2.2.2.1 x.2.2.2.2.1 x.2.2.2.2.2.1) (lv0, nv0, v1, v2, v3, b0, ())
noncomputable def ht75 : Ht := ⟨75, pH75, qH75, fun x => run0 (FH75fix x.1 x.2.1 x.2.2.1 x.2.2.2.1 x.2.2.2.2.1 x.2.2.2.2.2.1)⟩
theorem ht75_ok : ht75.Ok prog := ht_fix (F := fun rec x => run rec (FH75 x.1 x.2.1 x.2.2.1 x.2.2.2.1 x.2.2.2.2.1 x.2.2.2.2.2.1)) (fun rec h => ht75_step rec h)

/- 67, lent -/
@[reducible] def pH67 : Pat := Pat.mk [(0, .c (.slx 0 (.prod (.prod .str tI) (.prod tI tI)))), (1, hI), (2, .fn 53 [] [.ptr 1 0])] [(0, .arr (.prod (.prod .str tI) (.prod tI tI)) false), (1, .cells [.fn0 35] false)] [.slot 0, .part 2 0] []
@[reducible] def qH67 : Pat := Pat.mk [(0, .c .any)] [(1, .cells [.fn0 35] false), (0, .arr (.prod (.prod .str tI) (.prod tI tI)) false)] [] []
noncomputable def cxH67 : Cx := (mkCxH [] [ht54, ht75])
theorem cxH67_ok : cxH67.Ok prog := mkCxH_ok trivial ⟨⟨ht54_ok, rfl⟩, ⟨ht75_ok, rfl⟩, trivial⟩
@[reducible] def pH67_0 : Pat := Pat.mk [(0, .c (.slx 0 (.prod (.prod .str tI) (.prod tI tI)))), (1, hI), (2, .fn 53 [] [.ptr 1 0]), (6, hI), (7, hI), (8, hI)] [(0, .arr (.prod (.prod .str tI) (.prod tI tI)) false), (1, .cells [.fn0 35] false)] [] []
@[reducible] def xH67_0 : Outs := [(.exit 0, Pat.mk [(0, .c (.slx 0 (.prod (.prod .str tI) (.prod tI tI)))), (1, hI), (2, .fn 53 [] [.ptr 1 0]), (6, hI), (7, hI)] [(0, .arr (.prod (.prod .str tI) (.prod tI tI)) false), (1, .cells [.fn0 35] false)] [] [])]
noncomputable def bH67_0 : D prog 63 none 2 := dO [] (pick (kd prog f67) [(0, false)]) 0
noncomputable def gH67_0 : Nat × Nat × Int × Int × Int × Int × (List ((ByteArray × Int) × Int × Int)) × Unit → Tr0 ((Nat × Nat × Int × Int × Int × Int × (List ((ByteArray × Int) × Int × Int)) × Unit) ⊕ ((Nat × Nat × Int × Int × Int × (List ((ByteArray × Int) × Int × Int)) × Unit))) := fun (lv0, nv0, v1, v6, v7, v8, b0, _) =>
 .br (decide (v8 ≤ v1)) (
 .bd (FH54 lv0 nv0 v7 v8 b0) fun y0 =>
 .ni (v8 + v6) <|
 .ret (.inl (lv0, (nv0, (v1, (v6, (v8, ((v8 + v6), (y0.1, ()))))))))) (
 .ret (.inr (lv0, (nv0, (v1, (v6, (v7, (b0, ()))))))))
theorem sH67_0 : ∀ x, roundE (kzO (pH67_0.T ⊕ xH67_0.T)) cxH67 ar0 [0, 1] pH67_0 xH67_0 (bH67_0) (fun y => some (.inl y)) (fun b => some (.inr b)) x = run0 (gH67_0 x) := fun x => by kernel_rfl
noncomputable def LH67_0 : LoopS prog 63 none 2 := mkLoop mixed cxH67 cxH67_ok [0, 1] rfl pH67_0 xH67_0 rfl (bH67_0) (fun x => run0 (gH67_0 x)) (sH67_0)
@[reducible] def pH67_2 : Pat := Pat.mk [(0, .c (.slx 0 (.prod (.prod .str tI) (.prod tI tI)))), (1, hI), (2, .fn 53 [] [.ptr 1 0]), (6, hI), (7, hI), (8, hI)] [(0, .arr (.prod (.prod .str tI) (.prod tI tI)) false), (1, .cells [.fn0 35] false)] [] []
@[reducible] def xH67_2 : Outs := [(.exit 4, Pat.mk [(0, .c (.slx 0 (.prod (.prod .str tI) (.prod tI tI)))), (1, hI), (2, .fn 53 [] [.ptr 1 0]), (6, hI), (7, hI)] [(0, .arr (.prod (.prod .str tI) (.prod tI tI)) false), (1, .cells [.fn0 35] false)] [] [])]
noncomputable def bH67_2 : D prog 63 none 2 := dO [] (pick (kd prog f67) [(1, false), (0, false)]) 0
noncomputable def gH67_2 : Nat × Nat × Int × Int × Int × Int × (List ((ByteArray × Int) × Int × Int)) × Unit → Tr0 ((Nat × Nat × Int × Int × Int × Int × (List ((ByteArray × Int) × Int × Int)) × Unit) ⊕ ((Nat × Nat × Int × Int × Int × (List ((ByteArray × Int) × Int × Int)) × Unit))) := fun (lv0, nv0, v1, v6, v7, v8, b0, _) =>
 .br (decide (v8 ≤ v1)) (
 .ni (v7 + v6) <|
 .bd (FH75fix lv0 nv0 v7 (v7 + v6) v8 b0) fun y3 =>
 .ni ((2 : Int) * v6) <|
 .ni (v8 + ((2 : Int) * v6)) <|
 .ret (.inl (lv0, (nv0, (v1, (v6, (v8, ((v8 + ((2 : Int) * v6)), (y3.1, ()))))))))) (
 .ret (.inr (lv0, (nv0, (v1, (v6, (v7, (b0, ()))))))))
theorem sH67_2 : ∀ x, roundE (kzO (pH67_2.T ⊕ xH67_2.T)) cxH67 ar0 [0, 1] pH67_2 xH67_2 (bH67_2) (fun y => some (.inl y)) (fun b => some (.inr b)) x = run0 (gH67_2 x) := fun x => by kernel_rfl
noncomputable def LH67_2 : LoopS prog 63 none 2 := mkLoop mixed cxH67 cxH67_ok [0, 1] rfl pH67_2 xH67_2 rfl (bH67_2) (fun x => run0 (gH67_2 x)) (sH67_2)
@[reducible] def pH67_1 : Pat := Pat.mk [(0, .c (.slx 0 (.prod (.prod .str tI) (.prod tI tI)))), (1, hI), (2, .fn 53 [] [.ptr 1 0]), (6, hI)] [(0, .arr (.prod (.prod .str tI) (.prod tI tI)) false), (1, .cells [.fn0 35] false)] [] []
@[reducible] def xH67_1 : Outs := [(.exit 2, Pat.mk [] [(1, .cells [.fn0 35] false), (0, .arr (.prod (.prod .str tI) (.prod tI tI)) false)] [] [])]
noncomputable def bH67_1 : D prog 63 none 2 := dO [.l LH67_2] (pick (kd prog f67) [(1, false)]) 0
noncomputable def gH67_1 : Nat × Nat × Int × Int × (List ((ByteArray × Int) × Int × Int)) × Unit → Tr0 ((Nat × Nat × Int × Int × (List ((ByteArray × Int) × Int × Int)) × Unit) ⊕ (((List ((ByteArray × Int) × Int × Int)) × Unit))) := fun (lv0, nv0, v1, v6, b0, _) =>
 .br (decide (v6 < v1)) (
 .ni ((2 : Int) * v6) <|
 .bd (.it gH67_2 (lv0, (nv0, (v1, (v6, ((0 : Int), (((2 : Int) * v6), (b0, ())))))))) fun z4 =>
 .ni (z4.2.2.2.2.1 + z4.2.2.2.1) <|
 .br (decide ((z4.2.2.2.2.1 + z4.2.2.2.1) < z4.2.2.1)) (
 .bd (FH75fix z4.1 z4.2.1 z4.2.2.2.2.1 (z4.2.2.2.2.1 + z4.2.2.2.1) z4.2.2.1 z4.2.2.2.2.2.1) fun y5 =>
 .ni (z4.2.2.2.1 * (2 : Int)) <|
 .ret (.inl (z4.1, (z4.2.1, (z4.2.2.1, ((z4.2.2.2.1 * (2 : Int)), (y5.1, ()))))))) (
 .ni (z4.2.2.2.1 * (2 : Int)) <|
 .ret (.inl (z4.1, (z4.2.1, (z4.2.2.1, ((z4.2.2.2.1 * (2 : Int)), (z4.2.2.2.2.2.1, ())))))))) (
 .ret (.inr (b0, ())))
theorem sH67_1 : ∀ x, roundE (kzO (pH67_1.T ⊕ xH67_1.T)) cxH67 ar0 [0, 1] pH67_1 xH67_1 (bH67_1) (fun y => some (.inl y)) (fun b => some (.inr b)) x = run0 (gH67_1 x) := fun x => by kernel_rfl
noncomputable def LH67_1 : LoopS prog 63 none 2 := mkLoop mixed cxH67 cxH67_ok [0, 1] rfl pH67_1 xH67_1 rfl (bH67_1) (fun x => run0 (gH67_1 x)) (sH67_1)
noncomputable def ddH67 : D prog 63 none 2 := dO [.l LH67_0, .l LH67_1] (kd prog f67) 0
noncomputable def FH67 (lv0 : Nat) (nv0 : Nat) (v1 : Int) (b0 : List ((ByteArray × Int) × Int × Int)) : Tr0 ((List ((ByteArray × Int) × Int × Int)) × Unit) :=
 .bd (.it gH67_0 (lv0, (nv0, (v1, ((20 : Int), ((0 : Int), ((20 : Int), (b0, ())))))))) fun z1 =>
 .bd (FH54 z1.1 z1.2.1 z1.2.2.2.2.1 z1.2.2.1 z1.2.2.2.2.2.1) fun y2 =>
 .bd (.it gH67_1 (z1.1, (z1.2.1, (z1.2.2.1, (z1.2.2.2.1, (y2.1, ())))))) fun z6 =>
 .ret (z6.1, ())
theorem cH67_ok : trF prog f67 = some ⟨63, 3, ddH67.er, [], []⟩ := by kernel_rfl
noncomputable def ht67 : Ht := ⟨67, pH67, qH67, (fun x => run0 (FH67 x.1 x.2.1 x.2.2.1 x.2.2.2.1))⟩
theorem ht67_ok : ht67.Ok prog := ht_ok mixed cxH67_ok rfl func67 cH67_ok (enters_of func67 rfl rfl) ddH67 (by kernel_rfl) rfl rfl ⟨_, rfl⟩ rfl (pre := [0, 1]) rfl (fun x => by kernel_rfl)

/- 52, lent -/
@[reducible] def pH52 : Pat := Pat.mk [(0, .c (.slx 0 (.prod (.prod .str tI) (.prod tI tI)))), (1, .fn 53 [] [.ptr 1 0])] [(0, .arr (.prod (.prod .str tI) (.prod tI tI)) false), (1, .cells [.fn0 35] false)] [.slot 0, .part 1 0] []
@[reducible] def qH52 : Pat := Pat.mk [(0, .c .any)] [(1, .cells [.fn0 35] false), (0, .arr (.prod (.prod .str tI) (.prod tI tI)) false)] [] []
noncomputable def cxH52 : Cx := (mkCxH [] [ht67])
theorem cxH52_ok : cxH52.Ok prog := mkCxH_ok trivial ⟨⟨ht67_ok, rfl⟩, trivial⟩
noncomputable def ddH52 : D prog 9 none 2 := dO [] (kd prog f52) 0
noncomputable def FH52 (lv0 : Nat) (nv0 : Nat) (b0 : List ((ByteArray × Int) × Int × Int)) : Tr0 ((List ((ByteArray × Int) × Int × Int)) × Unit) :=
 .bd (FH67 lv0 nv0 ((nv0 : Nat) : Int) b0) fun y0 =>
 .ret (y0.1, ())
theorem cH52_ok : trF prog f52 = some ⟨9, 2, ddH52.er, [], []⟩ := by kernel_rfl
noncomputable def ht52 : Ht := ⟨52, pH52, qH52, (fun x => run0 (FH52 x.1 x.2.1 x.2.2.1))⟩
theorem ht52_ok : ht52.Ok prog := ht_ok mixed cxH52_ok rfl func52 cH52_ok (enters_of func52 rfl rfl) ddH52 (by kernel_rfl) rfl rfl ⟨_, rfl⟩ rfl (pre := [0, 1]) rfl (fun x => by kernel_rfl)

/- 37 -/
noncomputable def cx37 : Cx := (mkCxH [] [])
theorem cx37_ok : cx37.Ok prog := mkCxH_ok trivial trivial
@[reducible] def p37_0 : Pat := Pat.mk [(1, .c (.ptr 0 0)), (2, .c (.ptr 1 0)), (3, hI), (4, hI)] [(0, .cells [.hole tI, .hole tI] false), (1, .cells [.hole tI, .hole tI] false)] [.slot 1, .slot 2] []
@[reducible] def x37_0 : Outs := [(.exit 0, Pat.mk [(1, .c (.ptr 0 0)), (2, .c (.ptr 1 0)), (3, hI)] [(0, .cells [.hole tI, .hole tI] false), (1, .cells [.hole tI, .hole tI] false)] [.slot 1, .slot 2] [])]
noncomputable def b37_0 : D prog 24 none 0 := dO [] (pick (kd prog f37) [(0, false)]) 0
noncomputable def g37_0 : Int × Int × Int × Int × Int × Int × Unit → Tr0 ((Int × Int × Int × Int × Int × Int × Unit) ⊕ ((Int × Int × Int × Int × Int × Unit))) := fun (v3, v4, c0_0, c0_1, c1_0, c1_1, _) =>
 .br (decide ((0 : Int) < v4)) (
 .nd (!(v4 == (0 : Int))) <|
 .ret (.inl (v4, ((Int.tmod v3 v4), (c0_0, (c0_1, (c1_0, (c1_1, ())))))))) (
 .ret (.inr (v3, (c0_0, (c0_1, (c1_0, (c1_1, ())))))))
theorem s37_0 : ∀ x, roundE (kzO (p37_0.T ⊕ x37_0.T)) cx37 ar0 [] p37_0 x37_0 (b37_0) (fun y => some (.inl y)) (fun b => some (.inr b)) x = run0 (g37_0 x) := fun x => by kernel_rfl
noncomputable def L37_0 : LoopS prog 24 none 0 := mkLoop mixed cx37 cx37_ok [] rfl p37_0 x37_0 rfl (b37_0) (fun x => run0 (g37_0 x)) (s37_0)
noncomputable def dd37 : D prog 24 none 0 := dO [.l L37_0] (kd prog f37) 0
noncomputable def F37 (a0 : Int × Int) : Tr0 ((Int × Int) × Unit) :=
 .bd (.it g37_0 (a0.1, (a0.2, (a0.1, (a0.2, ((0 : Int), ((0 : Int), ()))))))) fun z0 =>
 .nd (!(z0.1 == (0 : Int))) <|
 .ni (Int.tdiv z0.2.1 z0.1) <|
 .nd (!(z0.1 == (0 : Int))) <|
 .ni (Int.tdiv z0.2.2.1 z0.1) <|
 .ret (((Int.tdiv z0.2.1 z0.1), (Int.tdiv z0.2.2.1 z0.1)), ())
theorem c37_ok : trF prog f37 = some ⟨24, 1, dd37.er, [.cell 2 true 2], [some (.prod tI tI)]⟩ := by kernel_rfl
noncomputable def ct37 : Ct := ⟨37, [.c (.hole (.prod tI tI))], .c (.hole (.prod tI tI)), fun x => run0 (F37 x.1)⟩
theorem ct37_ok : ct37.Ok prog := ct_ok mixed cx37_ok func37 c37_ok (enters_of func37 rfl rfl) dd37 (by kernel_rfl) rfl (fun x => by kernel_rfl)

/- 19 -/
noncomputable def cx19 : Cx := (mkCxH [ct34, ct36, ct35, ct37] [ht21, ht50, ht52])
theorem cx19_ok : cx19.Ok prog := mkCxH_ok ⟨ct34_ok, ct36_ok, ct35_ok, ct37_ok, trivial⟩ ⟨⟨ht21_ok, rfl⟩, ⟨ht50_ok, rfl⟩, ⟨ht52_ok, rfl⟩, trivial⟩
noncomputable def ad19_0 : D prog 45 (some 5) 8 := dO [] (pick (kd prog f19) [(0, false)]) 0
noncomputable def bd19_0 : D prog 45 (some 5) 8 := dO [] (pick (kd prog f19) [(0, true)]) 0
noncomputable def cx19_0i : Cx := itCx cx19 (fun kz => rdK kz cx19 ar0 5 8 [13] (ad19_0) (bd19_0))
theorem cx19_0i_ok : (cx19_0i).Ok prog := itCx_ok cx19_ok (fun h => rdK_ok mixed cx19_ok h)
@[reducible] def p19_0i_0 : Pat := Pat.mk [(0, .c (.yl 5)), (14, .c (.slx 6 (.prod (.prod .str tI) (.prod tI tI)))), (15, hI), (16, hI)] [(5, .loop .ready none 4 [(1, .c (.ptr 0 0)), (2, .c (.ptr 1 0)), (3, .c (.ptr 2 0)), (4, .c (.ptr 3 0)), (12, .fn 49 [] [.ipc (.prod (.list (.prod (.prod .str tI) (.prod tI tI))) tI)])] [13] (.reg [.op (some 5) none (.alloc [.str (ByteArray.mk (Array.mk [])), .int .i64 (Int.ofNat 0), .int .i64 (Int.ofNat 0), .int .i64 (Int.ofNat 0)]), .op none none (.store 4 (.t 5) (.t 13))]) (.block 1 (.reg [.op (some 14) none (.load false 1 (.t 4)), .op (some 15) none (.fld 3 [true, true] (.t 5)), .op (some 16) none (.load false 1 (.t 15)), .op (some 17) none (.bin .add (.t 14) (.t 16)), .op none none (.store 1 (.t 4) (.t 17))])) 45), (6, .arr (.prod (.prod .str tI) (.prod tI tI)) false), (4, .dfr), (0, .cells [.hole (.list (.prod (.prod .str tI) (.prod tI tI))), .hole tI] false), (1, .cells [.hole tI, .hole tI] false), (2, .cells [.hole tI] false), (3, .cells [.hole tI] false)] [.slot 14] []
@[reducible] def x19_0i_0 : Outs := [(.exit 0, Pat.mk [] [(0, .cells [.hole (.list (.prod (.prod .str tI) (.prod tI tI))), .hole tI] false), (1, .cells [.hole tI, .hole tI] false), (2, .cells [.hole tI] false), (3, .cells [.hole tI] false), (4, .dfr), (5, .loop .ready none 4 [(1, .c (.ptr 0 0)), (2, .c (.ptr 1 0)), (3, .c (.ptr 2 0)), (4, .c (.ptr 3 0)), (12, .fn 49 [] [.ipc (.prod (.list (.prod (.prod .str tI) (.prod tI tI))) tI)])] [13] (.reg [.op (some 5) none (.alloc [.str (ByteArray.mk (Array.mk [])), .int .i64 (Int.ofNat 0), .int .i64 (Int.ofNat 0), .int .i64 (Int.ofNat 0)]), .op none none (.store 4 (.t 5) (.t 13))]) (.block 1 (.reg [.op (some 14) none (.load false 1 (.t 4)), .op (some 15) none (.fld 3 [true, true] (.t 5)), .op (some 16) none (.load false 1 (.t 15)), .op (some 17) none (.bin .add (.t 14) (.t 16)), .op none none (.store 1 (.t 4) (.t 17))])) 45)] [] [])]
noncomputable def b19_0i_0 : D prog 25 none 6 := dO [] (pick (kd prog f49) [(0, false)]) 0
noncomputable def g19_0i_0 : Nat × Nat × Int × Int × ((List ((ByteArray × Int) × Int × Int)) × Int) × (List ((ByteArray × Int) × Int × Int)) × (List ((ByteArray × Int) × Int × Int)) × Int × Int × Int × Int × Int × Unit → Tr0 ((Nat × Nat × Int × Int × ((List ((ByteArray × Int) × Int × Int)) × Int) × (List ((ByteArray × Int) × Int × Int)) × (List ((ByteArray × Int) × Int × Int)) × Int × Int × Int × Int × Int × Unit) ⊕ (((List ((ByteArray × Int) × Int × Int)) × Int × Int × Int × Int × Int × ((List ((ByteArray × Int) × Int × Int)) × Int) × Unit))) := fun (lv14, nv14, v15, v16, w12_0, b6, c0_0, c0_1, c1_0, c1_1, c2_0, c3_0, _) =>
 .br (decide (v16 < v15)) (
 .nb v16 ((nv14 : Nat) : Int) <|
 .nd (decide ((lv14 + (Int.toNat v16)) < (b6).length)) <|
 .ni (c3_0 + ((b6).getD (lv14 + (Int.toNat v16)) (((bs []), (0 : Int)), ((0 : Int), (0 : Int)))).2.2) <|
 .ni (v16 + (1 : Int)) <|
 .ret (.inl (lv14, (nv14, (v15, ((v16 + (1 : Int)), ((w12_0.1, w12_0.2), (b6, (c0_0, (c0_1, (c1_0, (c1_1, (c2_0, ((c3_0 + ((b6).getD (lv14 + (Int.toNat v16)) (((bs []), (0 : Int)), ((0 : Int), (0 : Int)))).2.2), ())))))))))))))) (
 .ret (.inr (c0_0, (c0_1, (c1_0, (c1_1, (c2_0, (c3_0, ((w12_0.1, w12_0.2), ())))))))))
theorem s19_0i_0 : ∀ x, roundE (kzO (p19_0i_0.T ⊕ x19_0i_0.T)) cx19_0i ar0 [0, 1, 2, 3, 4, 5] p19_0i_0 x19_0i_0 (b19_0i_0) (fun y => some (.inl y)) (fun b => some (.inr b)) x = run0 (g19_0i_0 x) := fun x => by kernel_rfl
noncomputable def L19_0i_0 : LoopS prog 25 none 6 := mkLoop mixed cx19_0i cx19_0i_ok [0, 1, 2, 3, 4, 5] rfl p19_0i_0 x19_0i_0 rfl (b19_0i_0) (fun x => run0 (g19_0i_0 x)) (s19_0i_0)
@[reducible] def p19_0 : Pat := Pat.mk [(1, .c (.ptr 0 0)), (2, .c (.ptr 1 0)), (3, .c (.ptr 2 0)), (4, .c (.ptr 3 0)), (12, .fn 49 [] [.ipc (.prod (.list (.prod (.prod .str tI) (.prod tI tI))) tI)])] [(0, .cells [.hole (.list (.prod (.prod .str tI) (.prod tI tI))), .hole tI] false), (1, .cells [.hole tI, .hole tI] false), (2, .cells [.hole tI] false), (3, .cells [.hole tI] false)] [.slot 1, .slot 2, .slot 3, .slot 4] []
@[reducible] def x19_0 : Outs := [(.normal, Pat.mk [(1, .c (.ptr 0 0)), (2, .c (.ptr 1 0)), (3, .c (.ptr 2 0)), (4, .c (.ptr 3 0))] [(0, .cells [.hole (.list (.prod (.prod .str tI) (.prod tI tI))), .hole tI] false), (1, .cells [.hole tI, .hole tI] false), (2, .cells [.hole tI] false), (3, .cells [.hole tI] false), (4, .dfr)] [.slot 1, .slot 2, .slot 3, .slot 4, .mark 0] [4])]
noncomputable def b19_0i : D prog 25 none 6 := dO [.l L19_0i_0] (kd prog f49) 0
theorem ci19_0 : trF prog f49 = some ⟨25, 2, (b19_0i).er, [], []⟩ := by kernel_rfl
noncomputable def g19_0 : ((List ((ByteArray × Int) × Int × Int)) × Int) × (List ((ByteArray × Int) × Int × Int)) × Int × Int × Int × Int × Int × Unit → Tr0 (((List ((ByteArray × Int) × Int × Int)) × Int × Int × Int × Int × Int × Unit)) := fun (v12_0, c0_0, c0_1, c1_0, c1_1, c2_0, c3_0, _) =>
 .bd (FH21 v12_0.1) fun y1 =>
 .bd (FH50 y1.1 y1.2.1) fun y2 =>
 .bd (FH52 y2.1 y2.2.1 y2.2.2.1) fun y3 =>
 .bd (.it g19_0i_0 (y2.1, (y2.2.1, (((y2.2.1 : Nat) : Int), ((0 : Int), ((v12_0.1, v12_0.2), (y3.1, (c0_0, (c0_1, (c1_0, (c1_1, (c2_0, (c3_0, ()))))))))))))) fun z4 =>
 .ret ((z4.1, (z4.2.1, (z4.2.2.1, (z4.2.2.2.1, (z4.2.2.2.2.1, (z4.2.2.2.2.2.1, ())))))))
theorem s19_0 : ∀ x, rangeE (N := 45) (out := none) (base := 0) (kzO x19_0.T) cx19_0i ar0 [] p19_0 x19_0 ( .t 12) [13] (ad19_0).er (bd19_0).er [] 2 49 (b19_0i) some x = run0 (g19_0 x) := fun x => by kernel_rfl
noncomputable def R19_0 : RangeS prog 45 none 0 := mkRange mixed cx19_0i cx19_0i_ok [] rfl p19_0 x19_0 ( .t 12) [13] rfl (ad19_0).er (bd19_0).er 49 func49 (ci19_0) (enters_of func49 rfl rfl) 6 rfl (b19_0i) rfl (fun x => run0 (g19_0 x)) (s19_0)
noncomputable def ad19_1 : D prog 45 (some 6) 9 := dO [] (pick (kd prog f19) [(1, false)]) 0
noncomputable def bd19_1 : D prog 45 (some 6) 9 := dO [] (pick (kd prog f19) [(1, true)]) 0
noncomputable def cx19_1i : Cx := itCx cx19 (fun kz => rdK kz cx19 ar0 6 9 [21] (ad19_1) (bd19_1))
theorem cx19_1i_ok : (cx19_1i).Ok prog := itCx_ok cx19_ok (fun h => rdK_ok mixed cx19_ok h)
@[reducible] def p19_1i_0 : Pat := Pat.mk [(0, .c (.yl 6)), (14, .c (.slx 7 (.prod (.prod .str tI) (.prod tI tI)))), (15, hI), (16, hI)] [(6, .loop .ready none 5 [(2, .c (.ptr 0 0)), (3, .c (.ptr 1 0)), (4, .c (.ptr 2 0)), (6, .c (.ptr 3 0)), (20, .fn 49 [] [.ipc (.prod (.list (.prod (.prod .str tI) (.prod tI tI))) tI)])] [21] (.reg [.op (some 7) none (.alloc [.str (ByteArray.mk (Array.mk [])), .int .i64 (Int.ofNat 0), .int .i64 (Int.ofNat 0), .int .i64 (Int.ofNat 0)]), .op none none (.store 4 (.t 7) (.t 21))]) (.block 3 (.seq (.seq (.reg [.op (some 22) none (.load false 1 (.t 3)), .op (some 23) none (.load false 1 (.t 4)), .op (some 24) none (.build [.int .i64 (Int.ofNat 0), .int .i64 (Int.ofNat 0)] [(0, 1, .t 22), (1, 1, .t 23)]), .op (some 8) none (.alloc [.int .i64 (Int.ofNat 0), .int .i64 (Int.ofNat 0)]), .op none none (.store 2 (.t 8) (.t 24))]) (.seq (.draw [[], [], [1], [0, 1, 2], [0, 1, 2, 3]] [.op (some 25) none (.load true 2 (.t 8)), .op (some 26) none (.load true 4 (.t 7)), .call (some 27) none (.c (.fn 36 [] [])) [.t 26] [some (.prod (.prod .str tI) (.prod tI tI))], .call (some 28) none (.c (.fn 35 [] [])) [.t 25, .t 27] [some (.prod tI tI), some (.prod tI tI)], .op (some 29) none (.bin .leq (.t 28) (.c (.int .i64 (Int.ofNat 0))))]) (.cond (.t 29) (.seq (.reg [.op (some 30) none (.load true 2 (.t 8)), .call (some 31) none (.c (.fn 37 [] [])) [.t 30] [some (.prod tI tI)], .op none none (.store 2 (.t 2) (.t 31))]) .ret) .skip))) (.seq (.reg [.op (some 32) none (.load true 4 (.t 7)), .call (some 33) none (.c (.fn 36 [] [])) [.t 32] [some (.prod (.prod .str tI) (.prod tI tI))], .call (some 34) none (.c (.fn 37 [] [])) [.t 33] [some (.prod tI tI)], .op none none (.store 2 (.t 6) (.t 34))]) (.seq (.reg [.op (some 35) none (.load false 1 (.t 3)), .op (some 36) none (.fld 0 [false] (.t 7)), .op (some 37) none (.fld 1 [true] (.t 36)), .op (some 38) none (.load false 1 (.t 37)), .op (some 39) none (.bin .sub (.t 35) (.t 38)), .op none none (.store 1 (.t 3) (.t 39))]) (.reg [.op (some 40) none (.load false 1 (.t 4)), .op (some 41) none (.fld 3 [true, true] (.t 7)), .op (some 42) none (.load false 1 (.t 41)), .op (some 43) none (.bin .sub (.t 40) (.t 42)), .op none none (.store 1 (.t 4) (.t 43))]))))) 45), (7, .arr (.prod (.prod .str tI) (.prod tI tI)) false), (5, .dfr), (0, .cells [.hole tI, .hole tI] false), (1, .cells [.hole tI] false), (2, .cells [.hole tI] false), (3, .cells [.hole tI, .hole tI] false), (4, .dfr)] [.slot 14] []
@[reducible] def x19_1i_0 : Outs := [(.ret, Pat.mk [] [(0, .cells [.hole tI, .hole tI] false), (1, .cells [.hole tI] false), (2, .cells [.hole tI] false), (3, .cells [.hole tI, .hole tI] false), (4, .dfr), (5, .dfr), (6, .loop .done (some .ret) 5 [(2, .c (.ptr 0 0)), (3, .c (.ptr 1 0)), (4, .c (.ptr 2 0)), (6, .c (.ptr 3 0)), (20, .fn 49 [] [.ipc (.prod (.list (.prod (.prod .str tI) (.prod tI tI))) tI)])] [21] (.reg [.op (some 7) none (.alloc [.str (ByteArray.mk (Array.mk [])), .int .i64 (Int.ofNat 0), .int .i64 (Int.ofNat 0), .int .i64 (Int.ofNat 0)]), .op none none (.store 4 (.t 7) (.t 21))]) (.block 3 (.seq (.seq (.reg [.op (some 22) none (.load false 1 (.t 3)), .op (some 23) none (.load false 1 (.t 4)), .op (some 24) none (.build [.int .i64 (Int.ofNat 0), .int .i64 (Int.ofNat 0)] [(0, 1, .t 22), (1, 1, .t 23)]), .op (some 8) none (.alloc [.int .i64 (Int.ofNat 0), .int .i64 (Int.ofNat 0)]), .op none none (.store 2 (.t 8) (.t 24))]) (.seq (.draw [[], [], [1], [0, 1, 2], [0, 1, 2, 3]] [.op (some 25) none (.load true 2 (.t 8)), .op (some 26) none (.load true 4 (.t 7)), .call (some 27) none (.c (.fn 36 [] [])) [.t 26] [some (.prod (.prod .str tI) (.prod tI tI))], .call (some 28) none (.c (.fn 35 [] [])) [.t 25, .t 27] [some (.prod tI tI), some (.prod tI tI)], .op (some 29) none (.bin .leq (.t 28) (.c (.int .i64 (Int.ofNat 0))))]) (.cond (.t 29) (.seq (.reg [.op (some 30) none (.load true 2 (.t 8)), .call (some 31) none (.c (.fn 37 [] [])) [.t 30] [some (.prod tI tI)], .op none none (.store 2 (.t 2) (.t 31))]) .ret) .skip))) (.seq (.reg [.op (some 32) none (.load true 4 (.t 7)), .call (some 33) none (.c (.fn 36 [] [])) [.t 32] [some (.prod (.prod .str tI) (.prod tI tI))], .call (some 34) none (.c (.fn 37 [] [])) [.t 33] [some (.prod tI tI)], .op none none (.store 2 (.t 6) (.t 34))]) (.seq (.reg [.op (some 35) none (.load false 1 (.t 3)), .op (some 36) none (.fld 0 [false] (.t 7)), .op (some 37) none (.fld 1 [true] (.t 36)), .op (some 38) none (.load false 1 (.t 37)), .op (some 39) none (.bin .sub (.t 35) (.t 38)), .op none none (.store 1 (.t 3) (.t 39))]) (.reg [.op (some 40) none (.load false 1 (.t 4)), .op (some 41) none (.fld 3 [true, true] (.t 7)), .op (some 42) none (.load false 1 (.t 41)), .op (some 43) none (.bin .sub (.t 40) (.t 42)), .op none none (.store 1 (.t 4) (.t 43))]))))) 45)] [] []), (.exit 0, Pat.mk [] [(0, .cells [.hole tI, .hole tI] false), (1, .cells [.hole tI] false), (2, .cells [.hole tI] false), (3, .cells [.hole tI, .hole tI] false), (4, .dfr), (5, .dfr), (6, .loop .ready none 5 [(2, .c (.ptr 0 0)), (3, .c (.ptr 1 0)), (4, .c (.ptr 2 0)), (6, .c (.ptr 3 0)), (20, .fn 49 [] [.ipc (.prod (.list (.prod (.prod .str tI) (.prod tI tI))) tI)])] [21] (.reg [.op (some 7) none (.alloc [.str (ByteArray.mk (Array.mk [])), .int .i64 (Int.ofNat 0), .int .i64 (Int.ofNat 0), .int .i64 (Int.ofNat 0)]), .op none none (.store 4 (.t 7) (.t 21))]) (.block 3 (.seq (.seq (.reg [.op (some 22) none (.load false 1 (.t 3)), .op (some 23) none (.load false 1 (.t 4)), .op (some 24) none (.build [.int .i64 (Int.ofNat 0), .int .i64 (Int.ofNat 0)] [(0, 1, .t 22), (1, 1, .t 23)]), .op (some 8) none (.alloc [.int .i64 (Int.ofNat 0), .int .i64 (Int.ofNat 0)]), .op none none (.store 2 (.t 8) (.t 24))]) (.seq (.draw [[], [], [1], [0, 1, 2], [0, 1, 2, 3]] [.op (some 25) none (.load true 2 (.t 8)), .op (some 26) none (.load true 4 (.t 7)), .call (some 27) none (.c (.fn 36 [] [])) [.t 26] [some (.prod (.prod .str tI) (.prod tI tI))], .call (some 28) none (.c (.fn 35 [] [])) [.t 25, .t 27] [some (.prod tI tI), some (.prod tI tI)], .op (some 29) none (.bin .leq (.t 28) (.c (.int .i64 (Int.ofNat 0))))]) (.cond (.t 29) (.seq (.reg [.op (some 30) none (.load true 2 (.t 8)), .call (some 31) none (.c (.fn 37 [] [])) [.t 30] [some (.prod tI tI)], .op none none (.store 2 (.t 2) (.t 31))]) .ret) .skip))) (.seq (.reg [.op (some 32) none (.load true 4 (.t 7)), .call (some 33) none (.c (.fn 36 [] [])) [.t 32] [some (.prod (.prod .str tI) (.prod tI tI))], .call (some 34) none (.c (.fn 37 [] [])) [.t 33] [some (.prod tI tI)], .op none none (.store 2 (.t 6) (.t 34))]) (.seq (.reg [.op (some 35) none (.load false 1 (.t 3)), .op (some 36) none (.fld 0 [false] (.t 7)), .op (some 37) none (.fld 1 [true] (.t 36)), .op (some 38) none (.load false 1 (.t 37)), .op (some 39) none (.bin .sub (.t 35) (.t 38)), .op none none (.store 1 (.t 3) (.t 39))]) (.reg [.op (some 40) none (.load false 1 (.t 4)), .op (some 41) none (.fld 3 [true, true] (.t 7)), .op (some 42) none (.load false 1 (.t 41)), .op (some 43) none (.bin .sub (.t 40) (.t 42)), .op none none (.store 1 (.t 4) (.t 43))]))))) 45)] [] [])]
noncomputable def b19_1i_0 : D prog 25 none 7 := dO [] (pick (kd prog f49) [(0, false)]) 0
noncomputable def g19_1i_0 : Nat × Nat × Int × Int × ((List ((ByteArray × Int) × Int × Int)) × Int) × (List ((ByteArray × Int) × Int × Int)) × Int × Int × Int × Int × Int × Int × Unit → Tr0 ((Nat × Nat × Int × Int × ((List ((ByteArray × Int) × Int × Int)) × Int) × (List ((ByteArray × Int) × Int × Int)) × Int × Int × Int × Int × Int × Int × Unit) ⊕ ((Int × Int × Int × Int × Int × Int × ((List ((ByteArray × Int) × Int × Int)) × Int) × Unit) ⊕ ((Int × Int × Int × Int × Int × Int × ((List ((ByteArray × Int) × Int × Int)) × Int) × Unit)))) := fun (lv14, nv14, v15, v16, w20_0, b7, c0_0, c0_1, c1_0, c2_0, c3_0, c3_1, _) =>
 .br (decide (v16 < v15)) (
 .nb v16 ((nv14 : Nat) : Int) <|
 .nd (decide ((lv14 + (Int.toNat v16)) < (b7).length)) <|
 .bd (F36 (((b7).getD (lv14 + (Int.toNat v16)) (((bs []), (0 : Int)), ((0 : Int), (0 : Int)))).1.1, (((b7).getD (lv14 + (Int.toNat v16)) (((bs []), (0 : Int)), ((0 : Int), (0 : Int)))).1.2, (((b7).getD (lv14 + (Int.toNat v16)) (((bs []), (0 : Int)), ((0 : Int), (0 : Int)))).2.1, ((b7).getD (lv14 + (Int.toNat v16)) (((bs []), (0 : Int)), ((0 : Int), (0 : Int)))).2.2)))) fun y10 =>
 .bd (F35 (c1_0, c2_0) (y10.1.1, y10.1.2)) fun y11 =>
 .br (decide (y11.1 ≤ (0 : Int))) (
 .bd (F37 (c1_0, c2_0)) fun y12 =>
 .ret (.inr <| .inl <| (y12.1.1, (y12.1.2, (c1_0, (c2_0, (c3_0, (c3_1, ((w20_0.1, w20_0.2), ()))))))))) (
 .bd (F36 (((b7).getD (lv14 + (Int.toNat v16)) (((bs []), (0 : Int)), ((0 : Int), (0 : Int)))).1.1, (((b7).getD (lv14 + (Int.toNat v16)) (((bs []), (0 : Int)), ((0 : Int), (0 : Int)))).1.2, (((b7).getD (lv14 + (Int.toNat v16)) (((bs []), (0 : Int)), ((0 : Int), (0 : Int)))).2.1, ((b7).getD (lv14 + (Int.toNat v16)) (((bs []), (0 : Int)), ((0 : Int), (0 : Int)))).2.2)))) fun y13 =>
 .bd (F37 (y13.1.1, y13.1.2)) fun y14 =>
 .ni (c1_0 - ((b7).getD (lv14 + (Int.toNat v16)) (((bs []), (0 : Int)), ((0 : Int), (0 : Int)))).1.2) <|
 .ni (c2_0 - ((b7).getD (lv14 + (Int.toNat v16)) (((bs []), (0 : Int)), ((0 : Int), (0 : Int)))).2.2) <|
 .ni (v16 + (1 : Int)) <|
 .ret (.inl (lv14, (nv14, (v15, ((v16 + (1 : Int)), ((w20_0.1, w20_0.2), (b7, (c0_0, (c0_1, ((c1_0 - ((b7).getD (lv14 + (Int.toNat v16)) (((bs []), (0 : Int)), ((0 : Int), (0 : Int)))).1.2), ((c2_0 - ((b7).getD (lv14 + (Int.toNat v16)) (((bs []), (0 : Int)), ((0 : Int), (0 : Int)))).2.2), (y14.1.1, (y14.1.2, ()))))))))))))))) (
 .ret (.inr <| .inr <| (c0_0, (c0_1, (c1_0, (c2_0, (c3_0, (c3_1, ((w20_0.1, w20_0.2), ())))))))))
theorem s19_1i_0 : ∀ x, roundE (kzO (p19_1i_0.T ⊕ x19_1i_0.T)) cx19_1i ar0 [0, 1, 2, 3, 4, 5, 6] p19_1i_0 x19_1i_0 (b19_1i_0) (fun y => some (.inl y)) (fun b => some (.inr b)) x = run0 (g19_1i_0 x) := fun x => by kernel_rfl
noncomputable def L19_1i_0 : LoopS prog 25 none 7 := mkLoop mixed cx19_1i cx19_1i_ok [0, 1, 2, 3, 4, 5, 6] rfl p19_1i_0 x19_1i_0 rfl (b19_1i_0) (fun x => run0 (g19_1i_0 x)) (s19_1i_0)
@[reducible] def p19_1 : Pat := Pat.mk [(2, .c (.ptr 0 0)), (3, .c (.ptr 1 0)), (4, .c (.ptr 2 0)), (6, .c (.ptr 3 0)), (20, .fn 49 [] [.ipc (.prod (.list (.prod (.prod .str tI) (.prod tI tI))) tI)])] [(0, .cells [.hole tI, .hole tI] false), (1, .cells [.hole tI] false), (2, .cells [.hole tI] false), (3, .cells [.hole tI, .hole tI] false), (4, .dfr)] [.slot 2, .slot 3, .slot 4, .slot 6, .mark 0] [4]
@[reducible] def x19_1 : Outs := [(.ret, Pat.mk [(2, .c (.ptr 0 0))] [(0, .cells [.hole tI, .hole tI] false), (1, .dfr), (2, .dfr)] [.slot 2, .mark 0, .mark 1] [1, 2]), (.normal, Pat.mk [(2, .c (.ptr 0 0)), (6, .c (.ptr 1 0))] [(0, .cells [.hole tI, .hole tI] false), (1, .cells [.hole tI, .hole tI] false), (2, .dfr), (3, .dfr)] [.slot 2, .slot 6, .mark 0, .mark 1] [2, 3])]
noncomputable def b19_1i : D prog 25 none 7 := dO [.l L19_1i_0] (kd prog f49) 0
theorem ci19_1 : trF prog f49 = some ⟨25, 2, (b19_1i).er, [], []⟩ := by kernel_rfl
noncomputable def g19_1 : ((List ((ByteArray × Int) × Int × Int)) × Int) × Int × Int × Int × Int × Int × Int × Unit → Tr0 ((Int × Int × Unit) ⊕ ((Int × Int × Int × Int × Unit))) := fun (v20_0, c0_0, c0_1, c1_0, c2_0, c3_0, c3_1, _) =>
 .bd (FH21 v20_0.1) fun y7 =>
 .bd (FH50 y7.1 y7.2.1) fun y8 =>
 .bd (FH52 y8.1 y8.2.1 y8.2.2.1) fun y9 =>
 .bd (.it g19_1i_0 (y8.1, (y8.2.1, (((y8.2.1 : Nat) : Int), ((0 : Int), ((v20_0.1, v20_0.2), (y9.1, (c0_0, (c0_1, (c1_0, (c2_0, (c3_0, (c3_1, ()))))))))))))) fun z15 =>
 .sm z15 (fun z16 =>
 .ret (.inl <| (z16.1, (z16.2.1, ())))) fun z17 =>
 .ret (.inr <| (z17.1, (z17.2.1, (z17.2.2.2.2.1, (z17.2.2.2.2.2.1, ())))))
theorem s19_1 : ∀ x, rangeE (N := 45) (out := none) (base := 0) (kzO x19_1.T) cx19_1i ar0 [] p19_1 x19_1 ( .t 20) [21] (ad19_1).er (bd19_1).er [] 2 49 (b19_1i) some x = run0 (g19_1 x) := fun x => by kernel_rfl
noncomputable def R19_1 : RangeS prog 45 none 0 := mkRange mixed cx19_1i cx19_1i_ok [] rfl p19_1 x19_1 ( .t 20) [21] rfl (ad19_1).er (bd19_1).er 49 func49 (ci19_1) (enters_of func49 rfl rfl) 7 rfl (b19_1i) rfl (fun x => run0 (g19_1 x)) (s19_1)
noncomputable def dd19 : D prog 45 none 0 := dO [.r R19_0, .r R19_1] (kd prog f19) 0
noncomputable def F19 (a0 : (List ((ByteArray × Int) × Int × Int)) × Int) : Tr0 ((Int × Int) × Unit) :=
 .bd (F34 (a0.1, a0.2)) fun y0 =>
 .bd (g19_0 ((y0.1.1, y0.1.2), (a0.1, (a0.2, ((0 : Int), ((0 : Int), (a0.2, ((0 : Int), ())))))))) fun z5 =>
 .bd (F34 (z5.1, z5.2.1)) fun y6 =>
 .bd (g19_1 ((y6.1.1, y6.1.2), (z5.2.2.1, (z5.2.2.2.1, (z5.2.2.2.2.1, (z5.2.2.2.2.2.1, ((0 : Int), ((1 : Int), ())))))))) fun z18 =>
 .sm z18 (fun z19 =>
 .ret ((z19.1, z19.2.1), ())) fun z20 =>
 .ret ((z20.2.2.1, z20.2.2.2.1), ())
theorem c19_ok : trF prog f19 = some ⟨45, 1, dd19.er, [.cell 2 true 2], [some (.prod tI tI)]⟩ := by kernel_rfl
noncomputable def ct19 : Ct := ⟨19, [.c (.hole (.prod (.list (.prod (.prod .str tI) (.prod tI tI))) tI))], .c (.hole (.prod tI tI)), fun x => run0 (F19 x.1)⟩
theorem ct19_ok : ct19.Ok prog := ct_ok mixed cx19_ok func19 c19_ok (enters_of func19 rfl rfl) dd19 (by kernel_rfl) rfl (fun x => by kernel_rfl)

/- 20 -/
noncomputable def cx20 : Cx := (mkCxH [] [])
theorem cx20_ok : cx20.Ok prog := mkCxH_ok trivial trivial
noncomputable def dd20 : D prog 31 none 0 := dO [] (kd prog f20) 0
noncomputable def F20 (a0 : ByteArray × Int × Int × Int) (a1 : Int × Int) : Tr0 (Int × Int × Unit) :=
 .ni (a1.1 * a0.2.2.2) <|
 .ni (a0.2.1 * a1.2) <|
 .br (decide ((a0.2.1 * a1.2) ≤ (a1.1 * a0.2.2.2))) (
 .ret (a0.2.1, ((0 : Int), ()))) (
 .nd (!(a1.2 == (0 : Int))) <|
 .ni (Int.tdiv (a1.1 * a0.2.2.2) a1.2) <|
 .nd (!(a1.2 == (0 : Int))) <|
 .ret ((Int.tdiv (a1.1 * a0.2.2.2) a1.2), ((Int.tmod (a1.1 * a0.2.2.2) a1.2), ())))
theorem c20_ok : trF prog f20 = some ⟨31, 2, dd20.er, [.t 4, .t 5], [some tI, some tI]⟩ := by kernel_rfl
noncomputable def ct20 : Ct := ⟨20, [.c (.hole (.prod .str (.prod tI (.prod tI tI)))), .c (.hole (.prod tI tI))], .tup [.hole tI, .hole tI], fun x => run0 (F20 x.1 x.2.1)⟩
theorem ct20_ok : ct20.Ok prog := ct_ok mixed cx20_ok func20 c20_ok (enters_of func20 rfl rfl) dd20 (by kernel_rfl) rfl (fun x => by kernel_rfl)

/- 63 -/
noncomputable def cx63 : Cx := (mkCxH [] [])
theorem cx63_ok : cx63.Ok prog := mkCxH_ok trivial trivial
noncomputable def dd63 : D prog 25 none 0 := dO [] (kd prog f63) 0
noncomputable def F63 (a0 : Int) : Tr0 (Int × Unit) :=
 .jx (
 .br (decide ((4294967296 : Int) ≤ a0)) (
 .nb (32 : Int) (64 : Int) <|
 .ret (.inl ((ar0.shr a0 (32 : Int)), ((32 : Int), ())))) (
 .ret (.inl (a0, ((0 : Int), ()))))) fun j0 =>
 .jx (
 .br (decide ((65536 : Int) ≤ j0.1)) (
 .nb (16 : Int) (64 : Int) <|
 .ni (j0.2.1 + (16 : Int)) <|
 .ret (.inl ((ar0.shr j0.1 (16 : Int)), ((j0.2.1 + (16 : Int)), ())))) (
 .ret (.inl (j0.1, (j0.2.1, ()))))) fun j1 =>
 .jx (
 .br (decide ((256 : Int) ≤ j1.1)) (
 .nb (8 : Int) (64 : Int) <|
 .ni (j1.2.1 + (8 : Int)) <|
 .ret (.inl ((ar0.shr j1.1 (8 : Int)), ((j1.2.1 + (8 : Int)), ())))) (
 .ret (.inl (j1.1, (j1.2.1, ()))))) fun j2 =>
 .nd (rng .u8 j2.1) <|
 .nb j2.1 (((bs [0, 1, 2, 2, 3, 3, 3, 3, 4, 4, 4, 4, 4, 4, 4, 4, 5, 5, 5, 5, 5, 5, 5, 5, 5, 5, 5, 5, 5, 5, 5, 5, 6, 6, 6, 6, 6, 6, 6, 6, 6, 6, 6, 6, 6, 6, 6, 6, 6, 6, 6, 6, 6, 6, 6, 6, 6, 6, 6, 6, 6, 6, 6, 6, 7, 7, 7, 7, 7, 7, 7, 7, 7, 7, 7, 7, 7, 7, 7, 7, 7, 7, 7, 7, 7, 7, 7, 7, 7, 7, 7, 7, 7, 7, 7, 7, 7, 7, 7, 7, 7, 7, 7, 7, 7, 7, 7, 7, 7, 7, 7, 7, 7, 7, 7, 7, 7, 7, 7, 7, 7, 7, 7, 7, 7, 7, 7, 7, 8, 8, 8, 8, 8, 8, 8, 8, 8, 8, 8, 8, 8, 8, 8, 8, 8, 8, 8, 8, 8, 8, 8, 8, 8, 8, 8, 8, 8, 8, 8, 8, 8, 8, 8, 8, 8, 8, 8, 8, 8, 8, 8, 8, 8, 8, 8, 8, 8, 8, 8, 8, 8, 8, 8, 8, 8, 8, 8, 8, 8, 8, 8, 8, 8, 8, 8, 8, 8, 8, 8, 8, 8, 8, 8, 8, 8, 8, 8, 8, 8, 8, 8, 8, 8, 8, 8, 8, 8, 8, 8, 8, 8, 8, 8, 8, 8, 8, 8, 8, 8, 8, 8, 8, 8, 8, 8, 8, 8, 8, 8, 8, 8, 8, 8, 8, 8, 8, 8, 8, 8, 8, 8, 8, 8, 8, 8, 8]).size : Nat) : Int) <|
 .ni (satL (bs [0, 1, 2, 2, 3, 3, 3, 3, 4, 4, 4, 4, 4, 4, 4, 4, 5, 5, 5, 5, 5, 5, 5, 5, 5, 5, 5, 5, 5, 5, 5, 5, 6, 6, 6, 6, 6, 6, 6, 6, 6, 6, 6, 6, 6, 6, 6, 6, 6, 6, 6, 6, 6, 6, 6, 6, 6, 6, 6, 6, 6, 6, 6, 6, 7, 7, 7, 7, 7, 7, 7, 7, 7, 7, 7, 7, 7, 7, 7, 7, 7, 7, 7, 7, 7, 7, 7, 7, 7, 7, 7, 7, 7, 7, 7, 7, 7, 7, 7, 7, 7, 7, 7, 7, 7, 7, 7, 7, 7, 7, 7, 7, 7, 7, 7, 7, 7, 7, 7, 7, 7, 7, 7, 7, 7, 7, 7, 7, 8, 8, 8, 8, 8, 8, 8, 8, 8, 8, 8, 8, 8, 8, 8, 8, 8, 8, 8, 8, 8, 8, 8, 8, 8, 8, 8, 8, 8, 8, 8, 8, 8, 8, 8, 8, 8, 8, 8, 8, 8, 8, 8, 8, 8, 8, 8, 8, 8, 8, 8, 8, 8, 8, 8, 8, 8, 8, 8, 8, 8, 8, 8, 8, 8, 8, 8, 8, 8, 8, 8, 8, 8, 8, 8, 8, 8, 8, 8, 8, 8, 8, 8, 8, 8, 8, 8, 8, 8, 8, 8, 8, 8, 8, 8, 8, 8, 8, 8, 8, 8, 8, 8, 8, 8, 8, 8, 8, 8, 8, 8, 8, 8, 8, 8, 8, 8, 8, 8, 8, 8, 8, 8, 8, 8, 8, 8, 8]) (Int.toNat j2.1)) <|
 .ni (j2.2.1 + (satL (bs [0, 1, 2, 2, 3, 3, 3, 3, 4, 4, 4, 4, 4, 4, 4, 4, 5, 5, 5, 5, 5, 5, 5, 5, 5, 5, 5, 5, 5, 5, 5, 5, 6, 6, 6, 6, 6, 6, 6, 6, 6, 6, 6, 6, 6, 6, 6, 6, 6, 6, 6, 6, 6, 6, 6, 6, 6, 6, 6, 6, 6, 6, 6, 6, 7, 7, 7, 7, 7, 7, 7, 7, 7, 7, 7, 7, 7, 7, 7, 7, 7, 7, 7, 7, 7, 7, 7, 7, 7, 7, 7, 7, 7, 7, 7, 7, 7, 7, 7, 7, 7, 7, 7, 7, 7, 7, 7, 7, 7, 7, 7, 7, 7, 7, 7, 7, 7, 7, 7, 7, 7, 7, 7, 7, 7, 7, 7, 7, 8, 8, 8, 8, 8, 8, 8, 8, 8, 8, 8, 8, 8, 8, 8, 8, 8, 8, 8, 8, 8, 8, 8, 8, 8, 8, 8, 8, 8, 8, 8, 8, 8, 8, 8, 8, 8, 8, 8, 8, 8, 8, 8, 8, 8, 8, 8, 8, 8, 8, 8, 8, 8, 8, 8, 8, 8, 8, 8, 8, 8, 8, 8, 8, 8, 8, 8, 8, 8, 8, 8, 8, 8, 8, 8, 8, 8, 8, 8, 8, 8, 8, 8, 8, 8, 8, 8, 8, 8, 8, 8, 8, 8, 8, 8, 8, 8, 8, 8, 8, 8, 8, 8, 8, 8, 8, 8, 8, 8, 8, 8, 8, 8, 8, 8, 8, 8, 8, 8, 8, 8, 8, 8, 8, 8, 8, 8, 8]) (Int.toNat j2.1))) <|
 .ret ((j2.2.1 + (satL (bs [0, 1, 2, 2, 3, 3, 3, 3, 4, 4, 4, 4, 4, 4, 4, 4, 5, 5, 5, 5, 5, 5, 5, 5, 5, 5, 5, 5, 5, 5, 5, 5, 6, 6, 6, 6, 6, 6, 6, 6, 6, 6, 6, 6, 6, 6, 6, 6, 6, 6, 6, 6, 6, 6, 6, 6, 6, 6, 6, 6, 6, 6, 6, 6, 7, 7, 7, 7, 7, 7, 7, 7, 7, 7, 7, 7, 7, 7, 7, 7, 7, 7, 7, 7, 7, 7, 7, 7, 7, 7, 7, 7, 7, 7, 7, 7, 7, 7, 7, 7, 7, 7, 7, 7, 7, 7, 7, 7, 7, 7, 7, 7, 7, 7, 7, 7, 7, 7, 7, 7, 7, 7, 7, 7, 7, 7, 7, 7, 8, 8, 8, 8, 8, 8, 8, 8, 8, 8, 8, 8, 8, 8, 8, 8, 8, 8, 8, 8, 8, 8, 8, 8, 8, 8, 8, 8, 8, 8, 8, 8, 8, 8, 8, 8, 8, 8, 8, 8, 8, 8, 8, 8, 8, 8, 8, 8, 8, 8, 8, 8, 8, 8, 8, 8, 8, 8, 8, 8, 8, 8, 8, 8, 8, 8, 8, 8, 8, 8, 8, 8, 8, 8, 8, 8, 8, 8, 8, 8, 8, 8, 8, 8, 8, 8, 8, 8, 8, 8, 8, 8, 8, 8, 8, 8, 8, 8, 8, 8, 8, 8, 8, 8, 8, 8, 8, 8, 8, 8, 8, 8, 8, 8, 8, 8, 8, 8, 8, 8, 8, 8, 8, 8, 8, 8, 8, 8]) (Int.toNat j2.1))), ())
theorem c63_ok : trF prog f63 = some ⟨25, 1, dd63.er, [.t 2], [some tI]⟩ := by kernel_rfl
noncomputable def ct63 : Ct := ⟨63, [.c (.hole (.int .u64))], hI, fun x => run0 (F63 x.1)⟩
theorem ct63_ok : ct63.Ok prog := ct_ok mixed cx63_ok func63 c63_ok (enters_of func63 rfl rfl) dd63 (by kernel_rfl) rfl (fun x => Eq.trans (b := run0 (flat (F63 x.1))) (by kernel_rfl) run_flat)

/- 39 -/
noncomputable def cx39 : Cx := (mkCxH [ct63] [])
theorem cx39_ok : cx39.Ok prog := mkCxH_ok ⟨ct63_ok, trivial⟩ trivial
noncomputable def dd39 : D prog 8 none 0 := dO [] (kd prog f39) 0
noncomputable def F39 (a0 : Int) : Tr0 (Int × Unit) :=
 .bd (F63 a0) fun y0 =>
 .ret (y0.1, ())
theorem c39_ok : trF prog f39 = some ⟨8, 1, dd39.er, [.t 2], [some tI]⟩ := by kernel_rfl
noncomputable def ct39 : Ct := ⟨39, [.c (.hole (.int .u64))], hI, fun x => run0 (F39 x.1)⟩
theorem ct39_ok : ct39.Ok prog := ct_ok mixed cx39_ok func39 c39_ok (enters_of func39 rfl rfl) dd39 (by kernel_rfl) rfl (fun x => by kernel_rfl)

/- 41 -/
noncomputable def cx41 : Cx := (mkCxH [] [])
theorem cx41_ok : cx41.Ok prog := mkCxH_ok trivial trivial
noncomputable def dd41 : D prog 6 none 0 := dO [] (kd prog f41) 0
noncomputable def F41 (a0 : ByteArray) : Tr0 (Bool × Unit) :=
 .ret ((!(seq a0 a0)), ())
theorem c41_ok : trF prog f41 = some ⟨6, 1, dd41.er, [.t 2], [some .bool]⟩ := by kernel_rfl
noncomputable def ct41 : Ct := ⟨41, [.c (.hole .str)], .c (.hole .bool), fun x => run0 (F41 x.1)⟩
theorem ct41_ok : ct41.Ok prog := ct_ok mixed cx41_ok func41 c41_ok (enters_of func41 rfl rfl) dd41 (by kernel_rfl) rfl (fun x => by kernel_rfl)

/- 26 -/
noncomputable def cx26 : Cx := (mkCxH [ct41] [])
theorem cx26_ok : cx26.Ok prog := mkCxH_ok ⟨ct41_ok, trivial⟩ trivial
noncomputable def dd26 : D prog 20 none 0 := dO [] (kd prog f26) 0
noncomputable def F26 (a0 : ByteArray) (a1 : ByteArray) : Tr0 (Int × Unit) :=
 .bd (F41 a0) fun y0 =>
 .bd (F41 a1) fun y1 =>
 .br y0.1 (
 .br y1.1 (
 .ret ((0 : Int), ())) (
 .ret ((-1 : Int), ()))) (
 .br y1.1 (
 .ret ((1 : Int), ())) (
 .br (slt a0 a1) (
 .ret ((-1 : Int), ())) (
 .br (!(bite (slt a0 a1) true (seq a0 a1))) (
 .ret ((1 : Int), ())) (
 .ret ((0 : Int), ())))))
theorem c26_ok : trF prog f26 = some ⟨20, 2, dd26.er, [.t 4], [some tI]⟩ := by kernel_rfl
noncomputable def ct26 : Ct := ⟨26, [.c (.hole .str), .c (.hole .str)], hI, fun x => run0 (F26 x.1 x.2.1)⟩
theorem ct26_ok : ct26.Ok prog := ct_ok mixed cx26_ok func26 c26_ok (enters_of func26 rfl rfl) dd26 (by kernel_rfl) rfl (fun x => by kernel_rfl)

/- 23 -/
noncomputable def cx23 : Cx := (mkCxH [ct25, ct26, ct24] [])
theorem cx23_ok : cx23.Ok prog := mkCxH_ok ⟨ct25_ok, ct26_ok, ct24_ok, trivial⟩ trivial
noncomputable def dd23 : D prog 26 none 0 := dO [] (kd prog f23) 0
noncomputable def F23 (a0 : ByteArray × Int × Int × Int) (a1 : ByteArray × Int × Int × Int) (a2 : List Int) : Tr0 (Int × Unit) :=
 .nb a1.2.2.1 (((a2).length : Nat) : Int) <|
 .nb a0.2.2.1 (((a2).length : Nat) : Int) <|
 .bd (F25 ((a2).getD (Int.toNat a1.2.2.1) (0 : Int)) ((a2).getD (Int.toNat a0.2.2.1) (0 : Int))) fun y0 =>
 .bd (F26 a0.1 a1.1) fun y1 =>
 .bd (F24 ((((y0.1 :: (y1.1 :: []))).drop (0 : Nat)).take (2 : Nat))) fun y2 =>
 .ret (y2.1, ())
theorem c23_ok : trF prog f23 = some ⟨26, 3, dd23.er, [.t 5], [some tI]⟩ := by kernel_rfl
noncomputable def ct23 : Ct := ⟨23, [.c (.hole (.prod .str (.prod tI (.prod tI tI)))), .c (.hole (.prod .str (.prod tI (.prod tI tI)))), .c (.ipc tL)], hI, fun x => run0 (F23 x.1 x.2.1 x.2.2.1)⟩
theorem ct23_ok : ct23.Ok prog := ct_ok mixed cx23_ok func23 c23_ok (enters_of func23 rfl rfl) dd23 (by kernel_rfl) rfl (fun x => by kernel_rfl)

/- 54, lent -/
@[reducible] def pH54_v1 : Pat := Pat.mk [(0, .c (.sl0 0 (.prod (.prod .str tI) (.prod tI tI)))), (1, hI), (2, hI), (3, .fn 23 [] [.ptr 1 0])] [(0, .arr (.prod (.prod .str tI) (.prod tI tI)) false), (1, .cells [.sl0 2 tI] false), (2, .arr tI false)] [.slot 0, .part 3 0, .cell 1 0] []
@[reducible] def qH54_v1 : Pat := Pat.mk [(0, .c .any)] [(1, .cells [.sl0 3 tI] false), (0, .arr (.prod (.prod .str tI) (.prod tI tI)) false), (3, .arr tI false)] [.cell 1 0] []
noncomputable def cxH54_v1 : Cx := (mkCxH [ct23] [])
theorem cxH54_v1_ok : cxH54_v1.Ok prog := mkCxH_ok ⟨ct23_ok, trivial⟩ trivial
@[reducible] def pH54_v1_1 : Pat := Pat.mk [(0, .c (.sl0 0 (.prod (.prod .str tI) (.prod tI tI)))), (1, hI), (2, hI), (3, .fn 23 [] [.ptr 1 0]), (8, hI), (9, hI)] [(0, .arr (.prod (.prod .str tI) (.prod tI tI)) false), (1, .cells [.sl0 3 tI] false), (3, .arr tI false)] [.cell 1 0] []
@[reducible] def xH54_v1_1 : Outs := [(.exit 2, Pat.mk [(0, .c (.sl0 0 (.prod (.prod .str tI) (.prod tI tI)))), (1, hI), (2, hI), (3, .fn 23 [] [.ptr 1 0]), (8, hI)] [(0, .arr (.prod (.prod .str tI) (.prod tI tI)) false), (1, .cells [.sl0 3 tI] false), (3, .arr tI false)] [.cell 1 0] [])]
noncomputable def bH54_v1_1 : D prog 53 none 3 := dO [] (pick (kd prog f54) [(0, false), (0, false)]) 0
noncomputable def gH54_v1_1 : Nat × Int × Int × Int × Int × (List ((ByteArray × Int) × Int × Int)) × Nat × List Int × Unit → Tr0 ((Nat × Int × Int × Int × Int × (List ((ByteArray × Int) × Int × Int)) × Nat × List Int × Unit) ⊕ ((Nat × Int × Int × Int × (List ((ByteArray × Int) × Int × Int)) × Nat × List Int × Unit))) := fun (nv0, v1, v2, v8, v9, b0, nc1_0, b3, _) =>
 .br (decide (v1 < v9)) (
 .nb v9 ((nv0 : Nat) : Int) <|
 .nd (decide (((0 : Nat) + (Int.toNat v9)) < (b0).length)) <|
 .ni (v9 - (1 : Int)) <|
 .nb (v9 - (1 : Int)) ((nv0 : Nat) : Int) <|
 .nd (decide (((0 : Nat) + (Int.toNat (v9 - (1 : Int)))) < (b0).length)) <|
 .bd (F23 (((b0).getD ((0 : Nat) + (Int.toNat v9)) (((bs []), (0 : Int)), ((0 : Int), (0 : Int)))).1.1, (((b0).getD ((0 : Nat) + (Int.toNat v9)) (((bs []), (0 : Int)), ((0 : Int), (0 : Int)))).1.2, (((b0).getD ((0 : Nat) + (Int.toNat v9)) (((bs []), (0 : Int)), ((0 : Int), (0 : Int)))).2.1, ((b0).getD ((0 : Nat) + (Int.toNat v9)) (((bs []), (0 : Int)), ((0 : Int), (0 : Int)))).2.2))) (((b0).getD ((0 : Nat) + (Int.toNat (v9 - (1 : Int)))) (((bs []), (0 : Int)), ((0 : Int), (0 : Int)))).1.1, (((b0).getD ((0 : Nat) + (Int.toNat (v9 - (1 : Int)))) (((bs []), (0 : Int)), ((0 : Int), (0 : Int)))).1.2, (((b0).getD ((0 : Nat) + (Int.toNat (v9 - (1 : Int)))) (((bs []), (0 : Int)), ((0 : Int), (0 : Int)))).2.1, ((b0).getD ((0 : Nat) + (Int.toNat (v9 - (1 : Int)))) (((bs []), (0 : Int)), ((0 : Int), (0 : Int)))).2.2))) (((b3).drop (0 : Nat)).take nc1_0)) fun y0 =>
 .br (decide (y0.1 < (0 : Int))) (
 .ni (v9 - (1 : Int)) <|
 .ni (v9 - (1 : Int)) <|
 .nb (v9 - (1 : Int)) ((nv0 : Nat) : Int) <|
 .nd (decide (((0 : Nat) + (Int.toNat (v9 - (1 : Int)))) < (b0).length)) <|
 .nb v9 ((nv0 : Nat) : Int) <|
 .nd (decide (((0 : Nat) + (Int.toNat v9)) < (b0).length)) <|
 .nb v9 ((nv0 : Nat) : Int) <|
 .nd (decide (((0 : Nat) + (Int.toNat v9)) < (b0).length)) <|
 .nb (v9 - (1 : Int)) ((nv0 : Nat) : Int) <|
 .nd (decide (((0 : Nat) + (Int.toNat (v9 - (1 : Int)))) < (((b0).set ((0 : Nat) + (Int.toNat v9)) ((((b0).getD ((0 : Nat) + (Int.toNat (v9 - (1 : Int)))) (((bs []), (0 : Int)), ((0 : Int), (0 : Int)))).1.1, ((b0).getD ((0 : Nat) + (Int.toNat (v9 - (1 : Int)))) (((bs []), (0 : Int)), ((0 : Int), (0 : Int)))).1.2), (((b0).getD ((0 : Nat) + (Int.toNat (v9 - (1 : Int)))) (((bs []), (0 : Int)), ((0 : Int), (0 : Int)))).2.1, ((b0).getD ((0 : Nat) + (Int.toNat (v9 - (1 : Int)))) (((bs []), (0 : Int)), ((0 : Int), (0 : Int)))).2.2)))).length)) <|
 .ni (v9 - (1 : Int)) <|
 .ret (.inl (nv0, (v1, (v2, (v8, ((v9 - (1 : Int)), (((((b0).set ((0 : Nat) + (Int.toNat v9)) ((((b0).getD ((0 : Nat) + (Int.toNat (v9 - (1 : Int)))) (((bs []), (0 : Int)), ((0 : Int), (0 : Int)))).1.1, ((b0).getD ((0 : Nat) + (Int.toNat (v9 - (1 : Int)))) (((bs []), (0 : Int)), ((0 : Int), (0 : Int)))).1.2), (((b0).getD ((0 : Nat) + (Int.toNat (v9 - (1 : Int)))) (((bs []), (0 : Int)), ((0 : Int), (0 : Int)))).2.1, ((b0).getD ((0 : Nat) + (Int.toNat (v9 - (1 : Int)))) (((bs []), (0 : Int)), ((0 : Int), (0 : Int)))).2.2)))).set ((0 : Nat) + (Int.toNat (v9 - (1 : Int)))) ((((b0).getD ((0 : Nat) + (Int.toNat v9)) (((bs []), (0 : Int)), ((0 : Int), (0 : Int)))).1.1, ((b0).getD ((0 : Nat) + (Int.toNat v9)) (((bs []), (0 : Int)), ((0 : Int), (0 : Int)))).1.2), (((b0).getD ((0 : Nat) + (Int.toNat v9)) (((bs []), (0 : Int)), ((0 : Int), (0 : Int)))).2.1, ((b0).getD ((0 : Nat) + (Int.toNat v9)) (((bs []), (0 : Int)), ((0 : Int), (0 : Int)))).2.2))), (nc1_0, (b3, ())))))))))) (
 .ret (.inr (nv0, (v1, (v2, (v8, (b0, (nc1_0, (b3, ())))))))))) (
 .ret (.inr (nv0, (v1, (v2, (v8, (b0, (nc1_0, (b3, ())))))))))
theorem sH54_v1_1 : ∀ x, roundE (kzO (pH54_v1_1.T ⊕ xH54_v1_1.T)) cxH54_v1 ar0 [0, 1, 2] pH54_v1_1 xH54_v1_1 (bH54_v1_1) (fun y => some (.inl y)) (fun b => some (.inr b)) x = run0 (gH54_v1_1 x) := fun x => by kernel_rfl
noncomputable def LH54_v1_1 : LoopS prog 53 none 3 := mkLoop mixed cxH54_v1 cxH54_v1_ok [0, 1, 2] rfl pH54_v1_1 xH54_v1_1 rfl (bH54_v1_1) (fun x => run0 (gH54_v1_1 x)) (sH54_v1_1)
@[reducible] def pH54_v1_0 : Pat := Pat.mk [(0, .c (.sl0 0 (.prod (.prod .str tI) (.prod tI tI)))), (1, hI), (2, hI), (3, .fn 23 [] [.ptr 1 0]), (8, hI)] [(0, .arr (.prod (.prod .str tI) (.prod tI tI)) false), (1, .cells [.sl0 3 tI] false), (3, .arr tI false)] [.cell 1 0] []
@[reducible] def xH54_v1_0 : Outs := [(.exit 0, Pat.mk [] [(1, .cells [.sl0 3 tI] false), (0, .arr (.prod (.prod .str tI) (.prod tI tI)) false), (3, .arr tI false)] [.cell 1 0] [])]
noncomputable def bH54_v1_0 : D prog 53 none 3 := dO [.l LH54_v1_1] (pick (kd prog f54) [(0, false)]) 0
noncomputable def gH54_v1_0 : Nat × Int × Int × Int × (List ((ByteArray × Int) × Int × Int)) × Nat × List Int × Unit → Tr0 ((Nat × Int × Int × Int × (List ((ByteArray × Int) × Int × Int)) × Nat × List Int × Unit) ⊕ ((Nat × (List ((ByteArray × Int) × Int × Int)) × List Int × Unit))) := fun (nv0, v1, v2, v8, b0, nc1_0, b3, _) =>
 .br (decide (v8 < v2)) (
 .bd (.it gH54_v1_1 (nv0, (v1, (v2, (v8, (v8, (b0, (nc1_0, (b3, ()))))))))) fun z1 =>
 .ni (z1.2.2.2.1 + (1 : Int)) <|
 .ret (.inl (z1.1, (z1.2.1, (z1.2.2.1, ((z1.2.2.2.1 + (1 : Int)), (z1.2.2.2.2.1, (z1.2.2.2.2.2.1, (z1.2.2.2.2.2.2.1, ()))))))))) (
 .ret (.inr (nc1_0, (b0, (b3, ())))))
theorem sH54_v1_0 : ∀ x, roundE (kzO (pH54_v1_0.T ⊕ xH54_v1_0.T)) cxH54_v1 ar0 [0, 1, 2] pH54_v1_0 xH54_v1_0 (bH54_v1_0) (fun y => some (.inl y)) (fun b => some (.inr b)) x = run0 (gH54_v1_0 x) := fun x => by kernel_rfl
noncomputable def LH54_v1_0 : LoopS prog 53 none 3 := mkLoop mixed cxH54_v1 cxH54_v1_ok [0, 1, 2] rfl pH54_v1_0 xH54_v1_0 rfl (bH54_v1_0) (fun x => run0 (gH54_v1_0 x)) (sH54_v1_0)
noncomputable def ddH54_v1 : D prog 53 none 3 := dO [.l LH54_v1_0] (kd prog f54) 0
noncomputable def FH54_v1 (nv0 : Nat) (v1 : Int) (v2 : Int) (b0 : List ((ByteArray × Int) × Int × Int)) (nc1_0 : Nat) (b2 : List Int) : Tr0 (Nat × (List ((ByteArray × Int) × Int × Int)) × List Int × Unit) :=
 .ni (v1 + (1 : Int)) <|
 .bd (.it gH54_v1_0 (nv0, (v1, (v2, ((v1 + (1 : Int)), (b0, (nc1_0, (b2, ())))))))) fun z2 =>
 .ret (z2.1, (z2.2.1, (z2.2.2.1, ())))
theorem cH54_v1_ok : trF prog f54 = some ⟨53, 4, ddH54_v1.er, [], []⟩ := by kernel_rfl
noncomputable def ht54_v1 : Ht := ⟨54, pH54_v1, qH54_v1, (fun x => run0 (FH54_v1 x.1 x.2.1 x.2.2.1 x.2.2.2.1 x.2.2.2.2.1 x.2.2.2.2.2.1))⟩
theorem ht54_v1_ok : ht54_v1.Ok prog := ht_ok mixed cxH54_v1_ok rfl func54 cH54_v1_ok (enters_of func54 rfl rfl) ddH54_v1 (by kernel_rfl) rfl rfl ⟨_, rfl⟩ rfl (pre := [0, 1, 2]) rfl (fun x => by kernel_rfl)

/- 38, lent -/
@[reducible] def pH38 : Pat := Pat.mk [(0, .c (.sl0 0 (.prod (.prod .str tI) (.prod tI tI)))), (1, hI), (2, hI), (3, hI), (4, .fn 23 [] [.ptr 1 0])] [(0, .arr (.prod (.prod .str tI) (.prod tI tI)) false), (1, .cells [.sl0 2 tI] false), (2, .arr tI false)] [.slot 0, .part 4 0, .cell 1 0] []
@[reducible] def qH38 : Pat := Pat.mk [(0, .c .any)] [(1, .cells [.sl0 3 tI] false), (0, .arr (.prod (.prod .str tI) (.prod tI tI)) false), (3, .arr tI false)] [.cell 1 0] []
noncomputable def cxH38 : Cx := (mkCxH [] [ht54_v1])
theorem cxH38_ok : cxH38.Ok prog := mkCxH_ok trivial ⟨⟨ht54_v1_ok, rfl⟩, trivial⟩
@[reducible] def pH38_0 : Pat := Pat.mk [(0, .c (.sl0 0 (.prod (.prod .str tI) (.prod tI tI)))), (1, hI), (2, hI), (3, hI), (4, .fn 23 [] [.ptr 1 0]), (10, .c (.tf true)), (11, .c (.tf true))] [(0, .arr (.prod (.prod .str tI) (.prod tI tI)) false), (1, .cells [.sl0 3 tI] false), (3, .arr tI false)] [.cell 1 0] []
@[reducible] def xH38_0 : Outs := [(.ret, Pat.mk [] [(1, .cells [.sl0 3 tI] false), (0, .arr (.prod (.prod .str tI) (.prod tI tI)) false), (3, .arr tI false)] [.cell 1 0] [])]
noncomputable def bH38_0 : D prog 148 none 3 := dO [] (pick (kd prog f38) [(0, false)]) 0
noncomputable def gH38_0 : Nat × Int × Int × Int × (List ((ByteArray × Int) × Int × Int)) × Nat × List Int × Unit → Tr0 ((Nat × Int × Int × Int × (List ((ByteArray × Int) × Int × Int)) × Nat × List Int × Unit) ⊕ ((Nat × (List ((ByteArray × Int) × Int × Int)) × List Int × Unit))) := fun (nv0, v1, v2, v3, b0, nc1_0, b3, _) =>
 .ni (v2 - v1) <|
 .br (decide ((v2 - v1) ≤ (12 : Int))) (
 .bd (FH54_v1 nv0 v1 v2 b0 nc1_0 b3) fun y0 =>
 .ret (.inr (y0.1, (y0.2.1, (y0.2.2.1, ()))))) (
 .br (v3 == (0 : Int)) (
 .no) (
 .no))
theorem sH38_0 : ∀ x, roundE (kzO (pH38_0.T ⊕ xH38_0.T)) cxH38 ar0 [0, 1, 2] pH38_0 xH38_0 (bH38_0) (fun y => some (.inl y)) (fun b => some (.inr b)) x = run0 (gH38_0 x) := fun x => by kernel_rfl
noncomputable def LH38_0 : LoopS prog 148 none 3 := mkLoop mixed cxH38 cxH38_ok [0, 1, 2] rfl pH38_0 xH38_0 rfl (bH38_0) (fun x => run0 (gH38_0 x)) (sH38_0)
noncomputable def ddH38 : D prog 148 none 3 := dO [.l LH38_0] (kd prog f38) 0
noncomputable def FH38 (nv0 : Nat) (v1 : Int) (v2 : Int) (v3 : Int) (b0 : List ((ByteArray × Int) × Int × Int)) (nc1_0 : Nat) (b2 : List Int) : Tr0 (Nat × (List ((ByteArray × Int) × Int × Int)) × List Int × Unit) :=
 .bd (.it gH38_0 (nv0, (v1, (v2, (v3, (b0, (nc1_0, (b2, ())))))))) fun z1 =>
 .ret (z1.1, (z1.2.1, (z1.2.2.1, ())))
theorem cH38_ok : trF prog f38 = some ⟨148, 5, ddH38.er, [], []⟩ := by kernel_rfl
noncomputable def ht38 : Ht := ⟨38, pH38, qH38, (fun x => run0 (FH38 x.1 x.2.1 x.2.2.1 x.2.2.2.1 x.2.2.2.2.1 x.2.2.2.2.2.1 x.2.2.2.2.2.2.1))⟩
theorem ht38_ok : ht38.Ok prog := ht_ok mixed cxH38_ok rfl func38 cH38_ok (enters_of func38 rfl rfl) ddH38 (by kernel_rfl) rfl rfl ⟨_, rfl⟩ rfl (pre := [0, 1, 2]) rfl (fun x => by kernel_rfl)

/- 22, lent -/
@[reducible] def pH22 : Pat := Pat.mk [(0, .c (.sl0 0 (.prod (.prod .str tI) (.prod tI tI)))), (1, .fn 23 [] [.ptr 1 0])] [(0, .arr (.prod (.prod .str tI) (.prod tI tI)) false), (1, .cells [.sl0 2 tI] false), (2, .arr tI false)] [.slot 0, .part 1 0, .cell 1 0] []
@[reducible] def qH22 : Pat := Pat.mk [(0, .c .any)] [(1, .cells [.sl0 3 tI] false), (0, .arr (.prod (.prod .str tI) (.prod tI tI)) false), (3, .arr tI false)] [.cell 1 0] []
noncomputable def cxH22 : Cx := (mkCxH [ct39] [ht38])
theorem cxH22_ok : cxH22.Ok prog := mkCxH_ok ⟨ct39_ok, trivial⟩ ⟨⟨ht38_ok, rfl⟩, trivial⟩
noncomputable def ddH22 : D prog 14 none 3 := dO [] (kd prog f22) 0
noncomputable def FH22 (nv0 : Nat) (b0 : List ((ByteArray × Int) × Int × Int)) (nc1_0 : Nat) (b2 : List Int) : Tr0 (Nat × (List ((ByteArray × Int) × Int × Int)) × List Int × Unit) :=
 .nd (rng .u64 ((nv0 : Nat) : Int)) <|
 .bd (F39 ((nv0 : Nat) : Int)) fun y0 =>
 .bd (FH38 nv0 (0 : Int) ((nv0 : Nat) : Int) y0.1 b0 nc1_0 b2) fun y1 =>
 .ret (y1.1, (y1.2.1, (y1.2.2.1, ())))
theorem cH22_ok : trF prog f22 = some ⟨14, 2, ddH22.er, [], []⟩ := by kernel_rfl
noncomputable def ht22 : Ht := ⟨22, pH22, qH22, (fun x => run0 (FH22 x.1 x.2.1 x.2.2.1 x.2.2.2.1))⟩
theorem ht22_ok : ht22.Ok prog := ht_ok mixed cxH22_ok rfl func22 cH22_ok (enters_of func22 rfl rfl) ddH22 (by kernel_rfl) rfl rfl ⟨_, rfl⟩ rfl (pre := [0, 1, 2]) rfl (fun x => by kernel_rfl)

/- 8 -/
noncomputable def cx8 : Cx := (mkCxH [ct13, ct14_v2, ct18, ct19, ct20] [ht21, ht22])
theorem cx8_ok : cx8.Ok prog := mkCxH_ok ⟨ct13_ok, ct14_v2_ok, ct18_ok, ct19_ok, ct20_ok, trivial⟩ ⟨⟨ht21_ok, rfl⟩, ⟨ht22_ok, rfl⟩, trivial⟩
@[reducible] def p8_0 : Pat := Pat.mk [(5, .c (.ptr 0 0)), (6, .c (.ptr 1 0)), (7, .c (.sl0 2 tI)), (8, .c (.ptr 3 0)), (9, hI), (37, .c (.hole (.list (.prod (.prod .str tI) (.prod tI tI))))), (38, hI), (39, hI)] [(0, .cells [.hole (.list (.prod (.prod .str tI) (.prod tI tI))), .hole tI] false), (1, .cells [.hole tI, .hole tI] false), (2, .arr tI false), (3, .cells [.sl0 4 tI] false), (4, .arr tI false)] [.slot 5, .slot 6, .slot 7, .slot 8, .cell 3 0] []
@[reducible] def x8_0 : Outs := [(.exit 0, Pat.mk [(5, .c (.ptr 0 0)), (7, .c (.sl0 1 tI)), (8, .c (.ptr 2 0)), (9, hI)] [(0, .cells [.hole (.list (.prod (.prod .str tI) (.prod tI tI))), .hole tI] false), (1, .arr tI false), (2, .cells [.sl0 3 tI] false), (3, .arr tI false)] [.slot 5, .slot 7, .slot 8, .cell 2 0] [])]
noncomputable def b8_0 : D prog 86 none 0 := dO [] (pick (kd prog f8) [(0, false)]) 0
noncomputable def g8_0 : Nat × Int × (List ((ByteArray × Int) × Int × Int)) × Int × Int × (List ((ByteArray × Int) × Int × Int)) × Int × Int × Int × List Int × Nat × List Int × Unit → Tr0 ((Nat × Int × (List ((ByteArray × Int) × Int × Int)) × Int × Int × (List ((ByteArray × Int) × Int × Int)) × Int × Int × Int × List Int × Nat × List Int × Unit) ⊕ ((Nat × Int × (List ((ByteArray × Int) × Int × Int)) × Int × List Int × Nat × List Int × Unit))) := fun (nv7, v9, v37, v38, v39, c0_0, c0_1, c1_0, c1_1, b2, nc3_0, b4, _) =>
 .br (decide (v39 < v38)) (
 .nb v39 (((v37).length : Nat) : Int) <|
 .bd (F20 (((v37).getD (Int.toNat v39) (((bs []), (0 : Int)), ((0 : Int), (0 : Int)))).1.1, (((v37).getD (Int.toNat v39) (((bs []), (0 : Int)), ((0 : Int), (0 : Int)))).1.2, (((v37).getD (Int.toNat v39) (((bs []), (0 : Int)), ((0 : Int), (0 : Int)))).2.1, ((v37).getD (Int.toNat v39) (((bs []), (0 : Int)), ((0 : Int), (0 : Int)))).2.2))) (c1_0, c1_1)) fun y4 =>
 .nb v39 ((nv7 : Nat) : Int) <|
 .nd (decide (((0 : Nat) + (Int.toNat v39)) < (b2).length)) <|
 .nb v39 ((nc3_0 : Nat) : Int) <|
 .nd (decide (((0 : Nat) + (Int.toNat v39)) < (b4).length)) <|
 .nb v39 ((nv7 : Nat) : Int) <|
 .nd (decide (((0 : Nat) + (Int.toNat v39)) < (((b2).set ((0 : Nat) + (Int.toNat v39)) y4.1)).length)) <|
 .ni (v9 - ((((b2).set ((0 : Nat) + (Int.toNat v39)) y4.1)).getD ((0 : Nat) + (Int.toNat v39)) (0 : Int))) <|
 .ni (v39 + (1 : Int)) <|
 .ret (.inl (nv7, ((v9 - ((((b2).set ((0 : Nat) + (Int.toNat v39)) y4.1)).getD ((0 : Nat) + (Int.toNat v39)) (0 : Int))), (v37, (v38, ((v39 + (1 : Int)), (c0_0, (c0_1, (c1_0, (c1_1, (((b2).set ((0 : Nat) + (Int.toNat v39)) y4.1), (nc3_0, (((b4).set ((0 : Nat) + (Int.toNat v39)) y4.2.1), ())))))))))))))) (
 .ret (.inr (nv7, (v9, (c0_0, (c0_1, (b2, (nc3_0, (b4, ())))))))))
theorem s8_0 : ∀ x, roundE (kzO (p8_0.T ⊕ x8_0.T)) cx8 ar0 [] p8_0 x8_0 (b8_0) (fun y => some (.inl y)) (fun b => some (.inr b)) x = run0 (g8_0 x) := fun x => by kernel_rfl
noncomputable def L8_0 : LoopS prog 86 none 0 := mkLoop mixed cx8 cx8_ok [] rfl p8_0 x8_0 rfl (b8_0) (fun x => run0 (g8_0 x)) (s8_0)
@[reducible] def p8_1 : Pat := Pat.mk [(7, .c (.sl0 0 tI)), (71, .c (.slx 1 (.prod (.prod .str tI) (.prod tI tI)))), (72, hI), (73, hI)] [(0, .arr tI false), (1, .arr (.prod (.prod .str tI) (.prod tI tI)) false)] [.slot 7, .slot 71] []
@[reducible] def x8_1 : Outs := [(.exit 2, Pat.mk [(7, .c (.sl0 0 tI))] [(0, .arr tI false)] [.slot 7] [])]
noncomputable def b8_1 : D prog 86 none 0 := dO [] (pick (kd prog f8) [(1, false)]) 0
noncomputable def g8_1 : Nat × Nat × Nat × Int × Int × List Int × (List ((ByteArray × Int) × Int × Int)) × Unit → Tr0 ((Nat × Nat × Nat × Int × Int × List Int × (List ((ByteArray × Int) × Int × Int)) × Unit) ⊕ ((Nat × List Int × Unit))) := fun (nv7, lv71, nv71, v72, v73, b0, b1, _) =>
 .br (decide (v73 < v72)) (
 .nb v73 ((nv71 : Nat) : Int) <|
 .nd (decide ((lv71 + (Int.toNat v73)) < (b1).length)) <|
 .nb ((b1).getD (lv71 + (Int.toNat v73)) (((bs []), (0 : Int)), ((0 : Int), (0 : Int)))).2.1 ((nv7 : Nat) : Int) <|
 .nd (decide (((0 : Nat) + (Int.toNat ((b1).getD (lv71 + (Int.toNat v73)) (((bs []), (0 : Int)), ((0 : Int), (0 : Int)))).2.1)) < (b0).length)) <|
 .ni (((b0).getD ((0 : Nat) + (Int.toNat ((b1).getD (lv71 + (Int.toNat v73)) (((bs []), (0 : Int)), ((0 : Int), (0 : Int)))).2.1)) (0 : Int)) + (1 : Int)) <|
 .nb ((b1).getD (lv71 + (Int.toNat v73)) (((bs []), (0 : Int)), ((0 : Int), (0 : Int)))).2.1 ((nv7 : Nat) : Int) <|
 .nd (decide (((0 : Nat) + (Int.toNat ((b1).getD (lv71 + (Int.toNat v73)) (((bs []), (0 : Int)), ((0 : Int), (0 : Int)))).2.1)) < (b0).length)) <|
 .ni (v73 + (1 : Int)) <|
 .ret (.inl (nv7, (lv71, (nv71, (v72, ((v73 + (1 : Int)), (((b0).set ((0 : Nat) + (Int.toNat ((b1).getD (lv71 + (Int.toNat v73)) (((bs []), (0 : Int)), ((0 : Int), (0 : Int)))).2.1)) (((b0).getD ((0 : Nat) + (Int.toNat ((b1).getD (lv71 + (Int.toNat v73)) (((bs []), (0 : Int)), ((0 : Int), (0 : Int)))).2.1)) (0 : Int)) + (1 : Int))), (b1, ()))))))))) (
 .ret (.inr (nv7, (b0, ()))))
theorem s8_1 : ∀ x, roundE (kzO (p8_1.T ⊕ x8_1.T)) cx8 ar0 [] p8_1 x8_1 (b8_1) (fun y => some (.inl y)) (fun b => some (.inr b)) x = run0 (g8_1 x) := fun x => by kernel_rfl
noncomputable def L8_1 : LoopS prog 86 none 0 := mkLoop mixed cx8 cx8_ok [] rfl p8_1 x8_1 rfl (b8_1) (fun x => run0 (g8_1 x)) (s8_1)
noncomputable def dd8 : D prog 86 none 0 := dO [.l L8_0, .l L8_1] (kd prog f8) 0
noncomputable def F8 (a0 : Int × Int × Int × (List (ByteArray × Int)) × List (Int × Int × Int × Int)) : Tr0 (List Int × Int × Unit) :=
 .bd (F13 (a0.1, (a0.2.1, (a0.2.2.1, (a0.2.2.2.1, a0.2.2.2.2))))) fun y0 =>
 .br (!(y0.1 == (0 : Int))) (
 .ret ([], (y0.1, ()))) (
 .bd (F14_v2 (a0.1, (a0.2.1, (a0.2.2.1, (a0.2.2.2.1, a0.2.2.2.2))))) fun y1 =>
 .bd (F18 (a0.1, (a0.2.1, (a0.2.2.1, (a0.2.2.2.1, a0.2.2.2.2)))) y1.1) fun y2 =>
 .bd (F19 (y2.1.1, y2.1.2)) fun y3 =>
 .nb (((y2.1.1).length : Nat) : Int) ((bigL : Nat) : Int) <|
 .nb (((y2.1.1).length : Nat) : Int) ((bigL : Nat) : Int) <|
 .bd (.it g8_0 ((Int.toNat (((y2.1.1).length : Nat) : Int)), (y2.1.2, (y2.1.1, ((((y2.1.1).length : Nat) : Int), ((0 : Int), (y2.1.1, (y2.1.2, (y3.1.1, (y3.1.2, ((List.replicate (Int.toNat (((y2.1.1).length : Nat) : Int)) (0 : Int)), ((Int.toNat (((y2.1.1).length : Nat) : Int)), ((List.replicate (Int.toNat (((y2.1.1).length : Nat) : Int)) (0 : Int)), ()))))))))))))) fun z5 =>
 .bd (FH21 z5.2.2.1) fun y6 =>
 .bd (FH22 y6.1 y6.2.1 z5.2.2.2.2.2.1 z5.2.2.2.2.2.2.1) fun y7 =>
 .nd (decide ((0 : Int) ≤ (0 : Int))) <|
 .nd (decide ((0 : Int) ≤ z5.2.1)) <|
 .nd (decide (z5.2.1 ≤ ((y6.1 : Nat) : Int))) <|
 .bd (.it g8_1 (z5.1, (((0 : Nat) + (Int.toNat (0 : Int))), (((Int.toNat z5.2.1) - (Int.toNat (0 : Int))), (((((Int.toNat z5.2.1) - (Int.toNat (0 : Int))) : Nat) : Int), ((0 : Int), (z5.2.2.2.2.1, (y7.2.1, ())))))))) fun z8 =>
 .ret ((((z8.2.1).drop (0 : Nat)).take z8.1), ((0 : Int), ())))
theorem c8_ok : trF prog f8 = some ⟨86, 1, dd8.er, [.t 2, .t 3], [some tL, some tI]⟩ := by kernel_rfl
noncomputable def ct8 : Ct := ⟨8, [.c (.hole (.prod tI (.prod tI (.prod tI (.prod (.list (.prod .str tI)) (.list (.prod tI (.prod tI (.prod tI tI)))))))))], .tup [.hole tL, .hole tI], fun x => run0 (F8 x.1)⟩
theorem ct8_ok : ct8.Ok prog := ct_ok mixed cx8_ok func8 c8_ok (enters_of func8 rfl rfl) dd8 (by kernel_rfl) rfl (fun x => by kernel_rfl)

/- 9 -/
noncomputable def cx9 : Cx := (mkCxH [ct13, ct14_v2, ct18, ct19] [])
theorem cx9_ok : cx9.Ok prog := mkCxH_ok ⟨ct13_ok, ct14_v2_ok, ct18_ok, ct19_ok, trivial⟩ trivial
noncomputable def dd9 : D prog 21 none 0 := dO [] (kd prog f9) 0
noncomputable def F9 (a0 : Int × Int × Int × (List (ByteArray × Int)) × List (Int × Int × Int × Int)) : Tr0 (Int × Int × Int × Unit) :=
 .bd (F13 (a0.1, (a0.2.1, (a0.2.2.1, (a0.2.2.2.1, a0.2.2.2.2))))) fun y0 =>
 .br (!(y0.1 == (0 : Int))) (
 .ret ((0 : Int), ((0 : Int), (y0.1, ())))) (
 .bd (F14_v2 (a0.1, (a0.2.1, (a0.2.2.1, (a0.2.2.2.1, a0.2.2.2.2))))) fun y1 =>
 .bd (F18 (a0.1, (a0.2.1, (a0.2.2.1, (a0.2.2.2.1, a0.2.2.2.2)))) y1.1) fun y2 =>
 .bd (F19 (y2.1.1, y2.1.2)) fun y3 =>
 .ret (y3.1.1, (y3.1.2, ((0 : Int), ()))))
theorem c9_ok : trF prog f9 = some ⟨21, 1, dd9.er, [.t 2, .t 3, .t 4], [some tI, some tI, some tI]⟩ := by kernel_rfl
noncomputable def ct9 : Ct := ⟨9, [.c (.hole (.prod tI (.prod tI (.prod tI (.prod (.list (.prod .str tI)) (.list (.prod tI (.prod tI (.prod tI tI)))))))))], .tup [.hole tI, .hole tI, .hole tI], fun x => run0 (F9 x.1)⟩
theorem ct9_ok : ct9.Ok prog := ct_ok mixed cx9_ok func9 c9_ok (enters_of func9 rfl rfl) dd9 (by kernel_rfl) rfl (fun x => by kernel_rfl)

/- 10 -/
noncomputable def cx10 : Cx := (mkCxH [ct8] [])
theorem cx10_ok : cx10.Ok prog := mkCxH_ok ⟨ct8_ok, trivial⟩ trivial
noncomputable def dd10 : D prog 43 none 0 := dO [] (kd prog f10) 0
noncomputable def F10 : Tr0 (Bool × Unit) :=
 .bd (F8 ((10000 : Int), ((0 : Int), ((0 : Int), (((((((bs [97, 110, 97]), (4000 : Int)) :: (((bs [98, 101, 110]), (9000 : Int)) :: (((bs [99, 121]), (9000 : Int)) :: [])))).drop (0 : Nat)).take (3 : Nat)), ((((((0 : Int), ((300 : Int), ((100 : Int), (150 : Int)))) :: (((1 : Int), ((250 : Int), ((50 : Int), (100 : Int)))) :: (((2 : Int), ((200 : Int), ((100 : Int), (100 : Int)))) :: [])))).drop (0 : Nat)).take (3 : Nat))))))) fun y0 =>
 .br (y0.2.1 == (0 : Int)) (
 .br ((((y0.1).length : Nat) : Int) == (3 : Int)) (
 .nb (0 : Int) (((y0.1).length : Nat) : Int) <|
 .br (((y0.1).getD (Int.toNat (0 : Int)) (0 : Int)) == (4000 : Int)) (
 .nb (1 : Int) (((y0.1).length : Nat) : Int) <|
 .br (((y0.1).getD (Int.toNat (1 : Int)) (0 : Int)) == (4000 : Int)) (
 .nb (2 : Int) (((y0.1).length : Nat) : Int) <|
 .ret ((((y0.1).getD (Int.toNat (2 : Int)) (0 : Int)) == (2000 : Int)), ())) (
 .ret (false, ()))) (
 .ret (false, ()))) (
 .ret (false, ()))) (
 .ret (false, ()))
theorem c10_ok : trF prog f10 = some ⟨43, 0, dd10.er, [.t 0], [some .bool]⟩ := by kernel_rfl
noncomputable def ct10 : Ct := ⟨10, [], .c (.hole .bool), fun x => run0 (F10)⟩
theorem ct10_ok : ct10.Ok prog := ct_ok mixed cx10_ok func10 c10_ok (enters_of func10 rfl rfl) dd10 (by kernel_rfl) rfl (fun x => by kernel_rfl)

/- 3 -/
noncomputable def cx3 : Cx := (mkCxH [ct4, ct5, ct6, ct7, ct8, ct9, ct10] [])
theorem cx3_ok : cx3.Ok prog := mkCxH_ok ⟨ct4_ok, ct5_ok, ct6_ok, ct7_ok, ct8_ok, ct9_ok, ct10_ok, trivial⟩ trivial
@[reducible] def p3_0 : Pat := Pat.mk [(3, .c (.hole (.int .u8))), (5, .c (.pa 0 (.int .u8) 4)), (9, hLL), (10, hL), (11, hI), (13, .c (.ptr 1 0)), (55, .c (.sl0 2 .str)), (56, hI), (57, hI)] [(0, .arr (.int .u8) false), (1, .cells [.hole tI, .hole tI, .hole tI, .sl0 3 (.prod .str tI), .nsl] false), (2, .arr .str false), (3, .arr (.prod .str tI) false)] [.slot 5, .slot 13, .slot 55, .cell 1 3] []
@[reducible] def x3_0 : Outs := [(.ret, Pat.mk [(8, .c (.tf false))] [] [] []), (.exit 0, Pat.mk [(3, .c (.hole (.int .u8))), (5, .c (.pa 0 (.int .u8) 4)), (9, hLL), (10, hL), (11, hI), (13, .c (.ptr 1 0))] [(0, .arr (.int .u8) false), (1, .cells [.hole tI, .hole tI, .hole tI, .sl0 2 (.prod .str tI), .nsl] false), (2, .arr (.prod .str tI) false)] [.slot 5, .slot 13, .cell 1 3] [])]
noncomputable def b3_0 : D prog 278 none 0 := dO [] (pick (kd prog f3) [(0, false)]) 0
noncomputable def g3_0 : Int × List (List Int) × List Int × Int × Nat × Int × Int × List Int × Int × Int × Int × Nat × List ByteArray × (List (ByteArray × Int)) × Unit → Tr0 ((Int × List (List Int) × List Int × Int × Nat × Int × Int × List Int × Int × Int × Int × Nat × List ByteArray × (List (ByteArray × Int)) × Unit) ⊕ ((Unit) ⊕ ((Int × List (List Int) × List Int × Int × List Int × Int × Int × Int × Nat × (List (ByteArray × Int)) × Unit)))) := fun (v3, v9, v10, v11, nv55, v56, v57, b0, c1_0, c1_1, c1_2, nc1_3, b2, b3, _) =>
 .br (decide (v57 < v56)) (
 .nb v57 ((nv55 : Nat) : Int) <|
 .nd (decide (((0 : Nat) + (Int.toNat v57)) < (b2).length)) <|
 .bd (F6 ((b2).getD ((0 : Nat) + (Int.toNat v57)) (bs []))) fun y2 =>
 .br (!y2.1) (
 .ret (.inr <| .inl <| ())) (
 .nd (decide ((nc1_3 + ((((((((b2).getD ((0 : Nat) + (Int.toNat v57)) (bs [])), (10000 : Int)) :: [])).drop (0 : Nat)).take (1 : Nat))).length) < bigL)) <|
 .ni (v57 + (1 : Int)) <|
 .ret (.inl (v3, (v9, (v10, (v11, (nv55, (v56, ((v57 + (1 : Int)), (b0, (c1_0, (c1_1, (c1_2, ((nc1_3 + ((((((((b2).getD ((0 : Nat) + (Int.toNat v57)) (bs [])), (10000 : Int)) :: [])).drop (0 : Nat)).take (1 : Nat))).length), (b2, (((((b3).drop (0 : Nat)).take nc1_3) ++ (((((((b2).getD ((0 : Nat) + (Int.toNat v57)) (bs [])), (10000 : Int)) :: [])).drop (0 : Nat)).take (1 : Nat))), ()))))))))))))))))) (
 .ret (.inr <| .inr <| (v3, (v9, (v10, (v11, (b0, (c1_0, (c1_1, (c1_2, (nc1_3, (b3, ()))))))))))))
theorem s3_0 : ∀ x, roundE (kzO (p3_0.T ⊕ x3_0.T)) cx3 ar0 [] p3_0 x3_0 (b3_0) (fun y => some (.inl y)) (fun b => some (.inr b)) x = run0 (g3_0 x) := fun x => by kernel_rfl
noncomputable def L3_0 : LoopS prog 278 none 0 := mkLoop mixed cx3 cx3_ok [] rfl p3_0 x3_0 rfl (b3_0) (fun x => run0 (g3_0 x)) (s3_0)
@[reducible] def p3_2 : Pat := Pat.mk [(3, .c (.hole (.int .u8))), (5, .c (.pa 0 (.int .u8) 4)), (9, hLL), (11, hI), (13, .c (.ptr 1 0)), (16, .c (.sl0 2 tI)), (17, hI), (18, hI), (19, hI), (73, hL), (74, hI), (75, hI), (83, hI), (84, hLL), (85, hI), (87, hL), (88, hI), (89, .c (.hole .bool))] [(0, .arr (.int .u8) false), (1, .cells [.hole tI, .hole tI, .hole tI, .sl0 3 (.prod .str tI), .sl0 4 (.prod tI (.prod tI (.prod tI tI)))] false), (2, .arr tI false), (3, .arr (.prod .str tI) false), (4, .arr (.prod tI (.prod tI (.prod tI tI))) false)] [.slot 5, .slot 13, .slot 16, .cell 1 3, .cell 1 4] []
@[reducible] def x3_2 : Outs := [(.exit 4, Pat.mk [(3, .c (.hole (.int .u8))), (5, .c (.pa 0 (.int .u8) 4)), (9, hLL), (11, hI), (13, .c (.ptr 1 0)), (16, .c (.sl0 2 tI)), (73, hL), (74, hI), (75, hI), (83, hI), (84, hLL), (85, hI), (87, hL), (88, hI), (89, .c (.hole .bool))] [(0, .arr (.int .u8) false), (1, .cells [.hole tI, .hole tI, .hole tI, .sl0 3 (.prod .str tI), .sl0 4 (.prod tI (.prod tI (.prod tI tI)))] false), (2, .arr tI false), (3, .arr (.prod .str tI) false), (4, .arr (.prod tI (.prod tI (.prod tI tI))) false)] [.slot 5, .slot 13, .slot 16, .cell 1 3, .cell 1 4] [])]
noncomputable def b3_2 : D prog 278 none 0 := dO [] (pick (kd prog f3) [(1, false), (0, false)]) 0
noncomputable def g3_2 : Int × List (List Int) × Int × Nat × Int × Int × Int × List Int × Int × Int × Int × List (List Int) × Int × List Int × Int × Bool × List Int × Int × Int × Int × Nat × Nat × List Int × (List (ByteArray × Int)) × (List (Int × Int × Int × Int)) × Unit → Tr0 ((Int × List (List Int) × Int × Nat × Int × Int × Int × List Int × Int × Int × Int × List (List Int) × Int × List Int × Int × Bool × List Int × Int × Int × Int × Nat × Nat × List Int × (List (ByteArray × Int)) × (List (Int × Int × Int × Int)) × Unit) ⊕ ((Int × List (List Int) × Int × Nat × List Int × Int × Int × Int × List (List Int) × Int × List Int × Int × Bool × List Int × Int × Int × Int × Nat × Nat × List Int × (List (ByteArray × Int)) × (List (Int × Int × Int × Int)) × Unit))) := fun (v3, v9, v11, nv16, v17, v18, v19, v73, v74, v75, v83, v84, v85, v87, v88, v89, b0, c1_0, c1_1, c1_2, nc1_3, nc1_4, b2, b3, b4, _) =>
 .br (decide (v19 < v18)) (
 .nb v17 (4 : Int) <|
 .nd (decide ((Int.toNat v17) < (b0).length)) <|
 .ni ((b0).getD (Int.toNat v17) (0 : Int)) <|
 .nd (!((3 : Int) == (0 : Int))) <|
 .nb (Int.tmod ((b0).getD (Int.toNat v17) (0 : Int)) (3 : Int)) ((nv16 : Nat) : Int) <|
 .nd (decide (((0 : Nat) + (Int.toNat (Int.tmod ((b0).getD (Int.toNat v17) (0 : Int)) (3 : Int)))) < (b2).length)) <|
 .nb v17 (((v9).length : Nat) : Int) <|
 .nb v19 (((((v9).getD (Int.toNat v17) [])).length : Nat) : Int) <|
 .ni (((b2).getD ((0 : Nat) + (Int.toNat (Int.tmod ((b0).getD (Int.toNat v17) (0 : Int)) (3 : Int)))) (0 : Int)) + ((((v9).getD (Int.toNat v17) [])).getD (Int.toNat v19) (0 : Int))) <|
 .nb (Int.tmod ((b0).getD (Int.toNat v17) (0 : Int)) (3 : Int)) ((nv16 : Nat) : Int) <|
 .nd (decide (((0 : Nat) + (Int.toNat (Int.tmod ((b0).getD (Int.toNat v17) (0 : Int)) (3 : Int)))) < (b2).length)) <|
 .nb v17 (((v9).length : Nat) : Int) <|
 .nb v19 (((((v9).getD (Int.toNat v17) [])).length : Nat) : Int) <|
 .ni ((500 : Int) + ((((v9).getD (Int.toNat v17) [])).getD (Int.toNat v19) (0 : Int))) <|
 .nd (decide ((nc1_4 + (((((((Int.tmod ((b0).getD (Int.toNat v17) (0 : Int)) (3 : Int)), (((500 : Int) + ((((v9).getD (Int.toNat v17) [])).getD (Int.toNat v19) (0 : Int))), ((500 : Int), (1 : Int)))) :: [])).drop (0 : Nat)).take (1 : Nat))).length) < bigL)) <|
 .ni (v19 + (1 : Int)) <|
 .ret (.inl (v3, (v9, (v11, (nv16, (v17, (v18, ((v19 + (1 : Int)), (v73, (v74, (v75, (v83, (v84, (v85, (v87, (v88, (v89, (b0, (c1_0, (c1_1, (c1_2, (nc1_3, ((nc1_4 + (((((((Int.tmod ((b0).getD (Int.toNat v17) (0 : Int)) (3 : Int)), (((500 : Int) + ((((v9).getD (Int.toNat v17) [])).getD (Int.toNat v19) (0 : Int))), ((500 : Int), (1 : Int)))) :: [])).drop (0 : Nat)).take (1 : Nat))).length), (((b2).set ((0 : Nat) + (Int.toNat (Int.tmod ((b0).getD (Int.toNat v17) (0 : Int)) (3 : Int)))) (((b2).getD ((0 : Nat) + (Int.toNat (Int.tmod ((b0).getD (Int.toNat v17) (0 : Int)) (3 : Int)))) (0 : Int)) + ((((v9).getD (Int.toNat v17) [])).getD (Int.toNat v19) (0 : Int)))), (b3, (((((b4).drop (0 : Nat)).take nc1_4) ++ ((((((Int.tmod ((b0).getD (Int.toNat v17) (0 : Int)) (3 : Int)), (((500 : Int) + ((((v9).getD (Int.toNat v17) [])).getD (Int.toNat v19) (0 : Int))), ((500 : Int), (1 : Int)))) :: [])).drop (0 : Nat)).take (1 : Nat))), ()))))))))))))))))))))))))))) (
 .ret (.inr (v3, (v9, (v11, (nv16, (v73, (v74, (v75, (v83, (v84, (v85, (v87, (v88, (v89, (b0, (c1_0, (c1_1, (c1_2, (nc1_3, (nc1_4, (b2, (b3, (b4, ()))))))))))))))))))))))))
theorem s3_2 : ∀ x, roundE (kzO (p3_2.T ⊕ x3_2.T)) cx3 ar0 [] p3_2 x3_2 (b3_2) (fun y => some (.inl y)) (fun b => some (.inr b)) x = run0 (g3_2 x) := fun x => by kernel_rfl
noncomputable def L3_2 : LoopS prog 278 none 0 := mkLoop mixed cx3 cx3_ok [] rfl p3_2 x3_2 rfl (b3_2) (fun x => run0 (g3_2 x)) (s3_2)
@[reducible] def p3_1 : Pat := Pat.mk [(3, .c (.hole (.int .u8))), (5, .c (.pa 0 (.int .u8) 4)), (9, hLL), (11, hI), (13, .c (.ptr 1 0)), (16, .c (.sl0 2 tI)), (73, hL), (74, hI), (75, hI)] [(0, .arr (.int .u8) false), (1, .cells [.hole tI, .hole tI, .hole tI, .sl0 3 (.prod .str tI), .sl0 4 (.prod tI (.prod tI (.prod tI tI)))] false), (2, .arr tI false), (3, .arr (.prod .str tI) false), (4, .arr (.prod tI (.prod tI (.prod tI tI))) false)] [.slot 5, .slot 13, .slot 16, .cell 1 3, .cell 1 4] []
@[reducible] def x3_1 : Outs := [(.ret, Pat.mk [(8, .c (.tf false))] [] [] []), (.exit 2, Pat.mk [(3, .c (.hole (.int .u8))), (11, hI), (13, .c (.ptr 0 0)), (16, .c (.sl0 1 tI))] [(0, .cells [.hole tI, .hole tI, .hole tI, .sl0 2 (.prod .str tI), .sl0 3 (.prod tI (.prod tI (.prod tI tI)))] false), (1, .arr tI false), (2, .arr (.prod .str tI) false), (3, .arr (.prod tI (.prod tI (.prod tI tI))) false)] [.slot 13, .slot 16, .cell 0 3, .cell 0 4] [])]
noncomputable def b3_1 : D prog 278 none 0 := dO [.l L3_2] (pick (kd prog f3) [(1, false)]) 0
noncomputable def g3_1 : Int × List (List Int) × Int × Nat × List Int × Int × Int × List Int × Int × Int × Int × Nat × Nat × List Int × (List (ByteArray × Int)) × (List (Int × Int × Int × Int)) × Unit → Tr0 ((Int × List (List Int) × Int × Nat × List Int × Int × Int × List Int × Int × Int × Int × Nat × Nat × List Int × (List (ByteArray × Int)) × (List (Int × Int × Int × Int)) × Unit) ⊕ ((Unit) ⊕ ((Int × Int × Nat × Int × Int × Int × Nat × Nat × List Int × (List (ByteArray × Int)) × (List (Int × Int × Int × Int)) × Unit)))) := fun (v3, v9, v11, nv16, v73, v74, v75, b0, c1_0, c1_1, c1_2, nc1_3, nc1_4, b2, b3, b4, _) =>
 .br (decide (v75 < v74)) (
 .nb v75 (((v73).length : Nat) : Int) <|
 .br (decide (((v73).getD (Int.toNat v75) (0 : Int)) < (0 : Int))) (
 .ret (.inr <| .inl <| ())) (
 .nb v75 (((v9).length : Nat) : Int) <|
 .br (decide ((((((v9).getD (Int.toNat v75) [])).length : Nat) : Int) < ((v73).getD (Int.toNat v75) (0 : Int)))) (
 .ret (.inr <| .inl <| ())) (
 .bd (.it g3_2 (v3, (v9, (v11, (nv16, (v75, (((v73).getD (Int.toNat v75) (0 : Int)), ((0 : Int), (v73, (v74, (v75, (((v73).getD (Int.toNat v75) (0 : Int)), (v9, (v75, (((v9).getD (Int.toNat v75) []), ((((((v9).getD (Int.toNat v75) [])).length : Nat) : Int), ((decide ((((((v9).getD (Int.toNat v75) [])).length : Nat) : Int) < ((v73).getD (Int.toNat v75) (0 : Int)))), (b0, (c1_0, (c1_1, (c1_2, (nc1_3, (nc1_4, (b2, (b3, (b4, ())))))))))))))))))))))))))) fun z6 =>
 .ni (z6.2.2.2.2.2.2.1 + (1 : Int)) <|
 .ret (.inl (z6.1, (z6.2.1, (z6.2.2.1, (z6.2.2.2.1, (z6.2.2.2.2.1, (z6.2.2.2.2.2.1, ((z6.2.2.2.2.2.2.1 + (1 : Int)), (z6.2.2.2.2.2.2.2.2.2.2.2.2.2.1, (z6.2.2.2.2.2.2.2.2.2.2.2.2.2.2.1, (z6.2.2.2.2.2.2.2.2.2.2.2.2.2.2.2.1, (z6.2.2.2.2.2.2.2.2.2.2.2.2.2.2.2.2.1, (z6.2.2.2.2.2.2.2.2.2.2.2.2.2.2.2.2.2.1, (z6.2.2.2.2.2.2.2.2.2.2.2.2.2.2.2.2.2.2.1, (z6.2.2.2.2.2.2.2.2.2.2.2.2.2.2.2.2.2.2.2.1, (z6.2.2.2.2.2.2.2.2.2.2.2.2.2.2.2.2.2.2.2.2.1, (z6.2.2.2.2.2.2.2.2.2.2.2.2.2.2.2.2.2.2.2.2.2.1, ())))))))))))))))))))) (
 .ret (.inr <| .inr <| (v3, (v11, (nv16, (c1_0, (c1_1, (c1_2, (nc1_3, (nc1_4, (b2, (b3, (b4, ())))))))))))))
theorem s3_1 : ∀ x, roundE (kzO (p3_1.T ⊕ x3_1.T)) cx3 ar0 [] p3_1 x3_1 (b3_1) (fun y => some (.inl y)) (fun b => some (.inr b)) x = run0 (g3_1 x) := fun x => by kernel_rfl
noncomputable def L3_1 : LoopS prog 278 none 0 := mkLoop mixed cx3 cx3_ok [] rfl p3_1 x3_1 rfl (b3_1) (fun x => run0 (g3_1 x)) (s3_1)
@[reducible] def p3_3 : Pat := Pat.mk [(3, .c (.hole (.int .u8))), (11, hI), (13, .c (.ptr 0 0)), (16, .c (.sl0 1 tI)), (21, hL), (23, hL), (180, hI), (181, hI)] [(0, .cells [.hole tI, .hole tI, .hole tI, .sl0 2 (.prod .str tI), .sl0 3 (.prod tI (.prod tI (.prod tI tI)))] false), (1, .arr tI false), (2, .arr (.prod .str tI) true), (3, .arr (.prod tI (.prod tI (.prod tI tI))) true)] [.slot 13, .slot 16, .cell 0 3, .cell 0 4] []
@[reducible] def x3_3 : Outs := [(.ret, Pat.mk [(8, .c (.tf false))] [] [] []), (.exit 6, Pat.mk [(3, .c (.hole (.int .u8))), (11, hI), (13, .c (.ptr 0 0)), (16, .c (.sl0 1 tI)), (23, hL)] [(0, .cells [.hole tI, .hole tI, .hole tI, .sl0 2 (.prod .str tI), .sl0 3 (.prod tI (.prod tI (.prod tI tI)))] false), (1, .arr tI false), (2, .arr (.prod .str tI) true), (3, .arr (.prod tI (.prod tI (.prod tI tI))) true)] [.slot 13, .slot 16, .cell 0 3, .cell 0 4] [])]
noncomputable def b3_3 : D prog 278 none 0 := dO [] (pick (kd prog f3) [(2, false)]) 0
noncomputable def g3_3 : Int × Int × Nat × List Int × List Int × Int × Int × Int × Int × Int × Nat × Nat × List Int × (List (ByteArray × Int)) × (List (Int × Int × Int × Int)) × Unit → Tr0 ((Int × Int × Nat × List Int × List Int × Int × Int × Int × Int × Int × Nat × Nat × List Int × (List (ByteArray × Int)) × (List (Int × Int × Int × Int)) × Unit) ⊕ ((Unit) ⊕ ((Int × Int × Nat × List Int × Int × Int × Int × Nat × Nat × List Int × (List (ByteArray × Int)) × (List (Int × Int × Int × Int)) × Unit)))) := fun (v3, v11, nv16, v21, v23, v180, v181, c0_0, c0_1, c0_2, nc0_3, nc0_4, b1, b2, b3, _) =>
 .br (decide (v181 < v180)) (
 .nb v181 (((v21).length : Nat) : Int) <|
 .nb v181 ((nv16 : Nat) : Int) <|
 .nd (decide (((0 : Nat) + (Int.toNat v181)) < (b1).length)) <|
 .br (!(((v21).getD (Int.toNat v181) (0 : Int)) == ((b1).getD ((0 : Nat) + (Int.toNat v181)) (0 : Int)))) (
 .ret (.inr <| .inl <| ())) (
 .nb v181 (((v23).length : Nat) : Int) <|
 .nb v181 ((nv16 : Nat) : Int) <|
 .nd (decide (((0 : Nat) + (Int.toNat v181)) < (b1).length)) <|
 .br (!(((v23).getD (Int.toNat v181) (0 : Int)) == ((b1).getD ((0 : Nat) + (Int.toNat v181)) (0 : Int)))) (
 .ret (.inr <| .inl <| ())) (
 .ni (v181 + (1 : Int)) <|
 .ret (.inl (v3, (v11, (nv16, (v21, (v23, (v180, ((v181 + (1 : Int)), (c0_0, (c0_1, (c0_2, (nc0_3, (nc0_4, (b1, (b2, (b3, ()))))))))))))))))))) (
 .ret (.inr <| .inr <| (v3, (v11, (nv16, (v23, (c0_0, (c0_1, (c0_2, (nc0_3, (nc0_4, (b1, (b2, (b3, ()))))))))))))))
theorem s3_3 : ∀ x, roundE (kzO (p3_3.T ⊕ x3_3.T)) cx3 ar0 [] p3_3 x3_3 (b3_3) (fun y => some (.inl y)) (fun b => some (.inr b)) x = run0 (g3_3 x) := fun x => by kernel_rfl
noncomputable def L3_3 : LoopS prog 278 none 0 := mkLoop mixed cx3 cx3_ok [] rfl p3_3 x3_3 rfl (b3_3) (fun x => run0 (g3_3 x)) (s3_3)
@[reducible] def p3_5 : Pat := Pat.mk [(13, .c (.ptr 0 0)), (16, .c (.sl0 1 tI)), (23, hL), (29, hL), (30, hI), (31, hI), (224, hI), (225, hI), (235, hI), (236, hI)] [(0, .cells [.hole tI, .hole tI, .hole tI, .sl0 2 (.prod .str tI), .sl0 3 (.prod tI (.prod tI (.prod tI tI)))] false), (1, .arr tI false), (2, .arr (.prod .str tI) true), (3, .arr (.prod tI (.prod tI (.prod tI tI))) true)] [.slot 13, .slot 16, .cell 0 3, .cell 0 4] []
@[reducible] def x3_5 : Outs := [(.ret, Pat.mk [(8, .c (.tf false))] [] [] []), (.exit 10, Pat.mk [(13, .c (.ptr 0 0)), (16, .c (.sl0 1 tI)), (23, hL), (29, hL), (30, hI), (31, hI), (224, hI), (225, hI)] [(0, .cells [.hole tI, .hole tI, .hole tI, .sl0 2 (.prod .str tI), .sl0 3 (.prod tI (.prod tI (.prod tI tI)))] false), (1, .arr tI false), (2, .arr (.prod .str tI) true), (3, .arr (.prod tI (.prod tI (.prod tI tI))) true)] [.slot 13, .slot 16, .cell 0 3, .cell 0 4] [])]
noncomputable def b3_5 : D prog 278 none 0 := dO [] (pick (kd prog f3) [(3, false), (0, false)]) 0
noncomputable def g3_5 : Nat × List Int × List Int × Int × Int × Int × Int × Int × Int × Int × Int × Int × Nat × Nat × List Int × (List (ByteArray × Int)) × (List (Int × Int × Int × Int)) × Unit → Tr0 ((Nat × List Int × List Int × Int × Int × Int × Int × Int × Int × Int × Int × Int × Nat × Nat × List Int × (List (ByteArray × Int)) × (List (Int × Int × Int × Int)) × Unit) ⊕ ((Unit) ⊕ ((Nat × List Int × List Int × Int × Int × Int × Int × Int × Int × Int × Nat × Nat × List Int × (List (ByteArray × Int)) × (List (Int × Int × Int × Int)) × Unit)))) := fun (nv16, v23, v29, v30, v31, v224, v225, v235, v236, c0_0, c0_1, c0_2, nc0_3, nc0_4, b1, b2, b3, _) =>
 .br (decide (v236 < v235)) (
 .nb v31 ((nv16 : Nat) : Int) <|
 .nd (decide (((0 : Nat) + (Int.toNat v31)) < (b1).length)) <|
 .nb v236 ((nv16 : Nat) : Int) <|
 .nd (decide (((0 : Nat) + (Int.toNat v236)) < (b1).length)) <|
 .br (decide (((b1).getD ((0 : Nat) + (Int.toNat v236)) (0 : Int)) ≤ ((b1).getD ((0 : Nat) + (Int.toNat v31)) (0 : Int)))) (
 .nb v31 (((v29).length : Nat) : Int) <|
 .nb v236 (((v29).length : Nat) : Int) <|
 .ni (((v29).getD (Int.toNat v236) (0 : Int)) - (1 : Int)) <|
 .br (decide (((v29).getD (Int.toNat v31) (0 : Int)) < (((v29).getD (Int.toNat v236) (0 : Int)) - (1 : Int)))) (
 .ret (.inr <| .inl <| ())) (
 .ni (v236 + (1 : Int)) <|
 .ret (.inl (nv16, (v23, (v29, (v30, (v31, (v224, (v225, (v235, ((v236 + (1 : Int)), (c0_0, (c0_1, (c0_2, (nc0_3, (nc0_4, (b1, (b2, (b3, ())))))))))))))))))))) (
 .ni (v236 + (1 : Int)) <|
 .ret (.inl (nv16, (v23, (v29, (v30, (v31, (v224, (v225, (v235, ((v236 + (1 : Int)), (c0_0, (c0_1, (c0_2, (nc0_3, (nc0_4, (b1, (b2, (b3, ())))))))))))))))))))) (
 .ret (.inr <| .inr <| (nv16, (v23, (v29, (v30, (v31, (v224, (v225, (c0_0, (c0_1, (c0_2, (nc0_3, (nc0_4, (b1, (b2, (b3, ())))))))))))))))))
theorem s3_5 : ∀ x, roundE (kzO (p3_5.T ⊕ x3_5.T)) cx3 ar0 [] p3_5 x3_5 (b3_5) (fun y => some (.inl y)) (fun b => some (.inr b)) x = run0 (g3_5 x) := fun x => by kernel_rfl
noncomputable def L3_5 : LoopS prog 278 none 0 := mkLoop mixed cx3 cx3_ok [] rfl p3_5 x3_5 rfl (b3_5) (fun x => run0 (g3_5 x)) (s3_5)
@[reducible] def p3_4 : Pat := Pat.mk [(13, .c (.ptr 0 0)), (16, .c (.sl0 1 tI)), (23, hL), (29, hL), (30, hI), (224, hI), (225, hI)] [(0, .cells [.hole tI, .hole tI, .hole tI, .sl0 2 (.prod .str tI), .sl0 3 (.prod tI (.prod tI (.prod tI tI)))] false), (1, .arr tI false), (2, .arr (.prod .str tI) true), (3, .arr (.prod tI (.prod tI (.prod tI tI))) true)] [.slot 13, .slot 16, .cell 0 3, .cell 0 4] []
@[reducible] def x3_4 : Outs := [(.ret, Pat.mk [(8, .c (.tf false))] [] [] []), (.exit 8, Pat.mk [(13, .c (.ptr 0 0)), (30, hI)] [(0, .cells [.hole tI, .hole tI, .hole tI, .sl0 1 (.prod .str tI), .sl0 2 (.prod tI (.prod tI (.prod tI tI)))] false), (1, .arr (.prod .str tI) true), (2, .arr (.prod tI (.prod tI (.prod tI tI))) true)] [.slot 13, .cell 0 3, .cell 0 4] [])]
noncomputable def b3_4 : D prog 278 none 0 := dO [.l L3_5] (pick (kd prog f3) [(3, false)]) 0
noncomputable def g3_4 : Nat × List Int × List Int × Int × Int × Int × Int × Int × Int × Nat × Nat × List Int × (List (ByteArray × Int)) × (List (Int × Int × Int × Int)) × Unit → Tr0 ((Nat × List Int × List Int × Int × Int × Int × Int × Int × Int × Nat × Nat × List Int × (List (ByteArray × Int)) × (List (Int × Int × Int × Int)) × Unit) ⊕ ((Unit) ⊕ ((Int × Int × Int × Int × Nat × Nat × (List (ByteArray × Int)) × (List (Int × Int × Int × Int)) × Unit)))) := fun (nv16, v23, v29, v30, v224, v225, c0_0, c0_1, c0_2, nc0_3, nc0_4, b1, b2, b3, _) =>
 .br (decide (v225 < v224)) (
 .nb v225 (((v29).length : Nat) : Int) <|
 .ni (v30 + ((v29).getD (Int.toNat v225) (0 : Int))) <|
 .bd (.it g3_5 (nv16, (v23, (v29, ((v30 + ((v29).getD (Int.toNat v225) (0 : Int))), (v225, (v224, (v225, ((((v29).length : Nat) : Int), ((0 : Int), (c0_0, (c0_1, (c0_2, (nc0_3, (nc0_4, (b1, (b2, (b3, ())))))))))))))))))) fun z17 =>
 .sm z17 (fun z18 =>
 .ret (.inr <| .inl <| ())) fun z19 =>
 .nb z19.2.2.2.2.1 (((z19.2.2.1).length : Nat) : Int) <|
 .nb z19.2.2.2.2.1 (((z19.2.1).length : Nat) : Int) <|
 .br (decide (((z19.2.1).getD (Int.toNat z19.2.2.2.2.1) (0 : Int)) < ((z19.2.2.1).getD (Int.toNat z19.2.2.2.2.1) (0 : Int)))) (
 .ret (.inr <| .inl <| ())) (
 .ni (z19.2.2.2.2.2.2.1 + (1 : Int)) <|
 .ret (.inl (z19.1, (z19.2.1, (z19.2.2.1, (z19.2.2.2.1, (z19.2.2.2.2.2.1, ((z19.2.2.2.2.2.2.1 + (1 : Int)), (z19.2.2.2.2.2.2.2.1, (z19.2.2.2.2.2.2.2.2.1, (z19.2.2.2.2.2.2.2.2.2.1, (z19.2.2.2.2.2.2.2.2.2.2.1, (z19.2.2.2.2.2.2.2.2.2.2.2.1, (z19.2.2.2.2.2.2.2.2.2.2.2.2.1, (z19.2.2.2.2.2.2.2.2.2.2.2.2.2.1, (z19.2.2.2.2.2.2.2.2.2.2.2.2.2.2.1, ()))))))))))))))))) (
 .ret (.inr <| .inr <| (v30, (c0_0, (c0_1, (c0_2, (nc0_3, (nc0_4, (b2, (b3, ()))))))))))
theorem s3_4 : ∀ x, roundE (kzO (p3_4.T ⊕ x3_4.T)) cx3 ar0 [] p3_4 x3_4 (b3_4) (fun y => some (.inl y)) (fun b => some (.inr b)) x = run0 (g3_4 x) := fun x => by kernel_rfl
noncomputable def L3_4 : LoopS prog 278 none 0 := mkLoop mixed cx3 cx3_ok [] rfl p3_4 x3_4 rfl (b3_4) (fun x => run0 (g3_4 x)) (s3_4)
noncomputable def dd3 : D prog 278 none 0 := dO [.l L3_0, .l L3_1, .l L3_3, .l L3_4] (kd prog f3) 0
noncomputable def F3 (a0 : List (Int × Int × Int)) (a1 : Int × Int × Int × Int) (a2 : Int) (a3 : Int) : Tr0 (Bool × Unit) :=
 .bd (F4 a0) fun y0 =>
 .ni a2 <|
 .nd (!((10 : Int) == (0 : Int))) <|
 .bd (F5 y0.1 (Int.tmod a2 (10 : Int))) fun y1 =>
 .br (!(y1.2.2.1 == (0 : Int))) (
 .ret (false, ())) (
 .br (!((((y1.1).length : Nat) : Int) == (((y0.1).length : Nat) : Int))) (
 .ret (false, ())) (
 .bd (.it g3_0 (a3, (y0.1, (y1.1, (y1.2.1, ((3 : Nat), ((3 : Int), ((0 : Int), ((a1.1 :: (a1.2.1 :: (a1.2.2.1 :: (a1.2.2.2 :: [])))), (y1.2.1, ((0 : Int), ((0 : Int), ((0 : Nat), (((bs [97, 110, 97]) :: ((bs [98, 101, 110]) :: ((bs [99, 121]) :: []))), ([], ()))))))))))))))) fun z3 =>
 .sm z3 (fun z4 =>
 .ret (false, ())) fun z5 =>
 .nb (3 : Int) ((bigL : Nat) : Int) <|
 .bd (.it g3_1 (z5.1, (z5.2.1, (z5.2.2.2.1, ((Int.toNat (3 : Int)), (z5.2.2.1, ((((z5.2.2.1).length : Nat) : Int), ((0 : Int), (z5.2.2.2.2.1, (z5.2.2.2.2.2.1, (z5.2.2.2.2.2.2.1, (z5.2.2.2.2.2.2.2.1, (z5.2.2.2.2.2.2.2.2.1, ((0 : Nat), ((List.replicate (Int.toNat (3 : Int)) (0 : Int)), (z5.2.2.2.2.2.2.2.2.2.1, ([], ()))))))))))))))))) fun z7 =>
 .sm z7 (fun z8 =>
 .ret (false, ())) fun z9 =>
 .bd (F7 (z9.2.2.2.1, (z9.2.2.2.2.1, (z9.2.2.2.2.2.1, ((((z9.2.2.2.2.2.2.2.2.2.1).drop (0 : Nat)).take z9.2.2.2.2.2.2.1), (((z9.2.2.2.2.2.2.2.2.2.2.1).drop (0 : Nat)).take z9.2.2.2.2.2.2.2.1)))))) fun y10 =>
 .bd (F8 (z9.2.2.2.1, (z9.2.2.2.2.1, (z9.2.2.2.2.2.1, ((((z9.2.2.2.2.2.2.2.2.2.1).drop (0 : Nat)).take z9.2.2.2.2.2.2.1), (((z9.2.2.2.2.2.2.2.2.2.2.1).drop (0 : Nat)).take z9.2.2.2.2.2.2.2.1)))))) fun y11 =>
 .bd (F9 (z9.2.2.2.1, (z9.2.2.2.2.1, (z9.2.2.2.2.2.1, ((((z9.2.2.2.2.2.2.2.2.2.1).drop (0 : Nat)).take z9.2.2.2.2.2.2.1), (((z9.2.2.2.2.2.2.2.2.2.2.1).drop (0 : Nat)).take z9.2.2.2.2.2.2.2.1)))))) fun y12 =>
 .br (!(y10.2.2.1 == (0 : Int))) (
 .ret (false, ())) (
 .br (!(y11.2.1 == (0 : Int))) (
 .ret (false, ())) (
 .br (!(y12.2.2.1 == (0 : Int))) (
 .ret (false, ())) (
 .br (!((((y10.1).length : Nat) : Int) == (3 : Int))) (
 .ret (false, ())) (
 .br (!((((y11.1).length : Nat) : Int) == (3 : Int))) (
 .ret (false, ())) (
 .br (decide ((0 : Int) < z9.2.1)) (
 .br (!(y12.1 == (1 : Int))) (
 .ret (false, ())) (
 .br (!(y12.2.1 == (1 : Int))) (
 .ret (false, ())) (
 .bd (.it g3_3 (z9.1, (z9.2.1, (z9.2.2.1, (y10.1, (y11.1, (((z9.2.2.1 : Nat) : Int), ((0 : Int), (z9.2.2.2.1, (z9.2.2.2.2.1, (z9.2.2.2.2.2.1, (z9.2.2.2.2.2.2.1, (z9.2.2.2.2.2.2.2.1, (z9.2.2.2.2.2.2.2.2.1, (z9.2.2.2.2.2.2.2.2.2.1, (z9.2.2.2.2.2.2.2.2.2.2.1, ())))))))))))))))) fun z13 =>
 .sm z13 (fun z14 =>
 .ret (false, ())) fun z15 =>
 .ni z15.1 <|
 .ni (z15.2.1 - z15.1) <|
 .bd (F8 ((imax (0 : Int) (z15.2.1 - z15.1)), (z15.2.2.2.2.2.1, (z15.2.2.2.2.2.2.1, ((((z15.2.2.2.2.2.2.2.2.2.2.1).drop (0 : Nat)).take z15.2.2.2.2.2.2.2.1), (((z15.2.2.2.2.2.2.2.2.2.2.2.1).drop (0 : Nat)).take z15.2.2.2.2.2.2.2.2.1)))))) fun y16 =>
 .br (!(y16.2.1 == (0 : Int))) (
 .ret (false, ())) (
 .br (!((((y16.1).length : Nat) : Int) == (3 : Int))) (
 .ret (false, ())) (
 .bd (.it g3_4 (z15.2.2.1, (z15.2.2.2.1, (y16.1, ((0 : Int), ((((y16.1).length : Nat) : Int), ((0 : Int), ((imax (0 : Int) (z15.2.1 - z15.1)), (z15.2.2.2.2.2.1, (z15.2.2.2.2.2.2.1, (z15.2.2.2.2.2.2.2.1, (z15.2.2.2.2.2.2.2.2.1, (z15.2.2.2.2.2.2.2.2.2.1, (z15.2.2.2.2.2.2.2.2.2.2.1, (z15.2.2.2.2.2.2.2.2.2.2.2.1, ()))))))))))))))) fun z20 =>
 .sm z20 (fun z21 =>
 .ret (false, ())) fun z22 =>
 .br (z22.1 == z22.2.1) (
 .bd (F10) fun y23 =>
 .ret (y23.1, ())) (
 .ret (false, ()))))))) (
 .bd (.it g3_3 (z9.1, (z9.2.1, (z9.2.2.1, (y10.1, (y11.1, (((z9.2.2.1 : Nat) : Int), ((0 : Int), (z9.2.2.2.1, (z9.2.2.2.2.1, (z9.2.2.2.2.2.1, (z9.2.2.2.2.2.2.1, (z9.2.2.2.2.2.2.2.1, (z9.2.2.2.2.2.2.2.2.1, (z9.2.2.2.2.2.2.2.2.2.1, (z9.2.2.2.2.2.2.2.2.2.2.1, ())))))))))))))))) fun z24 =>
 .sm z24 (fun z25 =>
 .ret (false, ())) fun z26 =>
 .ni z26.1 <|
 .ni (z26.2.1 - z26.1) <|
 .bd (F8 ((imax (0 : Int) (z26.2.1 - z26.1)), (z26.2.2.2.2.2.1, (z26.2.2.2.2.2.2.1, ((((z26.2.2.2.2.2.2.2.2.2.2.1).drop (0 : Nat)).take z26.2.2.2.2.2.2.2.1), (((z26.2.2.2.2.2.2.2.2.2.2.2.1).drop (0 : Nat)).take z26.2.2.2.2.2.2.2.2.1)))))) fun y27 =>
 .br (!(y27.2.1 == (0 : Int))) (
 .ret (false, ())) (
 .br (!((((y27.1).length : Nat) : Int) == (3 : Int))) (
 .ret (false, ())) (
 .bd (.it g3_4 (z26.2.2.1, (z26.2.2.2.1, (y27.1, ((0 : Int), ((((y27.1).length : Nat) : Int), ((0 : Int), ((imax (0 : Int) (z26.2.1 - z26.1)), (z26.2.2.2.2.2.1, (z26.2.2.2.2.2.2.1, (z26.2.2.2.2.2.2.2.1, (z26.2.2.2.2.2.2.2.2.1, (z26.2.2.2.2.2.2.2.2.2.1, (z26.2.2.2.2.2.2.2.2.2.2.1, (z26.2.2.2.2.2.2.2.2.2.2.2.1, ()))))))))))))))) fun z28 =>
 .sm z28 (fun z29 =>
 .ret (false, ())) fun z30 =>
 .br (z30.1 == z30.2.1) (
 .bd (F10) fun y31 =>
 .ret (y31.1, ())) (
 .ret (false, ()))))))))))))
theorem c3_ok : trF prog f3 = some ⟨278, 4, dd3.er, [.t 8], [some .bool]⟩ := by kernel_rfl
noncomputable def ct3 : Ct := ⟨3, [.c (.hole (.list (.prod (.int .u8) (.prod (.int .u8) (.int .u8))))), .c (.hole (.prod (.int .u8) (.prod (.int .u8) (.prod (.int .u8) (.int .u8))))), .c (.hole (.int .u8)), .c (.hole (.int .u8))], .c (.hole .bool), fun x => run0 (F3 x.1 x.2.1 x.2.2.1 x.2.2.2.1)⟩
theorem ct3_ok : ct3.Ok prog := ct_ok mixed cx3_ok func3 c3_ok (enters_of func3 rfl rfl) dd3 (by kernel_rfl) rfl (fun x => by kernel_rfl)

end Go.Proofs.Try

