/- Functions of the program as functions of data, part 1; printed by a program of mine. -/
import Derived.Test.YtdhefcocaomhfaaAMc
import Derived.Test.YtdhefcocaomhfaaProg
set_option linter.unusedSectionVars false
set_option linter.unusedVariables false
set_option linter.unusedSimpArgs false
open Go.AM
namespace Go.Proofs.Try
set_option maxRecDepth 100000
set_option synthInstance.maxSize 4000
set_option synthInstance.maxHeartbeats 400000
set_option synthInstance.maxSize 4000
set_option synthInstance.maxHeartbeats 400000
theorem mixed : prog.follows .mixedOrders = true := by kernel_rfl
@[reducible] def oo (n : Nat) (i : I) : Itm := .op (some n) none i
@[reducible] def om (n k : Nat) : Itm := .op (some n) none (.mv (.t k))
@[reducible] def ol (n k : Nat) : Itm := .op (some n) none (.load false 1 (.t k))
@[reducible] def og (n k : Nat) (b : Bool) (i : I) : Itm := .op (some n) (some (k, b)) i
@[reducible] def ki (n : Nat) : O := .c (.int .i64 (Int.ofNat n))
@[reducible] def hzI : SP := .c (.hole (.int .i64))
@[reducible] def hzL : SP := .c (.hole (.list (.int .i64)))
@[reducible] def hzM : SP := .c (.hole (.list (.list (.int .i64))))

/- 40 -/
noncomputable def cx40 : Cx := mkCxH [] []
theorem cx40_ok : cx40.Ok prog := mkCxH_ok trivial trivial
noncomputable def dd40 : D prog 20 none 0 := dO [] (kd prog f40) 0
noncomputable def F40 (a0 : Int) (a1 : Int) (a2 : Int) : Tr0 ((Int × Int × Int × (List (ByteArray × Int)) × List (Int × Int × Int × Int)) × Unit) :=
 .ret ((a0, (a1, (a1, (((((((bs [97, 110, 97]), a2) :: (((bs [98, 101, 110]), (9000 : Int)) :: (((bs [99, 121]), (9000 : Int)) :: [])))).drop (0 : Nat)).take (3 : Nat)), ((((((0 : Int), ((300 : Int), ((100 : Int), (150 : Int)))) :: (((1 : Int), ((250 : Int), ((50 : Int), (100 : Int)))) :: (((2 : Int), ((200 : Int), ((100 : Int), (100 : Int)))) :: [])))).drop (0 : Nat)).take (3 : Nat)))))), ())
theorem c40_ok : trF prog f40 = some ⟨20, 3, dd40.er, [.cell 6 true 5], [some (.prod tI (.prod tI (.prod tI (.prod (.list (.prod .str tI)) (.list (.prod tI (.prod tI (.prod tI tI))))))))]⟩ := by kernel_rfl
noncomputable def ct40 : Ct := ⟨40, [hI, hI, hI], .c (.hole (.prod tI (.prod tI (.prod tI (.prod (.list (.prod .str tI)) (.list (.prod tI (.prod tI (.prod tI tI))))))))), fun x => run0 (F40 x.1 x.2.1 x.2.2.1)⟩
theorem ct40_ok : ct40.Ok prog := ct_ok mixed cx40_ok func40 c40_ok (enters_of func40 rfl rfl) dd40 (by kernel_rfl) rfl (fun x => by kernel_rfl)

/- 65 -/
noncomputable def cx65 : Cx := mkCxH [] []
theorem cx65_ok : cx65.Ok prog := mkCxH_ok trivial trivial
noncomputable def dd65 : D prog 15 none 0 := dO [] (kd prog f65) 0
noncomputable def F65 (a0 : Int) (a1 : Int) (a2 : Int) : Tr0 (Bool × Unit) :=
 .br (decide (a0 ≤ a1)) (
 .ret ((decide (a1 ≤ a2)), ())) (
 .ret (false, ()))
theorem c65_ok : trF prog f65 = some ⟨15, 3, dd65.er, [.t 6], [some .bool]⟩ := by kernel_rfl
noncomputable def ct65 : Ct := ⟨65, [hI, hI, hI], .c (.hole .bool), fun x => run0 (F65 x.1 x.2.1 x.2.2.1)⟩
theorem ct65_ok : ct65.Ok prog := ct_ok mixed cx65_ok func65 c65_ok (enters_of func65 rfl rfl) dd65 (by kernel_rfl) rfl (fun x => by kernel_rfl)

/- 46 -/
noncomputable def cx46 : Cx := mkCxH [ct65] []
theorem cx46_ok : cx46.Ok prog := mkCxH_ok ⟨ct65_ok, trivial⟩ trivial
noncomputable def dd46 : D prog 19 none 0 := dO [] (kd prog f46) 0
noncomputable def F46 (a0 : Int × Int × Int × (List (ByteArray × Int)) × List (Int × Int × Int × Int)) : Tr0 (Int × Unit) :=
 .bd (F65 (0 : Int) a0.1 (1000000000 : Int)) fun y0 =>
 .br (!y0.1) (
 .ret ((2 : Int), ())) (
 .bd (F65 (0 : Int) a0.2.1 (1000 : Int)) fun y1 =>
 .br (!y1.1) (
 .ret ((2 : Int), ())) (
 .bd (F65 (0 : Int) a0.2.2.1 (1000 : Int)) fun y2 =>
 .br (!y2.1) (
 .ret ((2 : Int), ())) (
 .ret ((0 : Int), ()))))
theorem c46_ok : trF prog f46 = some ⟨19, 1, dd46.er, [.t 2], [some tI]⟩ := by kernel_rfl
noncomputable def ct46 : Ct := ⟨46, [.c (.hole (.prod tI (.prod tI (.prod tI (.prod (.list (.prod .str tI)) (.list (.prod tI (.prod tI (.prod tI tI)))))))))], hI, fun x => run0 (F46 x.1)⟩
theorem ct46_ok : ct46.Ok prog := ct_ok mixed cx46_ok func46 c46_ok (enters_of func46 rfl rfl) dd46 (by kernel_rfl) rfl (fun x => by kernel_rfl)

/- 67 -/
noncomputable def cx67 : Cx := mkCxH [] []
theorem cx67_ok : cx67.Ok prog := mkCxH_ok trivial trivial
@[reducible] def p67_0 : Pat := Pat.mk [(0, .c (.hole .str)), (6, .c (.hole (.list (.int .u8)))), (7, hI), (8, hI)] [] [] []
@[reducible] def x67_0 : Outs := [(.ret, Pat.mk [(2, .c (.tf false))] [] [] []), (.exit 0, Pat.mk [(0, .c (.hole .str))] [] [] [])]
noncomputable def b67_0 : D prog 40 none 0 := dO [] (pick (kd prog f67) [(0, false)]) 0
noncomputable def g67_0 : ByteArray × List Int × Int × Int × Unit → Tr0 ((ByteArray × List Int × Int × Int × Unit) ⊕ ((Unit) ⊕ ((ByteArray × Unit)))) := fun (v0, v6, v7, v8, _) =>
 .br (decide (v8 < v7)) (
 .nb v8 (((v6).length : Nat) : Int) <|
 .br (decide (((v6).getD (Int.toNat v8) (0 : Int)) < (97 : Int))) (
 .br (v8 == (0 : Int)) (
 .ret (.inr <| .inl <| ())) (
 .br (decide (((v6).getD (Int.toNat v8) (0 : Int)) < (48 : Int))) (
 .ret (.inr <| .inl <| ())) (
 .br (decide ((57 : Int) < ((v6).getD (Int.toNat v8) (0 : Int)))) (
 .ret (.inr <| .inl <| ())) (
 .ni (v8 + (1 : Int)) <|
 .ret (.inl (v0, (v6, (v7, ((v8 + (1 : Int)), ()))))))))) (
 .br (decide ((122 : Int) < ((v6).getD (Int.toNat v8) (0 : Int)))) (
 .br (v8 == (0 : Int)) (
 .ret (.inr <| .inl <| ())) (
 .br (decide (((v6).getD (Int.toNat v8) (0 : Int)) < (48 : Int))) (
 .ret (.inr <| .inl <| ())) (
 .br (decide ((57 : Int) < ((v6).getD (Int.toNat v8) (0 : Int)))) (
 .ret (.inr <| .inl <| ())) (
 .ni (v8 + (1 : Int)) <|
 .ret (.inl (v0, (v6, (v7, ((v8 + (1 : Int)), ()))))))))) (
 .ni (v8 + (1 : Int)) <|
 .ret (.inl (v0, (v6, (v7, ((v8 + (1 : Int)), ())))))))) (
 .ret (.inr <| .inr <| (v0, ())))
theorem s67_0 : ∀ x, roundE (kzO (p67_0.T ⊕ x67_0.T)) cx67 ar0 [] p67_0 x67_0 (b67_0) (fun y => some (.inl y)) (fun b => some (.inr b)) x = run0 (g67_0 x) := fun x => by kernel_rfl
noncomputable def L67_0 : LoopS prog 40 none 0 := mkLoop mixed cx67 cx67_ok [] rfl p67_0 x67_0 rfl (b67_0) (fun x => run0 (g67_0 x)) (s67_0)
noncomputable def dd67 : D prog 40 none 0 := dO [.l L67_0] (kd prog f67) 0
noncomputable def F67 (a0 : ByteArray) : Tr0 (Bool × Unit) :=
 .bd (.it g67_0 (a0, ((bysL a0), (((((bysL a0)).length : Nat) : Int), ((0 : Int), ()))))) fun z0 =>
 .sm z0 (fun z1 =>
 .ret (false, ())) fun z2 =>
 .br (decide ((0 : Int) < ((z2.1.size : Nat) : Int))) (
 .ret ((decide (((z2.1.size : Nat) : Int) ≤ (10 : Int))), ())) (
 .ret (false, ()))
theorem c67_ok : trF prog f67 = some ⟨40, 1, dd67.er, [.t 2], [some .bool]⟩ := by kernel_rfl
noncomputable def ct67 : Ct := ⟨67, [.c (.hole .str)], .c (.hole .bool), fun x => run0 (F67 x.1)⟩
theorem ct67_ok : ct67.Ok prog := ct_ok mixed cx67_ok func67 c67_ok (enters_of func67 rfl rfl) dd67 (by kernel_rfl) rfl (fun x => by kernel_rfl)

/- 47 -/
noncomputable def cx47 : Cx := mkCxH [ct67, ct65] []
theorem cx47_ok : cx47.Ok prog := mkCxH_ok ⟨ct67_ok, ct65_ok, trivial⟩ trivial
@[reducible] def p47_0 : Pat := Pat.mk [(3, .c (.mp 0)), (18, .c (.hole (.list (.prod .str tI)))), (19, hI), (20, hI)] [(0, .map .str false .bool false)] [.slot 3] []
@[reducible] def x47_0 : Outs := [(.ret, Pat.mk [(2, hI)] [] [] []), (.exit 1, Pat.mk [] [] [] [])]
noncomputable def b47_0 : D prog 43 none 0 := dO [] (pick (kd prog f47) [(0, false)]) 0
noncomputable def g47_0 : (List (ByteArray × Int)) × Int × Int × (List (ByteArray × Bool)) × Unit → Tr0 (((List (ByteArray × Int)) × Int × Int × (List (ByteArray × Bool)) × Unit) ⊕ ((Int × Unit) ⊕ ((Unit)))) := fun (v18, v19, v20, m0, _) =>
 .br (decide (v20 < v19)) (
 .nb v20 (((v18).length : Nat) : Int) <|
 .bd (F67 ((v18).getD (Int.toNat v20) ((bs []), (0 : Int))).1) fun y0 =>
 .br (!y0.1) (
 .ret (.inr <| .inl <| ((8 : Int), ()))) (
 .br (mgetL .str false m0 ((v18).getD (Int.toNat v20) ((bs []), (0 : Int))).1) (
 .ret (.inr <| .inl <| ((6 : Int), ()))) (
 .bd (F65 (0 : Int) ((v18).getD (Int.toNat v20) ((bs []), (0 : Int))).2 (1000000000 : Int)) fun y1 =>
 .br (!y1.1) (
 .ret (.inr <| .inl <| ((2 : Int), ()))) (
 .ni (v20 + (1 : Int)) <|
 .ret (.inl (v18, (v19, ((v20 + (1 : Int)), ((msetL .str m0 ((v18).getD (Int.toNat v20) ((bs []), (0 : Int))).1 true), ()))))))))) (
 .ret (.inr <| .inr <| ()))
theorem s47_0 : ∀ x, roundE (kzO (p47_0.T ⊕ x47_0.T)) cx47 ar0 [] p47_0 x47_0 (b47_0) (fun y => some (.inl y)) (fun b => some (.inr b)) x = run0 (g47_0 x) := fun x => by kernel_rfl
noncomputable def L47_0 : LoopS prog 43 none 0 := mkLoop mixed cx47 cx47_ok [] rfl p47_0 x47_0 rfl (b47_0) (fun x => run0 (g47_0 x)) (s47_0)
noncomputable def dd47 : D prog 43 none 0 := dO [.l L47_0] (kd prog f47) 0
noncomputable def F47 (a0 : Int × Int × Int × (List (ByteArray × Int)) × List (Int × Int × Int × Int)) : Tr0 (Int × Unit) :=
 .br ((((a0.2.2.2.1).length : Nat) : Int) == (0 : Int)) (
 .ret ((4 : Int), ())) (
 .br (decide ((12 : Int) < (((a0.2.2.2.1).length : Nat) : Int))) (
 .ret ((1 : Int), ())) (
 .bd (.it g47_0 (a0.2.2.2.1, ((((a0.2.2.2.1).length : Nat) : Int), ((0 : Int), ([], ()))))) fun z2 =>
 .sm z2 (fun z3 =>
 .ret (z3.1, ())) fun z4 =>
 .ret ((0 : Int), ())))
theorem c47_ok : trF prog f47 = some ⟨43, 1, dd47.er, [.t 2], [some tI]⟩ := by kernel_rfl
noncomputable def ct47 : Ct := ⟨47, [.c (.hole (.prod tI (.prod tI (.prod tI (.prod (.list (.prod .str tI)) (.list (.prod tI (.prod tI (.prod tI tI)))))))))], hI, fun x => run0 (F47 x.1)⟩
theorem ct47_ok : ct47.Ok prog := ct_ok mixed cx47_ok func47 c47_ok (enters_of func47 rfl rfl) dd47 (by kernel_rfl) rfl (fun x => by kernel_rfl)

/- 48 -/
noncomputable def cx48 : Cx := mkCxH [ct65] []
theorem cx48_ok : cx48.Ok prog := mkCxH_ok ⟨ct65_ok, trivial⟩ trivial
@[reducible] def p48_0 : Pat := Pat.mk [(1, .c (.ptr 0 0)), (10, .c (.hole (.list (.prod tI (.prod tI (.prod tI tI)))))), (11, hI), (12, hI)] [(0, .cells [.hole tI, .hole tI, .hole tI, .hole (.list (.prod .str tI)), .hole (.list (.prod tI (.prod tI (.prod tI tI))))] false)] [.slot 1] []
@[reducible] def x48_0 : Outs := [(.ret, Pat.mk [(2, hI)] [] [] []), (.exit 0, Pat.mk [] [] [] [])]
noncomputable def b48_0 : D prog 45 none 0 := dO [] (pick (kd prog f48) [(0, false)]) 0
noncomputable def g48_0 : (List (Int × Int × Int × Int)) × Int × Int × Int × Int × Int × (List (ByteArray × Int)) × (List (Int × Int × Int × Int)) × Unit → Tr0 (((List (Int × Int × Int × Int)) × Int × Int × Int × Int × Int × (List (ByteArray × Int)) × (List (Int × Int × Int × Int)) × Unit) ⊕ ((Int × Unit) ⊕ ((Unit)))) := fun (v10, v11, v12, c0_0, c0_1, c0_2, c0_3, c0_4, _) =>
 .br (decide (v12 < v11)) (
 .nb v12 (((v10).length : Nat) : Int) <|
 .ni ((((c0_3).length : Nat) : Int) - (1 : Int)) <|
 .bd (F65 (0 : Int) ((v10).getD (Int.toNat v12) ((0 : Int), ((0 : Int), ((0 : Int), (0 : Int))))).1 ((((c0_3).length : Nat) : Int) - (1 : Int))) fun y0 =>
 .br (!y0.1) (
 .ret (.inr <| .inl <| ((5 : Int), ()))) (
 .bd (F65 (0 : Int) ((v10).getD (Int.toNat v12) ((0 : Int), ((0 : Int), ((0 : Int), (0 : Int))))).2.1 (100000 : Int)) fun y1 =>
 .br (!y1.1) (
 .ret (.inr <| .inl <| ((2 : Int), ()))) (
 .bd (F65 (0 : Int) ((v10).getD (Int.toNat v12) ((0 : Int), ((0 : Int), ((0 : Int), (0 : Int))))).2.2.1 ((v10).getD (Int.toNat v12) ((0 : Int), ((0 : Int), ((0 : Int), (0 : Int))))).2.1) fun y2 =>
 .br (!y2.1) (
 .ret (.inr <| .inl <| ((2 : Int), ()))) (
 .bd (F65 (0 : Int) ((v10).getD (Int.toNat v12) ((0 : Int), ((0 : Int), ((0 : Int), (0 : Int))))).2.2.2 (1000 : Int)) fun y3 =>
 .br (!y3.1) (
 .ret (.inr <| .inl <| ((2 : Int), ()))) (
 .ni (v12 + (1 : Int)) <|
 .ret (.inl (v10, (v11, ((v12 + (1 : Int)), (c0_0, (c0_1, (c0_2, (c0_3, (c0_4, ())))))))))))))) (
 .ret (.inr <| .inr <| ()))
theorem s48_0 : ∀ x, roundE (kzO (p48_0.T ⊕ x48_0.T)) cx48 ar0 [] p48_0 x48_0 (b48_0) (fun y => some (.inl y)) (fun b => some (.inr b)) x = run0 (g48_0 x) := fun x => by kernel_rfl
noncomputable def L48_0 : LoopS prog 45 none 0 := mkLoop mixed cx48 cx48_ok [] rfl p48_0 x48_0 rfl (b48_0) (fun x => run0 (g48_0 x)) (s48_0)
noncomputable def dd48 : D prog 45 none 0 := dO [.l L48_0] (kd prog f48) 0
noncomputable def F48 (a0 : Int × Int × Int × (List (ByteArray × Int)) × List (Int × Int × Int × Int)) : Tr0 (Int × Unit) :=
 .br (decide ((50 : Int) < (((a0.2.2.2.2).length : Nat) : Int))) (
 .ret ((1 : Int), ())) (
 .bd (.it g48_0 (a0.2.2.2.2, ((((a0.2.2.2.2).length : Nat) : Int), ((0 : Int), (a0.1, (a0.2.1, (a0.2.2.1, (a0.2.2.2.1, (a0.2.2.2.2, ()))))))))) fun z4 =>
 .sm z4 (fun z5 =>
 .ret (z5.1, ())) fun z6 =>
 .ret ((0 : Int), ()))
theorem c48_ok : trF prog f48 = some ⟨45, 1, dd48.er, [.t 2], [some tI]⟩ := by kernel_rfl
noncomputable def ct48 : Ct := ⟨48, [.c (.hole (.prod tI (.prod tI (.prod tI (.prod (.list (.prod .str tI)) (.list (.prod tI (.prod tI (.prod tI tI)))))))))], hI, fun x => run0 (F48 x.1)⟩
theorem ct48_ok : ct48.Ok prog := ct_ok mixed cx48_ok func48 c48_ok (enters_of func48 rfl rfl) dd48 (by kernel_rfl) rfl (fun x => by kernel_rfl)

/- 22 -/
noncomputable def cx22 : Cx := mkCxH [ct46, ct47, ct48] []
theorem cx22_ok : cx22.Ok prog := mkCxH_ok ⟨ct46_ok, ct47_ok, ct48_ok, trivial⟩ trivial
noncomputable def b22_0 : D prog 21 none 0 := dO [] (pick (kd prog f22) [(0, false)]) 0
noncomputable def L22_0 : LoopS prog 21 none 0 := mkUnr mixed cx22 cx22_ok (b22_0) 4
noncomputable def dd22 : D prog 21 none 0 := dO [.l L22_0] (kd prog f22) 0
noncomputable def F22 (a0 : Int × Int × Int × (List (ByteArray × Int)) × List (Int × Int × Int × Int)) : Tr0 (Int × Unit) :=
 .br (decide ((0 : Int) < (3 : Int))) (
 .bd (F46 (a0.1, (a0.2.1, (a0.2.2.1, (a0.2.2.2.1, a0.2.2.2.2))))) fun y0 =>
 .br (!(y0.1 == (0 : Int))) (
 .ret (y0.1, ())) (
 .ni ((0 : Int) + (1 : Int)) <|
 .br (decide ((1 : Int) < (3 : Int))) (
 .bd (F47 (a0.1, (a0.2.1, (a0.2.2.1, (a0.2.2.2.1, a0.2.2.2.2))))) fun y1 =>
 .br (!(y1.1 == (0 : Int))) (
 .ret (y1.1, ())) (
 .ni ((1 : Int) + (1 : Int)) <|
 .br (decide ((2 : Int) < (3 : Int))) (
 .bd (F48 (a0.1, (a0.2.1, (a0.2.2.1, (a0.2.2.2.1, a0.2.2.2.2))))) fun y2 =>
 .br (!(y2.1 == (0 : Int))) (
 .ret (y2.1, ())) (
 .ni ((2 : Int) + (1 : Int)) <|
 .br (decide ((3 : Int) < (3 : Int))) (
 .no) (
 .ret ((0 : Int), ())))) (
 .ret ((0 : Int), ())))) (
 .ret ((0 : Int), ())))) (
 .ret ((0 : Int), ()))
theorem c22_ok : trF prog f22 = some ⟨21, 1, dd22.er, [.t 2], [some tI]⟩ := by kernel_rfl
noncomputable def ct22 : Ct := ⟨22, [.c (.hole (.prod tI (.prod tI (.prod tI (.prod (.list (.prod .str tI)) (.list (.prod tI (.prod tI (.prod tI tI)))))))))], hI, fun x => run0 (F22 x.1)⟩
theorem ct22_ok : ct22.Ok prog := ct_ok mixed cx22_ok func22 c22_ok (enters_of func22 rfl rfl) dd22 (by kernel_rfl) rfl (fun x => by kernel_rfl)

/- 44 -/
noncomputable def cx44 : Cx := mkCxH [] []
theorem cx44_ok : cx44.Ok prog := mkCxH_ok trivial trivial
noncomputable def dd44 : D prog 8 none 0 := dO [] (kd prog f44) 0
noncomputable def F44 (a0 : Int) (a1 : Int) : Tr0 (Int × Unit) :=
 .ni (a0 * a1) <|
 .ret ((a0 * a1), ())
theorem c44_ok : trF prog f44 = some ⟨8, 2, dd44.er, [.t 4], [some tI]⟩ := by kernel_rfl
noncomputable def ct44 : Ct := ⟨44, [hI, hI], hI, fun x => run0 (F44 x.1 x.2.1)⟩
theorem ct44_ok : ct44.Ok prog := ct_ok mixed cx44_ok func44 c44_ok (enters_of func44 rfl rfl) dd44 (by kernel_rfl) rfl (fun x => by kernel_rfl)

/- 41 -/
noncomputable def cx41 : Cx := mkCxH [ct44] []
theorem cx41_ok : cx41.Ok prog := mkCxH_ok ⟨ct44_ok, trivial⟩ trivial
@[reducible] def p41_0 : Pat := Pat.mk [(1, .c (.fn0 44)), (5, .c (.sl0 0 tI)), (13, .c (.hole (.list (.prod tI (.prod tI (.prod tI tI)))))), (14, hI), (15, hI)] [(0, .arr tI false)] [.slot 5] []
@[reducible] def x41_0 : Outs := [(.exit 0, Pat.mk [(5, .c (.sl0 0 tI))] [(0, .arr tI false)] [.slot 5] [])]
noncomputable def b41_0 : D prog 37 none 0 := dO [] (pick (kd prog f41) [(0, false)]) 0
noncomputable def g41_0 : Nat × (List (Int × Int × Int × Int)) × Int × Int × List Int × Unit → Tr0 ((Nat × (List (Int × Int × Int × Int)) × Int × Int × List Int × Unit) ⊕ ((Nat × List Int × Unit))) := fun (nv5, v13, v14, v15, b0, _) =>
 .br (decide (v15 < v14)) (
 .nb v15 (((v13).length : Nat) : Int) <|
 .nb ((v13).getD (Int.toNat v15) ((0 : Int), ((0 : Int), ((0 : Int), (0 : Int))))).1 ((nv5 : Nat) : Int) <|
 .nd (decide (((0 : Nat) + (Int.toNat ((v13).getD (Int.toNat v15) ((0 : Int), ((0 : Int), ((0 : Int), (0 : Int))))).1)) < (b0).length)) <|
 .ni (((v13).getD (Int.toNat v15) ((0 : Int), ((0 : Int), ((0 : Int), (0 : Int))))).2.1 - ((v13).getD (Int.toNat v15) ((0 : Int), ((0 : Int), ((0 : Int), (0 : Int))))).2.2.1) <|
 .bd (F44 (((v13).getD (Int.toNat v15) ((0 : Int), ((0 : Int), ((0 : Int), (0 : Int))))).2.1 - ((v13).getD (Int.toNat v15) ((0 : Int), ((0 : Int), ((0 : Int), (0 : Int))))).2.2.1) ((v13).getD (Int.toNat v15) ((0 : Int), ((0 : Int), ((0 : Int), (0 : Int))))).2.2.2) fun y0 =>
 .ni (((b0).getD ((0 : Nat) + (Int.toNat ((v13).getD (Int.toNat v15) ((0 : Int), ((0 : Int), ((0 : Int), (0 : Int))))).1)) (0 : Int)) + y0.1) <|
 .nb ((v13).getD (Int.toNat v15) ((0 : Int), ((0 : Int), ((0 : Int), (0 : Int))))).1 ((nv5 : Nat) : Int) <|
 .nd (decide (((0 : Nat) + (Int.toNat ((v13).getD (Int.toNat v15) ((0 : Int), ((0 : Int), ((0 : Int), (0 : Int))))).1)) < (b0).length)) <|
 .ni (v15 + (1 : Int)) <|
 .ret (.inl (nv5, (v13, (v14, ((v15 + (1 : Int)), (((b0).set ((0 : Nat) + (Int.toNat ((v13).getD (Int.toNat v15) ((0 : Int), ((0 : Int), ((0 : Int), (0 : Int))))).1)) (((b0).getD ((0 : Nat) + (Int.toNat ((v13).getD (Int.toNat v15) ((0 : Int), ((0 : Int), ((0 : Int), (0 : Int))))).1)) (0 : Int)) + y0.1)), ()))))))) (
 .ret (.inr (nv5, (b0, ()))))
theorem s41_0 : ∀ x, roundE (kzO (p41_0.T ⊕ x41_0.T)) cx41 ar0 [] p41_0 x41_0 (b41_0) (fun y => some (.inl y)) (fun b => some (.inr b)) x = run0 (g41_0 x) := fun x => by kernel_rfl
noncomputable def L41_0 : LoopS prog 37 none 0 := mkLoop mixed cx41 cx41_ok [] rfl p41_0 x41_0 rfl (b41_0) (fun x => run0 (g41_0 x)) (s41_0)
noncomputable def dd41 : D prog 37 none 0 := dO [.l L41_0] (kd prog f41) 0
noncomputable def F41 (a0 : Int × Int × Int × (List (ByteArray × Int)) × List (Int × Int × Int × Int)) : Tr0 (List Int × Unit) :=
 .nb (((a0.2.2.2.1).length : Nat) : Int) ((bigL : Nat) : Int) <|
 .bd (.it g41_0 ((Int.toNat (((a0.2.2.2.1).length : Nat) : Int)), (a0.2.2.2.2, ((((a0.2.2.2.2).length : Nat) : Int), ((0 : Int), ((List.replicate (Int.toNat (((a0.2.2.2.1).length : Nat) : Int)) (0 : Int)), ())))))) fun z1 =>
 .ret ((((z1.2.1).drop (0 : Nat)).take z1.1), ())
theorem c41_ok : trF prog f41 = some ⟨37, 2, dd41.er, [.t 4], [some tL]⟩ := by kernel_rfl
noncomputable def ct41 : Ct := ⟨41, [.c (.hole (.prod tI (.prod tI (.prod tI (.prod (.list (.prod .str tI)) (.list (.prod tI (.prod tI (.prod tI tI))))))))), .c (.fn0 44)], hL, fun x => run0 (F41 x.1)⟩
theorem ct41_ok : ct41.Ok prog := ct_ok mixed cx41_ok func41 c41_ok (enters_of func41 rfl rfl) dd41 (by kernel_rfl) rfl (fun x => by kernel_rfl)

/- 51 -/
noncomputable def cx51 : Cx := mkCxH [] []
theorem cx51_ok : cx51.Ok prog := mkCxH_ok trivial trivial
@[reducible] def p51_0 : Pat := Pat.mk [(1, hL), (2, .c (.ptr 0 0)), (4, .c (.ptr 1 0)), (5, .c (.ptr 2 0)), (9, .c (.hole (.list (.prod .str tI)))), (10, hI), (11, hI)] [(0, .cells [.hole tI, .hole tI, .hole tI, .hole (.list (.prod .str tI)), .hole (.list (.prod tI (.prod tI (.prod tI tI))))] false), (1, .cells [.nsl, .hole tI] false), (2, .cells [.sl0 3 (.prod (.prod .str tI) (.prod tI tI)), .hole tI] false), (3, .arr (.prod (.prod .str tI) (.prod tI tI)) false)] [.slot 2, .slot 4, .slot 5, .cell 2 0] []
@[reducible] def x51_0 : Outs := [(.exit 0, Pat.mk [(2, .c (.ptr 0 0)), (4, .c (.ptr 1 0)), (5, .c (.ptr 2 0))] [(0, .cells [.hole tI, .hole tI, .hole tI, .hole (.list (.prod .str tI)), .hole (.list (.prod tI (.prod tI (.prod tI tI))))] false), (1, .cells [.nsl, .hole tI] false), (2, .cells [.sl0 3 (.prod (.prod .str tI) (.prod tI tI)), .hole tI] false), (3, .arr (.prod (.prod .str tI) (.prod tI tI)) false)] [.slot 2, .slot 4, .slot 5, .cell 2 0] [])]
noncomputable def b51_0 : D prog 47 none 0 := dO [] (pick (kd prog f51) [(0, false)]) 0
noncomputable def g51_0 : List Int × (List (ByteArray × Int)) × Int × Int × Int × Int × Int × (List (ByteArray × Int)) × (List (Int × Int × Int × Int)) × Int × Nat × Int × (List ((ByteArray × Int) × Int × Int)) × Unit → Tr0 ((List Int × (List (ByteArray × Int)) × Int × Int × Int × Int × Int × (List (ByteArray × Int)) × (List (Int × Int × Int × Int)) × Int × Nat × Int × (List ((ByteArray × Int) × Int × Int)) × Unit) ⊕ ((Int × Int × Int × (List (ByteArray × Int)) × (List (Int × Int × Int × Int)) × Int × Nat × Int × (List ((ByteArray × Int) × Int × Int)) × Unit))) := fun (v1, v9, v10, v11, c0_0, c0_1, c0_2, c0_3, c0_4, c1_1, nc2_0, c2_1, b3, _) =>
 .br (decide (v11 < v10)) (
 .nb v11 (((v9).length : Nat) : Int) <|
 .nb v11 (((v1).length : Nat) : Int) <|
 .nd (decide ((nc2_0 + (((((((((v9).getD (Int.toNat v11) ((bs []), (0 : Int))).1, ((v9).getD (Int.toNat v11) ((bs []), (0 : Int))).2), (v11, ((v1).getD (Int.toNat v11) (0 : Int)))) :: [])).drop (0 : Nat)).take (1 : Nat))).length) < bigL)) <|
 .nb v11 (((v1).length : Nat) : Int) <|
 .br (decide ((0 : Int) < ((v1).getD (Int.toNat v11) (0 : Int)))) (
 .ni (c2_1 + ((v9).getD (Int.toNat v11) ((bs []), (0 : Int))).2) <|
 .ni (v11 + (1 : Int)) <|
 .ret (.inl (v1, (v9, (v10, ((v11 + (1 : Int)), (c0_0, (c0_1, (c0_2, (c0_3, (c0_4, (c1_1, ((nc2_0 + (((((((((v9).getD (Int.toNat v11) ((bs []), (0 : Int))).1, ((v9).getD (Int.toNat v11) ((bs []), (0 : Int))).2), (v11, ((v1).getD (Int.toNat v11) (0 : Int)))) :: [])).drop (0 : Nat)).take (1 : Nat))).length), ((c2_1 + ((v9).getD (Int.toNat v11) ((bs []), (0 : Int))).2), (((((b3).drop (0 : Nat)).take nc2_0) ++ ((((((((v9).getD (Int.toNat v11) ((bs []), (0 : Int))).1, ((v9).getD (Int.toNat v11) ((bs []), (0 : Int))).2), (v11, ((v1).getD (Int.toNat v11) (0 : Int)))) :: [])).drop (0 : Nat)).take (1 : Nat))), ()))))))))))))))) (
 .ni (v11 + (1 : Int)) <|
 .ret (.inl (v1, (v9, (v10, ((v11 + (1 : Int)), (c0_0, (c0_1, (c0_2, (c0_3, (c0_4, (c1_1, ((nc2_0 + (((((((((v9).getD (Int.toNat v11) ((bs []), (0 : Int))).1, ((v9).getD (Int.toNat v11) ((bs []), (0 : Int))).2), (v11, ((v1).getD (Int.toNat v11) (0 : Int)))) :: [])).drop (0 : Nat)).take (1 : Nat))).length), (c2_1, (((((b3).drop (0 : Nat)).take nc2_0) ++ ((((((((v9).getD (Int.toNat v11) ((bs []), (0 : Int))).1, ((v9).getD (Int.toNat v11) ((bs []), (0 : Int))).2), (v11, ((v1).getD (Int.toNat v11) (0 : Int)))) :: [])).drop (0 : Nat)).take (1 : Nat))), ())))))))))))))))) (
 .ret (.inr (c0_0, (c0_1, (c0_2, (c0_3, (c0_4, (c1_1, (nc2_0, (c2_1, (b3, ())))))))))))
theorem s51_0 : ∀ x, roundE (kzO (p51_0.T ⊕ x51_0.T)) cx51 ar0 [] p51_0 x51_0 (b51_0) (fun y => some (.inl y)) (fun b => some (.inr b)) x = run0 (g51_0 x) := fun x => by kernel_rfl
noncomputable def L51_0 : LoopS prog 47 none 0 := mkLoop mixed cx51 cx51_ok [] rfl p51_0 x51_0 rfl (b51_0) (fun x => run0 (g51_0 x)) (s51_0)
noncomputable def dd51 : D prog 47 none 0 := dO [.l L51_0] (kd prog f51) 0
noncomputable def F51 (a0 : Int × Int × Int × (List (ByteArray × Int)) × List (Int × Int × Int × Int)) (a1 : List Int) : Tr0 (((List ((ByteArray × Int) × Int × Int)) × Int) × Unit) :=
 .bd (.it g51_0 (a1, (a0.2.2.2.1, ((((a0.2.2.2.1).length : Nat) : Int), ((0 : Int), (a0.1, (a0.2.1, (a0.2.2.1, (a0.2.2.2.1, (a0.2.2.2.2, ((0 : Int), ((0 : Nat), ((0 : Int), ([], ())))))))))))))) fun z0 =>
 .ret (((((z0.2.2.2.2.2.2.2.2.1).drop (0 : Nat)).take z0.2.2.2.2.2.2.1), (imin z0.2.2.2.2.2.2.2.1 z0.1)), ())
theorem c51_ok : trF prog f51 = some ⟨47, 2, dd51.er, [.cell 4 true 2], [some (.prod (.list (.prod (.prod .str tI) (.prod tI tI))) tI)]⟩ := by kernel_rfl
noncomputable def ct51 : Ct := ⟨51, [.c (.hole (.prod tI (.prod tI (.prod tI (.prod (.list (.prod .str tI)) (.list (.prod tI (.prod tI (.prod tI tI))))))))), hL], .c (.hole (.prod (.list (.prod (.prod .str tI) (.prod tI tI))) tI)), fun x => run0 (F51 x.1 x.2.1)⟩
theorem ct51_ok : ct51.Ok prog := ct_ok mixed cx51_ok func51 c51_ok (enters_of func51 rfl rfl) dd51 (by kernel_rfl) rfl (fun x => by kernel_rfl)

/- 69 -/
noncomputable def cx69 : Cx := mkCxH [] []
theorem cx69_ok : cx69.Ok prog := mkCxH_ok trivial trivial
noncomputable def dd69 : D prog 4 none 0 := dO [] (kd prog f69) 0
noncomputable def F69 (a0 : (List ((ByteArray × Int) × Int × Int)) × Int) : Tr0 (((List ((ByteArray × Int) × Int × Int)) × Int) × Unit) :=
 .ret ((a0.1, a0.2), ())
theorem c69_ok : trF prog f69 = some ⟨4, 1, dd69.er, [.t 2], [none]⟩ := by kernel_rfl
noncomputable def ct69 : Ct := ⟨69, [.c (.hole (.prod (.list (.prod (.prod .str tI) (.prod tI tI))) tI))], .fn 78 [] [.ipc (.prod (.list (.prod (.prod .str tI) (.prod tI tI))) tI)], fun x => run0 (F69 x.1)⟩
theorem ct69_ok : ct69.Ok prog := ct_ok mixed cx69_ok func69 c69_ok (enters_of func69 rfl rfl) dd69 (by kernel_rfl) rfl (fun x => by kernel_rfl)

/- 55, lent -/
@[reducible] def pH55 : Pat := Pat.mk [(0, .c (.hole (.list (.prod (.prod .str tI) (.prod tI tI)))))] [] [] []
@[reducible] def qH55 : Pat := Pat.mk [(0, .c (.sl0 0 (.prod (.prod .str tI) (.prod tI tI))))] [(0, .arr (.prod (.prod .str tI) (.prod tI tI)) false)] [.slot 0] []
noncomputable def cxH55 : Cx := mkCxH [] []
theorem cxH55_ok : cxH55.Ok prog := mkCxH_ok trivial trivial
noncomputable def ddH55 : D prog 8 none 0 := dO [] (kd prog f55) 0
noncomputable def FH55 (v0 : List ((ByteArray × Int) × Int × Int)) : Tr0 (Nat × (List ((ByteArray × Int) × Int × Int)) × Unit) :=
 .br ((((v0).length : Nat) : Int) == (0 : Int)) (
 .am inferInstance (
 .ret ((0 : Nat), ([], ()))) (
 .nd (decide (((0 : Nat) + (v0).length) < bigL)) <|
 .ret (((0 : Nat) + (v0).length), ((((([]).drop (0 : Nat)).take (0 : Nat)) ++ v0), ())))) (
 .nd (decide (((0 : Nat) + (v0).length) < bigL)) <|
 .ret (((0 : Nat) + (v0).length), ((((([]).drop (0 : Nat)).take (0 : Nat)) ++ v0), ())))
theorem cH55_ok : trF prog f55 = some ⟨8, 1, ddH55.er, [.t 2], [some (.list (.prod (.prod .str tI) (.prod tI tI)))]⟩ := by kernel_rfl
noncomputable def ht55 : Ht := ⟨55, pH55, qH55, (fun x => run0 (FH55 x.1))⟩
theorem ht55_ok : ht55.Ok prog := ht_ok mixed cxH55_ok rfl func55 cH55_ok (enters_of func55 rfl rfl) ddH55 (by kernel_rfl) rfl rfl ⟨_, rfl⟩ rfl (pre := []) rfl (fun x => by kernel_rfl)

/- 80 -/
noncomputable def cx80 : Cx := mkCxH [] []
theorem cx80_ok : cx80.Ok prog := mkCxH_ok trivial trivial
noncomputable def dd80 : D prog 6 none 0 := dO [] (kd prog f80) 0
noncomputable def F80 (a0 : ByteArray × Int × Int × Int) : Tr0 (Bool × Unit) :=
 .ret ((a0.2.2.2 == (0 : Int)), ())
theorem c80_ok : trF prog f80 = some ⟨6, 1, dd80.er, [.t 2], [some .bool]⟩ := by kernel_rfl
noncomputable def ct80 : Ct := ⟨80, [.c (.hole (.prod .str (.prod tI (.prod tI tI))))], .c (.hole .bool), fun x => run0 (F80 x.1)⟩
theorem ct80_ok : ct80.Ok prog := ct_ok mixed cx80_ok func80 c80_ok (enters_of func80 rfl rfl) dd80 (by kernel_rfl) rfl (fun x => by kernel_rfl)

/- 93 -/
noncomputable def cx93 : Cx := mkCxH [ct80] []
theorem cx93_ok : cx93.Ok prog := mkCxH_ok ⟨ct80_ok, trivial⟩ trivial
@[reducible] def p93_0 : Pat := Pat.mk [(0, .c (.hole (.list (.prod (.prod .str tI) (.prod tI tI))))), (1, .c (.fn0 80)), (7, hI), (8, hI)] [] [] []
@[reducible] def x93_0 : Outs := [(.ret, Pat.mk [(4, hI)] [] [] []), (.exit 0, Pat.mk [] [] [] [])]
noncomputable def b93_0 : D prog 19 none 0 := dO [] (pick (kd prog f93) [(0, false)]) 0
noncomputable def g93_0 : (List ((ByteArray × Int) × Int × Int)) × Int × Int × Unit → Tr0 (((List ((ByteArray × Int) × Int × Int)) × Int × Int × Unit) ⊕ ((Int × Unit) ⊕ ((Unit)))) := fun (v0, v7, v8, _) =>
 .br (decide (v8 < v7)) (
 .nb v8 (((v0).length : Nat) : Int) <|
 .bd (F80 (((v0).getD (Int.toNat v8) (((bs []), (0 : Int)), ((0 : Int), (0 : Int)))).1.1, (((v0).getD (Int.toNat v8) (((bs []), (0 : Int)), ((0 : Int), (0 : Int)))).1.2, (((v0).getD (Int.toNat v8) (((bs []), (0 : Int)), ((0 : Int), (0 : Int)))).2.1, ((v0).getD (Int.toNat v8) (((bs []), (0 : Int)), ((0 : Int), (0 : Int)))).2.2)))) fun y0 =>
 .br y0.1 (
 .ret (.inr <| .inl <| (v8, ()))) (
 .ni (v8 + (1 : Int)) <|
 .ret (.inl (v0, (v7, ((v8 + (1 : Int)), ())))))) (
 .ret (.inr <| .inr <| ()))
theorem s93_0 : ∀ x, roundE (kzO (p93_0.T ⊕ x93_0.T)) cx93 ar0 [] p93_0 x93_0 (b93_0) (fun y => some (.inl y)) (fun b => some (.inr b)) x = run0 (g93_0 x) := fun x => by kernel_rfl
noncomputable def L93_0 : LoopS prog 19 none 0 := mkLoop mixed cx93 cx93_ok [] rfl p93_0 x93_0 rfl (b93_0) (fun x => run0 (g93_0 x)) (s93_0)
noncomputable def dd93 : D prog 19 none 0 := dO [.l L93_0] (kd prog f93) 0
noncomputable def F93 (a0 : List ((ByteArray × Int) × Int × Int)) : Tr0 (Int × Unit) :=
 .bd (.it g93_0 (a0, ((((a0).length : Nat) : Int), ((0 : Int), ())))) fun z1 =>
 .sm z1 (fun z2 =>
 .ret (z2.1, ())) fun z3 =>
 .ret ((-1 : Int), ())
theorem c93_ok : trF prog f93 = some ⟨19, 2, dd93.er, [.t 4], [some tI]⟩ := by kernel_rfl
noncomputable def ct93 : Ct := ⟨93, [.c (.hole (.list (.prod (.prod .str tI) (.prod tI tI)))), .c (.fn0 80)], hI, fun x => run0 (F93 x.1)⟩
theorem ct93_ok : ct93.Ok prog := ct_ok mixed cx93_ok func93 c93_ok (enters_of func93 rfl rfl) dd93 (by kernel_rfl) rfl (fun x => by kernel_rfl)

/- 79, lent -/
@[reducible] def pH79 : Pat := Pat.mk [(0, .c (.sl0 0 (.prod (.prod .str tI) (.prod tI tI)))), (1, .c (.fn0 80))] [(0, .arr (.prod (.prod .str tI) (.prod tI tI)) false)] [.slot 0] []
@[reducible] def qH79 : Pat := Pat.mk [(0, .c (.slx 0 (.prod (.prod .str tI) (.prod tI tI))))] [(0, .arr (.prod (.prod .str tI) (.prod tI tI)) false)] [] []
noncomputable def cxH79 : Cx := mkCxH [ct93, ct80] []
theorem cxH79_ok : cxH79.Ok prog := mkCxH_ok ⟨ct93_ok, ct80_ok, trivial⟩ trivial
@[reducible] def pH79_0 : Pat := Pat.mk [(0, .c (.sl0 0 (.prod (.prod .str tI) (.prod tI tI)))), (1, .c (.fn0 80)), (5, hI), (6, hI)] [(0, .arr (.prod (.prod .str tI) (.prod tI tI)) false)] [] []
@[reducible] def xH79_0 : Outs := [(.exit 0, Pat.mk [(0, .c (.sl0 0 (.prod (.prod .str tI) (.prod tI tI)))), (5, hI)] [(0, .arr (.prod (.prod .str tI) (.prod tI tI)) false)] [] [])]
noncomputable def bH79_0 : D prog 42 none 1 := dO [] (pick (kd prog f79) [(0, false)]) 0
noncomputable def gH79_0 : Nat × Int × Int × (List ((ByteArray × Int) × Int × Int)) × Unit → Tr0 ((Nat × Int × Int × (List ((ByteArray × Int) × Int × Int)) × Unit) ⊕ ((Nat × Int × (List ((ByteArray × Int) × Int × Int)) × Unit))) := fun (nv0, v5, v6, b0, _) =>
 .br (decide (v6 < ((nv0 : Nat) : Int))) (
 .nb v6 ((nv0 : Nat) : Int) <|
 .nd (decide (((0 : Nat) + (Int.toNat v6)) < (b0).length)) <|
 .bd (F80 (((b0).getD ((0 : Nat) + (Int.toNat v6)) (((bs []), (0 : Int)), ((0 : Int), (0 : Int)))).1.1, (((b0).getD ((0 : Nat) + (Int.toNat v6)) (((bs []), (0 : Int)), ((0 : Int), (0 : Int)))).1.2, (((b0).getD ((0 : Nat) + (Int.toNat v6)) (((bs []), (0 : Int)), ((0 : Int), (0 : Int)))).2.1, ((b0).getD ((0 : Nat) + (Int.toNat v6)) (((bs []), (0 : Int)), ((0 : Int), (0 : Int)))).2.2)))) fun y1 =>
 .br (!y1.1) (
 .nb v5 ((nv0 : Nat) : Int) <|
 .nd (decide (((0 : Nat) + (Int.toNat v5)) < (b0).length)) <|
 .ni (v5 + (1 : Int)) <|
 .ni (v6 + (1 : Int)) <|
 .ret (.inl (nv0, ((v5 + (1 : Int)), ((v6 + (1 : Int)), (((b0).set ((0 : Nat) + (Int.toNat v5)) ((((b0).getD ((0 : Nat) + (Int.toNat v6)) (((bs []), (0 : Int)), ((0 : Int), (0 : Int)))).1.1, ((b0).getD ((0 : Nat) + (Int.toNat v6)) (((bs []), (0 : Int)), ((0 : Int), (0 : Int)))).1.2), (((b0).getD ((0 : Nat) + (Int.toNat v6)) (((bs []), (0 : Int)), ((0 : Int), (0 : Int)))).2.1, ((b0).getD ((0 : Nat) + (Int.toNat v6)) (((bs []), (0 : Int)), ((0 : Int), (0 : Int)))).2.2))), ())))))) (
 .ni (v6 + (1 : Int)) <|
 .ret (.inl (nv0, (v5, ((v6 + (1 : Int)), (b0, ()))))))) (
 .ret (.inr (nv0, (v5, (b0, ())))))
theorem sH79_0 : ∀ x, roundE (kzO (pH79_0.T ⊕ xH79_0.T)) cxH79 ar0 [0] pH79_0 xH79_0 (bH79_0) (fun y => some (.inl y)) (fun b => some (.inr b)) x = run0 (gH79_0 x) := fun x => by kernel_rfl
noncomputable def LH79_0 : LoopS prog 42 none 1 := mkLoop mixed cxH79 cxH79_ok [0] rfl pH79_0 xH79_0 rfl (bH79_0) (fun x => run0 (gH79_0 x)) (sH79_0)
noncomputable def ddH79 : D prog 42 none 1 := dO [.l LH79_0] (kd prog f79) 0
noncomputable def FH79 (nv0 : Nat) (b0 : List ((ByteArray × Int) × Int × Int)) : Tr0 (Nat × Nat × (List ((ByteArray × Int) × Int × Int)) × Unit) :=
 .bd (F93 (((b0).drop (0 : Nat)).take nv0)) fun y0 =>
 .br (y0.1 == (-1 : Int)) (
 .ret ((0 : Nat), (nv0, (b0, ())))) (
 .ni (y0.1 + (1 : Int)) <|
 .bd (.it gH79_0 (nv0, (y0.1, ((y0.1 + (1 : Int)), (b0, ()))))) fun z2 =>
 .nd (decide ((0 : Int) ≤ z2.2.1)) <|
 .nd (decide (z2.2.1 ≤ ((z2.1 : Nat) : Int))) <|
 .nd (decide (((z2.1 : Nat) : Int) ≤ ((z2.1 : Nat) : Int))) <|
 .nd (decide ((0 : Int) ≤ (0 : Int))) <|
 .nd (decide ((0 : Int) ≤ z2.2.1)) <|
 .nd (decide (z2.2.1 ≤ ((z2.1 : Nat) : Int))) <|
 .ret (((0 : Nat) + (Int.toNat (0 : Int))), (((Int.toNat z2.2.1) - (Int.toNat (0 : Int))), ((clrL (((bs []), (0 : Int)), ((0 : Int), (0 : Int))) z2.2.2.1 ((0 : Nat) + (Int.toNat z2.2.1)) ((Int.toNat ((z2.1 : Nat) : Int)) - (Int.toNat z2.2.1))), ()))))
theorem cH79_ok : trF prog f79 = some ⟨42, 2, ddH79.er, [.t 4], [some (.list (.prod (.prod .str tI) (.prod tI tI)))]⟩ := by kernel_rfl
noncomputable def ht79 : Ht := ⟨79, pH79, qH79, (fun x => run0 (FH79 x.1 x.2.1))⟩
theorem ht79_ok : ht79.Ok prog := ht_ok mixed cxH79_ok rfl func79 cH79_ok (enters_of func79 rfl rfl) ddH79 (by kernel_rfl) rfl rfl ⟨_, rfl⟩ rfl (pre := [0]) rfl (fun x => by kernel_rfl)

/- 71 -/
noncomputable def cx71 : Cx := mkCxH [] []
theorem cx71_ok : cx71.Ok prog := mkCxH_ok trivial trivial
noncomputable def dd71 : D prog 9 none 0 := dO [] (kd prog f71) 0
noncomputable def F71 (a0 : ByteArray × Int × Int × Int) : Tr0 ((Int × Int) × Unit) :=
 .ret ((a0.2.1, a0.2.2.2), ())
theorem c71_ok : trF prog f71 = some ⟨9, 1, dd71.er, [.cell 2 true 2], [some (.prod tI tI)]⟩ := by kernel_rfl
noncomputable def ct71 : Ct := ⟨71, [.c (.hole (.prod .str (.prod tI (.prod tI tI))))], .c (.hole (.prod tI tI)), fun x => run0 (F71 x.1)⟩
theorem ct71_ok : ct71.Ok prog := ct_ok mixed cx71_ok func71 c71_ok (enters_of func71 rfl rfl) dd71 (by kernel_rfl) rfl (fun x => by kernel_rfl)

/- 76 -/
noncomputable def cx76 : Cx := mkCxH [] []
theorem cx76_ok : cx76.Ok prog := mkCxH_ok trivial trivial
noncomputable def dd76 : D prog 6 none 0 := dO [] (kd prog f76) 0
noncomputable def F76 (a0 : Int) : Tr0 (Bool × Unit) :=
 .ret ((!(a0 == a0)), ())
theorem c76_ok : trF prog f76 = some ⟨6, 1, dd76.er, [.t 2], [some .bool]⟩ := by kernel_rfl
noncomputable def ct76 : Ct := ⟨76, [hI], .c (.hole .bool), fun x => run0 (F76 x.1)⟩
theorem ct76_ok : ct76.Ok prog := ct_ok mixed cx76_ok func76 c76_ok (enters_of func76 rfl rfl) dd76 (by kernel_rfl) rfl (fun x => by kernel_rfl)

/- 59 -/
noncomputable def cx59 : Cx := mkCxH [ct76] []
theorem cx59_ok : cx59.Ok prog := mkCxH_ok ⟨ct76_ok, trivial⟩ trivial
noncomputable def dd59 : D prog 20 none 0 := dO [] (kd prog f59) 0
noncomputable def F59 (a0 : Int) (a1 : Int) : Tr0 (Int × Unit) :=
 .bd (F76 a0) fun y0 =>
 .bd (F76 a1) fun y1 =>
 .br y0.1 (
 .br y1.1 (
 .ret ((0 : Int), ())) (
 .ret ((-1 : Int), ()))) (
 .br y1.1 (
 .ret ((1 : Int), ())) (
 .br (decide (a0 < a1)) (
 .ret ((-1 : Int), ())) (
 .br (decide (a1 < a0)) (
 .ret ((1 : Int), ())) (
 .ret ((0 : Int), ())))))
theorem c59_ok : trF prog f59 = some ⟨20, 2, dd59.er, [.t 4], [some tI]⟩ := by kernel_rfl
noncomputable def ct59 : Ct := ⟨59, [hI, hI], hI, fun x => run0 (F59 x.1 x.2.1)⟩
theorem ct59_ok : ct59.Ok prog := ct_ok mixed cx59_ok func59 c59_ok (enters_of func59 rfl rfl) dd59 (by kernel_rfl) rfl (fun x => by kernel_rfl)

/- 70 -/
noncomputable def cx70 : Cx := mkCxH [ct59] []
theorem cx70_ok : cx70.Ok prog := mkCxH_ok ⟨ct59_ok, trivial⟩ trivial
noncomputable def dd70 : D prog 16 none 0 := dO [] (kd prog f70) 0
noncomputable def F70 (a0 : Int × Int) (a1 : Int × Int) : Tr0 (Int × Unit) :=
 .ni (a0.1 * a1.2) <|
 .ni (a1.1 * a0.2) <|
 .bd (F59 (a0.1 * a1.2) (a1.1 * a0.2)) fun y0 =>
 .ret (y0.1, ())
theorem c70_ok : trF prog f70 = some ⟨16, 2, dd70.er, [.t 4], [some tI]⟩ := by kernel_rfl
noncomputable def ct70 : Ct := ⟨70, [.c (.hole (.prod tI tI)), .c (.hole (.prod tI tI))], hI, fun x => run0 (F70 x.1 x.2.1)⟩
theorem ct70_ok : ct70.Ok prog := ct_ok mixed cx70_ok func70 c70_ok (enters_of func70 rfl rfl) dd70 (by kernel_rfl) rfl (fun x => by kernel_rfl)

/- 82 -/
noncomputable def cx82 : Cx := mkCxH [ct71, ct70] []
theorem cx82_ok : cx82.Ok prog := mkCxH_ok ⟨ct71_ok, ct70_ok, trivial⟩ trivial
noncomputable def dd82 : D prog 12 none 0 := dO [] (kd prog f82) 0
noncomputable def F82 (a0 : ByteArray × Int × Int × Int) (a1 : ByteArray × Int × Int × Int) : Tr0 (Int × Unit) :=
 .bd (F71 (a0.1, (a0.2.1, (a0.2.2.1, a0.2.2.2)))) fun y0 =>
 .bd (F71 (a1.1, (a1.2.1, (a1.2.2.1, a1.2.2.2)))) fun y1 =>
 .bd (F70 (y0.1.1, y0.1.2) (y1.1.1, y1.1.2)) fun y2 =>
 .ret (y2.1, ())
theorem c82_ok : trF prog f82 = some ⟨12, 3, dd82.er, [.t 5], [some tI]⟩ := by kernel_rfl
noncomputable def ct82 : Ct := ⟨82, [.c (.hole (.prod .str (.prod tI (.prod tI tI)))), .c (.hole (.prod .str (.prod tI (.prod tI tI)))), .c (.ipcs (.cons (.fn0 70) .nil))], hI, fun x => run0 (F82 x.1 x.2.1)⟩
theorem ct82_ok : ct82.Ok prog := ct_ok mixed cx82_ok func82 c82_ok (enters_of func82 rfl rfl) dd82 (by kernel_rfl) rfl (fun x => by kernel_rfl)

/- 83, lent -/
@[reducible] def pH83 : Pat := Pat.mk [(0, .c (.slx 0 (.prod (.prod .str tI) (.prod tI tI)))), (1, hI), (2, hI), (3, .fn 82 [] [.ptr 1 0])] [(0, .arr (.prod (.prod .str tI) (.prod tI tI)) false), (1, .cells [.fn0 70] false)] [.slot 0, .part 3 0] []
@[reducible] def qH83 : Pat := Pat.mk [(0, .c .any)] [(1, .cells [.fn0 70] false), (0, .arr (.prod (.prod .str tI) (.prod tI tI)) false)] [] []
noncomputable def cxH83 : Cx := mkCxH [ct82] []
theorem cxH83_ok : cxH83.Ok prog := mkCxH_ok ⟨ct82_ok, trivial⟩ trivial
@[reducible] def pH83_1 : Pat := Pat.mk [(0, .c (.slx 0 (.prod (.prod .str tI) (.prod tI tI)))), (1, hI), (2, hI), (3, .fn 82 [] [.ptr 1 0]), (8, hI), (9, hI)] [(0, .arr (.prod (.prod .str tI) (.prod tI tI)) false), (1, .cells [.fn0 70] false)] [] []
@[reducible] def xH83_1 : Outs := [(.exit 2, Pat.mk [(0, .c (.slx 0 (.prod (.prod .str tI) (.prod tI tI)))), (1, hI), (2, hI), (3, .fn 82 [] [.ptr 1 0]), (8, hI)] [(0, .arr (.prod (.prod .str tI) (.prod tI tI)) false), (1, .cells [.fn0 70] false)] [] [])]
noncomputable def bH83_1 : D prog 53 none 2 := dO [] (pick (kd prog f83) [(0, false), (0, false)]) 0
noncomputable def gH83_1 : Nat × Nat × Int × Int × Int × Int × (List ((ByteArray × Int) × Int × Int)) × Unit → Tr0 ((Nat × Nat × Int × Int × Int × Int × (List ((ByteArray × Int) × Int × Int)) × Unit) ⊕ ((Nat × Nat × Int × Int × Int × (List ((ByteArray × Int) × Int × Int)) × Unit))) := fun (lv0, nv0, v1, v2, v8, v9, b0, _) =>
 .br (decide (v1 < v9)) (
 .nb v9 ((nv0 : Nat) : Int) <|
 .nd (decide ((lv0 + (Int.toNat v9)) < (b0).length)) <|
 .ni (v9 - (1 : Int)) <|
 .nb (v9 - (1 : Int)) ((nv0 : Nat) : Int) <|
 .nd (decide ((lv0 + (Int.toNat (v9 - (1 : Int)))) < (b0).length)) <|
 .bd (F82 (((b0).getD (lv0 + (Int.toNat v9)) (((bs []), (0 : Int)), ((0 : Int), (0 : Int)))).1.1, (((b0).getD (lv0 + (Int.toNat v9)) (((bs []), (0 : Int)), ((0 : Int), (0 : Int)))).1.2, (((b0).getD (lv0 + (Int.toNat v9)) (((bs []), (0 : Int)), ((0 : Int), (0 : Int)))).2.1, ((b0).getD (lv0 + (Int.toNat v9)) (((bs []), (0 : Int)), ((0 : Int), (0 : Int)))).2.2))) (((b0).getD (lv0 + (Int.toNat (v9 - (1 : Int)))) (((bs []), (0 : Int)), ((0 : Int), (0 : Int)))).1.1, (((b0).getD (lv0 + (Int.toNat (v9 - (1 : Int)))) (((bs []), (0 : Int)), ((0 : Int), (0 : Int)))).1.2, (((b0).getD (lv0 + (Int.toNat (v9 - (1 : Int)))) (((bs []), (0 : Int)), ((0 : Int), (0 : Int)))).2.1, ((b0).getD (lv0 + (Int.toNat (v9 - (1 : Int)))) (((bs []), (0 : Int)), ((0 : Int), (0 : Int)))).2.2)))) fun y0 =>
 .br (decide (y0.1 < (0 : Int))) (
 .ni (v9 - (1 : Int)) <|
 .ni (v9 - (1 : Int)) <|
 .nb (v9 - (1 : Int)) ((nv0 : Nat) : Int) <|
 .nd (decide ((lv0 + (Int.toNat (v9 - (1 : Int)))) < (b0).length)) <|
 .nb v9 ((nv0 : Nat) : Int) <|
 .nd (decide ((lv0 + (Int.toNat v9)) < (b0).length)) <|
 .nb v9 ((nv0 : Nat) : Int) <|
 .nd (decide ((lv0 + (Int.toNat v9)) < (b0).length)) <|
 .nb (v9 - (1 : Int)) ((nv0 : Nat) : Int) <|
 .nd (decide ((lv0 + (Int.toNat (v9 - (1 : Int)))) < (((b0).set (lv0 + (Int.toNat v9)) ((((b0).getD (lv0 + (Int.toNat (v9 - (1 : Int)))) (((bs []), (0 : Int)), ((0 : Int), (0 : Int)))).1.1, ((b0).getD (lv0 + (Int.toNat (v9 - (1 : Int)))) (((bs []), (0 : Int)), ((0 : Int), (0 : Int)))).1.2), (((b0).getD (lv0 + (Int.toNat (v9 - (1 : Int)))) (((bs []), (0 : Int)), ((0 : Int), (0 : Int)))).2.1, ((b0).getD (lv0 + (Int.toNat (v9 - (1 : Int)))) (((bs []), (0 : Int)), ((0 : Int), (0 : Int)))).2.2)))).length)) <|
 .ni (v9 - (1 : Int)) <|
 .ret (.inl (lv0, (nv0, (v1, (v2, (v8, ((v9 - (1 : Int)), (((((b0).set (lv0 + (Int.toNat v9)) ((((b0).getD (lv0 + (Int.toNat (v9 - (1 : Int)))) (((bs []), (0 : Int)), ((0 : Int), (0 : Int)))).1.1, ((b0).getD (lv0 + (Int.toNat (v9 - (1 : Int)))) (((bs []), (0 : Int)), ((0 : Int), (0 : Int)))).1.2), (((b0).getD (lv0 + (Int.toNat (v9 - (1 : Int)))) (((bs []), (0 : Int)), ((0 : Int), (0 : Int)))).2.1, ((b0).getD (lv0 + (Int.toNat (v9 - (1 : Int)))) (((bs []), (0 : Int)), ((0 : Int), (0 : Int)))).2.2)))).set (lv0 + (Int.toNat (v9 - (1 : Int)))) ((((b0).getD (lv0 + (Int.toNat v9)) (((bs []), (0 : Int)), ((0 : Int), (0 : Int)))).1.1, ((b0).getD (lv0 + (Int.toNat v9)) (((bs []), (0 : Int)), ((0 : Int), (0 : Int)))).1.2), (((b0).getD (lv0 + (Int.toNat v9)) (((bs []), (0 : Int)), ((0 : Int), (0 : Int)))).2.1, ((b0).getD (lv0 + (Int.toNat v9)) (((bs []), (0 : Int)), ((0 : Int), (0 : Int)))).2.2))), ()))))))))) (
 .ret (.inr (lv0, (nv0, (v1, (v2, (v8, (b0, ()))))))))) (
 .ret (.inr (lv0, (nv0, (v1, (v2, (v8, (b0, ()))))))))
theorem sH83_1 : ∀ x, roundE (kzO (pH83_1.T ⊕ xH83_1.T)) cxH83 ar0 [0, 1] pH83_1 xH83_1 (bH83_1) (fun y => some (.inl y)) (fun b => some (.inr b)) x = run0 (gH83_1 x) := fun x => by kernel_rfl
noncomputable def LH83_1 : LoopS prog 53 none 2 := mkLoop mixed cxH83 cxH83_ok [0, 1] rfl pH83_1 xH83_1 rfl (bH83_1) (fun x => run0 (gH83_1 x)) (sH83_1)
@[reducible] def pH83_0 : Pat := Pat.mk [(0, .c (.slx 0 (.prod (.prod .str tI) (.prod tI tI)))), (1, hI), (2, hI), (3, .fn 82 [] [.ptr 1 0]), (8, hI)] [(0, .arr (.prod (.prod .str tI) (.prod tI tI)) false), (1, .cells [.fn0 70] false)] [] []
@[reducible] def xH83_0 : Outs := [(.exit 0, Pat.mk [] [(1, .cells [.fn0 70] false), (0, .arr (.prod (.prod .str tI) (.prod tI tI)) false)] [] [])]
noncomputable def bH83_0 : D prog 53 none 2 := dO [.l LH83_1] (pick (kd prog f83) [(0, false)]) 0
noncomputable def gH83_0 : Nat × Nat × Int × Int × Int × (List ((ByteArray × Int) × Int × Int)) × Unit → Tr0 ((Nat × Nat × Int × Int × Int × (List ((ByteArray × Int) × Int × Int)) × Unit) ⊕ (((List ((ByteArray × Int) × Int × Int)) × Unit))) := fun (lv0, nv0, v1, v2, v8, b0, _) =>
 .br (decide (v8 < v2)) (
 .bd (.it gH83_1 (lv0, (nv0, (v1, (v2, (v8, (v8, (b0, ())))))))) fun z1 =>
 .ni (z1.2.2.2.2.1 + (1 : Int)) <|
 .ret (.inl (z1.1, (z1.2.1, (z1.2.2.1, (z1.2.2.2.1, ((z1.2.2.2.2.1 + (1 : Int)), (z1.2.2.2.2.2.1, ())))))))) (
 .ret (.inr (b0, ())))
theorem sH83_0 : ∀ x, roundE (kzO (pH83_0.T ⊕ xH83_0.T)) cxH83 ar0 [0, 1] pH83_0 xH83_0 (bH83_0) (fun y => some (.inl y)) (fun b => some (.inr b)) x = run0 (gH83_0 x) := fun x => by kernel_rfl
noncomputable def LH83_0 : LoopS prog 53 none 2 := mkLoop mixed cxH83 cxH83_ok [0, 1] rfl pH83_0 xH83_0 rfl (bH83_0) (fun x => run0 (gH83_0 x)) (sH83_0)
noncomputable def ddH83 : D prog 53 none 2 := dO [.l LH83_0] (kd prog f83) 0
noncomputable def FH83 (lv0 : Nat) (nv0 : Nat) (v1 : Int) (v2 : Int) (b0 : List ((ByteArray × Int) × Int × Int)) : Tr0 ((List ((ByteArray × Int) × Int × Int)) × Unit) :=
 .ni (v1 + (1 : Int)) <|
 .bd (.it gH83_0 (lv0, (nv0, (v1, (v2, ((v1 + (1 : Int)), (b0, ()))))))) fun z2 =>
 .ret (z2.1, ())
theorem cH83_ok : trF prog f83 = some ⟨53, 4, ddH83.er, [], []⟩ := by kernel_rfl
noncomputable def ht83 : Ht := ⟨83, pH83, qH83, (fun x => run0 (FH83 x.1 x.2.1 x.2.2.1 x.2.2.2.1 x.2.2.2.2.1))⟩
theorem ht83_ok : ht83.Ok prog := ht_ok mixed cxH83_ok rfl func83 cH83_ok (enters_of func83 rfl rfl) ddH83 (by kernel_rfl) rfl rfl ⟨_, rfl⟩ rfl (pre := [0, 1]) rfl (fun x => by kernel_rfl)

/- 103, lent -/
@[reducible] def pH103 : Pat := Pat.mk [(0, .c (.slx 0 (.prod (.prod .str tI) (.prod tI tI)))), (1, hI), (2, hI), (3, hI), (4, .fn 82 [] [.ptr 1 0])] [(0, .arr (.prod (.prod .str tI) (.prod tI tI)) false), (1, .cells [.fn0 70] false)] [.slot 0, .part 4 0] []
@[reducible] def qH103 : Pat := Pat.mk [(0, .c .any)] [(1, .cells [.fn0 70] false), (0, .arr (.prod (.prod .str tI) (.prod tI tI)) false)] [] []
noncomputable def cxH103 : Cx := mkCxH [] []
theorem cxH103_ok : cxH103.Ok prog := mkCxH_ok trivial trivial
@[reducible] def pH103_0 : Pat := Pat.mk [(0, .c (.slx 0 (.prod (.prod .str tI) (.prod tI tI)))), (1, hI), (2, hI), (3, hI), (10, hI)] [(0, .arr (.prod (.prod .str tI) (.prod tI tI)) false), (1, .cells [.fn0 70] false)] [] []
@[reducible] def xH103_0 : Outs := [(.exit 0, Pat.mk [] [(1, .cells [.fn0 70] false), (0, .arr (.prod (.prod .str tI) (.prod tI tI)) false)] [] [])]
noncomputable def bH103_0 : D prog 38 none 2 := dO [] (pick (kd prog f103) [(0, false)]) 0
noncomputable def gH103_0 : Nat × Nat × Int × Int × Int × Int × (List ((ByteArray × Int) × Int × Int)) × Unit → Tr0 ((Nat × Nat × Int × Int × Int × Int × (List ((ByteArray × Int) × Int × Int)) × Unit) ⊕ (((List ((ByteArray × Int) × Int × Int)) × Unit))) := fun (lv0, nv0, v1, v2, v3, v10, b0, _) =>
 .br (decide (v10 < v3)) (
 .ni (v1 + v10) <|
 .ni (v2 + v10) <|
 .ni (v2 + v10) <|
 .nb (v2 + v10) ((nv0 : Nat) : Int) <|
 .nd (decide ((lv0 + (Int.toNat (v2 + v10))) < (b0).length)) <|
 .ni (v1 + v10) <|
 .nb (v1 + v10) ((nv0 : Nat) : Int) <|
 .nd (decide ((lv0 + (Int.toNat (v1 + v10))) < (b0).length)) <|
 .nb (v1 + v10) ((nv0 : Nat) : Int) <|
 .nd (decide ((lv0 + (Int.toNat (v1 + v10))) < (b0).length)) <|
 .nb (v2 + v10) ((nv0 : Nat) : Int) <|
 .nd (decide ((lv0 + (Int.toNat (v2 + v10))) < (((b0).set (lv0 + (Int.toNat (v1 + v10))) ((((b0).getD (lv0 + (Int.toNat (v2 + v10))) (((bs []), (0 : Int)), ((0 : Int), (0 : Int)))).1.1, ((b0).getD (lv0 + (Int.toNat (v2 + v10))) (((bs []), (0 : Int)), ((0 : Int), (0 : Int)))).1.2), (((b0).getD (lv0 + (Int.toNat (v2 + v10))) (((bs []), (0 : Int)), ((0 : Int), (0 : Int)))).2.1, ((b0).getD (lv0 + (Int.toNat (v2 + v10))) (((bs []), (0 : Int)), ((0 : Int), (0 : Int)))).2.2)))).length)) <|
 .ni (v10 + (1 : Int)) <|
 .ret (.inl (lv0, (nv0, (v1, (v2, (v3, ((v10 + (1 : Int)), (((((b0).set (lv0 + (Int.toNat (v1 + v10))) ((((b0).getD (lv0 + (Int.toNat (v2 + v10))) (((bs []), (0 : Int)), ((0 : Int), (0 : Int)))).1.1, ((b0).getD (lv0 + (Int.toNat (v2 + v10))) (((bs []), (0 : Int)), ((0 : Int), (0 : Int)))).1.2), (((b0).getD (lv0 + (Int.toNat (v2 + v10))) (((bs []), (0 : Int)), ((0 : Int), (0 : Int)))).2.1, ((b0).getD (lv0 + (Int.toNat (v2 + v10))) (((bs []), (0 : Int)), ((0 : Int), (0 : Int)))).2.2)))).set (lv0 + (Int.toNat (v2 + v10))) ((((b0).getD (lv0 + (Int.toNat (v1 + v10))) (((bs []), (0 : Int)), ((0 : Int), (0 : Int)))).1.1, ((b0).getD (lv0 + (Int.toNat (v1 + v10))) (((bs []), (0 : Int)), ((0 : Int), (0 : Int)))).1.2), (((b0).getD (lv0 + (Int.toNat (v1 + v10))) (((bs []), (0 : Int)), ((0 : Int), (0 : Int)))).2.1, ((b0).getD (lv0 + (Int.toNat (v1 + v10))) (((bs []), (0 : Int)), ((0 : Int), (0 : Int)))).2.2))), ()))))))))) (
 .ret (.inr (b0, ())))
theorem sH103_0 : ∀ x, roundE (kzO (pH103_0.T ⊕ xH103_0.T)) cxH103 ar0 [0, 1] pH103_0 xH103_0 (bH103_0) (fun y => some (.inl y)) (fun b => some (.inr b)) x = run0 (gH103_0 x) := fun x => by kernel_rfl
noncomputable def LH103_0 : LoopS prog 38 none 2 := mkLoop mixed cxH103 cxH103_ok [0, 1] rfl pH103_0 xH103_0 rfl (bH103_0) (fun x => run0 (gH103_0 x)) (sH103_0)
noncomputable def ddH103 : D prog 38 none 2 := dO [.l LH103_0] (kd prog f103) 0
noncomputable def FH103 (lv0 : Nat) (nv0 : Nat) (v1 : Int) (v2 : Int) (v3 : Int) (b0 : List ((ByteArray × Int) × Int × Int)) : Tr0 ((List ((ByteArray × Int) × Int × Int)) × Unit) :=
 .bd (.it gH103_0 (lv0, (nv0, (v1, (v2, (v3, ((0 : Int), (b0, ())))))))) fun z0 =>
 .ret (z0.1, ())
theorem cH103_ok : trF prog f103 = some ⟨38, 5, ddH103.er, [], []⟩ := by kernel_rfl
noncomputable def ht103 : Ht := ⟨103, pH103, qH103, (fun x => run0 (FH103 x.1 x.2.1 x.2.2.1 x.2.2.2.1 x.2.2.2.2.1 x.2.2.2.2.2.1))⟩
theorem ht103_ok : ht103.Ok prog := ht_ok mixed cxH103_ok rfl func103 cH103_ok (enters_of func103 rfl rfl) ddH103 (by kernel_rfl) rfl rfl ⟨_, rfl⟩ rfl (pre := [0, 1]) rfl (fun x => by kernel_rfl)

/- 102, lent -/
@[reducible] def pH102 : Pat := Pat.mk [(0, .c (.slx 0 (.prod (.prod .str tI) (.prod tI tI)))), (1, hI), (2, hI), (3, hI), (4, .fn 82 [] [.ptr 1 0])] [(0, .arr (.prod (.prod .str tI) (.prod tI tI)) false), (1, .cells [.fn0 70] false)] [.slot 0, .part 4 0] []
@[reducible] def qH102 : Pat := Pat.mk [(0, .c .any)] [(1, .cells [.fn0 70] false), (0, .arr (.prod (.prod .str tI) (.prod tI tI)) false)] [] []
noncomputable def cxH102 : Cx := mkCxH [] [ht103]
theorem cxH102_ok : cxH102.Ok prog := mkCxH_ok trivial ⟨⟨ht103_ok, rfl⟩, trivial⟩
@[reducible] def pH102_0 : Pat := Pat.mk [(0, .c (.slx 0 (.prod (.prod .str tI) (.prod tI tI)))), (2, hI), (4, .fn 82 [] [.ptr 1 0]), (10, hI), (11, hI)] [(0, .arr (.prod (.prod .str tI) (.prod tI tI)) false), (1, .cells [.fn0 70] false)] [] []
@[reducible] def xH102_0 : Outs := [(.exit 0, Pat.mk [(0, .c (.slx 0 (.prod (.prod .str tI) (.prod tI tI)))), (2, hI), (4, .fn 82 [] [.ptr 1 0]), (10, hI)] [(0, .arr (.prod (.prod .str tI) (.prod tI tI)) false), (1, .cells [.fn0 70] false)] [] [])]
noncomputable def bH102_0 : D prog 58 none 2 := dO [] (pick (kd prog f102) [(0, false)]) 0
noncomputable def gH102_0 : Nat × Nat × Int × Int × Int × (List ((ByteArray × Int) × Int × Int)) × Unit → Tr0 ((Nat × Nat × Int × Int × Int × (List ((ByteArray × Int) × Int × Int)) × Unit) ⊕ ((Nat × Nat × Int × Int × (List ((ByteArray × Int) × Int × Int)) × Unit))) := fun (lv0, nv0, v2, v10, v11, b0, _) =>
 .br (!(v10 == v11)) (
 .br (decide (v11 < v10)) (
 .ni (v2 - v10) <|
 .bd (FH103 lv0 nv0 (v2 - v10) v2 v11 b0) fun y0 =>
 .ni (v10 - v11) <|
 .ret (.inl (lv0, (nv0, (v2, ((v10 - v11), (v11, (y0.1, ())))))))) (
 .ni (v2 - v10) <|
 .ni (v2 + v11) <|
 .ni ((v2 + v11) - v10) <|
 .bd (FH103 lv0 nv0 (v2 - v10) ((v2 + v11) - v10) v10 b0) fun y1 =>
 .ni (v11 - v10) <|
 .ret (.inl (lv0, (nv0, (v2, (v10, ((v11 - v10), (y1.1, ()))))))))) (
 .ret (.inr (lv0, (nv0, (v2, (v10, (b0, ())))))))
theorem sH102_0 : ∀ x, roundE (kzO (pH102_0.T ⊕ xH102_0.T)) cxH102 ar0 [0, 1] pH102_0 xH102_0 (bH102_0) (fun y => some (.inl y)) (fun b => some (.inr b)) x = run0 (gH102_0 x) := fun x => by kernel_rfl
noncomputable def LH102_0 : LoopS prog 58 none 2 := mkLoop mixed cxH102 cxH102_ok [0, 1] rfl pH102_0 xH102_0 rfl (bH102_0) (fun x => run0 (gH102_0 x)) (sH102_0)
noncomputable def ddH102 : D prog 58 none 2 := dO [.l LH102_0] (kd prog f102) 0
noncomputable def FH102 (lv0 : Nat) (nv0 : Nat) (v1 : Int) (v2 : Int) (v3 : Int) (b0 : List ((ByteArray × Int) × Int × Int)) : Tr0 ((List ((ByteArray × Int) × Int × Int)) × Unit) :=
 .ni (v2 - v1) <|
 .ni (v3 - v2) <|
 .bd (.it gH102_0 (lv0, (nv0, (v2, ((v2 - v1), ((v3 - v2), (b0, ()))))))) fun z2 =>
 .ni (z2.2.2.1 - z2.2.2.2.1) <|
 .bd (FH103 z2.1 z2.2.1 (z2.2.2.1 - z2.2.2.2.1) z2.2.2.1 z2.2.2.2.1 z2.2.2.2.2.1) fun y3 =>
 .ret (y3.1, ())
theorem cH102_ok : trF prog f102 = some ⟨58, 5, ddH102.er, [], []⟩ := by kernel_rfl
noncomputable def ht102 : Ht := ⟨102, pH102, qH102, (fun x => run0 (FH102 x.1 x.2.1 x.2.2.1 x.2.2.2.1 x.2.2.2.2.1 x.2.2.2.2.2.1))⟩
theorem ht102_ok : ht102.Ok prog := ht_ok mixed cxH102_ok rfl func102 cH102_ok (enters_of func102 rfl rfl) ddH102 (by kernel_rfl) rfl rfl ⟨_, rfl⟩ rfl (pre := [0, 1]) rfl (fun x => by kernel_rfl)

/- 100, lent -/
@[reducible] def pH100 : Pat := Pat.mk [(0, .c (.slx 0 (.prod (.prod .str tI) (.prod tI tI)))), (1, hI), (2, hI), (3, hI), (4, .fn 82 [] [.ptr 1 0])] [(0, .arr (.prod (.prod .str tI) (.prod tI tI)) false), (1, .cells [.fn0 70] false)] [.slot 0, .part 4 0] []
@[reducible] def qH100 : Pat := Pat.mk [(0, .c .any)] [(1, .cells [.fn0 70] false), (0, .arr (.prod (.prod .str tI) (.prod tI tI)) false)] [] []
noncomputable def cxH100 (rec : pH100.T → Option qH100.T) : Cx := mkCxH [ct82] [ht102, ⟨100, pH100, qH100, rec⟩]
theorem cxH100_ok (rec : pH100.T → Option qH100.T) (h : Ht.Ok prog ⟨100, pH100, qH100, rec⟩) : (cxH100 rec).Ok prog := mkCxH_ok ⟨ct82_ok, trivial⟩ ⟨⟨ht102_ok, rfl⟩, ⟨h, rfl⟩, trivial⟩
@[reducible] def pH100_0 : Pat := Pat.mk [(0, .c (.slx 0 (.prod (.prod .str tI) (.prod tI tI)))), (1, hI), (4, .fn 82 [] [.ptr 1 0]), (10, hI), (11, hI)] [(0, .arr (.prod (.prod .str tI) (.prod tI tI)) false), (1, .cells [.fn0 70] false)] [] []
@[reducible] def xH100_0 : Outs := [(.exit 0, Pat.mk [(0, .c (.slx 0 (.prod (.prod .str tI) (.prod tI tI)))), (1, hI), (10, hI)] [(0, .arr (.prod (.prod .str tI) (.prod tI tI)) false), (1, .cells [.fn0 70] false)] [] [])]
noncomputable def bH100_0 (rec : pH100.T → Option qH100.T) (h : Ht.Ok prog ⟨100, pH100, qH100, rec⟩) : D prog 220 none 2 := dO [] (pick (kd prog f100) [(0, false)]) 0
noncomputable def gH100_0 : Nat × Nat × Int × Int × Int × (List ((ByteArray × Int) × Int × Int)) × Unit → Tr pH100.T qH100.T ((Nat × Nat × Int × Int × Int × (List ((ByteArray × Int) × Int × Int)) × Unit) ⊕ ((Nat × Nat × Int × Int × (List ((ByteArray × Int) × Int × Int)) × Unit))) := fun (lv0, nv0, v1, v10, v11, b0, _) =>
 .br (decide (v10 < v11)) (
 .ni (v10 + v11) <|
 .nd (rng .u64 (v10 + v11)) <|
 .nb (1 : Int) (64 : Int) <|
 .ni (ar0.shr (v10 + v11) (1 : Int)) <|
 .nb (ar0.shr (v10 + v11) (1 : Int)) ((nv0 : Nat) : Int) <|
 .nd (decide ((lv0 + (Int.toNat (ar0.shr (v10 + v11) (1 : Int)))) < (b0).length)) <|
 .nb v1 ((nv0 : Nat) : Int) <|
 .nd (decide ((lv0 + (Int.toNat v1)) < (b0).length)) <|
 .bd (.up (F82 (((b0).getD (lv0 + (Int.toNat (ar0.shr (v10 + v11) (1 : Int)))) (((bs []), (0 : Int)), ((0 : Int), (0 : Int)))).1.1, (((b0).getD (lv0 + (Int.toNat (ar0.shr (v10 + v11) (1 : Int)))) (((bs []), (0 : Int)), ((0 : Int), (0 : Int)))).1.2, (((b0).getD (lv0 + (Int.toNat (ar0.shr (v10 + v11) (1 : Int)))) (((bs []), (0 : Int)), ((0 : Int), (0 : Int)))).2.1, ((b0).getD (lv0 + (Int.toNat (ar0.shr (v10 + v11) (1 : Int)))) (((bs []), (0 : Int)), ((0 : Int), (0 : Int)))).2.2))) (((b0).getD (lv0 + (Int.toNat v1)) (((bs []), (0 : Int)), ((0 : Int), (0 : Int)))).1.1, (((b0).getD (lv0 + (Int.toNat v1)) (((bs []), (0 : Int)), ((0 : Int), (0 : Int)))).1.2, (((b0).getD (lv0 + (Int.toNat v1)) (((bs []), (0 : Int)), ((0 : Int), (0 : Int)))).2.1, ((b0).getD (lv0 + (Int.toNat v1)) (((bs []), (0 : Int)), ((0 : Int), (0 : Int)))).2.2))))) fun y0 =>
 .br (decide (y0.1 < (0 : Int))) (
 .ni ((ar0.shr (v10 + v11) (1 : Int)) + (1 : Int)) <|
 .ret (.inl (lv0, (nv0, (v1, (((ar0.shr (v10 + v11) (1 : Int)) + (1 : Int)), (v11, (b0, ())))))))) (
 .ret (.inl (lv0, (nv0, (v1, (v10, ((ar0.shr (v10 + v11) (1 : Int)), (b0, ()))))))))) (
 .ret (.inr (lv0, (nv0, (v1, (v10, (b0, ())))))))
theorem sH100_0 (rec : pH100.T → Option qH100.T) (h : Ht.Ok prog ⟨100, pH100, qH100, rec⟩) : ∀ x, roundE (kzO (pH100_0.T ⊕ xH100_0.T)) (cxH100 rec) ar0 [0, 1] pH100_0 xH100_0 (bH100_0 rec h) (fun y => some (.inl y)) (fun b => some (.inr b)) x = run rec (gH100_0 x) := fun x => by kernel_rfl
noncomputable def LH100_0 (rec : pH100.T → Option qH100.T) (h : Ht.Ok prog ⟨100, pH100, qH100, rec⟩) : LoopS prog 220 none 2 := mkLoop mixed (cxH100 rec) (cxH100_ok rec h) [0, 1] rfl pH100_0 xH100_0 rfl (bH100_0 rec h) (fun x => run rec (gH100_0 x)) (sH100_0 rec h)
@[reducible] def pH100_1 : Pat := Pat.mk [(0, .c (.slx 0 (.prod (.prod .str tI) (.prod tI tI)))), (10, hI), (13, hI)] [(0, .arr (.prod (.prod .str tI) (.prod tI tI)) false), (1, .cells [.fn0 70] false)] [] []
@[reducible] def xH100_1 : Outs := [(.exit 2, Pat.mk [] [(1, .cells [.fn0 70] false), (0, .arr (.prod (.prod .str tI) (.prod tI tI)) false)] [] [])]
noncomputable def bH100_1 (rec : pH100.T → Option qH100.T) (h : Ht.Ok prog ⟨100, pH100, qH100, rec⟩) : D prog 220 none 2 := dO [] (pick (kd prog f100) [(1, false)]) 0
noncomputable def gH100_1 : Nat × Nat × Int × Int × (List ((ByteArray × Int) × Int × Int)) × Unit → Tr pH100.T qH100.T ((Nat × Nat × Int × Int × (List ((ByteArray × Int) × Int × Int)) × Unit) ⊕ (((List ((ByteArray × Int) × Int × Int)) × Unit))) := fun (lv0, nv0, v10, v13, b0, _) =>
 .ni (v10 - (1 : Int)) <|
 .br (decide (v13 < (v10 - (1 : Int)))) (
 .ni (v13 + (1 : Int)) <|
 .ni (v13 + (1 : Int)) <|
 .nb (v13 + (1 : Int)) ((nv0 : Nat) : Int) <|
 .nd (decide ((lv0 + (Int.toNat (v13 + (1 : Int)))) < (b0).length)) <|
 .nb v13 ((nv0 : Nat) : Int) <|
 .nd (decide ((lv0 + (Int.toNat v13)) < (b0).length)) <|
 .nb v13 ((nv0 : Nat) : Int) <|
 .nd (decide ((lv0 + (Int.toNat v13)) < (b0).length)) <|
 .nb (v13 + (1 : Int)) ((nv0 : Nat) : Int) <|
 .nd (decide ((lv0 + (Int.toNat (v13 + (1 : Int)))) < (((b0).set (lv0 + (Int.toNat v13)) ((((b0).getD (lv0 + (Int.toNat (v13 + (1 : Int)))) (((bs []), (0 : Int)), ((0 : Int), (0 : Int)))).1.1, ((b0).getD (lv0 + (Int.toNat (v13 + (1 : Int)))) (((bs []), (0 : Int)), ((0 : Int), (0 : Int)))).1.2), (((b0).getD (lv0 + (Int.toNat (v13 + (1 : Int)))) (((bs []), (0 : Int)), ((0 : Int), (0 : Int)))).2.1, ((b0).getD (lv0 + (Int.toNat (v13 + (1 : Int)))) (((bs []), (0 : Int)), ((0 : Int), (0 : Int)))).2.2)))).length)) <|
 .ni (v13 + (1 : Int)) <|
 .ret (.inl (lv0, (nv0, (v10, ((v13 + (1 : Int)), (((((b0).set (lv0 + (Int.toNat v13)) ((((b0).getD (lv0 + (Int.toNat (v13 + (1 : Int)))) (((bs []), (0 : Int)), ((0 : Int), (0 : Int)))).1.1, ((b0).getD (lv0 + (Int.toNat (v13 + (1 : Int)))) (((bs []), (0 : Int)), ((0 : Int), (0 : Int)))).1.2), (((b0).getD (lv0 + (Int.toNat (v13 + (1 : Int)))) (((bs []), (0 : Int)), ((0 : Int), (0 : Int)))).2.1, ((b0).getD (lv0 + (Int.toNat (v13 + (1 : Int)))) (((bs []), (0 : Int)), ((0 : Int), (0 : Int)))).2.2)))).set (lv0 + (Int.toNat (v13 + (1 : Int)))) ((((b0).getD (lv0 + (Int.toNat v13)) (((bs []), (0 : Int)), ((0 : Int), (0 : Int)))).1.1, ((b0).getD (lv0 + (Int.toNat v13)) (((bs []), (0 : Int)), ((0 : Int), (0 : Int)))).1.2), (((b0).getD (lv0 + (Int.toNat v13)) (((bs []), (0 : Int)), ((0 : Int), (0 : Int)))).2.1, ((b0).getD (lv0 + (Int.toNat v13)) (((bs []), (0 : Int)), ((0 : Int), (0 : Int)))).2.2))), ()))))))) (
 .ret (.inr (b0, ())))
theorem sH100_1 (rec : pH100.T → Option qH100.T) (h : Ht.Ok prog ⟨100, pH100, qH100, rec⟩) : ∀ x, roundE (kzO (pH100_1.T ⊕ xH100_1.T)) (cxH100 rec) ar0 [0, 1] pH100_1 xH100_1 (bH100_1 rec h) (fun y => some (.inl y)) (fun b => some (.inr b)) x = run rec (gH100_1 x) := fun x => by kernel_rfl
noncomputable def LH100_1 (rec : pH100.T → Option qH100.T) (h : Ht.Ok prog ⟨100, pH100, qH100, rec⟩) : LoopS prog 220 none 2 := mkLoop mixed (cxH100 rec) (cxH100_ok rec h) [0, 1] rfl pH100_1 xH100_1 rfl (bH100_1 rec h) (fun x => run rec (gH100_1 x)) (sH100_1 rec h)
@[reducible] def pH100_2 : Pat := Pat.mk [(0, .c (.slx 0 (.prod (.prod .str tI) (.prod tI tI)))), (2, hI), (4, .fn 82 [] [.ptr 1 0]), (14, hI), (15, hI)] [(0, .arr (.prod (.prod .str tI) (.prod tI tI)) false), (1, .cells [.fn0 70] false)] [] []
@[reducible] def xH100_2 : Outs := [(.exit 4, Pat.mk [(0, .c (.slx 0 (.prod (.prod .str tI) (.prod tI tI)))), (2, hI), (14, hI)] [(0, .arr (.prod (.prod .str tI) (.prod tI tI)) false), (1, .cells [.fn0 70] false)] [] [])]
noncomputable def bH100_2 (rec : pH100.T → Option qH100.T) (h : Ht.Ok prog ⟨100, pH100, qH100, rec⟩) : D prog 220 none 2 := dO [] (pick (kd prog f100) [(2, false)]) 0
noncomputable def gH100_2 : Nat × Nat × Int × Int × Int × (List ((ByteArray × Int) × Int × Int)) × Unit → Tr pH100.T qH100.T ((Nat × Nat × Int × Int × Int × (List ((ByteArray × Int) × Int × Int)) × Unit) ⊕ ((Nat × Nat × Int × Int × (List ((ByteArray × Int) × Int × Int)) × Unit))) := fun (lv0, nv0, v2, v14, v15, b0, _) =>
 .br (decide (v14 < v15)) (
 .ni (v14 + v15) <|
 .nd (rng .u64 (v14 + v15)) <|
 .nb (1 : Int) (64 : Int) <|
 .ni (ar0.shr (v14 + v15) (1 : Int)) <|
 .nb v2 ((nv0 : Nat) : Int) <|
 .nd (decide ((lv0 + (Int.toNat v2)) < (b0).length)) <|
 .nb (ar0.shr (v14 + v15) (1 : Int)) ((nv0 : Nat) : Int) <|
 .nd (decide ((lv0 + (Int.toNat (ar0.shr (v14 + v15) (1 : Int)))) < (b0).length)) <|
 .bd (.up (F82 (((b0).getD (lv0 + (Int.toNat v2)) (((bs []), (0 : Int)), ((0 : Int), (0 : Int)))).1.1, (((b0).getD (lv0 + (Int.toNat v2)) (((bs []), (0 : Int)), ((0 : Int), (0 : Int)))).1.2, (((b0).getD (lv0 + (Int.toNat v2)) (((bs []), (0 : Int)), ((0 : Int), (0 : Int)))).2.1, ((b0).getD (lv0 + (Int.toNat v2)) (((bs []), (0 : Int)), ((0 : Int), (0 : Int)))).2.2))) (((b0).getD (lv0 + (Int.toNat (ar0.shr (v14 + v15) (1 : Int)))) (((bs []), (0 : Int)), ((0 : Int), (0 : Int)))).1.1, (((b0).getD (lv0 + (Int.toNat (ar0.shr (v14 + v15) (1 : Int)))) (((bs []), (0 : Int)), ((0 : Int), (0 : Int)))).1.2, (((b0).getD (lv0 + (Int.toNat (ar0.shr (v14 + v15) (1 : Int)))) (((bs []), (0 : Int)), ((0 : Int), (0 : Int)))).2.1, ((b0).getD (lv0 + (Int.toNat (ar0.shr (v14 + v15) (1 : Int)))) (((bs []), (0 : Int)), ((0 : Int), (0 : Int)))).2.2))))) fun y3 =>
 .br (!(decide (y3.1 < (0 : Int)))) (
 .ni ((ar0.shr (v14 + v15) (1 : Int)) + (1 : Int)) <|
 .ret (.inl (lv0, (nv0, (v2, (((ar0.shr (v14 + v15) (1 : Int)) + (1 : Int)), (v15, (b0, ())))))))) (
 .ret (.inl (lv0, (nv0, (v2, (v14, ((ar0.shr (v14 + v15) (1 : Int)), (b0, ()))))))))) (
 .ret (.inr (lv0, (nv0, (v2, (v14, (b0, ())))))))
theorem sH100_2 (rec : pH100.T → Option qH100.T) (h : Ht.Ok prog ⟨100, pH100, qH100, rec⟩) : ∀ x, roundE (kzO (pH100_2.T ⊕ xH100_2.T)) (cxH100 rec) ar0 [0, 1] pH100_2 xH100_2 (bH100_2 rec h) (fun y => some (.inl y)) (fun b => some (.inr b)) x = run rec (gH100_2 x) := fun x => by kernel_rfl
noncomputable def LH100_2 (rec : pH100.T → Option qH100.T) (h : Ht.Ok prog ⟨100, pH100, qH100, rec⟩) : LoopS prog 220 none 2 := mkLoop mixed (cxH100 rec) (cxH100_ok rec h) [0, 1] rfl pH100_2 xH100_2 rfl (bH100_2 rec h) (fun x => run rec (gH100_2 x)) (sH100_2 rec h)
@[reducible] def pH100_3 : Pat := Pat.mk [(0, .c (.slx 0 (.prod (.prod .str tI) (.prod tI tI)))), (14, hI), (17, hI)] [(0, .arr (.prod (.prod .str tI) (.prod tI tI)) false), (1, .cells [.fn0 70] false)] [] []
@[reducible] def xH100_3 : Outs := [(.exit 6, Pat.mk [] [(1, .cells [.fn0 70] false), (0, .arr (.prod (.prod .str tI) (.prod tI tI)) false)] [] [])]
noncomputable def bH100_3 (rec : pH100.T → Option qH100.T) (h : Ht.Ok prog ⟨100, pH100, qH100, rec⟩) : D prog 220 none 2 := dO [] (pick (kd prog f100) [(3, false)]) 0
noncomputable def gH100_3 : Nat × Nat × Int × Int × (List ((ByteArray × Int) × Int × Int)) × Unit → Tr pH100.T qH100.T ((Nat × Nat × Int × Int × (List ((ByteArray × Int) × Int × Int)) × Unit) ⊕ (((List ((ByteArray × Int) × Int × Int)) × Unit))) := fun (lv0, nv0, v14, v17, b0, _) =>
 .br (decide (v14 < v17)) (
 .ni (v17 - (1 : Int)) <|
 .ni (v17 - (1 : Int)) <|
 .nb (v17 - (1 : Int)) ((nv0 : Nat) : Int) <|
 .nd (decide ((lv0 + (Int.toNat (v17 - (1 : Int)))) < (b0).length)) <|
 .nb v17 ((nv0 : Nat) : Int) <|
 .nd (decide ((lv0 + (Int.toNat v17)) < (b0).length)) <|
 .nb v17 ((nv0 : Nat) : Int) <|
 .nd (decide ((lv0 + (Int.toNat v17)) < (b0).length)) <|
 .nb (v17 - (1 : Int)) ((nv0 : Nat) : Int) <|
 .nd (decide ((lv0 + (Int.toNat (v17 - (1 : Int)))) < (((b0).set (lv0 + (Int.toNat v17)) ((((b0).getD (lv0 + (Int.toNat (v17 - (1 : Int)))) (((bs []), (0 : Int)), ((0 : Int), (0 : Int)))).1.1, ((b0).getD (lv0 + (Int.toNat (v17 - (1 : Int)))) (((bs []), (0 : Int)), ((0 : Int), (0 : Int)))).1.2), (((b0).getD (lv0 + (Int.toNat (v17 - (1 : Int)))) (((bs []), (0 : Int)), ((0 : Int), (0 : Int)))).2.1, ((b0).getD (lv0 + (Int.toNat (v17 - (1 : Int)))) (((bs []), (0 : Int)), ((0 : Int), (0 : Int)))).2.2)))).length)) <|
 .ni (v17 - (1 : Int)) <|
 .ret (.inl (lv0, (nv0, (v14, ((v17 - (1 : Int)), (((((b0).set (lv0 + (Int.toNat v17)) ((((b0).getD (lv0 + (Int.toNat (v17 - (1 : Int)))) (((bs []), (0 : Int)), ((0 : Int), (0 : Int)))).1.1, ((b0).getD (lv0 + (Int.toNat (v17 - (1 : Int)))) (((bs []), (0 : Int)), ((0 : Int), (0 : Int)))).1.2), (((b0).getD (lv0 + (Int.toNat (v17 - (1 : Int)))) (((bs []), (0 : Int)), ((0 : Int), (0 : Int)))).2.1, ((b0).getD (lv0 + (Int.toNat (v17 - (1 : Int)))) (((bs []), (0 : Int)), ((0 : Int), (0 : Int)))).2.2)))).set (lv0 + (Int.toNat (v17 - (1 : Int)))) ((((b0).getD (lv0 + (Int.toNat v17)) (((bs []), (0 : Int)), ((0 : Int), (0 : Int)))).1.1, ((b0).getD (lv0 + (Int.toNat v17)) (((bs []), (0 : Int)), ((0 : Int), (0 : Int)))).1.2), (((b0).getD (lv0 + (Int.toNat v17)) (((bs []), (0 : Int)), ((0 : Int), (0 : Int)))).2.1, ((b0).getD (lv0 + (Int.toNat v17)) (((bs []), (0 : Int)), ((0 : Int), (0 : Int)))).2.2))), ()))))))) (
 .ret (.inr (b0, ())))
theorem sH100_3 (rec : pH100.T → Option qH100.T) (h : Ht.Ok prog ⟨100, pH100, qH100, rec⟩) : ∀ x, roundE (kzO (pH100_3.T ⊕ xH100_3.T)) (cxH100 rec) ar0 [0, 1] pH100_3 xH100_3 (bH100_3 rec h) (fun y => some (.inl y)) (fun b => some (.inr b)) x = run rec (gH100_3 x) := fun x => by kernel_rfl
noncomputable def LH100_3 (rec : pH100.T → Option qH100.T) (h : Ht.Ok prog ⟨100, pH100, qH100, rec⟩) : LoopS prog 220 none 2 := mkLoop mixed (cxH100 rec) (cxH100_ok rec h) [0, 1] rfl pH100_3 xH100_3 rfl (bH100_3 rec h) (fun x => run rec (gH100_3 x)) (sH100_3 rec h)
@[reducible] def pH100_4 : Pat := Pat.mk [(0, .c (.slx 0 (.prod (.prod .str tI) (.prod tI tI)))), (1, hI), (2, hI), (3, hI), (4, .fn 82 [] [.ptr 1 0]), (18, hI), (19, hI), (20, hI), (21, hI), (22, hI)] [(0, .arr (.prod (.prod .str tI) (.prod tI tI)) false), (1, .cells [.fn0 70] false)] [] []
@[reducible] def xH100_4 : Outs := [(.exit 8, Pat.mk [(0, .c (.slx 0 (.prod (.prod .str tI) (.prod tI tI)))), (1, hI), (2, hI), (3, hI), (4, .fn 82 [] [.ptr 1 0]), (18, hI), (19, hI), (20, hI)] [(0, .arr (.prod (.prod .str tI) (.prod tI tI)) false), (1, .cells [.fn0 70] false)] [] [])]
noncomputable def bH100_4 (rec : pH100.T → Option qH100.T) (h : Ht.Ok prog ⟨100, pH100, qH100, rec⟩) : D prog 220 none 2 := dO [] (pick (kd prog f100) [(4, false)]) 0
noncomputable def gH100_4 : Nat × Nat × Int × Int × Int × Int × Int × Int × Int × Int × (List ((ByteArray × Int) × Int × Int)) × Unit → Tr pH100.T qH100.T ((Nat × Nat × Int × Int × Int × Int × Int × Int × Int × Int × (List ((ByteArray × Int) × Int × Int)) × Unit) ⊕ ((Nat × Nat × Int × Int × Int × Int × Int × Int × (List ((ByteArray × Int) × Int × Int)) × Unit))) := fun (lv0, nv0, v1, v2, v3, v18, v19, v20, v21, v22, b0, _) =>
 .br (decide (v20 < v21)) (
 .ni (v20 + v21) <|
 .nd (rng .u64 (v20 + v21)) <|
 .nb (1 : Int) (64 : Int) <|
 .ni (ar0.shr (v20 + v21) (1 : Int)) <|
 .ni (v22 - (ar0.shr (v20 + v21) (1 : Int))) <|
 .nb (v22 - (ar0.shr (v20 + v21) (1 : Int))) ((nv0 : Nat) : Int) <|
 .nd (decide ((lv0 + (Int.toNat (v22 - (ar0.shr (v20 + v21) (1 : Int))))) < (b0).length)) <|
 .nb (ar0.shr (v20 + v21) (1 : Int)) ((nv0 : Nat) : Int) <|
 .nd (decide ((lv0 + (Int.toNat (ar0.shr (v20 + v21) (1 : Int)))) < (b0).length)) <|
 .bd (.up (F82 (((b0).getD (lv0 + (Int.toNat (v22 - (ar0.shr (v20 + v21) (1 : Int))))) (((bs []), (0 : Int)), ((0 : Int), (0 : Int)))).1.1, (((b0).getD (lv0 + (Int.toNat (v22 - (ar0.shr (v20 + v21) (1 : Int))))) (((bs []), (0 : Int)), ((0 : Int), (0 : Int)))).1.2, (((b0).getD (lv0 + (Int.toNat (v22 - (ar0.shr (v20 + v21) (1 : Int))))) (((bs []), (0 : Int)), ((0 : Int), (0 : Int)))).2.1, ((b0).getD (lv0 + (Int.toNat (v22 - (ar0.shr (v20 + v21) (1 : Int))))) (((bs []), (0 : Int)), ((0 : Int), (0 : Int)))).2.2))) (((b0).getD (lv0 + (Int.toNat (ar0.shr (v20 + v21) (1 : Int)))) (((bs []), (0 : Int)), ((0 : Int), (0 : Int)))).1.1, (((b0).getD (lv0 + (Int.toNat (ar0.shr (v20 + v21) (1 : Int)))) (((bs []), (0 : Int)), ((0 : Int), (0 : Int)))).1.2, (((b0).getD (lv0 + (Int.toNat (ar0.shr (v20 + v21) (1 : Int)))) (((bs []), (0 : Int)), ((0 : Int), (0 : Int)))).2.1, ((b0).getD (lv0 + (Int.toNat (ar0.shr (v20 + v21) (1 : Int)))) (((bs []), (0 : Int)), ((0 : Int), (0 : Int)))).2.2))))) fun y7 =>
 .br (!(decide (y7.1 < (0 : Int)))) (
 .ni ((ar0.shr (v20 + v21) (1 : Int)) + (1 : Int)) <|
 .ret (.inl (lv0, (nv0, (v1, (v2, (v3, (v18, (v19, (((ar0.shr (v20 + v21) (1 : Int)) + (1 : Int)), (v21, (v22, (b0, ()))))))))))))) (
 .ret (.inl (lv0, (nv0, (v1, (v2, (v3, (v18, (v19, (v20, ((ar0.shr (v20 + v21) (1 : Int)), (v22, (b0, ())))))))))))))) (
 .ret (.inr (lv0, (nv0, (v1, (v2, (v3, (v18, (v19, (v20, (b0, ())))))))))))
theorem sH100_4 (rec : pH100.T → Option qH100.T) (h : Ht.Ok prog ⟨100, pH100, qH100, rec⟩) : ∀ x, roundE (kzO (pH100_4.T ⊕ xH100_4.T)) (cxH100 rec) ar0 [0, 1] pH100_4 xH100_4 (bH100_4 rec h) (fun y => some (.inl y)) (fun b => some (.inr b)) x = run rec (gH100_4 x) := fun x => by kernel_rfl
noncomputable def LH100_4 (rec : pH100.T → Option qH100.T) (h : Ht.Ok prog ⟨100, pH100, qH100, rec⟩) : LoopS prog 220 none 2 := mkLoop mixed (cxH100 rec) (cxH100_ok rec h) [0, 1] rfl pH100_4 xH100_4 rfl (bH100_4 rec h) (fun x => run rec (gH100_4 x)) (sH100_4 rec h)
noncomputable def ddH100 (rec : pH100.T → Option qH100.T) (h : Ht.Ok prog ⟨100, pH100, qH100, rec⟩) : D prog 220 none 2 := dO [.l (LH100_0 rec h), .l (LH100_1 rec h), .l (LH100_2 rec h), .l (LH100_3 rec h), .l (LH100_4 rec h)] (kd prog f100) 0
noncomputable def FH100 (lv0 : Nat) (nv0 : Nat) (v1 : Int) (v2 : Int) (v3 : Int) (b0 : List ((ByteArray × Int) × Int × Int)) : Tr pH100.T qH100.T ((List ((ByteArray × Int) × Int × Int)) × Unit) :=
 .ni (v2 - v1) <|
 .br ((v2 - v1) == (1 : Int)) (
 .bd (.it gH100_0 (lv0, (nv0, (v1, (v2, (v3, (b0, ()))))))) fun z1 =>
 .bd (.it gH100_1 (z1.1, (z1.2.1, (z1.2.2.2.1, (z1.2.2.1, (z1.2.2.2.2.1, ())))))) fun z2 =>
 .ret (z2.1, ())) (
 .ni (v3 - v2) <|
 .br ((v3 - v2) == (1 : Int)) (
 .bd (.it gH100_2 (lv0, (nv0, (v2, (v1, (v2, (b0, ()))))))) fun z4 =>
 .bd (.it gH100_3 (z4.1, (z4.2.1, (z4.2.2.2.1, (z4.2.2.1, (z4.2.2.2.2.1, ())))))) fun z5 =>
 .ret (z5.1, ())) (
 .ni (v1 + v3) <|
 .nd (rng .u64 (v1 + v3)) <|
 .nb (1 : Int) (64 : Int) <|
 .ni (ar0.shr (v1 + v3) (1 : Int)) <|
 .ni ((ar0.shr (v1 + v3) (1 : Int)) + v2) <|
 .jx (
 .br (decide ((ar0.shr (v1 + v3) (1 : Int)) < v2)) (
 .ni (((ar0.shr (v1 + v3) (1 : Int)) + v2) - v3) <|
 .ret (.inl (lv0, (nv0, (v1, (v2, (v3, ((ar0.shr (v1 + v3) (1 : Int)), (((ar0.shr (v1 + v3) (1 : Int)) + v2), ((((ar0.shr (v1 + v3) (1 : Int)) + v2) - v3), ((ar0.shr (v1 + v3) (1 : Int)), (b0, ())))))))))))) (
 .ret (.inl (lv0, (nv0, (v1, (v2, (v3, ((ar0.shr (v1 + v3) (1 : Int)), (((ar0.shr (v1 + v3) (1 : Int)) + v2), (v1, (v2, (b0, ()))))))))))))) fun j6 =>
 .ni (j6.2.2.2.2.2.2.1 - (1 : Int)) <|
 .bd (.it gH100_4 (j6.1, (j6.2.1, (j6.2.2.1, (j6.2.2.2.1, (j6.2.2.2.2.1, (j6.2.2.2.2.2.1, (j6.2.2.2.2.2.2.1, (j6.2.2.2.2.2.2.2.1, (j6.2.2.2.2.2.2.2.2.1, ((j6.2.2.2.2.2.2.1 - (1 : Int)), (j6.2.2.2.2.2.2.2.2.2.1, ())))))))))))) fun z8 =>
 .ni (z8.2.2.2.2.2.2.1 - z8.2.2.2.2.2.2.2.1) <|
 .jx (
 .br (decide (z8.2.2.2.2.2.2.2.1 < z8.2.2.2.1)) (
 .br (decide (z8.2.2.2.1 < (z8.2.2.2.2.2.2.1 - z8.2.2.2.2.2.2.2.1))) (
 .bd (.up (FH102 z8.1 z8.2.1 z8.2.2.2.2.2.2.2.1 z8.2.2.2.1 (z8.2.2.2.2.2.2.1 - z8.2.2.2.2.2.2.2.1) z8.2.2.2.2.2.2.2.2.1)) fun y11 =>
 .ret (.inl (z8.1, (z8.2.1, (z8.2.2.1, (z8.2.2.2.2.1, (z8.2.2.2.2.2.1, (z8.2.2.2.2.2.2.2.1, ((z8.2.2.2.2.2.2.1 - z8.2.2.2.2.2.2.2.1), (y11.1, ())))))))))) (
 .ret (.inl (z8.1, (z8.2.1, (z8.2.2.1, (z8.2.2.2.2.1, (z8.2.2.2.2.2.1, (z8.2.2.2.2.2.2.2.1, ((z8.2.2.2.2.2.2.1 - z8.2.2.2.2.2.2.2.1), (z8.2.2.2.2.2.2.2.2.1, ()))))))))))) (
 .ret (.inl (z8.1, (z8.2.1, (z8.2.2.1, (z8.2.2.2.2.1, (z8.2.2.2.2.2.1, (z8.2.2.2.2.2.2.2.1, ((z8.2.2.2.2.2.2.1 - z8.2.2.2.2.2.2.2.1), (z8.2.2.2.2.2.2.2.2.1, ()))))))))))) fun j10 =>
 .jx (
 .br (decide (j10.2.2.1 < j10.2.2.2.2.2.1)) (
 .br (decide (j10.2.2.2.2.2.1 < j10.2.2.2.2.1)) (
 .bd (.rc (j10.1, (j10.2.1, (j10.2.2.1, (j10.2.2.2.2.2.1, (j10.2.2.2.2.1, (j10.2.2.2.2.2.2.2.1, ()))))))) fun y14 =>
 .ret (.inl (j10.1, (j10.2.1, (j10.2.2.2.1, (j10.2.2.2.2.1, (j10.2.2.2.2.2.2.1, (y14.1, ())))))))) (
 .ret (.inl (j10.1, (j10.2.1, (j10.2.2.2.1, (j10.2.2.2.2.1, (j10.2.2.2.2.2.2.1, (j10.2.2.2.2.2.2.2.1, ()))))))))) (
 .ret (.inl (j10.1, (j10.2.1, (j10.2.2.2.1, (j10.2.2.2.2.1, (j10.2.2.2.2.2.2.1, (j10.2.2.2.2.2.2.2.1, ()))))))))) fun j13 =>
 .br (decide (j13.2.2.2.1 < j13.2.2.2.2.1)) (
 .br (decide (j13.2.2.2.2.1 < j13.2.2.1)) (
 .bd (.rc (j13.1, (j13.2.1, (j13.2.2.2.1, (j13.2.2.2.2.1, (j13.2.2.1, (j13.2.2.2.2.2.1, ()))))))) fun y15 =>
 .ret (y15.1, ())) (
 .ret (j13.2.2.2.2.2.1, ()))) (
 .ret (j13.2.2.2.2.2.1, ()))))
theorem cH100_ok (rec : pH100.T → Option qH100.T) (h : Ht.Ok prog ⟨100, pH100, qH100, rec⟩) : trF prog f100 = some ⟨220, 5, (ddH100 rec h).er, [], []⟩ := by kernel_rfl
theorem ht100_step (rec : pH100.T → Option qH100.T) (h : Ht.Ok prog ⟨100, pH100, qH100, rec⟩) : Ht.Ok prog ⟨100, pH100, qH100, (fun x => run rec (FH100 x.1 x.2.1 x.2.2.1 x.2.2.2.1 x.2.2.2.2.1 x.2.2.2.2.2.1))⟩ := ht_ok mixed (cxH100_ok rec h) rfl func100 (cH100_ok rec h) (enters_of func100 rfl rfl) (ddH100 rec h) (by kernel_rfl) rfl rfl ⟨_, rfl⟩ rfl (pre := [0, 1]) rfl (fun x => Eq.trans (b := run rec (flat (FH100 x.1 x.2.1 x.2.2.1 x.2.2.2.1 x.2.2.2.2.1 x.2.2.2.2.2.1))) (by kernel_rfl) run_flat)
noncomputable def FH100fix (lv0 : Nat) (nv0 : Nat) (v1 : Int) (v2 : Int) (v3 : Int) (b0 : List ((ByteArray × Int) × Int × Int)) : Tr0 ((List ((ByteArray × Int) × Int × Int)) × Unit) := .fx (A1 := pH100.T) (B1 := qH100.T) (fun x => FH100 x.1 x.2.1 x.2.2.1 x.2.2.2.1 x.2.2.2.2.1 x.2.2.2.2.2.1) (lv0, nv0, v1, v2, v3, b0, ())
noncomputable def ht100 : Ht := ⟨100, pH100, qH100, fun x => run0 (FH100fix x.1 x.2.1 x.2.2.1 x.2.2.2.1 x.2.2.2.2.1 x.2.2.2.2.2.1)⟩
theorem ht100_ok : ht100.Ok prog := ht_fix (F := fun rec x => run rec (FH100 x.1 x.2.1 x.2.2.1 x.2.2.2.1 x.2.2.2.2.1 x.2.2.2.2.2.1)) (fun rec h => ht100_step rec h)

/- 94, lent -/
@[reducible] def pH94 : Pat := Pat.mk [(0, .c (.slx 0 (.prod (.prod .str tI) (.prod tI tI)))), (1, hI), (2, .fn 82 [] [.ptr 1 0])] [(0, .arr (.prod (.prod .str tI) (.prod tI tI)) false), (1, .cells [.fn0 70] false)] [.slot 0, .part 2 0] []
@[reducible] def qH94 : Pat := Pat.mk [(0, .c .any)] [(1, .cells [.fn0 70] false), (0, .arr (.prod (.prod .str tI) (.prod tI tI)) false)] [] []
noncomputable def cxH94 : Cx := mkCxH [] [ht83, ht100]
theorem cxH94_ok : cxH94.Ok prog := mkCxH_ok trivial ⟨⟨ht83_ok, rfl⟩, ⟨ht100_ok, rfl⟩, trivial⟩
@[reducible] def pH94_0 : Pat := Pat.mk [(0, .c (.slx 0 (.prod (.prod .str tI) (.prod tI tI)))), (1, hI), (2, .fn 82 [] [.ptr 1 0]), (6, hI), (7, hI), (8, hI)] [(0, .arr (.prod (.prod .str tI) (.prod tI tI)) false), (1, .cells [.fn0 70] false)] [] []
@[reducible] def xH94_0 : Outs := [(.exit 0, Pat.mk [(0, .c (.slx 0 (.prod (.prod .str tI) (.prod tI tI)))), (1, hI), (2, .fn 82 [] [.ptr 1 0]), (6, hI), (7, hI)] [(0, .arr (.prod (.prod .str tI) (.prod tI tI)) false), (1, .cells [.fn0 70] false)] [] [])]
noncomputable def bH94_0 : D prog 63 none 2 := dO [] (pick (kd prog f94) [(0, false)]) 0
noncomputable def gH94_0 : Nat × Nat × Int × Int × Int × Int × (List ((ByteArray × Int) × Int × Int)) × Unit → Tr0 ((Nat × Nat × Int × Int × Int × Int × (List ((ByteArray × Int) × Int × Int)) × Unit) ⊕ ((Nat × Nat × Int × Int × Int × (List ((ByteArray × Int) × Int × Int)) × Unit))) := fun (lv0, nv0, v1, v6, v7, v8, b0, _) =>
 .br (decide (v8 ≤ v1)) (
 .bd (FH83 lv0 nv0 v7 v8 b0) fun y0 =>
 .ni (v8 + v6) <|
 .ret (.inl (lv0, (nv0, (v1, (v6, (v8, ((v8 + v6), (y0.1, ()))))))))) (
 .ret (.inr (lv0, (nv0, (v1, (v6, (v7, (b0, ()))))))))
theorem sH94_0 : ∀ x, roundE (kzO (pH94_0.T ⊕ xH94_0.T)) cxH94 ar0 [0, 1] pH94_0 xH94_0 (bH94_0) (fun y => some (.inl y)) (fun b => some (.inr b)) x = run0 (gH94_0 x) := fun x => by kernel_rfl
noncomputable def LH94_0 : LoopS prog 63 none 2 := mkLoop mixed cxH94 cxH94_ok [0, 1] rfl pH94_0 xH94_0 rfl (bH94_0) (fun x => run0 (gH94_0 x)) (sH94_0)
@[reducible] def pH94_2 : Pat := Pat.mk [(0, .c (.slx 0 (.prod (.prod .str tI) (.prod tI tI)))), (1, hI), (2, .fn 82 [] [.ptr 1 0]), (6, hI), (7, hI), (8, hI)] [(0, .arr (.prod (.prod .str tI) (.prod tI tI)) false), (1, .cells [.fn0 70] false)] [] []
@[reducible] def xH94_2 : Outs := [(.exit 4, Pat.mk [(0, .c (.slx 0 (.prod (.prod .str tI) (.prod tI tI)))), (1, hI), (2, .fn 82 [] [.ptr 1 0]), (6, hI), (7, hI)] [(0, .arr (.prod (.prod .str tI) (.prod tI tI)) false), (1, .cells [.fn0 70] false)] [] [])]
noncomputable def bH94_2 : D prog 63 none 2 := dO [] (pick (kd prog f94) [(1, false), (0, false)]) 0
noncomputable def gH94_2 : Nat × Nat × Int × Int × Int × Int × (List ((ByteArray × Int) × Int × Int)) × Unit → Tr0 ((Nat × Nat × Int × Int × Int × Int × (List ((ByteArray × Int) × Int × Int)) × Unit) ⊕ ((Nat × Nat × Int × Int × Int × (List ((ByteArray × Int) × Int × Int)) × Unit))) := fun (lv0, nv0, v1, v6, v7, v8, b0, _) =>
 .br (decide (v8 ≤ v1)) (
 .ni (v7 + v6) <|
 .bd (FH100fix lv0 nv0 v7 (v7 + v6) v8 b0) fun y3 =>
 .ni ((2 : Int) * v6) <|
 .ni (v8 + ((2 : Int) * v6)) <|
 .ret (.inl (lv0, (nv0, (v1, (v6, (v8, ((v8 + ((2 : Int) * v6)), (y3.1, ()))))))))) (
 .ret (.inr (lv0, (nv0, (v1, (v6, (v7, (b0, ()))))))))
theorem sH94_2 : ∀ x, roundE (kzO (pH94_2.T ⊕ xH94_2.T)) cxH94 ar0 [0, 1] pH94_2 xH94_2 (bH94_2) (fun y => some (.inl y)) (fun b => some (.inr b)) x = run0 (gH94_2 x) := fun x => by kernel_rfl
noncomputable def LH94_2 : LoopS prog 63 none 2 := mkLoop mixed cxH94 cxH94_ok [0, 1] rfl pH94_2 xH94_2 rfl (bH94_2) (fun x => run0 (gH94_2 x)) (sH94_2)
@[reducible] def pH94_1 : Pat := Pat.mk [(0, .c (.slx 0 (.prod (.prod .str tI) (.prod tI tI)))), (1, hI), (2, .fn 82 [] [.ptr 1 0]), (6, hI)] [(0, .arr (.prod (.prod .str tI) (.prod tI tI)) false), (1, .cells [.fn0 70] false)] [] []
@[reducible] def xH94_1 : Outs := [(.exit 2, Pat.mk [] [(1, .cells [.fn0 70] false), (0, .arr (.prod (.prod .str tI) (.prod tI tI)) false)] [] [])]
noncomputable def bH94_1 : D prog 63 none 2 := dO [.l LH94_2] (pick (kd prog f94) [(1, false)]) 0
noncomputable def gH94_1 : Nat × Nat × Int × Int × (List ((ByteArray × Int) × Int × Int)) × Unit → Tr0 ((Nat × Nat × Int × Int × (List ((ByteArray × Int) × Int × Int)) × Unit) ⊕ (((List ((ByteArray × Int) × Int × Int)) × Unit))) := fun (lv0, nv0, v1, v6, b0, _) =>
 .br (decide (v6 < v1)) (
 .ni ((2 : Int) * v6) <|
 .bd (.it gH94_2 (lv0, (nv0, (v1, (v6, ((0 : Int), (((2 : Int) * v6), (b0, ())))))))) fun z4 =>
 .ni (z4.2.2.2.2.1 + z4.2.2.2.1) <|
 .br (decide ((z4.2.2.2.2.1 + z4.2.2.2.1) < z4.2.2.1)) (
 .bd (FH100fix z4.1 z4.2.1 z4.2.2.2.2.1 (z4.2.2.2.2.1 + z4.2.2.2.1) z4.2.2.1 z4.2.2.2.2.2.1) fun y5 =>
 .ni (z4.2.2.2.1 * (2 : Int)) <|
 .ret (.inl (z4.1, (z4.2.1, (z4.2.2.1, ((z4.2.2.2.1 * (2 : Int)), (y5.1, ()))))))) (
 .ni (z4.2.2.2.1 * (2 : Int)) <|
 .ret (.inl (z4.1, (z4.2.1, (z4.2.2.1, ((z4.2.2.2.1 * (2 : Int)), (z4.2.2.2.2.2.1, ())))))))) (
 .ret (.inr (b0, ())))
theorem sH94_1 : ∀ x, roundE (kzO (pH94_1.T ⊕ xH94_1.T)) cxH94 ar0 [0, 1] pH94_1 xH94_1 (bH94_1) (fun y => some (.inl y)) (fun b => some (.inr b)) x = run0 (gH94_1 x) := fun x => by kernel_rfl
noncomputable def LH94_1 : LoopS prog 63 none 2 := mkLoop mixed cxH94 cxH94_ok [0, 1] rfl pH94_1 xH94_1 rfl (bH94_1) (fun x => run0 (gH94_1 x)) (sH94_1)
noncomputable def ddH94 : D prog 63 none 2 := dO [.l LH94_0, .l LH94_1] (kd prog f94) 0
noncomputable def FH94 (lv0 : Nat) (nv0 : Nat) (v1 : Int) (b0 : List ((ByteArray × Int) × Int × Int)) : Tr0 ((List ((ByteArray × Int) × Int × Int)) × Unit) :=
 .bd (.it gH94_0 (lv0, (nv0, (v1, ((20 : Int), ((0 : Int), ((20 : Int), (b0, ())))))))) fun z1 =>
 .bd (FH83 z1.1 z1.2.1 z1.2.2.2.2.1 z1.2.2.1 z1.2.2.2.2.2.1) fun y2 =>
 .bd (.it gH94_1 (z1.1, (z1.2.1, (z1.2.2.1, (z1.2.2.2.1, (y2.1, ())))))) fun z6 =>
 .ret (z6.1, ())
theorem cH94_ok : trF prog f94 = some ⟨63, 3, ddH94.er, [], []⟩ := by kernel_rfl
noncomputable def ht94 : Ht := ⟨94, pH94, qH94, (fun x => run0 (FH94 x.1 x.2.1 x.2.2.1 x.2.2.2.1))⟩
theorem ht94_ok : ht94.Ok prog := ht_ok mixed cxH94_ok rfl func94 cH94_ok (enters_of func94 rfl rfl) ddH94 (by kernel_rfl) rfl rfl ⟨_, rfl⟩ rfl (pre := [0, 1]) rfl (fun x => by kernel_rfl)

/- 81, lent -/
@[reducible] def pH81 : Pat := Pat.mk [(0, .c (.slx 0 (.prod (.prod .str tI) (.prod tI tI)))), (1, .fn 82 [] [.ptr 1 0])] [(0, .arr (.prod (.prod .str tI) (.prod tI tI)) false), (1, .cells [.fn0 70] false)] [.slot 0, .part 1 0] []
@[reducible] def qH81 : Pat := Pat.mk [(0, .c .any)] [(1, .cells [.fn0 70] false), (0, .arr (.prod (.prod .str tI) (.prod tI tI)) false)] [] []
noncomputable def cxH81 : Cx := mkCxH [] [ht94]
theorem cxH81_ok : cxH81.Ok prog := mkCxH_ok trivial ⟨⟨ht94_ok, rfl⟩, trivial⟩
noncomputable def ddH81 : D prog 9 none 2 := dO [] (kd prog f81) 0
noncomputable def FH81 (lv0 : Nat) (nv0 : Nat) (b0 : List ((ByteArray × Int) × Int × Int)) : Tr0 ((List ((ByteArray × Int) × Int × Int)) × Unit) :=
 .bd (FH94 lv0 nv0 ((nv0 : Nat) : Int) b0) fun y0 =>
 .ret (y0.1, ())
theorem cH81_ok : trF prog f81 = some ⟨9, 2, ddH81.er, [], []⟩ := by kernel_rfl
noncomputable def ht81 : Ht := ⟨81, pH81, qH81, (fun x => run0 (FH81 x.1 x.2.1 x.2.2.1))⟩
theorem ht81_ok : ht81.Ok prog := ht_ok mixed cxH81_ok rfl func81 cH81_ok (enters_of func81 rfl rfl) ddH81 (by kernel_rfl) rfl rfl ⟨_, rfl⟩ rfl (pre := [0, 1]) rfl (fun x => by kernel_rfl)

/- 72 -/
noncomputable def cx72 : Cx := mkCxH [] []
theorem cx72_ok : cx72.Ok prog := mkCxH_ok trivial trivial
@[reducible] def p72_0 : Pat := Pat.mk [(1, .c (.ptr 0 0)), (2, .c (.ptr 1 0)), (3, hI), (4, hI)] [(0, .cells [.hole tI, .hole tI] false), (1, .cells [.hole tI, .hole tI] false)] [.slot 1, .slot 2] []
@[reducible] def x72_0 : Outs := [(.exit 0, Pat.mk [(1, .c (.ptr 0 0)), (2, .c (.ptr 1 0)), (3, hI)] [(0, .cells [.hole tI, .hole tI] false), (1, .cells [.hole tI, .hole tI] false)] [.slot 1, .slot 2] [])]
noncomputable def b72_0 : D prog 24 none 0 := dO [] (pick (kd prog f72) [(0, false)]) 0
noncomputable def g72_0 : Int × Int × Int × Int × Int × Int × Unit → Tr0 ((Int × Int × Int × Int × Int × Int × Unit) ⊕ ((Int × Int × Int × Int × Int × Unit))) := fun (v3, v4, c0_0, c0_1, c1_0, c1_1, _) =>
 .br (decide ((0 : Int) < v4)) (
 .nd (!(v4 == (0 : Int))) <|
 .ret (.inl (v4, ((Int.tmod v3 v4), (c0_0, (c0_1, (c1_0, (c1_1, ())))))))) (
 .ret (.inr (v3, (c0_0, (c0_1, (c1_0, (c1_1, ())))))))
theorem s72_0 : ∀ x, roundE (kzO (p72_0.T ⊕ x72_0.T)) cx72 ar0 [] p72_0 x72_0 (b72_0) (fun y => some (.inl y)) (fun b => some (.inr b)) x = run0 (g72_0 x) := fun x => by kernel_rfl
noncomputable def L72_0 : LoopS prog 24 none 0 := mkLoop mixed cx72 cx72_ok [] rfl p72_0 x72_0 rfl (b72_0) (fun x => run0 (g72_0 x)) (s72_0)
noncomputable def dd72 : D prog 24 none 0 := dO [.l L72_0] (kd prog f72) 0
noncomputable def F72 (a0 : Int × Int) : Tr0 ((Int × Int) × Unit) :=
 .bd (.it g72_0 (a0.1, (a0.2, (a0.1, (a0.2, ((0 : Int), ((0 : Int), ()))))))) fun z0 =>
 .nd (!(z0.1 == (0 : Int))) <|
 .ni (Int.tdiv z0.2.1 z0.1) <|
 .nd (!(z0.1 == (0 : Int))) <|
 .ni (Int.tdiv z0.2.2.1 z0.1) <|
 .ret (((Int.tdiv z0.2.1 z0.1), (Int.tdiv z0.2.2.1 z0.1)), ())
theorem c72_ok : trF prog f72 = some ⟨24, 1, dd72.er, [.cell 2 true 2], [some (.prod tI tI)]⟩ := by kernel_rfl
noncomputable def ct72 : Ct := ⟨72, [.c (.hole (.prod tI tI))], .c (.hole (.prod tI tI)), fun x => run0 (F72 x.1)⟩
theorem ct72_ok : ct72.Ok prog := ct_ok mixed cx72_ok func72 c72_ok (enters_of func72 rfl rfl) dd72 (by kernel_rfl) rfl (fun x => by kernel_rfl)

/- 52 -/
noncomputable def cx52 : Cx := mkCxH [ct69, ct71, ct70, ct72] [ht55, ht79, ht81]
theorem cx52_ok : cx52.Ok prog := mkCxH_ok ⟨ct69_ok, ct71_ok, ct70_ok, ct72_ok, trivial⟩ ⟨⟨ht55_ok, rfl⟩, ⟨ht79_ok, rfl⟩, ⟨ht81_ok, rfl⟩, trivial⟩
noncomputable def ad52_0 : D prog 45 (some 5) 8 := dO [] (pick (kd prog f52) [(0, false)]) 0
noncomputable def bd52_0 : D prog 45 (some 5) 8 := dO [] (pick (kd prog f52) [(0, true)]) 0
noncomputable def cx52_0i : Cx := itCx cx52 (fun kz => rdK kz cx52 ar0 5 8 [13] (ad52_0) (bd52_0))
theorem cx52_0i_ok : (cx52_0i).Ok prog := itCx_ok cx52_ok (fun h => rdK_ok mixed cx52_ok h)
@[reducible] def p52_0i_0 : Pat := Pat.mk [(0, .c (.yl 5)), (14, .c (.slx 6 (.prod (.prod .str tI) (.prod tI tI)))), (15, hI), (16, hI)] [(5, .loop .ready none 4 [(1, .c (.ptr 0 0)), (2, .c (.ptr 1 0)), (3, .c (.ptr 2 0)), (4, .c (.ptr 3 0)), (12, .fn 78 [] [.ipc (.prod (.list (.prod (.prod .str tI) (.prod tI tI))) tI)])] [13] (.reg [.op (some 5) none (.alloc [.str (ByteArray.mk (Array.mk [])), .int .i64 (Int.ofNat 0), .int .i64 (Int.ofNat 0), .int .i64 (Int.ofNat 0)]), .op none none (.store 4 (.t 5) (.t 13))]) (.block 1 (.reg [.op (some 14) none (.load false 1 (.t 4)), .op (some 15) none (.fld 3 [true, true] (.t 5)), .op (some 16) none (.load false 1 (.t 15)), .op (some 17) none (.bin .add (.t 14) (.t 16)), .op none none (.store 1 (.t 4) (.t 17))])) 45), (6, .arr (.prod (.prod .str tI) (.prod tI tI)) false), (4, .dfr), (0, .cells [.hole (.list (.prod (.prod .str tI) (.prod tI tI))), .hole tI] false), (1, .cells [.hole tI, .hole tI] false), (2, .cells [.hole tI] false), (3, .cells [.hole tI] false)] [.slot 14] []
@[reducible] def x52_0i_0 : Outs := [(.exit 0, Pat.mk [] [(0, .cells [.hole (.list (.prod (.prod .str tI) (.prod tI tI))), .hole tI] false), (1, .cells [.hole tI, .hole tI] false), (2, .cells [.hole tI] false), (3, .cells [.hole tI] false), (4, .dfr), (5, .loop .ready none 4 [(1, .c (.ptr 0 0)), (2, .c (.ptr 1 0)), (3, .c (.ptr 2 0)), (4, .c (.ptr 3 0)), (12, .fn 78 [] [.ipc (.prod (.list (.prod (.prod .str tI) (.prod tI tI))) tI)])] [13] (.reg [.op (some 5) none (.alloc [.str (ByteArray.mk (Array.mk [])), .int .i64 (Int.ofNat 0), .int .i64 (Int.ofNat 0), .int .i64 (Int.ofNat 0)]), .op none none (.store 4 (.t 5) (.t 13))]) (.block 1 (.reg [.op (some 14) none (.load false 1 (.t 4)), .op (some 15) none (.fld 3 [true, true] (.t 5)), .op (some 16) none (.load false 1 (.t 15)), .op (some 17) none (.bin .add (.t 14) (.t 16)), .op none none (.store 1 (.t 4) (.t 17))])) 45)] [] [])]
noncomputable def b52_0i_0 : D prog 25 none 6 := dO [] (pick (kd prog f78) [(0, false)]) 0
noncomputable def g52_0i_0 : Nat × Nat × Int × Int × ((List ((ByteArray × Int) × Int × Int)) × Int) × (List ((ByteArray × Int) × Int × Int)) × (List ((ByteArray × Int) × Int × Int)) × Int × Int × Int × Int × Int × Unit → Tr0 ((Nat × Nat × Int × Int × ((List ((ByteArray × Int) × Int × Int)) × Int) × (List ((ByteArray × Int) × Int × Int)) × (List ((ByteArray × Int) × Int × Int)) × Int × Int × Int × Int × Int × Unit) ⊕ (((List ((ByteArray × Int) × Int × Int)) × Int × Int × Int × Int × Int × ((List ((ByteArray × Int) × Int × Int)) × Int) × Unit))) := fun (lv14, nv14, v15, v16, w12_0, b6, c0_0, c0_1, c1_0, c1_1, c2_0, c3_0, _) =>
 .br (decide (v16 < v15)) (
 .nb v16 ((nv14 : Nat) : Int) <|
 .nd (decide ((lv14 + (Int.toNat v16)) < (b6).length)) <|
 .ni (c3_0 + ((b6).getD (lv14 + (Int.toNat v16)) (((bs []), (0 : Int)), ((0 : Int), (0 : Int)))).2.2) <|
 .ni (v16 + (1 : Int)) <|
 .ret (.inl (lv14, (nv14, (v15, ((v16 + (1 : Int)), ((w12_0.1, w12_0.2), (b6, (c0_0, (c0_1, (c1_0, (c1_1, (c2_0, ((c3_0 + ((b6).getD (lv14 + (Int.toNat v16)) (((bs []), (0 : Int)), ((0 : Int), (0 : Int)))).2.2), ())))))))))))))) (
 .ret (.inr (c0_0, (c0_1, (c1_0, (c1_1, (c2_0, (c3_0, ((w12_0.1, w12_0.2), ())))))))))
theorem s52_0i_0 : ∀ x, roundE (kzO (p52_0i_0.T ⊕ x52_0i_0.T)) cx52_0i ar0 [0, 1, 2, 3, 4, 5] p52_0i_0 x52_0i_0 (b52_0i_0) (fun y => some (.inl y)) (fun b => some (.inr b)) x = run0 (g52_0i_0 x) := fun x => by kernel_rfl
noncomputable def L52_0i_0 : LoopS prog 25 none 6 := mkLoop mixed cx52_0i cx52_0i_ok [0, 1, 2, 3, 4, 5] rfl p52_0i_0 x52_0i_0 rfl (b52_0i_0) (fun x => run0 (g52_0i_0 x)) (s52_0i_0)
@[reducible] def p52_0 : Pat := Pat.mk [(1, .c (.ptr 0 0)), (2, .c (.ptr 1 0)), (3, .c (.ptr 2 0)), (4, .c (.ptr 3 0)), (12, .fn 78 [] [.ipc (.prod (.list (.prod (.prod .str tI) (.prod tI tI))) tI)])] [(0, .cells [.hole (.list (.prod (.prod .str tI) (.prod tI tI))), .hole tI] false), (1, .cells [.hole tI, .hole tI] false), (2, .cells [.hole tI] false), (3, .cells [.hole tI] false)] [.slot 1, .slot 2, .slot 3, .slot 4] []
@[reducible] def x52_0 : Outs := [(.normal, Pat.mk [(1, .c (.ptr 0 0)), (2, .c (.ptr 1 0)), (3, .c (.ptr 2 0)), (4, .c (.ptr 3 0))] [(0, .cells [.hole (.list (.prod (.prod .str tI) (.prod tI tI))), .hole tI] false), (1, .cells [.hole tI, .hole tI] false), (2, .cells [.hole tI] false), (3, .cells [.hole tI] false), (4, .dfr)] [.slot 1, .slot 2, .slot 3, .slot 4, .mark 0] [4])]
noncomputable def b52_0i : D prog 25 none 6 := dO [.l L52_0i_0] (kd prog f78) 0
theorem ci52_0 : trF prog f78 = some ⟨25, 2, (b52_0i).er, [], []⟩ := by kernel_rfl
noncomputable def g52_0 : ((List ((ByteArray × Int) × Int × Int)) × Int) × (List ((ByteArray × Int) × Int × Int)) × Int × Int × Int × Int × Int × Unit → Tr0 (((List ((ByteArray × Int) × Int × Int)) × Int × Int × Int × Int × Int × Unit)) := fun (v12_0, c0_0, c0_1, c1_0, c1_1, c2_0, c3_0, _) =>
 .bd (FH55 v12_0.1) fun y1 =>
 .bd (FH79 y1.1 y1.2.1) fun y2 =>
 .bd (FH81 y2.1 y2.2.1 y2.2.2.1) fun y3 =>
 .bd (.it g52_0i_0 (y2.1, (y2.2.1, (((y2.2.1 : Nat) : Int), ((0 : Int), ((v12_0.1, v12_0.2), (y3.1, (c0_0, (c0_1, (c1_0, (c1_1, (c2_0, (c3_0, ()))))))))))))) fun z4 =>
 .ret ((z4.1, (z4.2.1, (z4.2.2.1, (z4.2.2.2.1, (z4.2.2.2.2.1, (z4.2.2.2.2.2.1, ())))))))
theorem s52_0 : ∀ x, rangeE (N := 45) (out := none) (base := 0) (kzO x52_0.T) cx52_0i ar0 [] p52_0 x52_0 ( .t 12) [13] (ad52_0).er (bd52_0).er [] 2 78 (b52_0i) some x = run0 (g52_0 x) := fun x => by kernel_rfl
noncomputable def R52_0 : RangeS prog 45 none 0 := mkRange mixed cx52_0i cx52_0i_ok [] rfl p52_0 x52_0 ( .t 12) [13] rfl (ad52_0).er (bd52_0).er 78 func78 (ci52_0) (enters_of func78 rfl rfl) 6 rfl (b52_0i) rfl (fun x => run0 (g52_0 x)) (s52_0)
noncomputable def ad52_1 : D prog 45 (some 6) 9 := dO [] (pick (kd prog f52) [(1, false)]) 0
noncomputable def bd52_1 : D prog 45 (some 6) 9 := dO [] (pick (kd prog f52) [(1, true)]) 0
noncomputable def cx52_1i : Cx := itCx cx52 (fun kz => rdK kz cx52 ar0 6 9 [21] (ad52_1) (bd52_1))
theorem cx52_1i_ok : (cx52_1i).Ok prog := itCx_ok cx52_ok (fun h => rdK_ok mixed cx52_ok h)
@[reducible] def p52_1i_0 : Pat := Pat.mk [(0, .c (.yl 6)), (14, .c (.slx 7 (.prod (.prod .str tI) (.prod tI tI)))), (15, hI), (16, hI)] [(6, .loop .ready none 5 [(2, .c (.ptr 0 0)), (3, .c (.ptr 1 0)), (4, .c (.ptr 2 0)), (6, .c (.ptr 3 0)), (20, .fn 78 [] [.ipc (.prod (.list (.prod (.prod .str tI) (.prod tI tI))) tI)])] [21] (.reg [.op (some 7) none (.alloc [.str (ByteArray.mk (Array.mk [])), .int .i64 (Int.ofNat 0), .int .i64 (Int.ofNat 0), .int .i64 (Int.ofNat 0)]), .op none none (.store 4 (.t 7) (.t 21))]) (.block 3 (.seq (.seq (.reg [.op (some 22) none (.load false 1 (.t 3)), .op (some 23) none (.load false 1 (.t 4)), .op (some 24) none (.build [.int .i64 (Int.ofNat 0), .int .i64 (Int.ofNat 0)] [(0, 1, .t 22), (1, 1, .t 23)]), .op (some 8) none (.alloc [.int .i64 (Int.ofNat 0), .int .i64 (Int.ofNat 0)]), .op none none (.store 2 (.t 8) (.t 24))]) (.seq (.draw [[], [], [1], [0, 1, 2], [0, 1, 2, 3]] [.op (some 25) none (.load true 2 (.t 8)), .op (some 26) none (.load true 4 (.t 7)), .call (some 27) none (.c (.fn 71 [] [])) [.t 26] [some (.prod (.prod .str tI) (.prod tI tI))], .call (some 28) none (.c (.fn 70 [] [])) [.t 25, .t 27] [some (.prod tI tI), some (.prod tI tI)], .op (some 29) none (.bin .leq (.t 28) (.c (.int .i64 (Int.ofNat 0))))]) (.cond (.t 29) (.seq (.reg [.op (some 30) none (.load true 2 (.t 8)), .call (some 31) none (.c (.fn 72 [] [])) [.t 30] [some (.prod tI tI)], .op none none (.store 2 (.t 2) (.t 31))]) .ret) .skip))) (.seq (.reg [.op (some 32) none (.load true 4 (.t 7)), .call (some 33) none (.c (.fn 71 [] [])) [.t 32] [some (.prod (.prod .str tI) (.prod tI tI))], .call (some 34) none (.c (.fn 72 [] [])) [.t 33] [some (.prod tI tI)], .op none none (.store 2 (.t 6) (.t 34))]) (.seq (.reg [.op (some 35) none (.load false 1 (.t 3)), .op (some 36) none (.fld 0 [false] (.t 7)), .op (some 37) none (.fld 1 [true] (.t 36)), .op (some 38) none (.load false 1 (.t 37)), .op (some 39) none (.bin .sub (.t 35) (.t 38)), .op none none (.store 1 (.t 3) (.t 39))]) (.reg [.op (some 40) none (.load false 1 (.t 4)), .op (some 41) none (.fld 3 [true, true] (.t 7)), .op (some 42) none (.load false 1 (.t 41)), .op (some 43) none (.bin .sub (.t 40) (.t 42)), .op none none (.store 1 (.t 4) (.t 43))]))))) 45), (7, .arr (.prod (.prod .str tI) (.prod tI tI)) false), (5, .dfr), (0, .cells [.hole tI, .hole tI] false), (1, .cells [.hole tI] false), (2, .cells [.hole tI] false), (3, .cells [.hole tI, .hole tI] false), (4, .dfr)] [.slot 14] []
@[reducible] def x52_1i_0 : Outs := [(.ret, Pat.mk [] [(0, .cells [.hole tI, .hole tI] false), (1, .cells [.hole tI] false), (2, .cells [.hole tI] false), (3, .cells [.hole tI, .hole tI] false), (4, .dfr), (5, .dfr), (6, .loop .done (some .ret) 5 [(2, .c (.ptr 0 0)), (3, .c (.ptr 1 0)), (4, .c (.ptr 2 0)), (6, .c (.ptr 3 0)), (20, .fn 78 [] [.ipc (.prod (.list (.prod (.prod .str tI) (.prod tI tI))) tI)])] [21] (.reg [.op (some 7) none (.alloc [.str (ByteArray.mk (Array.mk [])), .int .i64 (Int.ofNat 0), .int .i64 (Int.ofNat 0), .int .i64 (Int.ofNat 0)]), .op none none (.store 4 (.t 7) (.t 21))]) (.block 3 (.seq (.seq (.reg [.op (some 22) none (.load false 1 (.t 3)), .op (some 23) none (.load false 1 (.t 4)), .op (some 24) none (.build [.int .i64 (Int.ofNat 0), .int .i64 (Int.ofNat 0)] [(0, 1, .t 22), (1, 1, .t 23)]), .op (some 8) none (.alloc [.int .i64 (Int.ofNat 0), .int .i64 (Int.ofNat 0)]), .op none none (.store 2 (.t 8) (.t 24))]) (.seq (.draw [[], [], [1], [0, 1, 2], [0, 1, 2, 3]] [.op (some 25) none (.load true 2 (.t 8)), .op (some 26) none (.load true 4 (.t 7)), .call (some 27) none (.c (.fn 71 [] [])) [.t 26] [some (.prod (.prod .str tI) (.prod tI tI))], .call (some 28) none (.c (.fn 70 [] [])) [.t 25, .t 27] [some (.prod tI tI), some (.prod tI tI)], .op (some 29) none (.bin .leq (.t 28) (.c (.int .i64 (Int.ofNat 0))))]) (.cond (.t 29) (.seq (.reg [.op (some 30) none (.load true 2 (.t 8)), .call (some 31) none (.c (.fn 72 [] [])) [.t 30] [some (.prod tI tI)], .op none none (.store 2 (.t 2) (.t 31))]) .ret) .skip))) (.seq (.reg [.op (some 32) none (.load true 4 (.t 7)), .call (some 33) none (.c (.fn 71 [] [])) [.t 32] [some (.prod (.prod .str tI) (.prod tI tI))], .call (some 34) none (.c (.fn 72 [] [])) [.t 33] [some (.prod tI tI)], .op none none (.store 2 (.t 6) (.t 34))]) (.seq (.reg [.op (some 35) none (.load false 1 (.t 3)), .op (some 36) none (.fld 0 [false] (.t 7)), .op (some 37) none (.fld 1 [true] (.t 36)), .op (some 38) none (.load false 1 (.t 37)), .op (some 39) none (.bin .sub (.t 35) (.t 38)), .op none none (.store 1 (.t 3) (.t 39))]) (.reg [.op (some 40) none (.load false 1 (.t 4)), .op (some 41) none (.fld 3 [true, true] (.t 7)), .op (some 42) none (.load false 1 (.t 41)), .op (some 43) none (.bin .sub (.t 40) (.t 42)), .op none none (.store 1 (.t 4) (.t 43))]))))) 45)] [] []), (.exit 0, Pat.mk [] [(0, .cells [.hole tI, .hole tI] false), (1, .cells [.hole tI] false), (2, .cells [.hole tI] false), (3, .cells [.hole tI, .hole tI] false), (4, .dfr), (5, .dfr), (6, .loop .ready none 5 [(2, .c (.ptr 0 0)), (3, .c (.ptr 1 0)), (4, .c (.ptr 2 0)), (6, .c (.ptr 3 0)), (20, .fn 78 [] [.ipc (.prod (.list (.prod (.prod .str tI) (.prod tI tI))) tI)])] [21] (.reg [.op (some 7) none (.alloc [.str (ByteArray.mk (Array.mk [])), .int .i64 (Int.ofNat 0), .int .i64 (Int.ofNat 0), .int .i64 (Int.ofNat 0)]), .op none none (.store 4 (.t 7) (.t 21))]) (.block 3 (.seq (.seq (.reg [.op (some 22) none (.load false 1 (.t 3)), .op (some 23) none (.load false 1 (.t 4)), .op (some 24) none (.build [.int .i64 (Int.ofNat 0), .int .i64 (Int.ofNat 0)] [(0, 1, .t 22), (1, 1, .t 23)]), .op (some 8) none (.alloc [.int .i64 (Int.ofNat 0), .int .i64 (Int.ofNat 0)]), .op none none (.store 2 (.t 8) (.t 24))]) (.seq (.draw [[], [], [1], [0, 1, 2], [0, 1, 2, 3]] [.op (some 25) none (.load true 2 (.t 8)), .op (some 26) none (.load true 4 (.t 7)), .call (some 27) none (.c (.fn 71 [] [])) [.t 26] [some (.prod (.prod .str tI) (.prod tI tI))], .call (some 28) none (.c (.fn 70 [] [])) [.t 25, .t 27] [some (.prod tI tI), some (.prod tI tI)], .op (some 29) none (.bin .leq (.t 28) (.c (.int .i64 (Int.ofNat 0))))]) (.cond (.t 29) (.seq (.reg [.op (some 30) none (.load true 2 (.t 8)), .call (some 31) none (.c (.fn 72 [] [])) [.t 30] [some (.prod tI tI)], .op none none (.store 2 (.t 2) (.t 31))]) .ret) .skip))) (.seq (.reg [.op (some 32) none (.load true 4 (.t 7)), .call (some 33) none (.c (.fn 71 [] [])) [.t 32] [some (.prod (.prod .str tI) (.prod tI tI))], .call (some 34) none (.c (.fn 72 [] [])) [.t 33] [some (.prod tI tI)], .op none none (.store 2 (.t 6) (.t 34))]) (.seq (.reg [.op (some 35) none (.load false 1 (.t 3)), .op (some 36) none (.fld 0 [false] (.t 7)), .op (some 37) none (.fld 1 [true] (.t 36)), .op (some 38) none (.load false 1 (.t 37)), .op (some 39) none (.bin .sub (.t 35) (.t 38)), .op none none (.store 1 (.t 3) (.t 39))]) (.reg [.op (some 40) none (.load false 1 (.t 4)), .op (some 41) none (.fld 3 [true, true] (.t 7)), .op (some 42) none (.load false 1 (.t 41)), .op (some 43) none (.bin .sub (.t 40) (.t 42)), .op none none (.store 1 (.t 4) (.t 43))]))))) 45)] [] [])]
noncomputable def b52_1i_0 : D prog 25 none 7 := dO [] (pick (kd prog f78) [(0, false)]) 0
noncomputable def g52_1i_0 : Nat × Nat × Int × Int × ((List ((ByteArray × Int) × Int × Int)) × Int) × (List ((ByteArray × Int) × Int × Int)) × Int × Int × Int × Int × Int × Int × Unit → Tr0 ((Nat × Nat × Int × Int × ((List ((ByteArray × Int) × Int × Int)) × Int) × (List ((ByteArray × Int) × Int × Int)) × Int × Int × Int × Int × Int × Int × Unit) ⊕ ((Int × Int × Int × Int × Int × Int × ((List ((ByteArray × Int) × Int × Int)) × Int) × Unit) ⊕ ((Int × Int × Int × Int × Int × Int × ((List ((ByteArray × Int) × Int × Int)) × Int) × Unit)))) := fun (lv14, nv14, v15, v16, w20_0, b7, c0_0, c0_1, c1_0, c2_0, c3_0, c3_1, _) =>
 .br (decide (v16 < v15)) (
 .nb v16 ((nv14 : Nat) : Int) <|
 .nd (decide ((lv14 + (Int.toNat v16)) < (b7).length)) <|
 .bd (F71 (((b7).getD (lv14 + (Int.toNat v16)) (((bs []), (0 : Int)), ((0 : Int), (0 : Int)))).1.1, (((b7).getD (lv14 + (Int.toNat v16)) (((bs []), (0 : Int)), ((0 : Int), (0 : Int)))).1.2, (((b7).getD (lv14 + (Int.toNat v16)) (((bs []), (0 : Int)), ((0 : Int), (0 : Int)))).2.1, ((b7).getD (lv14 + (Int.toNat v16)) (((bs []), (0 : Int)), ((0 : Int), (0 : Int)))).2.2)))) fun y10 =>
 .bd (F70 (c1_0, c2_0) (y10.1.1, y10.1.2)) fun y11 =>
 .br (decide (y11.1 ≤ (0 : Int))) (
 .bd (F72 (c1_0, c2_0)) fun y12 =>
 .ret (.inr <| .inl <| (y12.1.1, (y12.1.2, (c1_0, (c2_0, (c3_0, (c3_1, ((w20_0.1, w20_0.2), ()))))))))) (
 .bd (F71 (((b7).getD (lv14 + (Int.toNat v16)) (((bs []), (0 : Int)), ((0 : Int), (0 : Int)))).1.1, (((b7).getD (lv14 + (Int.toNat v16)) (((bs []), (0 : Int)), ((0 : Int), (0 : Int)))).1.2, (((b7).getD (lv14 + (Int.toNat v16)) (((bs []), (0 : Int)), ((0 : Int), (0 : Int)))).2.1, ((b7).getD (lv14 + (Int.toNat v16)) (((bs []), (0 : Int)), ((0 : Int), (0 : Int)))).2.2)))) fun y13 =>
 .bd (F72 (y13.1.1, y13.1.2)) fun y14 =>
 .ni (c1_0 - ((b7).getD (lv14 + (Int.toNat v16)) (((bs []), (0 : Int)), ((0 : Int), (0 : Int)))).1.2) <|
 .ni (c2_0 - ((b7).getD (lv14 + (Int.toNat v16)) (((bs []), (0 : Int)), ((0 : Int), (0 : Int)))).2.2) <|
 .ni (v16 + (1 : Int)) <|
 .ret (.inl (lv14, (nv14, (v15, ((v16 + (1 : Int)), ((w20_0.1, w20_0.2), (b7, (c0_0, (c0_1, ((c1_0 - ((b7).getD (lv14 + (Int.toNat v16)) (((bs []), (0 : Int)), ((0 : Int), (0 : Int)))).1.2), ((c2_0 - ((b7).getD (lv14 + (Int.toNat v16)) (((bs []), (0 : Int)), ((0 : Int), (0 : Int)))).2.2), (y14.1.1, (y14.1.2, ()))))))))))))))) (
 .ret (.inr <| .inr <| (c0_0, (c0_1, (c1_0, (c2_0, (c3_0, (c3_1, ((w20_0.1, w20_0.2), ())))))))))
theorem s52_1i_0 : ∀ x, roundE (kzO (p52_1i_0.T ⊕ x52_1i_0.T)) cx52_1i ar0 [0, 1, 2, 3, 4, 5, 6] p52_1i_0 x52_1i_0 (b52_1i_0) (fun y => some (.inl y)) (fun b => some (.inr b)) x = run0 (g52_1i_0 x) := fun x => by kernel_rfl
noncomputable def L52_1i_0 : LoopS prog 25 none 7 := mkLoop mixed cx52_1i cx52_1i_ok [0, 1, 2, 3, 4, 5, 6] rfl p52_1i_0 x52_1i_0 rfl (b52_1i_0) (fun x => run0 (g52_1i_0 x)) (s52_1i_0)
@[reducible] def p52_1 : Pat := Pat.mk [(2, .c (.ptr 0 0)), (3, .c (.ptr 1 0)), (4, .c (.ptr 2 0)), (6, .c (.ptr 3 0)), (20, .fn 78 [] [.ipc (.prod (.list (.prod (.prod .str tI) (.prod tI tI))) tI)])] [(0, .cells [.hole tI, .hole tI] false), (1, .cells [.hole tI] false), (2, .cells [.hole tI] false), (3, .cells [.hole tI, .hole tI] false), (4, .dfr)] [.slot 2, .slot 3, .slot 4, .slot 6, .mark 0] [4]
@[reducible] def x52_1 : Outs := [(.ret, Pat.mk [(2, .c (.ptr 0 0))] [(0, .cells [.hole tI, .hole tI] false), (1, .dfr), (2, .dfr)] [.slot 2, .mark 0, .mark 1] [1, 2]), (.normal, Pat.mk [(2, .c (.ptr 0 0)), (6, .c (.ptr 1 0))] [(0, .cells [.hole tI, .hole tI] false), (1, .cells [.hole tI, .hole tI] false), (2, .dfr), (3, .dfr)] [.slot 2, .slot 6, .mark 0, .mark 1] [2, 3])]
noncomputable def b52_1i : D prog 25 none 7 := dO [.l L52_1i_0] (kd prog f78) 0
theorem ci52_1 : trF prog f78 = some ⟨25, 2, (b52_1i).er, [], []⟩ := by kernel_rfl
noncomputable def g52_1 : ((List ((ByteArray × Int) × Int × Int)) × Int) × Int × Int × Int × Int × Int × Int × Unit → Tr0 ((Int × Int × Unit) ⊕ ((Int × Int × Int × Int × Unit))) := fun (v20_0, c0_0, c0_1, c1_0, c2_0, c3_0, c3_1, _) =>
 .bd (FH55 v20_0.1) fun y7 =>
 .bd (FH79 y7.1 y7.2.1) fun y8 =>
 .bd (FH81 y8.1 y8.2.1 y8.2.2.1) fun y9 =>
 .bd (.it g52_1i_0 (y8.1, (y8.2.1, (((y8.2.1 : Nat) : Int), ((0 : Int), ((v20_0.1, v20_0.2), (y9.1, (c0_0, (c0_1, (c1_0, (c2_0, (c3_0, (c3_1, ()))))))))))))) fun z15 =>
 .sm z15 (fun z16 =>
 .ret (.inl <| (z16.1, (z16.2.1, ())))) fun z17 =>
 .ret (.inr <| (z17.1, (z17.2.1, (z17.2.2.2.2.1, (z17.2.2.2.2.2.1, ())))))
theorem s52_1 : ∀ x, rangeE (N := 45) (out := none) (base := 0) (kzO x52_1.T) cx52_1i ar0 [] p52_1 x52_1 ( .t 20) [21] (ad52_1).er (bd52_1).er [] 2 78 (b52_1i) some x = run0 (g52_1 x) := fun x => by kernel_rfl
noncomputable def R52_1 : RangeS prog 45 none 0 := mkRange mixed cx52_1i cx52_1i_ok [] rfl p52_1 x52_1 ( .t 20) [21] rfl (ad52_1).er (bd52_1).er 78 func78 (ci52_1) (enters_of func78 rfl rfl) 7 rfl (b52_1i) rfl (fun x => run0 (g52_1 x)) (s52_1)
noncomputable def dd52 : D prog 45 none 0 := dO [.r R52_0, .r R52_1] (kd prog f52) 0
noncomputable def F52 (a0 : (List ((ByteArray × Int) × Int × Int)) × Int) : Tr0 ((Int × Int) × Unit) :=
 .bd (F69 (a0.1, a0.2)) fun y0 =>
 .bd (g52_0 ((y0.1.1, y0.1.2), (a0.1, (a0.2, ((0 : Int), ((0 : Int), (a0.2, ((0 : Int), ())))))))) fun z5 =>
 .bd (F69 (z5.1, z5.2.1)) fun y6 =>
 .bd (g52_1 ((y6.1.1, y6.1.2), (z5.2.2.1, (z5.2.2.2.1, (z5.2.2.2.2.1, (z5.2.2.2.2.2.1, ((0 : Int), ((1 : Int), ())))))))) fun z18 =>
 .sm z18 (fun z19 =>
 .ret ((z19.1, z19.2.1), ())) fun z20 =>
 .ret ((z20.2.2.1, z20.2.2.2.1), ())
theorem c52_ok : trF prog f52 = some ⟨45, 1, dd52.er, [.cell 2 true 2], [some (.prod tI tI)]⟩ := by kernel_rfl
noncomputable def ct52 : Ct := ⟨52, [.c (.hole (.prod (.list (.prod (.prod .str tI) (.prod tI tI))) tI))], .c (.hole (.prod tI tI)), fun x => run0 (F52 x.1)⟩
theorem ct52_ok : ct52.Ok prog := ct_ok mixed cx52_ok func52 c52_ok (enters_of func52 rfl rfl) dd52 (by kernel_rfl) rfl (fun x => by kernel_rfl)

/- 54 -/
noncomputable def cx54 : Cx := mkCxH [] []
theorem cx54_ok : cx54.Ok prog := mkCxH_ok trivial trivial
noncomputable def dd54 : D prog 31 none 0 := dO [] (kd prog f54) 0
noncomputable def F54 (a0 : ByteArray × Int × Int × Int) (a1 : Int × Int) : Tr0 (Int × Int × Unit) :=
 .ni (a1.1 * a0.2.2.2) <|
 .ni (a0.2.1 * a1.2) <|
 .br (decide ((a0.2.1 * a1.2) ≤ (a1.1 * a0.2.2.2))) (
 .ret (a0.2.1, ((0 : Int), ()))) (
 .nd (!(a1.2 == (0 : Int))) <|
 .ni (Int.tdiv (a1.1 * a0.2.2.2) a1.2) <|
 .nd (!(a1.2 == (0 : Int))) <|
 .ret ((Int.tdiv (a1.1 * a0.2.2.2) a1.2), ((Int.tmod (a1.1 * a0.2.2.2) a1.2), ())))
theorem c54_ok : trF prog f54 = some ⟨31, 2, dd54.er, [.t 4, .t 5], [some tI, some tI]⟩ := by kernel_rfl
noncomputable def ct54 : Ct := ⟨54, [.c (.hole (.prod .str (.prod tI (.prod tI tI)))), .c (.hole (.prod tI tI))], .tup [.hole tI, .hole tI], fun x => run0 (F54 x.1 x.2.1)⟩
theorem ct54_ok : ct54.Ok prog := ct_ok mixed cx54_ok func54 c54_ok (enters_of func54 rfl rfl) dd54 (by kernel_rfl) rfl (fun x => by kernel_rfl)

/- 92 -/
noncomputable def cx92 : Cx := mkCxH [] []
theorem cx92_ok : cx92.Ok prog := mkCxH_ok trivial trivial
noncomputable def dd92 : D prog 25 none 0 := dO [] (kd prog f92) 0
noncomputable def F92 (a0 : Int) : Tr0 (Int × Unit) :=
 .jx (
 .br (decide ((4294967296 : Int) ≤ a0)) (
 .nb (32 : Int) (64 : Int) <|
 .ret (.inl ((ar0.shr a0 (32 : Int)), ((32 : Int), ())))) (
 .ret (.inl (a0, ((0 : Int), ()))))) fun j0 =>
 .jx (
 .br (decide ((65536 : Int) ≤ j0.1)) (
 .nb (16 : Int) (64 : Int) <|
 .ni (j0.2.1 + (16 : Int)) <|
 .ret (.inl ((ar0.shr j0.1 (16 : Int)), ((j0.2.1 + (16 : Int)), ())))) (
 .ret (.inl (j0.1, (j0.2.1, ()))))) fun j1 =>
 .jx (
 .br (decide ((256 : Int) ≤ j1.1)) (
 .nb (8 : Int) (64 : Int) <|
 .ni (j1.2.1 + (8 : Int)) <|
 .ret (.inl ((ar0.shr j1.1 (8 : Int)), ((j1.2.1 + (8 : Int)), ())))) (
 .ret (.inl (j1.1, (j1.2.1, ()))))) fun j2 =>
 .nd (rng .u8 j2.1) <|
 .nb j2.1 (((bs [0, 1, 2, 2, 3, 3, 3, 3, 4, 4, 4, 4, 4, 4, 4, 4, 5, 5, 5, 5, 5, 5, 5, 5, 5, 5, 5, 5, 5, 5, 5, 5, 6, 6, 6, 6, 6, 6, 6, 6, 6, 6, 6, 6, 6, 6, 6, 6, 6, 6, 6, 6, 6, 6, 6, 6, 6, 6, 6, 6, 6, 6, 6, 6, 7, 7, 7, 7, 7, 7, 7, 7, 7, 7, 7, 7, 7, 7, 7, 7, 7, 7, 7, 7, 7, 7, 7, 7, 7, 7, 7, 7, 7, 7, 7, 7, 7, 7, 7, 7, 7, 7, 7, 7, 7, 7, 7, 7, 7, 7, 7, 7, 7, 7, 7, 7, 7, 7, 7, 7, 7, 7, 7, 7, 7, 7, 7, 7, 8, 8, 8, 8, 8, 8, 8, 8, 8, 8, 8, 8, 8, 8, 8, 8, 8, 8, 8, 8, 8, 8, 8, 8, 8, 8, 8, 8, 8, 8, 8, 8, 8, 8, 8, 8, 8, 8, 8, 8, 8, 8, 8, 8, 8, 8, 8, 8, 8, 8, 8, 8, 8, 8, 8, 8, 8, 8, 8, 8, 8, 8, 8, 8, 8, 8, 8, 8, 8, 8, 8, 8, 8, 8, 8, 8, 8, 8, 8, 8, 8, 8, 8, 8, 8, 8, 8, 8, 8, 8, 8, 8, 8, 8, 8, 8, 8, 8, 8, 8, 8, 8, 8, 8, 8, 8, 8, 8, 8, 8, 8, 8, 8, 8, 8, 8, 8, 8, 8, 8, 8, 8, 8, 8, 8, 8, 8, 8]).size : Nat) : Int) <|
 .ni (satL (bs [0, 1, 2, 2, 3, 3, 3, 3, 4, 4, 4, 4, 4, 4, 4, 4, 5, 5, 5, 5, 5, 5, 5, 5, 5, 5, 5, 5, 5, 5, 5, 5, 6, 6, 6, 6, 6, 6, 6, 6, 6, 6, 6, 6, 6, 6, 6, 6, 6, 6, 6, 6, 6, 6, 6, 6, 6, 6, 6, 6, 6, 6, 6, 6, 7, 7, 7, 7, 7, 7, 7, 7, 7, 7, 7, 7, 7, 7, 7, 7, 7, 7, 7, 7, 7, 7, 7, 7, 7, 7, 7, 7, 7, 7, 7, 7, 7, 7, 7, 7, 7, 7, 7, 7, 7, 7, 7, 7, 7, 7, 7, 7, 7, 7, 7, 7, 7, 7, 7, 7, 7, 7, 7, 7, 7, 7, 7, 7, 8, 8, 8, 8, 8, 8, 8, 8, 8, 8, 8, 8, 8, 8, 8, 8, 8, 8, 8, 8, 8, 8, 8, 8, 8, 8, 8, 8, 8, 8, 8, 8, 8, 8, 8, 8, 8, 8, 8, 8, 8, 8, 8, 8, 8, 8, 8, 8, 8, 8, 8, 8, 8, 8, 8, 8, 8, 8, 8, 8, 8, 8, 8, 8, 8, 8, 8, 8, 8, 8, 8, 8, 8, 8, 8, 8, 8, 8, 8, 8, 8, 8, 8, 8, 8, 8, 8, 8, 8, 8, 8, 8, 8, 8, 8, 8, 8, 8, 8, 8, 8, 8, 8, 8, 8, 8, 8, 8, 8, 8, 8, 8, 8, 8, 8, 8, 8, 8, 8, 8, 8, 8, 8, 8, 8, 8, 8, 8]) (Int.toNat j2.1)) <|
 .ni (j2.2.1 + (satL (bs [0, 1, 2, 2, 3, 3, 3, 3, 4, 4, 4, 4, 4, 4, 4, 4, 5, 5, 5, 5, 5, 5, 5, 5, 5, 5, 5, 5, 5, 5, 5, 5, 6, 6, 6, 6, 6, 6, 6, 6, 6, 6, 6, 6, 6, 6, 6, 6, 6, 6, 6, 6, 6, 6, 6, 6, 6, 6, 6, 6, 6, 6, 6, 6, 7, 7, 7, 7, 7, 7, 7, 7, 7, 7, 7, 7, 7, 7, 7, 7, 7, 7, 7, 7, 7, 7, 7, 7, 7, 7, 7, 7, 7, 7, 7, 7, 7, 7, 7, 7, 7, 7, 7, 7, 7, 7, 7, 7, 7, 7, 7, 7, 7, 7, 7, 7, 7, 7, 7, 7, 7, 7, 7, 7, 7, 7, 7, 7, 8, 8, 8, 8, 8, 8, 8, 8, 8, 8, 8, 8, 8, 8, 8, 8, 8, 8, 8, 8, 8, 8, 8, 8, 8, 8, 8, 8, 8, 8, 8, 8, 8, 8, 8, 8, 8, 8, 8, 8, 8, 8, 8, 8, 8, 8, 8, 8, 8, 8, 8, 8, 8, 8, 8, 8, 8, 8, 8, 8, 8, 8, 8, 8, 8, 8, 8, 8, 8, 8, 8, 8, 8, 8, 8, 8, 8, 8, 8, 8, 8, 8, 8, 8, 8, 8, 8, 8, 8, 8, 8, 8, 8, 8, 8, 8, 8, 8, 8, 8, 8, 8, 8, 8, 8, 8, 8, 8, 8, 8, 8, 8, 8, 8, 8, 8, 8, 8, 8, 8, 8, 8, 8, 8, 8, 8, 8, 8]) (Int.toNat j2.1))) <|
 .ret ((j2.2.1 + (satL (bs [0, 1, 2, 2, 3, 3, 3, 3, 4, 4, 4, 4, 4, 4, 4, 4, 5, 5, 5, 5, 5, 5, 5, 5, 5, 5, 5, 5, 5, 5, 5, 5, 6, 6, 6, 6, 6, 6, 6, 6, 6, 6, 6, 6, 6, 6, 6, 6, 6, 6, 6, 6, 6, 6, 6, 6, 6, 6, 6, 6, 6, 6, 6, 6, 7, 7, 7, 7, 7, 7, 7, 7, 7, 7, 7, 7, 7, 7, 7, 7, 7, 7, 7, 7, 7, 7, 7, 7, 7, 7, 7, 7, 7, 7, 7, 7, 7, 7, 7, 7, 7, 7, 7, 7, 7, 7, 7, 7, 7, 7, 7, 7, 7, 7, 7, 7, 7, 7, 7, 7, 7, 7, 7, 7, 7, 7, 7, 7, 8, 8, 8, 8, 8, 8, 8, 8, 8, 8, 8, 8, 8, 8, 8, 8, 8, 8, 8, 8, 8, 8, 8, 8, 8, 8, 8, 8, 8, 8, 8, 8, 8, 8, 8, 8, 8, 8, 8, 8, 8, 8, 8, 8, 8, 8, 8, 8, 8, 8, 8, 8, 8, 8, 8, 8, 8, 8, 8, 8, 8, 8, 8, 8, 8, 8, 8, 8, 8, 8, 8, 8, 8, 8, 8, 8, 8, 8, 8, 8, 8, 8, 8, 8, 8, 8, 8, 8, 8, 8, 8, 8, 8, 8, 8, 8, 8, 8, 8, 8, 8, 8, 8, 8, 8, 8, 8, 8, 8, 8, 8, 8, 8, 8, 8, 8, 8, 8, 8, 8, 8, 8, 8, 8, 8, 8, 8, 8]) (Int.toNat j2.1))), ())
theorem c92_ok : trF prog f92 = some ⟨25, 1, dd92.er, [.t 2], [some tI]⟩ := by kernel_rfl
noncomputable def ct92 : Ct := ⟨92, [.c (.hole (.int .u64))], hI, fun x => run0 (F92 x.1)⟩
theorem ct92_ok : ct92.Ok prog := ct_ok mixed cx92_ok func92 c92_ok (enters_of func92 rfl rfl) dd92 (by kernel_rfl) rfl (fun x => Eq.trans (b := run0 (flat (F92 x.1))) (by kernel_rfl) run_flat)

/- 75 -/
noncomputable def cx75 : Cx := mkCxH [ct92] []
theorem cx75_ok : cx75.Ok prog := mkCxH_ok ⟨ct92_ok, trivial⟩ trivial
noncomputable def dd75 : D prog 8 none 0 := dO [] (kd prog f75) 0
noncomputable def F75 (a0 : Int) : Tr0 (Int × Unit) :=
 .bd (F92 a0) fun y0 =>
 .ret (y0.1, ())
theorem c75_ok : trF prog f75 = some ⟨8, 1, dd75.er, [.t 2], [some tI]⟩ := by kernel_rfl
noncomputable def ct75 : Ct := ⟨75, [.c (.hole (.int .u64))], hI, fun x => run0 (F75 x.1)⟩
theorem ct75_ok : ct75.Ok prog := ct_ok mixed cx75_ok func75 c75_ok (enters_of func75 rfl rfl) dd75 (by kernel_rfl) rfl (fun x => by kernel_rfl)

/- 77 -/
noncomputable def cx77 : Cx := mkCxH [] []
theorem cx77_ok : cx77.Ok prog := mkCxH_ok trivial trivial
noncomputable def dd77 : D prog 6 none 0 := dO [] (kd prog f77) 0
noncomputable def F77 (a0 : ByteArray) : Tr0 (Bool × Unit) :=
 .ret ((!(seq a0 a0)), ())
theorem c77_ok : trF prog f77 = some ⟨6, 1, dd77.er, [.t 2], [some .bool]⟩ := by kernel_rfl
noncomputable def ct77 : Ct := ⟨77, [.c (.hole .str)], .c (.hole .bool), fun x => run0 (F77 x.1)⟩
theorem ct77_ok : ct77.Ok prog := ct_ok mixed cx77_ok func77 c77_ok (enters_of func77 rfl rfl) dd77 (by kernel_rfl) rfl (fun x => by kernel_rfl)

/- 60 -/
noncomputable def cx60 : Cx := mkCxH [ct77] []
theorem cx60_ok : cx60.Ok prog := mkCxH_ok ⟨ct77_ok, trivial⟩ trivial
noncomputable def dd60 : D prog 20 none 0 := dO [] (kd prog f60) 0
noncomputable def F60 (a0 : ByteArray) (a1 : ByteArray) : Tr0 (Int × Unit) :=
 .bd (F77 a0) fun y0 =>
 .bd (F77 a1) fun y1 =>
 .br y0.1 (
 .br y1.1 (
 .ret ((0 : Int), ())) (
 .ret ((-1 : Int), ()))) (
 .br y1.1 (
 .ret ((1 : Int), ())) (
 .br (slt a0 a1) (
 .ret ((-1 : Int), ())) (
 .br (!(bite (slt a0 a1) true (seq a0 a1))) (
 .ret ((1 : Int), ())) (
 .ret ((0 : Int), ())))))
theorem c60_ok : trF prog f60 = some ⟨20, 2, dd60.er, [.t 4], [some tI]⟩ := by kernel_rfl
noncomputable def ct60 : Ct := ⟨60, [.c (.hole .str), .c (.hole .str)], hI, fun x => run0 (F60 x.1 x.2.1)⟩
theorem ct60_ok : ct60.Ok prog := ct_ok mixed cx60_ok func60 c60_ok (enters_of func60 rfl rfl) dd60 (by kernel_rfl) rfl (fun x => by kernel_rfl)

/- 58 -/
noncomputable def cx58 : Cx := mkCxH [] []
theorem cx58_ok : cx58.Ok prog := mkCxH_ok trivial trivial
@[reducible] def p58_0 : Pat := Pat.mk [(3, hI), (6, hL), (7, hI), (8, hI)] [] [] []
@[reducible] def x58_0 : Outs := [(.ret, Pat.mk [(2, hI)] [] [] []), (.exit 0, Pat.mk [(3, hI)] [] [] [])]
noncomputable def b58_0 : D prog 18 none 0 := dO [] (pick (kd prog f58) [(0, false)]) 0
noncomputable def g58_0 : Int × List Int × Int × Int × Unit → Tr0 ((Int × List Int × Int × Int × Unit) ⊕ ((Int × Unit) ⊕ ((Int × Unit)))) := fun (v3, v6, v7, v8, _) =>
 .br (decide (v8 < v7)) (
 .nb v8 (((v6).length : Nat) : Int) <|
 .br (!(((v6).getD (Int.toNat v8) (0 : Int)) == v3)) (
 .ret (.inr <| .inl <| (((v6).getD (Int.toNat v8) (0 : Int)), ()))) (
 .ni (v8 + (1 : Int)) <|
 .ret (.inl (v3, (v6, (v7, ((v8 + (1 : Int)), ()))))))) (
 .ret (.inr <| .inr <| (v3, ())))
theorem s58_0 : ∀ x, roundE (kzO (p58_0.T ⊕ x58_0.T)) cx58 ar0 [] p58_0 x58_0 (b58_0) (fun y => some (.inl y)) (fun b => some (.inr b)) x = run0 (g58_0 x) := fun x => by kernel_rfl
noncomputable def L58_0 : LoopS prog 18 none 0 := mkLoop mixed cx58 cx58_ok [] rfl p58_0 x58_0 rfl (b58_0) (fun x => run0 (g58_0 x)) (s58_0)
noncomputable def dd58 : D prog 18 none 0 := dO [.l L58_0] (kd prog f58) 0
noncomputable def F58 (a0 : List Int) : Tr0 (Int × Unit) :=
 .bd (.it g58_0 ((0 : Int), (a0, ((((a0).length : Nat) : Int), ((0 : Int), ()))))) fun z0 =>
 .sm z0 (fun z1 =>
 .ret (z1.1, ())) fun z2 =>
 .ret (z2.1, ())
theorem c58_ok : trF prog f58 = some ⟨18, 1, dd58.er, [.t 2], [some tI]⟩ := by kernel_rfl
noncomputable def ct58 : Ct := ⟨58, [hL], hI, fun x => run0 (F58 x.1)⟩
theorem ct58_ok : ct58.Ok prog := ct_ok mixed cx58_ok func58 c58_ok (enters_of func58 rfl rfl) dd58 (by kernel_rfl) rfl (fun x => by kernel_rfl)

/- 57 -/
noncomputable def cx57 : Cx := mkCxH [ct59, ct60, ct58] []
theorem cx57_ok : cx57.Ok prog := mkCxH_ok ⟨ct59_ok, ct60_ok, ct58_ok, trivial⟩ trivial
noncomputable def dd57 : D prog 26 none 0 := dO [] (kd prog f57) 0
noncomputable def F57 (a0 : ByteArray × Int × Int × Int) (a1 : ByteArray × Int × Int × Int) (a2 : List Int) : Tr0 (Int × Unit) :=
 .nb a1.2.2.1 (((a2).length : Nat) : Int) <|
 .nb a0.2.2.1 (((a2).length : Nat) : Int) <|
 .bd (F59 ((a2).getD (Int.toNat a1.2.2.1) (0 : Int)) ((a2).getD (Int.toNat a0.2.2.1) (0 : Int))) fun y0 =>
 .bd (F60 a0.1 a1.1) fun y1 =>
 .bd (F58 ((((y0.1 :: (y1.1 :: []))).drop (0 : Nat)).take (2 : Nat))) fun y2 =>
 .ret (y2.1, ())
theorem c57_ok : trF prog f57 = some ⟨26, 3, dd57.er, [.t 5], [some tI]⟩ := by kernel_rfl
noncomputable def ct57 : Ct := ⟨57, [.c (.hole (.prod .str (.prod tI (.prod tI tI)))), .c (.hole (.prod .str (.prod tI (.prod tI tI)))), .c (.ipc tL)], hI, fun x => run0 (F57 x.1 x.2.1 x.2.2.1)⟩
theorem ct57_ok : ct57.Ok prog := ct_ok mixed cx57_ok func57 c57_ok (enters_of func57 rfl rfl) dd57 (by kernel_rfl) rfl (fun x => by kernel_rfl)

/- 83, lent -/
@[reducible] def pH83_v1 : Pat := Pat.mk [(0, .c (.sl0 0 (.prod (.prod .str tI) (.prod tI tI)))), (1, hI), (2, hI), (3, .fn 57 [] [.ptr 1 0])] [(0, .arr (.prod (.prod .str tI) (.prod tI tI)) false), (1, .cells [.sl0 2 tI] false), (2, .arr tI false)] [.slot 0, .part 3 0, .cell 1 0] []
@[reducible] def qH83_v1 : Pat := Pat.mk [(0, .c .any)] [(1, .cells [.sl0 3 tI] false), (0, .arr (.prod (.prod .str tI) (.prod tI tI)) false), (3, .arr tI false)] [.cell 1 0] []
noncomputable def cxH83_v1 : Cx := mkCxH [ct57] []
theorem cxH83_v1_ok : cxH83_v1.Ok prog := mkCxH_ok ⟨ct57_ok, trivial⟩ trivial
@[reducible] def pH83_v1_1 : Pat := Pat.mk [(0, .c (.sl0 0 (.prod (.prod .str tI) (.prod tI tI)))), (1, hI), (2, hI), (3, .fn 57 [] [.ptr 1 0]), (8, hI), (9, hI)] [(0, .arr (.prod (.prod .str tI) (.prod tI tI)) false), (1, .cells [.sl0 3 tI] false), (3, .arr tI false)] [.cell 1 0] []
@[reducible] def xH83_v1_1 : Outs := [(.exit 2, Pat.mk [(0, .c (.sl0 0 (.prod (.prod .str tI) (.prod tI tI)))), (1, hI), (2, hI), (3, .fn 57 [] [.ptr 1 0]), (8, hI)] [(0, .arr (.prod (.prod .str tI) (.prod tI tI)) false), (1, .cells [.sl0 3 tI] false), (3, .arr tI false)] [.cell 1 0] [])]
noncomputable def bH83_v1_1 : D prog 53 none 3 := dO [] (pick (kd prog f83) [(0, false), (0, false)]) 0
noncomputable def gH83_v1_1 : Nat × Int × Int × Int × Int × (List ((ByteArray × Int) × Int × Int)) × Nat × List Int × Unit → Tr0 ((Nat × Int × Int × Int × Int × (List ((ByteArray × Int) × Int × Int)) × Nat × List Int × Unit) ⊕ ((Nat × Int × Int × Int × (List ((ByteArray × Int) × Int × Int)) × Nat × List Int × Unit))) := fun (nv0, v1, v2, v8, v9, b0, nc1_0, b3, _) =>
 .br (decide (v1 < v9)) (
 .nb v9 ((nv0 : Nat) : Int) <|
 .nd (decide (((0 : Nat) + (Int.toNat v9)) < (b0).length)) <|
 .ni (v9 - (1 : Int)) <|
 .nb (v9 - (1 : Int)) ((nv0 : Nat) : Int) <|
 .nd (decide (((0 : Nat) + (Int.toNat (v9 - (1 : Int)))) < (b0).length)) <|
 .bd (F57 (((b0).getD ((0 : Nat) + (Int.toNat v9)) (((bs []), (0 : Int)), ((0 : Int), (0 : Int)))).1.1, (((b0).getD ((0 : Nat) + (Int.toNat v9)) (((bs []), (0 : Int)), ((0 : Int), (0 : Int)))).1.2, (((b0).getD ((0 : Nat) + (Int.toNat v9)) (((bs []), (0 : Int)), ((0 : Int), (0 : Int)))).2.1, ((b0).getD ((0 : Nat) + (Int.toNat v9)) (((bs []), (0 : Int)), ((0 : Int), (0 : Int)))).2.2))) (((b0).getD ((0 : Nat) + (Int.toNat (v9 - (1 : Int)))) (((bs []), (0 : Int)), ((0 : Int), (0 : Int)))).1.1, (((b0).getD ((0 : Nat) + (Int.toNat (v9 - (1 : Int)))) (((bs []), (0 : Int)), ((0 : Int), (0 : Int)))).1.2, (((b0).getD ((0 : Nat) + (Int.toNat (v9 - (1 : Int)))) (((bs []), (0 : Int)), ((0 : Int), (0 : Int)))).2.1, ((b0).getD ((0 : Nat) + (Int.toNat (v9 - (1 : Int)))) (((bs []), (0 : Int)), ((0 : Int), (0 : Int)))).2.2))) (((b3).drop (0 : Nat)).take nc1_0)) fun y0 =>
 .br (decide (y0.1 < (0 : Int))) (
 .ni (v9 - (1 : Int)) <|
 .ni (v9 - (1 : Int)) <|
 .nb (v9 - (1 : Int)) ((nv0 : Nat) : Int) <|
 .nd (decide (((0 : Nat) + (Int.toNat (v9 - (1 : Int)))) < (b0).length)) <|
 .nb v9 ((nv0 : Nat) : Int) <|
 .nd (decide (((0 : Nat) + (Int.toNat v9)) < (b0).length)) <|
 .nb v9 ((nv0 : Nat) : Int) <|
 .nd (decide (((0 : Nat) + (Int.toNat v9)) < (b0).length)) <|
 .nb (v9 - (1 : Int)) ((nv0 : Nat) : Int) <|
 .nd (decide (((0 : Nat) + (Int.toNat (v9 - (1 : Int)))) < (((b0).set ((0 : Nat) + (Int.toNat v9)) ((((b0).getD ((0 : Nat) + (Int.toNat (v9 - (1 : Int)))) (((bs []), (0 : Int)), ((0 : Int), (0 : Int)))).1.1, ((b0).getD ((0 : Nat) + (Int.toNat (v9 - (1 : Int)))) (((bs []), (0 : Int)), ((0 : Int), (0 : Int)))).1.2), (((b0).getD ((0 : Nat) + (Int.toNat (v9 - (1 : Int)))) (((bs []), (0 : Int)), ((0 : Int), (0 : Int)))).2.1, ((b0).getD ((0 : Nat) + (Int.toNat (v9 - (1 : Int)))) (((bs []), (0 : Int)), ((0 : Int), (0 : Int)))).2.2)))).length)) <|
 .ni (v9 - (1 : Int)) <|
 .ret (.inl (nv0, (v1, (v2, (v8, ((v9 - (1 : Int)), (((((b0).set ((0 : Nat) + (Int.toNat v9)) ((((b0).getD ((0 : Nat) + (Int.toNat (v9 - (1 : Int)))) (((bs []), (0 : Int)), ((0 : Int), (0 : Int)))).1.1, ((b0).getD ((0 : Nat) + (Int.toNat (v9 - (1 : Int)))) (((bs []), (0 : Int)), ((0 : Int), (0 : Int)))).1.2), (((b0).getD ((0 : Nat) + (Int.toNat (v9 - (1 : Int)))) (((bs []), (0 : Int)), ((0 : Int), (0 : Int)))).2.1, ((b0).getD ((0 : Nat) + (Int.toNat (v9 - (1 : Int)))) (((bs []), (0 : Int)), ((0 : Int), (0 : Int)))).2.2)))).set ((0 : Nat) + (Int.toNat (v9 - (1 : Int)))) ((((b0).getD ((0 : Nat) + (Int.toNat v9)) (((bs []), (0 : Int)), ((0 : Int), (0 : Int)))).1.1, ((b0).getD ((0 : Nat) + (Int.toNat v9)) (((bs []), (0 : Int)), ((0 : Int), (0 : Int)))).1.2), (((b0).getD ((0 : Nat) + (Int.toNat v9)) (((bs []), (0 : Int)), ((0 : Int), (0 : Int)))).2.1, ((b0).getD ((0 : Nat) + (Int.toNat v9)) (((bs []), (0 : Int)), ((0 : Int), (0 : Int)))).2.2))), (nc1_0, (b3, ())))))))))) (
 .ret (.inr (nv0, (v1, (v2, (v8, (b0, (nc1_0, (b3, ())))))))))) (
 .ret (.inr (nv0, (v1, (v2, (v8, (b0, (nc1_0, (b3, ())))))))))
theorem sH83_v1_1 : ∀ x, roundE (kzO (pH83_v1_1.T ⊕ xH83_v1_1.T)) cxH83_v1 ar0 [0, 1, 2] pH83_v1_1 xH83_v1_1 (bH83_v1_1) (fun y => some (.inl y)) (fun b => some (.inr b)) x = run0 (gH83_v1_1 x) := fun x => by kernel_rfl
noncomputable def LH83_v1_1 : LoopS prog 53 none 3 := mkLoop mixed cxH83_v1 cxH83_v1_ok [0, 1, 2] rfl pH83_v1_1 xH83_v1_1 rfl (bH83_v1_1) (fun x => run0 (gH83_v1_1 x)) (sH83_v1_1)
@[reducible] def pH83_v1_0 : Pat := Pat.mk [(0, .c (.sl0 0 (.prod (.prod .str tI) (.prod tI tI)))), (1, hI), (2, hI), (3, .fn 57 [] [.ptr 1 0]), (8, hI)] [(0, .arr (.prod (.prod .str tI) (.prod tI tI)) false), (1, .cells [.sl0 3 tI] false), (3, .arr tI false)] [.cell 1 0] []
@[reducible] def xH83_v1_0 : Outs := [(.exit 0, Pat.mk [] [(1, .cells [.sl0 3 tI] false), (0, .arr (.prod (.prod .str tI) (.prod tI tI)) false), (3, .arr tI false)] [.cell 1 0] [])]
noncomputable def bH83_v1_0 : D prog 53 none 3 := dO [.l LH83_v1_1] (pick (kd prog f83) [(0, false)]) 0
noncomputable def gH83_v1_0 : Nat × Int × Int × Int × (List ((ByteArray × Int) × Int × Int)) × Nat × List Int × Unit → Tr0 ((Nat × Int × Int × Int × (List ((ByteArray × Int) × Int × Int)) × Nat × List Int × Unit) ⊕ ((Nat × (List ((ByteArray × Int) × Int × Int)) × List Int × Unit))) := fun (nv0, v1, v2, v8, b0, nc1_0, b3, _) =>
 .br (decide (v8 < v2)) (
 .bd (.it gH83_v1_1 (nv0, (v1, (v2, (v8, (v8, (b0, (nc1_0, (b3, ()))))))))) fun z1 =>
 .ni (z1.2.2.2.1 + (1 : Int)) <|
 .ret (.inl (z1.1, (z1.2.1, (z1.2.2.1, ((z1.2.2.2.1 + (1 : Int)), (z1.2.2.2.2.1, (z1.2.2.2.2.2.1, (z1.2.2.2.2.2.2.1, ()))))))))) (
 .ret (.inr (nc1_0, (b0, (b3, ())))))
theorem sH83_v1_0 : ∀ x, roundE (kzO (pH83_v1_0.T ⊕ xH83_v1_0.T)) cxH83_v1 ar0 [0, 1, 2] pH83_v1_0 xH83_v1_0 (bH83_v1_0) (fun y => some (.inl y)) (fun b => some (.inr b)) x = run0 (gH83_v1_0 x) := fun x => by kernel_rfl
noncomputable def LH83_v1_0 : LoopS prog 53 none 3 := mkLoop mixed cxH83_v1 cxH83_v1_ok [0, 1, 2] rfl pH83_v1_0 xH83_v1_0 rfl (bH83_v1_0) (fun x => run0 (gH83_v1_0 x)) (sH83_v1_0)
noncomputable def ddH83_v1 : D prog 53 none 3 := dO [.l LH83_v1_0] (kd prog f83) 0
noncomputable def FH83_v1 (nv0 : Nat) (v1 : Int) (v2 : Int) (b0 : List ((ByteArray × Int) × Int × Int)) (nc1_0 : Nat) (b2 : List Int) : Tr0 (Nat × (List ((ByteArray × Int) × Int × Int)) × List Int × Unit) :=
 .ni (v1 + (1 : Int)) <|
 .bd (.it gH83_v1_0 (nv0, (v1, (v2, ((v1 + (1 : Int)), (b0, (nc1_0, (b2, ())))))))) fun z2 =>
 .ret (z2.1, (z2.2.1, (z2.2.2.1, ())))
theorem cH83_v1_ok : trF prog f83 = some ⟨53, 4, ddH83_v1.er, [], []⟩ := by kernel_rfl
noncomputable def ht83_v1 : Ht := ⟨83, pH83_v1, qH83_v1, (fun x => run0 (FH83_v1 x.1 x.2.1 x.2.2.1 x.2.2.2.1 x.2.2.2.2.1 x.2.2.2.2.2.1))⟩
theorem ht83_v1_ok : ht83_v1.Ok prog := ht_ok mixed cxH83_v1_ok rfl func83 cH83_v1_ok (enters_of func83 rfl rfl) ddH83_v1 (by kernel_rfl) rfl rfl ⟨_, rfl⟩ rfl (pre := [0, 1, 2]) rfl (fun x => by kernel_rfl)

/- 74, lent -/
@[reducible] def pH74 : Pat := Pat.mk [(0, .c (.sl0 0 (.prod (.prod .str tI) (.prod tI tI)))), (1, hI), (2, hI), (3, hI), (4, .fn 57 [] [.ptr 1 0])] [(0, .arr (.prod (.prod .str tI) (.prod tI tI)) false), (1, .cells [.sl0 2 tI] false), (2, .arr tI false)] [.slot 0, .part 4 0, .cell 1 0] []
@[reducible] def qH74 : Pat := Pat.mk [(0, .c .any)] [(1, .cells [.sl0 3 tI] false), (0, .arr (.prod (.prod .str tI) (.prod tI tI)) false), (3, .arr tI false)] [.cell 1 0] []
noncomputable def cxH74 : Cx := mkCxH [] [ht83_v1]
theorem cxH74_ok : cxH74.Ok prog := mkCxH_ok trivial ⟨⟨ht83_v1_ok, rfl⟩, trivial⟩
@[reducible] def pH74_0 : Pat := Pat.mk [(0, .c (.sl0 0 (.prod (.prod .str tI) (.prod tI tI)))), (1, hI), (2, hI), (3, hI), (4, .fn 57 [] [.ptr 1 0]), (10, .c (.tf true)), (11, .c (.tf true))] [(0, .arr (.prod (.prod .str tI) (.prod tI tI)) false), (1, .cells [.sl0 3 tI] false), (3, .arr tI false)] [.cell 1 0] []
@[reducible] def xH74_0 : Outs := [(.ret, Pat.mk [] [(1, .cells [.sl0 3 tI] false), (0, .arr (.prod (.prod .str tI) (.prod tI tI)) false), (3, .arr tI false)] [.cell 1 0] [])]
noncomputable def bH74_0 : D prog 148 none 3 := dO [] (pick (kd prog f74) [(0, false)]) 0
noncomputable def gH74_0 : Nat × Int × Int × Int × (List ((ByteArray × Int) × Int × Int)) × Nat × List Int × Unit → Tr0 ((Nat × Int × Int × Int × (List ((ByteArray × Int) × Int × Int)) × Nat × List Int × Unit) ⊕ ((Nat × (List ((ByteArray × Int) × Int × Int)) × List Int × Unit))) := fun (nv0, v1, v2, v3, b0, nc1_0, b3, _) =>
 .ni (v2 - v1) <|
 .br (decide ((v2 - v1) ≤ (12 : Int))) (
 .bd (FH83_v1 nv0 v1 v2 b0 nc1_0 b3) fun y0 =>
 .ret (.inr (y0.1, (y0.2.1, (y0.2.2.1, ()))))) (
 .br (v3 == (0 : Int)) (
 .no) (
 .no))
theorem sH74_0 : ∀ x, roundE (kzO (pH74_0.T ⊕ xH74_0.T)) cxH74 ar0 [0, 1, 2] pH74_0 xH74_0 (bH74_0) (fun y => some (.inl y)) (fun b => some (.inr b)) x = run0 (gH74_0 x) := fun x => by kernel_rfl
noncomputable def LH74_0 : LoopS prog 148 none 3 := mkLoop mixed cxH74 cxH74_ok [0, 1, 2] rfl pH74_0 xH74_0 rfl (bH74_0) (fun x => run0 (gH74_0 x)) (sH74_0)
noncomputable def ddH74 : D prog 148 none 3 := dO [.l LH74_0] (kd prog f74) 0
noncomputable def FH74 (nv0 : Nat) (v1 : Int) (v2 : Int) (v3 : Int) (b0 : List ((ByteArray × Int) × Int × Int)) (nc1_0 : Nat) (b2 : List Int) : Tr0 (Nat × (List ((ByteArray × Int) × Int × Int)) × List Int × Unit) :=
 .bd (.it gH74_0 (nv0, (v1, (v2, (v3, (b0, (nc1_0, (b2, ())))))))) fun z1 =>
 .ret (z1.1, (z1.2.1, (z1.2.2.1, ())))
theorem cH74_ok : trF prog f74 = some ⟨148, 5, ddH74.er, [], []⟩ := by kernel_rfl
noncomputable def ht74 : Ht := ⟨74, pH74, qH74, (fun x => run0 (FH74 x.1 x.2.1 x.2.2.1 x.2.2.2.1 x.2.2.2.2.1 x.2.2.2.2.2.1 x.2.2.2.2.2.2.1))⟩
theorem ht74_ok : ht74.Ok prog := ht_ok mixed cxH74_ok rfl func74 cH74_ok (enters_of func74 rfl rfl) ddH74 (by kernel_rfl) rfl rfl ⟨_, rfl⟩ rfl (pre := [0, 1, 2]) rfl (fun x => by kernel_rfl)

/- 56, lent -/
@[reducible] def pH56 : Pat := Pat.mk [(0, .c (.sl0 0 (.prod (.prod .str tI) (.prod tI tI)))), (1, .fn 57 [] [.ptr 1 0])] [(0, .arr (.prod (.prod .str tI) (.prod tI tI)) false), (1, .cells [.sl0 2 tI] false), (2, .arr tI false)] [.slot 0, .part 1 0, .cell 1 0] []
@[reducible] def qH56 : Pat := Pat.mk [(0, .c .any)] [(1, .cells [.sl0 3 tI] false), (0, .arr (.prod (.prod .str tI) (.prod tI tI)) false), (3, .arr tI false)] [.cell 1 0] []
noncomputable def cxH56 : Cx := mkCxH [ct75] [ht74]
theorem cxH56_ok : cxH56.Ok prog := mkCxH_ok ⟨ct75_ok, trivial⟩ ⟨⟨ht74_ok, rfl⟩, trivial⟩
noncomputable def ddH56 : D prog 14 none 3 := dO [] (kd prog f56) 0
noncomputable def FH56 (nv0 : Nat) (b0 : List ((ByteArray × Int) × Int × Int)) (nc1_0 : Nat) (b2 : List Int) : Tr0 (Nat × (List ((ByteArray × Int) × Int × Int)) × List Int × Unit) :=
 .nd (rng .u64 ((nv0 : Nat) : Int)) <|
 .bd (F75 ((nv0 : Nat) : Int)) fun y0 =>
 .bd (FH74 nv0 (0 : Int) ((nv0 : Nat) : Int) y0.1 b0 nc1_0 b2) fun y1 =>
 .ret (y1.1, (y1.2.1, (y1.2.2.1, ())))
theorem cH56_ok : trF prog f56 = some ⟨14, 2, ddH56.er, [], []⟩ := by kernel_rfl
noncomputable def ht56 : Ht := ⟨56, pH56, qH56, (fun x => run0 (FH56 x.1 x.2.1 x.2.2.1 x.2.2.2.1))⟩
theorem ht56_ok : ht56.Ok prog := ht_ok mixed cxH56_ok rfl func56 cH56_ok (enters_of func56 rfl rfl) ddH56 (by kernel_rfl) rfl rfl ⟨_, rfl⟩ rfl (pre := [0, 1, 2]) rfl (fun x => by kernel_rfl)

/- 26 -/
noncomputable def cx26 : Cx := mkCxH [ct22, ct41, ct51, ct52, ct54] [ht55, ht56]
theorem cx26_ok : cx26.Ok prog := mkCxH_ok ⟨ct22_ok, ct41_ok, ct51_ok, ct52_ok, ct54_ok, trivial⟩ ⟨⟨ht55_ok, rfl⟩, ⟨ht56_ok, rfl⟩, trivial⟩
@[reducible] def p26_0 : Pat := Pat.mk [(5, .c (.ptr 0 0)), (6, .c (.ptr 1 0)), (7, .c (.sl0 2 tI)), (8, .c (.ptr 3 0)), (9, hI), (37, .c (.hole (.list (.prod (.prod .str tI) (.prod tI tI))))), (38, hI), (39, hI)] [(0, .cells [.hole (.list (.prod (.prod .str tI) (.prod tI tI))), .hole tI] false), (1, .cells [.hole tI, .hole tI] false), (2, .arr tI false), (3, .cells [.sl0 4 tI] false), (4, .arr tI false)] [.slot 5, .slot 6, .slot 7, .slot 8, .cell 3 0] []
@[reducible] def x26_0 : Outs := [(.exit 0, Pat.mk [(5, .c (.ptr 0 0)), (7, .c (.sl0 1 tI)), (8, .c (.ptr 2 0)), (9, hI)] [(0, .cells [.hole (.list (.prod (.prod .str tI) (.prod tI tI))), .hole tI] false), (1, .arr tI false), (2, .cells [.sl0 3 tI] false), (3, .arr tI false)] [.slot 5, .slot 7, .slot 8, .cell 2 0] [])]
noncomputable def b26_0 : D prog 86 none 0 := dO [] (pick (kd prog f26) [(0, false)]) 0
noncomputable def g26_0 : Nat × Int × (List ((ByteArray × Int) × Int × Int)) × Int × Int × (List ((ByteArray × Int) × Int × Int)) × Int × Int × Int × List Int × Nat × List Int × Unit → Tr0 ((Nat × Int × (List ((ByteArray × Int) × Int × Int)) × Int × Int × (List ((ByteArray × Int) × Int × Int)) × Int × Int × Int × List Int × Nat × List Int × Unit) ⊕ ((Nat × Int × (List ((ByteArray × Int) × Int × Int)) × Int × List Int × Nat × List Int × Unit))) := fun (nv7, v9, v37, v38, v39, c0_0, c0_1, c1_0, c1_1, b2, nc3_0, b4, _) =>
 .br (decide (v39 < v38)) (
 .nb v39 (((v37).length : Nat) : Int) <|
 .bd (F54 (((v37).getD (Int.toNat v39) (((bs []), (0 : Int)), ((0 : Int), (0 : Int)))).1.1, (((v37).getD (Int.toNat v39) (((bs []), (0 : Int)), ((0 : Int), (0 : Int)))).1.2, (((v37).getD (Int.toNat v39) (((bs []), (0 : Int)), ((0 : Int), (0 : Int)))).2.1, ((v37).getD (Int.toNat v39) (((bs []), (0 : Int)), ((0 : Int), (0 : Int)))).2.2))) (c1_0, c1_1)) fun y4 =>
 .nb v39 ((nv7 : Nat) : Int) <|
 .nd (decide (((0 : Nat) + (Int.toNat v39)) < (b2).length)) <|
 .nb v39 ((nc3_0 : Nat) : Int) <|
 .nd (decide (((0 : Nat) + (Int.toNat v39)) < (b4).length)) <|
 .nb v39 ((nv7 : Nat) : Int) <|
 .nd (decide (((0 : Nat) + (Int.toNat v39)) < (((b2).set ((0 : Nat) + (Int.toNat v39)) y4.1)).length)) <|
 .ni (v9 - ((((b2).set ((0 : Nat) + (Int.toNat v39)) y4.1)).getD ((0 : Nat) + (Int.toNat v39)) (0 : Int))) <|
 .ni (v39 + (1 : Int)) <|
 .ret (.inl (nv7, ((v9 - ((((b2).set ((0 : Nat) + (Int.toNat v39)) y4.1)).getD ((0 : Nat) + (Int.toNat v39)) (0 : Int))), (v37, (v38, ((v39 + (1 : Int)), (c0_0, (c0_1, (c1_0, (c1_1, (((b2).set ((0 : Nat) + (Int.toNat v39)) y4.1), (nc3_0, (((b4).set ((0 : Nat) + (Int.toNat v39)) y4.2.1), ())))))))))))))) (
 .ret (.inr (nv7, (v9, (c0_0, (c0_1, (b2, (nc3_0, (b4, ())))))))))
theorem s26_0 : ∀ x, roundE (kzO (p26_0.T ⊕ x26_0.T)) cx26 ar0 [] p26_0 x26_0 (b26_0) (fun y => some (.inl y)) (fun b => some (.inr b)) x = run0 (g26_0 x) := fun x => by kernel_rfl
noncomputable def L26_0 : LoopS prog 86 none 0 := mkLoop mixed cx26 cx26_ok [] rfl p26_0 x26_0 rfl (b26_0) (fun x => run0 (g26_0 x)) (s26_0)
@[reducible] def p26_1 : Pat := Pat.mk [(7, .c (.sl0 0 tI)), (71, .c (.slx 1 (.prod (.prod .str tI) (.prod tI tI)))), (72, hI), (73, hI)] [(0, .arr tI false), (1, .arr (.prod (.prod .str tI) (.prod tI tI)) false)] [.slot 7, .slot 71] []
@[reducible] def x26_1 : Outs := [(.exit 2, Pat.mk [(7, .c (.sl0 0 tI))] [(0, .arr tI false)] [.slot 7] [])]
noncomputable def b26_1 : D prog 86 none 0 := dO [] (pick (kd prog f26) [(1, false)]) 0
noncomputable def g26_1 : Nat × Nat × Nat × Int × Int × List Int × (List ((ByteArray × Int) × Int × Int)) × Unit → Tr0 ((Nat × Nat × Nat × Int × Int × List Int × (List ((ByteArray × Int) × Int × Int)) × Unit) ⊕ ((Nat × List Int × Unit))) := fun (nv7, lv71, nv71, v72, v73, b0, b1, _) =>
 .br (decide (v73 < v72)) (
 .nb v73 ((nv71 : Nat) : Int) <|
 .nd (decide ((lv71 + (Int.toNat v73)) < (b1).length)) <|
 .nb ((b1).getD (lv71 + (Int.toNat v73)) (((bs []), (0 : Int)), ((0 : Int), (0 : Int)))).2.1 ((nv7 : Nat) : Int) <|
 .nd (decide (((0 : Nat) + (Int.toNat ((b1).getD (lv71 + (Int.toNat v73)) (((bs []), (0 : Int)), ((0 : Int), (0 : Int)))).2.1)) < (b0).length)) <|
 .ni (((b0).getD ((0 : Nat) + (Int.toNat ((b1).getD (lv71 + (Int.toNat v73)) (((bs []), (0 : Int)), ((0 : Int), (0 : Int)))).2.1)) (0 : Int)) + (1 : Int)) <|
 .nb ((b1).getD (lv71 + (Int.toNat v73)) (((bs []), (0 : Int)), ((0 : Int), (0 : Int)))).2.1 ((nv7 : Nat) : Int) <|
 .nd (decide (((0 : Nat) + (Int.toNat ((b1).getD (lv71 + (Int.toNat v73)) (((bs []), (0 : Int)), ((0 : Int), (0 : Int)))).2.1)) < (b0).length)) <|
 .ni (v73 + (1 : Int)) <|
 .ret (.inl (nv7, (lv71, (nv71, (v72, ((v73 + (1 : Int)), (((b0).set ((0 : Nat) + (Int.toNat ((b1).getD (lv71 + (Int.toNat v73)) (((bs []), (0 : Int)), ((0 : Int), (0 : Int)))).2.1)) (((b0).getD ((0 : Nat) + (Int.toNat ((b1).getD (lv71 + (Int.toNat v73)) (((bs []), (0 : Int)), ((0 : Int), (0 : Int)))).2.1)) (0 : Int)) + (1 : Int))), (b1, ()))))))))) (
 .ret (.inr (nv7, (b0, ()))))
theorem s26_1 : ∀ x, roundE (kzO (p26_1.T ⊕ x26_1.T)) cx26 ar0 [] p26_1 x26_1 (b26_1) (fun y => some (.inl y)) (fun b => some (.inr b)) x = run0 (g26_1 x) := fun x => by kernel_rfl
noncomputable def L26_1 : LoopS prog 86 none 0 := mkLoop mixed cx26 cx26_ok [] rfl p26_1 x26_1 rfl (b26_1) (fun x => run0 (g26_1 x)) (s26_1)
noncomputable def dd26 : D prog 86 none 0 := dO [.l L26_0, .l L26_1] (kd prog f26) 0
noncomputable def F26 (a0 : Int × Int × Int × (List (ByteArray × Int)) × List (Int × Int × Int × Int)) : Tr0 (List Int × Int × Unit) :=
 .bd (F22 (a0.1, (a0.2.1, (a0.2.2.1, (a0.2.2.2.1, a0.2.2.2.2))))) fun y0 =>
 .br (!(y0.1 == (0 : Int))) (
 .ret ([], (y0.1, ()))) (
 .bd (F41 (a0.1, (a0.2.1, (a0.2.2.1, (a0.2.2.2.1, a0.2.2.2.2))))) fun y1 =>
 .bd (F51 (a0.1, (a0.2.1, (a0.2.2.1, (a0.2.2.2.1, a0.2.2.2.2)))) y1.1) fun y2 =>
 .bd (F52 (y2.1.1, y2.1.2)) fun y3 =>
 .nb (((y2.1.1).length : Nat) : Int) ((bigL : Nat) : Int) <|
 .nb (((y2.1.1).length : Nat) : Int) ((bigL : Nat) : Int) <|
 .bd (.it g26_0 ((Int.toNat (((y2.1.1).length : Nat) : Int)), (y2.1.2, (y2.1.1, ((((y2.1.1).length : Nat) : Int), ((0 : Int), (y2.1.1, (y2.1.2, (y3.1.1, (y3.1.2, ((List.replicate (Int.toNat (((y2.1.1).length : Nat) : Int)) (0 : Int)), ((Int.toNat (((y2.1.1).length : Nat) : Int)), ((List.replicate (Int.toNat (((y2.1.1).length : Nat) : Int)) (0 : Int)), ()))))))))))))) fun z5 =>
 .bd (FH55 z5.2.2.1) fun y6 =>
 .bd (FH56 y6.1 y6.2.1 z5.2.2.2.2.2.1 z5.2.2.2.2.2.2.1) fun y7 =>
 .nd (decide ((0 : Int) ≤ (0 : Int))) <|
 .nd (decide ((0 : Int) ≤ z5.2.1)) <|
 .nd (decide (z5.2.1 ≤ ((y6.1 : Nat) : Int))) <|
 .bd (.it g26_1 (z5.1, (((0 : Nat) + (Int.toNat (0 : Int))), (((Int.toNat z5.2.1) - (Int.toNat (0 : Int))), (((((Int.toNat z5.2.1) - (Int.toNat (0 : Int))) : Nat) : Int), ((0 : Int), (z5.2.2.2.2.1, (y7.2.1, ())))))))) fun z8 =>
 .ret ((((z8.2.1).drop (0 : Nat)).take z8.1), ((0 : Int), ())))
theorem c26_ok : trF prog f26 = some ⟨86, 1, dd26.er, [.t 2, .t 3], [some tL, some tI]⟩ := by kernel_rfl
noncomputable def ct26 : Ct := ⟨26, [.c (.hole (.prod tI (.prod tI (.prod tI (.prod (.list (.prod .str tI)) (.list (.prod tI (.prod tI (.prod tI tI)))))))))], .tup [.hole tL, .hole tI], fun x => run0 (F26 x.1)⟩
theorem ct26_ok : ct26.Ok prog := ct_ok mixed cx26_ok func26 c26_ok (enters_of func26 rfl rfl) dd26 (by kernel_rfl) rfl (fun x => by kernel_rfl)

/- 28 -/
noncomputable def cx28 : Cx := mkCxH [ct22, ct41, ct51] []
theorem cx28_ok : cx28.Ok prog := mkCxH_ok ⟨ct22_ok, ct41_ok, ct51_ok, trivial⟩ trivial
noncomputable def dd28 : D prog 18 none 0 := dO [] (kd prog f28) 0
noncomputable def F28 (a0 : Int × Int × Int × (List (ByteArray × Int)) × List (Int × Int × Int × Int)) : Tr0 (Int × Int × Unit) :=
 .bd (F22 (a0.1, (a0.2.1, (a0.2.2.1, (a0.2.2.2.1, a0.2.2.2.2))))) fun y0 =>
 .br (!(y0.1 == (0 : Int))) (
 .ret ((0 : Int), (y0.1, ()))) (
 .bd (F41 (a0.1, (a0.2.1, (a0.2.2.1, (a0.2.2.2.1, a0.2.2.2.2))))) fun y1 =>
 .bd (F51 (a0.1, (a0.2.1, (a0.2.2.1, (a0.2.2.2.1, a0.2.2.2.2)))) y1.1) fun y2 =>
 .ni (a0.1 - y2.1.2) <|
 .ret ((a0.1 - y2.1.2), ((0 : Int), ())))
theorem c28_ok : trF prog f28 = some ⟨18, 1, dd28.er, [.t 2, .t 3], [some tI, some tI]⟩ := by kernel_rfl
noncomputable def ct28 : Ct := ⟨28, [.c (.hole (.prod tI (.prod tI (.prod tI (.prod (.list (.prod .str tI)) (.list (.prod tI (.prod tI (.prod tI tI)))))))))], .tup [.hole tI, .hole tI], fun x => run0 (F28 x.1)⟩
theorem ct28_ok : ct28.Ok prog := ct_ok mixed cx28_ok func28 c28_ok (enters_of func28 rfl rfl) dd28 (by kernel_rfl) rfl (fun x => by kernel_rfl)

/- 20 -/
noncomputable def cx20 : Cx := mkCxH [] []
theorem cx20_ok : cx20.Ok prog := mkCxH_ok trivial trivial
@[reducible] def p20_0 : Pat := Pat.mk [(0, hL), (1, hL), (5, hI)] [] [] []
@[reducible] def x20_0 : Outs := [(.ret, Pat.mk [(4, .c (.tf false))] [] [] []), (.exit 0, Pat.mk [] [] [] [])]
noncomputable def b20_0 : D prog 26 none 0 := dO [] (pick (kd prog f20) [(0, false)]) 0
noncomputable def g20_0 : List Int × List Int × Int × Unit → Tr0 ((List Int × List Int × Int × Unit) ⊕ ((Unit) ⊕ ((Unit)))) := fun (v0, v1, v5, _) =>
 .br (decide (v5 < (((v0).length : Nat) : Int))) (
 .nb v5 (((v0).length : Nat) : Int) <|
 .nb v5 (((v1).length : Nat) : Int) <|
 .br (!(((v0).getD (Int.toNat v5) (0 : Int)) == ((v1).getD (Int.toNat v5) (0 : Int)))) (
 .ret (.inr <| .inl <| ())) (
 .ni (v5 + (1 : Int)) <|
 .ret (.inl (v0, (v1, ((v5 + (1 : Int)), ())))))) (
 .ret (.inr <| .inr <| ()))
theorem s20_0 : ∀ x, roundE (kzO (p20_0.T ⊕ x20_0.T)) cx20 ar0 [] p20_0 x20_0 (b20_0) (fun y => some (.inl y)) (fun b => some (.inr b)) x = run0 (g20_0 x) := fun x => by kernel_rfl
noncomputable def L20_0 : LoopS prog 26 none 0 := mkLoop mixed cx20 cx20_ok [] rfl p20_0 x20_0 rfl (b20_0) (fun x => run0 (g20_0 x)) (s20_0)
noncomputable def dd20 : D prog 26 none 0 := dO [.l L20_0] (kd prog f20) 0
noncomputable def F20 (a0 : List Int) (a1 : List Int) : Tr0 (Bool × Unit) :=
 .br (!((((a0).length : Nat) : Int) == (((a1).length : Nat) : Int))) (
 .ret (false, ())) (
 .bd (.it g20_0 (a0, (a1, ((0 : Int), ())))) fun z0 =>
 .sm z0 (fun z1 =>
 .ret (false, ())) fun z2 =>
 .ret (true, ()))
theorem c20_ok : trF prog f20 = some ⟨26, 2, dd20.er, [.t 4], [some .bool]⟩ := by kernel_rfl
noncomputable def ct20 : Ct := ⟨20, [hL, hL], .c (.hole .bool), fun x => run0 (F20 x.1 x.2.1)⟩
theorem ct20_ok : ct20.Ok prog := ct_ok mixed cx20_ok func20 c20_ok (enters_of func20 rfl rfl) dd20 (by kernel_rfl) rfl (fun x => by kernel_rfl)

/- 32 -/
noncomputable def cx32 : Cx := mkCxH [ct22, ct65, ct41, ct51, ct54] []
theorem cx32_ok : cx32.Ok prog := mkCxH_ok ⟨ct22_ok, ct65_ok, ct41_ok, ct51_ok, ct54_ok, trivial⟩ trivial
@[reducible] def p32_0 : Pat := Pat.mk [(1, hL), (2, hI), (3, hI), (4, .c (.ptr 0 0)), (10, hI), (42, hL), (43, hI), (44, hI)] [(0, .cells [.hole tI, .hole tI, .hole tI, .hole (.list (.prod .str tI)), .hole (.list (.prod tI (.prod tI (.prod tI tI))))] false)] [.slot 4] []
@[reducible] def x32_0 : Outs := [(.ret, Pat.mk [(8, hI)] [] [] []), (.exit 1, Pat.mk [(1, hL), (2, hI), (3, hI), (4, .c (.ptr 0 0)), (10, hI)] [(0, .cells [.hole tI, .hole tI, .hole tI, .hole (.list (.prod .str tI)), .hole (.list (.prod tI (.prod tI (.prod tI tI))))] false)] [.slot 4] [])]
noncomputable def b32_0 : D prog 136 none 0 := dO [] (pick (kd prog f32) [(0, false)]) 0
noncomputable def g32_0 : List Int × Int × Int × Int × List Int × Int × Int × Int × Int × Int × (List (ByteArray × Int)) × (List (Int × Int × Int × Int)) × Unit → Tr0 ((List Int × Int × Int × Int × List Int × Int × Int × Int × Int × Int × (List (ByteArray × Int)) × (List (Int × Int × Int × Int)) × Unit) ⊕ ((Int × Unit) ⊕ ((List Int × Int × Int × Int × Int × Int × Int × (List (ByteArray × Int)) × (List (Int × Int × Int × Int)) × Unit)))) := fun (v1, v2, v3, v10, v42, v43, v44, c0_0, c0_1, c0_2, c0_3, c0_4, _) =>
 .br (decide (v44 < v43)) (
 .nb v44 (((v42).length : Nat) : Int) <|
 .nb v44 (((c0_3).length : Nat) : Int) <|
 .bd (F65 (0 : Int) ((v42).getD (Int.toNat v44) (0 : Int)) ((c0_3).getD (Int.toNat v44) ((bs []), (0 : Int))).2) fun y3 =>
 .br (!y3.1) (
 .ret (.inr <| .inl <| ((10 : Int), ()))) (
 .ni (v10 + ((v42).getD (Int.toNat v44) (0 : Int))) <|
 .ni (v44 + (1 : Int)) <|
 .ret (.inl (v1, (v2, (v3, ((v10 + ((v42).getD (Int.toNat v44) (0 : Int))), (v42, (v43, ((v44 + (1 : Int)), (c0_0, (c0_1, (c0_2, (c0_3, (c0_4, ()))))))))))))))) (
 .ret (.inr <| .inr <| (v1, (v2, (v3, (v10, (c0_0, (c0_1, (c0_2, (c0_3, (c0_4, ())))))))))))
theorem s32_0 : ∀ x, roundE (kzO (p32_0.T ⊕ x32_0.T)) cx32 ar0 [] p32_0 x32_0 (b32_0) (fun y => some (.inl y)) (fun b => some (.inr b)) x = run0 (g32_0 x) := fun x => by kernel_rfl
noncomputable def L32_0 : LoopS prog 136 none 0 := mkLoop mixed cx32 cx32_ok [] rfl p32_0 x32_0 rfl (b32_0) (fun x => run0 (g32_0 x)) (s32_0)
@[reducible] def p32_1 : Pat := Pat.mk [(1, hL), (2, hI), (3, hI), (14, .c (.ptr 0 0)), (15, hI), (16, hI), (75, .c (.hole (.list (.prod (.prod .str tI) (.prod tI tI))))), (76, hI), (77, hI)] [(0, .cells [.hole tI, .hole tI] false)] [.slot 14] []
@[reducible] def x32_1 : Outs := [(.ret, Pat.mk [(8, hI)] [] [] []), (.exit 3, Pat.mk [(2, hI), (3, hI), (15, hI), (16, hI)] [] [] [])]
noncomputable def b32_1 : D prog 136 none 0 := dO [] (pick (kd prog f32) [(1, false)]) 0
noncomputable def g32_1 : List Int × Int × Int × Int × Int × (List ((ByteArray × Int) × Int × Int)) × Int × Int × Int × Int × Unit → Tr0 ((List Int × Int × Int × Int × Int × (List ((ByteArray × Int) × Int × Int)) × Int × Int × Int × Int × Unit) ⊕ ((Int × Unit) ⊕ ((Int × Int × Int × Int × Unit)))) := fun (v1, v2, v3, v15, v16, v75, v76, v77, c0_0, c0_1, _) =>
 .br (decide (v77 < v76)) (
 .nb v77 (((v75).length : Nat) : Int) <|
 .bd (F54 (((v75).getD (Int.toNat v77) (((bs []), (0 : Int)), ((0 : Int), (0 : Int)))).1.1, (((v75).getD (Int.toNat v77) (((bs []), (0 : Int)), ((0 : Int), (0 : Int)))).1.2, (((v75).getD (Int.toNat v77) (((bs []), (0 : Int)), ((0 : Int), (0 : Int)))).2.1, ((v75).getD (Int.toNat v77) (((bs []), (0 : Int)), ((0 : Int), (0 : Int)))).2.2))) (c0_0, c0_1)) fun y9 =>
 .nb v77 (((v1).length : Nat) : Int) <|
 .br (!(((v1).getD (Int.toNat v77) (0 : Int)) == y9.1)) (
 .nb v77 (((v1).length : Nat) : Int) <|
 .ni (y9.1 + (imin y9.2.1 (1 : Int))) <|
 .br (!(((v1).getD (Int.toNat v77) (0 : Int)) == (y9.1 + (imin y9.2.1 (1 : Int))))) (
 .ret (.inr <| .inl <| ((11 : Int), ()))) (
 .ni (v2 * ((v75).getD (Int.toNat v77) (((bs []), (0 : Int)), ((0 : Int), (0 : Int)))).2.2) <|
 .ni (((v75).getD (Int.toNat v77) (((bs []), (0 : Int)), ((0 : Int), (0 : Int)))).1.2 * v3) <|
 .br (decide ((((v75).getD (Int.toNat v77) (((bs []), (0 : Int)), ((0 : Int), (0 : Int)))).1.2 * v3) ≤ (v2 * ((v75).getD (Int.toNat v77) (((bs []), (0 : Int)), ((0 : Int), (0 : Int)))).2.2))) (
 .ni (v15 - ((v75).getD (Int.toNat v77) (((bs []), (0 : Int)), ((0 : Int), (0 : Int)))).1.2) <|
 .ni (v77 + (1 : Int)) <|
 .ret (.inl (v1, (v2, (v3, ((v15 - ((v75).getD (Int.toNat v77) (((bs []), (0 : Int)), ((0 : Int), (0 : Int)))).1.2), (v16, (v75, (v76, ((v77 + (1 : Int)), (c0_0, (c0_1, ())))))))))))) (
 .ni (v16 + ((v75).getD (Int.toNat v77) (((bs []), (0 : Int)), ((0 : Int), (0 : Int)))).2.2) <|
 .ni (v77 + (1 : Int)) <|
 .ret (.inl (v1, (v2, (v3, (v15, ((v16 + ((v75).getD (Int.toNat v77) (((bs []), (0 : Int)), ((0 : Int), (0 : Int)))).2.2), (v75, (v76, ((v77 + (1 : Int)), (c0_0, (c0_1, ())))))))))))))) (
 .ni (v2 * ((v75).getD (Int.toNat v77) (((bs []), (0 : Int)), ((0 : Int), (0 : Int)))).2.2) <|
 .ni (((v75).getD (Int.toNat v77) (((bs []), (0 : Int)), ((0 : Int), (0 : Int)))).1.2 * v3) <|
 .br (decide ((((v75).getD (Int.toNat v77) (((bs []), (0 : Int)), ((0 : Int), (0 : Int)))).1.2 * v3) ≤ (v2 * ((v75).getD (Int.toNat v77) (((bs []), (0 : Int)), ((0 : Int), (0 : Int)))).2.2))) (
 .ni (v15 - ((v75).getD (Int.toNat v77) (((bs []), (0 : Int)), ((0 : Int), (0 : Int)))).1.2) <|
 .ni (v77 + (1 : Int)) <|
 .ret (.inl (v1, (v2, (v3, ((v15 - ((v75).getD (Int.toNat v77) (((bs []), (0 : Int)), ((0 : Int), (0 : Int)))).1.2), (v16, (v75, (v76, ((v77 + (1 : Int)), (c0_0, (c0_1, ())))))))))))) (
 .ni (v16 + ((v75).getD (Int.toNat v77) (((bs []), (0 : Int)), ((0 : Int), (0 : Int)))).2.2) <|
 .ni (v77 + (1 : Int)) <|
 .ret (.inl (v1, (v2, (v3, (v15, ((v16 + ((v75).getD (Int.toNat v77) (((bs []), (0 : Int)), ((0 : Int), (0 : Int)))).2.2), (v75, (v76, ((v77 + (1 : Int)), (c0_0, (c0_1, ())))))))))))))) (
 .ret (.inr <| .inr <| (v2, (v3, (v15, (v16, ()))))))
theorem s32_1 : ∀ x, roundE (kzO (p32_1.T ⊕ x32_1.T)) cx32 ar0 [] p32_1 x32_1 (b32_1) (fun y => some (.inl y)) (fun b => some (.inr b)) x = run0 (g32_1 x) := fun x => by kernel_rfl
noncomputable def L32_1 : LoopS prog 136 none 0 := mkLoop mixed cx32 cx32_ok [] rfl p32_1 x32_1 rfl (b32_1) (fun x => run0 (g32_1 x)) (s32_1)
noncomputable def dd32 : D prog 136 none 0 := dO [.l L32_0, .l L32_1] (kd prog f32) 0
noncomputable def F32 (a0 : Int × Int × Int × (List (ByteArray × Int)) × List (Int × Int × Int × Int)) (a1 : List Int) (a2 : Int) (a3 : Int) : Tr0 (Int × Unit) :=
 .bd (F22 (a0.1, (a0.2.1, (a0.2.2.1, (a0.2.2.2.1, a0.2.2.2.2))))) fun y0 =>
 .br (!(y0.1 == (0 : Int))) (
 .ret (y0.1, ())) (
 .br (!((((a1).length : Nat) : Int) == (((a0.2.2.2.1).length : Nat) : Int))) (
 .ret ((3 : Int), ())) (
 .bd (F65 (0 : Int) a2 (1000000000 : Int)) fun y1 =>
 .br (!y1.1) (
 .ret ((2 : Int), ())) (
 .bd (F65 (1 : Int) a3 (5000000000 : Int)) fun y2 =>
 .br (!y2.1) (
 .ret ((2 : Int), ())) (
 .bd (.it g32_0 (a1, (a2, (a3, ((0 : Int), (a1, ((((a1).length : Nat) : Int), ((0 : Int), (a0.1, (a0.2.1, (a0.2.2.1, (a0.2.2.2.1, (a0.2.2.2.2, ()))))))))))))) fun z4 =>
 .sm z4 (fun z5 =>
 .ret (z5.1, ())) fun z6 =>
 .bd (F41 (z6.2.2.2.2.1, (z6.2.2.2.2.2.1, (z6.2.2.2.2.2.2.1, (z6.2.2.2.2.2.2.2.1, z6.2.2.2.2.2.2.2.2.1))))) fun y7 =>
 .bd (F51 (z6.2.2.2.2.1, (z6.2.2.2.2.2.1, (z6.2.2.2.2.2.2.1, (z6.2.2.2.2.2.2.2.1, z6.2.2.2.2.2.2.2.2.1)))) y7.1) fun y8 =>
 .br (!(z6.2.2.2.1 == y8.1.2)) (
 .ret ((19 : Int), ())) (
 .bd (.it g32_1 (z6.1, (z6.2.1, (z6.2.2.1, (z6.2.2.2.1, ((0 : Int), (y8.1.1, ((((y8.1.1).length : Nat) : Int), ((0 : Int), (z6.2.1, (z6.2.2.1, ()))))))))))) fun z10 =>
 .sm z10 (fun z11 =>
 .ret (z11.1, ())) fun z12 =>
 .br (decide (z12.2.2.1 < (0 : Int))) (
 .ret ((11 : Int), ())) (
 .ni (z12.1 * z12.2.2.2.1) <|
 .ni (z12.2.2.1 * z12.2.1) <|
 .br (!((z12.1 * z12.2.2.2.1) == (z12.2.2.1 * z12.2.1))) (
 .ret ((11 : Int), ())) (
 .ret ((0 : Int), ()))))))))
theorem c32_ok : trF prog f32 = some ⟨136, 4, dd32.er, [.t 8], [some tI]⟩ := by kernel_rfl
noncomputable def ct32 : Ct := ⟨32, [.c (.hole (.prod tI (.prod tI (.prod tI (.prod (.list (.prod .str tI)) (.list (.prod tI (.prod tI (.prod tI tI))))))))), hL, hI, hI], hI, fun x => run0 (F32 x.1 x.2.1 x.2.2.1 x.2.2.2.1)⟩
theorem ct32_ok : ct32.Ok prog := ct_ok mixed cx32_ok func32 c32_ok (enters_of func32 rfl rfl) dd32 (by kernel_rfl) rfl (fun x => by kernel_rfl)

/- 42 -/
noncomputable def cx42 : Cx := mkCxH [] []
theorem cx42_ok : cx42.Ok prog := mkCxH_ok trivial trivial
noncomputable def dd42 : D prog 19 none 0 := dO [] (kd prog f42) 0
noncomputable def F42 (a0 : Int × Int × Int × (List (ByteArray × Int)) × List (Int × Int × Int × Int)) (a1 : Int) (a2 : Int) : Tr0 (Int × Unit) :=
 .ni ((2 : Int) * a0.2.1) <|
 .ni (a1 - ((2 : Int) * a0.2.1)) <|
 .ni (a2 - a0.2.2.1) <|
 .ni ((imax (0 : Int) (a1 - ((2 : Int) * a0.2.1))) * (imax (0 : Int) (a2 - a0.2.2.1))) <|
 .ret (((imax (0 : Int) (a1 - ((2 : Int) * a0.2.1))) * (imax (0 : Int) (a2 - a0.2.2.1))), ())
theorem c42_ok : trF prog f42 = some ⟨19, 3, dd42.er, [.t 6], [some tI]⟩ := by kernel_rfl
noncomputable def ct42 : Ct := ⟨42, [.c (.hole (.prod tI (.prod tI (.prod tI (.prod (.list (.prod .str tI)) (.list (.prod tI (.prod tI (.prod tI tI))))))))), hI, hI], hI, fun x => run0 (F42 x.1 x.2.1 x.2.2.1)⟩
theorem ct42_ok : ct42.Ok prog := ct_ok mixed cx42_ok func42 c42_ok (enters_of func42 rfl rfl) dd42 (by kernel_rfl) rfl (fun x => by kernel_rfl)

/- 41 -/
noncomputable def cx41_v1 : Cx := mkCxH [ct42] []
theorem cx41_v1_ok : cx41_v1.Ok prog := mkCxH_ok ⟨ct42_ok, trivial⟩ trivial
@[reducible] def p41_v1_0 : Pat := Pat.mk [(1, .fn 42 [.hole (.prod tI (.prod tI (.prod tI (.prod (.list (.prod .str tI)) (.list (.prod tI (.prod tI (.prod tI tI))))))))] []), (5, .c (.sl0 0 tI)), (13, .c (.hole (.list (.prod tI (.prod tI (.prod tI tI)))))), (14, hI), (15, hI)] [(0, .arr tI false)] [.slot 5] []
@[reducible] def x41_v1_0 : Outs := [(.exit 0, Pat.mk [(5, .c (.sl0 0 tI))] [(0, .arr tI false)] [.slot 5] [])]
noncomputable def b41_v1_0 : D prog 37 none 0 := dO [] (pick (kd prog f41) [(0, false)]) 0
noncomputable def g41_v1_0 : (Int × Int × Int × (List (ByteArray × Int)) × List (Int × Int × Int × Int)) × Nat × (List (Int × Int × Int × Int)) × Int × Int × List Int × Unit → Tr0 (((Int × Int × Int × (List (ByteArray × Int)) × List (Int × Int × Int × Int)) × Nat × (List (Int × Int × Int × Int)) × Int × Int × List Int × Unit) ⊕ ((Nat × List Int × Unit))) := fun (v1_0, nv5, v13, v14, v15, b0, _) =>
 .br (decide (v15 < v14)) (
 .nb v15 (((v13).length : Nat) : Int) <|
 .nb ((v13).getD (Int.toNat v15) ((0 : Int), ((0 : Int), ((0 : Int), (0 : Int))))).1 ((nv5 : Nat) : Int) <|
 .nd (decide (((0 : Nat) + (Int.toNat ((v13).getD (Int.toNat v15) ((0 : Int), ((0 : Int), ((0 : Int), (0 : Int))))).1)) < (b0).length)) <|
 .ni (((v13).getD (Int.toNat v15) ((0 : Int), ((0 : Int), ((0 : Int), (0 : Int))))).2.1 - ((v13).getD (Int.toNat v15) ((0 : Int), ((0 : Int), ((0 : Int), (0 : Int))))).2.2.1) <|
 .bd (F42 (v1_0.1, (v1_0.2.1, (v1_0.2.2.1, (v1_0.2.2.2.1, v1_0.2.2.2.2)))) (((v13).getD (Int.toNat v15) ((0 : Int), ((0 : Int), ((0 : Int), (0 : Int))))).2.1 - ((v13).getD (Int.toNat v15) ((0 : Int), ((0 : Int), ((0 : Int), (0 : Int))))).2.2.1) ((v13).getD (Int.toNat v15) ((0 : Int), ((0 : Int), ((0 : Int), (0 : Int))))).2.2.2) fun y0 =>
 .ni (((b0).getD ((0 : Nat) + (Int.toNat ((v13).getD (Int.toNat v15) ((0 : Int), ((0 : Int), ((0 : Int), (0 : Int))))).1)) (0 : Int)) + y0.1) <|
 .nb ((v13).getD (Int.toNat v15) ((0 : Int), ((0 : Int), ((0 : Int), (0 : Int))))).1 ((nv5 : Nat) : Int) <|
 .nd (decide (((0 : Nat) + (Int.toNat ((v13).getD (Int.toNat v15) ((0 : Int), ((0 : Int), ((0 : Int), (0 : Int))))).1)) < (b0).length)) <|
 .ni (v15 + (1 : Int)) <|
 .ret (.inl ((v1_0.1, (v1_0.2.1, (v1_0.2.2.1, (v1_0.2.2.2.1, v1_0.2.2.2.2)))), (nv5, (v13, (v14, ((v15 + (1 : Int)), (((b0).set ((0 : Nat) + (Int.toNat ((v13).getD (Int.toNat v15) ((0 : Int), ((0 : Int), ((0 : Int), (0 : Int))))).1)) (((b0).getD ((0 : Nat) + (Int.toNat ((v13).getD (Int.toNat v15) ((0 : Int), ((0 : Int), ((0 : Int), (0 : Int))))).1)) (0 : Int)) + y0.1)), ())))))))) (
 .ret (.inr (nv5, (b0, ()))))
theorem s41_v1_0 : ∀ x, roundE (kzO (p41_v1_0.T ⊕ x41_v1_0.T)) cx41_v1 ar0 [] p41_v1_0 x41_v1_0 (b41_v1_0) (fun y => some (.inl y)) (fun b => some (.inr b)) x = run0 (g41_v1_0 x) := fun x => by kernel_rfl
noncomputable def L41_v1_0 : LoopS prog 37 none 0 := mkLoop mixed cx41_v1 cx41_v1_ok [] rfl p41_v1_0 x41_v1_0 rfl (b41_v1_0) (fun x => run0 (g41_v1_0 x)) (s41_v1_0)
noncomputable def dd41_v1 : D prog 37 none 0 := dO [.l L41_v1_0] (kd prog f41) 0
noncomputable def F41_v1 (a0 : Int × Int × Int × (List (ByteArray × Int)) × List (Int × Int × Int × Int)) (a1_0 : Int × Int × Int × (List (ByteArray × Int)) × List (Int × Int × Int × Int)) : Tr0 (List Int × Unit) :=
 .nb (((a0.2.2.2.1).length : Nat) : Int) ((bigL : Nat) : Int) <|
 .bd (.it g41_v1_0 ((a1_0.1, (a1_0.2.1, (a1_0.2.2.1, (a1_0.2.2.2.1, a1_0.2.2.2.2)))), ((Int.toNat (((a0.2.2.2.1).length : Nat) : Int)), (a0.2.2.2.2, ((((a0.2.2.2.2).length : Nat) : Int), ((0 : Int), ((List.replicate (Int.toNat (((a0.2.2.2.1).length : Nat) : Int)) (0 : Int)), ()))))))) fun z1 =>
 .ret ((((z1.2.1).drop (0 : Nat)).take z1.1), ())
theorem c41_v1_ok : trF prog f41 = some ⟨37, 2, dd41_v1.er, [.t 4], [some tL]⟩ := by kernel_rfl
noncomputable def ct41_v1 : Ct := ⟨41, [.c (.hole (.prod tI (.prod tI (.prod tI (.prod (.list (.prod .str tI)) (.list (.prod tI (.prod tI (.prod tI tI))))))))), .fn 42 [.hole (.prod tI (.prod tI (.prod tI (.prod (.list (.prod .str tI)) (.list (.prod tI (.prod tI (.prod tI tI))))))))] []], hL, fun x => run0 (F41_v1 x.1 x.2.1)⟩
theorem ct41_v1_ok : ct41_v1.Ok prog := ct_ok mixed cx41_v1_ok func41 c41_v1_ok (enters_of func41 rfl rfl) dd41_v1 (by kernel_rfl) rfl (fun x => by kernel_rfl)

/- 43 -/
noncomputable def cx43 : Cx := mkCxH [] []
theorem cx43_ok : cx43.Ok prog := mkCxH_ok trivial trivial
noncomputable def dd43 : D prog 18 none 0 := dO [] (kd prog f43) 0
noncomputable def F43 (a0 : Int × Int × Int × (List (ByteArray × Int)) × List (Int × Int × Int × Int)) (a1 : Int) (a2 : Int) : Tr0 (Int × Unit) :=
 .ni ((2 : Int) * a0.2.1) <|
 .ni (a1 + ((2 : Int) * a0.2.1)) <|
 .ni (a2 + a0.2.2.1) <|
 .ni ((a1 + ((2 : Int) * a0.2.1)) * (imin (1000 : Int) (a2 + a0.2.2.1))) <|
 .ret (((a1 + ((2 : Int) * a0.2.1)) * (imin (1000 : Int) (a2 + a0.2.2.1))), ())
theorem c43_ok : trF prog f43 = some ⟨18, 3, dd43.er, [.t 6], [some tI]⟩ := by kernel_rfl
noncomputable def ct43 : Ct := ⟨43, [.c (.hole (.prod tI (.prod tI (.prod tI (.prod (.list (.prod .str tI)) (.list (.prod tI (.prod tI (.prod tI tI))))))))), hI, hI], hI, fun x => run0 (F43 x.1 x.2.1 x.2.2.1)⟩
theorem ct43_ok : ct43.Ok prog := ct_ok mixed cx43_ok func43 c43_ok (enters_of func43 rfl rfl) dd43 (by kernel_rfl) rfl (fun x => by kernel_rfl)

/- 41 -/
noncomputable def cx41_v2 : Cx := mkCxH [ct43] []
theorem cx41_v2_ok : cx41_v2.Ok prog := mkCxH_ok ⟨ct43_ok, trivial⟩ trivial
@[reducible] def p41_v2_0 : Pat := Pat.mk [(1, .fn 43 [.hole (.prod tI (.prod tI (.prod tI (.prod (.list (.prod .str tI)) (.list (.prod tI (.prod tI (.prod tI tI))))))))] []), (5, .c (.sl0 0 tI)), (13, .c (.hole (.list (.prod tI (.prod tI (.prod tI tI)))))), (14, hI), (15, hI)] [(0, .arr tI false)] [.slot 5] []
@[reducible] def x41_v2_0 : Outs := [(.exit 0, Pat.mk [(5, .c (.sl0 0 tI))] [(0, .arr tI false)] [.slot 5] [])]
noncomputable def b41_v2_0 : D prog 37 none 0 := dO [] (pick (kd prog f41) [(0, false)]) 0
noncomputable def g41_v2_0 : (Int × Int × Int × (List (ByteArray × Int)) × List (Int × Int × Int × Int)) × Nat × (List (Int × Int × Int × Int)) × Int × Int × List Int × Unit → Tr0 (((Int × Int × Int × (List (ByteArray × Int)) × List (Int × Int × Int × Int)) × Nat × (List (Int × Int × Int × Int)) × Int × Int × List Int × Unit) ⊕ ((Nat × List Int × Unit))) := fun (v1_0, nv5, v13, v14, v15, b0, _) =>
 .br (decide (v15 < v14)) (
 .nb v15 (((v13).length : Nat) : Int) <|
 .nb ((v13).getD (Int.toNat v15) ((0 : Int), ((0 : Int), ((0 : Int), (0 : Int))))).1 ((nv5 : Nat) : Int) <|
 .nd (decide (((0 : Nat) + (Int.toNat ((v13).getD (Int.toNat v15) ((0 : Int), ((0 : Int), ((0 : Int), (0 : Int))))).1)) < (b0).length)) <|
 .ni (((v13).getD (Int.toNat v15) ((0 : Int), ((0 : Int), ((0 : Int), (0 : Int))))).2.1 - ((v13).getD (Int.toNat v15) ((0 : Int), ((0 : Int), ((0 : Int), (0 : Int))))).2.2.1) <|
 .bd (F43 (v1_0.1, (v1_0.2.1, (v1_0.2.2.1, (v1_0.2.2.2.1, v1_0.2.2.2.2)))) (((v13).getD (Int.toNat v15) ((0 : Int), ((0 : Int), ((0 : Int), (0 : Int))))).2.1 - ((v13).getD (Int.toNat v15) ((0 : Int), ((0 : Int), ((0 : Int), (0 : Int))))).2.2.1) ((v13).getD (Int.toNat v15) ((0 : Int), ((0 : Int), ((0 : Int), (0 : Int))))).2.2.2) fun y0 =>
 .ni (((b0).getD ((0 : Nat) + (Int.toNat ((v13).getD (Int.toNat v15) ((0 : Int), ((0 : Int), ((0 : Int), (0 : Int))))).1)) (0 : Int)) + y0.1) <|
 .nb ((v13).getD (Int.toNat v15) ((0 : Int), ((0 : Int), ((0 : Int), (0 : Int))))).1 ((nv5 : Nat) : Int) <|
 .nd (decide (((0 : Nat) + (Int.toNat ((v13).getD (Int.toNat v15) ((0 : Int), ((0 : Int), ((0 : Int), (0 : Int))))).1)) < (b0).length)) <|
 .ni (v15 + (1 : Int)) <|
 .ret (.inl ((v1_0.1, (v1_0.2.1, (v1_0.2.2.1, (v1_0.2.2.2.1, v1_0.2.2.2.2)))), (nv5, (v13, (v14, ((v15 + (1 : Int)), (((b0).set ((0 : Nat) + (Int.toNat ((v13).getD (Int.toNat v15) ((0 : Int), ((0 : Int), ((0 : Int), (0 : Int))))).1)) (((b0).getD ((0 : Nat) + (Int.toNat ((v13).getD (Int.toNat v15) ((0 : Int), ((0 : Int), ((0 : Int), (0 : Int))))).1)) (0 : Int)) + y0.1)), ())))))))) (
 .ret (.inr (nv5, (b0, ()))))
theorem s41_v2_0 : ∀ x, roundE (kzO (p41_v2_0.T ⊕ x41_v2_0.T)) cx41_v2 ar0 [] p41_v2_0 x41_v2_0 (b41_v2_0) (fun y => some (.inl y)) (fun b => some (.inr b)) x = run0 (g41_v2_0 x) := fun x => by kernel_rfl
noncomputable def L41_v2_0 : LoopS prog 37 none 0 := mkLoop mixed cx41_v2 cx41_v2_ok [] rfl p41_v2_0 x41_v2_0 rfl (b41_v2_0) (fun x => run0 (g41_v2_0 x)) (s41_v2_0)
noncomputable def dd41_v2 : D prog 37 none 0 := dO [.l L41_v2_0] (kd prog f41) 0
noncomputable def F41_v2 (a0 : Int × Int × Int × (List (ByteArray × Int)) × List (Int × Int × Int × Int)) (a1_0 : Int × Int × Int × (List (ByteArray × Int)) × List (Int × Int × Int × Int)) : Tr0 (List Int × Unit) :=
 .nb (((a0.2.2.2.1).length : Nat) : Int) ((bigL : Nat) : Int) <|
 .bd (.it g41_v2_0 ((a1_0.1, (a1_0.2.1, (a1_0.2.2.1, (a1_0.2.2.2.1, a1_0.2.2.2.2)))), ((Int.toNat (((a0.2.2.2.1).length : Nat) : Int)), (a0.2.2.2.2, ((((a0.2.2.2.2).length : Nat) : Int), ((0 : Int), ((List.replicate (Int.toNat (((a0.2.2.2.1).length : Nat) : Int)) (0 : Int)), ()))))))) fun z1 =>
 .ret ((((z1.2.1).drop (0 : Nat)).take z1.1), ())
theorem c41_v2_ok : trF prog f41 = some ⟨37, 2, dd41_v2.er, [.t 4], [some tL]⟩ := by kernel_rfl
noncomputable def ct41_v2 : Ct := ⟨41, [.c (.hole (.prod tI (.prod tI (.prod tI (.prod (.list (.prod .str tI)) (.list (.prod tI (.prod tI (.prod tI tI))))))))), .fn 43 [.hole (.prod tI (.prod tI (.prod tI (.prod (.list (.prod .str tI)) (.list (.prod tI (.prod tI (.prod tI tI))))))))] []], hL, fun x => run0 (F41_v2 x.1 x.2.1)⟩
theorem ct41_v2_ok : ct41_v2.Ok prog := ct_ok mixed cx41_v2_ok func41 c41_v2_ok (enters_of func41 rfl rfl) dd41_v2 (by kernel_rfl) rfl (fun x => by kernel_rfl)

/- 17 -/
noncomputable def cx17 : Cx := mkCxH [ct22, ct41_v1, ct41_v2, ct41] []
theorem cx17_ok : cx17.Ok prog := mkCxH_ok ⟨ct22_ok, ct41_v1_ok, ct41_v2_ok, ct41_ok, trivial⟩ trivial
@[reducible] def p17_0 : Pat := Pat.mk [(1, .c (.ptr 0 0)), (3, .c (.sl0 1 (.prod tI tI))), (6, hL), (7, hL), (23, hI), (24, hI)] [(0, .cells [.hole tI, .hole tI, .hole tI, .hole (.list (.prod .str tI)), .hole (.list (.prod tI (.prod tI (.prod tI tI))))] false), (1, .arr (.prod tI tI) false)] [.slot 1, .slot 3] []
@[reducible] def x17_0 : Outs := [(.exit 0, Pat.mk [(1, .c (.ptr 0 0)), (3, .c (.sl0 1 (.prod tI tI)))] [(0, .cells [.hole tI, .hole tI, .hole tI, .hole (.list (.prod .str tI)), .hole (.list (.prod tI (.prod tI (.prod tI tI))))] false), (1, .arr (.prod tI tI) false)] [.slot 1, .slot 3] [])]
noncomputable def b17_0 : D prog 43 none 0 := dO [] (pick (kd prog f17) [(0, false)]) 0
noncomputable def g17_0 : Nat × List Int × List Int × Int × Int × Int × Int × Int × (List (ByteArray × Int)) × (List (Int × Int × Int × Int)) × (List (Int × Int)) × Unit → Tr0 ((Nat × List Int × List Int × Int × Int × Int × Int × Int × (List (ByteArray × Int)) × (List (Int × Int × Int × Int)) × (List (Int × Int)) × Unit) ⊕ ((Nat × Int × Int × Int × (List (ByteArray × Int)) × (List (Int × Int × Int × Int)) × (List (Int × Int)) × Unit))) := fun (nv3, v6, v7, v23, v24, c0_0, c0_1, c0_2, c0_3, c0_4, b1, _) =>
 .br (decide (v24 < v23)) (
 .nb v24 (((v6).length : Nat) : Int) <|
 .nb v24 (((v7).length : Nat) : Int) <|
 .nd (decide ((nv3 + ((((((((v6).getD (Int.toNat v24) (0 : Int)), ((v7).getD (Int.toNat v24) (0 : Int))) :: [])).drop (0 : Nat)).take (1 : Nat))).length) < bigL)) <|
 .ni (v24 + (1 : Int)) <|
 .ret (.inl ((nv3 + ((((((((v6).getD (Int.toNat v24) (0 : Int)), ((v7).getD (Int.toNat v24) (0 : Int))) :: [])).drop (0 : Nat)).take (1 : Nat))).length), (v6, (v7, (v23, ((v24 + (1 : Int)), (c0_0, (c0_1, (c0_2, (c0_3, (c0_4, (((((b1).drop (0 : Nat)).take nv3) ++ (((((((v6).getD (Int.toNat v24) (0 : Int)), ((v7).getD (Int.toNat v24) (0 : Int))) :: [])).drop (0 : Nat)).take (1 : Nat))), ()))))))))))))) (
 .ret (.inr (nv3, (c0_0, (c0_1, (c0_2, (c0_3, (c0_4, (b1, ())))))))))
theorem s17_0 : ∀ x, roundE (kzO (p17_0.T ⊕ x17_0.T)) cx17 ar0 [] p17_0 x17_0 (b17_0) (fun y => some (.inl y)) (fun b => some (.inr b)) x = run0 (g17_0 x) := fun x => by kernel_rfl
noncomputable def L17_0 : LoopS prog 43 none 0 := mkLoop mixed cx17 cx17_ok [] rfl p17_0 x17_0 rfl (b17_0) (fun x => run0 (g17_0 x)) (s17_0)
noncomputable def dd17 : D prog 43 none 0 := dO [.l L17_0] (kd prog f17) 0
noncomputable def F17 (a0 : Int × Int × Int × (List (ByteArray × Int)) × List (Int × Int × Int × Int)) : Tr0 (List Int × (List (Int × Int)) × Int × Unit) :=
 .bd (F22 (a0.1, (a0.2.1, (a0.2.2.1, (a0.2.2.2.1, a0.2.2.2.2))))) fun y0 =>
 .br (!(y0.1 == (0 : Int))) (
 .ret ([], ([], (y0.1, ())))) (
 .bd (F41_v1 (a0.1, (a0.2.1, (a0.2.2.1, (a0.2.2.2.1, a0.2.2.2.2)))) (a0.1, (a0.2.1, (a0.2.2.1, (a0.2.2.2.1, a0.2.2.2.2))))) fun y1 =>
 .bd (F41_v2 (a0.1, (a0.2.1, (a0.2.2.1, (a0.2.2.2.1, a0.2.2.2.2)))) (a0.1, (a0.2.1, (a0.2.2.1, (a0.2.2.2.1, a0.2.2.2.2))))) fun y2 =>
 .bd (.it g17_0 ((0 : Nat), (y1.1, (y2.1, ((((y1.1).length : Nat) : Int), ((0 : Int), (a0.1, (a0.2.1, (a0.2.2.1, (a0.2.2.2.1, (a0.2.2.2.2, ([], ())))))))))))) fun z3 =>
 .bd (F41 (z3.2.1, (z3.2.2.1, (z3.2.2.2.1, (z3.2.2.2.2.1, z3.2.2.2.2.2.1))))) fun y4 =>
 .ret (y4.1, ((((z3.2.2.2.2.2.2.1).drop (0 : Nat)).take z3.1), ((0 : Int), ()))))
theorem c17_ok : trF prog f17 = some ⟨43, 1, dd17.er, [.t 2, .t 3, .t 4], [some tL, some (.list (.prod tI tI)), some tI]⟩ := by kernel_rfl
noncomputable def ct17 : Ct := ⟨17, [.c (.hole (.prod tI (.prod tI (.prod tI (.prod (.list (.prod .str tI)) (.list (.prod tI (.prod tI (.prod tI tI)))))))))], .tup [.hole tL, .hole (.list (.prod tI tI)), .hole tI], fun x => run0 (F17 x.1)⟩
theorem ct17_ok : ct17.Ok prog := ct_ok mixed cx17_ok func17 c17_ok (enters_of func17 rfl rfl) dd17 (by kernel_rfl) rfl (fun x => by kernel_rfl)

/- 24 -/
noncomputable def cx24 : Cx := mkCxH [ct22, ct41, ct51, ct52] []
theorem cx24_ok : cx24.Ok prog := mkCxH_ok ⟨ct22_ok, ct41_ok, ct51_ok, ct52_ok, trivial⟩ trivial
noncomputable def dd24 : D prog 21 none 0 := dO [] (kd prog f24) 0
noncomputable def F24 (a0 : Int × Int × Int × (List (ByteArray × Int)) × List (Int × Int × Int × Int)) : Tr0 (Int × Int × Int × Unit) :=
 .bd (F22 (a0.1, (a0.2.1, (a0.2.2.1, (a0.2.2.2.1, a0.2.2.2.2))))) fun y0 =>
 .br (!(y0.1 == (0 : Int))) (
 .ret ((0 : Int), ((0 : Int), (y0.1, ())))) (
 .bd (F41 (a0.1, (a0.2.1, (a0.2.2.1, (a0.2.2.2.1, a0.2.2.2.2))))) fun y1 =>
 .bd (F51 (a0.1, (a0.2.1, (a0.2.2.1, (a0.2.2.2.1, a0.2.2.2.2)))) y1.1) fun y2 =>
 .bd (F52 (y2.1.1, y2.1.2)) fun y3 =>
 .ret (y3.1.1, (y3.1.2, ((0 : Int), ()))))
theorem c24_ok : trF prog f24 = some ⟨21, 1, dd24.er, [.t 2, .t 3, .t 4], [some tI, some tI, some tI]⟩ := by kernel_rfl
noncomputable def ct24 : Ct := ⟨24, [.c (.hole (.prod tI (.prod tI (.prod tI (.prod (.list (.prod .str tI)) (.list (.prod tI (.prod tI (.prod tI tI)))))))))], .tup [.hole tI, .hole tI, .hole tI], fun x => run0 (F24 x.1)⟩
theorem ct24_ok : ct24.Ok prog := ct_ok mixed cx24_ok func24 c24_ok (enters_of func24 rfl rfl) dd24 (by kernel_rfl) rfl (fun x => by kernel_rfl)

/- 64, lent -/
@[reducible] def pH64 : Pat := Pat.mk [(0, hL)] [] [] []
@[reducible] def qH64 : Pat := Pat.mk [(0, .c (.sl0 0 tI))] [(0, .arr tI false)] [.slot 0] []
noncomputable def cxH64 : Cx := mkCxH [] []
theorem cxH64_ok : cxH64.Ok prog := mkCxH_ok trivial trivial
noncomputable def ddH64 : D prog 8 none 0 := dO [] (kd prog f64) 0
noncomputable def FH64 (v0 : List Int) : Tr0 (Nat × List Int × Unit) :=
 .br ((((v0).length : Nat) : Int) == (0 : Int)) (
 .am inferInstance (
 .ret ((0 : Nat), ([], ()))) (
 .nd (decide (((0 : Nat) + (v0).length) < bigL)) <|
 .ret (((0 : Nat) + (v0).length), ((((([]).drop (0 : Nat)).take (0 : Nat)) ++ v0), ())))) (
 .nd (decide (((0 : Nat) + (v0).length) < bigL)) <|
 .ret (((0 : Nat) + (v0).length), ((((([]).drop (0 : Nat)).take (0 : Nat)) ++ v0), ())))
theorem cH64_ok : trF prog f64 = some ⟨8, 1, ddH64.er, [.t 2], [some tL]⟩ := by kernel_rfl
noncomputable def ht64 : Ht := ⟨64, pH64, qH64, (fun x => run0 (FH64 x.1))⟩
theorem ht64_ok : ht64.Ok prog := ht_ok mixed cxH64_ok rfl func64 cH64_ok (enters_of func64 rfl rfl) ddH64 (by kernel_rfl) rfl rfl ⟨_, rfl⟩ rfl (pre := []) rfl (fun x => by kernel_rfl)

/- 63 -/
noncomputable def cx63 : Cx := mkCxH [ct51, ct52, ct54] [ht64]
theorem cx63_ok : cx63.Ok prog := mkCxH_ok ⟨ct51_ok, ct52_ok, ct54_ok, trivial⟩ ⟨⟨ht64_ok, rfl⟩, trivial⟩
noncomputable def dd63 : D prog 33 none 0 := dO [] (kd prog f63) 0
noncomputable def F63 (a0 : Int) (a1 : List Int) (a2 : List Int) (a3 : Int × Int × Int × (List (ByteArray × Int)) × List (Int × Int × Int × Int)) : Tr0 (Int × Int × Unit) :=
 .bd (FH64 a2) fun y0 =>
 .nb a0 (((a1).length : Nat) : Int) <|
 .nb a0 ((y0.1 : Nat) : Int) <|
 .nd (decide (((0 : Nat) + (Int.toNat a0)) < (y0.2.1).length)) <|
 .bd (F51 (a3.1, (a3.2.1, (a3.2.2.1, (a3.2.2.2.1, a3.2.2.2.2)))) (((((y0.2.1).set ((0 : Nat) + (Int.toNat a0)) ((a1).getD (Int.toNat a0) (0 : Int)))).drop (0 : Nat)).take y0.1)) fun y1 =>
 .nb a0 (((y1.1.1).length : Nat) : Int) <|
 .bd (F52 (y1.1.1, y1.1.2)) fun y2 =>
 .bd (F54 (((y1.1.1).getD (Int.toNat a0) (((bs []), (0 : Int)), ((0 : Int), (0 : Int)))).1.1, (((y1.1.1).getD (Int.toNat a0) (((bs []), (0 : Int)), ((0 : Int), (0 : Int)))).1.2, (((y1.1.1).getD (Int.toNat a0) (((bs []), (0 : Int)), ((0 : Int), (0 : Int)))).2.1, ((y1.1.1).getD (Int.toNat a0) (((bs []), (0 : Int)), ((0 : Int), (0 : Int)))).2.2))) (y2.1.1, y2.1.2)) fun y3 =>
 .ret (y3.1, (y3.2.1, ()))
theorem c63_ok : trF prog f63 = some ⟨33, 4, dd63.er, [.t 7, .t 8], [some tI, some tI]⟩ := by kernel_rfl
noncomputable def ct63 : Ct := ⟨63, [hI, hL, hL, .c (.ipc (.prod tI (.prod tI (.prod tI (.prod (.list (.prod .str tI)) (.list (.prod tI (.prod tI (.prod tI tI)))))))))], .tup [.hole tI, .hole tI], fun x => run0 (F63 x.1 x.2.1 x.2.2.1 x.2.2.2.1)⟩
theorem ct63_ok : ct63.Ok prog := ct_ok mixed cx63_ok func63 c63_ok (enters_of func63 rfl rfl) dd63 (by kernel_rfl) rfl (fun x => by kernel_rfl)

/- 30 -/
noncomputable def cx30 : Cx := mkCxH [ct22, ct41_v1, ct41_v2, ct63] []
theorem cx30_ok : cx30.Ok prog := mkCxH_ok ⟨ct22_ok, ct41_v1_ok, ct41_v2_ok, ct63_ok, trivial⟩ trivial
@[reducible] def p30_0 : Pat := Pat.mk [(5, hL), (6, hL), (7, .fn 63 [] [.ptr 0 0]), (8, .c (.sl0 1 (.prod tI tI))), (30, hI), (31, hI)] [(0, .cells [.hole tI, .hole tI, .hole tI, .hole (.list (.prod .str tI)), .hole (.list (.prod tI (.prod tI (.prod tI tI))))] false), (1, .arr (.prod tI tI) false)] [.part 7 0, .slot 8] []
@[reducible] def x30_0 : Outs := [(.exit 0, Pat.mk [(8, .c (.sl0 0 (.prod tI tI)))] [(0, .arr (.prod tI tI) false)] [.slot 8] [])]
noncomputable def b30_0 : D prog 61 none 0 := dO [] (pick (kd prog f30) [(0, false)]) 0
noncomputable def g30_0 : List Int × List Int × Nat × Int × Int × Int × Int × Int × (List (ByteArray × Int)) × (List (Int × Int × Int × Int)) × (List (Int × Int)) × Unit → Tr0 ((List Int × List Int × Nat × Int × Int × Int × Int × Int × (List (ByteArray × Int)) × (List (Int × Int × Int × Int)) × (List (Int × Int)) × Unit) ⊕ ((Nat × (List (Int × Int)) × Unit))) := fun (v5, v6, nv8, v30, v31, c0_0, c0_1, c0_2, c0_3, c0_4, b1, _) =>
 .br (decide (v31 < v30)) (
 .bd (F63 v31 v5 v6 (c0_0, (c0_1, (c0_2, (c0_3, c0_4))))) fun y3 =>
 .bd (F63 v31 v6 v5 (c0_0, (c0_1, (c0_2, (c0_3, c0_4))))) fun y4 =>
 .ni (y4.1 + (imin y4.2.1 (1 : Int))) <|
 .nd (decide ((nv8 + ((((((y3.1, (y4.1 + (imin y4.2.1 (1 : Int)))) :: [])).drop (0 : Nat)).take (1 : Nat))).length) < bigL)) <|
 .ni (v31 + (1 : Int)) <|
 .ret (.inl (v5, (v6, ((nv8 + ((((((y3.1, (y4.1 + (imin y4.2.1 (1 : Int)))) :: [])).drop (0 : Nat)).take (1 : Nat))).length), (v30, ((v31 + (1 : Int)), (c0_0, (c0_1, (c0_2, (c0_3, (c0_4, (((((b1).drop (0 : Nat)).take nv8) ++ (((((y3.1, (y4.1 + (imin y4.2.1 (1 : Int)))) :: [])).drop (0 : Nat)).take (1 : Nat))), ()))))))))))))) (
 .ret (.inr (nv8, (b1, ()))))
theorem s30_0 : ∀ x, roundE (kzO (p30_0.T ⊕ x30_0.T)) cx30 ar0 [] p30_0 x30_0 (b30_0) (fun y => some (.inl y)) (fun b => some (.inr b)) x = run0 (g30_0 x) := fun x => by kernel_rfl
noncomputable def L30_0 : LoopS prog 61 none 0 := mkLoop mixed cx30 cx30_ok [] rfl p30_0 x30_0 rfl (b30_0) (fun x => run0 (g30_0 x)) (s30_0)
noncomputable def dd30 : D prog 61 none 0 := dO [.l L30_0] (kd prog f30) 0
noncomputable def F30 (a0 : Int × Int × Int × (List (ByteArray × Int)) × List (Int × Int × Int × Int)) : Tr0 ((List (Int × Int)) × Int × Unit) :=
 .bd (F22 (a0.1, (a0.2.1, (a0.2.2.1, (a0.2.2.2.1, a0.2.2.2.2))))) fun y0 =>
 .br (!(y0.1 == (0 : Int))) (
 .ret ([], (y0.1, ()))) (
 .bd (F41_v1 (a0.1, (a0.2.1, (a0.2.2.1, (a0.2.2.2.1, a0.2.2.2.2)))) (a0.1, (a0.2.1, (a0.2.2.1, (a0.2.2.2.1, a0.2.2.2.2))))) fun y1 =>
 .bd (F41_v2 (a0.1, (a0.2.1, (a0.2.2.1, (a0.2.2.2.1, a0.2.2.2.2)))) (a0.1, (a0.2.1, (a0.2.2.1, (a0.2.2.2.1, a0.2.2.2.2))))) fun y2 =>
 .bd (.it g30_0 (y1.1, (y2.1, ((0 : Nat), ((((a0.2.2.2.1).length : Nat) : Int), ((0 : Int), (a0.1, (a0.2.1, (a0.2.2.1, (a0.2.2.2.1, (a0.2.2.2.2, ([], ())))))))))))) fun z5 =>
 .ret ((((z5.2.1).drop (0 : Nat)).take z5.1), ((0 : Int), ())))
theorem c30_ok : trF prog f30 = some ⟨61, 1, dd30.er, [.t 2, .t 3], [some (.list (.prod tI tI)), some tI]⟩ := by kernel_rfl
noncomputable def ct30 : Ct := ⟨30, [.c (.hole (.prod tI (.prod tI (.prod tI (.prod (.list (.prod .str tI)) (.list (.prod tI (.prod tI (.prod tI tI)))))))))], .tup [.hole (.list (.prod tI tI)), .hole tI], fun x => run0 (F30 x.1)⟩
theorem ct30_ok : ct30.Ok prog := ct_ok mixed cx30_ok func30 c30_ok (enters_of func30 rfl rfl) dd30 (by kernel_rfl) rfl (fun x => by kernel_rfl)

/- 21 -/
noncomputable def cx21 : Cx := mkCxH [] []
theorem cx21_ok : cx21.Ok prog := mkCxH_ok trivial trivial
@[reducible] def p21_0 : Pat := Pat.mk [(0, .c (.hole (.list (.prod tI tI)))), (1, .c (.hole (.list (.prod tI tI)))), (5, hI)] [] [] []
@[reducible] def x21_0 : Outs := [(.ret, Pat.mk [(4, .c (.tf false))] [] [] []), (.exit 0, Pat.mk [] [] [] [])]
noncomputable def b21_0 : D prog 26 none 0 := dO [] (pick (kd prog f21) [(0, false)]) 0
noncomputable def g21_0 : (List (Int × Int)) × (List (Int × Int)) × Int × Unit → Tr0 (((List (Int × Int)) × (List (Int × Int)) × Int × Unit) ⊕ ((Unit) ⊕ ((Unit)))) := fun (v0, v1, v5, _) =>
 .br (decide (v5 < (((v0).length : Nat) : Int))) (
 .nb v5 (((v0).length : Nat) : Int) <|
 .nb v5 (((v1).length : Nat) : Int) <|
 .br (!((((v0).getD (Int.toNat v5) ((0 : Int), (0 : Int))).1 == ((v1).getD (Int.toNat v5) ((0 : Int), (0 : Int))).1) && ((((v0).getD (Int.toNat v5) ((0 : Int), (0 : Int))).2 == ((v1).getD (Int.toNat v5) ((0 : Int), (0 : Int))).2) && true))) (
 .ret (.inr <| .inl <| ())) (
 .ni (v5 + (1 : Int)) <|
 .ret (.inl (v0, (v1, ((v5 + (1 : Int)), ())))))) (
 .ret (.inr <| .inr <| ()))
theorem s21_0 : ∀ x, roundE (kzO (p21_0.T ⊕ x21_0.T)) cx21 ar0 [] p21_0 x21_0 (b21_0) (fun y => some (.inl y)) (fun b => some (.inr b)) x = run0 (g21_0 x) := fun x => by kernel_rfl
noncomputable def L21_0 : LoopS prog 26 none 0 := mkLoop mixed cx21 cx21_ok [] rfl p21_0 x21_0 rfl (b21_0) (fun x => run0 (g21_0 x)) (s21_0)
noncomputable def dd21 : D prog 26 none 0 := dO [.l L21_0] (kd prog f21) 0
noncomputable def F21 (a0 : List (Int × Int)) (a1 : List (Int × Int)) : Tr0 (Bool × Unit) :=
 .br (!((((a0).length : Nat) : Int) == (((a1).length : Nat) : Int))) (
 .ret (false, ())) (
 .bd (.it g21_0 (a0, (a1, ((0 : Int), ())))) fun z0 =>
 .sm z0 (fun z1 =>
 .ret (false, ())) fun z2 =>
 .ret (true, ()))
theorem c21_ok : trF prog f21 = some ⟨26, 2, dd21.er, [.t 4], [some .bool]⟩ := by kernel_rfl
noncomputable def ct21 : Ct := ⟨21, [.c (.hole (.list (.prod tI tI))), .c (.hole (.list (.prod tI tI)))], .c (.hole .bool), fun x => run0 (F21 x.1 x.2.1)⟩
theorem ct21_ok : ct21.Ok prog := ct_ok mixed cx21_ok func21 c21_ok (enters_of func21 rfl rfl) dd21 (by kernel_rfl) rfl (fun x => by kernel_rfl)

/- 16 -/
noncomputable def cx16 : Cx := mkCxH [ct40, ct17, ct24, ct26, ct30, ct28, ct20, ct21, ct32] []
theorem cx16_ok : cx16.Ok prog := mkCxH_ok ⟨ct40_ok, ct17_ok, ct24_ok, ct26_ok, ct30_ok, ct28_ok, ct20_ok, ct21_ok, ct32_ok, trivial⟩ trivial
noncomputable def dd16 : D prog 140 none 0 := dO [] (kd prog f16) 0
noncomputable def F16 : Tr0 (Bool × Unit) :=
 .bd (F40 (10000 : Int) (10 : Int) (4000 : Int)) fun y0 =>
 .bd (F17 (y0.1.1, (y0.1.2.1, (y0.1.2.2.1, (y0.1.2.2.2.1, y0.1.2.2.2.2))))) fun y1 =>
 .bd (F40 (10000 : Int) (0 : Int) (4000 : Int)) fun y2 =>
 .bd (F24 (y2.1.1, (y2.1.2.1, (y2.1.2.2.1, (y2.1.2.2.2.1, y2.1.2.2.2.2))))) fun y3 =>
 .bd (F40 (10000 : Int) (0 : Int) (4000 : Int)) fun y4 =>
 .bd (F26 (y4.1.1, (y4.1.2.1, (y4.1.2.2.1, (y4.1.2.2.2.1, y4.1.2.2.2.2))))) fun y5 =>
 .bd (F40 (10001 : Int) (0 : Int) (10000 : Int)) fun y6 =>
 .bd (F26 (y6.1.1, (y6.1.2.1, (y6.1.2.2.1, (y6.1.2.2.2.1, y6.1.2.2.2.2))))) fun y7 =>
 .bd (F40 (10000 : Int) (10 : Int) (4000 : Int)) fun y8 =>
 .bd (F30 (y8.1.1, (y8.1.2.1, (y8.1.2.2.1, (y8.1.2.2.2.1, y8.1.2.2.2.2))))) fun y9 =>
 .bd (F40 (30000 : Int) (0 : Int) (4000 : Int)) fun y10 =>
 .bd (F26 (y10.1.1, (y10.1.2.1, (y10.1.2.2.1, (y10.1.2.2.2.1, y10.1.2.2.2.2))))) fun y11 =>
 .bd (F40 (30000 : Int) (0 : Int) (4000 : Int)) fun y12 =>
 .bd (F28 (y12.1.1, (y12.1.2.1, (y12.1.2.2.1, (y12.1.2.2.2.1, y12.1.2.2.2.2))))) fun y13 =>
 .br (!(y1.2.2.1 == (0 : Int))) (
 .ret (false, ())) (
 .br (!(y3.2.2.1 == (0 : Int))) (
 .ret (false, ())) (
 .br (!(y5.2.1 == (0 : Int))) (
 .ret (false, ())) (
 .br (!(y7.2.1 == (0 : Int))) (
 .ret (false, ())) (
 .br (!(y9.2.1 == (0 : Int))) (
 .ret (false, ())) (
 .br (!(y11.2.1 == (0 : Int))) (
 .ret (false, ())) (
 .br (!(y13.2.1 == (0 : Int))) (
 .ret (false, ())) (
 .bd (F20 y1.1 (((((30000 : Int) :: ((20000 : Int) :: ((10000 : Int) :: [])))).drop (0 : Nat)).take (3 : Nat))) fun y14 =>
 .br (!y14.1) (
 .ret (false, ())) (
 .bd (F21 y1.2.1 ((((((25200 : Int), (35200 : Int)) :: (((16200 : Int), (24200 : Int)) :: (((7200 : Int), (13200 : Int)) :: [])))).drop (0 : Nat)).take (3 : Nat))) fun y15 =>
 .br (!y15.1) (
 .ret (false, ())) (
 .br (!(y3.1 == (1 : Int))) (
 .ret (false, ())) (
 .br (!(y3.2.1 == (5 : Int))) (
 .ret (false, ())) (
 .bd (F20 y5.1 (((((4000 : Int) :: ((4000 : Int) :: ((2000 : Int) :: [])))).drop (0 : Nat)).take (3 : Nat))) fun y16 =>
 .br y16.1 (
 .bd (F20 y7.1 (((((5000 : Int) :: ((3334 : Int) :: ((1667 : Int) :: [])))).drop (0 : Nat)).take (3 : Nat))) fun y17 =>
 .br y17.1 (
 .bd (F21 y9.1 ((((((4000 : Int), (4000 : Int)) :: (((3306 : Int), (4625 : Int)) :: (((1375 : Int), (2694 : Int)) :: [])))).drop (0 : Nat)).take (3 : Nat))) fun y18 =>
 .br y18.1 (
 .bd (F20 y11.1 (((((4000 : Int) :: ((9000 : Int) :: ((9000 : Int) :: [])))).drop (0 : Nat)).take (3 : Nat))) fun y19 =>
 .br y19.1 (
 .br (y13.1 == (8000 : Int)) (
 .bd (F40 (10000 : Int) (0 : Int) (4000 : Int)) fun y20 =>
 .bd (F32 (y20.1.1, (y20.1.2.1, (y20.1.2.2.1, (y20.1.2.2.2.1, y20.1.2.2.2.2)))) y5.1 (1 : Int) (5 : Int)) fun y21 =>
 .br (y21.1 == (0 : Int)) (
 .bd (F40 (10000 : Int) (0 : Int) (4000 : Int)) fun y22 =>
 .bd (F32 (y22.1.1, (y22.1.2.1, (y22.1.2.2.1, (y22.1.2.2.2.1, y22.1.2.2.2.2)))) (((((4000 : Int) :: ((4001 : Int) :: ((1999 : Int) :: [])))).drop (0 : Nat)).take (3 : Nat)) (1 : Int) (5 : Int)) fun y23 =>
 .ret ((y23.1 == (11 : Int)), ())) (
 .ret (false, ()))) (
 .ret (false, ()))) (
 .ret (false, ()))) (
 .ret (false, ()))) (
 .ret (false, ()))) (
 .ret (false, ())))))))))))))
theorem c16_ok : trF prog f16 = some ⟨140, 0, dd16.er, [.t 0], [some .bool]⟩ := by kernel_rfl
noncomputable def ct16 : Ct := ⟨16, [], .c (.hole .bool), fun x => run0 (F16)⟩
theorem ct16_ok : ct16.Ok prog := ct_ok mixed cx16_ok func16 c16_ok (enters_of func16 rfl rfl) dd16 (by kernel_rfl) rfl (fun x => by kernel_rfl)

/- 15 -/
noncomputable def cx15 : Cx := mkCxH [] []
theorem cx15_ok : cx15.Ok prog := mkCxH_ok trivial trivial
@[reducible] def p15_0 : Pat := Pat.mk [(1, .c (.ptr 0 0)), (3, hI)] [(0, .cells [.hole tI, .hole tI, .hole tI, .hole (.list (.prod .str tI)), .hole (.list (.prod tI (.prod tI (.prod tI tI))))] false)] [.slot 1] []
@[reducible] def x15_0 : Outs := [(.ret, Pat.mk [(2, .c (.tf true))] [] [] []), (.exit 0, Pat.mk [] [] [] [])]
noncomputable def b15_0 : D prog 29 none 0 := dO [] (pick (kd prog f15) [(0, false)]) 0
noncomputable def g15_0 : Int × Int × Int × Int × (List (ByteArray × Int)) × (List (Int × Int × Int × Int)) × Unit → Tr0 ((Int × Int × Int × Int × (List (ByteArray × Int)) × (List (Int × Int × Int × Int)) × Unit) ⊕ ((Unit) ⊕ ((Unit)))) := fun (v3, c0_0, c0_1, c0_2, c0_3, c0_4, _) =>
 .br (decide (v3 < (((c0_3).length : Nat) : Int))) (
 .nb v3 (((c0_3).length : Nat) : Int) <|
 .br (decide ((100 : Int) < ((((c0_3).getD (Int.toNat v3) ((bs []), (0 : Int))).1.size : Nat) : Int))) (
 .ret (.inr <| .inl <| ())) (
 .ni (v3 + (1 : Int)) <|
 .ret (.inl ((v3 + (1 : Int)), (c0_0, (c0_1, (c0_2, (c0_3, (c0_4, ()))))))))) (
 .ret (.inr <| .inr <| ()))
theorem s15_0 : ∀ x, roundE (kzO (p15_0.T ⊕ x15_0.T)) cx15 ar0 [] p15_0 x15_0 (b15_0) (fun y => some (.inl y)) (fun b => some (.inr b)) x = run0 (g15_0 x) := fun x => by kernel_rfl
noncomputable def L15_0 : LoopS prog 29 none 0 := mkLoop mixed cx15 cx15_ok [] rfl p15_0 x15_0 rfl (b15_0) (fun x => run0 (g15_0 x)) (s15_0)
noncomputable def dd15 : D prog 29 none 0 := dO [.l L15_0] (kd prog f15) 0
noncomputable def F15 (a0 : Int × Int × Int × (List (ByteArray × Int)) × List (Int × Int × Int × Int)) : Tr0 (Bool × Unit) :=
 .br (decide ((30 : Int) < (((a0.2.2.2.1).length : Nat) : Int))) (
 .ret (true, ())) (
 .br (decide ((100 : Int) < (((a0.2.2.2.2).length : Nat) : Int))) (
 .ret (true, ())) (
 .bd (.it g15_0 ((0 : Int), (a0.1, (a0.2.1, (a0.2.2.1, (a0.2.2.2.1, (a0.2.2.2.2, ()))))))) fun z0 =>
 .sm z0 (fun z1 =>
 .ret (true, ())) fun z2 =>
 .ret (false, ())))
theorem c15_ok : trF prog f15 = some ⟨29, 1, dd15.er, [.t 2], [some .bool]⟩ := by kernel_rfl
noncomputable def ct15 : Ct := ⟨15, [.c (.hole (.prod tI (.prod tI (.prod tI (.prod (.list (.prod .str tI)) (.list (.prod tI (.prod tI (.prod tI tI)))))))))], .c (.hole .bool), fun x => run0 (F15 x.1)⟩
theorem ct15_ok : ct15.Ok prog := ct_ok mixed cx15_ok func15 c15_ok (enters_of func15 rfl rfl) dd15 (by kernel_rfl) rfl (fun x => by kernel_rfl)

/- 19 -/
noncomputable def cx19 : Cx := mkCxH [] []
theorem cx19_ok : cx19.Ok prog := mkCxH_ok trivial trivial
@[reducible] def p19_0 : Pat := Pat.mk [(1, .c (.ptr 0 0)), (2, .c (.ptr 1 0)), (3, .c (.ptr 2 0)), (4, hI)] [(0, .cells [.hole tI, .hole tI, .hole tI, .hole (.list (.prod .str tI)), .hole (.list (.prod tI (.prod tI (.prod tI tI))))] false), (1, .cells [.hole tI, .hole tI, .hole tI, .nsl, .nsl] false), (2, .cells [.hole tI, .hole tI, .hole tI, .sl0 3 (.prod .str tI), .nsl] false), (3, .arr (.prod .str tI) false)] [.slot 1, .slot 2, .slot 3, .cell 2 3] []
@[reducible] def x19_0 : Outs := [(.exit 0, Pat.mk [(1, .c (.ptr 0 0)), (2, .c (.ptr 1 0)), (3, .c (.ptr 2 0))] [(0, .cells [.hole tI, .hole tI, .hole tI, .hole (.list (.prod .str tI)), .hole (.list (.prod tI (.prod tI (.prod tI tI))))] false), (1, .cells [.hole tI, .hole tI, .hole tI, .nsl, .nsl] false), (2, .cells [.hole tI, .hole tI, .hole tI, .sl0 3 (.prod .str tI), .nsl] false), (3, .arr (.prod .str tI) false)] [.slot 1, .slot 2, .slot 3, .cell 2 3] [])]
noncomputable def b19_0 : D prog 48 none 0 := dO [] (pick (kd prog f19) [(0, false)]) 0
noncomputable def g19_0 : Int × Int × Int × Int × (List (ByteArray × Int)) × (List (Int × Int × Int × Int)) × Int × Int × Int × Int × Int × Int × Nat × (List (ByteArray × Int)) × Unit → Tr0 ((Int × Int × Int × Int × (List (ByteArray × Int)) × (List (Int × Int × Int × Int)) × Int × Int × Int × Int × Int × Int × Nat × (List (ByteArray × Int)) × Unit) ⊕ ((Int × Int × Int × (List (ByteArray × Int)) × (List (Int × Int × Int × Int)) × Int × Int × Int × Int × Int × Int × Nat × (List (ByteArray × Int)) × Unit))) := fun (v4, c0_0, c0_1, c0_2, c0_3, c0_4, c1_0, c1_1, c1_2, c2_0, c2_1, c2_2, nc2_3, b3, _) =>
 .br (decide (v4 < (((c0_3).length : Nat) : Int))) (
 .nb v4 (((c0_3).length : Nat) : Int) <|
 .nd (decide ((nc2_3 + ((((((((c0_3).getD (Int.toNat v4) ((bs []), (0 : Int))).1, ((c0_3).getD (Int.toNat v4) ((bs []), (0 : Int))).2) :: [])).drop (0 : Nat)).take (1 : Nat))).length) < bigL)) <|
 .ni (v4 + (1 : Int)) <|
 .ret (.inl ((v4 + (1 : Int)), (c0_0, (c0_1, (c0_2, (c0_3, (c0_4, (c1_0, (c1_1, (c1_2, (c2_0, (c2_1, (c2_2, ((nc2_3 + ((((((((c0_3).getD (Int.toNat v4) ((bs []), (0 : Int))).1, ((c0_3).getD (Int.toNat v4) ((bs []), (0 : Int))).2) :: [])).drop (0 : Nat)).take (1 : Nat))).length), (((((b3).drop (0 : Nat)).take nc2_3) ++ (((((((c0_3).getD (Int.toNat v4) ((bs []), (0 : Int))).1, ((c0_3).getD (Int.toNat v4) ((bs []), (0 : Int))).2) :: [])).drop (0 : Nat)).take (1 : Nat))), ())))))))))))))))) (
 .ret (.inr (c0_0, (c0_1, (c0_2, (c0_3, (c0_4, (c1_0, (c1_1, (c1_2, (c2_0, (c2_1, (c2_2, (nc2_3, (b3, ())))))))))))))))
theorem s19_0 : ∀ x, roundE (kzO (p19_0.T ⊕ x19_0.T)) cx19 ar0 [] p19_0 x19_0 (b19_0) (fun y => some (.inl y)) (fun b => some (.inr b)) x = run0 (g19_0 x) := fun x => by kernel_rfl
noncomputable def L19_0 : LoopS prog 48 none 0 := mkLoop mixed cx19 cx19_ok [] rfl p19_0 x19_0 rfl (b19_0) (fun x => run0 (g19_0 x)) (s19_0)
@[reducible] def p19_1 : Pat := Pat.mk [(1, .c (.ptr 0 0)), (2, .c (.ptr 1 0)), (3, .c (.ptr 2 0)), (5, hI)] [(0, .cells [.hole tI, .hole tI, .hole tI, .hole (.list (.prod .str tI)), .hole (.list (.prod tI (.prod tI (.prod tI tI))))] false), (1, .cells [.hole tI, .hole tI, .hole tI, .nsl, .nsl] false), (2, .cells [.hole tI, .hole tI, .hole tI, .sl0 3 (.prod .str tI), .sl0 4 (.prod tI (.prod tI (.prod tI tI)))] false), (3, .arr (.prod .str tI) false), (4, .arr (.prod tI (.prod tI (.prod tI tI))) false)] [.slot 1, .slot 2, .slot 3, .cell 2 3, .cell 2 4] []
@[reducible] def x19_1 : Outs := [(.exit 2, Pat.mk [(2, .c (.ptr 0 0)), (3, .c (.ptr 1 0))] [(0, .cells [.hole tI, .hole tI, .hole tI, .nsl, .nsl] false), (1, .cells [.hole tI, .hole tI, .hole tI, .sl0 2 (.prod .str tI), .sl0 3 (.prod tI (.prod tI (.prod tI tI)))] false), (2, .arr (.prod .str tI) false), (3, .arr (.prod tI (.prod tI (.prod tI tI))) false)] [.slot 2, .slot 3, .cell 1 3, .cell 1 4] [])]
noncomputable def b19_1 : D prog 48 none 0 := dO [] (pick (kd prog f19) [(1, false)]) 0
noncomputable def g19_1 : Int × Int × Int × Int × (List (ByteArray × Int)) × (List (Int × Int × Int × Int)) × Int × Int × Int × Int × Int × Int × Nat × Nat × (List (ByteArray × Int)) × (List (Int × Int × Int × Int)) × Unit → Tr0 ((Int × Int × Int × Int × (List (ByteArray × Int)) × (List (Int × Int × Int × Int)) × Int × Int × Int × Int × Int × Int × Nat × Nat × (List (ByteArray × Int)) × (List (Int × Int × Int × Int)) × Unit) ⊕ ((Int × Int × Int × Int × Int × Int × Nat × Nat × (List (ByteArray × Int)) × (List (Int × Int × Int × Int)) × Unit))) := fun (v5, c0_0, c0_1, c0_2, c0_3, c0_4, c1_0, c1_1, c1_2, c2_0, c2_1, c2_2, nc2_3, nc2_4, b3, b4, _) =>
 .br (decide (v5 < (((c0_4).length : Nat) : Int))) (
 .nb v5 (((c0_4).length : Nat) : Int) <|
 .nd (decide ((nc2_4 + ((((((((c0_4).getD (Int.toNat v5) ((0 : Int), ((0 : Int), ((0 : Int), (0 : Int))))).1, (((c0_4).getD (Int.toNat v5) ((0 : Int), ((0 : Int), ((0 : Int), (0 : Int))))).2.1, (((c0_4).getD (Int.toNat v5) ((0 : Int), ((0 : Int), ((0 : Int), (0 : Int))))).2.2.1, ((c0_4).getD (Int.toNat v5) ((0 : Int), ((0 : Int), ((0 : Int), (0 : Int))))).2.2.2))) :: [])).drop (0 : Nat)).take (1 : Nat))).length) < bigL)) <|
 .ni (v5 + (1 : Int)) <|
 .ret (.inl ((v5 + (1 : Int)), (c0_0, (c0_1, (c0_2, (c0_3, (c0_4, (c1_0, (c1_1, (c1_2, (c2_0, (c2_1, (c2_2, (nc2_3, ((nc2_4 + ((((((((c0_4).getD (Int.toNat v5) ((0 : Int), ((0 : Int), ((0 : Int), (0 : Int))))).1, (((c0_4).getD (Int.toNat v5) ((0 : Int), ((0 : Int), ((0 : Int), (0 : Int))))).2.1, (((c0_4).getD (Int.toNat v5) ((0 : Int), ((0 : Int), ((0 : Int), (0 : Int))))).2.2.1, ((c0_4).getD (Int.toNat v5) ((0 : Int), ((0 : Int), ((0 : Int), (0 : Int))))).2.2.2))) :: [])).drop (0 : Nat)).take (1 : Nat))).length), (b3, (((((b4).drop (0 : Nat)).take nc2_4) ++ (((((((c0_4).getD (Int.toNat v5) ((0 : Int), ((0 : Int), ((0 : Int), (0 : Int))))).1, (((c0_4).getD (Int.toNat v5) ((0 : Int), ((0 : Int), ((0 : Int), (0 : Int))))).2.1, (((c0_4).getD (Int.toNat v5) ((0 : Int), ((0 : Int), ((0 : Int), (0 : Int))))).2.2.1, ((c0_4).getD (Int.toNat v5) ((0 : Int), ((0 : Int), ((0 : Int), (0 : Int))))).2.2.2))) :: [])).drop (0 : Nat)).take (1 : Nat))), ())))))))))))))))))) (
 .ret (.inr (c1_0, (c1_1, (c1_2, (c2_0, (c2_1, (c2_2, (nc2_3, (nc2_4, (b3, (b4, ()))))))))))))
theorem s19_1 : ∀ x, roundE (kzO (p19_1.T ⊕ x19_1.T)) cx19 ar0 [] p19_1 x19_1 (b19_1) (fun y => some (.inl y)) (fun b => some (.inr b)) x = run0 (g19_1 x) := fun x => by kernel_rfl
noncomputable def L19_1 : LoopS prog 48 none 0 := mkLoop mixed cx19 cx19_ok [] rfl p19_1 x19_1 rfl (b19_1) (fun x => run0 (g19_1 x)) (s19_1)
noncomputable def dd19 : D prog 48 none 0 := dO [.l L19_0, .l L19_1] (kd prog f19) 0
noncomputable def F19 (a0 : Int × Int × Int × (List (ByteArray × Int)) × List (Int × Int × Int × Int)) : Tr0 ((Int × Int × Int × (List (ByteArray × Int)) × List (Int × Int × Int × Int)) × Unit) :=
 .bd (.it g19_0 ((0 : Int), (a0.1, (a0.2.1, (a0.2.2.1, (a0.2.2.2.1, (a0.2.2.2.2, ((0 : Int), ((0 : Int), ((0 : Int), (a0.1, (a0.2.1, (a0.2.2.1, ((0 : Nat), ([], ()))))))))))))))) fun z0 =>
 .bd (.it g19_1 ((0 : Int), (z0.1, (z0.2.1, (z0.2.2.1, (z0.2.2.2.1, (z0.2.2.2.2.1, (z0.2.2.2.2.2.1, (z0.2.2.2.2.2.2.1, (z0.2.2.2.2.2.2.2.1, (z0.2.2.2.2.2.2.2.2.1, (z0.2.2.2.2.2.2.2.2.2.1, (z0.2.2.2.2.2.2.2.2.2.2.1, (z0.2.2.2.2.2.2.2.2.2.2.2.1, ((0 : Nat), (z0.2.2.2.2.2.2.2.2.2.2.2.2.1, ([], ()))))))))))))))))) fun z1 =>
 .ret ((z1.2.2.2.1, (z1.2.2.2.2.1, (z1.2.2.2.2.2.1, ((((z1.2.2.2.2.2.2.2.2.1).drop (0 : Nat)).take z1.2.2.2.2.2.2.1), (((z1.2.2.2.2.2.2.2.2.2.1).drop (0 : Nat)).take z1.2.2.2.2.2.2.2.1))))), ())
theorem c19_ok : trF prog f19 = some ⟨48, 1, dd19.er, [.cell 2 true 5], [some (.prod tI (.prod tI (.prod tI (.prod (.list (.prod .str tI)) (.list (.prod tI (.prod tI (.prod tI tI))))))))]⟩ := by kernel_rfl
noncomputable def ct19 : Ct := ⟨19, [.c (.hole (.prod tI (.prod tI (.prod tI (.prod (.list (.prod .str tI)) (.list (.prod tI (.prod tI (.prod tI tI)))))))))], .c (.hole (.prod tI (.prod tI (.prod tI (.prod (.list (.prod .str tI)) (.list (.prod tI (.prod tI (.prod tI tI))))))))), fun x => run0 (F19 x.1)⟩
theorem ct19_ok : ct19.Ok prog := ct_ok mixed cx19_ok func19 c19_ok (enters_of func19 rfl rfl) dd19 (by kernel_rfl) rfl (fun x => by kernel_rfl)

/- 68 -/
noncomputable def cx68 : Cx := mkCxH [] []
theorem cx68_ok : cx68.Ok prog := mkCxH_ok trivial trivial
noncomputable def dd68 : D prog 15 none 0 := dO [] (kd prog f68) 0
noncomputable def F68 (a0 : Int) (a1 : Int) (a2 : Int) : Tr0 (Bool × Unit) :=
 .br (decide (a1 ≤ a0)) (
 .ret ((decide (a0 ≤ a2)), ())) (
 .ret (false, ()))
theorem c68_ok : trF prog f68 = some ⟨15, 3, dd68.er, [.t 6], [some .bool]⟩ := by kernel_rfl
noncomputable def ct68 : Ct := ⟨68, [hI, hI, hI], .c (.hole .bool), fun x => run0 (F68 x.1 x.2.1 x.2.2.1)⟩
theorem ct68_ok : ct68.Ok prog := ct_ok mixed cx68_ok func68 c68_ok (enters_of func68 rfl rfl) dd68 (by kernel_rfl) rfl (fun x => by kernel_rfl)

/- 49 -/
noncomputable def cx49 : Cx := mkCxH [ct68] []
theorem cx49_ok : cx49.Ok prog := mkCxH_ok ⟨ct68_ok, trivial⟩ trivial
noncomputable def dd49 : D prog 11 none 0 := dO [] (kd prog f49) 0
noncomputable def F49 (a0 : Int) (a1 : Int) (a2 : Int) : Tr0 (Bool × Unit) :=
 .bd (F68 a0 a1 a2) fun y0 =>
 .ret (y0.1, ())
theorem c49_ok : trF prog f49 = some ⟨11, 3, dd49.er, [.t 6], [some .bool]⟩ := by kernel_rfl
noncomputable def ct49 : Ct := ⟨49, [hI, hI, hI], .c (.hole .bool), fun x => run0 (F49 x.1 x.2.1 x.2.2.1)⟩
theorem ct49_ok : ct49.Ok prog := ct_ok mixed cx49_ok func49 c49_ok (enters_of func49 rfl rfl) dd49 (by kernel_rfl) rfl (fun x => by kernel_rfl)

/- 50 -/
noncomputable def cx50 : Cx := mkCxH [] []
theorem cx50_ok : cx50.Ok prog := mkCxH_ok trivial trivial
@[reducible] def p50_0 : Pat := Pat.mk [(0, .c (.hole .str)), (3, hI)] [] [] []
@[reducible] def x50_0 : Outs := [(.ret, Pat.mk [(2, .c (.tf false))] [] [] []), (.exit 0, Pat.mk [] [] [] [])]
noncomputable def b50_0 : D prog 50 none 0 := dO [] (pick (kd prog f50) [(0, false)]) 0
noncomputable def g50_0 : ByteArray × Int × Unit → Tr0 ((ByteArray × Int × Unit) ⊕ ((Unit) ⊕ ((Unit)))) := fun (v0, v3, _) =>
 .br (decide (v3 < ((v0.size : Nat) : Int))) (
 .nb v3 ((v0.size : Nat) : Int) <|
 .br (decide ((97 : Int) ≤ (satL v0 (Int.toNat v3)))) (
 .nb v3 ((v0.size : Nat) : Int) <|
 .nb v3 ((v0.size : Nat) : Int) <|
 .br (decide ((48 : Int) ≤ (satL v0 (Int.toNat v3)))) (
 .nb v3 ((v0.size : Nat) : Int) <|
 .br (!(decide ((satL v0 (Int.toNat v3)) ≤ (122 : Int)))) (
 .br (!(decide ((satL v0 (Int.toNat v3)) ≤ (57 : Int)))) (
 .ret (.inr <| .inl <| ())) (
 .br (v3 == (0 : Int)) (
 .ret (.inr <| .inl <| ())) (
 .ni (v3 + (1 : Int)) <|
 .ret (.inl (v0, ((v3 + (1 : Int)), ())))))) (
 .ni (v3 + (1 : Int)) <|
 .ret (.inl (v0, ((v3 + (1 : Int)), ()))))) (
 .br (!(decide ((satL v0 (Int.toNat v3)) ≤ (122 : Int)))) (
 .ret (.inr <| .inl <| ())) (
 .ni (v3 + (1 : Int)) <|
 .ret (.inl (v0, ((v3 + (1 : Int)), ())))))) (
 .nb v3 ((v0.size : Nat) : Int) <|
 .br (decide ((48 : Int) ≤ (satL v0 (Int.toNat v3)))) (
 .nb v3 ((v0.size : Nat) : Int) <|
 .br (!(decide ((satL v0 (Int.toNat v3)) ≤ (57 : Int)))) (
 .ret (.inr <| .inl <| ())) (
 .br (v3 == (0 : Int)) (
 .ret (.inr <| .inl <| ())) (
 .ni (v3 + (1 : Int)) <|
 .ret (.inl (v0, ((v3 + (1 : Int)), ())))))) (
 .ret (.inr <| .inl <| ())))) (
 .ret (.inr <| .inr <| ()))
theorem s50_0 : ∀ x, roundE (kzO (p50_0.T ⊕ x50_0.T)) cx50 ar0 [] p50_0 x50_0 (b50_0) (fun y => some (.inl y)) (fun b => some (.inr b)) x = run0 (g50_0 x) := fun x => by kernel_rfl
noncomputable def L50_0 : LoopS prog 50 none 0 := mkLoop mixed cx50 cx50_ok [] rfl p50_0 x50_0 rfl (b50_0) (fun x => run0 (g50_0 x)) (s50_0)
noncomputable def dd50 : D prog 50 none 0 := dO [.l L50_0] (kd prog f50) 0
noncomputable def F50 (a0 : ByteArray) : Tr0 (Bool × Unit) :=
 .br (((a0.size : Nat) : Int) == (0 : Int)) (
 .ret (false, ())) (
 .br (decide ((10 : Int) < ((a0.size : Nat) : Int))) (
 .ret (false, ())) (
 .bd (.it g50_0 (a0, ((0 : Int), ()))) fun z0 =>
 .sm z0 (fun z1 =>
 .ret (false, ())) fun z2 =>
 .ret (true, ())))
theorem c50_ok : trF prog f50 = some ⟨50, 1, dd50.er, [.t 2], [some .bool]⟩ := by kernel_rfl
noncomputable def ct50 : Ct := ⟨50, [.c (.hole .str)], .c (.hole .bool), fun x => run0 (F50 x.1)⟩
theorem ct50_ok : ct50.Ok prog := ct_ok mixed cx50_ok func50 c50_ok (enters_of func50 rfl rfl) dd50 (by kernel_rfl) rfl (fun x => by kernel_rfl)

/- 23 -/
noncomputable def cx23 : Cx := mkCxH [ct49, ct50] []
theorem cx23_ok : cx23.Ok prog := mkCxH_ok ⟨ct49_ok, ct50_ok, trivial⟩ trivial
@[reducible] def p23_1 : Pat := Pat.mk [(1, .c (.ptr 0 0)), (3, hI), (4, .c (.ptr 1 0)), (5, hI)] [(0, .cells [.hole tI, .hole tI, .hole tI, .hole (.list (.prod .str tI)), .hole (.list (.prod tI (.prod tI (.prod tI tI))))] false), (1, .cells [.hole .str, .hole tI] false)] [.slot 1, .slot 4] []
@[reducible] def x23_1 : Outs := [(.ret, Pat.mk [(2, hI)] [] [] []), (.exit 2, Pat.mk [(1, .c (.ptr 0 0)), (3, hI), (4, .c (.ptr 1 0))] [(0, .cells [.hole tI, .hole tI, .hole tI, .hole (.list (.prod .str tI)), .hole (.list (.prod tI (.prod tI (.prod tI tI))))] false), (1, .cells [.hole .str, .hole tI] false)] [.slot 1, .slot 4] [])]
noncomputable def b23_1 : D prog 108 none 0 := dO [] (pick (kd prog f23) [(0, false), (0, false)]) 0
noncomputable def g23_1 : Int × Int × Int × Int × Int × (List (ByteArray × Int)) × (List (Int × Int × Int × Int)) × ByteArray × Int × Unit → Tr0 ((Int × Int × Int × Int × Int × (List (ByteArray × Int)) × (List (Int × Int × Int × Int)) × ByteArray × Int × Unit) ⊕ ((Int × Unit) ⊕ ((Int × Int × Int × Int × (List (ByteArray × Int)) × (List (Int × Int × Int × Int)) × ByteArray × Int × Unit)))) := fun (v3, v5, c0_0, c0_1, c0_2, c0_3, c0_4, c1_0, c1_1, _) =>
 .br (decide (v5 < v3)) (
 .nb v5 (((c0_3).length : Nat) : Int) <|
 .br (seq ((c0_3).getD (Int.toNat v5) ((bs []), (0 : Int))).1 c1_0) (
 .ret (.inr <| .inl <| ((6 : Int), ()))) (
 .ni (v5 + (1 : Int)) <|
 .ret (.inl (v3, ((v5 + (1 : Int)), (c0_0, (c0_1, (c0_2, (c0_3, (c0_4, (c1_0, (c1_1, ())))))))))))) (
 .ret (.inr <| .inr <| (v3, (c0_0, (c0_1, (c0_2, (c0_3, (c0_4, (c1_0, (c1_1, ()))))))))))
theorem s23_1 : ∀ x, roundE (kzO (p23_1.T ⊕ x23_1.T)) cx23 ar0 [] p23_1 x23_1 (b23_1) (fun y => some (.inl y)) (fun b => some (.inr b)) x = run0 (g23_1 x) := fun x => by kernel_rfl
noncomputable def L23_1 : LoopS prog 108 none 0 := mkLoop mixed cx23 cx23_ok [] rfl p23_1 x23_1 rfl (b23_1) (fun x => run0 (g23_1 x)) (s23_1)
@[reducible] def p23_0 : Pat := Pat.mk [(1, .c (.ptr 0 0)), (3, hI)] [(0, .cells [.hole tI, .hole tI, .hole tI, .hole (.list (.prod .str tI)), .hole (.list (.prod tI (.prod tI (.prod tI tI))))] false)] [.slot 1] []
@[reducible] def x23_0 : Outs := [(.ret, Pat.mk [(2, hI)] [] [] []), (.exit 0, Pat.mk [(1, .c (.ptr 0 0))] [(0, .cells [.hole tI, .hole tI, .hole tI, .hole (.list (.prod .str tI)), .hole (.list (.prod tI (.prod tI (.prod tI tI))))] false)] [.slot 1] [])]
noncomputable def b23_0 : D prog 108 none 0 := dO [.l L23_1] (pick (kd prog f23) [(0, false)]) 0
noncomputable def g23_0 : Int × Int × Int × Int × (List (ByteArray × Int)) × (List (Int × Int × Int × Int)) × Unit → Tr0 ((Int × Int × Int × Int × (List (ByteArray × Int)) × (List (Int × Int × Int × Int)) × Unit) ⊕ ((Int × Unit) ⊕ ((Int × Int × Int × (List (ByteArray × Int)) × (List (Int × Int × Int × Int)) × Unit)))) := fun (v3, c0_0, c0_1, c0_2, c0_3, c0_4, _) =>
 .br (decide (v3 < (((c0_3).length : Nat) : Int))) (
 .nb v3 (((c0_3).length : Nat) : Int) <|
 .bd (F50 ((c0_3).getD (Int.toNat v3) ((bs []), (0 : Int))).1) fun y3 =>
 .br (!y3.1) (
 .ret (.inr <| .inl <| ((8 : Int), ()))) (
 .bd (.it g23_1 (v3, ((0 : Int), (c0_0, (c0_1, (c0_2, (c0_3, (c0_4, (((c0_3).getD (Int.toNat v3) ((bs []), (0 : Int))).1, (((c0_3).getD (Int.toNat v3) ((bs []), (0 : Int))).2, ())))))))))) fun z4 =>
 .sm z4 (fun z5 =>
 .ret (.inr <| .inl <| (z5.1, ()))) fun z6 =>
 .bd (F49 z6.2.2.2.2.2.2.2.1 (0 : Int) (1000000000 : Int)) fun y7 =>
 .br (!y7.1) (
 .ret (.inr <| .inl <| ((2 : Int), ()))) (
 .ni (z6.1 + (1 : Int)) <|
 .ret (.inl ((z6.1 + (1 : Int)), (z6.2.1, (z6.2.2.1, (z6.2.2.2.1, (z6.2.2.2.2.1, (z6.2.2.2.2.2.1, ())))))))))) (
 .ret (.inr <| .inr <| (c0_0, (c0_1, (c0_2, (c0_3, (c0_4, ())))))))
theorem s23_0 : ∀ x, roundE (kzO (p23_0.T ⊕ x23_0.T)) cx23 ar0 [] p23_0 x23_0 (b23_0) (fun y => some (.inl y)) (fun b => some (.inr b)) x = run0 (g23_0 x) := fun x => by kernel_rfl
noncomputable def L23_0 : LoopS prog 108 none 0 := mkLoop mixed cx23 cx23_ok [] rfl p23_0 x23_0 rfl (b23_0) (fun x => run0 (g23_0 x)) (s23_0)
@[reducible] def p23_2 : Pat := Pat.mk [(1, .c (.ptr 0 0)), (6, hI)] [(0, .cells [.hole tI, .hole tI, .hole tI, .hole (.list (.prod .str tI)), .hole (.list (.prod tI (.prod tI (.prod tI tI))))] false)] [.slot 1] []
@[reducible] def x23_2 : Outs := [(.ret, Pat.mk [(2, hI)] [] [] []), (.exit 4, Pat.mk [] [] [] [])]
noncomputable def b23_2 : D prog 108 none 0 := dO [] (pick (kd prog f23) [(1, false)]) 0
noncomputable def g23_2 : Int × Int × Int × Int × (List (ByteArray × Int)) × (List (Int × Int × Int × Int)) × Unit → Tr0 ((Int × Int × Int × Int × (List (ByteArray × Int)) × (List (Int × Int × Int × Int)) × Unit) ⊕ ((Int × Unit) ⊕ ((Unit)))) := fun (v6, c0_0, c0_1, c0_2, c0_3, c0_4, _) =>
 .br (decide (v6 < (((c0_4).length : Nat) : Int))) (
 .nb v6 (((c0_4).length : Nat) : Int) <|
 .ni ((((c0_3).length : Nat) : Int) - (1 : Int)) <|
 .bd (F49 ((c0_4).getD (Int.toNat v6) ((0 : Int), ((0 : Int), ((0 : Int), (0 : Int))))).1 (0 : Int) ((((c0_3).length : Nat) : Int) - (1 : Int))) fun y11 =>
 .br (!y11.1) (
 .ret (.inr <| .inl <| ((5 : Int), ()))) (
 .bd (F49 ((c0_4).getD (Int.toNat v6) ((0 : Int), ((0 : Int), ((0 : Int), (0 : Int))))).2.1 (0 : Int) (100000 : Int)) fun y12 =>
 .br (!y12.1) (
 .ret (.inr <| .inl <| ((2 : Int), ()))) (
 .bd (F49 ((c0_4).getD (Int.toNat v6) ((0 : Int), ((0 : Int), ((0 : Int), (0 : Int))))).2.2.1 (0 : Int) ((c0_4).getD (Int.toNat v6) ((0 : Int), ((0 : Int), ((0 : Int), (0 : Int))))).2.1) fun y13 =>
 .br (!y13.1) (
 .ret (.inr <| .inl <| ((2 : Int), ()))) (
 .bd (F49 ((c0_4).getD (Int.toNat v6) ((0 : Int), ((0 : Int), ((0 : Int), (0 : Int))))).2.2.2 (0 : Int) (1000 : Int)) fun y14 =>
 .br (!y14.1) (
 .ret (.inr <| .inl <| ((2 : Int), ()))) (
 .ni (v6 + (1 : Int)) <|
 .ret (.inl ((v6 + (1 : Int)), (c0_0, (c0_1, (c0_2, (c0_3, (c0_4, ())))))))))))) (
 .ret (.inr <| .inr <| ()))
theorem s23_2 : ∀ x, roundE (kzO (p23_2.T ⊕ x23_2.T)) cx23 ar0 [] p23_2 x23_2 (b23_2) (fun y => some (.inl y)) (fun b => some (.inr b)) x = run0 (g23_2 x) := fun x => by kernel_rfl
noncomputable def L23_2 : LoopS prog 108 none 0 := mkLoop mixed cx23 cx23_ok [] rfl p23_2 x23_2 rfl (b23_2) (fun x => run0 (g23_2 x)) (s23_2)
noncomputable def dd23 : D prog 108 none 0 := dO [.l L23_0, .l L23_2] (kd prog f23) 0
noncomputable def F23 (a0 : Int × Int × Int × (List (ByteArray × Int)) × List (Int × Int × Int × Int)) : Tr0 (Int × Unit) :=
 .bd (F49 a0.1 (0 : Int) (1000000000 : Int)) fun y0 =>
 .br (!y0.1) (
 .ret ((2 : Int), ())) (
 .bd (F49 a0.2.1 (0 : Int) (1000 : Int)) fun y1 =>
 .br (!y1.1) (
 .ret ((2 : Int), ())) (
 .bd (F49 a0.2.2.1 (0 : Int) (1000 : Int)) fun y2 =>
 .br (!y2.1) (
 .ret ((2 : Int), ())) (
 .br ((((a0.2.2.2.1).length : Nat) : Int) == (0 : Int)) (
 .ret ((4 : Int), ())) (
 .br (decide ((12 : Int) < (((a0.2.2.2.1).length : Nat) : Int))) (
 .ret ((1 : Int), ())) (
 .bd (.it g23_0 ((0 : Int), (a0.1, (a0.2.1, (a0.2.2.1, (a0.2.2.2.1, (a0.2.2.2.2, ()))))))) fun z8 =>
 .sm z8 (fun z9 =>
 .ret (z9.1, ())) fun z10 =>
 .br (decide ((50 : Int) < (((z10.2.2.2.2.1).length : Nat) : Int))) (
 .ret ((1 : Int), ())) (
 .bd (.it g23_2 ((0 : Int), (z10.1, (z10.2.1, (z10.2.2.1, (z10.2.2.2.1, (z10.2.2.2.2.1, ()))))))) fun z15 =>
 .sm z15 (fun z16 =>
 .ret (z16.1, ())) fun z17 =>
 .ret ((0 : Int), ())))))))
theorem c23_ok : trF prog f23 = some ⟨108, 1, dd23.er, [.t 2], [some tI]⟩ := by kernel_rfl
noncomputable def ct23 : Ct := ⟨23, [.c (.hole (.prod tI (.prod tI (.prod tI (.prod (.list (.prod .str tI)) (.list (.prod tI (.prod tI (.prod tI tI)))))))))], hI, fun x => run0 (F23 x.1)⟩
theorem ct23_ok : ct23.Ok prog := ct_ok mixed cx23_ok func23 c23_ok (enters_of func23 rfl rfl) dd23 (by kernel_rfl) rfl (fun x => by kernel_rfl)

/- 45 -/
noncomputable def cx45 : Cx := mkCxH [] []
theorem cx45_ok : cx45.Ok prog := mkCxH_ok trivial trivial
@[reducible] def p45_0 : Pat := Pat.mk [(1, .c (.ptr 0 0)), (4, .c (.sl0 1 tI)), (5, .c (.sl0 2 (.prod tI tI))), (6, hI)] [(0, .cells [.hole tI, .hole tI, .hole tI, .hole (.list (.prod .str tI)), .hole (.list (.prod tI (.prod tI (.prod tI tI))))] false), (1, .arr tI false), (2, .arr (.prod tI tI) false)] [.slot 1, .slot 4, .slot 5] []
@[reducible] def x45_0 : Outs := [(.exit 0, Pat.mk [(4, .c (.sl0 0 tI)), (5, .c (.sl0 1 (.prod tI tI)))] [(0, .arr tI false), (1, .arr (.prod tI tI) false)] [.slot 4, .slot 5] [])]
noncomputable def b45_0 : D prog 90 none 0 := dO [] (pick (kd prog f45) [(0, false)]) 0
noncomputable def g45_0 : Nat × Nat × Int × Int × Int × Int × (List (ByteArray × Int)) × (List (Int × Int × Int × Int)) × List Int × (List (Int × Int)) × Unit → Tr0 ((Nat × Nat × Int × Int × Int × Int × (List (ByteArray × Int)) × (List (Int × Int × Int × Int)) × List Int × (List (Int × Int)) × Unit) ⊕ ((Nat × Nat × List Int × (List (Int × Int)) × Unit))) := fun (nv4, nv5, v6, c0_0, c0_1, c0_2, c0_3, c0_4, b1, b2, _) =>
 .br (decide (v6 < (((c0_4).length : Nat) : Int))) (
 .nb v6 (((c0_4).length : Nat) : Int) <|
 .ni (((c0_4).getD (Int.toNat v6) ((0 : Int), ((0 : Int), ((0 : Int), (0 : Int))))).2.1 - ((c0_4).getD (Int.toNat v6) ((0 : Int), ((0 : Int), ((0 : Int), (0 : Int))))).2.2.1) <|
 .nb ((c0_4).getD (Int.toNat v6) ((0 : Int), ((0 : Int), ((0 : Int), (0 : Int))))).1 ((nv4 : Nat) : Int) <|
 .nd (decide (((0 : Nat) + (Int.toNat ((c0_4).getD (Int.toNat v6) ((0 : Int), ((0 : Int), ((0 : Int), (0 : Int))))).1)) < (b1).length)) <|
 .ni ((((c0_4).getD (Int.toNat v6) ((0 : Int), ((0 : Int), ((0 : Int), (0 : Int))))).2.1 - ((c0_4).getD (Int.toNat v6) ((0 : Int), ((0 : Int), ((0 : Int), (0 : Int))))).2.2.1) * ((c0_4).getD (Int.toNat v6) ((0 : Int), ((0 : Int), ((0 : Int), (0 : Int))))).2.2.2) <|
 .ni (((b1).getD ((0 : Nat) + (Int.toNat ((c0_4).getD (Int.toNat v6) ((0 : Int), ((0 : Int), ((0 : Int), (0 : Int))))).1)) (0 : Int)) + ((((c0_4).getD (Int.toNat v6) ((0 : Int), ((0 : Int), ((0 : Int), (0 : Int))))).2.1 - ((c0_4).getD (Int.toNat v6) ((0 : Int), ((0 : Int), ((0 : Int), (0 : Int))))).2.2.1) * ((c0_4).getD (Int.toNat v6) ((0 : Int), ((0 : Int), ((0 : Int), (0 : Int))))).2.2.2)) <|
 .nb ((c0_4).getD (Int.toNat v6) ((0 : Int), ((0 : Int), ((0 : Int), (0 : Int))))).1 ((nv4 : Nat) : Int) <|
 .nd (decide (((0 : Nat) + (Int.toNat ((c0_4).getD (Int.toNat v6) ((0 : Int), ((0 : Int), ((0 : Int), (0 : Int))))).1)) < (b1).length)) <|
 .nb ((c0_4).getD (Int.toNat v6) ((0 : Int), ((0 : Int), ((0 : Int), (0 : Int))))).1 ((nv5 : Nat) : Int) <|
 .nd (decide (((0 : Nat) + (Int.toNat ((c0_4).getD (Int.toNat v6) ((0 : Int), ((0 : Int), ((0 : Int), (0 : Int))))).1)) < (b2).length)) <|
 .ni ((2 : Int) * c0_1) <|
 .ni ((((c0_4).getD (Int.toNat v6) ((0 : Int), ((0 : Int), ((0 : Int), (0 : Int))))).2.1 - ((c0_4).getD (Int.toNat v6) ((0 : Int), ((0 : Int), ((0 : Int), (0 : Int))))).2.2.1) - ((2 : Int) * c0_1)) <|
 .ni (((c0_4).getD (Int.toNat v6) ((0 : Int), ((0 : Int), ((0 : Int), (0 : Int))))).2.2.2 - c0_2) <|
 .ni ((imax (0 : Int) ((((c0_4).getD (Int.toNat v6) ((0 : Int), ((0 : Int), ((0 : Int), (0 : Int))))).2.1 - ((c0_4).getD (Int.toNat v6) ((0 : Int), ((0 : Int), ((0 : Int), (0 : Int))))).2.2.1) - ((2 : Int) * c0_1))) * (imax (0 : Int) (((c0_4).getD (Int.toNat v6) ((0 : Int), ((0 : Int), ((0 : Int), (0 : Int))))).2.2.2 - c0_2))) <|
 .ni (((b2).getD ((0 : Nat) + (Int.toNat ((c0_4).getD (Int.toNat v6) ((0 : Int), ((0 : Int), ((0 : Int), (0 : Int))))).1)) ((0 : Int), (0 : Int))).1 + ((imax (0 : Int) ((((c0_4).getD (Int.toNat v6) ((0 : Int), ((0 : Int), ((0 : Int), (0 : Int))))).2.1 - ((c0_4).getD (Int.toNat v6) ((0 : Int), ((0 : Int), ((0 : Int), (0 : Int))))).2.2.1) - ((2 : Int) * c0_1))) * (imax (0 : Int) (((c0_4).getD (Int.toNat v6) ((0 : Int), ((0 : Int), ((0 : Int), (0 : Int))))).2.2.2 - c0_2)))) <|
 .nb ((c0_4).getD (Int.toNat v6) ((0 : Int), ((0 : Int), ((0 : Int), (0 : Int))))).1 ((nv5 : Nat) : Int) <|
 .nd (decide (((0 : Nat) + (Int.toNat ((c0_4).getD (Int.toNat v6) ((0 : Int), ((0 : Int), ((0 : Int), (0 : Int))))).1)) < (b2).length)) <|
 .nb ((c0_4).getD (Int.toNat v6) ((0 : Int), ((0 : Int), ((0 : Int), (0 : Int))))).1 ((nv5 : Nat) : Int) <|
 .nd (decide (((0 : Nat) + (Int.toNat ((c0_4).getD (Int.toNat v6) ((0 : Int), ((0 : Int), ((0 : Int), (0 : Int))))).1)) < (((b2).set ((0 : Nat) + (Int.toNat ((c0_4).getD (Int.toNat v6) ((0 : Int), ((0 : Int), ((0 : Int), (0 : Int))))).1)) ((((b2).getD ((0 : Nat) + (Int.toNat ((c0_4).getD (Int.toNat v6) ((0 : Int), ((0 : Int), ((0 : Int), (0 : Int))))).1)) ((0 : Int), (0 : Int))).1 + ((imax (0 : Int) ((((c0_4).getD (Int.toNat v6) ((0 : Int), ((0 : Int), ((0 : Int), (0 : Int))))).2.1 - ((c0_4).getD (Int.toNat v6) ((0 : Int), ((0 : Int), ((0 : Int), (0 : Int))))).2.2.1) - ((2 : Int) * c0_1))) * (imax (0 : Int) (((c0_4).getD (Int.toNat v6) ((0 : Int), ((0 : Int), ((0 : Int), (0 : Int))))).2.2.2 - c0_2)))), ((b2).getD ((0 : Nat) + (Int.toNat ((c0_4).getD (Int.toNat v6) ((0 : Int), ((0 : Int), ((0 : Int), (0 : Int))))).1)) ((0 : Int), (0 : Int))).2))).length)) <|
 .ni ((2 : Int) * c0_1) <|
 .ni ((((c0_4).getD (Int.toNat v6) ((0 : Int), ((0 : Int), ((0 : Int), (0 : Int))))).2.1 - ((c0_4).getD (Int.toNat v6) ((0 : Int), ((0 : Int), ((0 : Int), (0 : Int))))).2.2.1) + ((2 : Int) * c0_1)) <|
 .ni (((c0_4).getD (Int.toNat v6) ((0 : Int), ((0 : Int), ((0 : Int), (0 : Int))))).2.2.2 + c0_2) <|
 .ni (((((c0_4).getD (Int.toNat v6) ((0 : Int), ((0 : Int), ((0 : Int), (0 : Int))))).2.1 - ((c0_4).getD (Int.toNat v6) ((0 : Int), ((0 : Int), ((0 : Int), (0 : Int))))).2.2.1) + ((2 : Int) * c0_1)) * (imin (1000 : Int) (((c0_4).getD (Int.toNat v6) ((0 : Int), ((0 : Int), ((0 : Int), (0 : Int))))).2.2.2 + c0_2))) <|
 .ni (((((b2).set ((0 : Nat) + (Int.toNat ((c0_4).getD (Int.toNat v6) ((0 : Int), ((0 : Int), ((0 : Int), (0 : Int))))).1)) ((((b2).getD ((0 : Nat) + (Int.toNat ((c0_4).getD (Int.toNat v6) ((0 : Int), ((0 : Int), ((0 : Int), (0 : Int))))).1)) ((0 : Int), (0 : Int))).1 + ((imax (0 : Int) ((((c0_4).getD (Int.toNat v6) ((0 : Int), ((0 : Int), ((0 : Int), (0 : Int))))).2.1 - ((c0_4).getD (Int.toNat v6) ((0 : Int), ((0 : Int), ((0 : Int), (0 : Int))))).2.2.1) - ((2 : Int) * c0_1))) * (imax (0 : Int) (((c0_4).getD (Int.toNat v6) ((0 : Int), ((0 : Int), ((0 : Int), (0 : Int))))).2.2.2 - c0_2)))), ((b2).getD ((0 : Nat) + (Int.toNat ((c0_4).getD (Int.toNat v6) ((0 : Int), ((0 : Int), ((0 : Int), (0 : Int))))).1)) ((0 : Int), (0 : Int))).2))).getD ((0 : Nat) + (Int.toNat ((c0_4).getD (Int.toNat v6) ((0 : Int), ((0 : Int), ((0 : Int), (0 : Int))))).1)) ((0 : Int), (0 : Int))).2 + (((((c0_4).getD (Int.toNat v6) ((0 : Int), ((0 : Int), ((0 : Int), (0 : Int))))).2.1 - ((c0_4).getD (Int.toNat v6) ((0 : Int), ((0 : Int), ((0 : Int), (0 : Int))))).2.2.1) + ((2 : Int) * c0_1)) * (imin (1000 : Int) (((c0_4).getD (Int.toNat v6) ((0 : Int), ((0 : Int), ((0 : Int), (0 : Int))))).2.2.2 + c0_2)))) <|
 .nb ((c0_4).getD (Int.toNat v6) ((0 : Int), ((0 : Int), ((0 : Int), (0 : Int))))).1 ((nv5 : Nat) : Int) <|
 .nd (decide (((0 : Nat) + (Int.toNat ((c0_4).getD (Int.toNat v6) ((0 : Int), ((0 : Int), ((0 : Int), (0 : Int))))).1)) < (((b2).set ((0 : Nat) + (Int.toNat ((c0_4).getD (Int.toNat v6) ((0 : Int), ((0 : Int), ((0 : Int), (0 : Int))))).1)) ((((b2).getD ((0 : Nat) + (Int.toNat ((c0_4).getD (Int.toNat v6) ((0 : Int), ((0 : Int), ((0 : Int), (0 : Int))))).1)) ((0 : Int), (0 : Int))).1 + ((imax (0 : Int) ((((c0_4).getD (Int.toNat v6) ((0 : Int), ((0 : Int), ((0 : Int), (0 : Int))))).2.1 - ((c0_4).getD (Int.toNat v6) ((0 : Int), ((0 : Int), ((0 : Int), (0 : Int))))).2.2.1) - ((2 : Int) * c0_1))) * (imax (0 : Int) (((c0_4).getD (Int.toNat v6) ((0 : Int), ((0 : Int), ((0 : Int), (0 : Int))))).2.2.2 - c0_2)))), ((b2).getD ((0 : Nat) + (Int.toNat ((c0_4).getD (Int.toNat v6) ((0 : Int), ((0 : Int), ((0 : Int), (0 : Int))))).1)) ((0 : Int), (0 : Int))).2))).length)) <|
 .ni (v6 + (1 : Int)) <|
 .ret (.inl (nv4, (nv5, ((v6 + (1 : Int)), (c0_0, (c0_1, (c0_2, (c0_3, (c0_4, (((b1).set ((0 : Nat) + (Int.toNat ((c0_4).getD (Int.toNat v6) ((0 : Int), ((0 : Int), ((0 : Int), (0 : Int))))).1)) (((b1).getD ((0 : Nat) + (Int.toNat ((c0_4).getD (Int.toNat v6) ((0 : Int), ((0 : Int), ((0 : Int), (0 : Int))))).1)) (0 : Int)) + ((((c0_4).getD (Int.toNat v6) ((0 : Int), ((0 : Int), ((0 : Int), (0 : Int))))).2.1 - ((c0_4).getD (Int.toNat v6) ((0 : Int), ((0 : Int), ((0 : Int), (0 : Int))))).2.2.1) * ((c0_4).getD (Int.toNat v6) ((0 : Int), ((0 : Int), ((0 : Int), (0 : Int))))).2.2.2))), (((((b2).set ((0 : Nat) + (Int.toNat ((c0_4).getD (Int.toNat v6) ((0 : Int), ((0 : Int), ((0 : Int), (0 : Int))))).1)) ((((b2).getD ((0 : Nat) + (Int.toNat ((c0_4).getD (Int.toNat v6) ((0 : Int), ((0 : Int), ((0 : Int), (0 : Int))))).1)) ((0 : Int), (0 : Int))).1 + ((imax (0 : Int) ((((c0_4).getD (Int.toNat v6) ((0 : Int), ((0 : Int), ((0 : Int), (0 : Int))))).2.1 - ((c0_4).getD (Int.toNat v6) ((0 : Int), ((0 : Int), ((0 : Int), (0 : Int))))).2.2.1) - ((2 : Int) * c0_1))) * (imax (0 : Int) (((c0_4).getD (Int.toNat v6) ((0 : Int), ((0 : Int), ((0 : Int), (0 : Int))))).2.2.2 - c0_2)))), ((b2).getD ((0 : Nat) + (Int.toNat ((c0_4).getD (Int.toNat v6) ((0 : Int), ((0 : Int), ((0 : Int), (0 : Int))))).1)) ((0 : Int), (0 : Int))).2))).set ((0 : Nat) + (Int.toNat ((c0_4).getD (Int.toNat v6) ((0 : Int), ((0 : Int), ((0 : Int), (0 : Int))))).1)) (((((b2).set ((0 : Nat) + (Int.toNat ((c0_4).getD (Int.toNat v6) ((0 : Int), ((0 : Int), ((0 : Int), (0 : Int))))).1)) ((((b2).getD ((0 : Nat) + (Int.toNat ((c0_4).getD (Int.toNat v6) ((0 : Int), ((0 : Int), ((0 : Int), (0 : Int))))).1)) ((0 : Int), (0 : Int))).1 + ((imax (0 : Int) ((((c0_4).getD (Int.toNat v6) ((0 : Int), ((0 : Int), ((0 : Int), (0 : Int))))).2.1 - ((c0_4).getD (Int.toNat v6) ((0 : Int), ((0 : Int), ((0 : Int), (0 : Int))))).2.2.1) - ((2 : Int) * c0_1))) * (imax (0 : Int) (((c0_4).getD (Int.toNat v6) ((0 : Int), ((0 : Int), ((0 : Int), (0 : Int))))).2.2.2 - c0_2)))), ((b2).getD ((0 : Nat) + (Int.toNat ((c0_4).getD (Int.toNat v6) ((0 : Int), ((0 : Int), ((0 : Int), (0 : Int))))).1)) ((0 : Int), (0 : Int))).2))).getD ((0 : Nat) + (Int.toNat ((c0_4).getD (Int.toNat v6) ((0 : Int), ((0 : Int), ((0 : Int), (0 : Int))))).1)) ((0 : Int), (0 : Int))).1, (((((b2).set ((0 : Nat) + (Int.toNat ((c0_4).getD (Int.toNat v6) ((0 : Int), ((0 : Int), ((0 : Int), (0 : Int))))).1)) ((((b2).getD ((0 : Nat) + (Int.toNat ((c0_4).getD (Int.toNat v6) ((0 : Int), ((0 : Int), ((0 : Int), (0 : Int))))).1)) ((0 : Int), (0 : Int))).1 + ((imax (0 : Int) ((((c0_4).getD (Int.toNat v6) ((0 : Int), ((0 : Int), ((0 : Int), (0 : Int))))).2.1 - ((c0_4).getD (Int.toNat v6) ((0 : Int), ((0 : Int), ((0 : Int), (0 : Int))))).2.2.1) - ((2 : Int) * c0_1))) * (imax (0 : Int) (((c0_4).getD (Int.toNat v6) ((0 : Int), ((0 : Int), ((0 : Int), (0 : Int))))).2.2.2 - c0_2)))), ((b2).getD ((0 : Nat) + (Int.toNat ((c0_4).getD (Int.toNat v6) ((0 : Int), ((0 : Int), ((0 : Int), (0 : Int))))).1)) ((0 : Int), (0 : Int))).2))).getD ((0 : Nat) + (Int.toNat ((c0_4).getD (Int.toNat v6) ((0 : Int), ((0 : Int), ((0 : Int), (0 : Int))))).1)) ((0 : Int), (0 : Int))).2 + (((((c0_4).getD (Int.toNat v6) ((0 : Int), ((0 : Int), ((0 : Int), (0 : Int))))).2.1 - ((c0_4).getD (Int.toNat v6) ((0 : Int), ((0 : Int), ((0 : Int), (0 : Int))))).2.2.1) + ((2 : Int) * c0_1)) * (imin (1000 : Int) (((c0_4).getD (Int.toNat v6) ((0 : Int), ((0 : Int), ((0 : Int), (0 : Int))))).2.2.2 + c0_2)))))), ())))))))))))) (
 .ret (.inr (nv4, (nv5, (b1, (b2, ()))))))
theorem s45_0 : ∀ x, roundE (kzO (p45_0.T ⊕ x45_0.T)) cx45 ar0 [] p45_0 x45_0 (b45_0) (fun y => some (.inl y)) (fun b => some (.inr b)) x = run0 (g45_0 x) := fun x => by kernel_rfl
noncomputable def L45_0 : LoopS prog 90 none 0 := mkLoop mixed cx45 cx45_ok [] rfl p45_0 x45_0 rfl (b45_0) (fun x => run0 (g45_0 x)) (s45_0)
noncomputable def dd45 : D prog 90 none 0 := dO [.l L45_0] (kd prog f45) 0
noncomputable def F45 (a0 : Int × Int × Int × (List (ByteArray × Int)) × List (Int × Int × Int × Int)) : Tr0 (List Int × (List (Int × Int)) × Unit) :=
 .nb (((a0.2.2.2.1).length : Nat) : Int) ((bigL : Nat) : Int) <|
 .nb (((a0.2.2.2.1).length : Nat) : Int) ((bigL : Nat) : Int) <|
 .bd (.it g45_0 ((Int.toNat (((a0.2.2.2.1).length : Nat) : Int)), ((Int.toNat (((a0.2.2.2.1).length : Nat) : Int)), ((0 : Int), (a0.1, (a0.2.1, (a0.2.2.1, (a0.2.2.2.1, (a0.2.2.2.2, ((List.replicate (Int.toNat (((a0.2.2.2.1).length : Nat) : Int)) (0 : Int)), ((List.replicate (Int.toNat (((a0.2.2.2.1).length : Nat) : Int)) ((0 : Int), (0 : Int))), ()))))))))))) fun z0 =>
 .ret ((((z0.2.2.1).drop (0 : Nat)).take z0.1), ((((z0.2.2.2.1).drop (0 : Nat)).take z0.2.1), ()))
theorem c45_ok : trF prog f45 = some ⟨90, 1, dd45.er, [.t 2, .t 3], [some tL, some (.list (.prod tI tI))]⟩ := by kernel_rfl
noncomputable def ct45 : Ct := ⟨45, [.c (.hole (.prod tI (.prod tI (.prod tI (.prod (.list (.prod .str tI)) (.list (.prod tI (.prod tI (.prod tI tI)))))))))], .tup [.hole tL, .hole (.list (.prod tI tI))], fun x => run0 (F45 x.1)⟩
theorem ct45_ok : ct45.Ok prog := ct_ok mixed cx45_ok func45 c45_ok (enters_of func45 rfl rfl) dd45 (by kernel_rfl) rfl (fun x => by kernel_rfl)

/- 18 -/
noncomputable def cx18 : Cx := mkCxH [ct23, ct45] []
theorem cx18_ok : cx18.Ok prog := mkCxH_ok ⟨ct23_ok, ct45_ok, trivial⟩ trivial
noncomputable def dd18 : D prog 20 none 0 := dO [] (kd prog f18) 0
noncomputable def F18 (a0 : Int × Int × Int × (List (ByteArray × Int)) × List (Int × Int × Int × Int)) : Tr0 (List Int × (List (Int × Int)) × Int × Unit) :=
 .bd (F23 (a0.1, (a0.2.1, (a0.2.2.1, (a0.2.2.2.1, a0.2.2.2.2))))) fun y0 =>
 .br (!(y0.1 == (0 : Int))) (
 .ret ([], ([], (y0.1, ())))) (
 .bd (F45 (a0.1, (a0.2.1, (a0.2.2.1, (a0.2.2.2.1, a0.2.2.2.2))))) fun y1 =>
 .ret (y1.1, (y1.2.1, ((0 : Int), ()))))
theorem c18_ok : trF prog f18 = some ⟨20, 1, dd18.er, [.t 2, .t 3, .t 4], [some tL, some (.list (.prod tI tI)), some tI]⟩ := by kernel_rfl
noncomputable def ct18 : Ct := ⟨18, [.c (.hole (.prod tI (.prod tI (.prod tI (.prod (.list (.prod .str tI)) (.list (.prod tI (.prod tI (.prod tI tI)))))))))], .tup [.hole tL, .hole (.list (.prod tI tI)), .hole tI], fun x => run0 (F18 x.1)⟩
theorem ct18_ok : ct18.Ok prog := ct_ok mixed cx18_ok func18 c18_ok (enters_of func18 rfl rfl) dd18 (by kernel_rfl) rfl (fun x => by kernel_rfl)

/- 3 -/
noncomputable def cx3 : Cx := mkCxH [ct15, ct16, ct17, ct19, ct18, ct20, ct21, ct22, ct23] []
theorem cx3_ok : cx3.Ok prog := mkCxH_ok ⟨ct15_ok, ct16_ok, ct17_ok, ct19_ok, ct18_ok, ct20_ok, ct21_ok, ct22_ok, ct23_ok, trivial⟩ trivial
noncomputable def dd3 : D prog 49 none 0 := dO [] (kd prog f3) 0
noncomputable def F3 (a0 : Int × Int × Int × (List (ByteArray × Int)) × List (Int × Int × Int × Int)) : Tr0 (Bool × Unit) :=
 .bd (F15 (a0.1, (a0.2.1, (a0.2.2.1, (a0.2.2.2.1, a0.2.2.2.2))))) fun y0 =>
 .br y0.1 (
 .bd (F16) fun y1 =>
 .ret (y1.1, ())) (
 .bd (F17 (a0.1, (a0.2.1, (a0.2.2.1, (a0.2.2.2.1, a0.2.2.2.2))))) fun y2 =>
 .bd (F19 (a0.1, (a0.2.1, (a0.2.2.1, (a0.2.2.2.1, a0.2.2.2.2))))) fun y3 =>
 .bd (F18 (y3.1.1, (y3.1.2.1, (y3.1.2.2.1, (y3.1.2.2.2.1, y3.1.2.2.2.2))))) fun y4 =>
 .bd (F20 y2.1 y4.1) fun y5 =>
 .br y5.1 (
 .bd (F21 y2.2.1 y4.2.1) fun y6 =>
 .br y6.1 (
 .br (y2.2.2.1 == y4.2.2.1) (
 .bd (F22 (a0.1, (a0.2.1, (a0.2.2.1, (a0.2.2.2.1, a0.2.2.2.2))))) fun y7 =>
 .bd (F19 (a0.1, (a0.2.1, (a0.2.2.1, (a0.2.2.2.1, a0.2.2.2.2))))) fun y8 =>
 .bd (F23 (y8.1.1, (y8.1.2.1, (y8.1.2.2.1, (y8.1.2.2.2.1, y8.1.2.2.2.2))))) fun y9 =>
 .br (y7.1 == y9.1) (
 .bd (F16) fun y10 =>
 .ret (y10.1, ())) (
 .ret (false, ()))) (
 .ret (false, ()))) (
 .ret (false, ()))) (
 .ret (false, ())))
theorem c3_ok : trF prog f3 = some ⟨49, 1, dd3.er, [.t 2], [some .bool]⟩ := by kernel_rfl
noncomputable def ct3 : Ct := ⟨3, [.c (.hole (.prod tI (.prod tI (.prod tI (.prod (.list (.prod .str tI)) (.list (.prod tI (.prod tI (.prod tI tI)))))))))], .c (.hole .bool), fun x => run0 (F3 x.1)⟩
theorem ct3_ok : ct3.Ok prog := ct_ok mixed cx3_ok func3 c3_ok (enters_of func3 rfl rfl) dd3 (by kernel_rfl) rfl (fun x => by kernel_rfl)

/- 61 -/
noncomputable def cx61 : Cx := mkCxH [] []
theorem cx61_ok : cx61.Ok prog := mkCxH_ok trivial trivial
@[reducible] def p61_0 : Pat := Pat.mk [(1, hL), (2, .c (.ptr 0 0)), (5, hI), (6, hI)] [(0, .cells [.hole tI, .hole tI, .hole tI, .hole (.list (.prod .str tI)), .hole (.list (.prod tI (.prod tI (.prod tI tI))))] false)] [.slot 2] []
@[reducible] def x61_0 : Outs := [(.exit 0, Pat.mk [(2, .c (.ptr 0 0)), (5, hI)] [(0, .cells [.hole tI, .hole tI, .hole tI, .hole (.list (.prod .str tI)), .hole (.list (.prod tI (.prod tI (.prod tI tI))))] false)] [.slot 2] [])]
noncomputable def b61_0 : D prog 30 none 0 := dO [] (pick (kd prog f61) [(0, false)]) 0
noncomputable def g61_0 : List Int × Int × Int × Int × Int × Int × (List (ByteArray × Int)) × (List (Int × Int × Int × Int)) × Unit → Tr0 ((List Int × Int × Int × Int × Int × Int × (List (ByteArray × Int)) × (List (Int × Int × Int × Int)) × Unit) ⊕ ((Int × Int × Int × Int × (List (ByteArray × Int)) × (List (Int × Int × Int × Int)) × Unit))) := fun (v1, v5, v6, c0_0, c0_1, c0_2, c0_3, c0_4, _) =>
 .br (decide (v6 < (((v1).length : Nat) : Int))) (
 .nb v6 (((v1).length : Nat) : Int) <|
 .br (decide ((0 : Int) < ((v1).getD (Int.toNat v6) (0 : Int)))) (
 .nb v6 (((c0_3).length : Nat) : Int) <|
 .ni (v5 + ((c0_3).getD (Int.toNat v6) ((bs []), (0 : Int))).2) <|
 .ni (v6 + (1 : Int)) <|
 .ret (.inl (v1, ((v5 + ((c0_3).getD (Int.toNat v6) ((bs []), (0 : Int))).2), ((v6 + (1 : Int)), (c0_0, (c0_1, (c0_2, (c0_3, (c0_4, ())))))))))) (
 .ni (v6 + (1 : Int)) <|
 .ret (.inl (v1, (v5, ((v6 + (1 : Int)), (c0_0, (c0_1, (c0_2, (c0_3, (c0_4, ()))))))))))) (
 .ret (.inr (v5, (c0_0, (c0_1, (c0_2, (c0_3, (c0_4, ()))))))))
theorem s61_0 : ∀ x, roundE (kzO (p61_0.T ⊕ x61_0.T)) cx61 ar0 [] p61_0 x61_0 (b61_0) (fun y => some (.inl y)) (fun b => some (.inr b)) x = run0 (g61_0 x) := fun x => by kernel_rfl
noncomputable def L61_0 : LoopS prog 30 none 0 := mkLoop mixed cx61 cx61_ok [] rfl p61_0 x61_0 rfl (b61_0) (fun x => run0 (g61_0 x)) (s61_0)
noncomputable def dd61 : D prog 30 none 0 := dO [.l L61_0] (kd prog f61) 0
noncomputable def F61 (a0 : Int × Int × Int × (List (ByteArray × Int)) × List (Int × Int × Int × Int)) (a1 : List Int) : Tr0 (Int × Unit) :=
 .bd (.it g61_0 (a1, ((0 : Int), ((0 : Int), (a0.1, (a0.2.1, (a0.2.2.1, (a0.2.2.2.1, (a0.2.2.2.2, ()))))))))) fun z0 =>
 .ret ((imin z0.2.1 z0.1), ())
theorem c61_ok : trF prog f61 = some ⟨30, 2, dd61.er, [.t 4], [some tI]⟩ := by kernel_rfl
noncomputable def ct61 : Ct := ⟨61, [.c (.hole (.prod tI (.prod tI (.prod tI (.prod (.list (.prod .str tI)) (.list (.prod tI (.prod tI (.prod tI tI))))))))), hL], hI, fun x => run0 (F61 x.1 x.2.1)⟩
theorem ct61_ok : ct61.Ok prog := ct_ok mixed cx61_ok func61 c61_ok (enters_of func61 rfl rfl) dd61 (by kernel_rfl) rfl (fun x => by kernel_rfl)

/- 66 -/
noncomputable def cx66 : Cx := mkCxH [] []
theorem cx66_ok : cx66.Ok prog := mkCxH_ok trivial trivial
noncomputable def dd66 : D prog 17 none 0 := dO [] (kd prog f66) 0
noncomputable def F66 (a0 : ByteArray × Int) (a1 : Int) (a2 : Int × Int) : Tr0 (Bool × Unit) :=
 .ni (a2.1 * a1) <|
 .ni (a0.2 * a2.2) <|
 .ret ((decide ((a0.2 * a2.2) ≤ (a2.1 * a1))), ())
theorem c66_ok : trF prog f66 = some ⟨17, 3, dd66.er, [.t 6], [some .bool]⟩ := by kernel_rfl
noncomputable def ct66 : Ct := ⟨66, [.c (.hole (.prod .str tI)), hI, .c (.hole (.prod tI tI))], .c (.hole .bool), fun x => run0 (F66 x.1 x.2.1 x.2.2.1)⟩
theorem ct66_ok : ct66.Ok prog := ct_ok mixed cx66_ok func66 c66_ok (enters_of func66 rfl rfl) dd66 (by kernel_rfl) rfl (fun x => by kernel_rfl)

/- 73 -/
noncomputable def cx73 : Cx := mkCxH [] []
theorem cx73_ok : cx73.Ok prog := mkCxH_ok trivial trivial
@[reducible] def p73_0 : Pat := Pat.mk [(0, hI), (1, hI), (4, .c (.ptr 0 0)), (5, hI), (6, hI)] [(0, .cells [.hole tI, .hole tI] false)] [.slot 4] []
@[reducible] def x73_0 : Outs := [(.exit 0, Pat.mk [(0, hI), (1, hI), (4, .c (.ptr 0 0)), (5, hI)] [(0, .cells [.hole tI, .hole tI] false)] [.slot 4] [])]
noncomputable def b73_0 : D prog 22 none 0 := dO [] (pick (kd prog f73) [(0, false)]) 0
noncomputable def g73_0 : Int × Int × Int × Int × Int × Int × Unit → Tr0 ((Int × Int × Int × Int × Int × Int × Unit) ⊕ ((Int × Int × Int × Int × Int × Unit))) := fun (v0, v1, v5, v6, c0_0, c0_1, _) =>
 .br (decide ((0 : Int) < v6)) (
 .nd (!(v6 == (0 : Int))) <|
 .ret (.inl (v0, (v1, (v6, ((Int.tmod v5 v6), (c0_0, (c0_1, ())))))))) (
 .ret (.inr (v0, (v1, (v5, (c0_0, (c0_1, ())))))))
theorem s73_0 : ∀ x, roundE (kzO (p73_0.T ⊕ x73_0.T)) cx73 ar0 [] p73_0 x73_0 (b73_0) (fun y => some (.inl y)) (fun b => some (.inr b)) x = run0 (g73_0 x) := fun x => by kernel_rfl
noncomputable def L73_0 : LoopS prog 22 none 0 := mkLoop mixed cx73 cx73_ok [] rfl p73_0 x73_0 rfl (b73_0) (fun x => run0 (g73_0 x)) (s73_0)
noncomputable def dd73 : D prog 22 none 0 := dO [.l L73_0] (kd prog f73) 0
noncomputable def F73 (a0 : Int) (a1 : Int) : Tr0 ((Int × Int) × Unit) :=
 .bd (.it g73_0 (a0, (a1, (a0, (a1, ((0 : Int), ((0 : Int), ()))))))) fun z0 =>
 .nd (!(z0.2.2.1 == (0 : Int))) <|
 .ni (Int.tdiv z0.1 z0.2.2.1) <|
 .nd (!(z0.2.2.1 == (0 : Int))) <|
 .ni (Int.tdiv z0.2.1 z0.2.2.1) <|
 .ret (((Int.tdiv z0.1 z0.2.2.1), (Int.tdiv z0.2.1 z0.2.2.1)), ())
theorem c73_ok : trF prog f73 = some ⟨22, 2, dd73.er, [.cell 4 true 2], [some (.prod tI tI)]⟩ := by kernel_rfl
noncomputable def ct73 : Ct := ⟨73, [hI, hI], .c (.hole (.prod tI tI)), fun x => run0 (F73 x.1 x.2.1)⟩
theorem ct73_ok : ct73.Ok prog := ct_ok mixed cx73_ok func73 c73_ok (enters_of func73 rfl rfl) dd73 (by kernel_rfl) rfl (fun x => by kernel_rfl)

/- 53 -/
noncomputable def cx53 : Cx := mkCxH [ct61, ct66, ct73] []
theorem cx53_ok : cx53.Ok prog := mkCxH_ok ⟨ct61_ok, ct66_ok, ct73_ok, trivial⟩ trivial
@[reducible] def p53_1 : Pat := Pat.mk [(1, hL), (2, .c (.ptr 0 0)), (4, .c (.ptr 1 0)), (5, hI), (6, .c (.ptr 2 0)), (7, hI), (8, hI), (9, hI), (10, hI)] [(0, .cells [.hole tI, .hole tI, .hole tI, .hole (.list (.prod .str tI)), .hole (.list (.prod tI (.prod tI (.prod tI tI))))] false), (1, .cells [.hole tI, .hole tI] false), (2, .cells [.hole tI, .hole tI] false)] [.slot 2, .slot 4, .slot 6] []
@[reducible] def x53_1 : Outs := [(.exit 2, Pat.mk [(1, hL), (2, .c (.ptr 0 0)), (4, .c (.ptr 1 0)), (5, hI), (6, .c (.ptr 2 0)), (7, hI), (8, hI), (9, hI)] [(0, .cells [.hole tI, .hole tI, .hole tI, .hole (.list (.prod .str tI)), .hole (.list (.prod tI (.prod tI (.prod tI tI))))] false), (1, .cells [.hole tI, .hole tI] false), (2, .cells [.hole tI, .hole tI] false)] [.slot 2, .slot 4, .slot 6] [])]
noncomputable def b53_1 : D prog 128 none 0 := dO [] (pick (kd prog f53) [(0, false), (0, false)]) 0
noncomputable def g53_1 : List Int × Int × Int × Int × Int × Int × Int × Int × Int × (List (ByteArray × Int)) × (List (Int × Int × Int × Int)) × Int × Int × Int × Int × Unit → Tr0 ((List Int × Int × Int × Int × Int × Int × Int × Int × Int × (List (ByteArray × Int)) × (List (Int × Int × Int × Int)) × Int × Int × Int × Int × Unit) ⊕ ((List Int × Int × Int × Int × Int × Int × Int × Int × (List (ByteArray × Int)) × (List (Int × Int × Int × Int)) × Int × Int × Int × Int × Unit))) := fun (v1, v5, v7, v8, v9, v10, c0_0, c0_1, c0_2, c0_3, c0_4, c1_0, c1_1, c2_0, c2_1, _) =>
 .br (decide (v10 < (((v1).length : Nat) : Int))) (
 .nb v10 (((v1).length : Nat) : Int) <|
 .br (((v1).getD (Int.toNat v10) (0 : Int)) == (0 : Int)) (
 .ni (v10 + (1 : Int)) <|
 .ret (.inl (v1, (v5, (v7, (v8, (v9, ((v10 + (1 : Int)), (c0_0, (c0_1, (c0_2, (c0_3, (c0_4, (c1_0, (c1_1, (c2_0, (c2_1, ()))))))))))))))))) (
 .nb v10 (((c0_3).length : Nat) : Int) <|
 .nb v10 (((v1).length : Nat) : Int) <|
 .bd (F66 (((c0_3).getD (Int.toNat v10) ((bs []), (0 : Int))).1, ((c0_3).getD (Int.toNat v10) ((bs []), (0 : Int))).2) ((v1).getD (Int.toNat v10) (0 : Int)) (c2_0, c2_1)) fun y1 =>
 .br y1.1 (
 .nb v10 (((c0_3).length : Nat) : Int) <|
 .ni (v8 + ((c0_3).getD (Int.toNat v10) ((bs []), (0 : Int))).2) <|
 .ni (v10 + (1 : Int)) <|
 .ret (.inl (v1, (v5, (v7, ((v8 + ((c0_3).getD (Int.toNat v10) ((bs []), (0 : Int))).2), (v9, ((v10 + (1 : Int)), (c0_0, (c0_1, (c0_2, (c0_3, (c0_4, (c1_0, (c1_1, (c2_0, (c2_1, ()))))))))))))))))) (
 .nb v10 (((v1).length : Nat) : Int) <|
 .ni (v9 + ((v1).getD (Int.toNat v10) (0 : Int))) <|
 .ni (v10 + (1 : Int)) <|
 .ret (.inl (v1, (v5, (v7, (v8, ((v9 + ((v1).getD (Int.toNat v10) (0 : Int))), ((v10 + (1 : Int)), (c0_0, (c0_1, (c0_2, (c0_3, (c0_4, (c1_0, (c1_1, (c2_0, (c2_1, ()))))))))))))))))))) (
 .ret (.inr (v1, (v5, (v7, (v8, (v9, (c0_0, (c0_1, (c0_2, (c0_3, (c0_4, (c1_0, (c1_1, (c2_0, (c2_1, ()))))))))))))))))
theorem s53_1 : ∀ x, roundE (kzO (p53_1.T ⊕ x53_1.T)) cx53 ar0 [] p53_1 x53_1 (b53_1) (fun y => some (.inl y)) (fun b => some (.inr b)) x = run0 (g53_1 x) := fun x => by kernel_rfl
noncomputable def L53_1 : LoopS prog 128 none 0 := mkLoop mixed cx53 cx53_ok [] rfl p53_1 x53_1 rfl (b53_1) (fun x => run0 (g53_1 x)) (s53_1)
@[reducible] def p53_2 : Pat := Pat.mk [(1, hL), (2, .c (.ptr 0 0)), (4, .c (.ptr 1 0)), (5, hI), (6, .c (.ptr 2 0)), (7, hI), (8, hI), (9, hI), (11, .c (.ptr 3 0)), (12, hI)] [(0, .cells [.hole tI, .hole tI, .hole tI, .hole (.list (.prod .str tI)), .hole (.list (.prod tI (.prod tI (.prod tI tI))))] false), (1, .cells [.hole tI, .hole tI] false), (2, .cells [.hole tI, .hole tI] false), (3, .cells [.hole tI, .hole tI] false)] [.slot 2, .slot 4, .slot 6, .slot 11] []
@[reducible] def x53_2 : Outs := [(.exit 5, Pat.mk [(1, hL), (2, .c (.ptr 0 0)), (4, .c (.ptr 1 0)), (5, hI), (6, .c (.ptr 2 0)), (7, hI), (8, hI), (9, hI), (11, .c (.ptr 3 0))] [(0, .cells [.hole tI, .hole tI, .hole tI, .hole (.list (.prod .str tI)), .hole (.list (.prod tI (.prod tI (.prod tI tI))))] false), (1, .cells [.hole tI, .hole tI] false), (2, .cells [.hole tI, .hole tI] false), (3, .cells [.hole tI, .hole tI] false)] [.slot 2, .slot 4, .slot 6, .slot 11] [])]
noncomputable def b53_2 : D prog 128 none 0 := dO [] (pick (kd prog f53) [(0, false), (1, false)]) 0
noncomputable def g53_2 : List Int × Int × Int × Int × Int × Int × Int × Int × Int × (List (ByteArray × Int)) × (List (Int × Int × Int × Int)) × Int × Int × Int × Int × Int × Int × Unit → Tr0 ((List Int × Int × Int × Int × Int × Int × Int × Int × Int × (List (ByteArray × Int)) × (List (Int × Int × Int × Int)) × Int × Int × Int × Int × Int × Int × Unit) ⊕ ((List Int × Int × Int × Int × Int × Int × Int × Int × (List (ByteArray × Int)) × (List (Int × Int × Int × Int)) × Int × Int × Int × Int × Int × Int × Unit))) := fun (v1, v5, v7, v8, v9, v12, c0_0, c0_1, c0_2, c0_3, c0_4, c1_0, c1_1, c2_0, c2_1, c3_0, c3_1, _) =>
 .br (decide (v12 < (((v1).length : Nat) : Int))) (
 .nb v12 (((v1).length : Nat) : Int) <|
 .br (((v1).getD (Int.toNat v12) (0 : Int)) == (0 : Int)) (
 .ni (v12 + (1 : Int)) <|
 .ret (.inl (v1, (v5, (v7, (v8, (v9, ((v12 + (1 : Int)), (c0_0, (c0_1, (c0_2, (c0_3, (c0_4, (c1_0, (c1_1, (c2_0, (c2_1, (c3_0, (c3_1, ()))))))))))))))))))) (
 .nb v12 (((c0_3).length : Nat) : Int) <|
 .nb v12 (((v1).length : Nat) : Int) <|
 .bd (F66 (((c0_3).getD (Int.toNat v12) ((bs []), (0 : Int))).1, ((c0_3).getD (Int.toNat v12) ((bs []), (0 : Int))).2) ((v1).getD (Int.toNat v12) (0 : Int)) (c2_0, c2_1)) fun y4 =>
 .br y4.1 (
 .ni (v12 + (1 : Int)) <|
 .ret (.inl (v1, (v5, (v7, (v8, (v9, ((v12 + (1 : Int)), (c0_0, (c0_1, (c0_2, (c0_3, (c0_4, (c1_0, (c1_1, (c2_0, (c2_1, (c3_0, (c3_1, ()))))))))))))))))))) (
 .nb v12 (((c0_3).length : Nat) : Int) <|
 .nb v12 (((v1).length : Nat) : Int) <|
 .bd (F66 (((c0_3).getD (Int.toNat v12) ((bs []), (0 : Int))).1, ((c0_3).getD (Int.toNat v12) ((bs []), (0 : Int))).2) ((v1).getD (Int.toNat v12) (0 : Int)) (c3_0, c3_1)) fun y5 =>
 .br (!y5.1) (
 .ni (v12 + (1 : Int)) <|
 .ret (.inl (v1, (v5, (v7, (v8, (v9, ((v12 + (1 : Int)), (c0_0, (c0_1, (c0_2, (c0_3, (c0_4, (c1_0, (c1_1, (c2_0, (c2_1, (c3_0, (c3_1, ()))))))))))))))))))) (
 .nb v12 (((c0_3).length : Nat) : Int) <|
 .nb v12 (((v1).length : Nat) : Int) <|
 .bd (F73 ((c0_3).getD (Int.toNat v12) ((bs []), (0 : Int))).2 ((v1).getD (Int.toNat v12) (0 : Int))) fun y6 =>
 .ni (v12 + (1 : Int)) <|
 .ret (.inl (v1, (v5, (v7, (v8, (v9, ((v12 + (1 : Int)), (c0_0, (c0_1, (c0_2, (c0_3, (c0_4, (c1_0, (c1_1, (c2_0, (c2_1, (y6.1.1, (y6.1.2, ())))))))))))))))))))))) (
 .ret (.inr (v1, (v5, (v7, (v8, (v9, (c0_0, (c0_1, (c0_2, (c0_3, (c0_4, (c1_0, (c1_1, (c2_0, (c2_1, (c3_0, (c3_1, ()))))))))))))))))))
theorem s53_2 : ∀ x, roundE (kzO (p53_2.T ⊕ x53_2.T)) cx53 ar0 [] p53_2 x53_2 (b53_2) (fun y => some (.inl y)) (fun b => some (.inr b)) x = run0 (g53_2 x) := fun x => by kernel_rfl
noncomputable def L53_2 : LoopS prog 128 none 0 := mkLoop mixed cx53 cx53_ok [] rfl p53_2 x53_2 rfl (b53_2) (fun x => run0 (g53_2 x)) (s53_2)
@[reducible] def p53_0 : Pat := Pat.mk [(1, hL), (2, .c (.ptr 0 0)), (4, .c (.ptr 1 0)), (5, hI), (6, .c (.ptr 2 0)), (7, hI)] [(0, .cells [.hole tI, .hole tI, .hole tI, .hole (.list (.prod .str tI)), .hole (.list (.prod tI (.prod tI (.prod tI tI))))] false), (1, .cells [.hole tI, .hole tI] false), (2, .cells [.hole tI, .hole tI] false)] [.slot 2, .slot 4, .slot 6] []
@[reducible] def x53_0 : Outs := [(.ret, Pat.mk [(4, .c (.ptr 0 0))] [(0, .cells [.hole tI, .hole tI] false)] [.slot 4] []), (.exit 0, Pat.mk [(4, .c (.ptr 0 0)), (6, .c (.ptr 1 0))] [(0, .cells [.hole tI, .hole tI] false), (1, .cells [.hole tI, .hole tI] false)] [.slot 4, .slot 6] [])]
noncomputable def b53_0 : D prog 128 none 0 := dO [.l L53_1, .l L53_2] (pick (kd prog f53) [(0, false)]) 0
noncomputable def g53_0 : List Int × Int × Int × Int × Int × Int × (List (ByteArray × Int)) × (List (Int × Int × Int × Int)) × Int × Int × Int × Int × Unit → Tr0 ((List Int × Int × Int × Int × Int × Int × (List (ByteArray × Int)) × (List (Int × Int × Int × Int)) × Int × Int × Int × Int × Unit) ⊕ ((Int × Int × Unit) ⊕ ((Int × Int × Int × Int × Unit)))) := fun (v1, v5, v7, c0_0, c0_1, c0_2, c0_3, c0_4, c1_0, c1_1, c2_0, c2_1, _) =>
 .br (decide (v7 ≤ (((v1).length : Nat) : Int))) (
 .bd (.it g53_1 (v1, (v5, (v7, ((0 : Int), ((0 : Int), ((0 : Int), (c0_0, (c0_1, (c0_2, (c0_3, (c0_4, (c1_0, (c1_1, (c2_0, (c2_1, ())))))))))))))))) fun z2 =>
 .br (z2.2.2.2.2.1 == (0 : Int)) (
 .ret (.inr <| .inl <| (z2.2.2.2.2.2.2.2.2.2.2.2.2.1, (z2.2.2.2.2.2.2.2.2.2.2.2.2.2.1, ())))) (
 .ni (z2.2.1 - z2.2.2.2.1) <|
 .bd (F73 (z2.2.1 - z2.2.2.2.1) z2.2.2.2.2.1) fun y3 =>
 .bd (.it g53_2 (z2.1, (z2.2.1, (z2.2.2.1, (z2.2.2.2.1, (z2.2.2.2.2.1, ((0 : Int), (z2.2.2.2.2.2.1, (z2.2.2.2.2.2.2.1, (z2.2.2.2.2.2.2.2.1, (z2.2.2.2.2.2.2.2.2.1, (z2.2.2.2.2.2.2.2.2.2.1, (z2.2.2.2.2.2.2.2.2.2.2.1, (z2.2.2.2.2.2.2.2.2.2.2.2.1, (z2.2.2.2.2.2.2.2.2.2.2.2.2.1, (z2.2.2.2.2.2.2.2.2.2.2.2.2.2.1, (y3.1.1, (y3.1.2, ())))))))))))))))))) fun z7 =>
 .ni (z7.2.1 - z7.2.2.2.1) <|
 .bd (F73 (z7.2.1 - z7.2.2.2.1) z7.2.2.2.2.1) fun y8 =>
 .br ((z7.2.2.2.2.2.2.2.2.2.2.2.2.2.2.1 == y8.1.1) && ((z7.2.2.2.2.2.2.2.2.2.2.2.2.2.2.2.1 == y8.1.2) && true)) (
 .ret (.inr <| .inl <| (z7.2.2.2.2.2.2.2.2.2.2.2.2.2.2.1, (z7.2.2.2.2.2.2.2.2.2.2.2.2.2.2.2.1, ())))) (
 .ni (z7.2.2.1 + (1 : Int)) <|
 .ret (.inl (z7.1, (z7.2.1, ((z7.2.2.1 + (1 : Int)), (z7.2.2.2.2.2.1, (z7.2.2.2.2.2.2.1, (z7.2.2.2.2.2.2.2.1, (z7.2.2.2.2.2.2.2.2.1, (z7.2.2.2.2.2.2.2.2.2.1, (z7.2.2.2.2.2.2.2.2.2.2.1, (z7.2.2.2.2.2.2.2.2.2.2.2.1, (z7.2.2.2.2.2.2.2.2.2.2.2.2.2.2.1, (z7.2.2.2.2.2.2.2.2.2.2.2.2.2.2.2.1, ())))))))))))))))) (
 .ret (.inr <| .inr <| (c1_0, (c1_1, (c2_0, (c2_1, ()))))))
theorem s53_0 : ∀ x, roundE (kzO (p53_0.T ⊕ x53_0.T)) cx53 ar0 [] p53_0 x53_0 (b53_0) (fun y => some (.inl y)) (fun b => some (.inr b)) x = run0 (g53_0 x) := fun x => by kernel_rfl
noncomputable def L53_0 : LoopS prog 128 none 0 := mkLoop mixed cx53 cx53_ok [] rfl p53_0 x53_0 rfl (b53_0) (fun x => run0 (g53_0 x)) (s53_0)
noncomputable def dd53 : D prog 128 none 0 := dO [.l L53_0] (kd prog f53) 0
noncomputable def F53 (a0 : Int × Int × Int × (List (ByteArray × Int)) × List (Int × Int × Int × Int)) (a1 : List Int) : Tr0 ((Int × Int) × Unit) :=
 .bd (F61 (a0.1, (a0.2.1, (a0.2.2.1, (a0.2.2.2.1, a0.2.2.2.2)))) a1) fun y0 =>
 .bd (.it g53_0 (a1, (y0.1, ((0 : Int), (a0.1, (a0.2.1, (a0.2.2.1, (a0.2.2.2.1, (a0.2.2.2.2, ((0 : Int), ((0 : Int), ((0 : Int), ((1 : Int), ()))))))))))))) fun z9 =>
 .sm z9 (fun z10 =>
 .ret ((z10.1, z10.2.1), ())) fun z11 =>
 .ret ((z11.2.2.1, z11.2.2.2.1), ())
theorem c53_ok : trF prog f53 = some ⟨128, 2, dd53.er, [.cell 4 true 2], [some (.prod tI tI)]⟩ := by kernel_rfl
noncomputable def ct53 : Ct := ⟨53, [.c (.hole (.prod tI (.prod tI (.prod tI (.prod (.list (.prod .str tI)) (.list (.prod tI (.prod tI (.prod tI tI))))))))), hL], .c (.hole (.prod tI tI)), fun x => run0 (F53 x.1 x.2.1)⟩
theorem ct53_ok : ct53.Ok prog := ct_ok mixed cx53_ok func53 c53_ok (enters_of func53 rfl rfl) dd53 (by kernel_rfl) rfl (fun x => by kernel_rfl)

/- 25 -/
noncomputable def cx25 : Cx := mkCxH [ct23, ct45, ct53] []
theorem cx25_ok : cx25.Ok prog := mkCxH_ok ⟨ct23_ok, ct45_ok, ct53_ok, trivial⟩ trivial
noncomputable def dd25 : D prog 26 none 0 := dO [] (kd prog f25) 0
noncomputable def F25 (a0 : Int × Int × Int × (List (ByteArray × Int)) × List (Int × Int × Int × Int)) : Tr0 (Int × Int × Int × Unit) :=
 .bd (F23 (a0.1, (a0.2.1, (a0.2.2.1, (a0.2.2.2.1, a0.2.2.2.2))))) fun y0 =>
 .br (!(y0.1 == (0 : Int))) (
 .ret ((0 : Int), ((0 : Int), (y0.1, ())))) (
 .bd (F45 (a0.1, (a0.2.1, (a0.2.2.1, (a0.2.2.2.1, a0.2.2.2.2))))) fun y1 =>
 .bd (F53 (a0.1, (a0.2.1, (a0.2.2.1, (a0.2.2.2.1, a0.2.2.2.2)))) y1.1) fun y2 =>
 .ret (y2.1.1, (y2.1.2, ((0 : Int), ()))))
theorem c25_ok : trF prog f25 = some ⟨26, 1, dd25.er, [.t 2, .t 3, .t 4], [some tI, some tI, some tI]⟩ := by kernel_rfl
noncomputable def ct25 : Ct := ⟨25, [.c (.hole (.prod tI (.prod tI (.prod tI (.prod (.list (.prod .str tI)) (.list (.prod tI (.prod tI (.prod tI tI)))))))))], .tup [.hole tI, .hole tI, .hole tI], fun x => run0 (F25 x.1)⟩
theorem ct25_ok : ct25.Ok prog := ct_ok mixed cx25_ok func25 c25_ok (enters_of func25 rfl rfl) dd25 (by kernel_rfl) rfl (fun x => by kernel_rfl)

/- 62 -/
noncomputable def cx62 : Cx := mkCxH [ct66] []
theorem cx62_ok : cx62.Ok prog := mkCxH_ok ⟨ct66_ok, trivial⟩ trivial
noncomputable def dd62 : D prog 28 none 0 := dO [] (kd prog f62) 0
noncomputable def F62 (a0 : ByteArray × Int) (a1 : Int) (a2 : Int × Int) : Tr0 (Int × Int × Unit) :=
 .bd (F66 (a0.1, a0.2) a1 (a2.1, a2.2)) fun y0 =>
 .br y0.1 (
 .ret (a0.2, ((0 : Int), ()))) (
 .ni (a2.1 * a1) <|
 .nd (!(a2.2 == (0 : Int))) <|
 .ni (Int.tdiv (a2.1 * a1) a2.2) <|
 .ni (a2.1 * a1) <|
 .nd (!(a2.2 == (0 : Int))) <|
 .ret ((Int.tdiv (a2.1 * a1) a2.2), ((Int.tmod (a2.1 * a1) a2.2), ())))
theorem c62_ok : trF prog f62 = some ⟨28, 3, dd62.er, [.t 6, .t 7], [some tI, some tI]⟩ := by kernel_rfl
noncomputable def ct62 : Ct := ⟨62, [.c (.hole (.prod .str tI)), hI, .c (.hole (.prod tI tI))], .tup [.hole tI, .hole tI], fun x => run0 (F62 x.1 x.2.1 x.2.2.1)⟩
theorem ct62_ok : ct62.Ok prog := ct_ok mixed cx62_ok func62 c62_ok (enters_of func62 rfl rfl) dd62 (by kernel_rfl) rfl (fun x => by kernel_rfl)

/- 27 -/
noncomputable def cx27 : Cx := mkCxH [ct23, ct45, ct53, ct61, ct62] []
theorem cx27_ok : cx27.Ok prog := mkCxH_ok ⟨ct23_ok, ct45_ok, ct53_ok, ct61_ok, ct62_ok, trivial⟩ trivial
@[reducible] def p27_0 : Pat := Pat.mk [(1, .c (.ptr 0 0)), (5, hL), (7, .c (.ptr 1 0)), (8, hI), (9, .c (.sl0 2 tI)), (10, .c (.sl0 3 tI)), (11, hI)] [(0, .cells [.hole tI, .hole tI, .hole tI, .hole (.list (.prod .str tI)), .hole (.list (.prod tI (.prod tI (.prod tI tI))))] false), (1, .cells [.hole tI, .hole tI] false), (2, .arr tI false), (3, .arr tI false)] [.slot 1, .slot 7, .slot 9, .slot 10] []
@[reducible] def x27_0 : Outs := [(.exit 0, Pat.mk [(1, .c (.ptr 0 0)), (8, hI), (9, .c (.sl0 1 tI)), (10, .c (.sl0 2 tI))] [(0, .cells [.hole tI, .hole tI, .hole tI, .hole (.list (.prod .str tI)), .hole (.list (.prod tI (.prod tI (.prod tI tI))))] false), (1, .arr tI false), (2, .arr tI false)] [.slot 1, .slot 9, .slot 10] [])]
noncomputable def b27_0 : D prog 119 none 0 := dO [] (pick (kd prog f27) [(0, false)]) 0
noncomputable def g27_0 : List Int × Int × Nat × Nat × Int × Int × Int × Int × (List (ByteArray × Int)) × (List (Int × Int × Int × Int)) × Int × Int × List Int × List Int × Unit → Tr0 ((List Int × Int × Nat × Nat × Int × Int × Int × Int × (List (ByteArray × Int)) × (List (Int × Int × Int × Int)) × Int × Int × List Int × List Int × Unit) ⊕ ((Int × Nat × Nat × Int × Int × Int × (List (ByteArray × Int)) × (List (Int × Int × Int × Int)) × List Int × List Int × Unit))) := fun (v5, v8, nv9, nv10, v11, c0_0, c0_1, c0_2, c0_3, c0_4, c1_0, c1_1, b2, b3, _) =>
 .br (decide (v11 < (((v5).length : Nat) : Int))) (
 .nb v11 (((c0_3).length : Nat) : Int) <|
 .nb v11 (((v5).length : Nat) : Int) <|
 .bd (F62 (((c0_3).getD (Int.toNat v11) ((bs []), (0 : Int))).1, ((c0_3).getD (Int.toNat v11) ((bs []), (0 : Int))).2) ((v5).getD (Int.toNat v11) (0 : Int)) (c1_0, c1_1)) fun y4 =>
 .nd (decide ((nv9 + (((((y4.1 :: [])).drop (0 : Nat)).take (1 : Nat))).length) < bigL)) <|
 .nd (decide ((nv10 + (((((y4.2.1 :: [])).drop (0 : Nat)).take (1 : Nat))).length) < bigL)) <|
 .ni (v8 - y4.1) <|
 .ni (v11 + (1 : Int)) <|
 .ret (.inl (v5, ((v8 - y4.1), ((nv9 + (((((y4.1 :: [])).drop (0 : Nat)).take (1 : Nat))).length), ((nv10 + (((((y4.2.1 :: [])).drop (0 : Nat)).take (1 : Nat))).length), ((v11 + (1 : Int)), (c0_0, (c0_1, (c0_2, (c0_3, (c0_4, (c1_0, (c1_1, (((((b2).drop (0 : Nat)).take nv9) ++ ((((y4.1 :: [])).drop (0 : Nat)).take (1 : Nat))), (((((b3).drop (0 : Nat)).take nv10) ++ ((((y4.2.1 :: [])).drop (0 : Nat)).take (1 : Nat))), ())))))))))))))))) (
 .ret (.inr (v8, (nv9, (nv10, (c0_0, (c0_1, (c0_2, (c0_3, (c0_4, (b2, (b3, ()))))))))))))
theorem s27_0 : ∀ x, roundE (kzO (p27_0.T ⊕ x27_0.T)) cx27 ar0 [] p27_0 x27_0 (b27_0) (fun y => some (.inl y)) (fun b => some (.inr b)) x = run0 (g27_0 x) := fun x => by kernel_rfl
noncomputable def L27_0 : LoopS prog 119 none 0 := mkLoop mixed cx27 cx27_ok [] rfl p27_0 x27_0 rfl (b27_0) (fun x => run0 (g27_0 x)) (s27_0)
@[reducible] def p27_2 : Pat := Pat.mk [(1, .c (.ptr 0 0)), (8, hI), (9, .c (.sl0 1 tI)), (10, .c (.sl0 2 tI)), (14, hI), (15, hI)] [(0, .cells [.hole tI, .hole tI, .hole tI, .hole (.list (.prod .str tI)), .hole (.list (.prod tI (.prod tI (.prod tI tI))))] false), (1, .arr tI false), (2, .arr tI false)] [.slot 1, .slot 9, .slot 10] []
@[reducible] def x27_2 : Outs := [(.exit 4, Pat.mk [(1, .c (.ptr 0 0)), (8, hI), (9, .c (.sl0 1 tI)), (10, .c (.sl0 2 tI)), (14, hI)] [(0, .cells [.hole tI, .hole tI, .hole tI, .hole (.list (.prod .str tI)), .hole (.list (.prod tI (.prod tI (.prod tI tI))))] false), (1, .arr tI false), (2, .arr tI false)] [.slot 1, .slot 9, .slot 10] [])]
noncomputable def b27_2 : D prog 119 none 0 := dO [] (pick (kd prog f27) [(1, false), (0, false)]) 0
noncomputable def g27_2 : Int × Nat × Nat × Int × Int × Int × Int × Int × (List (ByteArray × Int)) × (List (Int × Int × Int × Int)) × List Int × List Int × Unit → Tr0 ((Int × Nat × Nat × Int × Int × Int × Int × Int × (List (ByteArray × Int)) × (List (Int × Int × Int × Int)) × List Int × List Int × Unit) ⊕ ((Int × Nat × Nat × Int × Int × Int × Int × (List (ByteArray × Int)) × (List (Int × Int × Int × Int)) × List Int × List Int × Unit))) := fun (v8, nv9, nv10, v14, v15, c0_0, c0_1, c0_2, c0_3, c0_4, b1, b2, _) =>
 .br (decide (v15 < ((nv10 : Nat) : Int))) (
 .nb v15 ((nv10 : Nat) : Int) <|
 .nd (decide (((0 : Nat) + (Int.toNat v15)) < (b2).length)) <|
 .nb v14 ((nv10 : Nat) : Int) <|
 .nd (decide (((0 : Nat) + (Int.toNat v14)) < (b2).length)) <|
 .br (decide (((b2).getD ((0 : Nat) + (Int.toNat v14)) (0 : Int)) < ((b2).getD ((0 : Nat) + (Int.toNat v15)) (0 : Int)))) (
 .ni (v15 + (1 : Int)) <|
 .ret (.inl (v8, (nv9, (nv10, (v15, ((v15 + (1 : Int)), (c0_0, (c0_1, (c0_2, (c0_3, (c0_4, (b1, (b2, ())))))))))))))) (
 .nb v15 ((nv10 : Nat) : Int) <|
 .nd (decide (((0 : Nat) + (Int.toNat v15)) < (b2).length)) <|
 .nb v14 ((nv10 : Nat) : Int) <|
 .nd (decide (((0 : Nat) + (Int.toNat v14)) < (b2).length)) <|
 .br (((b2).getD ((0 : Nat) + (Int.toNat v15)) (0 : Int)) == ((b2).getD ((0 : Nat) + (Int.toNat v14)) (0 : Int))) (
 .nb v15 (((c0_3).length : Nat) : Int) <|
 .nb v14 (((c0_3).length : Nat) : Int) <|
 .br (slt ((c0_3).getD (Int.toNat v15) ((bs []), (0 : Int))).1 ((c0_3).getD (Int.toNat v14) ((bs []), (0 : Int))).1) (
 .ni (v15 + (1 : Int)) <|
 .ret (.inl (v8, (nv9, (nv10, (v15, ((v15 + (1 : Int)), (c0_0, (c0_1, (c0_2, (c0_3, (c0_4, (b1, (b2, ())))))))))))))) (
 .ni (v15 + (1 : Int)) <|
 .ret (.inl (v8, (nv9, (nv10, (v14, ((v15 + (1 : Int)), (c0_0, (c0_1, (c0_2, (c0_3, (c0_4, (b1, (b2, ()))))))))))))))) (
 .ni (v15 + (1 : Int)) <|
 .ret (.inl (v8, (nv9, (nv10, (v14, ((v15 + (1 : Int)), (c0_0, (c0_1, (c0_2, (c0_3, (c0_4, (b1, (b2, ())))))))))))))))) (
 .ret (.inr (v8, (nv9, (nv10, (v14, (c0_0, (c0_1, (c0_2, (c0_3, (c0_4, (b1, (b2, ())))))))))))))
theorem s27_2 : ∀ x, roundE (kzO (p27_2.T ⊕ x27_2.T)) cx27 ar0 [] p27_2 x27_2 (b27_2) (fun y => some (.inl y)) (fun b => some (.inr b)) x = run0 (g27_2 x) := fun x => by kernel_rfl
noncomputable def L27_2 : LoopS prog 119 none 0 := mkLoop mixed cx27 cx27_ok [] rfl p27_2 x27_2 rfl (b27_2) (fun x => run0 (g27_2 x)) (s27_2)
@[reducible] def p27_1 : Pat := Pat.mk [(1, .c (.ptr 0 0)), (8, hI), (9, .c (.sl0 1 tI)), (10, .c (.sl0 2 tI))] [(0, .cells [.hole tI, .hole tI, .hole tI, .hole (.list (.prod .str tI)), .hole (.list (.prod tI (.prod tI (.prod tI tI))))] false), (1, .arr tI false), (2, .arr tI false)] [.slot 1, .slot 9, .slot 10] []
@[reducible] def x27_1 : Outs := [(.exit 2, Pat.mk [(9, .c (.sl0 0 tI))] [(0, .arr tI false)] [.slot 9] [])]
noncomputable def b27_1 : D prog 119 none 0 := dO [.l L27_2] (pick (kd prog f27) [(1, false)]) 0
noncomputable def g27_1 : Int × Nat × Nat × Int × Int × Int × (List (ByteArray × Int)) × (List (Int × Int × Int × Int)) × List Int × List Int × Unit → Tr0 ((Int × Nat × Nat × Int × Int × Int × (List (ByteArray × Int)) × (List (Int × Int × Int × Int)) × List Int × List Int × Unit) ⊕ ((Nat × List Int × Unit))) := fun (v8, nv9, nv10, c0_0, c0_1, c0_2, c0_3, c0_4, b1, b2, _) =>
 .br (decide ((0 : Int) < v8)) (
 .bd (.it g27_2 (v8, (nv9, (nv10, ((0 : Int), ((0 : Int), (c0_0, (c0_1, (c0_2, (c0_3, (c0_4, (b1, (b2, ()))))))))))))) fun z6 =>
 .nb z6.2.2.2.1 ((z6.2.1 : Nat) : Int) <|
 .nd (decide (((0 : Nat) + (Int.toNat z6.2.2.2.1)) < (z6.2.2.2.2.2.2.2.2.2.1).length)) <|
 .ni (((z6.2.2.2.2.2.2.2.2.2.1).getD ((0 : Nat) + (Int.toNat z6.2.2.2.1)) (0 : Int)) + (1 : Int)) <|
 .nb z6.2.2.2.1 ((z6.2.1 : Nat) : Int) <|
 .nd (decide (((0 : Nat) + (Int.toNat z6.2.2.2.1)) < (z6.2.2.2.2.2.2.2.2.2.1).length)) <|
 .nb z6.2.2.2.1 ((z6.2.2.1 : Nat) : Int) <|
 .nd (decide (((0 : Nat) + (Int.toNat z6.2.2.2.1)) < (z6.2.2.2.2.2.2.2.2.2.2.1).length)) <|
 .ni (z6.1 - (1 : Int)) <|
 .ret (.inl ((z6.1 - (1 : Int)), (z6.2.1, (z6.2.2.1, (z6.2.2.2.2.1, (z6.2.2.2.2.2.1, (z6.2.2.2.2.2.2.1, (z6.2.2.2.2.2.2.2.1, (z6.2.2.2.2.2.2.2.2.1, (((z6.2.2.2.2.2.2.2.2.2.1).set ((0 : Nat) + (Int.toNat z6.2.2.2.1)) (((z6.2.2.2.2.2.2.2.2.2.1).getD ((0 : Nat) + (Int.toNat z6.2.2.2.1)) (0 : Int)) + (1 : Int))), (((z6.2.2.2.2.2.2.2.2.2.2.1).set ((0 : Nat) + (Int.toNat z6.2.2.2.1)) (0 : Int)), ())))))))))))) (
 .ret (.inr (nv9, (b1, ()))))
theorem s27_1 : ∀ x, roundE (kzO (p27_1.T ⊕ x27_1.T)) cx27 ar0 [] p27_1 x27_1 (b27_1) (fun y => some (.inl y)) (fun b => some (.inr b)) x = run0 (g27_1 x) := fun x => by kernel_rfl
noncomputable def L27_1 : LoopS prog 119 none 0 := mkLoop mixed cx27 cx27_ok [] rfl p27_1 x27_1 rfl (b27_1) (fun x => run0 (g27_1 x)) (s27_1)
noncomputable def dd27 : D prog 119 none 0 := dO [.l L27_0, .l L27_1] (kd prog f27) 0
noncomputable def F27 (a0 : Int × Int × Int × (List (ByteArray × Int)) × List (Int × Int × Int × Int)) : Tr0 (List Int × Int × Unit) :=
 .bd (F23 (a0.1, (a0.2.1, (a0.2.2.1, (a0.2.2.2.1, a0.2.2.2.2))))) fun y0 =>
 .br (!(y0.1 == (0 : Int))) (
 .ret ([], (y0.1, ()))) (
 .bd (F45 (a0.1, (a0.2.1, (a0.2.2.1, (a0.2.2.2.1, a0.2.2.2.2))))) fun y1 =>
 .bd (F53 (a0.1, (a0.2.1, (a0.2.2.1, (a0.2.2.2.1, a0.2.2.2.2)))) y1.1) fun y2 =>
 .bd (F61 (a0.1, (a0.2.1, (a0.2.2.1, (a0.2.2.2.1, a0.2.2.2.2)))) y1.1) fun y3 =>
 .bd (.it g27_0 (y1.1, (y3.1, ((0 : Nat), ((0 : Nat), ((0 : Int), (a0.1, (a0.2.1, (a0.2.2.1, (a0.2.2.2.1, (a0.2.2.2.2, (y2.1.1, (y2.1.2, ([], ([], ()))))))))))))))) fun z5 =>
 .bd (.it g27_1 (z5.1, (z5.2.1, (z5.2.2.1, (z5.2.2.2.1, (z5.2.2.2.2.1, (z5.2.2.2.2.2.1, (z5.2.2.2.2.2.2.1, (z5.2.2.2.2.2.2.2.1, (z5.2.2.2.2.2.2.2.2.1, (z5.2.2.2.2.2.2.2.2.2.1, ()))))))))))) fun z7 =>
 .ret ((((z7.2.1).drop (0 : Nat)).take z7.1), ((0 : Int), ())))
theorem c27_ok : trF prog f27 = some ⟨119, 1, dd27.er, [.t 2, .t 3], [some tL, some tI]⟩ := by kernel_rfl
noncomputable def ct27 : Ct := ⟨27, [.c (.hole (.prod tI (.prod tI (.prod tI (.prod (.list (.prod .str tI)) (.list (.prod tI (.prod tI (.prod tI tI)))))))))], .tup [.hole tL, .hole tI], fun x => run0 (F27 x.1)⟩
theorem ct27_ok : ct27.Ok prog := ct_ok mixed cx27_ok func27 c27_ok (enters_of func27 rfl rfl) dd27 (by kernel_rfl) rfl (fun x => by kernel_rfl)

/- 29 -/
noncomputable def cx29 : Cx := mkCxH [ct23, ct45, ct61] []
theorem cx29_ok : cx29.Ok prog := mkCxH_ok ⟨ct23_ok, ct45_ok, ct61_ok, trivial⟩ trivial
noncomputable def dd29 : D prog 23 none 0 := dO [] (kd prog f29) 0
noncomputable def F29 (a0 : Int × Int × Int × (List (ByteArray × Int)) × List (Int × Int × Int × Int)) : Tr0 (Int × Int × Unit) :=
 .bd (F23 (a0.1, (a0.2.1, (a0.2.2.1, (a0.2.2.2.1, a0.2.2.2.2))))) fun y0 =>
 .br (!(y0.1 == (0 : Int))) (
 .ret ((0 : Int), (y0.1, ()))) (
 .bd (F45 (a0.1, (a0.2.1, (a0.2.2.1, (a0.2.2.2.1, a0.2.2.2.2))))) fun y1 =>
 .bd (F61 (a0.1, (a0.2.1, (a0.2.2.1, (a0.2.2.2.1, a0.2.2.2.2)))) y1.1) fun y2 =>
 .ni (a0.1 - y2.1) <|
 .ret ((a0.1 - y2.1), ((0 : Int), ())))
theorem c29_ok : trF prog f29 = some ⟨23, 1, dd29.er, [.t 2, .t 3], [some tI, some tI]⟩ := by kernel_rfl
noncomputable def ct29 : Ct := ⟨29, [.c (.hole (.prod tI (.prod tI (.prod tI (.prod (.list (.prod .str tI)) (.list (.prod tI (.prod tI (.prod tI tI)))))))))], .tup [.hole tI, .hole tI], fun x => run0 (F29 x.1)⟩
theorem ct29_ok : ct29.Ok prog := ct_ok mixed cx29_ok func29 c29_ok (enters_of func29 rfl rfl) dd29 (by kernel_rfl) rfl (fun x => by kernel_rfl)

/- 4 -/
noncomputable def cx4 : Cx := mkCxH [ct15, ct16, ct19, ct24, ct25, ct26, ct27, ct28, ct29, ct20] []
theorem cx4_ok : cx4.Ok prog := mkCxH_ok ⟨ct15_ok, ct16_ok, ct19_ok, ct24_ok, ct25_ok, ct26_ok, ct27_ok, ct28_ok, ct29_ok, ct20_ok, trivial⟩ trivial
noncomputable def dd4 : D prog 91 none 0 := dO [] (kd prog f4) 0
noncomputable def F4 (a0 : Int × Int × Int × (List (ByteArray × Int)) × List (Int × Int × Int × Int)) : Tr0 (Bool × Unit) :=
 .bd (F15 (a0.1, (a0.2.1, (a0.2.2.1, (a0.2.2.2.1, a0.2.2.2.2))))) fun y0 =>
 .br y0.1 (
 .bd (F16) fun y1 =>
 .ret (y1.1, ())) (
 .bd (F19 (a0.1, (a0.2.1, (a0.2.2.1, (a0.2.2.2.1, a0.2.2.2.2))))) fun y2 =>
 .bd (F24 (a0.1, (a0.2.1, (a0.2.2.1, (a0.2.2.2.1, a0.2.2.2.2))))) fun y3 =>
 .bd (F25 (y2.1.1, (y2.1.2.1, (y2.1.2.2.1, (y2.1.2.2.2.1, y2.1.2.2.2.2))))) fun y4 =>
 .bd (F26 (a0.1, (a0.2.1, (a0.2.2.1, (a0.2.2.2.1, a0.2.2.2.2))))) fun y5 =>
 .bd (F27 (y2.1.1, (y2.1.2.1, (y2.1.2.2.1, (y2.1.2.2.2.1, y2.1.2.2.2.2))))) fun y6 =>
 .bd (F28 (a0.1, (a0.2.1, (a0.2.2.1, (a0.2.2.2.1, a0.2.2.2.2))))) fun y7 =>
 .bd (F29 (y2.1.1, (y2.1.2.1, (y2.1.2.2.1, (y2.1.2.2.2.1, y2.1.2.2.2.2))))) fun y8 =>
 .br (y3.1 == y4.1) (
 .br (y3.2.1 == y4.2.1) (
 .br (y3.2.2.1 == y4.2.2.1) (
 .bd (F20 y5.1 y6.1) fun y9 =>
 .br y9.1 (
 .br (y5.2.1 == y6.2.1) (
 .br (y7.1 == y8.1) (
 .br (y7.2.1 == y8.2.1) (
 .bd (F16) fun y10 =>
 .ret (y10.1, ())) (
 .ret (false, ()))) (
 .ret (false, ()))) (
 .ret (false, ()))) (
 .ret (false, ()))) (
 .ret (false, ()))) (
 .ret (false, ()))) (
 .ret (false, ())))
theorem c4_ok : trF prog f4 = some ⟨91, 1, dd4.er, [.t 2], [some .bool]⟩ := by kernel_rfl
noncomputable def ct4 : Ct := ⟨4, [.c (.hole (.prod tI (.prod tI (.prod tI (.prod (.list (.prod .str tI)) (.list (.prod tI (.prod tI (.prod tI tI)))))))))], .c (.hole .bool), fun x => run0 (F4 x.1)⟩
theorem ct4_ok : ct4.Ok prog := ct_ok mixed cx4_ok func4 c4_ok (enters_of func4 rfl rfl) dd4 (by kernel_rfl) rfl (fun x => by kernel_rfl)

/- 31 -/
noncomputable def cx31 : Cx := mkCxH [ct23, ct45, ct53, ct62] []
theorem cx31_ok : cx31.Ok prog := mkCxH_ok ⟨ct23_ok, ct45_ok, ct53_ok, ct62_ok, trivial⟩ trivial
@[reducible] def p31_1 : Pat := Pat.mk [(1, .c (.ptr 0 0)), (6, .c (.hole (.list (.prod tI tI)))), (7, .c (.sl0 1 (.prod tI tI))), (8, hI), (9, .c (.sl0 2 tI)), (10, .c (.sl0 3 tI)), (11, hI)] [(0, .cells [.hole tI, .hole tI, .hole tI, .hole (.list (.prod .str tI)), .hole (.list (.prod tI (.prod tI (.prod tI tI))))] false), (1, .arr (.prod tI tI) false), (2, .arr tI false), (3, .arr tI false)] [.slot 1, .slot 7, .slot 9, .slot 10] []
@[reducible] def x31_1 : Outs := [(.exit 2, Pat.mk [(1, .c (.ptr 0 0)), (6, .c (.hole (.list (.prod tI tI)))), (7, .c (.sl0 1 (.prod tI tI))), (8, hI), (9, .c (.sl0 2 tI)), (10, .c (.sl0 3 tI))] [(0, .cells [.hole tI, .hole tI, .hole tI, .hole (.list (.prod .str tI)), .hole (.list (.prod tI (.prod tI (.prod tI tI))))] false), (1, .arr (.prod tI tI) false), (2, .arr tI false), (3, .arr tI false)] [.slot 1, .slot 7, .slot 9, .slot 10] [])]
noncomputable def b31_1 : D prog 116 none 0 := dO [] (pick (kd prog f31) [(0, false), (0, false)]) 0
noncomputable def g31_1 : (List (Int × Int)) × Nat × Int × Nat × Nat × Int × Int × Int × Int × (List (ByteArray × Int)) × (List (Int × Int × Int × Int)) × (List (Int × Int)) × List Int × List Int × Unit → Tr0 (((List (Int × Int)) × Nat × Int × Nat × Nat × Int × Int × Int × Int × (List (ByteArray × Int)) × (List (Int × Int × Int × Int)) × (List (Int × Int)) × List Int × List Int × Unit) ⊕ (((List (Int × Int)) × Nat × Int × Nat × Nat × Int × Int × Int × (List (ByteArray × Int)) × (List (Int × Int × Int × Int)) × (List (Int × Int)) × List Int × List Int × Unit))) := fun (v6, nv7, v8, nv9, nv10, v11, c0_0, c0_1, c0_2, c0_3, c0_4, b1, b2, b3, _) =>
 .br (decide (v11 < (((v6).length : Nat) : Int))) (
 .br (v11 == v8) (
 .nb v11 (((v6).length : Nat) : Int) <|
 .nd (decide ((nv9 + (((((((v6).getD (Int.toNat v11) ((0 : Int), (0 : Int))).1 :: [])).drop (0 : Nat)).take (1 : Nat))).length) < bigL)) <|
 .nb v11 (((v6).length : Nat) : Int) <|
 .nd (decide ((nv10 + (((((((v6).getD (Int.toNat v11) ((0 : Int), (0 : Int))).2 :: [])).drop (0 : Nat)).take (1 : Nat))).length) < bigL)) <|
 .ni (v11 + (1 : Int)) <|
 .ret (.inl (v6, (nv7, (v8, ((nv9 + (((((((v6).getD (Int.toNat v11) ((0 : Int), (0 : Int))).1 :: [])).drop (0 : Nat)).take (1 : Nat))).length), ((nv10 + (((((((v6).getD (Int.toNat v11) ((0 : Int), (0 : Int))).2 :: [])).drop (0 : Nat)).take (1 : Nat))).length), ((v11 + (1 : Int)), (c0_0, (c0_1, (c0_2, (c0_3, (c0_4, (b1, (((((b2).drop (0 : Nat)).take nv9) ++ ((((((v6).getD (Int.toNat v11) ((0 : Int), (0 : Int))).1 :: [])).drop (0 : Nat)).take (1 : Nat))), (((((b3).drop (0 : Nat)).take nv10) ++ ((((((v6).getD (Int.toNat v11) ((0 : Int), (0 : Int))).2 :: [])).drop (0 : Nat)).take (1 : Nat))), ())))))))))))))))) (
 .nb v11 (((v6).length : Nat) : Int) <|
 .nd (decide ((nv9 + (((((((v6).getD (Int.toNat v11) ((0 : Int), (0 : Int))).2 :: [])).drop (0 : Nat)).take (1 : Nat))).length) < bigL)) <|
 .nb v11 (((v6).length : Nat) : Int) <|
 .nd (decide ((nv10 + (((((((v6).getD (Int.toNat v11) ((0 : Int), (0 : Int))).1 :: [])).drop (0 : Nat)).take (1 : Nat))).length) < bigL)) <|
 .ni (v11 + (1 : Int)) <|
 .ret (.inl (v6, (nv7, (v8, ((nv9 + (((((((v6).getD (Int.toNat v11) ((0 : Int), (0 : Int))).2 :: [])).drop (0 : Nat)).take (1 : Nat))).length), ((nv10 + (((((((v6).getD (Int.toNat v11) ((0 : Int), (0 : Int))).1 :: [])).drop (0 : Nat)).take (1 : Nat))).length), ((v11 + (1 : Int)), (c0_0, (c0_1, (c0_2, (c0_3, (c0_4, (b1, (((((b2).drop (0 : Nat)).take nv9) ++ ((((((v6).getD (Int.toNat v11) ((0 : Int), (0 : Int))).2 :: [])).drop (0 : Nat)).take (1 : Nat))), (((((b3).drop (0 : Nat)).take nv10) ++ ((((((v6).getD (Int.toNat v11) ((0 : Int), (0 : Int))).1 :: [])).drop (0 : Nat)).take (1 : Nat))), ()))))))))))))))))) (
 .ret (.inr (v6, (nv7, (v8, (nv9, (nv10, (c0_0, (c0_1, (c0_2, (c0_3, (c0_4, (b1, (b2, (b3, ())))))))))))))))
theorem s31_1 : ∀ x, roundE (kzO (p31_1.T ⊕ x31_1.T)) cx31 ar0 [] p31_1 x31_1 (b31_1) (fun y => some (.inl y)) (fun b => some (.inr b)) x = run0 (g31_1 x) := fun x => by kernel_rfl
noncomputable def L31_1 : LoopS prog 116 none 0 := mkLoop mixed cx31 cx31_ok [] rfl p31_1 x31_1 rfl (b31_1) (fun x => run0 (g31_1 x)) (s31_1)
@[reducible] def p31_0 : Pat := Pat.mk [(1, .c (.ptr 0 0)), (6, .c (.hole (.list (.prod tI tI)))), (7, .c (.sl0 1 (.prod tI tI))), (8, hI)] [(0, .cells [.hole tI, .hole tI, .hole tI, .hole (.list (.prod .str tI)), .hole (.list (.prod tI (.prod tI (.prod tI tI))))] false), (1, .arr (.prod tI tI) false)] [.slot 1, .slot 7] []
@[reducible] def x31_0 : Outs := [(.exit 0, Pat.mk [(7, .c (.sl0 0 (.prod tI tI)))] [(0, .arr (.prod tI tI) false)] [.slot 7] [])]
noncomputable def b31_0 : D prog 116 none 0 := dO [.l L31_1] (pick (kd prog f31) [(0, false)]) 0
noncomputable def g31_0 : (List (Int × Int)) × Nat × Int × Int × Int × Int × (List (ByteArray × Int)) × (List (Int × Int × Int × Int)) × (List (Int × Int)) × Unit → Tr0 (((List (Int × Int)) × Nat × Int × Int × Int × Int × (List (ByteArray × Int)) × (List (Int × Int × Int × Int)) × (List (Int × Int)) × Unit) ⊕ ((Nat × (List (Int × Int)) × Unit))) := fun (v6, nv7, v8, c0_0, c0_1, c0_2, c0_3, c0_4, b1, _) =>
 .br (decide (v8 < (((v6).length : Nat) : Int))) (
 .bd (.it g31_1 (v6, (nv7, (v8, ((0 : Nat), ((0 : Nat), ((0 : Int), (c0_0, (c0_1, (c0_2, (c0_3, (c0_4, (b1, ([], ([], ()))))))))))))))) fun z2 =>
 .nb z2.2.2.1 (((z2.2.2.2.2.2.2.2.2.1).length : Nat) : Int) <|
 .nb z2.2.2.1 ((z2.2.2.2.1 : Nat) : Int) <|
 .nd (decide (((0 : Nat) + (Int.toNat z2.2.2.1)) < (z2.2.2.2.2.2.2.2.2.2.2.2.1).length)) <|
 .bd (F53 (z2.2.2.2.2.2.1, (z2.2.2.2.2.2.2.1, (z2.2.2.2.2.2.2.2.1, (z2.2.2.2.2.2.2.2.2.1, z2.2.2.2.2.2.2.2.2.2.1)))) (((z2.2.2.2.2.2.2.2.2.2.2.2.1).drop (0 : Nat)).take z2.2.2.2.1)) fun y3 =>
 .bd (F62 (((z2.2.2.2.2.2.2.2.2.1).getD (Int.toNat z2.2.2.1) ((bs []), (0 : Int))).1, ((z2.2.2.2.2.2.2.2.2.1).getD (Int.toNat z2.2.2.1) ((bs []), (0 : Int))).2) ((z2.2.2.2.2.2.2.2.2.2.2.2.1).getD ((0 : Nat) + (Int.toNat z2.2.2.1)) (0 : Int)) (y3.1.1, y3.1.2)) fun y4 =>
 .nb z2.2.2.1 (((z2.2.2.2.2.2.2.2.2.1).length : Nat) : Int) <|
 .nb z2.2.2.1 ((z2.2.2.2.2.1 : Nat) : Int) <|
 .nd (decide (((0 : Nat) + (Int.toNat z2.2.2.1)) < (z2.2.2.2.2.2.2.2.2.2.2.2.2.1).length)) <|
 .bd (F53 (z2.2.2.2.2.2.1, (z2.2.2.2.2.2.2.1, (z2.2.2.2.2.2.2.2.1, (z2.2.2.2.2.2.2.2.2.1, z2.2.2.2.2.2.2.2.2.2.1)))) (((z2.2.2.2.2.2.2.2.2.2.2.2.2.1).drop (0 : Nat)).take z2.2.2.2.2.1)) fun y5 =>
 .bd (F62 (((z2.2.2.2.2.2.2.2.2.1).getD (Int.toNat z2.2.2.1) ((bs []), (0 : Int))).1, ((z2.2.2.2.2.2.2.2.2.1).getD (Int.toNat z2.2.2.1) ((bs []), (0 : Int))).2) ((z2.2.2.2.2.2.2.2.2.2.2.2.2.1).getD ((0 : Nat) + (Int.toNat z2.2.2.1)) (0 : Int)) (y5.1.1, y5.1.2)) fun y6 =>
 .jx (
 .br (decide ((0 : Int) < y6.2.1)) (
 .ni (y6.1 + (1 : Int)) <|
 .ret (.inl (z2.1, (z2.2.1, (z2.2.2.1, (y4.1, ((y6.1 + (1 : Int)), (z2.2.2.2.2.2.1, (z2.2.2.2.2.2.2.1, (z2.2.2.2.2.2.2.2.1, (z2.2.2.2.2.2.2.2.2.1, (z2.2.2.2.2.2.2.2.2.2.1, (z2.2.2.2.2.2.2.2.2.2.2.1, ()))))))))))))) (
 .ret (.inl (z2.1, (z2.2.1, (z2.2.2.1, (y4.1, (y6.1, (z2.2.2.2.2.2.1, (z2.2.2.2.2.2.2.1, (z2.2.2.2.2.2.2.2.1, (z2.2.2.2.2.2.2.2.2.1, (z2.2.2.2.2.2.2.2.2.2.1, (z2.2.2.2.2.2.2.2.2.2.2.1, ())))))))))))))) fun j7 =>
 .nd (decide ((j7.2.1 + ((((((j7.2.2.2.1, j7.2.2.2.2.1) :: [])).drop (0 : Nat)).take (1 : Nat))).length) < bigL)) <|
 .ni (j7.2.2.1 + (1 : Int)) <|
 .ret (.inl (j7.1, ((j7.2.1 + ((((((j7.2.2.2.1, j7.2.2.2.2.1) :: [])).drop (0 : Nat)).take (1 : Nat))).length), ((j7.2.2.1 + (1 : Int)), (j7.2.2.2.2.2.1, (j7.2.2.2.2.2.2.1, (j7.2.2.2.2.2.2.2.1, (j7.2.2.2.2.2.2.2.2.1, (j7.2.2.2.2.2.2.2.2.2.1, (((((j7.2.2.2.2.2.2.2.2.2.2.1).drop (0 : Nat)).take j7.2.1) ++ (((((j7.2.2.2.1, j7.2.2.2.2.1) :: [])).drop (0 : Nat)).take (1 : Nat))), ()))))))))))) (
 .ret (.inr (nv7, (b1, ()))))
theorem s31_0 : ∀ x, roundE (kzO (p31_0.T ⊕ x31_0.T)) cx31 ar0 [] p31_0 x31_0 (b31_0) (fun y => some (.inl y)) (fun b => some (.inr b)) x = run0 (g31_0 x) := fun x => Eq.trans (b := run0 (flat (g31_0 x))) (by kernel_rfl) run_flat
noncomputable def L31_0 : LoopS prog 116 none 0 := mkLoop mixed cx31 cx31_ok [] rfl p31_0 x31_0 rfl (b31_0) (fun x => run0 (g31_0 x)) (s31_0)
noncomputable def dd31 : D prog 116 none 0 := dO [.l L31_0] (kd prog f31) 0
noncomputable def F31 (a0 : Int × Int × Int × (List (ByteArray × Int)) × List (Int × Int × Int × Int)) : Tr0 ((List (Int × Int)) × Int × Unit) :=
 .bd (F23 (a0.1, (a0.2.1, (a0.2.2.1, (a0.2.2.2.1, a0.2.2.2.2))))) fun y0 =>
 .br (!(y0.1 == (0 : Int))) (
 .ret ([], (y0.1, ()))) (
 .bd (F45 (a0.1, (a0.2.1, (a0.2.2.1, (a0.2.2.2.1, a0.2.2.2.2))))) fun y1 =>
 .bd (.it g31_0 (y1.2.1, ((0 : Nat), ((0 : Int), (a0.1, (a0.2.1, (a0.2.2.1, (a0.2.2.2.1, (a0.2.2.2.2, ([], ())))))))))) fun z8 =>
 .ret ((((z8.2.1).drop (0 : Nat)).take z8.1), ((0 : Int), ())))
theorem c31_ok : trF prog f31 = some ⟨116, 1, dd31.er, [.t 2, .t 3], [some (.list (.prod tI tI)), some tI]⟩ := by kernel_rfl
noncomputable def ct31 : Ct := ⟨31, [.c (.hole (.prod tI (.prod tI (.prod tI (.prod (.list (.prod .str tI)) (.list (.prod tI (.prod tI (.prod tI tI)))))))))], .tup [.hole (.list (.prod tI tI)), .hole tI], fun x => run0 (F31 x.1)⟩
theorem ct31_ok : ct31.Ok prog := ct_ok mixed cx31_ok func31 c31_ok (enters_of func31 rfl rfl) dd31 (by kernel_rfl) rfl (fun x => by kernel_rfl)

/- 5 -/
noncomputable def cx5 : Cx := mkCxH [ct15, ct16, ct30, ct19, ct31, ct21] []
theorem cx5_ok : cx5.Ok prog := mkCxH_ok ⟨ct15_ok, ct16_ok, ct30_ok, ct19_ok, ct31_ok, ct21_ok, trivial⟩ trivial
noncomputable def dd5 : D prog 32 none 0 := dO [] (kd prog f5) 0
noncomputable def F5 (a0 : Int × Int × Int × (List (ByteArray × Int)) × List (Int × Int × Int × Int)) : Tr0 (Bool × Unit) :=
 .bd (F15 (a0.1, (a0.2.1, (a0.2.2.1, (a0.2.2.2.1, a0.2.2.2.2))))) fun y0 =>
 .br y0.1 (
 .bd (F16) fun y1 =>
 .ret (y1.1, ())) (
 .bd (F30 (a0.1, (a0.2.1, (a0.2.2.1, (a0.2.2.2.1, a0.2.2.2.2))))) fun y2 =>
 .bd (F19 (a0.1, (a0.2.1, (a0.2.2.1, (a0.2.2.2.1, a0.2.2.2.2))))) fun y3 =>
 .bd (F31 (y3.1.1, (y3.1.2.1, (y3.1.2.2.1, (y3.1.2.2.2.1, y3.1.2.2.2.2))))) fun y4 =>
 .bd (F21 y2.1 y4.1) fun y5 =>
 .br y5.1 (
 .br (y2.2.1 == y4.2.1) (
 .bd (F16) fun y6 =>
 .ret (y6.1, ())) (
 .ret (false, ()))) (
 .ret (false, ())))
theorem c5_ok : trF prog f5 = some ⟨32, 1, dd5.er, [.t 2], [some .bool]⟩ := by kernel_rfl
noncomputable def ct5 : Ct := ⟨5, [.c (.hole (.prod tI (.prod tI (.prod tI (.prod (.list (.prod .str tI)) (.list (.prod tI (.prod tI (.prod tI tI)))))))))], .c (.hole .bool), fun x => run0 (F5 x.1)⟩
theorem ct5_ok : ct5.Ok prog := ct_ok mixed cx5_ok func5 c5_ok (enters_of func5 rfl rfl) dd5 (by kernel_rfl) rfl (fun x => by kernel_rfl)

/- 34 -/
noncomputable def cx34 : Cx := mkCxH [] []
theorem cx34_ok : cx34.Ok prog := mkCxH_ok trivial trivial
@[reducible] def p34_0 : Pat := Pat.mk [(1, .c (.ptr 0 0)), (2, .c (.ptr 1 0)), (3, .c (.ptr 2 0)), (4, .c (.sl0 3 .str)), (5, hI)] [(0, .cells [.hole (.int .u16), .hole (.int .u8), .hole (.int .u8), .hole (.list (.int .u16)), .hole (.list (.prod (.int .u8) (.prod (.int .u8) (.prod (.int .u8) (.int .u8)))))] false), (1, .cells [.hole tI, .hole tI, .hole tI, .nsl, .nsl] false), (2, .cells [.hole tI, .hole tI, .hole tI, .sl0 4 (.prod .str tI), .nsl] false), (3, .arr .str false), (4, .arr (.prod .str tI) false)] [.slot 1, .slot 2, .slot 3, .slot 4, .cell 2 3] []
@[reducible] def x34_0 : Outs := [(.exit 0, Pat.mk [(1, .c (.ptr 0 0)), (2, .c (.ptr 1 0)), (3, .c (.ptr 2 0))] [(0, .cells [.hole (.int .u16), .hole (.int .u8), .hole (.int .u8), .hole (.list (.int .u16)), .hole (.list (.prod (.int .u8) (.prod (.int .u8) (.prod (.int .u8) (.int .u8)))))] false), (1, .cells [.hole tI, .hole tI, .hole tI, .nsl, .nsl] false), (2, .cells [.hole tI, .hole tI, .hole tI, .sl0 3 (.prod .str tI), .nsl] false), (3, .arr (.prod .str tI) false)] [.slot 1, .slot 2, .slot 3, .cell 2 3] [])]
noncomputable def b34_0 : D prog 109 none 0 := dO [] (pick (kd prog f34) [(0, false)]) 0
noncomputable def g34_0 : Nat × Int × Int × Int × Int × List Int × (List (Int × Int × Int × Int)) × Int × Int × Int × Int × Int × Int × Nat × List ByteArray × (List (ByteArray × Int)) × Unit → Tr0 ((Nat × Int × Int × Int × Int × List Int × (List (Int × Int × Int × Int)) × Int × Int × Int × Int × Int × Int × Nat × List ByteArray × (List (ByteArray × Int)) × Unit) ⊕ ((Int × Int × Int × List Int × (List (Int × Int × Int × Int)) × Int × Int × Int × Int × Int × Int × Nat × (List (ByteArray × Int)) × Unit))) := fun (nv4, v5, c0_0, c0_1, c0_2, c0_3, c0_4, c1_0, c1_1, c1_2, c2_0, c2_1, c2_2, nc2_3, b3, b4, _) =>
 .br (decide (v5 < (4 : Int))) (
 .br (decide (v5 ≤ (((c0_3).length : Nat) : Int))) (
 .nb v5 ((nv4 : Nat) : Int) <|
 .nd (decide (((0 : Nat) + (Int.toNat v5)) < (b3).length)) <|
 .ni (v5 - (1 : Int)) <|
 .nb (v5 - (1 : Int)) (((c0_3).length : Nat) : Int) <|
 .ni ((c0_3).getD (Int.toNat (v5 - (1 : Int))) (0 : Int)) <|
 .nd (decide ((nc2_3 + ((((((((b3).getD ((0 : Nat) + (Int.toNat v5)) (bs [])), ((c0_3).getD (Int.toNat (v5 - (1 : Int))) (0 : Int))) :: [])).drop (0 : Nat)).take (1 : Nat))).length) < bigL)) <|
 .ni (v5 + (1 : Int)) <|
 .ret (.inl (nv4, ((v5 + (1 : Int)), (c0_0, (c0_1, (c0_2, (c0_3, (c0_4, (c1_0, (c1_1, (c1_2, (c2_0, (c2_1, (c2_2, ((nc2_3 + ((((((((b3).getD ((0 : Nat) + (Int.toNat v5)) (bs [])), ((c0_3).getD (Int.toNat (v5 - (1 : Int))) (0 : Int))) :: [])).drop (0 : Nat)).take (1 : Nat))).length), (b3, (((((b4).drop (0 : Nat)).take nc2_3) ++ (((((((b3).getD ((0 : Nat) + (Int.toNat v5)) (bs [])), ((c0_3).getD (Int.toNat (v5 - (1 : Int))) (0 : Int))) :: [])).drop (0 : Nat)).take (1 : Nat))), ())))))))))))))))))) (
 .ret (.inr (c0_0, (c0_1, (c0_2, (c0_3, (c0_4, (c1_0, (c1_1, (c1_2, (c2_0, (c2_1, (c2_2, (nc2_3, (b4, ())))))))))))))))) (
 .ret (.inr (c0_0, (c0_1, (c0_2, (c0_3, (c0_4, (c1_0, (c1_1, (c1_2, (c2_0, (c2_1, (c2_2, (nc2_3, (b4, ())))))))))))))))
theorem s34_0 : ∀ x, roundE (kzO (p34_0.T ⊕ x34_0.T)) cx34 ar0 [] p34_0 x34_0 (b34_0) (fun y => some (.inl y)) (fun b => some (.inr b)) x = run0 (g34_0 x) := fun x => by kernel_rfl
noncomputable def L34_0 : LoopS prog 109 none 0 := mkLoop mixed cx34 cx34_ok [] rfl p34_0 x34_0 rfl (b34_0) (fun x => run0 (g34_0 x)) (s34_0)
@[reducible] def p34_1 : Pat := Pat.mk [(1, .c (.ptr 0 0)), (2, .c (.ptr 1 0)), (3, .c (.ptr 2 0)), (6, hI)] [(0, .cells [.hole (.int .u16), .hole (.int .u8), .hole (.int .u8), .hole (.list (.int .u16)), .hole (.list (.prod (.int .u8) (.prod (.int .u8) (.prod (.int .u8) (.int .u8)))))] false), (1, .cells [.hole tI, .hole tI, .hole tI, .nsl, .nsl] false), (2, .cells [.hole tI, .hole tI, .hole tI, .sl0 3 (.prod .str tI), .sl0 4 (.prod tI (.prod tI (.prod tI tI)))] false), (3, .arr (.prod .str tI) false), (4, .arr (.prod tI (.prod tI (.prod tI tI))) false)] [.slot 1, .slot 2, .slot 3, .cell 2 3, .cell 2 4] []
@[reducible] def x34_1 : Outs := [(.exit 2, Pat.mk [(2, .c (.ptr 0 0)), (3, .c (.ptr 1 0))] [(0, .cells [.hole tI, .hole tI, .hole tI, .nsl, .nsl] false), (1, .cells [.hole tI, .hole tI, .hole tI, .sl0 2 (.prod .str tI), .sl0 3 (.prod tI (.prod tI (.prod tI tI)))] false), (2, .arr (.prod .str tI) false), (3, .arr (.prod tI (.prod tI (.prod tI tI))) false)] [.slot 2, .slot 3, .cell 1 3, .cell 1 4] [])]
noncomputable def b34_1 : D prog 109 none 0 := dO [] (pick (kd prog f34) [(1, false)]) 0
noncomputable def g34_1 : Int × Int × Int × Int × List Int × (List (Int × Int × Int × Int)) × Int × Int × Int × Int × Int × Int × Nat × Nat × (List (ByteArray × Int)) × (List (Int × Int × Int × Int)) × Unit → Tr0 ((Int × Int × Int × Int × List Int × (List (Int × Int × Int × Int)) × Int × Int × Int × Int × Int × Int × Nat × Nat × (List (ByteArray × Int)) × (List (Int × Int × Int × Int)) × Unit) ⊕ ((Int × Int × Int × Int × Int × Int × Nat × Nat × (List (ByteArray × Int)) × (List (Int × Int × Int × Int)) × Unit))) := fun (v6, c0_0, c0_1, c0_2, c0_3, c0_4, c1_0, c1_1, c1_2, c2_0, c2_1, c2_2, nc2_3, nc2_4, b3, b4, _) =>
 .br (decide (v6 < (((c0_4).length : Nat) : Int))) (
 .br (decide (v6 < (7 : Int))) (
 .nb v6 (((c0_4).length : Nat) : Int) <|
 .nd (decide ((0 : Nat) < ((((c0_4).getD (Int.toNat v6) ((0 : Int), ((0 : Int), ((0 : Int), (0 : Int))))).1 :: (((c0_4).getD (Int.toNat v6) ((0 : Int), ((0 : Int), ((0 : Int), (0 : Int))))).2.1 :: (((c0_4).getD (Int.toNat v6) ((0 : Int), ((0 : Int), ((0 : Int), (0 : Int))))).2.2.1 :: (((c0_4).getD (Int.toNat v6) ((0 : Int), ((0 : Int), ((0 : Int), (0 : Int))))).2.2.2 :: []))))).length)) <|
 .ni (((((c0_4).getD (Int.toNat v6) ((0 : Int), ((0 : Int), ((0 : Int), (0 : Int))))).1 :: (((c0_4).getD (Int.toNat v6) ((0 : Int), ((0 : Int), ((0 : Int), (0 : Int))))).2.1 :: (((c0_4).getD (Int.toNat v6) ((0 : Int), ((0 : Int), ((0 : Int), (0 : Int))))).2.2.1 :: (((c0_4).getD (Int.toNat v6) ((0 : Int), ((0 : Int), ((0 : Int), (0 : Int))))).2.2.2 :: []))))).getD (0 : Nat) (0 : Int)) <|
 .nd (!(((nc2_3 : Nat) : Int) == (0 : Int))) <|
 .nd (decide ((1 : Nat) < ((((c0_4).getD (Int.toNat v6) ((0 : Int), ((0 : Int), ((0 : Int), (0 : Int))))).1 :: (((c0_4).getD (Int.toNat v6) ((0 : Int), ((0 : Int), ((0 : Int), (0 : Int))))).2.1 :: (((c0_4).getD (Int.toNat v6) ((0 : Int), ((0 : Int), ((0 : Int), (0 : Int))))).2.2.1 :: (((c0_4).getD (Int.toNat v6) ((0 : Int), ((0 : Int), ((0 : Int), (0 : Int))))).2.2.2 :: []))))).length)) <|
 .ni (((((c0_4).getD (Int.toNat v6) ((0 : Int), ((0 : Int), ((0 : Int), (0 : Int))))).1 :: (((c0_4).getD (Int.toNat v6) ((0 : Int), ((0 : Int), ((0 : Int), (0 : Int))))).2.1 :: (((c0_4).getD (Int.toNat v6) ((0 : Int), ((0 : Int), ((0 : Int), (0 : Int))))).2.2.1 :: (((c0_4).getD (Int.toNat v6) ((0 : Int), ((0 : Int), ((0 : Int), (0 : Int))))).2.2.2 :: []))))).getD (1 : Nat) (0 : Int)) <|
 .nd (decide ((2 : Nat) < ((((c0_4).getD (Int.toNat v6) ((0 : Int), ((0 : Int), ((0 : Int), (0 : Int))))).1 :: (((c0_4).getD (Int.toNat v6) ((0 : Int), ((0 : Int), ((0 : Int), (0 : Int))))).2.1 :: (((c0_4).getD (Int.toNat v6) ((0 : Int), ((0 : Int), ((0 : Int), (0 : Int))))).2.2.1 :: (((c0_4).getD (Int.toNat v6) ((0 : Int), ((0 : Int), ((0 : Int), (0 : Int))))).2.2.2 :: []))))).length)) <|
 .ni (((((c0_4).getD (Int.toNat v6) ((0 : Int), ((0 : Int), ((0 : Int), (0 : Int))))).1 :: (((c0_4).getD (Int.toNat v6) ((0 : Int), ((0 : Int), ((0 : Int), (0 : Int))))).2.1 :: (((c0_4).getD (Int.toNat v6) ((0 : Int), ((0 : Int), ((0 : Int), (0 : Int))))).2.2.1 :: (((c0_4).getD (Int.toNat v6) ((0 : Int), ((0 : Int), ((0 : Int), (0 : Int))))).2.2.2 :: []))))).getD (2 : Nat) (0 : Int)) <|
 .ni ((((((c0_4).getD (Int.toNat v6) ((0 : Int), ((0 : Int), ((0 : Int), (0 : Int))))).1 :: (((c0_4).getD (Int.toNat v6) ((0 : Int), ((0 : Int), ((0 : Int), (0 : Int))))).2.1 :: (((c0_4).getD (Int.toNat v6) ((0 : Int), ((0 : Int), ((0 : Int), (0 : Int))))).2.2.1 :: (((c0_4).getD (Int.toNat v6) ((0 : Int), ((0 : Int), ((0 : Int), (0 : Int))))).2.2.2 :: []))))).getD (1 : Nat) (0 : Int)) + (((((c0_4).getD (Int.toNat v6) ((0 : Int), ((0 : Int), ((0 : Int), (0 : Int))))).1 :: (((c0_4).getD (Int.toNat v6) ((0 : Int), ((0 : Int), ((0 : Int), (0 : Int))))).2.1 :: (((c0_4).getD (Int.toNat v6) ((0 : Int), ((0 : Int), ((0 : Int), (0 : Int))))).2.2.1 :: (((c0_4).getD (Int.toNat v6) ((0 : Int), ((0 : Int), ((0 : Int), (0 : Int))))).2.2.2 :: []))))).getD (2 : Nat) (0 : Int))) <|
 .nd (decide ((2 : Nat) < ((((c0_4).getD (Int.toNat v6) ((0 : Int), ((0 : Int), ((0 : Int), (0 : Int))))).1 :: (((c0_4).getD (Int.toNat v6) ((0 : Int), ((0 : Int), ((0 : Int), (0 : Int))))).2.1 :: (((c0_4).getD (Int.toNat v6) ((0 : Int), ((0 : Int), ((0 : Int), (0 : Int))))).2.2.1 :: (((c0_4).getD (Int.toNat v6) ((0 : Int), ((0 : Int), ((0 : Int), (0 : Int))))).2.2.2 :: []))))).length)) <|
 .ni (((((c0_4).getD (Int.toNat v6) ((0 : Int), ((0 : Int), ((0 : Int), (0 : Int))))).1 :: (((c0_4).getD (Int.toNat v6) ((0 : Int), ((0 : Int), ((0 : Int), (0 : Int))))).2.1 :: (((c0_4).getD (Int.toNat v6) ((0 : Int), ((0 : Int), ((0 : Int), (0 : Int))))).2.2.1 :: (((c0_4).getD (Int.toNat v6) ((0 : Int), ((0 : Int), ((0 : Int), (0 : Int))))).2.2.2 :: []))))).getD (2 : Nat) (0 : Int)) <|
 .nd (decide ((3 : Nat) < ((((c0_4).getD (Int.toNat v6) ((0 : Int), ((0 : Int), ((0 : Int), (0 : Int))))).1 :: (((c0_4).getD (Int.toNat v6) ((0 : Int), ((0 : Int), ((0 : Int), (0 : Int))))).2.1 :: (((c0_4).getD (Int.toNat v6) ((0 : Int), ((0 : Int), ((0 : Int), (0 : Int))))).2.2.1 :: (((c0_4).getD (Int.toNat v6) ((0 : Int), ((0 : Int), ((0 : Int), (0 : Int))))).2.2.2 :: []))))).length)) <|
 .ni (((((c0_4).getD (Int.toNat v6) ((0 : Int), ((0 : Int), ((0 : Int), (0 : Int))))).1 :: (((c0_4).getD (Int.toNat v6) ((0 : Int), ((0 : Int), ((0 : Int), (0 : Int))))).2.1 :: (((c0_4).getD (Int.toNat v6) ((0 : Int), ((0 : Int), ((0 : Int), (0 : Int))))).2.2.1 :: (((c0_4).getD (Int.toNat v6) ((0 : Int), ((0 : Int), ((0 : Int), (0 : Int))))).2.2.2 :: []))))).getD (3 : Nat) (0 : Int)) <|
 .ni ((4 : Int) * (((((c0_4).getD (Int.toNat v6) ((0 : Int), ((0 : Int), ((0 : Int), (0 : Int))))).1 :: (((c0_4).getD (Int.toNat v6) ((0 : Int), ((0 : Int), ((0 : Int), (0 : Int))))).2.1 :: (((c0_4).getD (Int.toNat v6) ((0 : Int), ((0 : Int), ((0 : Int), (0 : Int))))).2.2.1 :: (((c0_4).getD (Int.toNat v6) ((0 : Int), ((0 : Int), ((0 : Int), (0 : Int))))).2.2.2 :: []))))).getD (3 : Nat) (0 : Int))) <|
 .nd (!((1001 : Int) == (0 : Int))) <|
 .nd (decide ((nc2_4 + (((((((Int.tmod (((((c0_4).getD (Int.toNat v6) ((0 : Int), ((0 : Int), ((0 : Int), (0 : Int))))).1 :: (((c0_4).getD (Int.toNat v6) ((0 : Int), ((0 : Int), ((0 : Int), (0 : Int))))).2.1 :: (((c0_4).getD (Int.toNat v6) ((0 : Int), ((0 : Int), ((0 : Int), (0 : Int))))).2.2.1 :: (((c0_4).getD (Int.toNat v6) ((0 : Int), ((0 : Int), ((0 : Int), (0 : Int))))).2.2.2 :: []))))).getD (0 : Nat) (0 : Int)) ((nc2_3 : Nat) : Int)), (((((((c0_4).getD (Int.toNat v6) ((0 : Int), ((0 : Int), ((0 : Int), (0 : Int))))).1 :: (((c0_4).getD (Int.toNat v6) ((0 : Int), ((0 : Int), ((0 : Int), (0 : Int))))).2.1 :: (((c0_4).getD (Int.toNat v6) ((0 : Int), ((0 : Int), ((0 : Int), (0 : Int))))).2.2.1 :: (((c0_4).getD (Int.toNat v6) ((0 : Int), ((0 : Int), ((0 : Int), (0 : Int))))).2.2.2 :: []))))).getD (1 : Nat) (0 : Int)) + (((((c0_4).getD (Int.toNat v6) ((0 : Int), ((0 : Int), ((0 : Int), (0 : Int))))).1 :: (((c0_4).getD (Int.toNat v6) ((0 : Int), ((0 : Int), ((0 : Int), (0 : Int))))).2.1 :: (((c0_4).getD (Int.toNat v6) ((0 : Int), ((0 : Int), ((0 : Int), (0 : Int))))).2.2.1 :: (((c0_4).getD (Int.toNat v6) ((0 : Int), ((0 : Int), ((0 : Int), (0 : Int))))).2.2.2 :: []))))).getD (2 : Nat) (0 : Int))), ((((((c0_4).getD (Int.toNat v6) ((0 : Int), ((0 : Int), ((0 : Int), (0 : Int))))).1 :: (((c0_4).getD (Int.toNat v6) ((0 : Int), ((0 : Int), ((0 : Int), (0 : Int))))).2.1 :: (((c0_4).getD (Int.toNat v6) ((0 : Int), ((0 : Int), ((0 : Int), (0 : Int))))).2.2.1 :: (((c0_4).getD (Int.toNat v6) ((0 : Int), ((0 : Int), ((0 : Int), (0 : Int))))).2.2.2 :: []))))).getD (2 : Nat) (0 : Int)), (Int.tmod ((4 : Int) * (((((c0_4).getD (Int.toNat v6) ((0 : Int), ((0 : Int), ((0 : Int), (0 : Int))))).1 :: (((c0_4).getD (Int.toNat v6) ((0 : Int), ((0 : Int), ((0 : Int), (0 : Int))))).2.1 :: (((c0_4).getD (Int.toNat v6) ((0 : Int), ((0 : Int), ((0 : Int), (0 : Int))))).2.2.1 :: (((c0_4).getD (Int.toNat v6) ((0 : Int), ((0 : Int), ((0 : Int), (0 : Int))))).2.2.2 :: []))))).getD (3 : Nat) (0 : Int))) (1001 : Int))))) :: [])).drop (0 : Nat)).take (1 : Nat))).length) < bigL)) <|
 .ni (v6 + (1 : Int)) <|
 .ret (.inl ((v6 + (1 : Int)), (c0_0, (c0_1, (c0_2, (c0_3, (c0_4, (c1_0, (c1_1, (c1_2, (c2_0, (c2_1, (c2_2, (nc2_3, ((nc2_4 + (((((((Int.tmod (((((c0_4).getD (Int.toNat v6) ((0 : Int), ((0 : Int), ((0 : Int), (0 : Int))))).1 :: (((c0_4).getD (Int.toNat v6) ((0 : Int), ((0 : Int), ((0 : Int), (0 : Int))))).2.1 :: (((c0_4).getD (Int.toNat v6) ((0 : Int), ((0 : Int), ((0 : Int), (0 : Int))))).2.2.1 :: (((c0_4).getD (Int.toNat v6) ((0 : Int), ((0 : Int), ((0 : Int), (0 : Int))))).2.2.2 :: []))))).getD (0 : Nat) (0 : Int)) ((nc2_3 : Nat) : Int)), (((((((c0_4).getD (Int.toNat v6) ((0 : Int), ((0 : Int), ((0 : Int), (0 : Int))))).1 :: (((c0_4).getD (Int.toNat v6) ((0 : Int), ((0 : Int), ((0 : Int), (0 : Int))))).2.1 :: (((c0_4).getD (Int.toNat v6) ((0 : Int), ((0 : Int), ((0 : Int), (0 : Int))))).2.2.1 :: (((c0_4).getD (Int.toNat v6) ((0 : Int), ((0 : Int), ((0 : Int), (0 : Int))))).2.2.2 :: []))))).getD (1 : Nat) (0 : Int)) + (((((c0_4).getD (Int.toNat v6) ((0 : Int), ((0 : Int), ((0 : Int), (0 : Int))))).1 :: (((c0_4).getD (Int.toNat v6) ((0 : Int), ((0 : Int), ((0 : Int), (0 : Int))))).2.1 :: (((c0_4).getD (Int.toNat v6) ((0 : Int), ((0 : Int), ((0 : Int), (0 : Int))))).2.2.1 :: (((c0_4).getD (Int.toNat v6) ((0 : Int), ((0 : Int), ((0 : Int), (0 : Int))))).2.2.2 :: []))))).getD (2 : Nat) (0 : Int))), ((((((c0_4).getD (Int.toNat v6) ((0 : Int), ((0 : Int), ((0 : Int), (0 : Int))))).1 :: (((c0_4).getD (Int.toNat v6) ((0 : Int), ((0 : Int), ((0 : Int), (0 : Int))))).2.1 :: (((c0_4).getD (Int.toNat v6) ((0 : Int), ((0 : Int), ((0 : Int), (0 : Int))))).2.2.1 :: (((c0_4).getD (Int.toNat v6) ((0 : Int), ((0 : Int), ((0 : Int), (0 : Int))))).2.2.2 :: []))))).getD (2 : Nat) (0 : Int)), (Int.tmod ((4 : Int) * (((((c0_4).getD (Int.toNat v6) ((0 : Int), ((0 : Int), ((0 : Int), (0 : Int))))).1 :: (((c0_4).getD (Int.toNat v6) ((0 : Int), ((0 : Int), ((0 : Int), (0 : Int))))).2.1 :: (((c0_4).getD (Int.toNat v6) ((0 : Int), ((0 : Int), ((0 : Int), (0 : Int))))).2.2.1 :: (((c0_4).getD (Int.toNat v6) ((0 : Int), ((0 : Int), ((0 : Int), (0 : Int))))).2.2.2 :: []))))).getD (3 : Nat) (0 : Int))) (1001 : Int))))) :: [])).drop (0 : Nat)).take (1 : Nat))).length), (b3, (((((b4).drop (0 : Nat)).take nc2_4) ++ ((((((Int.tmod (((((c0_4).getD (Int.toNat v6) ((0 : Int), ((0 : Int), ((0 : Int), (0 : Int))))).1 :: (((c0_4).getD (Int.toNat v6) ((0 : Int), ((0 : Int), ((0 : Int), (0 : Int))))).2.1 :: (((c0_4).getD (Int.toNat v6) ((0 : Int), ((0 : Int), ((0 : Int), (0 : Int))))).2.2.1 :: (((c0_4).getD (Int.toNat v6) ((0 : Int), ((0 : Int), ((0 : Int), (0 : Int))))).2.2.2 :: []))))).getD (0 : Nat) (0 : Int)) ((nc2_3 : Nat) : Int)), (((((((c0_4).getD (Int.toNat v6) ((0 : Int), ((0 : Int), ((0 : Int), (0 : Int))))).1 :: (((c0_4).getD (Int.toNat v6) ((0 : Int), ((0 : Int), ((0 : Int), (0 : Int))))).2.1 :: (((c0_4).getD (Int.toNat v6) ((0 : Int), ((0 : Int), ((0 : Int), (0 : Int))))).2.2.1 :: (((c0_4).getD (Int.toNat v6) ((0 : Int), ((0 : Int), ((0 : Int), (0 : Int))))).2.2.2 :: []))))).getD (1 : Nat) (0 : Int)) + (((((c0_4).getD (Int.toNat v6) ((0 : Int), ((0 : Int), ((0 : Int), (0 : Int))))).1 :: (((c0_4).getD (Int.toNat v6) ((0 : Int), ((0 : Int), ((0 : Int), (0 : Int))))).2.1 :: (((c0_4).getD (Int.toNat v6) ((0 : Int), ((0 : Int), ((0 : Int), (0 : Int))))).2.2.1 :: (((c0_4).getD (Int.toNat v6) ((0 : Int), ((0 : Int), ((0 : Int), (0 : Int))))).2.2.2 :: []))))).getD (2 : Nat) (0 : Int))), ((((((c0_4).getD (Int.toNat v6) ((0 : Int), ((0 : Int), ((0 : Int), (0 : Int))))).1 :: (((c0_4).getD (Int.toNat v6) ((0 : Int), ((0 : Int), ((0 : Int), (0 : Int))))).2.1 :: (((c0_4).getD (Int.toNat v6) ((0 : Int), ((0 : Int), ((0 : Int), (0 : Int))))).2.2.1 :: (((c0_4).getD (Int.toNat v6) ((0 : Int), ((0 : Int), ((0 : Int), (0 : Int))))).2.2.2 :: []))))).getD (2 : Nat) (0 : Int)), (Int.tmod ((4 : Int) * (((((c0_4).getD (Int.toNat v6) ((0 : Int), ((0 : Int), ((0 : Int), (0 : Int))))).1 :: (((c0_4).getD (Int.toNat v6) ((0 : Int), ((0 : Int), ((0 : Int), (0 : Int))))).2.1 :: (((c0_4).getD (Int.toNat v6) ((0 : Int), ((0 : Int), ((0 : Int), (0 : Int))))).2.2.1 :: (((c0_4).getD (Int.toNat v6) ((0 : Int), ((0 : Int), ((0 : Int), (0 : Int))))).2.2.2 :: []))))).getD (3 : Nat) (0 : Int))) (1001 : Int))))) :: [])).drop (0 : Nat)).take (1 : Nat))), ())))))))))))))))))) (
 .ret (.inr (c1_0, (c1_1, (c1_2, (c2_0, (c2_1, (c2_2, (nc2_3, (nc2_4, (b3, (b4, ()))))))))))))) (
 .ret (.inr (c1_0, (c1_1, (c1_2, (c2_0, (c2_1, (c2_2, (nc2_3, (nc2_4, (b3, (b4, ()))))))))))))
theorem s34_1 : ∀ x, roundE (kzO (p34_1.T ⊕ x34_1.T)) cx34 ar0 [] p34_1 x34_1 (b34_1) (fun y => some (.inl y)) (fun b => some (.inr b)) x = run0 (g34_1 x) := fun x => by kernel_rfl
noncomputable def L34_1 : LoopS prog 109 none 0 := mkLoop mixed cx34 cx34_ok [] rfl p34_1 x34_1 rfl (b34_1) (fun x => run0 (g34_1 x)) (s34_1)
noncomputable def dd34 : D prog 109 none 0 := dO [.l L34_0, .l L34_1] (kd prog f34) 0
noncomputable def F34 (a0 : Int × Int × Int × (List Int) × List (Int × Int × Int × Int)) : Tr0 ((Int × Int × Int × (List (ByteArray × Int)) × List (Int × Int × Int × Int)) × Unit) :=
 .ni a0.1 <|
 .ni a0.2.1 <|
 .nd (!((20 : Int) == (0 : Int))) <|
 .ni a0.2.2.1 <|
 .nd (!((30 : Int) == (0 : Int))) <|
 .bd (.it g34_0 ((4 : Nat), ((1 : Int), (a0.1, (a0.2.1, (a0.2.2.1, (a0.2.2.2.1, (a0.2.2.2.2, ((0 : Int), ((0 : Int), ((0 : Int), (a0.1, ((Int.tmod a0.2.1 (20 : Int)), ((Int.tmod a0.2.2.1 (30 : Int)), ((1 : Nat), (((bs [100]) :: ((bs [98]) :: ((bs [97, 49]) :: ((bs [99]) :: [])))), ((((bs [100]), (20000 : Int)) :: []), ()))))))))))))))))) fun z0 =>
 .jx (
 .br (decide ((3 : Int) < (((z0.2.2.2.1).length : Nat) : Int))) (
 .nb (3 : Int) (((z0.2.2.2.1).length : Nat) : Int) <|
 .ni ((z0.2.2.2.1).getD (Int.toNat (3 : Int)) (0 : Int)) <|
 .nb (0 : Int) ((z0.2.2.2.2.2.2.2.2.2.2.2.1 : Nat) : Int) <|
 .nd (decide (((0 : Nat) + (Int.toNat (0 : Int))) < (z0.2.2.2.2.2.2.2.2.2.2.2.2.1).length)) <|
 .ret (.inl (z0.1, (z0.2.1, (z0.2.2.1, (z0.2.2.2.1, (z0.2.2.2.2.1, (z0.2.2.2.2.2.1, (z0.2.2.2.2.2.2.1, (z0.2.2.2.2.2.2.2.1, (z0.2.2.2.2.2.2.2.2.1, (z0.2.2.2.2.2.2.2.2.2.1, (z0.2.2.2.2.2.2.2.2.2.2.1, (z0.2.2.2.2.2.2.2.2.2.2.2.1, (((z0.2.2.2.2.2.2.2.2.2.2.2.2.1).set ((0 : Nat) + (Int.toNat (0 : Int))) (((z0.2.2.2.2.2.2.2.2.2.2.2.2.1).getD ((0 : Nat) + (Int.toNat (0 : Int))) ((bs []), (0 : Int))).1, ((z0.2.2.2.1).getD (Int.toNat (3 : Int)) (0 : Int)))), ()))))))))))))))) (
 .ret (.inl (z0.1, (z0.2.1, (z0.2.2.1, (z0.2.2.2.1, (z0.2.2.2.2.1, (z0.2.2.2.2.2.1, (z0.2.2.2.2.2.2.1, (z0.2.2.2.2.2.2.2.1, (z0.2.2.2.2.2.2.2.2.1, (z0.2.2.2.2.2.2.2.2.2.1, (z0.2.2.2.2.2.2.2.2.2.2.1, (z0.2.2.2.2.2.2.2.2.2.2.2.1, (z0.2.2.2.2.2.2.2.2.2.2.2.2.1, ())))))))))))))))) fun j1 =>
 .bd (.it g34_1 ((0 : Int), (j1.1, (j1.2.1, (j1.2.2.1, (j1.2.2.2.1, (j1.2.2.2.2.1, (j1.2.2.2.2.2.1, (j1.2.2.2.2.2.2.1, (j1.2.2.2.2.2.2.2.1, (j1.2.2.2.2.2.2.2.2.1, (j1.2.2.2.2.2.2.2.2.2.1, (j1.2.2.2.2.2.2.2.2.2.2.1, (j1.2.2.2.2.2.2.2.2.2.2.2.1, ((0 : Nat), (j1.2.2.2.2.2.2.2.2.2.2.2.2.1, ([], ()))))))))))))))))) fun z2 =>
 .ret ((z2.2.2.2.1, (z2.2.2.2.2.1, (z2.2.2.2.2.2.1, ((((z2.2.2.2.2.2.2.2.2.1).drop (0 : Nat)).take z2.2.2.2.2.2.2.1), (((z2.2.2.2.2.2.2.2.2.2.1).drop (0 : Nat)).take z2.2.2.2.2.2.2.2.1))))), ())
theorem c34_ok : trF prog f34 = some ⟨109, 1, dd34.er, [.cell 2 true 5], [some (.prod tI (.prod tI (.prod tI (.prod (.list (.prod .str tI)) (.list (.prod tI (.prod tI (.prod tI tI))))))))]⟩ := by kernel_rfl
noncomputable def ct34 : Ct := ⟨34, [.c (.hole (.prod (.int .u16) (.prod (.int .u8) (.prod (.int .u8) (.prod (.list (.int .u16)) (.list (.prod (.int .u8) (.prod (.int .u8) (.prod (.int .u8) (.int .u8))))))))))], .c (.hole (.prod tI (.prod tI (.prod tI (.prod (.list (.prod .str tI)) (.list (.prod tI (.prod tI (.prod tI tI))))))))), fun x => run0 (F34 x.1)⟩
theorem ct34_ok : ct34.Ok prog := ct_ok mixed cx34_ok func34 c34_ok (enters_of func34 rfl rfl) dd34 (by kernel_rfl) rfl (fun x => Eq.trans (b := run0 (flat (F34 x.1))) (by kernel_rfl) run_flat)

end Go.Proofs.Try

