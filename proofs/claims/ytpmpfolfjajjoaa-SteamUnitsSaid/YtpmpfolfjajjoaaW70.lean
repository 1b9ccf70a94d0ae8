/- Functions of the program as functions of data, part 1; printed by a program of mine. -/
import Derived.Test.YtpmpfolfjajjoaaAMd
import Derived.Test.YtpmpfolfjajjoaaProg
set_option linter.unusedSectionVars false
set_option linter.unusedVariables false
set_option linter.unusedSimpArgs false
open Go.AM
namespace Go.Proofs.Try
set_option maxRecDepth 100000
set_option synthInstance.maxSize 4000
set_option synthInstance.maxHeartbeats 400000
set_option synthInstance.maxSize 4000
set_option synthInstance.maxHeartbeats 400000
theorem mixed : prog.follows .mixedOrders = true := by kernel_rfl
@[reducible] def oo (n : Nat) (i : I) : Itm := .op (some n) none i
@[reducible] def om (n k : Nat) : Itm := .op (some n) none (.mv (.t k))
@[reducible] def ol (n k : Nat) : Itm := .op (some n) none (.load false 1 (.t k))
@[reducible] def og (n k : Nat) (b : Bool) (i : I) : Itm := .op (some n) (some (k, b)) i
@[reducible] def ki (n : Nat) : O := .c (.int .i64 (Int.ofNat n))
@[reducible] def hzI : SP := .c (.hole (.int .i64))
@[reducible] def hzL : SP := .c (.hole (.list (.int .i64)))
@[reducible] def hzM : SP := .c (.hole (.list (.list (.int .i64))))

/- 26 -/
noncomputable def cx26 : Cx := (mkCxH [] [])
theorem cx26_ok : cx26.Ok prog := mkCxH_ok trivial trivial
noncomputable def dd26 : D prog 4 none 0 := dO [] (kd prog f26) 0
noncomputable def F26 : Tr0 ((List (Int × Int)) × Unit) :=
 .ret (((((((2 : Int), (-1 : Int)) :: (((5 : Int), (2 : Int)) :: []))).drop (0 : Nat)).take (2 : Nat)), ())
theorem c26_ok : trF prog f26 = some ⟨4, 0, dd26.er, [.t 0], [some (.list (.prod tI tI))]⟩ := by kernel_rfl
noncomputable def ct26 : Ct := ⟨26, [], .c (.hole (.list (.prod tI tI))), fun x => run0 (F26)⟩
theorem ct26_ok : ct26.Ok prog := ct_ok mixed cx26_ok func26 c26_ok (enters_of func26 rfl rfl) dd26 (by kernel_rfl) rfl (fun x => by kernel_rfl)

/- 59 -/
noncomputable def cx59 : Cx := (mkCxH [] [])
theorem cx59_ok : cx59.Ok prog := mkCxH_ok trivial trivial
noncomputable def dd59 : D prog 14 none 0 := dO [] (kd prog f59) 0
noncomputable def F59 (a0 : Int) (a1 : Int) : Tr0 (Bool × Unit) :=
 .ni ((0 : Int) - a1) <|
 .br (decide (((0 : Int) - a1) ≤ a0)) (
 .ret ((decide (a0 ≤ a1)), ())) (
 .ret (false, ()))
theorem c59_ok : trF prog f59 = some ⟨14, 2, dd59.er, [.t 4], [some .bool]⟩ := by kernel_rfl
noncomputable def ct59 : Ct := ⟨59, [hI, hI], .c (.hole .bool), fun x => run0 (F59 x.1 x.2.1)⟩
theorem ct59_ok : ct59.Ok prog := ct_ok mixed cx59_ok func59 c59_ok (enters_of func59 rfl rfl) dd59 (by kernel_rfl) rfl (fun x => by kernel_rfl)

/- 41 -/
noncomputable def cx41 : Cx := (mkCxH [ct59] [])
theorem cx41_ok : cx41.Ok prog := mkCxH_ok ⟨ct59_ok, trivial⟩ trivial
noncomputable def dd41 : D prog 15 none 0 := dO [] (kd prog f41) 0
noncomputable def F41 (a0 : Int × Int) (a1 : Int) : Tr0 (Bool × Unit) :=
 .bd (F59 a0.1 a1) fun y0 =>
 .br y0.1 (
 .bd (F59 a0.2 a1) fun y1 =>
 .ret (y1.1, ())) (
 .ret (false, ()))
theorem c41_ok : trF prog f41 = some ⟨15, 2, dd41.er, [.t 4], [some .bool]⟩ := by kernel_rfl
noncomputable def ct41 : Ct := ⟨41, [.c (.hole (.prod tI tI)), hI], .c (.hole .bool), fun x => run0 (F41 x.1 x.2.1)⟩
theorem ct41_ok : ct41.Ok prog := ct_ok mixed cx41_ok func41 c41_ok (enters_of func41 rfl rfl) dd41 (by kernel_rfl) rfl (fun x => by kernel_rfl)

/- 45 -/
noncomputable def cx45 : Cx := (mkCxH [ct41] [])
theorem cx45_ok : cx45.Ok prog := mkCxH_ok ⟨ct41_ok, trivial⟩ trivial
noncomputable def dd45 : D prog 6 none 0 := dO [] (kd prog f45) 0
noncomputable def F45 (a0 : Int × Int) : Tr0 (Bool × Unit) :=
 .bd (F41 (a0.1, a0.2) (1000 : Int)) fun y0 =>
 .ret ((!y0.1), ())
theorem c45_ok : trF prog f45 = some ⟨6, 1, dd45.er, [.t 2], [some .bool]⟩ := by kernel_rfl
noncomputable def ct45 : Ct := ⟨45, [.c (.hole (.prod tI tI))], .c (.hole .bool), fun x => run0 (F45 x.1)⟩
theorem ct45_ok : ct45.Ok prog := ct_ok mixed cx45_ok func45 c45_ok (enters_of func45 rfl rfl) dd45 (by kernel_rfl) rfl (fun x => by kernel_rfl)

/- 60 -/
noncomputable def cx60 : Cx := (mkCxH [ct45] [])
theorem cx60_ok : cx60.Ok prog := mkCxH_ok ⟨ct45_ok, trivial⟩ trivial
@[reducible] def p60_0 : Pat := Pat.mk [(0, .c (.hole (.list (.prod tI tI)))), (1, .c (.fn0 45)), (7, hI), (8, hI)] [] [] []
@[reducible] def x60_0 : Outs := [(.ret, Pat.mk [(4, hI)] [] [] []), (.exit 0, Pat.mk [] [] [] [])]
noncomputable def b60_0 : D prog 19 none 0 := dO [] (pick (kd prog f60) [(0, false)]) 0
noncomputable def g60_0 : (List (Int × Int)) × Int × Int × Unit → Tr0 (((List (Int × Int)) × Int × Int × Unit) ⊕ ((Int × Unit) ⊕ ((Unit)))) := fun (v0, v7, v8, _) =>
 .br (decide (v8 < v7)) (
 .nb v8 (((v0).length : Nat) : Int) <|
 .bd (F45 (((v0).getD (Int.toNat v8) ((0 : Int), (0 : Int))).1, ((v0).getD (Int.toNat v8) ((0 : Int), (0 : Int))).2)) fun y0 =>
 .br y0.1 (
 .ret (.inr <| .inl <| (v8, ()))) (
 .ni (v8 + (1 : Int)) <|
 .ret (.inl (v0, (v7, ((v8 + (1 : Int)), ())))))) (
 .ret (.inr <| .inr <| ()))
theorem s60_0 : ∀ x, roundE (kzO (p60_0.T ⊕ x60_0.T)) cx60 ar0 [] p60_0 x60_0 (b60_0) (fun y => some (.inl y)) (fun b => some (.inr b)) x = run0 (g60_0 x) := fun x => by kernel_rfl
noncomputable def L60_0 : LoopS prog 19 none 0 := mkLoop mixed cx60 cx60_ok [] rfl p60_0 x60_0 rfl (b60_0) (fun x => run0 (g60_0 x)) (s60_0)
noncomputable def dd60 : D prog 19 none 0 := dO [.l L60_0] (kd prog f60) 0
noncomputable def F60 (a0 : List (Int × Int)) : Tr0 (Int × Unit) :=
 .bd (.it g60_0 (a0, ((((a0).length : Nat) : Int), ((0 : Int), ())))) fun z1 =>
 .sm z1 (fun z2 =>
 .ret (z2.1, ())) fun z3 =>
 .ret ((-1 : Int), ())
theorem c60_ok : trF prog f60 = some ⟨19, 2, dd60.er, [.t 4], [some tI]⟩ := by kernel_rfl
noncomputable def ct60 : Ct := ⟨60, [.c (.hole (.list (.prod tI tI))), .c (.fn0 45)], hI, fun x => run0 (F60 x.1)⟩
theorem ct60_ok : ct60.Ok prog := ct_ok mixed cx60_ok func60 c60_ok (enters_of func60 rfl rfl) dd60 (by kernel_rfl) rfl (fun x => by kernel_rfl)

/- 44 -/
noncomputable def cx44 : Cx := (mkCxH [ct60] [])
theorem cx44_ok : cx44.Ok prog := mkCxH_ok ⟨ct60_ok, trivial⟩ trivial
noncomputable def dd44 : D prog 9 none 0 := dO [] (kd prog f44) 0
noncomputable def F44 (a0 : List (Int × Int)) : Tr0 (Bool × Unit) :=
 .bd (F60 a0) fun y0 =>
 .ret ((decide ((0 : Int) ≤ y0.1)), ())
theorem c44_ok : trF prog f44 = some ⟨9, 2, dd44.er, [.t 4], [some .bool]⟩ := by kernel_rfl
noncomputable def ct44 : Ct := ⟨44, [.c (.hole (.list (.prod tI tI))), .c (.fn0 45)], .c (.hole .bool), fun x => run0 (F44 x.1)⟩
theorem ct44_ok : ct44.Ok prog := ct_ok mixed cx44_ok func44 c44_ok (enters_of func44 rfl rfl) dd44 (by kernel_rfl) rfl (fun x => by kernel_rfl)

/- 55, lent -/
@[reducible] def pH55 : Pat := Pat.mk [(0, .c (.hole (.list (.prod tI tI))))] [] [] []
@[reducible] def qH55 : Pat := Pat.mk [(0, .c (.sl0 0 (.prod tI tI)))] [(0, .arr (.prod tI tI) false)] [.slot 0] []
noncomputable def cxH55 : Cx := (mkCxH [] [])
theorem cxH55_ok : cxH55.Ok prog := mkCxH_ok trivial trivial
noncomputable def ddH55 : D prog 8 none 0 := dO [] (kd prog f55) 0
noncomputable def FH55 (v0 : List (Int × Int)) : Tr0 (Nat × (List (Int × Int)) × Unit) :=
 .br ((((v0).length : Nat) : Int) == (0 : Int)) (
 .am inferInstance (
 .ret ((0 : Nat), ([], ()))) (
 .nd (decide (((0 : Nat) + (v0).length) < bigL)) <|
 .ret (((0 : Nat) + (v0).length), ((((([]).drop (0 : Nat)).take (0 : Nat)) ++ v0), ())))) (
 .nd (decide (((0 : Nat) + (v0).length) < bigL)) <|
 .ret (((0 : Nat) + (v0).length), ((((([]).drop (0 : Nat)).take (0 : Nat)) ++ v0), ())))
theorem cH55_ok : trF prog f55 = some ⟨8, 1, ddH55.er, [.t 2], [some (.list (.prod tI tI))]⟩ := by kernel_rfl
noncomputable def ht55 : Ht := ⟨55, pH55, qH55, (fun x => run0 (FH55 x.1))⟩
theorem ht55_ok : ht55.Ok prog := ht_ok mixed cxH55_ok rfl func55 cH55_ok (enters_of func55 rfl rfl) ddH55 (by kernel_rfl) rfl rfl ⟨_, rfl⟩ rfl (pre := []) rfl (fun x => by kernel_rfl)

/- 85 -/
noncomputable def cx85 : Cx := (mkCxH [] [])
theorem cx85_ok : cx85.Ok prog := mkCxH_ok trivial trivial
noncomputable def dd85 : D prog 25 none 0 := dO [] (kd prog f85) 0
noncomputable def F85 (a0 : Int) : Tr0 (Int × Unit) :=
 .jx (
 .br (decide ((4294967296 : Int) ≤ a0)) (
 .nb (32 : Int) (64 : Int) <|
 .ret (.inl ((ar0.shr a0 (32 : Int)), ((32 : Int), ())))) (
 .ret (.inl (a0, ((0 : Int), ()))))) fun j0 =>
 .jx (
 .br (decide ((65536 : Int) ≤ j0.1)) (
 .nb (16 : Int) (64 : Int) <|
 .ni (j0.2.1 + (16 : Int)) <|
 .ret (.inl ((ar0.shr j0.1 (16 : Int)), ((j0.2.1 + (16 : Int)), ())))) (
 .ret (.inl (j0.1, (j0.2.1, ()))))) fun j1 =>
 .jx (
 .br (decide ((256 : Int) ≤ j1.1)) (
 .nb (8 : Int) (64 : Int) <|
 .ni (j1.2.1 + (8 : Int)) <|
 .ret (.inl ((ar0.shr j1.1 (8 : Int)), ((j1.2.1 + (8 : Int)), ())))) (
 .ret (.inl (j1.1, (j1.2.1, ()))))) fun j2 =>
 .nd (rng .u8 j2.1) <|
 .nb j2.1 (((bs [0, 1, 2, 2, 3, 3, 3, 3, 4, 4, 4, 4, 4, 4, 4, 4, 5, 5, 5, 5, 5, 5, 5, 5, 5, 5, 5, 5, 5, 5, 5, 5, 6, 6, 6, 6, 6, 6, 6, 6, 6, 6, 6, 6, 6, 6, 6, 6, 6, 6, 6, 6, 6, 6, 6, 6, 6, 6, 6, 6, 6, 6, 6, 6, 7, 7, 7, 7, 7, 7, 7, 7, 7, 7, 7, 7, 7, 7, 7, 7, 7, 7, 7, 7, 7, 7, 7, 7, 7, 7, 7, 7, 7, 7, 7, 7, 7, 7, 7, 7, 7, 7, 7, 7, 7, 7, 7, 7, 7, 7, 7, 7, 7, 7, 7, 7, 7, 7, 7, 7, 7, 7, 7, 7, 7, 7, 7, 7, 8, 8, 8, 8, 8, 8, 8, 8, 8, 8, 8, 8, 8, 8, 8, 8, 8, 8, 8, 8, 8, 8, 8, 8, 8, 8, 8, 8, 8, 8, 8, 8, 8, 8, 8, 8, 8, 8, 8, 8, 8, 8, 8, 8, 8, 8, 8, 8, 8, 8, 8, 8, 8, 8, 8, 8, 8, 8, 8, 8, 8, 8, 8, 8, 8, 8, 8, 8, 8, 8, 8, 8, 8, 8, 8, 8, 8, 8, 8, 8, 8, 8, 8, 8, 8, 8, 8, 8, 8, 8, 8, 8, 8, 8, 8, 8, 8, 8, 8, 8, 8, 8, 8, 8, 8, 8, 8, 8, 8, 8, 8, 8, 8, 8, 8, 8, 8, 8, 8, 8, 8, 8, 8, 8, 8, 8, 8, 8]).size : Nat) : Int) <|
 .ni (satL (bs [0, 1, 2, 2, 3, 3, 3, 3, 4, 4, 4, 4, 4, 4, 4, 4, 5, 5, 5, 5, 5, 5, 5, 5, 5, 5, 5, 5, 5, 5, 5, 5, 6, 6, 6, 6, 6, 6, 6, 6, 6, 6, 6, 6, 6, 6, 6, 6, 6, 6, 6, 6, 6, 6, 6, 6, 6, 6, 6, 6, 6, 6, 6, 6, 7, 7, 7, 7, 7, 7, 7, 7, 7, 7, 7, 7, 7, 7, 7, 7, 7, 7, 7, 7, 7, 7, 7, 7, 7, 7, 7, 7, 7, 7, 7, 7, 7, 7, 7, 7, 7, 7, 7, 7, 7, 7, 7, 7, 7, 7, 7, 7, 7, 7, 7, 7, 7, 7, 7, 7, 7, 7, 7, 7, 7, 7, 7, 7, 8, 8, 8, 8, 8, 8, 8, 8, 8, 8, 8, 8, 8, 8, 8, 8, 8, 8, 8, 8, 8, 8, 8, 8, 8, 8, 8, 8, 8, 8, 8, 8, 8, 8, 8, 8, 8, 8, 8, 8, 8, 8, 8, 8, 8, 8, 8, 8, 8, 8, 8, 8, 8, 8, 8, 8, 8, 8, 8, 8, 8, 8, 8, 8, 8, 8, 8, 8, 8, 8, 8, 8, 8, 8, 8, 8, 8, 8, 8, 8, 8, 8, 8, 8, 8, 8, 8, 8, 8, 8, 8, 8, 8, 8, 8, 8, 8, 8, 8, 8, 8, 8, 8, 8, 8, 8, 8, 8, 8, 8, 8, 8, 8, 8, 8, 8, 8, 8, 8, 8, 8, 8, 8, 8, 8, 8, 8, 8]) (Int.toNat j2.1)) <|
 .ni (j2.2.1 + (satL (bs [0, 1, 2, 2, 3, 3, 3, 3, 4, 4, 4, 4, 4, 4, 4, 4, 5, 5, 5, 5, 5, 5, 5, 5, 5, 5, 5, 5, 5, 5, 5, 5, 6, 6, 6, 6, 6, 6, 6, 6, 6, 6, 6, 6, 6, 6, 6, 6, 6, 6, 6, 6, 6, 6, 6, 6, 6, 6, 6, 6, 6, 6, 6, 6, 7, 7, 7, 7, 7, 7, 7, 7, 7, 7, 7, 7, 7, 7, 7, 7, 7, 7, 7, 7, 7, 7, 7, 7, 7, 7, 7, 7, 7, 7, 7, 7, 7, 7, 7, 7, 7, 7, 7, 7, 7, 7, 7, 7, 7, 7, 7, 7, 7, 7, 7, 7, 7, 7, 7, 7, 7, 7, 7, 7, 7, 7, 7, 7, 8, 8, 8, 8, 8, 8, 8, 8, 8, 8, 8, 8, 8, 8, 8, 8, 8, 8, 8, 8, 8, 8, 8, 8, 8, 8, 8, 8, 8, 8, 8, 8, 8, 8, 8, 8, 8, 8, 8, 8, 8, 8, 8, 8, 8, 8, 8, 8, 8, 8, 8, 8, 8, 8, 8, 8, 8, 8, 8, 8, 8, 8, 8, 8, 8, 8, 8, 8, 8, 8, 8, 8, 8, 8, 8, 8, 8, 8, 8, 8, 8, 8, 8, 8, 8, 8, 8, 8, 8, 8, 8, 8, 8, 8, 8, 8, 8, 8, 8, 8, 8, 8, 8, 8, 8, 8, 8, 8, 8, 8, 8, 8, 8, 8, 8, 8, 8, 8, 8, 8, 8, 8, 8, 8, 8, 8, 8, 8]) (Int.toNat j2.1))) <|
 .ret ((j2.2.1 + (satL (bs [0, 1, 2, 2, 3, 3, 3, 3, 4, 4, 4, 4, 4, 4, 4, 4, 5, 5, 5, 5, 5, 5, 5, 5, 5, 5, 5, 5, 5, 5, 5, 5, 6, 6, 6, 6, 6, 6, 6, 6, 6, 6, 6, 6, 6, 6, 6, 6, 6, 6, 6, 6, 6, 6, 6, 6, 6, 6, 6, 6, 6, 6, 6, 6, 7, 7, 7, 7, 7, 7, 7, 7, 7, 7, 7, 7, 7, 7, 7, 7, 7, 7, 7, 7, 7, 7, 7, 7, 7, 7, 7, 7, 7, 7, 7, 7, 7, 7, 7, 7, 7, 7, 7, 7, 7, 7, 7, 7, 7, 7, 7, 7, 7, 7, 7, 7, 7, 7, 7, 7, 7, 7, 7, 7, 7, 7, 7, 7, 8, 8, 8, 8, 8, 8, 8, 8, 8, 8, 8, 8, 8, 8, 8, 8, 8, 8, 8, 8, 8, 8, 8, 8, 8, 8, 8, 8, 8, 8, 8, 8, 8, 8, 8, 8, 8, 8, 8, 8, 8, 8, 8, 8, 8, 8, 8, 8, 8, 8, 8, 8, 8, 8, 8, 8, 8, 8, 8, 8, 8, 8, 8, 8, 8, 8, 8, 8, 8, 8, 8, 8, 8, 8, 8, 8, 8, 8, 8, 8, 8, 8, 8, 8, 8, 8, 8, 8, 8, 8, 8, 8, 8, 8, 8, 8, 8, 8, 8, 8, 8, 8, 8, 8, 8, 8, 8, 8, 8, 8, 8, 8, 8, 8, 8, 8, 8, 8, 8, 8, 8, 8, 8, 8, 8, 8, 8, 8]) (Int.toNat j2.1))), ())
theorem c85_ok : trF prog f85 = some ⟨25, 1, dd85.er, [.t 2], [some tI]⟩ := by kernel_rfl
noncomputable def ct85 : Ct := ⟨85, [.c (.hole (.int .u64))], hI, fun x => run0 (F85 x.1)⟩
theorem ct85_ok : ct85.Ok prog := ct_ok mixed cx85_ok func85 c85_ok (enters_of func85 rfl rfl) dd85 (by kernel_rfl) rfl (fun x => Eq.trans (b := run0 (flat (F85 x.1))) (by kernel_rfl) run_flat)

/- 71 -/
noncomputable def cx71 : Cx := (mkCxH [ct85] [])
theorem cx71_ok : cx71.Ok prog := mkCxH_ok ⟨ct85_ok, trivial⟩ trivial
noncomputable def dd71 : D prog 8 none 0 := dO [] (kd prog f71) 0
noncomputable def F71 (a0 : Int) : Tr0 (Int × Unit) :=
 .bd (F85 a0) fun y0 =>
 .ret (y0.1, ())
theorem c71_ok : trF prog f71 = some ⟨8, 1, dd71.er, [.t 2], [some tI]⟩ := by kernel_rfl
noncomputable def ct71 : Ct := ⟨71, [.c (.hole (.int .u64))], hI, fun x => run0 (F71 x.1)⟩
theorem ct71_ok : ct71.Ok prog := ct_ok mixed cx71_ok func71 c71_ok (enters_of func71 rfl rfl) dd71 (by kernel_rfl) rfl (fun x => by kernel_rfl)

/- 69 -/
noncomputable def cx69 : Cx := (mkCxH [] [])
theorem cx69_ok : cx69.Ok prog := mkCxH_ok trivial trivial
noncomputable def dd69 : D prog 6 none 0 := dO [] (kd prog f69) 0
noncomputable def F69 (a0 : Int) : Tr0 (Bool × Unit) :=
 .ret ((!(a0 == a0)), ())
theorem c69_ok : trF prog f69 = some ⟨6, 1, dd69.er, [.t 2], [some .bool]⟩ := by kernel_rfl
noncomputable def ct69 : Ct := ⟨69, [hI], .c (.hole .bool), fun x => run0 (F69 x.1)⟩
theorem ct69_ok : ct69.Ok prog := ct_ok mixed cx69_ok func69 c69_ok (enters_of func69 rfl rfl) dd69 (by kernel_rfl) rfl (fun x => by kernel_rfl)

/- 54 -/
noncomputable def cx54 : Cx := (mkCxH [ct69] [])
theorem cx54_ok : cx54.Ok prog := mkCxH_ok ⟨ct69_ok, trivial⟩ trivial
noncomputable def dd54 : D prog 20 none 0 := dO [] (kd prog f54) 0
noncomputable def F54 (a0 : Int) (a1 : Int) : Tr0 (Int × Unit) :=
 .bd (F69 a0) fun y0 =>
 .bd (F69 a1) fun y1 =>
 .br y0.1 (
 .br y1.1 (
 .ret ((0 : Int), ())) (
 .ret ((-1 : Int), ()))) (
 .br y1.1 (
 .ret ((1 : Int), ())) (
 .br (decide (a0 < a1)) (
 .ret ((-1 : Int), ())) (
 .br (decide (a1 < a0)) (
 .ret ((1 : Int), ())) (
 .ret ((0 : Int), ())))))
theorem c54_ok : trF prog f54 = some ⟨20, 2, dd54.er, [.t 4], [some tI]⟩ := by kernel_rfl
noncomputable def ct54 : Ct := ⟨54, [hI, hI], hI, fun x => run0 (F54 x.1 x.2.1)⟩
theorem ct54_ok : ct54.Ok prog := ct_ok mixed cx54_ok func54 c54_ok (enters_of func54 rfl rfl) dd54 (by kernel_rfl) rfl (fun x => by kernel_rfl)

/- 52 -/
noncomputable def cx52 : Cx := (mkCxH [] [])
theorem cx52_ok : cx52.Ok prog := mkCxH_ok trivial trivial
@[reducible] def p52_0 : Pat := Pat.mk [(3, hI), (6, hL), (7, hI), (8, hI)] [] [] []
@[reducible] def x52_0 : Outs := [(.ret, Pat.mk [(2, hI)] [] [] []), (.exit 0, Pat.mk [(3, hI)] [] [] [])]
noncomputable def b52_0 : D prog 18 none 0 := dO [] (pick (kd prog f52) [(0, false)]) 0
noncomputable def g52_0 : Int × List Int × Int × Int × Unit → Tr0 ((Int × List Int × Int × Int × Unit) ⊕ ((Int × Unit) ⊕ ((Int × Unit)))) := fun (v3, v6, v7, v8, _) =>
 .br (decide (v8 < v7)) (
 .nb v8 (((v6).length : Nat) : Int) <|
 .br (!(((v6).getD (Int.toNat v8) (0 : Int)) == v3)) (
 .ret (.inr <| .inl <| (((v6).getD (Int.toNat v8) (0 : Int)), ()))) (
 .ni (v8 + (1 : Int)) <|
 .ret (.inl (v3, (v6, (v7, ((v8 + (1 : Int)), ()))))))) (
 .ret (.inr <| .inr <| (v3, ())))
theorem s52_0 : ∀ x, roundE (kzO (p52_0.T ⊕ x52_0.T)) cx52 ar0 [] p52_0 x52_0 (b52_0) (fun y => some (.inl y)) (fun b => some (.inr b)) x = run0 (g52_0 x) := fun x => by kernel_rfl
noncomputable def L52_0 : LoopS prog 18 none 0 := mkLoop mixed cx52 cx52_ok [] rfl p52_0 x52_0 rfl (b52_0) (fun x => run0 (g52_0 x)) (s52_0)
noncomputable def dd52 : D prog 18 none 0 := dO [.l L52_0] (kd prog f52) 0
noncomputable def F52 (a0 : List Int) : Tr0 (Int × Unit) :=
 .bd (.it g52_0 ((0 : Int), (a0, ((((a0).length : Nat) : Int), ((0 : Int), ()))))) fun z0 =>
 .sm z0 (fun z1 =>
 .ret (z1.1, ())) fun z2 =>
 .ret (z2.1, ())
theorem c52_ok : trF prog f52 = some ⟨18, 1, dd52.er, [.t 2], [some tI]⟩ := by kernel_rfl
noncomputable def ct52 : Ct := ⟨52, [hL], hI, fun x => run0 (F52 x.1)⟩
theorem ct52_ok : ct52.Ok prog := ct_ok mixed cx52_ok func52 c52_ok (enters_of func52 rfl rfl) dd52 (by kernel_rfl) rfl (fun x => by kernel_rfl)

/- 62 -/
noncomputable def cx62 : Cx := (mkCxH [ct54, ct52] [])
theorem cx62_ok : cx62.Ok prog := mkCxH_ok ⟨ct54_ok, ct52_ok, trivial⟩ trivial
noncomputable def dd62 : D prog 17 none 0 := dO [] (kd prog f62) 0
noncomputable def F62 (a0 : Int × Int) (a1 : Int × Int) : Tr0 (Int × Unit) :=
 .bd (F54 a0.1 a1.1) fun y0 =>
 .bd (F54 a0.2 a1.2) fun y1 =>
 .bd (F52 ((((y0.1 :: (y1.1 :: []))).drop (0 : Nat)).take (2 : Nat))) fun y2 =>
 .ret (y2.1, ())
theorem c62_ok : trF prog f62 = some ⟨17, 2, dd62.er, [.t 4], [some tI]⟩ := by kernel_rfl
noncomputable def ct62 : Ct := ⟨62, [.c (.hole (.prod tI tI)), .c (.hole (.prod tI tI))], hI, fun x => run0 (F62 x.1 x.2.1)⟩
theorem ct62_ok : ct62.Ok prog := ct_ok mixed cx62_ok func62 c62_ok (enters_of func62 rfl rfl) dd62 (by kernel_rfl) rfl (fun x => by kernel_rfl)

/- 76, lent -/
@[reducible] def pH76 : Pat := Pat.mk [(0, .c (.sl0 0 (.prod tI tI))), (1, hI), (2, hI), (3, .c (.fn0 62))] [(0, .arr (.prod tI tI) false)] [.slot 0] []
@[reducible] def qH76 : Pat := Pat.mk [(0, .c .any)] [(0, .arr (.prod tI tI) false)] [] []
noncomputable def cxH76 : Cx := (mkCxH [ct62] [])
theorem cxH76_ok : cxH76.Ok prog := mkCxH_ok ⟨ct62_ok, trivial⟩ trivial
@[reducible] def pH76_1 : Pat := Pat.mk [(0, .c (.sl0 0 (.prod tI tI))), (1, hI), (2, hI), (3, .c (.fn0 62)), (8, hI), (9, hI)] [(0, .arr (.prod tI tI) false)] [] []
@[reducible] def xH76_1 : Outs := [(.exit 2, Pat.mk [(0, .c (.sl0 0 (.prod tI tI))), (1, hI), (2, hI), (3, .c (.fn0 62)), (8, hI)] [(0, .arr (.prod tI tI) false)] [] [])]
noncomputable def bH76_1 : D prog 53 none 1 := dO [] (pick (kd prog f76) [(0, false), (0, false)]) 0
noncomputable def gH76_1 : Nat × Int × Int × Int × Int × (List (Int × Int)) × Unit → Tr0 ((Nat × Int × Int × Int × Int × (List (Int × Int)) × Unit) ⊕ ((Nat × Int × Int × Int × (List (Int × Int)) × Unit))) := fun (nv0, v1, v2, v8, v9, b0, _) =>
 .br (decide (v1 < v9)) (
 .nb v9 ((nv0 : Nat) : Int) <|
 .nd (decide (((0 : Nat) + (Int.toNat v9)) < (b0).length)) <|
 .ni (v9 - (1 : Int)) <|
 .nb (v9 - (1 : Int)) ((nv0 : Nat) : Int) <|
 .nd (decide (((0 : Nat) + (Int.toNat (v9 - (1 : Int)))) < (b0).length)) <|
 .bd (F62 (((b0).getD ((0 : Nat) + (Int.toNat v9)) ((0 : Int), (0 : Int))).1, ((b0).getD ((0 : Nat) + (Int.toNat v9)) ((0 : Int), (0 : Int))).2) (((b0).getD ((0 : Nat) + (Int.toNat (v9 - (1 : Int)))) ((0 : Int), (0 : Int))).1, ((b0).getD ((0 : Nat) + (Int.toNat (v9 - (1 : Int)))) ((0 : Int), (0 : Int))).2)) fun y0 =>
 .br (decide (y0.1 < (0 : Int))) (
 .ni (v9 - (1 : Int)) <|
 .ni (v9 - (1 : Int)) <|
 .nb (v9 - (1 : Int)) ((nv0 : Nat) : Int) <|
 .nd (decide (((0 : Nat) + (Int.toNat (v9 - (1 : Int)))) < (b0).length)) <|
 .nb v9 ((nv0 : Nat) : Int) <|
 .nd (decide (((0 : Nat) + (Int.toNat v9)) < (b0).length)) <|
 .nb v9 ((nv0 : Nat) : Int) <|
 .nd (decide (((0 : Nat) + (Int.toNat v9)) < (b0).length)) <|
 .nb (v9 - (1 : Int)) ((nv0 : Nat) : Int) <|
 .nd (decide (((0 : Nat) + (Int.toNat (v9 - (1 : Int)))) < (((b0).set ((0 : Nat) + (Int.toNat v9)) (((b0).getD ((0 : Nat) + (Int.toNat (v9 - (1 : Int)))) ((0 : Int), (0 : Int))).1, ((b0).getD ((0 : Nat) + (Int.toNat (v9 - (1 : Int)))) ((0 : Int), (0 : Int))).2))).length)) <|
 .ni (v9 - (1 : Int)) <|
 .ret (.inl (nv0, (v1, (v2, (v8, ((v9 - (1 : Int)), (((((b0).set ((0 : Nat) + (Int.toNat v9)) (((b0).getD ((0 : Nat) + (Int.toNat (v9 - (1 : Int)))) ((0 : Int), (0 : Int))).1, ((b0).getD ((0 : Nat) + (Int.toNat (v9 - (1 : Int)))) ((0 : Int), (0 : Int))).2))).set ((0 : Nat) + (Int.toNat (v9 - (1 : Int)))) (((b0).getD ((0 : Nat) + (Int.toNat v9)) ((0 : Int), (0 : Int))).1, ((b0).getD ((0 : Nat) + (Int.toNat v9)) ((0 : Int), (0 : Int))).2)), ())))))))) (
 .ret (.inr (nv0, (v1, (v2, (v8, (b0, ())))))))) (
 .ret (.inr (nv0, (v1, (v2, (v8, (b0, ())))))))
theorem sH76_1 : ∀ x, roundE (kzO (pH76_1.T ⊕ xH76_1.T)) cxH76 ar0 [0] pH76_1 xH76_1 (bH76_1) (fun y => some (.inl y)) (fun b => some (.inr b)) x = run0 (gH76_1 x) := fun x => by kernel_rfl
noncomputable def LH76_1 : LoopS prog 53 none 1 := mkLoop mixed cxH76 cxH76_ok [0] rfl pH76_1 xH76_1 rfl (bH76_1) (fun x => run0 (gH76_1 x)) (sH76_1)
@[reducible] def pH76_0 : Pat := Pat.mk [(0, .c (.sl0 0 (.prod tI tI))), (1, hI), (2, hI), (3, .c (.fn0 62)), (8, hI)] [(0, .arr (.prod tI tI) false)] [] []
@[reducible] def xH76_0 : Outs := [(.exit 0, Pat.mk [] [(0, .arr (.prod tI tI) false)] [] [])]
noncomputable def bH76_0 : D prog 53 none 1 := dO [.l LH76_1] (pick (kd prog f76) [(0, false)]) 0
noncomputable def gH76_0 : Nat × Int × Int × Int × (List (Int × Int)) × Unit → Tr0 ((Nat × Int × Int × Int × (List (Int × Int)) × Unit) ⊕ (((List (Int × Int)) × Unit))) := fun (nv0, v1, v2, v8, b0, _) =>
 .br (decide (v8 < v2)) (
 .bd (.it gH76_1 (nv0, (v1, (v2, (v8, (v8, (b0, ()))))))) fun z1 =>
 .ni (z1.2.2.2.1 + (1 : Int)) <|
 .ret (.inl (z1.1, (z1.2.1, (z1.2.2.1, ((z1.2.2.2.1 + (1 : Int)), (z1.2.2.2.2.1, ()))))))) (
 .ret (.inr (b0, ())))
theorem sH76_0 : ∀ x, roundE (kzO (pH76_0.T ⊕ xH76_0.T)) cxH76 ar0 [0] pH76_0 xH76_0 (bH76_0) (fun y => some (.inl y)) (fun b => some (.inr b)) x = run0 (gH76_0 x) := fun x => by kernel_rfl
noncomputable def LH76_0 : LoopS prog 53 none 1 := mkLoop mixed cxH76 cxH76_ok [0] rfl pH76_0 xH76_0 rfl (bH76_0) (fun x => run0 (gH76_0 x)) (sH76_0)
noncomputable def ddH76 : D prog 53 none 1 := dO [.l LH76_0] (kd prog f76) 0
noncomputable def FH76 (nv0 : Nat) (v1 : Int) (v2 : Int) (b0 : List (Int × Int)) : Tr0 ((List (Int × Int)) × Unit) :=
 .ni (v1 + (1 : Int)) <|
 .bd (.it gH76_0 (nv0, (v1, (v2, ((v1 + (1 : Int)), (b0, ())))))) fun z2 =>
 .ret (z2.1, ())
theorem cH76_ok : trF prog f76 = some ⟨53, 4, ddH76.er, [], []⟩ := by kernel_rfl
noncomputable def ht76 : Ht := ⟨76, pH76, qH76, (fun x => run0 (FH76 x.1 x.2.1 x.2.2.1 x.2.2.2.1))⟩
theorem ht76_ok : ht76.Ok prog := ht_ok mixed cxH76_ok rfl func76 cH76_ok (enters_of func76 rfl rfl) ddH76 (by kernel_rfl) rfl rfl ⟨_, rfl⟩ rfl (pre := [0]) rfl (fun x => by kernel_rfl)

/- 70, lent -/
@[reducible] def pH70 : Pat := Pat.mk [(0, .c (.sl0 0 (.prod tI tI))), (1, hI), (2, hI), (3, hI), (4, .c (.fn0 62))] [(0, .arr (.prod tI tI) false)] [.slot 0] []
@[reducible] def qH70 : Pat := Pat.mk [(0, .c .any)] [(0, .arr (.prod tI tI) false)] [] []
noncomputable def cxH70 : Cx := (mkCxH [] [ht76])
theorem cxH70_ok : cxH70.Ok prog := mkCxH_ok trivial ⟨⟨ht76_ok, rfl⟩, trivial⟩
@[reducible] def pH70_0 : Pat := Pat.mk [(0, .c (.sl0 0 (.prod tI tI))), (1, hI), (2, hI), (3, hI), (4, .c (.fn0 62)), (10, .c (.tf true)), (11, .c (.tf true))] [(0, .arr (.prod tI tI) false)] [] []
@[reducible] def xH70_0 : Outs := [(.ret, Pat.mk [] [(0, .arr (.prod tI tI) false)] [] [])]
noncomputable def bH70_0 : D prog 148 none 1 := dO [] (pick (kd prog f70) [(0, false)]) 0
noncomputable def gH70_0 : Nat × Int × Int × Int × (List (Int × Int)) × Unit → Tr0 ((Nat × Int × Int × Int × (List (Int × Int)) × Unit) ⊕ (((List (Int × Int)) × Unit))) := fun (nv0, v1, v2, v3, b0, _) =>
 .ni (v2 - v1) <|
 .br (decide ((v2 - v1) ≤ (12 : Int))) (
 .bd (FH76 nv0 v1 v2 b0) fun y0 =>
 .ret (.inr (y0.1, ()))) (
 .br (v3 == (0 : Int)) (
 .no) (
 .no))
theorem sH70_0 : ∀ x, roundE (kzO (pH70_0.T ⊕ xH70_0.T)) cxH70 ar0 [0] pH70_0 xH70_0 (bH70_0) (fun y => some (.inl y)) (fun b => some (.inr b)) x = run0 (gH70_0 x) := fun x => by kernel_rfl
noncomputable def LH70_0 : LoopS prog 148 none 1 := mkLoop mixed cxH70 cxH70_ok [0] rfl pH70_0 xH70_0 rfl (bH70_0) (fun x => run0 (gH70_0 x)) (sH70_0)
noncomputable def ddH70 : D prog 148 none 1 := dO [.l LH70_0] (kd prog f70) 0
noncomputable def FH70 (nv0 : Nat) (v1 : Int) (v2 : Int) (v3 : Int) (b0 : List (Int × Int)) : Tr0 ((List (Int × Int)) × Unit) :=
 .bd (.it gH70_0 (nv0, (v1, (v2, (v3, (b0, ())))))) fun z1 =>
 .ret (z1.1, ())
theorem cH70_ok : trF prog f70 = some ⟨148, 5, ddH70.er, [], []⟩ := by kernel_rfl
noncomputable def ht70 : Ht := ⟨70, pH70, qH70, (fun x => run0 (FH70 x.1 x.2.1 x.2.2.1 x.2.2.2.1 x.2.2.2.2.1))⟩
theorem ht70_ok : ht70.Ok prog := ht_ok mixed cxH70_ok rfl func70 cH70_ok (enters_of func70 rfl rfl) ddH70 (by kernel_rfl) rfl rfl ⟨_, rfl⟩ rfl (pre := [0]) rfl (fun x => by kernel_rfl)

/- 61, lent -/
@[reducible] def pH61 : Pat := Pat.mk [(0, .c (.sl0 0 (.prod tI tI))), (1, .c (.fn0 62))] [(0, .arr (.prod tI tI) false)] [.slot 0] []
@[reducible] def qH61 : Pat := Pat.mk [(0, .c .any)] [(0, .arr (.prod tI tI) false)] [] []
noncomputable def cxH61 : Cx := (mkCxH [ct71] [ht70])
theorem cxH61_ok : cxH61.Ok prog := mkCxH_ok ⟨ct71_ok, trivial⟩ ⟨⟨ht70_ok, rfl⟩, trivial⟩
noncomputable def ddH61 : D prog 14 none 1 := dO [] (kd prog f61) 0
noncomputable def FH61 (nv0 : Nat) (b0 : List (Int × Int)) : Tr0 ((List (Int × Int)) × Unit) :=
 .nd (rng .u64 ((nv0 : Nat) : Int)) <|
 .bd (F71 ((nv0 : Nat) : Int)) fun y0 =>
 .bd (FH70 nv0 (0 : Int) ((nv0 : Nat) : Int) y0.1 b0) fun y1 =>
 .ret (y1.1, ())
theorem cH61_ok : trF prog f61 = some ⟨14, 2, ddH61.er, [], []⟩ := by kernel_rfl
noncomputable def ht61 : Ht := ⟨61, pH61, qH61, (fun x => run0 (FH61 x.1 x.2.1))⟩
theorem ht61_ok : ht61.Ok prog := ht_ok mixed cxH61_ok rfl func61 cH61_ok (enters_of func61 rfl rfl) ddH61 (by kernel_rfl) rfl rfl ⟨_, rfl⟩ rfl (pre := [0]) rfl (fun x => by kernel_rfl)

/- 63, lent -/
@[reducible] def pH63 : Pat := Pat.mk [(0, .c (.sl0 0 (.prod tI tI)))] [(0, .arr (.prod tI tI) false)] [.slot 0] []
@[reducible] def qH63 : Pat := Pat.mk [(0, .c (.slx 0 (.prod tI tI)))] [(0, .arr (.prod tI tI) false)] [] []
noncomputable def cxH63 : Cx := (mkCxH [] [])
theorem cxH63_ok : cxH63.Ok prog := mkCxH_ok trivial trivial
@[reducible] def pH63_1 : Pat := Pat.mk [(0, .c (.sl0 0 (.prod tI tI))), (3, hI), (4, .c (.slx 0 (.prod tI tI))), (5, hI)] [(0, .arr (.prod tI tI) false)] [] []
@[reducible] def xH63_1 : Outs := [(.exit 2, Pat.mk [(0, .c (.sl0 0 (.prod tI tI))), (3, hI)] [(0, .arr (.prod tI tI) false)] [] [])]
noncomputable def bH63_1 : D prog 61 none 1 := dO [] (pick (kd prog f63) [(0, false), (0, false)]) 0
noncomputable def gH63_1 : Nat × Int × Nat × Nat × Int × (List (Int × Int)) × Unit → Tr0 ((Nat × Int × Nat × Nat × Int × (List (Int × Int)) × Unit) ⊕ ((Nat × Int × (List (Int × Int)) × Unit))) := fun (nv0, v3, lv4, nv4, v5, b0, _) =>
 .br (decide (v5 < ((nv4 : Nat) : Int))) (
 .nb v5 ((nv4 : Nat) : Int) <|
 .nd (decide ((lv4 + (Int.toNat v5)) < (b0).length)) <|
 .ni (v5 - (1 : Int)) <|
 .nb (v5 - (1 : Int)) ((nv4 : Nat) : Int) <|
 .nd (decide ((lv4 + (Int.toNat (v5 - (1 : Int)))) < (b0).length)) <|
 .br (!((((b0).getD (lv4 + (Int.toNat v5)) ((0 : Int), (0 : Int))).1 == ((b0).getD (lv4 + (Int.toNat (v5 - (1 : Int)))) ((0 : Int), (0 : Int))).1) && ((((b0).getD (lv4 + (Int.toNat v5)) ((0 : Int), (0 : Int))).2 == ((b0).getD (lv4 + (Int.toNat (v5 - (1 : Int)))) ((0 : Int), (0 : Int))).2) && true))) (
 .nb v5 ((nv4 : Nat) : Int) <|
 .nd (decide ((lv4 + (Int.toNat v5)) < (b0).length)) <|
 .nb v3 ((nv0 : Nat) : Int) <|
 .nd (decide (((0 : Nat) + (Int.toNat v3)) < (b0).length)) <|
 .ni (v3 + (1 : Int)) <|
 .ni (v5 + (1 : Int)) <|
 .ret (.inl (nv0, ((v3 + (1 : Int)), (lv4, (nv4, ((v5 + (1 : Int)), (((b0).set ((0 : Nat) + (Int.toNat v3)) (((b0).getD (lv4 + (Int.toNat v5)) ((0 : Int), (0 : Int))).1, ((b0).getD (lv4 + (Int.toNat v5)) ((0 : Int), (0 : Int))).2)), ())))))))) (
 .ni (v5 + (1 : Int)) <|
 .ret (.inl (nv0, (v3, (lv4, (nv4, ((v5 + (1 : Int)), (b0, ()))))))))) (
 .ret (.inr (nv0, (v3, (b0, ())))))
theorem sH63_1 : ∀ x, roundE (kzO (pH63_1.T ⊕ xH63_1.T)) cxH63 ar0 [0] pH63_1 xH63_1 (bH63_1) (fun y => some (.inl y)) (fun b => some (.inr b)) x = run0 (gH63_1 x) := fun x => by kernel_rfl
noncomputable def LH63_1 : LoopS prog 61 none 1 := mkLoop mixed cxH63 cxH63_ok [0] rfl pH63_1 xH63_1 rfl (bH63_1) (fun x => run0 (gH63_1 x)) (sH63_1)
@[reducible] def pH63_0 : Pat := Pat.mk [(0, .c (.sl0 0 (.prod tI tI))), (3, hI)] [(0, .arr (.prod tI tI) false)] [] []
@[reducible] def xH63_0 : Outs := [(.ret, Pat.mk [(2, .c (.slx 0 (.prod tI tI)))] [(0, .arr (.prod tI tI) false)] [] []), (.exit 0, Pat.mk [(0, .c (.sl0 0 (.prod tI tI)))] [(0, .arr (.prod tI tI) false)] [] [])]
noncomputable def bH63_0 : D prog 61 none 1 := dO [.l LH63_1] (pick (kd prog f63) [(0, false)]) 0
noncomputable def gH63_0 : Nat × Int × (List (Int × Int)) × Unit → Tr0 ((Nat × Int × (List (Int × Int)) × Unit) ⊕ ((Nat × Nat × (List (Int × Int)) × Unit) ⊕ ((Nat × (List (Int × Int)) × Unit)))) := fun (nv0, v3, b0, _) =>
 .br (decide (v3 < ((nv0 : Nat) : Int))) (
 .nb v3 ((nv0 : Nat) : Int) <|
 .nd (decide (((0 : Nat) + (Int.toNat v3)) < (b0).length)) <|
 .ni (v3 - (1 : Int)) <|
 .nb (v3 - (1 : Int)) ((nv0 : Nat) : Int) <|
 .nd (decide (((0 : Nat) + (Int.toNat (v3 - (1 : Int)))) < (b0).length)) <|
 .br ((((b0).getD ((0 : Nat) + (Int.toNat v3)) ((0 : Int), (0 : Int))).1 == ((b0).getD ((0 : Nat) + (Int.toNat (v3 - (1 : Int)))) ((0 : Int), (0 : Int))).1) && ((((b0).getD ((0 : Nat) + (Int.toNat v3)) ((0 : Int), (0 : Int))).2 == ((b0).getD ((0 : Nat) + (Int.toNat (v3 - (1 : Int)))) ((0 : Int), (0 : Int))).2) && true)) (
 .nd (decide ((0 : Int) ≤ v3)) <|
 .nd (decide (v3 ≤ ((nv0 : Nat) : Int))) <|
 .nd (decide (((nv0 : Nat) : Int) ≤ ((nv0 : Nat) : Int))) <|
 .bd (.it gH63_1 (nv0, (v3, (((0 : Nat) + (Int.toNat v3)), (((Int.toNat ((nv0 : Nat) : Int)) - (Int.toNat v3)), ((1 : Int), (b0, ()))))))) fun z0 =>
 .nd (decide ((0 : Int) ≤ z0.2.1)) <|
 .nd (decide (z0.2.1 ≤ ((z0.1 : Nat) : Int))) <|
 .nd (decide (((z0.1 : Nat) : Int) ≤ ((z0.1 : Nat) : Int))) <|
 .nd (decide ((0 : Int) ≤ (0 : Int))) <|
 .nd (decide ((0 : Int) ≤ z0.2.1)) <|
 .nd (decide (z0.2.1 ≤ ((z0.1 : Nat) : Int))) <|
 .ret (.inr <| .inl <| (((0 : Nat) + (Int.toNat (0 : Int))), (((Int.toNat z0.2.1) - (Int.toNat (0 : Int))), ((clrL ((0 : Int), (0 : Int)) z0.2.2.1 ((0 : Nat) + (Int.toNat z0.2.1)) ((Int.toNat ((z0.1 : Nat) : Int)) - (Int.toNat z0.2.1))), ()))))) (
 .ni (v3 + (1 : Int)) <|
 .ret (.inl (nv0, ((v3 + (1 : Int)), (b0, ())))))) (
 .ret (.inr <| .inr <| (nv0, (b0, ()))))
theorem sH63_0 : ∀ x, roundE (kzO (pH63_0.T ⊕ xH63_0.T)) cxH63 ar0 [0] pH63_0 xH63_0 (bH63_0) (fun y => some (.inl y)) (fun b => some (.inr b)) x = run0 (gH63_0 x) := fun x => by kernel_rfl
noncomputable def LH63_0 : LoopS prog 61 none 1 := mkLoop mixed cxH63 cxH63_ok [0] rfl pH63_0 xH63_0 rfl (bH63_0) (fun x => run0 (gH63_0 x)) (sH63_0)
noncomputable def ddH63 : D prog 61 none 1 := dO [.l LH63_0] (kd prog f63) 0
noncomputable def FH63 (nv0 : Nat) (b0 : List (Int × Int)) : Tr0 (Nat × Nat × (List (Int × Int)) × Unit) :=
 .br (decide (((nv0 : Nat) : Int) < (2 : Int))) (
 .ret ((0 : Nat), (nv0, (b0, ())))) (
 .bd (.it gH63_0 (nv0, ((1 : Int), (b0, ())))) fun z1 =>
 .sm z1 (fun z2 =>
 .ret (z2.1, (z2.2.1, (z2.2.2.1, ())))) fun z3 =>
 .ret ((0 : Nat), (z3.1, (z3.2.1, ()))))
theorem cH63_ok : trF prog f63 = some ⟨61, 1, ddH63.er, [.t 2], [some (.list (.prod tI tI))]⟩ := by kernel_rfl
noncomputable def ht63 : Ht := ⟨63, pH63, qH63, (fun x => run0 (FH63 x.1 x.2.1))⟩
theorem ht63_ok : ht63.Ok prog := ht_ok mixed cxH63_ok rfl func63 cH63_ok (enters_of func63 rfl rfl) ddH63 (by kernel_rfl) rfl rfl ⟨_, rfl⟩ rfl (pre := [0]) rfl (fun x => by kernel_rfl)

/- 49 -/
noncomputable def cx49 : Cx := (mkCxH [] [])
theorem cx49_ok : cx49.Ok prog := mkCxH_ok trivial trivial
noncomputable def dd49 : D prog 16 none 0 := dO [] (kd prog f49) 0
noncomputable def F49 (a0 : Int × Int) (a1 : Int × Int) : Tr0 ((Int × Int) × Unit) :=
 .ni (a0.1 - a1.1) <|
 .ni (a0.2 - a1.2) <|
 .ret (((a0.1 - a1.1), (a0.2 - a1.2)), ())
theorem c49_ok : trF prog f49 = some ⟨16, 2, dd49.er, [.cell 4 true 2], [some (.prod tI tI)]⟩ := by kernel_rfl
noncomputable def ct49 : Ct := ⟨49, [.c (.hole (.prod tI tI)), .c (.hole (.prod tI tI))], .c (.hole (.prod tI tI)), fun x => run0 (F49 x.1 x.2.1)⟩
theorem ct49_ok : ct49.Ok prog := ct_ok mixed cx49_ok func49 c49_ok (enters_of func49 rfl rfl) dd49 (by kernel_rfl) rfl (fun x => by kernel_rfl)

/- 48 -/
noncomputable def cx48 : Cx := (mkCxH [] [])
theorem cx48_ok : cx48.Ok prog := mkCxH_ok trivial trivial
noncomputable def dd48 : D prog 16 none 0 := dO [] (kd prog f48) 0
noncomputable def F48 (a0 : Int × Int) (a1 : Int × Int) : Tr0 (Int × Unit) :=
 .ni (a0.1 * a1.2) <|
 .ni (a0.2 * a1.1) <|
 .ni ((a0.1 * a1.2) - (a0.2 * a1.1)) <|
 .ret (((a0.1 * a1.2) - (a0.2 * a1.1)), ())
theorem c48_ok : trF prog f48 = some ⟨16, 2, dd48.er, [.t 4], [some tI]⟩ := by kernel_rfl
noncomputable def ct48 : Ct := ⟨48, [.c (.hole (.prod tI tI)), .c (.hole (.prod tI tI))], hI, fun x => run0 (F48 x.1 x.2.1)⟩
theorem ct48_ok : ct48.Ok prog := ct_ok mixed cx48_ok func48 c48_ok (enters_of func48 rfl rfl) dd48 (by kernel_rfl) rfl (fun x => by kernel_rfl)

/- 65 -/
noncomputable def cx65 : Cx := (mkCxH [ct49, ct48] [])
theorem cx65_ok : cx65.Ok prog := mkCxH_ok ⟨ct49_ok, ct48_ok, trivial⟩ trivial
noncomputable def dd65 : D prog 15 none 0 := dO [] (kd prog f65) 0
noncomputable def F65 (a0 : Int × Int) (a1 : Int × Int) (a2 : Int × Int) : Tr0 (Bool × Unit) :=
 .bd (F49 (a1.1, a1.2) (a0.1, a0.2)) fun y0 =>
 .bd (F49 (a2.1, a2.2) (a0.1, a0.2)) fun y1 =>
 .bd (F48 (y0.1.1, y0.1.2) (y1.1.1, y1.1.2)) fun y2 =>
 .ret ((decide ((0 : Int) < y2.1)), ())
theorem c65_ok : trF prog f65 = some ⟨15, 3, dd65.er, [.t 6], [some .bool]⟩ := by kernel_rfl
noncomputable def ct65 : Ct := ⟨65, [.c (.hole (.prod tI tI)), .c (.hole (.prod tI tI)), .c (.hole (.prod tI tI))], .c (.hole .bool), fun x => run0 (F65 x.1 x.2.1 x.2.2.1)⟩
theorem ct65_ok : ct65.Ok prog := ct_ok mixed cx65_ok func65 c65_ok (enters_of func65 rfl rfl) dd65 (by kernel_rfl) rfl (fun x => by kernel_rfl)

/- 64, lent -/
@[reducible] def pH64 : Pat := Pat.mk [(0, .c (.sl0 0 (.prod tI tI))), (1, .c (.hole (.prod tI tI))), (2, .c (.fn0 65))] [(0, .arr (.prod tI tI) false)] [.slot 0] []
@[reducible] def qH64 : Pat := Pat.mk [(0, .c (.sl0 1 (.prod tI tI)))] [(1, .arr (.prod tI tI) false)] [.slot 0] []
noncomputable def cxH64 : Cx := (mkCxH [ct65] [])
theorem cxH64_ok : cxH64.Ok prog := mkCxH_ok ⟨ct65_ok, trivial⟩ trivial
@[reducible] def pH64_0 : Pat := Pat.mk [(0, .c (.slx 0 (.prod tI tI))), (2, .c (.fn0 65)), (4, .c (.ptr 1 0))] [(0, .arr (.prod tI tI) false), (1, .cells [.hole tI, .hole tI] false)] [.slot 4] []
@[reducible] def xH64_0 : Outs := [(.exit 0, Pat.mk [(0, .c (.slx 0 (.prod tI tI))), (4, .c (.ptr 1 0))] [(0, .arr (.prod tI tI) false), (1, .cells [.hole tI, .hole tI] false)] [.slot 4] [])]
noncomputable def bH64_0 : D prog 37 none 1 := dO [] (pick (kd prog f64) [(0, false)]) 0
noncomputable def gH64_0 : Nat × Nat × (List (Int × Int)) × Int × Int × Unit → Tr0 ((Nat × Nat × (List (Int × Int)) × Int × Int × Unit) ⊕ ((Nat × Nat × (List (Int × Int)) × Int × Int × Unit))) := fun (lv0, nv0, b0, c1_0, c1_1, _) =>
 .br (decide ((1 : Int) < ((nv0 : Nat) : Int))) (
 .ni (((nv0 : Nat) : Int) - (2 : Int)) <|
 .nb (((nv0 : Nat) : Int) - (2 : Int)) ((nv0 : Nat) : Int) <|
 .nd (decide ((lv0 + (Int.toNat (((nv0 : Nat) : Int) - (2 : Int)))) < (b0).length)) <|
 .ni (((nv0 : Nat) : Int) - (1 : Int)) <|
 .nb (((nv0 : Nat) : Int) - (1 : Int)) ((nv0 : Nat) : Int) <|
 .nd (decide ((lv0 + (Int.toNat (((nv0 : Nat) : Int) - (1 : Int)))) < (b0).length)) <|
 .bd (F65 (((b0).getD (lv0 + (Int.toNat (((nv0 : Nat) : Int) - (2 : Int)))) ((0 : Int), (0 : Int))).1, ((b0).getD (lv0 + (Int.toNat (((nv0 : Nat) : Int) - (2 : Int)))) ((0 : Int), (0 : Int))).2) (((b0).getD (lv0 + (Int.toNat (((nv0 : Nat) : Int) - (1 : Int)))) ((0 : Int), (0 : Int))).1, ((b0).getD (lv0 + (Int.toNat (((nv0 : Nat) : Int) - (1 : Int)))) ((0 : Int), (0 : Int))).2) (c1_0, c1_1)) fun y0 =>
 .br (!y0.1) (
 .ni (((nv0 : Nat) : Int) - (1 : Int)) <|
 .nd (decide ((0 : Int) ≤ (0 : Int))) <|
 .nd (decide ((0 : Int) ≤ (((nv0 : Nat) : Int) - (1 : Int)))) <|
 .nd (decide ((((nv0 : Nat) : Int) - (1 : Int)) ≤ ((nv0 : Nat) : Int))) <|
 .ret (.inl ((lv0 + (Int.toNat (0 : Int))), (((Int.toNat (((nv0 : Nat) : Int) - (1 : Int))) - (Int.toNat (0 : Int))), (b0, (c1_0, (c1_1, ()))))))) (
 .ret (.inr (lv0, (nv0, (b0, (c1_0, (c1_1, ())))))))) (
 .ret (.inr (lv0, (nv0, (b0, (c1_0, (c1_1, ())))))))
theorem sH64_0 : ∀ x, roundE (kzO (pH64_0.T ⊕ xH64_0.T)) cxH64 ar0 [0] pH64_0 xH64_0 (bH64_0) (fun y => some (.inl y)) (fun b => some (.inr b)) x = run0 (gH64_0 x) := fun x => by kernel_rfl
noncomputable def LH64_0 : LoopS prog 37 none 1 := mkLoop mixed cxH64 cxH64_ok [0] rfl pH64_0 xH64_0 rfl (bH64_0) (fun x => run0 (gH64_0 x)) (sH64_0)
noncomputable def ddH64 : D prog 37 none 1 := dO [.l LH64_0] (kd prog f64) 0
noncomputable def FH64 (nv0 : Nat) (v1 : Int × Int) (b0 : List (Int × Int)) : Tr0 (Nat × (List (Int × Int)) × Unit) :=
 .bd (.it gH64_0 ((0 : Nat), (nv0, (b0, (v1.1, (v1.2, ())))))) fun z1 =>
 .nd (decide ((z1.2.1 + ((((((z1.2.2.2.1, z1.2.2.2.2.1) :: [])).drop (0 : Nat)).take (1 : Nat))).length) < bigL)) <|
 .ret ((z1.2.1 + ((((((z1.2.2.2.1, z1.2.2.2.2.1) :: [])).drop (0 : Nat)).take (1 : Nat))).length), (((((z1.2.2.1).drop z1.1).take z1.2.1) ++ (((((z1.2.2.2.1, z1.2.2.2.2.1) :: [])).drop (0 : Nat)).take (1 : Nat))), ()))
theorem cH64_ok : trF prog f64 = some ⟨37, 3, ddH64.er, [.t 6], [some (.list (.prod tI tI))]⟩ := by kernel_rfl
noncomputable def ht64 : Ht := ⟨64, pH64, qH64, (fun x => run0 (FH64 x.1 x.2.1 x.2.2.1))⟩
theorem ht64_ok : ht64.Ok prog := ht_ok mixed cxH64_ok rfl func64 cH64_ok (enters_of func64 rfl rfl) ddH64 (by kernel_rfl) rfl rfl ⟨_, rfl⟩ rfl (pre := [0]) rfl (fun x => by kernel_rfl)

/- 66 -/
noncomputable def cx66 : Cx := (mkCxH [] [])
theorem cx66_ok : cx66.Ok prog := mkCxH_ok trivial trivial
noncomputable def dd66 : D prog 4 none 0 := dO [] (kd prog f66) 0
noncomputable def F66 (a0 : List (Int × Int)) : Tr0 ((List (Int × Int)) × Unit) :=
 .ret (a0, ())
theorem c66_ok : trF prog f66 = some ⟨4, 1, dd66.er, [.t 2], [none]⟩ := by kernel_rfl
noncomputable def ct66 : Ct := ⟨66, [.c (.hole (.list (.prod tI tI)))], .fn 72 [] [.ipc (.list (.prod tI tI))], fun x => run0 (F66 x.1)⟩
theorem ct66_ok : ct66.Ok prog := ct_ok mixed cx66_ok func66 c66_ok (enters_of func66 rfl rfl) dd66 (by kernel_rfl) rfl (fun x => by kernel_rfl)

/- 73, lent -/
@[reducible] def pH73 : Pat := Pat.mk [(0, .c .nsl), (1, hI)] [] [] []
@[reducible] def qH73 : Pat := Pat.mk [(0, .c (.slx 0 (.prod tI tI)))] [(0, .arr (.prod tI tI) false)] [.slot 0] []
noncomputable def cxH73 : Cx := (mkCxH [] [])
theorem cxH73_ok : cxH73.Ok prog := mkCxH_ok trivial trivial
noncomputable def ddH73 : D prog 27 none 0 := dO [] (kd prog f73) 0
noncomputable def FH73 (v1 : Int) : Tr0 (Nat × Nat × (List (Int × Int)) × Unit) :=
 .br (decide (v1 < (0 : Int))) (
 .no) (
 .ni ((0 : Int) - (0 : Int)) <|
 .ni (v1 - ((0 : Int) - (0 : Int))) <|
 .br (decide ((0 : Int) < (v1 - (0 : Int)))) (
 .nd ((0 : Int) == (0 : Int)) <|
 .nd ((0 : Int) == (0 : Int)) <|
 .nb (v1 - (0 : Int)) ((bigL : Nat) : Int) <|
 .nd (decide ((0 : Int) ≤ (0 : Int))) <|
 .nd (decide ((0 : Int) ≤ (0 : Int))) <|
 .nd (decide ((0 : Int) ≤ (((Int.toNat (v1 - (0 : Int))) : Nat) : Int))) <|
 .ret (((0 : Nat) + (Int.toNat (0 : Int))), (((Int.toNat (0 : Int)) - (Int.toNat (0 : Int))), ((List.replicate (Int.toNat (v1 - (0 : Int))) ((0 : Int), (0 : Int))), ())))) (
 .ret ((0 : Nat), ((0 : Nat), ([], ())))))
theorem cH73_ok : trF prog f73 = some ⟨27, 2, ddH73.er, [.t 4], [some (.list (.prod tI tI))]⟩ := by kernel_rfl
noncomputable def ht73 : Ht := ⟨73, pH73, qH73, (fun x => run0 (FH73 x.1))⟩
theorem ht73_ok : ht73.Ok prog := ht_ok mixed cxH73_ok rfl func73 cH73_ok (enters_of func73 rfl rfl) ddH73 (by kernel_rfl) rfl rfl ⟨_, rfl⟩ rfl (pre := []) rfl (fun x => by kernel_rfl)

/- 67 -/
noncomputable def cx67 : Cx := (mkCxH [] [ht73])
theorem cx67_ok : cx67.Ok prog := mkCxH_ok trivial ⟨⟨ht73_ok, rfl⟩, trivial⟩
@[reducible] def p67_0 : Pat := Pat.mk [(0, .c (.hole (.list (.list (.prod tI tI))))), (3, hI), (9, .c (.hole (.list (.list (.prod tI tI))))), (10, hI), (11, hI)] [] [] []
@[reducible] def x67_0 : Outs := [(.exit 0, Pat.mk [(0, .c (.hole (.list (.list (.prod tI tI))))), (3, hI)] [] [] [])]
noncomputable def b67_0 : D prog 36 none 0 := dO [] (pick (kd prog f67) [(0, false)]) 0
noncomputable def g67_0 : (List (List (Int × Int))) × Int × (List (List (Int × Int))) × Int × Int × Unit → Tr0 (((List (List (Int × Int))) × Int × (List (List (Int × Int))) × Int × Int × Unit) ⊕ (((List (List (Int × Int))) × Int × Unit))) := fun (v0, v3, v9, v10, v11, _) =>
 .br (decide (v11 < v10)) (
 .nb v11 (((v9).length : Nat) : Int) <|
 .ni (v3 + (((((v9).getD (Int.toNat v11) [])).length : Nat) : Int)) <|
 .br (decide ((v3 + (((((v9).getD (Int.toNat v11) [])).length : Nat) : Int)) < (0 : Int))) (
 .no) (
 .ni (v11 + (1 : Int)) <|
 .ret (.inl (v0, ((v3 + (((((v9).getD (Int.toNat v11) [])).length : Nat) : Int)), (v9, (v10, ((v11 + (1 : Int)), ())))))))) (
 .ret (.inr (v0, (v3, ()))))
theorem s67_0 : ∀ x, roundE (kzO (p67_0.T ⊕ x67_0.T)) cx67 ar0 [] p67_0 x67_0 (b67_0) (fun y => some (.inl y)) (fun b => some (.inr b)) x = run0 (g67_0 x) := fun x => by kernel_rfl
noncomputable def L67_0 : LoopS prog 36 none 0 := mkLoop mixed cx67 cx67_ok [] rfl p67_0 x67_0 rfl (b67_0) (fun x => run0 (g67_0 x)) (s67_0)
@[reducible] def p67_1 : Pat := Pat.mk [(6, .c (.slx 0 (.prod tI tI))), (25, .c (.hole (.list (.list (.prod tI tI))))), (26, hI), (27, hI)] [(0, .arr (.prod tI tI) false)] [.slot 6] []
@[reducible] def x67_1 : Outs := [(.exit 2, Pat.mk [(6, .c (.slx 0 (.prod tI tI)))] [(0, .arr (.prod tI tI) false)] [.slot 6] [])]
noncomputable def b67_1 : D prog 36 none 0 := dO [] (pick (kd prog f67) [(1, false)]) 0
noncomputable def g67_1 : Nat × Nat × (List (List (Int × Int))) × Int × Int × (List (Int × Int)) × Unit → Tr0 ((Nat × Nat × (List (List (Int × Int))) × Int × Int × (List (Int × Int)) × Unit) ⊕ ((Nat × Nat × (List (Int × Int)) × Unit))) := fun (lv6, nv6, v25, v26, v27, b0, _) =>
 .br (decide (v27 < v26)) (
 .nb v27 (((v25).length : Nat) : Int) <|
 .nd (decide ((nv6 + (((v25).getD (Int.toNat v27) [])).length) < bigL)) <|
 .ni (v27 + (1 : Int)) <|
 .ret (.inl ((0 : Nat), ((nv6 + (((v25).getD (Int.toNat v27) [])).length), (v25, (v26, ((v27 + (1 : Int)), (((((b0).drop lv6).take nv6) ++ ((v25).getD (Int.toNat v27) [])), ())))))))) (
 .ret (.inr (lv6, (nv6, (b0, ())))))
theorem s67_1 : ∀ x, roundE (kzO (p67_1.T ⊕ x67_1.T)) cx67 ar0 [] p67_1 x67_1 (b67_1) (fun y => some (.inl y)) (fun b => some (.inr b)) x = run0 (g67_1 x) := fun x => by kernel_rfl
noncomputable def L67_1 : LoopS prog 36 none 0 := mkLoop mixed cx67 cx67_ok [] rfl p67_1 x67_1 rfl (b67_1) (fun x => run0 (g67_1 x)) (s67_1)
noncomputable def dd67 : D prog 36 none 0 := dO [.l L67_0, .l L67_1] (kd prog f67) 0
noncomputable def F67 (a0 : List (List (Int × Int))) : Tr0 ((List (Int × Int)) × Unit) :=
 .bd (.it g67_0 (a0, ((0 : Int), (a0, ((((a0).length : Nat) : Int), ((0 : Int), ())))))) fun z0 =>
 .bd (FH73 z0.2.1) fun y1 =>
 .bd (.it g67_1 (y1.1, (y1.2.1, (z0.1, ((((z0.1).length : Nat) : Int), ((0 : Int), (y1.2.2.1, ()))))))) fun z2 =>
 .ret ((((z2.2.2.1).drop z2.1).take z2.2.1), ())
theorem c67_ok : trF prog f67 = some ⟨36, 1, dd67.er, [.t 2], [some (.list (.prod tI tI))]⟩ := by kernel_rfl
noncomputable def ct67 : Ct := ⟨67, [.c (.hole (.list (.list (.prod tI tI))))], .c (.hole (.list (.prod tI tI))), fun x => run0 (F67 x.1)⟩
theorem ct67_ok : ct67.Ok prog := ct_ok mixed cx67_ok func67 c67_ok (enters_of func67 rfl rfl) dd67 (by kernel_rfl) rfl (fun x => by kernel_rfl)

/- 46 -/
noncomputable def cx46 : Cx := (mkCxH [ct66, ct67] [ht55, ht61, ht63, ht64])
theorem cx46_ok : cx46.Ok prog := mkCxH_ok ⟨ct66_ok, ct67_ok, trivial⟩ ⟨⟨ht55_ok, rfl⟩, ⟨ht61_ok, rfl⟩, ⟨ht63_ok, rfl⟩, ⟨ht64_ok, rfl⟩, trivial⟩
@[reducible] def p46_0 : Pat := Pat.mk [(0, .c (.slx 0 (.prod tI tI))), (2, .c .nsl), (3, .c (.sl0 1 (.prod tI tI))), (4, .c (.ptr 2 0)), (19, .c (.slx 0 (.prod tI tI))), (20, hI), (21, hI)] [(0, .arr (.prod tI tI) false), (1, .arr (.prod tI tI) false), (2, .cells [.nsl] false)] [.slot 0, .slot 3, .slot 4] []
@[reducible] def x46_0 : Outs := [(.exit 0, Pat.mk [(0, .c (.slx 0 (.prod tI tI))), (2, .c .nsl), (3, .c (.sl0 1 (.prod tI tI))), (4, .c (.ptr 2 0))] [(0, .arr (.prod tI tI) false), (1, .arr (.prod tI tI) false), (2, .cells [.nsl] false)] [.slot 0, .slot 3, .slot 4] [])]
noncomputable def b46_0 : D prog 48 none 0 := dO [] (pick (kd prog f46) [(0, false)]) 0
noncomputable def g46_0 : Nat × Nat × Nat × Nat × Nat × Int × Int × (List (Int × Int)) × (List (Int × Int)) × Unit → Tr0 ((Nat × Nat × Nat × Nat × Nat × Int × Int × (List (Int × Int)) × (List (Int × Int)) × Unit) ⊕ ((Nat × Nat × Nat × (List (Int × Int)) × (List (Int × Int)) × Unit))) := fun (lv0, nv0, nv3, lv19, nv19, v20, v21, b0, b1, _) =>
 .br (decide (v21 < v20)) (
 .nb v21 ((nv19 : Nat) : Int) <|
 .nd (decide ((lv19 + (Int.toNat v21)) < (b0).length)) <|
 .bd (FH64 nv3 (((b0).getD (lv19 + (Int.toNat v21)) ((0 : Int), (0 : Int))).1, ((b0).getD (lv19 + (Int.toNat v21)) ((0 : Int), (0 : Int))).2) b1) fun y3 =>
 .ni (v21 + (1 : Int)) <|
 .ret (.inl (lv0, (nv0, (y3.1, (lv19, (nv19, (v20, ((v21 + (1 : Int)), (b0, (y3.2.1, ()))))))))))) (
 .ret (.inr (lv0, (nv0, (nv3, (b0, (b1, ())))))))
theorem s46_0 : ∀ x, roundE (kzO (p46_0.T ⊕ x46_0.T)) cx46 ar0 [] p46_0 x46_0 (b46_0) (fun y => some (.inl y)) (fun b => some (.inr b)) x = run0 (g46_0 x) := fun x => by kernel_rfl
noncomputable def L46_0 : LoopS prog 48 none 0 := mkLoop mixed cx46 cx46_ok [] rfl p46_0 x46_0 rfl (b46_0) (fun x => run0 (g46_0 x)) (s46_0)
noncomputable def ad46_1 : D prog 48 (some 3) 5 := dO [] (pick (kd prog f46) [(1, false)]) 0
noncomputable def bd46_1 : D prog 48 (some 3) 5 := dO [] (pick (kd prog f46) [(1, true)]) 0
noncomputable def cx46_1i : Cx := itCx cx46 (fun kz => rdK kz cx46 ar0 3 5 [31, 32] (ad46_1) (bd46_1))
theorem cx46_1i_ok : (cx46_1i).Ok prog := itCx_ok cx46_ok (fun h => rdK_ok mixed cx46_ok h)
@[reducible] def p46_1i_0 : Pat := Pat.mk [(0, .c (.yl 3)), (1, .c (.ipc (.list (.prod tI tI)))), (3, hI)] [(3, .loop .ready none 2 [(2, .c .nsl), (3, .c (.sl0 0 (.prod tI tI))), (4, .c (.ptr 1 0)), (30, .fn 72 [] [.ipc (.list (.prod tI tI))])] [31, 32] (.reg [.op (some 8) none (.alloc [.int .i64 (Int.ofNat 0), .int .i64 (Int.ofNat 0)]), .op none none (.store 2 (.t 8) (.t 32))]) (.block 3 (.reg [.op (some 33) none (.load false 1 (.t 4)), .op (some 34) none (.load true 2 (.t 8)), .call (some 35) none (.c (.fn 64 [] [])) [.t 33, .t 34, .c (.fn 65 [] [])] [some .str, some (.prod tI tI), none], .op none none (.store 1 (.t 4) (.t 35))])) 48), (2, .dfr), (0, .arr (.prod tI tI) false), (1, .cells [.sl0 4 (.prod tI tI)] false), (4, .arr (.prod tI tI) false)] [.cell 1 0] []
@[reducible] def x46_1i_0 : Outs := [(.exit 0, Pat.mk [] [(1, .cells [.sl0 4 (.prod tI tI)] false), (2, .dfr), (3, .loop .ready none 2 [(2, .c .nsl), (3, .c (.sl0 0 (.prod tI tI))), (4, .c (.ptr 1 0)), (30, .fn 72 [] [.ipc (.list (.prod tI tI))])] [31, 32] (.reg [.op (some 8) none (.alloc [.int .i64 (Int.ofNat 0), .int .i64 (Int.ofNat 0)]), .op none none (.store 2 (.t 8) (.t 32))]) (.block 3 (.reg [.op (some 33) none (.load false 1 (.t 4)), .op (some 34) none (.load true 2 (.t 8)), .call (some 35) none (.c (.fn 64 [] [])) [.t 33, .t 34, .c (.fn 65 [] [])] [some .str, some (.prod tI tI), none], .op none none (.store 1 (.t 4) (.t 35))])) 48), (0, .arr (.prod tI tI) false), (4, .arr (.prod tI tI) false)] [.cell 1 0] [])]
noncomputable def b46_1i_0 : D prog 19 none 4 := dO [] (pick (kd prog f72) [(0, false)]) 0
noncomputable def g46_1i_0 : (List (Int × Int)) × Int × Nat × (List (Int × Int)) × (List (Int × Int)) × Nat × (List (Int × Int)) × Unit → Tr0 (((List (Int × Int)) × Int × Nat × (List (Int × Int)) × (List (Int × Int)) × Nat × (List (Int × Int)) × Unit) ⊕ ((Nat × Nat × (List (Int × Int)) × (List (Int × Int)) × (List (Int × Int)) × Unit))) := fun (v1, v3, nw3, w30_0, b0, nc1_0, b4, _) =>
 .br (decide ((0 : Int) ≤ v3)) (
 .nb v3 (((v1).length : Nat) : Int) <|
 .bd (FH64 nc1_0 (((v1).getD (Int.toNat v3) ((0 : Int), (0 : Int))).1, ((v1).getD (Int.toNat v3) ((0 : Int), (0 : Int))).2) b4) fun y6 =>
 .ni (v3 - (1 : Int)) <|
 .ret (.inl (v1, ((v3 - (1 : Int)), (nw3, (w30_0, (b0, (y6.1, (y6.2.1, ()))))))))) (
 .ret (.inr (nc1_0, (nw3, (w30_0, (b0, (b4, ())))))))
theorem s46_1i_0 : ∀ x, roundE (kzO (p46_1i_0.T ⊕ x46_1i_0.T)) cx46_1i ar0 [0, 1, 2, 3] p46_1i_0 x46_1i_0 (b46_1i_0) (fun y => some (.inl y)) (fun b => some (.inr b)) x = run0 (g46_1i_0 x) := fun x => by kernel_rfl
noncomputable def L46_1i_0 : LoopS prog 19 none 4 := mkLoop mixed cx46_1i cx46_1i_ok [0, 1, 2, 3] rfl p46_1i_0 x46_1i_0 rfl (b46_1i_0) (fun x => run0 (g46_1i_0 x)) (s46_1i_0)
@[reducible] def p46_1 : Pat := Pat.mk [(2, .c .nsl), (3, .c (.sl0 0 (.prod tI tI))), (4, .c (.ptr 1 0)), (30, .fn 72 [] [.ipc (.list (.prod tI tI))])] [(0, .arr (.prod tI tI) false), (1, .cells [.nsl] false)] [.slot 3, .slot 4] []
@[reducible] def x46_1 : Outs := [(.normal, Pat.mk [(3, .c (.sl0 0 (.prod tI tI))), (4, .c (.ptr 1 0))] [(0, .arr (.prod tI tI) false), (1, .cells [.sl0 2 (.prod tI tI)] false), (2, .arr (.prod tI tI) false)] [.slot 3, .slot 4, .cell 1 0] [])]
noncomputable def b46_1i : D prog 19 none 4 := dO [.l L46_1i_0] (kd prog f72) 0
theorem ci46_1 : trF prog f72 = some ⟨19, 2, (b46_1i).er, [], []⟩ := by kernel_rfl
noncomputable def g46_1 : Nat × (List (Int × Int)) × (List (Int × Int)) × Unit → Tr0 ((Nat × (List (Int × Int)) × Nat × (List (Int × Int)) × Unit)) := fun (nv3, v30_0, b0, _) =>
 .ni ((((v30_0).length : Nat) : Int) - (1 : Int)) <|
 .bd (.it g46_1i_0 (v30_0, (((((v30_0).length : Nat) : Int) - (1 : Int)), (nv3, (v30_0, (b0, ((0 : Nat), ([], ())))))))) fun z7 =>
 .ret ((nv3, (z7.2.2.2.1, (z7.1, (z7.2.2.2.2.1, ())))))
theorem s46_1 : ∀ x, rangeE (N := 48) (out := none) (base := 0) (kzO x46_1.T) cx46_1i ar0 [] p46_1 x46_1 ( .t 30) [31, 32] (ad46_1).er (bd46_1).er [] 2 72 (b46_1i) some x = run0 (g46_1 x) := fun x => by kernel_rfl
noncomputable def R46_1 : RangeS prog 48 none 0 := mkRange mixed cx46_1i cx46_1i_ok [] rfl p46_1 x46_1 ( .t 30) [31, 32] rfl (ad46_1).er (bd46_1).er 72 func72 (ci46_1) (enters_of func72 rfl rfl) 4 rfl (b46_1i) rfl (fun x => run0 (g46_1 x)) (s46_1)
noncomputable def dd46 : D prog 48 none 0 := dO [.l L46_0, .r R46_1] (kd prog f46) 0
noncomputable def F46 (a0 : List (Int × Int)) : Tr0 ((List (Int × Int)) × Unit) :=
 .bd (FH55 a0) fun y0 =>
 .bd (FH61 y0.1 y0.2.1) fun y1 =>
 .bd (FH63 y0.1 y1.1) fun y2 =>
 .br (decide (((y2.2.1 : Nat) : Int) < (3 : Int))) (
 .ret ((((y2.2.2.1).drop y2.1).take y2.2.1), ())) (
 .bd (.it g46_0 (y2.1, (y2.2.1, ((0 : Nat), (y2.1, (y2.2.1, (((y2.2.1 : Nat) : Int), ((0 : Int), (y2.2.2.1, ([], ())))))))))) fun z4 =>
 .bd (F66 (((z4.2.2.2.1).drop z4.1).take z4.2.1)) fun y5 =>
 .bd (g46_1 (z4.2.2.1, (y5.1, (z4.2.2.2.2.1, ())))) fun z8 =>
 .ni (((z8.1 : Nat) : Int) - (1 : Int)) <|
 .nd (decide ((0 : Int) ≤ (0 : Int))) <|
 .nd (decide ((0 : Int) ≤ (((z8.1 : Nat) : Int) - (1 : Int)))) <|
 .nd (decide ((((z8.1 : Nat) : Int) - (1 : Int)) ≤ ((z8.1 : Nat) : Int))) <|
 .ni (((z8.2.2.1 : Nat) : Int) - (1 : Int)) <|
 .nd (decide ((0 : Int) ≤ (0 : Int))) <|
 .nd (decide ((0 : Int) ≤ (((z8.2.2.1 : Nat) : Int) - (1 : Int)))) <|
 .nd (decide ((((z8.2.2.1 : Nat) : Int) - (1 : Int)) ≤ ((z8.2.2.1 : Nat) : Int))) <|
 .bd (F67 (((((((z8.2.1).drop ((0 : Nat) + (Int.toNat (0 : Int)))).take ((Int.toNat (((z8.1 : Nat) : Int) - (1 : Int))) - (Int.toNat (0 : Int)))) :: ((((z8.2.2.2.1).drop ((0 : Nat) + (Int.toNat (0 : Int)))).take ((Int.toNat (((z8.2.2.1 : Nat) : Int) - (1 : Int))) - (Int.toNat (0 : Int)))) :: []))).drop (0 : Nat)).take (2 : Nat))) fun y9 =>
 .ret (y9.1, ()))
theorem c46_ok : trF prog f46 = some ⟨48, 1, dd46.er, [.t 2], [some (.list (.prod tI tI))]⟩ := by kernel_rfl
noncomputable def ct46 : Ct := ⟨46, [.c (.hole (.list (.prod tI tI)))], .c (.hole (.list (.prod tI tI))), fun x => run0 (F46 x.1)⟩
theorem ct46_ok : ct46.Ok prog := ct_ok mixed cx46_ok func46 c46_ok (enters_of func46 rfl rfl) dd46 (by kernel_rfl) rfl (fun x => by kernel_rfl)

/- 24 -/
noncomputable def cx24 : Cx := (mkCxH [ct44, ct46] [])
theorem cx24_ok : cx24.Ok prog := mkCxH_ok ⟨ct44_ok, ct46_ok, trivial⟩ trivial
noncomputable def dd24 : D prog 17 none 0 := dO [] (kd prog f24) 0
noncomputable def F24 (a0 : List (Int × Int)) : Tr0 ((List (Int × Int)) × Int × Unit) :=
 .br ((((a0).length : Nat) : Int) == (0 : Int)) (
 .ret ([], ((4 : Int), ()))) (
 .br (decide ((20 : Int) < (((a0).length : Nat) : Int))) (
 .ret ([], ((1 : Int), ()))) (
 .bd (F44 a0) fun y0 =>
 .br y0.1 (
 .ret ([], ((2 : Int), ()))) (
 .bd (F46 a0) fun y1 =>
 .ret (y1.1, ((0 : Int), ())))))
theorem c24_ok : trF prog f24 = some ⟨17, 1, dd24.er, [.t 2, .t 3], [some (.list (.prod tI tI)), some tI]⟩ := by kernel_rfl
noncomputable def ct24 : Ct := ⟨24, [.c (.hole (.list (.prod tI tI)))], .tup [.hole (.list (.prod tI tI)), .hole tI], fun x => run0 (F24 x.1)⟩
theorem ct24_ok : ct24.Ok prog := ct_ok mixed cx24_ok func24 c24_ok (enters_of func24 rfl rfl) dd24 (by kernel_rfl) rfl (fun x => by kernel_rfl)

/- 47 -/
noncomputable def cx47 : Cx := (mkCxH [] [])
theorem cx47_ok : cx47.Ok prog := mkCxH_ok trivial trivial
@[reducible] def p47_0 : Pat := Pat.mk [(0, .c (.hole (.list (.prod tI tI)))), (1, .c (.hole (.list (.prod tI tI)))), (12, hI), (13, hI)] [] [] []
@[reducible] def x47_0 : Outs := [(.ret, Pat.mk [(4, .c (.tf false))] [] [] []), (.exit 0, Pat.mk [] [] [] [])]
noncomputable def b47_0 : D prog 26 none 0 := dO [] (pick (kd prog f47) [(0, false)]) 0
noncomputable def g47_0 : (List (Int × Int)) × (List (Int × Int)) × Int × Int × Unit → Tr0 (((List (Int × Int)) × (List (Int × Int)) × Int × Int × Unit) ⊕ ((Unit) ⊕ ((Unit)))) := fun (v0, v1, v12, v13, _) =>
 .br (decide (v13 < v12)) (
 .nb v13 (((v0).length : Nat) : Int) <|
 .nb v13 (((v1).length : Nat) : Int) <|
 .br (!((((v0).getD (Int.toNat v13) ((0 : Int), (0 : Int))).1 == ((v1).getD (Int.toNat v13) ((0 : Int), (0 : Int))).1) && ((((v0).getD (Int.toNat v13) ((0 : Int), (0 : Int))).2 == ((v1).getD (Int.toNat v13) ((0 : Int), (0 : Int))).2) && true))) (
 .ret (.inr <| .inl <| ())) (
 .ni (v13 + (1 : Int)) <|
 .ret (.inl (v0, (v1, (v12, ((v13 + (1 : Int)), ()))))))) (
 .ret (.inr <| .inr <| ()))
theorem s47_0 : ∀ x, roundE (kzO (p47_0.T ⊕ x47_0.T)) cx47 ar0 [] p47_0 x47_0 (b47_0) (fun y => some (.inl y)) (fun b => some (.inr b)) x = run0 (g47_0 x) := fun x => by kernel_rfl
noncomputable def L47_0 : LoopS prog 26 none 0 := mkLoop mixed cx47 cx47_ok [] rfl p47_0 x47_0 rfl (b47_0) (fun x => run0 (g47_0 x)) (s47_0)
noncomputable def dd47 : D prog 26 none 0 := dO [.l L47_0] (kd prog f47) 0
noncomputable def F47 (a0 : List (Int × Int)) (a1 : List (Int × Int)) : Tr0 (Bool × Unit) :=
 .br (!((((a0).length : Nat) : Int) == (((a1).length : Nat) : Int))) (
 .ret (false, ())) (
 .bd (.it g47_0 (a0, (a1, ((((a0).length : Nat) : Int), ((0 : Int), ()))))) fun z0 =>
 .sm z0 (fun z1 =>
 .ret (false, ())) fun z2 =>
 .ret (true, ()))
theorem c47_ok : trF prog f47 = some ⟨26, 2, dd47.er, [.t 4], [some .bool]⟩ := by kernel_rfl
noncomputable def ct47 : Ct := ⟨47, [.c (.hole (.list (.prod tI tI))), .c (.hole (.list (.prod tI tI)))], .c (.hole .bool), fun x => run0 (F47 x.1 x.2.1)⟩
theorem ct47_ok : ct47.Ok prog := ct_ok mixed cx47_ok func47 c47_ok (enters_of func47 rfl rfl) dd47 (by kernel_rfl) rfl (fun x => by kernel_rfl)

/- 29 -/
noncomputable def cx29 : Cx := (mkCxH [ct24, ct47] [])
theorem cx29_ok : cx29.Ok prog := mkCxH_ok ⟨ct24_ok, ct47_ok, trivial⟩ trivial
@[reducible] def p29_0 : Pat := Pat.mk [(10, .c (.hole (.list (.list (.prod tI tI))))), (11, hI), (12, hI)] [] [] []
@[reducible] def x29_0 : Outs := [(.ret, Pat.mk [(2, hI)] [] [] []), (.exit 0, Pat.mk [] [] [] [])]
noncomputable def b29_0 : D prog 34 none 0 := dO [] (pick (kd prog f29) [(0, false)]) 0
noncomputable def g29_0 : (List (List (Int × Int))) × Int × Int × Unit → Tr0 (((List (List (Int × Int))) × Int × Int × Unit) ⊕ ((Int × Unit) ⊕ ((Unit)))) := fun (v10, v11, v12, _) =>
 .br (decide (v12 < v11)) (
 .nb v12 (((v10).length : Nat) : Int) <|
 .br (decide ((8 : Int) < (((((v10).getD (Int.toNat v12) [])).length : Nat) : Int))) (
 .ret (.inr <| .inl <| ((1 : Int), ()))) (
 .bd (F24 ((v10).getD (Int.toNat v12) [])) fun y0 =>
 .br (!(y0.2.1 == (0 : Int))) (
 .ret (.inr <| .inl <| (y0.2.1, ()))) (
 .bd (F47 y0.1 ((v10).getD (Int.toNat v12) [])) fun y1 =>
 .br (!y1.1) (
 .ret (.inr <| .inl <| ((7 : Int), ()))) (
 .ni (v12 + (1 : Int)) <|
 .ret (.inl (v10, (v11, ((v12 + (1 : Int)), ())))))))) (
 .ret (.inr <| .inr <| ()))
theorem s29_0 : ∀ x, roundE (kzO (p29_0.T ⊕ x29_0.T)) cx29 ar0 [] p29_0 x29_0 (b29_0) (fun y => some (.inl y)) (fun b => some (.inr b)) x = run0 (g29_0 x) := fun x => by kernel_rfl
noncomputable def L29_0 : LoopS prog 34 none 0 := mkLoop mixed cx29 cx29_ok [] rfl p29_0 x29_0 rfl (b29_0) (fun x => run0 (g29_0 x)) (s29_0)
noncomputable def dd29 : D prog 34 none 0 := dO [.l L29_0] (kd prog f29) 0
noncomputable def F29 (a0 : List (List (Int × Int))) : Tr0 (Int × Unit) :=
 .br (decide ((6 : Int) < (((a0).length : Nat) : Int))) (
 .ret ((1 : Int), ())) (
 .bd (.it g29_0 (a0, ((((a0).length : Nat) : Int), ((0 : Int), ())))) fun z2 =>
 .sm z2 (fun z3 =>
 .ret (z3.1, ())) fun z4 =>
 .ret ((0 : Int), ()))
theorem c29_ok : trF prog f29 = some ⟨34, 1, dd29.er, [.t 2], [some tI]⟩ := by kernel_rfl
noncomputable def ct29 : Ct := ⟨29, [.c (.hole (.list (.list (.prod tI tI))))], hI, fun x => run0 (F29 x.1)⟩
theorem ct29_ok : ct29.Ok prog := ct_ok mixed cx29_ok func29 c29_ok (enters_of func29 rfl rfl) dd29 (by kernel_rfl) rfl (fun x => by kernel_rfl)

/- 35 -/
noncomputable def cx35 : Cx := (mkCxH [] [])
theorem cx35_ok : cx35.Ok prog := mkCxH_ok trivial trivial
noncomputable def dd35 : D prog 16 none 0 := dO [] (kd prog f35) 0
noncomputable def F35 (a0 : Int × Int) (a1 : Int × Int) : Tr0 ((Int × Int) × Unit) :=
 .ni (a0.1 + a1.1) <|
 .ni (a0.2 + a1.2) <|
 .ret (((a0.1 + a1.1), (a0.2 + a1.2)), ())
theorem c35_ok : trF prog f35 = some ⟨16, 2, dd35.er, [.cell 4 true 2], [some (.prod tI tI)]⟩ := by kernel_rfl
noncomputable def ct35 : Ct := ⟨35, [.c (.hole (.prod tI tI)), .c (.hole (.prod tI tI))], .c (.hole (.prod tI tI)), fun x => run0 (F35 x.1 x.2.1)⟩
theorem ct35_ok : ct35.Ok prog := ct_ok mixed cx35_ok func35 c35_ok (enters_of func35 rfl rfl) dd35 (by kernel_rfl) rfl (fun x => by kernel_rfl)

/- 37 -/
noncomputable def cx37 : Cx := (mkCxH [] [])
theorem cx37_ok : cx37.Ok prog := mkCxH_ok trivial trivial
noncomputable def dd37 : D prog 4 none 0 := dO [] (kd prog f37) 0
noncomputable def F37 (a0 : List (Int × Int)) : Tr0 ((List (Int × Int)) × Unit) :=
 .ret (a0, ())
theorem c37_ok : trF prog f37 = some ⟨4, 1, dd37.er, [.t 2], [none]⟩ := by kernel_rfl
noncomputable def ct37 : Ct := ⟨37, [.c (.hole (.list (.prod tI tI)))], .fn 56 [] [.ipc (.list (.prod tI tI))], fun x => run0 (F37 x.1)⟩
theorem ct37_ok : ct37.Ok prog := ct_ok mixed cx37_ok func37 c37_ok (enters_of func37 rfl rfl) dd37 (by kernel_rfl) rfl (fun x => by kernel_rfl)

/- 53 -/
noncomputable def cx53 : Cx := (mkCxH [] [])
theorem cx53_ok : cx53.Ok prog := mkCxH_ok trivial trivial
noncomputable def dd53 : D prog 16 none 0 := dO [] (kd prog f53) 0
noncomputable def F53 (a0 : Int × Int) : Tr0 (Int × Unit) :=
 .br (decide ((0 : Int) < a0.1)) (
 .ret ((0 : Int), ())) (
 .br (a0.1 == (0 : Int)) (
 .br (decide ((0 : Int) < a0.2)) (
 .ret ((0 : Int), ())) (
 .ret ((1 : Int), ()))) (
 .ret ((1 : Int), ())))
theorem c53_ok : trF prog f53 = some ⟨16, 1, dd53.er, [.t 2], [some tI]⟩ := by kernel_rfl
noncomputable def ct53 : Ct := ⟨53, [.c (.hole (.prod tI tI))], hI, fun x => run0 (F53 x.1)⟩
theorem ct53_ok : ct53.Ok prog := ct_ok mixed cx53_ok func53 c53_ok (enters_of func53 rfl rfl) dd53 (by kernel_rfl) rfl (fun x => by kernel_rfl)

/- 51 -/
noncomputable def cx51 : Cx := (mkCxH [ct53, ct48, ct54, ct52] [])
theorem cx51_ok : cx51.Ok prog := mkCxH_ok ⟨ct53_ok, ct48_ok, ct54_ok, ct52_ok, trivial⟩ trivial
noncomputable def dd51 : D prog 34 none 0 := dO [] (kd prog f51) 0
noncomputable def F51 (a0 : Int × Int × Int × Int × Int) (a1 : Int × Int × Int × Int × Int) : Tr0 (Int × Unit) :=
 .br ((a0.1 == a1.1) && ((a0.2.1 == a1.2.1) && ((a0.2.2.1 == a1.2.2.1) && ((a0.2.2.2.1 == a1.2.2.2.1) && true)))) (
 .ni (a0.2.2.2.2 - a1.2.2.2.2) <|
 .ret ((a0.2.2.2.2 - a1.2.2.2.2), ())) (
 .bd (F53 (a0.2.2.1, a0.2.2.2.1)) fun y0 =>
 .bd (F53 (a1.2.2.1, a1.2.2.2.1)) fun y1 =>
 .ni (y0.1 - y1.1) <|
 .bd (F48 (a0.2.2.1, a0.2.2.2.1) (a1.2.2.1, a1.2.2.2.1)) fun y2 =>
 .bd (F54 (0 : Int) y2.1) fun y3 =>
 .bd (F52 (((((y0.1 - y1.1) :: (y3.1 :: []))).drop (0 : Nat)).take (2 : Nat))) fun y4 =>
 .ret (y4.1, ()))
theorem c51_ok : trF prog f51 = some ⟨34, 2, dd51.er, [.t 4], [some tI]⟩ := by kernel_rfl
noncomputable def ct51 : Ct := ⟨51, [.c (.hole (.prod tI (.prod tI (.prod tI (.prod tI tI))))), .c (.hole (.prod tI (.prod tI (.prod tI (.prod tI tI)))))], hI, fun x => run0 (F51 x.1 x.2.1)⟩
theorem ct51_ok : ct51.Ok prog := ct_ok mixed cx51_ok func51 c51_ok (enters_of func51 rfl rfl) dd51 (by kernel_rfl) rfl (fun x => by kernel_rfl)

/- 92 -/
noncomputable def cx92 : Cx := (mkCxH [] [])
theorem cx92_ok : cx92.Ok prog := mkCxH_ok trivial trivial
@[reducible] def p92_0 : Pat := Pat.mk [(0, .c (.hole (.list (.prod (.prod (.prod tI tI) (.prod tI tI)) tI)))), (1, hI), (2, hI), (3, hI), (10, hI)] [] [] []
@[reducible] def x92_0 : Outs := [(.exit 0, Pat.mk [] [] [] [])]
noncomputable def b92_0 : D prog 38 none 0 := dO [] (pick (kd prog f92) [(0, false)]) 0
noncomputable def g92_0 : (List (((Int × Int) × Int × Int) × Int)) × Int × Int × Int × Int × Unit → Tr0 (((List (((Int × Int) × Int × Int) × Int)) × Int × Int × Int × Int × Unit) ⊕ ((Unit))) := fun (v0, v1, v2, v3, v10, _) =>
 .br (decide (v10 < v3)) (
 .ni (v1 + v10) <|
 .ni (v2 + v10) <|
 .ni (v2 + v10) <|
 .nb (v2 + v10) (((v0).length : Nat) : Int) <|
 .ni (v1 + v10) <|
 .nb (v1 + v10) (((v0).length : Nat) : Int) <|
 .nb (v1 + v10) (((v0).length : Nat) : Int) <|
 .no) (
 .ret (.inr ()))
theorem s92_0 : ∀ x, roundE (kzO (p92_0.T ⊕ x92_0.T)) cx92 ar0 [] p92_0 x92_0 (b92_0) (fun y => some (.inl y)) (fun b => some (.inr b)) x = run0 (g92_0 x) := fun x => by kernel_rfl
noncomputable def L92_0 : LoopS prog 38 none 0 := mkLoop mixed cx92 cx92_ok [] rfl p92_0 x92_0 rfl (b92_0) (fun x => run0 (g92_0 x)) (s92_0)
noncomputable def dd92 : D prog 38 none 0 := dO [.l L92_0] (kd prog f92) 0
noncomputable def F92 (a0 : List (((Int × Int) × Int × Int) × Int)) (a1 : Int) (a2 : Int) (a3 : Int) : Tr0 (Unit) :=
 .bd (.it g92_0 (a0, (a1, (a2, (a3, ((0 : Int), ())))))) fun z0 =>
 .ret ()
theorem c92_ok : trF prog f92 = some ⟨38, 5, dd92.er, [], []⟩ := by kernel_rfl
noncomputable def ct92 : Ct := ⟨92, [.c (.hole (.list (.prod (.prod (.prod tI tI) (.prod tI tI)) tI))), hI, hI, hI, .c (.fn0 51)], .tup [], fun x => run0 (F92 x.1 x.2.1 x.2.2.1 x.2.2.2.1)⟩
theorem ct92_ok : ct92.Ok prog := ct_ok mixed cx92_ok func92 c92_ok (enters_of func92 rfl rfl) dd92 (by kernel_rfl) rfl (fun x => by kernel_rfl)

/- 74, lent -/
@[reducible] def pH74_v1 : Pat := Pat.mk [(0, .c (.sl0 0 (.prod (.prod (.prod tI tI) (.prod tI tI)) tI))), (1, hI), (2, hI), (3, .c (.fn0 51))] [(0, .arr (.prod (.prod (.prod tI tI) (.prod tI tI)) tI) false)] [.slot 0] []
@[reducible] def qH74_v1 : Pat := Pat.mk [(0, .c .any)] [(0, .arr (.prod (.prod (.prod tI tI) (.prod tI tI)) tI) false)] [] []
noncomputable def cxH74_v1 : Cx := (mkCxH [ct51] [])
theorem cxH74_v1_ok : cxH74_v1.Ok prog := mkCxH_ok ⟨ct51_ok, trivial⟩ trivial
@[reducible] def pH74_v1_1 : Pat := Pat.mk [(0, .c (.sl0 0 (.prod (.prod (.prod tI tI) (.prod tI tI)) tI))), (1, hI), (2, hI), (3, .c (.fn0 51)), (8, hI), (9, hI)] [(0, .arr (.prod (.prod (.prod tI tI) (.prod tI tI)) tI) false)] [] []
@[reducible] def xH74_v1_1 : Outs := [(.exit 2, Pat.mk [(0, .c (.sl0 0 (.prod (.prod (.prod tI tI) (.prod tI tI)) tI))), (1, hI), (2, hI), (3, .c (.fn0 51)), (8, hI)] [(0, .arr (.prod (.prod (.prod tI tI) (.prod tI tI)) tI) false)] [] [])]
noncomputable def bH74_v1_1 : D prog 53 none 1 := dO [] (pick (kd prog f74) [(0, false), (0, false)]) 0
noncomputable def gH74_v1_1 : Nat × Int × Int × Int × Int × (List (((Int × Int) × Int × Int) × Int)) × Unit → Tr0 ((Nat × Int × Int × Int × Int × (List (((Int × Int) × Int × Int) × Int)) × Unit) ⊕ ((Nat × Int × Int × Int × (List (((Int × Int) × Int × Int) × Int)) × Unit))) := fun (nv0, v1, v2, v8, v9, b0, _) =>
 .br (decide (v1 < v9)) (
 .nb v9 ((nv0 : Nat) : Int) <|
 .nd (decide (((0 : Nat) + (Int.toNat v9)) < (b0).length)) <|
 .ni (v9 - (1 : Int)) <|
 .nb (v9 - (1 : Int)) ((nv0 : Nat) : Int) <|
 .nd (decide (((0 : Nat) + (Int.toNat (v9 - (1 : Int)))) < (b0).length)) <|
 .bd (F51 (((b0).getD ((0 : Nat) + (Int.toNat v9)) ((((0 : Int), (0 : Int)), ((0 : Int), (0 : Int))), (0 : Int))).1.1.1, (((b0).getD ((0 : Nat) + (Int.toNat v9)) ((((0 : Int), (0 : Int)), ((0 : Int), (0 : Int))), (0 : Int))).1.1.2, (((b0).getD ((0 : Nat) + (Int.toNat v9)) ((((0 : Int), (0 : Int)), ((0 : Int), (0 : Int))), (0 : Int))).1.2.1, (((b0).getD ((0 : Nat) + (Int.toNat v9)) ((((0 : Int), (0 : Int)), ((0 : Int), (0 : Int))), (0 : Int))).1.2.2, ((b0).getD ((0 : Nat) + (Int.toNat v9)) ((((0 : Int), (0 : Int)), ((0 : Int), (0 : Int))), (0 : Int))).2)))) (((b0).getD ((0 : Nat) + (Int.toNat (v9 - (1 : Int)))) ((((0 : Int), (0 : Int)), ((0 : Int), (0 : Int))), (0 : Int))).1.1.1, (((b0).getD ((0 : Nat) + (Int.toNat (v9 - (1 : Int)))) ((((0 : Int), (0 : Int)), ((0 : Int), (0 : Int))), (0 : Int))).1.1.2, (((b0).getD ((0 : Nat) + (Int.toNat (v9 - (1 : Int)))) ((((0 : Int), (0 : Int)), ((0 : Int), (0 : Int))), (0 : Int))).1.2.1, (((b0).getD ((0 : Nat) + (Int.toNat (v9 - (1 : Int)))) ((((0 : Int), (0 : Int)), ((0 : Int), (0 : Int))), (0 : Int))).1.2.2, ((b0).getD ((0 : Nat) + (Int.toNat (v9 - (1 : Int)))) ((((0 : Int), (0 : Int)), ((0 : Int), (0 : Int))), (0 : Int))).2))))) fun y0 =>
 .br (decide (y0.1 < (0 : Int))) (
 .ni (v9 - (1 : Int)) <|
 .ni (v9 - (1 : Int)) <|
 .nb (v9 - (1 : Int)) ((nv0 : Nat) : Int) <|
 .nd (decide (((0 : Nat) + (Int.toNat (v9 - (1 : Int)))) < (b0).length)) <|
 .nb v9 ((nv0 : Nat) : Int) <|
 .nd (decide (((0 : Nat) + (Int.toNat v9)) < (b0).length)) <|
 .nb v9 ((nv0 : Nat) : Int) <|
 .nd (decide (((0 : Nat) + (Int.toNat v9)) < (b0).length)) <|
 .nb (v9 - (1 : Int)) ((nv0 : Nat) : Int) <|
 .nd (decide (((0 : Nat) + (Int.toNat (v9 - (1 : Int)))) < (((b0).set ((0 : Nat) + (Int.toNat v9)) (((((b0).getD ((0 : Nat) + (Int.toNat (v9 - (1 : Int)))) ((((0 : Int), (0 : Int)), ((0 : Int), (0 : Int))), (0 : Int))).1.1.1, ((b0).getD ((0 : Nat) + (Int.toNat (v9 - (1 : Int)))) ((((0 : Int), (0 : Int)), ((0 : Int), (0 : Int))), (0 : Int))).1.1.2), (((b0).getD ((0 : Nat) + (Int.toNat (v9 - (1 : Int)))) ((((0 : Int), (0 : Int)), ((0 : Int), (0 : Int))), (0 : Int))).1.2.1, ((b0).getD ((0 : Nat) + (Int.toNat (v9 - (1 : Int)))) ((((0 : Int), (0 : Int)), ((0 : Int), (0 : Int))), (0 : Int))).1.2.2)), ((b0).getD ((0 : Nat) + (Int.toNat (v9 - (1 : Int)))) ((((0 : Int), (0 : Int)), ((0 : Int), (0 : Int))), (0 : Int))).2))).length)) <|
 .ni (v9 - (1 : Int)) <|
 .ret (.inl (nv0, (v1, (v2, (v8, ((v9 - (1 : Int)), (((((b0).set ((0 : Nat) + (Int.toNat v9)) (((((b0).getD ((0 : Nat) + (Int.toNat (v9 - (1 : Int)))) ((((0 : Int), (0 : Int)), ((0 : Int), (0 : Int))), (0 : Int))).1.1.1, ((b0).getD ((0 : Nat) + (Int.toNat (v9 - (1 : Int)))) ((((0 : Int), (0 : Int)), ((0 : Int), (0 : Int))), (0 : Int))).1.1.2), (((b0).getD ((0 : Nat) + (Int.toNat (v9 - (1 : Int)))) ((((0 : Int), (0 : Int)), ((0 : Int), (0 : Int))), (0 : Int))).1.2.1, ((b0).getD ((0 : Nat) + (Int.toNat (v9 - (1 : Int)))) ((((0 : Int), (0 : Int)), ((0 : Int), (0 : Int))), (0 : Int))).1.2.2)), ((b0).getD ((0 : Nat) + (Int.toNat (v9 - (1 : Int)))) ((((0 : Int), (0 : Int)), ((0 : Int), (0 : Int))), (0 : Int))).2))).set ((0 : Nat) + (Int.toNat (v9 - (1 : Int)))) (((((b0).getD ((0 : Nat) + (Int.toNat v9)) ((((0 : Int), (0 : Int)), ((0 : Int), (0 : Int))), (0 : Int))).1.1.1, ((b0).getD ((0 : Nat) + (Int.toNat v9)) ((((0 : Int), (0 : Int)), ((0 : Int), (0 : Int))), (0 : Int))).1.1.2), (((b0).getD ((0 : Nat) + (Int.toNat v9)) ((((0 : Int), (0 : Int)), ((0 : Int), (0 : Int))), (0 : Int))).1.2.1, ((b0).getD ((0 : Nat) + (Int.toNat v9)) ((((0 : Int), (0 : Int)), ((0 : Int), (0 : Int))), (0 : Int))).1.2.2)), ((b0).getD ((0 : Nat) + (Int.toNat v9)) ((((0 : Int), (0 : Int)), ((0 : Int), (0 : Int))), (0 : Int))).2)), ())))))))) (
 .ret (.inr (nv0, (v1, (v2, (v8, (b0, ())))))))) (
 .ret (.inr (nv0, (v1, (v2, (v8, (b0, ())))))))
theorem sH74_v1_1 : ∀ x, roundE (kzO (pH74_v1_1.T ⊕ xH74_v1_1.T)) cxH74_v1 ar0 [0] pH74_v1_1 xH74_v1_1 (bH74_v1_1) (fun y => some (.inl y)) (fun b => some (.inr b)) x = run0 (gH74_v1_1 x) := fun x => by kernel_rfl
noncomputable def LH74_v1_1 : LoopS prog 53 none 1 := mkLoop mixed cxH74_v1 cxH74_v1_ok [0] rfl pH74_v1_1 xH74_v1_1 rfl (bH74_v1_1) (fun x => run0 (gH74_v1_1 x)) (sH74_v1_1)
@[reducible] def pH74_v1_0 : Pat := Pat.mk [(0, .c (.sl0 0 (.prod (.prod (.prod tI tI) (.prod tI tI)) tI))), (1, hI), (2, hI), (3, .c (.fn0 51)), (8, hI)] [(0, .arr (.prod (.prod (.prod tI tI) (.prod tI tI)) tI) false)] [] []
@[reducible] def xH74_v1_0 : Outs := [(.exit 0, Pat.mk [] [(0, .arr (.prod (.prod (.prod tI tI) (.prod tI tI)) tI) false)] [] [])]
noncomputable def bH74_v1_0 : D prog 53 none 1 := dO [.l LH74_v1_1] (pick (kd prog f74) [(0, false)]) 0
noncomputable def gH74_v1_0 : Nat × Int × Int × Int × (List (((Int × Int) × Int × Int) × Int)) × Unit → Tr0 ((Nat × Int × Int × Int × (List (((Int × Int) × Int × Int) × Int)) × Unit) ⊕ (((List (((Int × Int) × Int × Int) × Int)) × Unit))) := fun (nv0, v1, v2, v8, b0, _) =>
 .br (decide (v8 < v2)) (
 .bd (.it gH74_v1_1 (nv0, (v1, (v2, (v8, (v8, (b0, ()))))))) fun z1 =>
 .ni (z1.2.2.2.1 + (1 : Int)) <|
 .ret (.inl (z1.1, (z1.2.1, (z1.2.2.1, ((z1.2.2.2.1 + (1 : Int)), (z1.2.2.2.2.1, ()))))))) (
 .ret (.inr (b0, ())))
theorem sH74_v1_0 : ∀ x, roundE (kzO (pH74_v1_0.T ⊕ xH74_v1_0.T)) cxH74_v1 ar0 [0] pH74_v1_0 xH74_v1_0 (bH74_v1_0) (fun y => some (.inl y)) (fun b => some (.inr b)) x = run0 (gH74_v1_0 x) := fun x => by kernel_rfl
noncomputable def LH74_v1_0 : LoopS prog 53 none 1 := mkLoop mixed cxH74_v1 cxH74_v1_ok [0] rfl pH74_v1_0 xH74_v1_0 rfl (bH74_v1_0) (fun x => run0 (gH74_v1_0 x)) (sH74_v1_0)
noncomputable def ddH74_v1 : D prog 53 none 1 := dO [.l LH74_v1_0] (kd prog f74) 0
noncomputable def FH74_v1 (nv0 : Nat) (v1 : Int) (v2 : Int) (b0 : List (((Int × Int) × Int × Int) × Int)) : Tr0 ((List (((Int × Int) × Int × Int) × Int)) × Unit) :=
 .ni (v1 + (1 : Int)) <|
 .bd (.it gH74_v1_0 (nv0, (v1, (v2, ((v1 + (1 : Int)), (b0, ())))))) fun z2 =>
 .ret (z2.1, ())
theorem cH74_v1_ok : trF prog f74 = some ⟨53, 4, ddH74_v1.er, [], []⟩ := by kernel_rfl
noncomputable def ht74_v1 : Ht := ⟨74, pH74_v1, qH74_v1, (fun x => run0 (FH74_v1 x.1 x.2.1 x.2.2.1 x.2.2.2.1))⟩
theorem ht74_v1_ok : ht74_v1.Ok prog := ht_ok mixed cxH74_v1_ok rfl func74 cH74_v1_ok (enters_of func74 rfl rfl) ddH74_v1 (by kernel_rfl) rfl rfl ⟨_, rfl⟩ rfl (pre := [0]) rfl (fun x => by kernel_rfl)

/- 86, lent -/
@[reducible] def pH86_v1 : Pat := Pat.mk [(0, .c (.sl0 0 (.prod (.prod (.prod tI tI) (.prod tI tI)) tI))), (1, hI), (2, hI), (3, hI), (4, .c (.fn0 51))] [(0, .arr (.prod (.prod (.prod tI tI) (.prod tI tI)) tI) false)] [.slot 0] []
@[reducible] def qH86_v1 : Pat := Pat.mk [(0, .c .any)] [(0, .arr (.prod (.prod (.prod tI tI) (.prod tI tI)) tI) false)] [] []
noncomputable def cxH86_v1 : Cx := (mkCxH [ct92] [])
theorem cxH86_v1_ok : cxH86_v1.Ok prog := mkCxH_ok ⟨ct92_ok, trivial⟩ trivial
@[reducible] def pH86_v1_0 : Pat := Pat.mk [(0, .c (.sl0 0 (.prod (.prod (.prod tI tI) (.prod tI tI)) tI))), (2, hI), (4, .c (.fn0 51)), (10, hI), (11, hI)] [(0, .arr (.prod (.prod (.prod tI tI) (.prod tI tI)) tI) false)] [] []
@[reducible] def xH86_v1_0 : Outs := [(.exit 0, Pat.mk [(0, .c (.sl0 0 (.prod (.prod (.prod tI tI) (.prod tI tI)) tI))), (2, hI), (4, .c (.fn0 51)), (10, hI)] [(0, .arr (.prod (.prod (.prod tI tI) (.prod tI tI)) tI) false)] [] [])]
noncomputable def bH86_v1_0 : D prog 58 none 1 := dO [] (pick (kd prog f86) [(0, false)]) 0
noncomputable def gH86_v1_0 : Nat × Int × Int × Int × (List (((Int × Int) × Int × Int) × Int)) × Unit → Tr0 ((Nat × Int × Int × Int × (List (((Int × Int) × Int × Int) × Int)) × Unit) ⊕ ((Nat × Int × Int × (List (((Int × Int) × Int × Int) × Int)) × Unit))) := fun (nv0, v2, v10, v11, b0, _) =>
 .br (!(v10 == v11)) (
 .br (decide (v11 < v10)) (
 .ni (v2 - v10) <|
 .bd (F92 (((b0).drop (0 : Nat)).take nv0) (v2 - v10) v2 v11) fun y0 =>
 .ni (v10 - v11) <|
 .ret (.inl (nv0, (v2, ((v10 - v11), (v11, (b0, ()))))))) (
 .ni (v2 - v10) <|
 .ni (v2 + v11) <|
 .ni ((v2 + v11) - v10) <|
 .bd (F92 (((b0).drop (0 : Nat)).take nv0) (v2 - v10) ((v2 + v11) - v10) v10) fun y1 =>
 .ni (v11 - v10) <|
 .ret (.inl (nv0, (v2, (v10, ((v11 - v10), (b0, ())))))))) (
 .ret (.inr (nv0, (v2, (v10, (b0, ()))))))
theorem sH86_v1_0 : ∀ x, roundE (kzO (pH86_v1_0.T ⊕ xH86_v1_0.T)) cxH86_v1 ar0 [0] pH86_v1_0 xH86_v1_0 (bH86_v1_0) (fun y => some (.inl y)) (fun b => some (.inr b)) x = run0 (gH86_v1_0 x) := fun x => by kernel_rfl
noncomputable def LH86_v1_0 : LoopS prog 58 none 1 := mkLoop mixed cxH86_v1 cxH86_v1_ok [0] rfl pH86_v1_0 xH86_v1_0 rfl (bH86_v1_0) (fun x => run0 (gH86_v1_0 x)) (sH86_v1_0)
noncomputable def ddH86_v1 : D prog 58 none 1 := dO [.l LH86_v1_0] (kd prog f86) 0
noncomputable def FH86_v1 (nv0 : Nat) (v1 : Int) (v2 : Int) (v3 : Int) (b0 : List (((Int × Int) × Int × Int) × Int)) : Tr0 ((List (((Int × Int) × Int × Int) × Int)) × Unit) :=
 .ni (v2 - v1) <|
 .ni (v3 - v2) <|
 .bd (.it gH86_v1_0 (nv0, (v2, ((v2 - v1), ((v3 - v2), (b0, ())))))) fun z2 =>
 .ni (z2.2.1 - z2.2.2.1) <|
 .bd (F92 (((z2.2.2.2.1).drop (0 : Nat)).take z2.1) (z2.2.1 - z2.2.2.1) z2.2.1 z2.2.2.1) fun y3 =>
 .ret (z2.2.2.2.1, ())
theorem cH86_v1_ok : trF prog f86 = some ⟨58, 5, ddH86_v1.er, [], []⟩ := by kernel_rfl
noncomputable def ht86_v1 : Ht := ⟨86, pH86_v1, qH86_v1, (fun x => run0 (FH86_v1 x.1 x.2.1 x.2.2.1 x.2.2.2.1 x.2.2.2.2.1))⟩
theorem ht86_v1_ok : ht86_v1.Ok prog := ht_ok mixed cxH86_v1_ok rfl func86 cH86_v1_ok (enters_of func86 rfl rfl) ddH86_v1 (by kernel_rfl) rfl rfl ⟨_, rfl⟩ rfl (pre := [0]) rfl (fun x => by kernel_rfl)

/- 75, lent -/
@[reducible] def pH75_v1 : Pat := Pat.mk [(0, .c (.sl0 0 (.prod (.prod (.prod tI tI) (.prod tI tI)) tI))), (1, hI), (2, hI), (3, hI), (4, .c (.fn0 51))] [(0, .arr (.prod (.prod (.prod tI tI) (.prod tI tI)) tI) false)] [.slot 0] []
@[reducible] def qH75_v1 : Pat := Pat.mk [(0, .c .any)] [(0, .arr (.prod (.prod (.prod tI tI) (.prod tI tI)) tI) false)] [] []
noncomputable def cxH75_v1 (rec : pH75_v1.T → Option qH75_v1.T) : Cx := (mkCxH [ct51] [ht86_v1, ⟨75, pH75_v1, qH75_v1, rec⟩])
theorem cxH75_v1_ok (rec : pH75_v1.T → Option qH75_v1.T) (h : Ht.Ok prog ⟨75, pH75_v1, qH75_v1, rec⟩) : (cxH75_v1 rec).Ok prog := mkCxH_ok ⟨ct51_ok, trivial⟩ ⟨⟨ht86_v1_ok, rfl⟩, ⟨h, rfl⟩, trivial⟩
@[reducible] def pH75_v1_0 : Pat := Pat.mk [(0, .c (.sl0 0 (.prod (.prod (.prod tI tI) (.prod tI tI)) tI))), (1, hI), (4, .c (.fn0 51)), (10, hI), (11, hI)] [(0, .arr (.prod (.prod (.prod tI tI) (.prod tI tI)) tI) false)] [] []
@[reducible] def xH75_v1_0 : Outs := [(.exit 0, Pat.mk [(0, .c (.sl0 0 (.prod (.prod (.prod tI tI) (.prod tI tI)) tI))), (1, hI), (10, hI)] [(0, .arr (.prod (.prod (.prod tI tI) (.prod tI tI)) tI) false)] [] [])]
noncomputable def bH75_v1_0 (rec : pH75_v1.T → Option qH75_v1.T) (h : Ht.Ok prog ⟨75, pH75_v1, qH75_v1, rec⟩) : D prog 220 none 1 := dO [] (pick (kd prog f75) [(0, false)]) 0
noncomputable def gH75_v1_0 : Nat × Int × Int × Int × (List (((Int × Int) × Int × Int) × Int)) × Unit → Tr pH75_v1.T qH75_v1.T ((Nat × Int × Int × Int × (List (((Int × Int) × Int × Int) × Int)) × Unit) ⊕ ((Nat × Int × Int × (List (((Int × Int) × Int × Int) × Int)) × Unit))) := fun (nv0, v1, v10, v11, b0, _) =>
 .br (decide (v10 < v11)) (
 .ni (v10 + v11) <|
 .nd (rng .u64 (v10 + v11)) <|
 .nb (1 : Int) (64 : Int) <|
 .ni (ar0.shr (v10 + v11) (1 : Int)) <|
 .nb (ar0.shr (v10 + v11) (1 : Int)) ((nv0 : Nat) : Int) <|
 .nd (decide (((0 : Nat) + (Int.toNat (ar0.shr (v10 + v11) (1 : Int)))) < (b0).length)) <|
 .nb v1 ((nv0 : Nat) : Int) <|
 .nd (decide (((0 : Nat) + (Int.toNat v1)) < (b0).length)) <|
 .bd (.up (F51 (((b0).getD ((0 : Nat) + (Int.toNat (ar0.shr (v10 + v11) (1 : Int)))) ((((0 : Int), (0 : Int)), ((0 : Int), (0 : Int))), (0 : Int))).1.1.1, (((b0).getD ((0 : Nat) + (Int.toNat (ar0.shr (v10 + v11) (1 : Int)))) ((((0 : Int), (0 : Int)), ((0 : Int), (0 : Int))), (0 : Int))).1.1.2, (((b0).getD ((0 : Nat) + (Int.toNat (ar0.shr (v10 + v11) (1 : Int)))) ((((0 : Int), (0 : Int)), ((0 : Int), (0 : Int))), (0 : Int))).1.2.1, (((b0).getD ((0 : Nat) + (Int.toNat (ar0.shr (v10 + v11) (1 : Int)))) ((((0 : Int), (0 : Int)), ((0 : Int), (0 : Int))), (0 : Int))).1.2.2, ((b0).getD ((0 : Nat) + (Int.toNat (ar0.shr (v10 + v11) (1 : Int)))) ((((0 : Int), (0 : Int)), ((0 : Int), (0 : Int))), (0 : Int))).2)))) (((b0).getD ((0 : Nat) + (Int.toNat v1)) ((((0 : Int), (0 : Int)), ((0 : Int), (0 : Int))), (0 : Int))).1.1.1, (((b0).getD ((0 : Nat) + (Int.toNat v1)) ((((0 : Int), (0 : Int)), ((0 : Int), (0 : Int))), (0 : Int))).1.1.2, (((b0).getD ((0 : Nat) + (Int.toNat v1)) ((((0 : Int), (0 : Int)), ((0 : Int), (0 : Int))), (0 : Int))).1.2.1, (((b0).getD ((0 : Nat) + (Int.toNat v1)) ((((0 : Int), (0 : Int)), ((0 : Int), (0 : Int))), (0 : Int))).1.2.2, ((b0).getD ((0 : Nat) + (Int.toNat v1)) ((((0 : Int), (0 : Int)), ((0 : Int), (0 : Int))), (0 : Int))).2)))))) fun y0 =>
 .br (decide (y0.1 < (0 : Int))) (
 .ni ((ar0.shr (v10 + v11) (1 : Int)) + (1 : Int)) <|
 .ret (.inl (nv0, (v1, (((ar0.shr (v10 + v11) (1 : Int)) + (1 : Int)), (v11, (b0, ()))))))) (
 .ret (.inl (nv0, (v1, (v10, ((ar0.shr (v10 + v11) (1 : Int)), (b0, ())))))))) (
 .ret (.inr (nv0, (v1, (v10, (b0, ()))))))
theorem sH75_v1_0 (rec : pH75_v1.T → Option qH75_v1.T) (h : Ht.Ok prog ⟨75, pH75_v1, qH75_v1, rec⟩) : ∀ x, roundE (kzO (pH75_v1_0.T ⊕ xH75_v1_0.T)) (cxH75_v1 rec) ar0 [0] pH75_v1_0 xH75_v1_0 (bH75_v1_0 rec h) (fun y => some (.inl y)) (fun b => some (.inr b)) x = run rec (gH75_v1_0 x) := fun x => by kernel_rfl
noncomputable def LH75_v1_0 (rec : pH75_v1.T → Option qH75_v1.T) (h : Ht.Ok prog ⟨75, pH75_v1, qH75_v1, rec⟩) : LoopS prog 220 none 1 := mkLoop mixed (cxH75_v1 rec) (cxH75_v1_ok rec h) [0] rfl pH75_v1_0 xH75_v1_0 rfl (bH75_v1_0 rec h) (fun x => run rec (gH75_v1_0 x)) (sH75_v1_0 rec h)
@[reducible] def pH75_v1_1 : Pat := Pat.mk [(0, .c (.sl0 0 (.prod (.prod (.prod tI tI) (.prod tI tI)) tI))), (10, hI), (13, hI)] [(0, .arr (.prod (.prod (.prod tI tI) (.prod tI tI)) tI) false)] [] []
@[reducible] def xH75_v1_1 : Outs := [(.exit 2, Pat.mk [] [(0, .arr (.prod (.prod (.prod tI tI) (.prod tI tI)) tI) false)] [] [])]
noncomputable def bH75_v1_1 (rec : pH75_v1.T → Option qH75_v1.T) (h : Ht.Ok prog ⟨75, pH75_v1, qH75_v1, rec⟩) : D prog 220 none 1 := dO [] (pick (kd prog f75) [(1, false)]) 0
noncomputable def gH75_v1_1 : Nat × Int × Int × (List (((Int × Int) × Int × Int) × Int)) × Unit → Tr pH75_v1.T qH75_v1.T ((Nat × Int × Int × (List (((Int × Int) × Int × Int) × Int)) × Unit) ⊕ (((List (((Int × Int) × Int × Int) × Int)) × Unit))) := fun (nv0, v10, v13, b0, _) =>
 .ni (v10 - (1 : Int)) <|
 .br (decide (v13 < (v10 - (1 : Int)))) (
 .ni (v13 + (1 : Int)) <|
 .ni (v13 + (1 : Int)) <|
 .nb (v13 + (1 : Int)) ((nv0 : Nat) : Int) <|
 .nd (decide (((0 : Nat) + (Int.toNat (v13 + (1 : Int)))) < (b0).length)) <|
 .nb v13 ((nv0 : Nat) : Int) <|
 .nd (decide (((0 : Nat) + (Int.toNat v13)) < (b0).length)) <|
 .nb v13 ((nv0 : Nat) : Int) <|
 .nd (decide (((0 : Nat) + (Int.toNat v13)) < (b0).length)) <|
 .nb (v13 + (1 : Int)) ((nv0 : Nat) : Int) <|
 .nd (decide (((0 : Nat) + (Int.toNat (v13 + (1 : Int)))) < (((b0).set ((0 : Nat) + (Int.toNat v13)) (((((b0).getD ((0 : Nat) + (Int.toNat (v13 + (1 : Int)))) ((((0 : Int), (0 : Int)), ((0 : Int), (0 : Int))), (0 : Int))).1.1.1, ((b0).getD ((0 : Nat) + (Int.toNat (v13 + (1 : Int)))) ((((0 : Int), (0 : Int)), ((0 : Int), (0 : Int))), (0 : Int))).1.1.2), (((b0).getD ((0 : Nat) + (Int.toNat (v13 + (1 : Int)))) ((((0 : Int), (0 : Int)), ((0 : Int), (0 : Int))), (0 : Int))).1.2.1, ((b0).getD ((0 : Nat) + (Int.toNat (v13 + (1 : Int)))) ((((0 : Int), (0 : Int)), ((0 : Int), (0 : Int))), (0 : Int))).1.2.2)), ((b0).getD ((0 : Nat) + (Int.toNat (v13 + (1 : Int)))) ((((0 : Int), (0 : Int)), ((0 : Int), (0 : Int))), (0 : Int))).2))).length)) <|
 .ni (v13 + (1 : Int)) <|
 .ret (.inl (nv0, (v10, ((v13 + (1 : Int)), (((((b0).set ((0 : Nat) + (Int.toNat v13)) (((((b0).getD ((0 : Nat) + (Int.toNat (v13 + (1 : Int)))) ((((0 : Int), (0 : Int)), ((0 : Int), (0 : Int))), (0 : Int))).1.1.1, ((b0).getD ((0 : Nat) + (Int.toNat (v13 + (1 : Int)))) ((((0 : Int), (0 : Int)), ((0 : Int), (0 : Int))), (0 : Int))).1.1.2), (((b0).getD ((0 : Nat) + (Int.toNat (v13 + (1 : Int)))) ((((0 : Int), (0 : Int)), ((0 : Int), (0 : Int))), (0 : Int))).1.2.1, ((b0).getD ((0 : Nat) + (Int.toNat (v13 + (1 : Int)))) ((((0 : Int), (0 : Int)), ((0 : Int), (0 : Int))), (0 : Int))).1.2.2)), ((b0).getD ((0 : Nat) + (Int.toNat (v13 + (1 : Int)))) ((((0 : Int), (0 : Int)), ((0 : Int), (0 : Int))), (0 : Int))).2))).set ((0 : Nat) + (Int.toNat (v13 + (1 : Int)))) (((((b0).getD ((0 : Nat) + (Int.toNat v13)) ((((0 : Int), (0 : Int)), ((0 : Int), (0 : Int))), (0 : Int))).1.1.1, ((b0).getD ((0 : Nat) + (Int.toNat v13)) ((((0 : Int), (0 : Int)), ((0 : Int), (0 : Int))), (0 : Int))).1.1.2), (((b0).getD ((0 : Nat) + (Int.toNat v13)) ((((0 : Int), (0 : Int)), ((0 : Int), (0 : Int))), (0 : Int))).1.2.1, ((b0).getD ((0 : Nat) + (Int.toNat v13)) ((((0 : Int), (0 : Int)), ((0 : Int), (0 : Int))), (0 : Int))).1.2.2)), ((b0).getD ((0 : Nat) + (Int.toNat v13)) ((((0 : Int), (0 : Int)), ((0 : Int), (0 : Int))), (0 : Int))).2)), ())))))) (
 .ret (.inr (b0, ())))
theorem sH75_v1_1 (rec : pH75_v1.T → Option qH75_v1.T) (h : Ht.Ok prog ⟨75, pH75_v1, qH75_v1, rec⟩) : ∀ x, roundE (kzO (pH75_v1_1.T ⊕ xH75_v1_1.T)) (cxH75_v1 rec) ar0 [0] pH75_v1_1 xH75_v1_1 (bH75_v1_1 rec h) (fun y => some (.inl y)) (fun b => some (.inr b)) x = run rec (gH75_v1_1 x) := fun x => by kernel_rfl
noncomputable def LH75_v1_1 (rec : pH75_v1.T → Option qH75_v1.T) (h : Ht.Ok prog ⟨75, pH75_v1, qH75_v1, rec⟩) : LoopS prog 220 none 1 := mkLoop mixed (cxH75_v1 rec) (cxH75_v1_ok rec h) [0] rfl pH75_v1_1 xH75_v1_1 rfl (bH75_v1_1 rec h) (fun x => run rec (gH75_v1_1 x)) (sH75_v1_1 rec h)
@[reducible] def pH75_v1_2 : Pat := Pat.mk [(0, .c (.sl0 0 (.prod (.prod (.prod tI tI) (.prod tI tI)) tI))), (2, hI), (4, .c (.fn0 51)), (14, hI), (15, hI)] [(0, .arr (.prod (.prod (.prod tI tI) (.prod tI tI)) tI) false)] [] []
@[reducible] def xH75_v1_2 : Outs := [(.exit 4, Pat.mk [(0, .c (.sl0 0 (.prod (.prod (.prod tI tI) (.prod tI tI)) tI))), (2, hI), (14, hI)] [(0, .arr (.prod (.prod (.prod tI tI) (.prod tI tI)) tI) false)] [] [])]
noncomputable def bH75_v1_2 (rec : pH75_v1.T → Option qH75_v1.T) (h : Ht.Ok prog ⟨75, pH75_v1, qH75_v1, rec⟩) : D prog 220 none 1 := dO [] (pick (kd prog f75) [(2, false)]) 0
noncomputable def gH75_v1_2 : Nat × Int × Int × Int × (List (((Int × Int) × Int × Int) × Int)) × Unit → Tr pH75_v1.T qH75_v1.T ((Nat × Int × Int × Int × (List (((Int × Int) × Int × Int) × Int)) × Unit) ⊕ ((Nat × Int × Int × (List (((Int × Int) × Int × Int) × Int)) × Unit))) := fun (nv0, v2, v14, v15, b0, _) =>
 .br (decide (v14 < v15)) (
 .ni (v14 + v15) <|
 .nd (rng .u64 (v14 + v15)) <|
 .nb (1 : Int) (64 : Int) <|
 .ni (ar0.shr (v14 + v15) (1 : Int)) <|
 .nb v2 ((nv0 : Nat) : Int) <|
 .nd (decide (((0 : Nat) + (Int.toNat v2)) < (b0).length)) <|
 .nb (ar0.shr (v14 + v15) (1 : Int)) ((nv0 : Nat) : Int) <|
 .nd (decide (((0 : Nat) + (Int.toNat (ar0.shr (v14 + v15) (1 : Int)))) < (b0).length)) <|
 .bd (.up (F51 (((b0).getD ((0 : Nat) + (Int.toNat v2)) ((((0 : Int), (0 : Int)), ((0 : Int), (0 : Int))), (0 : Int))).1.1.1, (((b0).getD ((0 : Nat) + (Int.toNat v2)) ((((0 : Int), (0 : Int)), ((0 : Int), (0 : Int))), (0 : Int))).1.1.2, (((b0).getD ((0 : Nat) + (Int.toNat v2)) ((((0 : Int), (0 : Int)), ((0 : Int), (0 : Int))), (0 : Int))).1.2.1, (((b0).getD ((0 : Nat) + (Int.toNat v2)) ((((0 : Int), (0 : Int)), ((0 : Int), (0 : Int))), (0 : Int))).1.2.2, ((b0).getD ((0 : Nat) + (Int.toNat v2)) ((((0 : Int), (0 : Int)), ((0 : Int), (0 : Int))), (0 : Int))).2)))) (((b0).getD ((0 : Nat) + (Int.toNat (ar0.shr (v14 + v15) (1 : Int)))) ((((0 : Int), (0 : Int)), ((0 : Int), (0 : Int))), (0 : Int))).1.1.1, (((b0).getD ((0 : Nat) + (Int.toNat (ar0.shr (v14 + v15) (1 : Int)))) ((((0 : Int), (0 : Int)), ((0 : Int), (0 : Int))), (0 : Int))).1.1.2, (((b0).getD ((0 : Nat) + (Int.toNat (ar0.shr (v14 + v15) (1 : Int)))) ((((0 : Int), (0 : Int)), ((0 : Int), (0 : Int))), (0 : Int))).1.2.1, (((b0).getD ((0 : Nat) + (Int.toNat (ar0.shr (v14 + v15) (1 : Int)))) ((((0 : Int), (0 : Int)), ((0 : Int), (0 : Int))), (0 : Int))).1.2.2, ((b0).getD ((0 : Nat) + (Int.toNat (ar0.shr (v14 + v15) (1 : Int)))) ((((0 : Int), (0 : Int)), ((0 : Int), (0 : Int))), (0 : Int))).2)))))) fun y3 =>
 .br (!(decide (y3.1 < (0 : Int)))) (
 .ni ((ar0.shr (v14 + v15) (1 : Int)) + (1 : Int)) <|
 .ret (.inl (nv0, (v2, (((ar0.shr (v14 + v15) (1 : Int)) + (1 : Int)), (v15, (b0, ()))))))) (
 .ret (.inl (nv0, (v2, (v14, ((ar0.shr (v14 + v15) (1 : Int)), (b0, ())))))))) (
 .ret (.inr (nv0, (v2, (v14, (b0, ()))))))
theorem sH75_v1_2 (rec : pH75_v1.T → Option qH75_v1.T) (h : Ht.Ok prog ⟨75, pH75_v1, qH75_v1, rec⟩) : ∀ x, roundE (kzO (pH75_v1_2.T ⊕ xH75_v1_2.T)) (cxH75_v1 rec) ar0 [0] pH75_v1_2 xH75_v1_2 (bH75_v1_2 rec h) (fun y => some (.inl y)) (fun b => some (.inr b)) x = run rec (gH75_v1_2 x) := fun x => by kernel_rfl
noncomputable def LH75_v1_2 (rec : pH75_v1.T → Option qH75_v1.T) (h : Ht.Ok prog ⟨75, pH75_v1, qH75_v1, rec⟩) : LoopS prog 220 none 1 := mkLoop mixed (cxH75_v1 rec) (cxH75_v1_ok rec h) [0] rfl pH75_v1_2 xH75_v1_2 rfl (bH75_v1_2 rec h) (fun x => run rec (gH75_v1_2 x)) (sH75_v1_2 rec h)
@[reducible] def pH75_v1_3 : Pat := Pat.mk [(0, .c (.sl0 0 (.prod (.prod (.prod tI tI) (.prod tI tI)) tI))), (14, hI), (17, hI)] [(0, .arr (.prod (.prod (.prod tI tI) (.prod tI tI)) tI) false)] [] []
@[reducible] def xH75_v1_3 : Outs := [(.exit 6, Pat.mk [] [(0, .arr (.prod (.prod (.prod tI tI) (.prod tI tI)) tI) false)] [] [])]
noncomputable def bH75_v1_3 (rec : pH75_v1.T → Option qH75_v1.T) (h : Ht.Ok prog ⟨75, pH75_v1, qH75_v1, rec⟩) : D prog 220 none 1 := dO [] (pick (kd prog f75) [(3, false)]) 0
noncomputable def gH75_v1_3 : Nat × Int × Int × (List (((Int × Int) × Int × Int) × Int)) × Unit → Tr pH75_v1.T qH75_v1.T ((Nat × Int × Int × (List (((Int × Int) × Int × Int) × Int)) × Unit) ⊕ (((List (((Int × Int) × Int × Int) × Int)) × Unit))) := fun (nv0, v14, v17, b0, _) =>
 .br (decide (v14 < v17)) (
 .ni (v17 - (1 : Int)) <|
 .ni (v17 - (1 : Int)) <|
 .nb (v17 - (1 : Int)) ((nv0 : Nat) : Int) <|
 .nd (decide (((0 : Nat) + (Int.toNat (v17 - (1 : Int)))) < (b0).length)) <|
 .nb v17 ((nv0 : Nat) : Int) <|
 .nd (decide (((0 : Nat) + (Int.toNat v17)) < (b0).length)) <|
 .nb v17 ((nv0 : Nat) : Int) <|
 .nd (decide (((0 : Nat) + (Int.toNat v17)) < (b0).length)) <|
 .nb (v17 - (1 : Int)) ((nv0 : Nat) : Int) <|
 .nd (decide (((0 : Nat) + (Int.toNat (v17 - (1 : Int)))) < (((b0).set ((0 : Nat) + (Int.toNat v17)) (((((b0).getD ((0 : Nat) + (Int.toNat (v17 - (1 : Int)))) ((((0 : Int), (0 : Int)), ((0 : Int), (0 : Int))), (0 : Int))).1.1.1, ((b0).getD ((0 : Nat) + (Int.toNat (v17 - (1 : Int)))) ((((0 : Int), (0 : Int)), ((0 : Int), (0 : Int))), (0 : Int))).1.1.2), (((b0).getD ((0 : Nat) + (Int.toNat (v17 - (1 : Int)))) ((((0 : Int), (0 : Int)), ((0 : Int), (0 : Int))), (0 : Int))).1.2.1, ((b0).getD ((0 : Nat) + (Int.toNat (v17 - (1 : Int)))) ((((0 : Int), (0 : Int)), ((0 : Int), (0 : Int))), (0 : Int))).1.2.2)), ((b0).getD ((0 : Nat) + (Int.toNat (v17 - (1 : Int)))) ((((0 : Int), (0 : Int)), ((0 : Int), (0 : Int))), (0 : Int))).2))).length)) <|
 .ni (v17 - (1 : Int)) <|
 .ret (.inl (nv0, (v14, ((v17 - (1 : Int)), (((((b0).set ((0 : Nat) + (Int.toNat v17)) (((((b0).getD ((0 : Nat) + (Int.toNat (v17 - (1 : Int)))) ((((0 : Int), (0 : Int)), ((0 : Int), (0 : Int))), (0 : Int))).1.1.1, ((b0).getD ((0 : Nat) + (Int.toNat (v17 - (1 : Int)))) ((((0 : Int), (0 : Int)), ((0 : Int), (0 : Int))), (0 : Int))).1.1.2), (((b0).getD ((0 : Nat) + (Int.toNat (v17 - (1 : Int)))) ((((0 : Int), (0 : Int)), ((0 : Int), (0 : Int))), (0 : Int))).1.2.1, ((b0).getD ((0 : Nat) + (Int.toNat (v17 - (1 : Int)))) ((((0 : Int), (0 : Int)), ((0 : Int), (0 : Int))), (0 : Int))).1.2.2)), ((b0).getD ((0 : Nat) + (Int.toNat (v17 - (1 : Int)))) ((((0 : Int), (0 : Int)), ((0 : Int), (0 : Int))), (0 : Int))).2))).set ((0 : Nat) + (Int.toNat (v17 - (1 : Int)))) (((((b0).getD ((0 : Nat) + (Int.toNat v17)) ((((0 : Int), (0 : Int)), ((0 : Int), (0 : Int))), (0 : Int))).1.1.1, ((b0).getD ((0 : Nat) + (Int.toNat v17)) ((((0 : Int), (0 : Int)), ((0 : Int), (0 : Int))), (0 : Int))).1.1.2), (((b0).getD ((0 : Nat) + (Int.toNat v17)) ((((0 : Int), (0 : Int)), ((0 : Int), (0 : Int))), (0 : Int))).1.2.1, ((b0).getD ((0 : Nat) + (Int.toNat v17)) ((((0 : Int), (0 : Int)), ((0 : Int), (0 : Int))), (0 : Int))).1.2.2)), ((b0).getD ((0 : Nat) + (Int.toNat v17)) ((((0 : Int), (0 : Int)), ((0 : Int), (0 : Int))), (0 : Int))).2)), ())))))) (
 .ret (.inr (b0, ())))
theorem sH75_v1_3 (rec : pH75_v1.T → Option qH75_v1.T) (h : Ht.Ok prog ⟨75, pH75_v1, qH75_v1, rec⟩) : ∀ x, roundE (kzO (pH75_v1_3.T ⊕ xH75_v1_3.T)) (cxH75_v1 rec) ar0 [0] pH75_v1_3 xH75_v1_3 (bH75_v1_3 rec h) (fun y => some (.inl y)) (fun b => some (.inr b)) x = run rec (gH75_v1_3 x) := fun x => by kernel_rfl
noncomputable def LH75_v1_3 (rec : pH75_v1.T → Option qH75_v1.T) (h : Ht.Ok prog ⟨75, pH75_v1, qH75_v1, rec⟩) : LoopS prog 220 none 1 := mkLoop mixed (cxH75_v1 rec) (cxH75_v1_ok rec h) [0] rfl pH75_v1_3 xH75_v1_3 rfl (bH75_v1_3 rec h) (fun x => run rec (gH75_v1_3 x)) (sH75_v1_3 rec h)
@[reducible] def pH75_v1_4 : Pat := Pat.mk [(0, .c (.sl0 0 (.prod (.prod (.prod tI tI) (.prod tI tI)) tI))), (1, hI), (2, hI), (3, hI), (4, .c (.fn0 51)), (18, hI), (19, hI), (20, hI), (21, hI), (22, hI)] [(0, .arr (.prod (.prod (.prod tI tI) (.prod tI tI)) tI) false)] [] []
@[reducible] def xH75_v1_4 : Outs := [(.exit 8, Pat.mk [(0, .c (.sl0 0 (.prod (.prod (.prod tI tI) (.prod tI tI)) tI))), (1, hI), (2, hI), (3, hI), (4, .c (.fn0 51)), (18, hI), (19, hI), (20, hI)] [(0, .arr (.prod (.prod (.prod tI tI) (.prod tI tI)) tI) false)] [] [])]
noncomputable def bH75_v1_4 (rec : pH75_v1.T → Option qH75_v1.T) (h : Ht.Ok prog ⟨75, pH75_v1, qH75_v1, rec⟩) : D prog 220 none 1 := dO [] (pick (kd prog f75) [(4, false)]) 0
noncomputable def gH75_v1_4 : Nat × Int × Int × Int × Int × Int × Int × Int × Int × (List (((Int × Int) × Int × Int) × Int)) × Unit → Tr pH75_v1.T qH75_v1.T ((Nat × Int × Int × Int × Int × Int × Int × Int × Int × (List (((Int × Int) × Int × Int) × Int)) × Unit) ⊕ ((Nat × Int × Int × Int × Int × Int × Int × (List (((Int × Int) × Int × Int) × Int)) × Unit))) := fun (nv0, v1, v2, v3, v18, v19, v20, v21, v22, b0, _) =>
 .br (decide (v20 < v21)) (
 .ni (v20 + v21) <|
 .nd (rng .u64 (v20 + v21)) <|
 .nb (1 : Int) (64 : Int) <|
 .ni (ar0.shr (v20 + v21) (1 : Int)) <|
 .ni (v22 - (ar0.shr (v20 + v21) (1 : Int))) <|
 .nb (v22 - (ar0.shr (v20 + v21) (1 : Int))) ((nv0 : Nat) : Int) <|
 .nd (decide (((0 : Nat) + (Int.toNat (v22 - (ar0.shr (v20 + v21) (1 : Int))))) < (b0).length)) <|
 .nb (ar0.shr (v20 + v21) (1 : Int)) ((nv0 : Nat) : Int) <|
 .nd (decide (((0 : Nat) + (Int.toNat (ar0.shr (v20 + v21) (1 : Int)))) < (b0).length)) <|
 .bd (.up (F51 (((b0).getD ((0 : Nat) + (Int.toNat (v22 - (ar0.shr (v20 + v21) (1 : Int))))) ((((0 : Int), (0 : Int)), ((0 : Int), (0 : Int))), (0 : Int))).1.1.1, (((b0).getD ((0 : Nat) + (Int.toNat (v22 - (ar0.shr (v20 + v21) (1 : Int))))) ((((0 : Int), (0 : Int)), ((0 : Int), (0 : Int))), (0 : Int))).1.1.2, (((b0).getD ((0 : Nat) + (Int.toNat (v22 - (ar0.shr (v20 + v21) (1 : Int))))) ((((0 : Int), (0 : Int)), ((0 : Int), (0 : Int))), (0 : Int))).1.2.1, (((b0).getD ((0 : Nat) + (Int.toNat (v22 - (ar0.shr (v20 + v21) (1 : Int))))) ((((0 : Int), (0 : Int)), ((0 : Int), (0 : Int))), (0 : Int))).1.2.2, ((b0).getD ((0 : Nat) + (Int.toNat (v22 - (ar0.shr (v20 + v21) (1 : Int))))) ((((0 : Int), (0 : Int)), ((0 : Int), (0 : Int))), (0 : Int))).2)))) (((b0).getD ((0 : Nat) + (Int.toNat (ar0.shr (v20 + v21) (1 : Int)))) ((((0 : Int), (0 : Int)), ((0 : Int), (0 : Int))), (0 : Int))).1.1.1, (((b0).getD ((0 : Nat) + (Int.toNat (ar0.shr (v20 + v21) (1 : Int)))) ((((0 : Int), (0 : Int)), ((0 : Int), (0 : Int))), (0 : Int))).1.1.2, (((b0).getD ((0 : Nat) + (Int.toNat (ar0.shr (v20 + v21) (1 : Int)))) ((((0 : Int), (0 : Int)), ((0 : Int), (0 : Int))), (0 : Int))).1.2.1, (((b0).getD ((0 : Nat) + (Int.toNat (ar0.shr (v20 + v21) (1 : Int)))) ((((0 : Int), (0 : Int)), ((0 : Int), (0 : Int))), (0 : Int))).1.2.2, ((b0).getD ((0 : Nat) + (Int.toNat (ar0.shr (v20 + v21) (1 : Int)))) ((((0 : Int), (0 : Int)), ((0 : Int), (0 : Int))), (0 : Int))).2)))))) fun y7 =>
 .br (!(decide (y7.1 < (0 : Int)))) (
 .ni ((ar0.shr (v20 + v21) (1 : Int)) + (1 : Int)) <|
 .ret (.inl (nv0, (v1, (v2, (v3, (v18, (v19, (((ar0.shr (v20 + v21) (1 : Int)) + (1 : Int)), (v21, (v22, (b0, ())))))))))))) (
 .ret (.inl (nv0, (v1, (v2, (v3, (v18, (v19, (v20, ((ar0.shr (v20 + v21) (1 : Int)), (v22, (b0, ()))))))))))))) (
 .ret (.inr (nv0, (v1, (v2, (v3, (v18, (v19, (v20, (b0, ()))))))))))
theorem sH75_v1_4 (rec : pH75_v1.T → Option qH75_v1.T) (h : Ht.Ok prog ⟨75, pH75_v1, qH75_v1, rec⟩) : ∀ x, roundE (kzO (pH75_v1_4.T ⊕ xH75_v1_4.T)) (cxH75_v1 rec) ar0 [0] pH75_v1_4 xH75_v1_4 (bH75_v1_4 rec h) (fun y => some (.inl y)) (fun b => some (.inr b)) x = run rec (gH75_v1_4 x) := fun x => by kernel_rfl
noncomputable def LH75_v1_4 (rec : pH75_v1.T → Option qH75_v1.T) (h : Ht.Ok prog ⟨75, pH75_v1, qH75_v1, rec⟩) : LoopS prog 220 none 1 := mkLoop mixed (cxH75_v1 rec) (cxH75_v1_ok rec h) [0] rfl pH75_v1_4 xH75_v1_4 rfl (bH75_v1_4 rec h) (fun x => run rec (gH75_v1_4 x)) (sH75_v1_4 rec h)
noncomputable def ddH75_v1 (rec : pH75_v1.T → Option qH75_v1.T) (h : Ht.Ok prog ⟨75, pH75_v1, qH75_v1, rec⟩) : D prog 220 none 1 := dO [.l (LH75_v1_0 rec h), .l (LH75_v1_1 rec h), .l (LH75_v1_2 rec h), .l (LH75_v1_3 rec h), .l (LH75_v1_4 rec h)] (kd prog f75) 0
noncomputable def FH75_v1 (nv0 : Nat) (v1 : Int) (v2 : Int) (v3 : Int) (b0 : List (((Int × Int) × Int × Int) × Int)) : Tr pH75_v1.T qH75_v1.T ((List (((Int × Int) × Int × Int) × Int)) × Unit) :=
 .ni (v2 - v1) <|
 .br ((v2 - v1) == (1 : Int)) (
 .bd (.it gH75_v1_0 (nv0, (v1, (v2, (v3, (b0, ())))))) fun z1 =>
 .bd (.it gH75_v1_1 (z1.1, (z1.2.2.1, (z1.2.1, (z1.2.2.2.1, ()))))) fun z2 =>
 .ret (z2.1, ())) (
 .ni (v3 - v2) <|
 .br ((v3 - v2) == (1 : Int)) (
 .bd (.it gH75_v1_2 (nv0, (v2, (v1, (v2, (b0, ())))))) fun z4 =>
 .bd (.it gH75_v1_3 (z4.1, (z4.2.2.1, (z4.2.1, (z4.2.2.2.1, ()))))) fun z5 =>
 .ret (z5.1, ())) (
 .ni (v1 + v3) <|
 .nd (rng .u64 (v1 + v3)) <|
 .nb (1 : Int) (64 : Int) <|
 .ni (ar0.shr (v1 + v3) (1 : Int)) <|
 .ni ((ar0.shr (v1 + v3) (1 : Int)) + v2) <|
 .jx (
 .br (decide ((ar0.shr (v1 + v3) (1 : Int)) < v2)) (
 .ni (((ar0.shr (v1 + v3) (1 : Int)) + v2) - v3) <|
 .ret (.inl (nv0, (v1, (v2, (v3, ((ar0.shr (v1 + v3) (1 : Int)), (((ar0.shr (v1 + v3) (1 : Int)) + v2), ((((ar0.shr (v1 + v3) (1 : Int)) + v2) - v3), ((ar0.shr (v1 + v3) (1 : Int)), (b0, ()))))))))))) (
 .ret (.inl (nv0, (v1, (v2, (v3, ((ar0.shr (v1 + v3) (1 : Int)), (((ar0.shr (v1 + v3) (1 : Int)) + v2), (v1, (v2, (b0, ())))))))))))) fun j6 =>
 .ni (j6.2.2.2.2.2.1 - (1 : Int)) <|
 .bd (.it gH75_v1_4 (j6.1, (j6.2.1, (j6.2.2.1, (j6.2.2.2.1, (j6.2.2.2.2.1, (j6.2.2.2.2.2.1, (j6.2.2.2.2.2.2.1, (j6.2.2.2.2.2.2.2.1, ((j6.2.2.2.2.2.1 - (1 : Int)), (j6.2.2.2.2.2.2.2.2.1, ()))))))))))) fun z8 =>
 .ni (z8.2.2.2.2.2.1 - z8.2.2.2.2.2.2.1) <|
 .jx (
 .br (decide (z8.2.2.2.2.2.2.1 < z8.2.2.1)) (
 .br (decide (z8.2.2.1 < (z8.2.2.2.2.2.1 - z8.2.2.2.2.2.2.1))) (
 .bd (.up (FH86_v1 z8.1 z8.2.2.2.2.2.2.1 z8.2.2.1 (z8.2.2.2.2.2.1 - z8.2.2.2.2.2.2.1) z8.2.2.2.2.2.2.2.1)) fun y11 =>
 .ret (.inl (z8.1, (z8.2.1, (z8.2.2.2.1, (z8.2.2.2.2.1, (z8.2.2.2.2.2.2.1, ((z8.2.2.2.2.2.1 - z8.2.2.2.2.2.2.1), (y11.1, ()))))))))) (
 .ret (.inl (z8.1, (z8.2.1, (z8.2.2.2.1, (z8.2.2.2.2.1, (z8.2.2.2.2.2.2.1, ((z8.2.2.2.2.2.1 - z8.2.2.2.2.2.2.1), (z8.2.2.2.2.2.2.2.1, ())))))))))) (
 .ret (.inl (z8.1, (z8.2.1, (z8.2.2.2.1, (z8.2.2.2.2.1, (z8.2.2.2.2.2.2.1, ((z8.2.2.2.2.2.1 - z8.2.2.2.2.2.2.1), (z8.2.2.2.2.2.2.2.1, ())))))))))) fun j10 =>
 .jx (
 .br (decide (j10.2.1 < j10.2.2.2.2.1)) (
 .br (decide (j10.2.2.2.2.1 < j10.2.2.2.1)) (
 .bd (.rc (j10.1, (j10.2.1, (j10.2.2.2.2.1, (j10.2.2.2.1, (j10.2.2.2.2.2.2.1, ())))))) fun y14 =>
 .ret (.inl (j10.1, (j10.2.2.1, (j10.2.2.2.1, (j10.2.2.2.2.2.1, (y14.1, ()))))))) (
 .ret (.inl (j10.1, (j10.2.2.1, (j10.2.2.2.1, (j10.2.2.2.2.2.1, (j10.2.2.2.2.2.2.1, ())))))))) (
 .ret (.inl (j10.1, (j10.2.2.1, (j10.2.2.2.1, (j10.2.2.2.2.2.1, (j10.2.2.2.2.2.2.1, ())))))))) fun j13 =>
 .br (decide (j13.2.2.1 < j13.2.2.2.1)) (
 .br (decide (j13.2.2.2.1 < j13.2.1)) (
 .bd (.rc (j13.1, (j13.2.2.1, (j13.2.2.2.1, (j13.2.1, (j13.2.2.2.2.1, ())))))) fun y15 =>
 .ret (y15.1, ())) (
 .ret (j13.2.2.2.2.1, ()))) (
 .ret (j13.2.2.2.2.1, ()))))
theorem cH75_v1_ok (rec : pH75_v1.T → Option qH75_v1.T) (h : Ht.Ok prog ⟨75, pH75_v1, qH75_v1, rec⟩) : trF prog f75 = some ⟨220, 5, (ddH75_v1 rec h).er, [], []⟩ := by kernel_rfl
theorem ht75_v1_step (rec : pH75_v1.T → Option qH75_v1.T) (h : Ht.Ok prog ⟨75, pH75_v1, qH75_v1, rec⟩) : Ht.Ok prog ⟨75, pH75_v1, qH75_v1, (fun x => run rec (FH75_v1 x.1 x.2.1 x.2.2.1 x.2.2.2.1 x.2.2.2.2.1))⟩ := ht_ok mixed (cxH75_v1_ok rec h) rfl func75 (cH75_v1_ok rec h) (enters_of func75 rfl rfl) (ddH75_v1 rec h) (by kernel_rfl) rfl rfl ⟨_, rfl⟩ rfl (pre := [0]) rfl (fun x => Eq.trans (b := run rec (flat (FH75_v1 x.1 x.2.1 x.2.2.1 x.2.2.2.1 x.2.2.2.2.1))) (by kernel_rfl) run_flat)
noncomputable def FH75_v1fix (nv0 : Nat) (v1 : Int) (v2 : Int) (v3 : Int) (b0 : List (((Int × Int) × Int × Int) × Int)) : Tr0 ((List (((Int × Int) × Int × Int) × Int)) × Unit) := .fx (A1 := pH75_v1.T) (B1 := qH75_v1.T) (fun x => FH75_v1 x.1 x.2.1 x.2.2.1 x.2.2.2.1 x.2.2.2.2.1) (nv0, v1, v2, v3, b0, ())
noncomputable def ht75_v1 : Ht := ⟨75, pH75_v1, qH75_v1, fun x => run0 (FH75_v1fix x.1 x.2.1 x.2.2.1 x.2.2.2.1 x.2.2.2.2.1)⟩
theorem ht75_v1_ok : ht75_v1.Ok prog := ht_fix (F := fun rec x => run rec (FH75_v1 x.1 x.2.1 x.2.2.1 x.2.2.2.1 x.2.2.2.2.1)) (fun rec h => ht75_v1_step rec h)

/- 68, lent -/
@[reducible] def pH68_v1 : Pat := Pat.mk [(0, .c (.sl0 0 (.prod (.prod (.prod tI tI) (.prod tI tI)) tI))), (1, hI), (2, .c (.fn0 51))] [(0, .arr (.prod (.prod (.prod tI tI) (.prod tI tI)) tI) false)] [.slot 0] []
@[reducible] def qH68_v1 : Pat := Pat.mk [(0, .c .any)] [(0, .arr (.prod (.prod (.prod tI tI) (.prod tI tI)) tI) false)] [] []
noncomputable def cxH68_v1 : Cx := (mkCxH [] [ht74_v1, ht75_v1])
theorem cxH68_v1_ok : cxH68_v1.Ok prog := mkCxH_ok trivial ⟨⟨ht74_v1_ok, rfl⟩, ⟨ht75_v1_ok, rfl⟩, trivial⟩
@[reducible] def pH68_v1_0 : Pat := Pat.mk [(0, .c (.sl0 0 (.prod (.prod (.prod tI tI) (.prod tI tI)) tI))), (1, hI), (2, .c (.fn0 51)), (6, hI), (7, hI), (8, hI)] [(0, .arr (.prod (.prod (.prod tI tI) (.prod tI tI)) tI) false)] [] []
@[reducible] def xH68_v1_0 : Outs := [(.exit 0, Pat.mk [(0, .c (.sl0 0 (.prod (.prod (.prod tI tI) (.prod tI tI)) tI))), (1, hI), (2, .c (.fn0 51)), (6, hI), (7, hI)] [(0, .arr (.prod (.prod (.prod tI tI) (.prod tI tI)) tI) false)] [] [])]
noncomputable def bH68_v1_0 : D prog 63 none 1 := dO [] (pick (kd prog f68) [(0, false)]) 0
noncomputable def gH68_v1_0 : Nat × Int × Int × Int × Int × (List (((Int × Int) × Int × Int) × Int)) × Unit → Tr0 ((Nat × Int × Int × Int × Int × (List (((Int × Int) × Int × Int) × Int)) × Unit) ⊕ ((Nat × Int × Int × Int × (List (((Int × Int) × Int × Int) × Int)) × Unit))) := fun (nv0, v1, v6, v7, v8, b0, _) =>
 .br (decide (v8 ≤ v1)) (
 .bd (FH74_v1 nv0 v7 v8 b0) fun y0 =>
 .ni (v8 + v6) <|
 .ret (.inl (nv0, (v1, (v6, (v8, ((v8 + v6), (y0.1, ())))))))) (
 .ret (.inr (nv0, (v1, (v6, (v7, (b0, ())))))))
theorem sH68_v1_0 : ∀ x, roundE (kzO (pH68_v1_0.T ⊕ xH68_v1_0.T)) cxH68_v1 ar0 [0] pH68_v1_0 xH68_v1_0 (bH68_v1_0) (fun y => some (.inl y)) (fun b => some (.inr b)) x = run0 (gH68_v1_0 x) := fun x => by kernel_rfl
noncomputable def LH68_v1_0 : LoopS prog 63 none 1 := mkLoop mixed cxH68_v1 cxH68_v1_ok [0] rfl pH68_v1_0 xH68_v1_0 rfl (bH68_v1_0) (fun x => run0 (gH68_v1_0 x)) (sH68_v1_0)
@[reducible] def pH68_v1_2 : Pat := Pat.mk [(0, .c (.sl0 0 (.prod (.prod (.prod tI tI) (.prod tI tI)) tI))), (1, hI), (2, .c (.fn0 51)), (6, hI), (7, hI), (8, hI)] [(0, .arr (.prod (.prod (.prod tI tI) (.prod tI tI)) tI) false)] [] []
@[reducible] def xH68_v1_2 : Outs := [(.exit 4, Pat.mk [(0, .c (.sl0 0 (.prod (.prod (.prod tI tI) (.prod tI tI)) tI))), (1, hI), (2, .c (.fn0 51)), (6, hI), (7, hI)] [(0, .arr (.prod (.prod (.prod tI tI) (.prod tI tI)) tI) false)] [] [])]
noncomputable def bH68_v1_2 : D prog 63 none 1 := dO [] (pick (kd prog f68) [(1, false), (0, false)]) 0
noncomputable def gH68_v1_2 : Nat × Int × Int × Int × Int × (List (((Int × Int) × Int × Int) × Int)) × Unit → Tr0 ((Nat × Int × Int × Int × Int × (List (((Int × Int) × Int × Int) × Int)) × Unit) ⊕ ((Nat × Int × Int × Int × (List (((Int × Int) × Int × Int) × Int)) × Unit))) := fun (nv0, v1, v6, v7, v8, b0, _) =>
 .br (decide (v8 ≤ v1)) (
 .ni (v7 + v6) <|
 .bd (FH75_v1fix nv0 v7 (v7 + v6) v8 b0) fun y3 =>
 .ni ((2 : Int) * v6) <|
 .ni (v8 + ((2 : Int) * v6)) <|
 .ret (.inl (nv0, (v1, (v6, (v8, ((v8 + ((2 : Int) * v6)), (y3.1, ())))))))) (
 .ret (.inr (nv0, (v1, (v6, (v7, (b0, ())))))))
theorem sH68_v1_2 : ∀ x, roundE (kzO (pH68_v1_2.T ⊕ xH68_v1_2.T)) cxH68_v1 ar0 [0] pH68_v1_2 xH68_v1_2 (bH68_v1_2) (fun y => some (.inl y)) (fun b => some (.inr b)) x = run0 (gH68_v1_2 x) := fun x => by kernel_rfl
noncomputable def LH68_v1_2 : LoopS prog 63 none 1 := mkLoop mixed cxH68_v1 cxH68_v1_ok [0] rfl pH68_v1_2 xH68_v1_2 rfl (bH68_v1_2) (fun x => run0 (gH68_v1_2 x)) (sH68_v1_2)
@[reducible] def pH68_v1_1 : Pat := Pat.mk [(0, .c (.sl0 0 (.prod (.prod (.prod tI tI) (.prod tI tI)) tI))), (1, hI), (2, .c (.fn0 51)), (6, hI)] [(0, .arr (.prod (.prod (.prod tI tI) (.prod tI tI)) tI) false)] [] []
@[reducible] def xH68_v1_1 : Outs := [(.exit 2, Pat.mk [] [(0, .arr (.prod (.prod (.prod tI tI) (.prod tI tI)) tI) false)] [] [])]
noncomputable def bH68_v1_1 : D prog 63 none 1 := dO [.l LH68_v1_2] (pick (kd prog f68) [(1, false)]) 0
noncomputable def gH68_v1_1 : Nat × Int × Int × (List (((Int × Int) × Int × Int) × Int)) × Unit → Tr0 ((Nat × Int × Int × (List (((Int × Int) × Int × Int) × Int)) × Unit) ⊕ (((List (((Int × Int) × Int × Int) × Int)) × Unit))) := fun (nv0, v1, v6, b0, _) =>
 .br (decide (v6 < v1)) (
 .ni ((2 : Int) * v6) <|
 .bd (.it gH68_v1_2 (nv0, (v1, (v6, ((0 : Int), (((2 : Int) * v6), (b0, ()))))))) fun z4 =>
 .ni (z4.2.2.2.1 + z4.2.2.1) <|
 .br (decide ((z4.2.2.2.1 + z4.2.2.1) < z4.2.1)) (
 .bd (FH75_v1fix z4.1 z4.2.2.2.1 (z4.2.2.2.1 + z4.2.2.1) z4.2.1 z4.2.2.2.2.1) fun y5 =>
 .ni (z4.2.2.1 * (2 : Int)) <|
 .ret (.inl (z4.1, (z4.2.1, ((z4.2.2.1 * (2 : Int)), (y5.1, ())))))) (
 .ni (z4.2.2.1 * (2 : Int)) <|
 .ret (.inl (z4.1, (z4.2.1, ((z4.2.2.1 * (2 : Int)), (z4.2.2.2.2.1, ()))))))) (
 .ret (.inr (b0, ())))
theorem sH68_v1_1 : ∀ x, roundE (kzO (pH68_v1_1.T ⊕ xH68_v1_1.T)) cxH68_v1 ar0 [0] pH68_v1_1 xH68_v1_1 (bH68_v1_1) (fun y => some (.inl y)) (fun b => some (.inr b)) x = run0 (gH68_v1_1 x) := fun x => by kernel_rfl
noncomputable def LH68_v1_1 : LoopS prog 63 none 1 := mkLoop mixed cxH68_v1 cxH68_v1_ok [0] rfl pH68_v1_1 xH68_v1_1 rfl (bH68_v1_1) (fun x => run0 (gH68_v1_1 x)) (sH68_v1_1)
noncomputable def ddH68_v1 : D prog 63 none 1 := dO [.l LH68_v1_0, .l LH68_v1_1] (kd prog f68) 0
noncomputable def FH68_v1 (nv0 : Nat) (v1 : Int) (b0 : List (((Int × Int) × Int × Int) × Int)) : Tr0 ((List (((Int × Int) × Int × Int) × Int)) × Unit) :=
 .bd (.it gH68_v1_0 (nv0, (v1, ((20 : Int), ((0 : Int), ((20 : Int), (b0, ()))))))) fun z1 =>
 .bd (FH74_v1 z1.1 z1.2.2.2.1 z1.2.1 z1.2.2.2.2.1) fun y2 =>
 .bd (.it gH68_v1_1 (z1.1, (z1.2.1, (z1.2.2.1, (y2.1, ()))))) fun z6 =>
 .ret (z6.1, ())
theorem cH68_v1_ok : trF prog f68 = some ⟨63, 3, ddH68_v1.er, [], []⟩ := by kernel_rfl
noncomputable def ht68_v1 : Ht := ⟨68, pH68_v1, qH68_v1, (fun x => run0 (FH68_v1 x.1 x.2.1 x.2.2.1))⟩
theorem ht68_v1_ok : ht68_v1.Ok prog := ht_ok mixed cxH68_v1_ok rfl func68 cH68_v1_ok (enters_of func68 rfl rfl) ddH68_v1 (by kernel_rfl) rfl rfl ⟨_, rfl⟩ rfl (pre := [0]) rfl (fun x => by kernel_rfl)

/- 50, lent -/
@[reducible] def pH50_v1 : Pat := Pat.mk [(0, .c (.sl0 0 (.prod (.prod (.prod tI tI) (.prod tI tI)) tI))), (1, .c (.fn0 51))] [(0, .arr (.prod (.prod (.prod tI tI) (.prod tI tI)) tI) false)] [.slot 0] []
@[reducible] def qH50_v1 : Pat := Pat.mk [(0, .c .any)] [(0, .arr (.prod (.prod (.prod tI tI) (.prod tI tI)) tI) false)] [] []
noncomputable def cxH50_v1 : Cx := (mkCxH [] [ht68_v1])
theorem cxH50_v1_ok : cxH50_v1.Ok prog := mkCxH_ok trivial ⟨⟨ht68_v1_ok, rfl⟩, trivial⟩
noncomputable def ddH50_v1 : D prog 9 none 1 := dO [] (kd prog f50) 0
noncomputable def FH50_v1 (nv0 : Nat) (b0 : List (((Int × Int) × Int × Int) × Int)) : Tr0 ((List (((Int × Int) × Int × Int) × Int)) × Unit) :=
 .bd (FH68_v1 nv0 ((nv0 : Nat) : Int) b0) fun y0 =>
 .ret (y0.1, ())
theorem cH50_v1_ok : trF prog f50 = some ⟨9, 2, ddH50_v1.er, [], []⟩ := by kernel_rfl
noncomputable def ht50_v1 : Ht := ⟨50, pH50_v1, qH50_v1, (fun x => run0 (FH50_v1 x.1 x.2.1))⟩
theorem ht50_v1_ok : ht50_v1.Ok prog := ht_ok mixed cxH50_v1_ok rfl func50 cH50_v1_ok (enters_of func50 rfl rfl) ddH50_v1 (by kernel_rfl) rfl rfl ⟨_, rfl⟩ rfl (pre := [0]) rfl (fun x => by kernel_rfl)

/- 55, lent -/
@[reducible] def pH55_v1 : Pat := Pat.mk [(0, .c (.sl0 0 (.prod tI tI)))] [(0, .arr (.prod tI tI) true)] [.slot 0] []
@[reducible] def qH55_v1 : Pat := Pat.mk [(0, .c (.sl0 1 (.prod tI tI)))] [(1, .arr (.prod tI tI) false), (0, .arr (.prod tI tI) true)] [.slot 0] []
noncomputable def cxH55_v1 : Cx := (mkCxH [] [])
theorem cxH55_v1_ok : cxH55_v1.Ok prog := mkCxH_ok trivial trivial
noncomputable def ddH55_v1 : D prog 8 none 1 := dO [] (kd prog f55) 0
noncomputable def FH55_v1 (nv0 : Nat) (b0 : List (Int × Int)) : Tr0 (Nat × (List (Int × Int)) × (List (Int × Int)) × Unit) :=
 .br (((nv0 : Nat) : Int) == (0 : Int)) (
 .am inferInstance (
 .ret ((0 : Nat), ([], (b0, ())))) (
 .nd (decide (((0 : Nat) + ((((b0).drop (0 : Nat)).take nv0)).length) < bigL)) <|
 .ret (((0 : Nat) + ((((b0).drop (0 : Nat)).take nv0)).length), ((((([]).drop (0 : Nat)).take (0 : Nat)) ++ (((b0).drop (0 : Nat)).take nv0)), (b0, ()))))) (
 .nd (decide (((0 : Nat) + ((((b0).drop (0 : Nat)).take nv0)).length) < bigL)) <|
 .ret (((0 : Nat) + ((((b0).drop (0 : Nat)).take nv0)).length), ((((([]).drop (0 : Nat)).take (0 : Nat)) ++ (((b0).drop (0 : Nat)).take nv0)), (b0, ()))))
theorem cH55_v1_ok : trF prog f55 = some ⟨8, 1, ddH55_v1.er, [.t 2], [some (.list (.prod tI tI))]⟩ := by kernel_rfl
noncomputable def ht55_v1 : Ht := ⟨55, pH55_v1, qH55_v1, (fun x => run0 (FH55_v1 x.1 x.2.1))⟩
theorem ht55_v1_ok : ht55_v1.Ok prog := ht_ok mixed cxH55_v1_ok rfl func55 cH55_v1_ok (enters_of func55 rfl rfl) ddH55_v1 (by kernel_rfl) rfl rfl ⟨_, rfl⟩ rfl (pre := [0]) rfl (fun x => by kernel_rfl)

/- 33 -/
noncomputable def cx33 : Cx := (mkCxH [ct35, ct37, ct49, ct53, ct48] [ht50_v1, ht55_v1])
theorem cx33_ok : cx33.Ok prog := mkCxH_ok ⟨ct35_ok, ct37_ok, ct49_ok, ct53_ok, ct48_ok, trivial⟩ ⟨⟨ht50_v1_ok, rfl⟩, ⟨ht55_v1_ok, rfl⟩, trivial⟩
noncomputable def ad33_1 : D prog 144 (some 7) 27 := dO [] (pick (kd prog f33) [(0, false), (0, false)]) 0
noncomputable def bd33_1 : D prog 144 (some 7) 27 := dO [] (pick (kd prog f33) [(0, false), (0, true)]) 0
noncomputable def cx33_1i : Cx := itCx cx33 (fun kz => rdK kz cx33 ar0 7 27 [35] (ad33_1) (bd33_1))
theorem cx33_1i_ok : (cx33_1i).Ok prog := itCx_ok cx33_ok (fun h => rdK_ok mixed cx33_ok h)
@[reducible] def p33_1i_0 : Pat := Pat.mk [(0, .c (.yl 7)), (1, .c (.ipc (.list (.prod tI tI)))), (5, .c (.hole (.list (.prod tI tI)))), (6, hI), (7, hI)] [(7, .loop .ready none 6 [(2, .c (.ptr 0 0)), (3, .c (.ptr 1 0)), (4, .c (.ptr 2 0)), (5, .c (.sl0 3 (.prod tI tI))), (6, .c (.ptr 4 0)), (15, .c (.hole (.list (.list (.prod tI tI))))), (16, hI), (17, hI), (34, .fn 56 [] [.ipc (.list (.prod tI tI))])] [35] (.reg [.op (some 8) none (.alloc [.int .i64 (Int.ofNat 0), .int .i64 (Int.ofNat 0), .int .i64 (Int.ofNat 0), .int .i64 (Int.ofNat 0)]), .op none none (.store 4 (.t 8) (.t 35))]) (.block 3 (.reg [.op (some 36) none (.load false 1 (.t 3)), .op (some 37) none (.load true 4 (.t 8)), .op (some 38) none (.load false 1 (.t 6)), .op (some 39) none (.build [.int .i64 (Int.ofNat 0), .int .i64 (Int.ofNat 0), .int .i64 (Int.ofNat 0), .int .i64 (Int.ofNat 0), .int .i64 (Int.ofNat 0)] [(0, 4, .t 37), (4, 1, .t 38)]), .op (some 40) none (.bslice (.prod (.prod (.prod tI tI) (.prod tI tI)) tI) [.t 39]), .op (some 41) none (.append 5 (.t 36) (.t 40)), .op none none (.store 1 (.t 3) (.t 41))])) 144), (6, .dfr), (0, .cells [.nsl, .nsl] false), (1, .cells [.sl0 8 (.prod (.prod (.prod tI tI) (.prod tI tI)) tI)] false), (2, .cells [.hole tI, .hole tI] false), (3, .arr (.prod tI tI) false), (4, .cells [.hole tI] false), (8, .arr (.prod (.prod (.prod tI tI) (.prod tI tI)) tI) false)] [.cell 1 0] []
@[reducible] def x33_1i_0 : Outs := [(.exit 0, Pat.mk [] [(0, .cells [.nsl, .nsl] false), (1, .cells [.sl0 8 (.prod (.prod (.prod tI tI) (.prod tI tI)) tI)] false), (2, .cells [.hole tI, .hole tI] false), (4, .cells [.hole tI] false), (6, .dfr), (7, .loop .ready none 6 [(2, .c (.ptr 0 0)), (3, .c (.ptr 1 0)), (4, .c (.ptr 2 0)), (5, .c (.sl0 3 (.prod tI tI))), (6, .c (.ptr 4 0)), (15, .c (.hole (.list (.list (.prod tI tI))))), (16, hI), (17, hI), (34, .fn 56 [] [.ipc (.list (.prod tI tI))])] [35] (.reg [.op (some 8) none (.alloc [.int .i64 (Int.ofNat 0), .int .i64 (Int.ofNat 0), .int .i64 (Int.ofNat 0), .int .i64 (Int.ofNat 0)]), .op none none (.store 4 (.t 8) (.t 35))]) (.block 3 (.reg [.op (some 36) none (.load false 1 (.t 3)), .op (some 37) none (.load true 4 (.t 8)), .op (some 38) none (.load false 1 (.t 6)), .op (some 39) none (.build [.int .i64 (Int.ofNat 0), .int .i64 (Int.ofNat 0), .int .i64 (Int.ofNat 0), .int .i64 (Int.ofNat 0), .int .i64 (Int.ofNat 0)] [(0, 4, .t 37), (4, 1, .t 38)]), .op (some 40) none (.bslice (.prod (.prod (.prod tI tI) (.prod tI tI)) tI) [.t 39]), .op (some 41) none (.append 5 (.t 36) (.t 40)), .op none none (.store 1 (.t 3) (.t 41))])) 144), (3, .arr (.prod tI tI) false), (8, .arr (.prod (.prod (.prod tI tI) (.prod tI tI)) tI) false)] [.cell 1 0] [])]
noncomputable def b33_1i_0 : D prog 33 none 8 := dO [] (pick (kd prog f56) [(0, false)]) 0
noncomputable def g33_1i_0 : (List (Int × Int)) × (List (Int × Int)) × Int × Int × Nat × (List (List (Int × Int))) × Int × Int × (List (Int × Int)) × Nat × Int × Int × (List (Int × Int)) × Int × (List (((Int × Int) × Int × Int) × Int)) × Unit → Tr0 (((List (Int × Int)) × (List (Int × Int)) × Int × Int × Nat × (List (List (Int × Int))) × Int × Int × (List (Int × Int)) × Nat × Int × Int × (List (Int × Int)) × Int × (List (((Int × Int) × Int × Int) × Int)) × Unit) ⊕ ((Nat × Int × Int × Int × Nat × (List (List (Int × Int))) × Int × Int × (List (Int × Int)) × (List (Int × Int)) × (List (((Int × Int) × Int × Int) × Int)) × Unit))) := fun (v1, v5, v6, v7, nw5, w15, w16, w17, w34_0, nc1_0, c2_0, c2_1, b3, c4_0, b8, _) =>
 .br (decide (v7 < v6)) (
 .nb v7 (((v5).length : Nat) : Int) <|
 .br (decide ((1 : Int) < (((v1).length : Nat) : Int))) (
 .ni (v7 + (1 : Int)) <|
 .nd (!((((v1).length : Nat) : Int) == (0 : Int))) <|
 .nb (Int.tmod (v7 + (1 : Int)) (((v1).length : Nat) : Int)) (((v1).length : Nat) : Int) <|
 .bd (F49 (((v1).getD (Int.toNat (Int.tmod (v7 + (1 : Int)) (((v1).length : Nat) : Int))) ((0 : Int), (0 : Int))).1, ((v1).getD (Int.toNat (Int.tmod (v7 + (1 : Int)) (((v1).length : Nat) : Int))) ((0 : Int), (0 : Int))).2) (((v5).getD (Int.toNat v7) ((0 : Int), (0 : Int))).1, ((v5).getD (Int.toNat v7) ((0 : Int), (0 : Int))).2)) fun y2 =>
 .nd (decide ((nc1_0 + ((((((((((v5).getD (Int.toNat v7) ((0 : Int), (0 : Int))).1, ((v5).getD (Int.toNat v7) ((0 : Int), (0 : Int))).2), (y2.1.1, y2.1.2)), c4_0) :: [])).drop (0 : Nat)).take (1 : Nat))).length) < bigL)) <|
 .ni (v7 + (1 : Int)) <|
 .ret (.inl (v1, (v5, (v6, ((v7 + (1 : Int)), (nw5, (w15, (w16, (w17, (w34_0, ((nc1_0 + ((((((((((v5).getD (Int.toNat v7) ((0 : Int), (0 : Int))).1, ((v5).getD (Int.toNat v7) ((0 : Int), (0 : Int))).2), (y2.1.1, y2.1.2)), c4_0) :: [])).drop (0 : Nat)).take (1 : Nat))).length), (c2_0, (c2_1, (b3, (c4_0, (((((b8).drop (0 : Nat)).take nc1_0) ++ (((((((((v5).getD (Int.toNat v7) ((0 : Int), (0 : Int))).1, ((v5).getD (Int.toNat v7) ((0 : Int), (0 : Int))).2), (y2.1.1, y2.1.2)), c4_0) :: [])).drop (0 : Nat)).take (1 : Nat))), ()))))))))))))))))) (
 .ni (v7 + (1 : Int)) <|
 .ret (.inl (v1, (v5, (v6, ((v7 + (1 : Int)), (nw5, (w15, (w16, (w17, (w34_0, (nc1_0, (c2_0, (c2_1, (b3, (c4_0, (b8, ())))))))))))))))))) (
 .ret (.inr (nc1_0, (c2_0, (c2_1, (c4_0, (nw5, (w15, (w16, (w17, (w34_0, (b3, (b8, ())))))))))))))
theorem s33_1i_0 : ∀ x, roundE (kzO (p33_1i_0.T ⊕ x33_1i_0.T)) cx33_1i ar0 [0, 1, 2, 3, 4, 5, 6, 7] p33_1i_0 x33_1i_0 (b33_1i_0) (fun y => some (.inl y)) (fun b => some (.inr b)) x = run0 (g33_1i_0 x) := fun x => by kernel_rfl
noncomputable def L33_1i_0 : LoopS prog 33 none 8 := mkLoop mixed cx33_1i cx33_1i_ok [0, 1, 2, 3, 4, 5, 6, 7] rfl p33_1i_0 x33_1i_0 rfl (b33_1i_0) (fun x => run0 (g33_1i_0 x)) (s33_1i_0)
@[reducible] def p33_1 : Pat := Pat.mk [(2, .c (.ptr 0 0)), (3, .c (.ptr 1 0)), (4, .c (.ptr 2 0)), (5, .c (.sl0 3 (.prod tI tI))), (6, .c (.ptr 4 0)), (15, .c (.hole (.list (.list (.prod tI tI))))), (16, hI), (17, hI), (34, .fn 56 [] [.ipc (.list (.prod tI tI))])] [(0, .cells [.nsl, .nsl] false), (1, .cells [.sl0 5 (.prod (.prod (.prod tI tI) (.prod tI tI)) tI)] false), (2, .cells [.hole tI, .hole tI] false), (3, .arr (.prod tI tI) false), (4, .cells [.hole tI] false), (5, .arr (.prod (.prod (.prod tI tI) (.prod tI tI)) tI) false)] [.slot 2, .slot 3, .slot 4, .slot 5, .slot 6, .cell 1 0] []
@[reducible] def x33_1 : Outs := [(.normal, Pat.mk [(2, .c (.ptr 0 0)), (3, .c (.ptr 1 0)), (4, .c (.ptr 2 0)), (5, .c (.sl0 3 (.prod tI tI))), (15, .c (.hole (.list (.list (.prod tI tI))))), (16, hI), (17, hI)] [(0, .cells [.nsl, .nsl] false), (1, .cells [.sl0 4 (.prod (.prod (.prod tI tI) (.prod tI tI)) tI)] false), (2, .cells [.hole tI, .hole tI] false), (3, .arr (.prod tI tI) false), (4, .arr (.prod (.prod (.prod tI tI) (.prod tI tI)) tI) false)] [.slot 2, .slot 3, .slot 4, .slot 5, .cell 1 0] [])]
noncomputable def b33_1i : D prog 33 none 8 := dO [.l L33_1i_0] (kd prog f56) 0
theorem ci33_1 : trF prog f56 = some ⟨33, 2, (b33_1i).er, [], []⟩ := by kernel_rfl
noncomputable def g33_1 : Nat × (List (List (Int × Int))) × Int × Int × (List (Int × Int)) × Nat × Int × Int × (List (Int × Int)) × Int × (List (((Int × Int) × Int × Int) × Int)) × Unit → Tr0 ((Nat × (List (List (Int × Int))) × Int × Int × Nat × Int × Int × (List (Int × Int)) × (List (((Int × Int) × Int × Int) × Int)) × Unit)) := fun (nv5, v15, v16, v17, v34_0, nc1_0, c2_0, c2_1, b3, c4_0, b5, _) =>
 .bd (.it g33_1i_0 (v34_0, (v34_0, ((((v34_0).length : Nat) : Int), ((0 : Int), (nv5, (v15, (v16, (v17, (v34_0, (nc1_0, (c2_0, (c2_1, (b3, (c4_0, (b5, ())))))))))))))))) fun z3 =>
 .ret ((nv5, (v15, (v16, (v17, (z3.1, (z3.2.1, (z3.2.2.1, (z3.2.2.2.2.2.2.2.2.2.1, (z3.2.2.2.2.2.2.2.2.2.2.1, ()))))))))))
theorem s33_1 : ∀ x, rangeE (N := 144) (out := none) (base := 0) (kzO x33_1.T) cx33_1i ar0 [] p33_1 x33_1 ( .t 34) [35] (ad33_1).er (bd33_1).er [] 2 56 (b33_1i) some x = run0 (g33_1 x) := fun x => by kernel_rfl
noncomputable def R33_1 : RangeS prog 144 none 0 := mkRange mixed cx33_1i cx33_1i_ok [] rfl p33_1 x33_1 ( .t 34) [35] rfl (ad33_1).er (bd33_1).er 56 func56 (ci33_1) (enters_of func56 rfl rfl) 8 rfl (b33_1i) rfl (fun x => run0 (g33_1 x)) (s33_1)
@[reducible] def p33_0 : Pat := Pat.mk [(2, .c (.ptr 0 0)), (3, .c (.ptr 1 0)), (4, .c (.ptr 2 0)), (5, .c (.sl0 3 (.prod tI tI))), (15, .c (.hole (.list (.list (.prod tI tI))))), (16, hI), (17, hI)] [(0, .cells [.nsl, .nsl] false), (1, .cells [.sl0 4 (.prod (.prod (.prod tI tI) (.prod tI tI)) tI)] false), (2, .cells [.hole tI, .hole tI] false), (3, .arr (.prod tI tI) false), (4, .arr (.prod (.prod (.prod tI tI) (.prod tI tI)) tI) false)] [.slot 2, .slot 3, .slot 4, .slot 5, .cell 1 0] []
@[reducible] def x33_0 : Outs := [(.exit 0, Pat.mk [(2, .c (.ptr 0 0)), (3, .c (.ptr 1 0)), (4, .c (.ptr 2 0)), (5, .c (.sl0 3 (.prod tI tI)))] [(0, .cells [.nsl, .nsl] false), (1, .cells [.sl0 4 (.prod (.prod (.prod tI tI) (.prod tI tI)) tI)] false), (2, .cells [.hole tI, .hole tI] false), (3, .arr (.prod tI tI) false), (4, .arr (.prod (.prod (.prod tI tI) (.prod tI tI)) tI) false)] [.slot 2, .slot 3, .slot 4, .slot 5, .cell 1 0] [])]
noncomputable def b33_0 : D prog 144 none 0 := dO [.r R33_1] (pick (kd prog f33) [(0, false)]) 0
noncomputable def g33_0 : Nat × (List (List (Int × Int))) × Int × Int × Nat × Int × Int × (List (Int × Int)) × (List (((Int × Int) × Int × Int) × Int)) × Unit → Tr0 ((Nat × (List (List (Int × Int))) × Int × Int × Nat × Int × Int × (List (Int × Int)) × (List (((Int × Int) × Int × Int) × Int)) × Unit) ⊕ ((Nat × Nat × Int × Int × (List (Int × Int)) × (List (((Int × Int) × Int × Int) × Int)) × Unit))) := fun (nv5, v15, v16, v17, nc1_0, c2_0, c2_1, b3, b4, _) =>
 .br (decide (v17 < v16)) (
 .nb v17 (((v15).length : Nat) : Int) <|
 .nb (0 : Int) (((((v15).getD (Int.toNat v17) [])).length : Nat) : Int) <|
 .bd (F35 (c2_0, c2_1) (((((v15).getD (Int.toNat v17) [])).getD (Int.toNat (0 : Int)) ((0 : Int), (0 : Int))).1, ((((v15).getD (Int.toNat v17) [])).getD (Int.toNat (0 : Int)) ((0 : Int), (0 : Int))).2)) fun y0 =>
 .nb (0 : Int) (((((v15).getD (Int.toNat v17) [])).length : Nat) : Int) <|
 .nd (decide ((nv5 + ((((((((((v15).getD (Int.toNat v17) [])).getD (Int.toNat (0 : Int)) ((0 : Int), (0 : Int))).1, ((((v15).getD (Int.toNat v17) [])).getD (Int.toNat (0 : Int)) ((0 : Int), (0 : Int))).2) :: [])).drop (0 : Nat)).take (1 : Nat))).length) < bigL)) <|
 .bd (F37 ((v15).getD (Int.toNat v17) [])) fun y1 =>
 .bd (g33_1 ((nv5 + ((((((((((v15).getD (Int.toNat v17) [])).getD (Int.toNat (0 : Int)) ((0 : Int), (0 : Int))).1, ((((v15).getD (Int.toNat v17) [])).getD (Int.toNat (0 : Int)) ((0 : Int), (0 : Int))).2) :: [])).drop (0 : Nat)).take (1 : Nat))).length), (v15, (v16, (v17, (y1.1, (nc1_0, (y0.1.1, (y0.1.2, (((((b3).drop (0 : Nat)).take nv5) ++ (((((((((v15).getD (Int.toNat v17) [])).getD (Int.toNat (0 : Int)) ((0 : Int), (0 : Int))).1, ((((v15).getD (Int.toNat v17) [])).getD (Int.toNat (0 : Int)) ((0 : Int), (0 : Int))).2) :: [])).drop (0 : Nat)).take (1 : Nat))), (v17, (b4, ())))))))))))) fun z4 =>
 .ni (z4.2.2.2.1 + (1 : Int)) <|
 .ret (.inl (z4.1, (z4.2.1, (z4.2.2.1, ((z4.2.2.2.1 + (1 : Int)), (z4.2.2.2.2.1, (z4.2.2.2.2.2.1, (z4.2.2.2.2.2.2.1, (z4.2.2.2.2.2.2.2.1, (z4.2.2.2.2.2.2.2.2.1, ()))))))))))) (
 .ret (.inr (nv5, (nc1_0, (c2_0, (c2_1, (b3, (b4, ()))))))))
theorem s33_0 : ∀ x, roundE (kzO (p33_0.T ⊕ x33_0.T)) cx33 ar0 [] p33_0 x33_0 (b33_0) (fun y => some (.inl y)) (fun b => some (.inr b)) x = run0 (g33_0 x) := fun x => by kernel_rfl
noncomputable def L33_0 : LoopS prog 144 none 0 := mkLoop mixed cx33 cx33_ok [] rfl p33_0 x33_0 rfl (b33_0) (fun x => run0 (g33_0 x)) (s33_0)
@[reducible] def p33_2 : Pat := Pat.mk [(2, .c (.ptr 0 0)), (3, .c (.ptr 1 0)), (4, .c (.ptr 2 0)), (5, .c (.sl0 3 (.prod tI tI))), (9, .c (.ptr 4 0)), (10, .c (.ptr 5 0)), (50, .c (.sl0 6 (.prod (.prod (.prod tI tI) (.prod tI tI)) tI))), (51, hI), (52, hI)] [(0, .cells [.nsl, .nsl] false), (1, .cells [.sl0 6 (.prod (.prod (.prod tI tI) (.prod tI tI)) tI)] false), (2, .cells [.hole tI, .hole tI] false), (3, .arr (.prod tI tI) true), (4, .cells [.sl0 7 (.prod tI tI), .sl0 8 (.list (.prod tI tI))] false), (5, .cells [.hole tI, .hole tI] false), (6, .arr (.prod (.prod (.prod tI tI) (.prod tI tI)) tI) false), (7, .arr (.prod tI tI) false), (8, .arr (.list (.prod tI tI)) false)] [.slot 2, .slot 3, .slot 4, .slot 5, .slot 9, .slot 10, .cell 1 0, .cell 4 0, .cell 4 1] []
@[reducible] def x33_2 : Outs := [(.exit 4, Pat.mk [(2, .c (.ptr 0 0)), (3, .c (.ptr 1 0)), (9, .c (.ptr 2 0))] [(0, .cells [.nsl, .nsl] false), (1, .cells [.sl0 3 (.prod (.prod (.prod tI tI) (.prod tI tI)) tI)] false), (2, .cells [.sl0 4 (.prod tI tI), .sl0 5 (.list (.prod tI tI))] false), (3, .arr (.prod (.prod (.prod tI tI) (.prod tI tI)) tI) false), (4, .arr (.prod tI tI) false), (5, .arr (.list (.prod tI tI)) false)] [.slot 2, .slot 3, .slot 9, .cell 1 0, .cell 2 0, .cell 2 1] [])]
noncomputable def b33_2 : D prog 144 none 0 := dO [] (pick (kd prog f33) [(1, false)]) 0
noncomputable def g33_2 : Nat × Nat × Int × Int × Nat × Int × Int × (List (Int × Int)) × Nat × Nat × Int × Int × (List (((Int × Int) × Int × Int) × Int)) × (List (Int × Int)) × (List (List (Int × Int))) × Unit → Tr0 ((Nat × Nat × Int × Int × Nat × Int × Int × (List (Int × Int)) × Nat × Nat × Int × Int × (List (((Int × Int) × Int × Int) × Int)) × (List (Int × Int)) × (List (List (Int × Int))) × Unit) ⊕ ((Nat × Nat × Nat × (List (((Int × Int) × Int × Int) × Int)) × (List (Int × Int)) × (List (List (Int × Int))) × Unit))) := fun (nv5, nv50, v51, v52, nc1_0, c2_0, c2_1, b3, nc4_0, nc4_1, c5_0, c5_1, b6, b7, b8, _) =>
 .br (decide (v52 < v51)) (
 .nb v52 ((nv50 : Nat) : Int) <|
 .nd (decide (((0 : Nat) + (Int.toNat v52)) < (b6).length)) <|
 .bd (F35 (c2_0, c2_1) (((b6).getD ((0 : Nat) + (Int.toNat v52)) ((((0 : Int), (0 : Int)), ((0 : Int), (0 : Int))), (0 : Int))).1.2.1, ((b6).getD ((0 : Nat) + (Int.toNat v52)) ((((0 : Int), (0 : Int)), ((0 : Int), (0 : Int))), (0 : Int))).1.2.2)) fun y7 =>
 .bd (FH55_v1 nv5 b3) fun y8 =>
 .nb ((b6).getD ((0 : Nat) + (Int.toNat v52)) ((((0 : Int), (0 : Int)), ((0 : Int), (0 : Int))), (0 : Int))).2 ((y8.1 : Nat) : Int) <|
 .nd (decide (((0 : Nat) + (Int.toNat ((b6).getD ((0 : Nat) + (Int.toNat v52)) ((((0 : Int), (0 : Int)), ((0 : Int), (0 : Int))), (0 : Int))).2)) < (y8.2.1).length)) <|
 .bd (F35 (((y8.2.1).getD ((0 : Nat) + (Int.toNat ((b6).getD ((0 : Nat) + (Int.toNat v52)) ((((0 : Int), (0 : Int)), ((0 : Int), (0 : Int))), (0 : Int))).2)) ((0 : Int), (0 : Int))).1, ((y8.2.1).getD ((0 : Nat) + (Int.toNat ((b6).getD ((0 : Nat) + (Int.toNat v52)) ((((0 : Int), (0 : Int)), ((0 : Int), (0 : Int))), (0 : Int))).2)) ((0 : Int), (0 : Int))).2) (((b6).getD ((0 : Nat) + (Int.toNat v52)) ((((0 : Int), (0 : Int)), ((0 : Int), (0 : Int))), (0 : Int))).1.2.1, ((b6).getD ((0 : Nat) + (Int.toNat v52)) ((((0 : Int), (0 : Int)), ((0 : Int), (0 : Int))), (0 : Int))).1.2.2)) fun y9 =>
 .nb ((b6).getD ((0 : Nat) + (Int.toNat v52)) ((((0 : Int), (0 : Int)), ((0 : Int), (0 : Int))), (0 : Int))).2 ((y8.1 : Nat) : Int) <|
 .nd (decide (((0 : Nat) + (Int.toNat ((b6).getD ((0 : Nat) + (Int.toNat v52)) ((((0 : Int), (0 : Int)), ((0 : Int), (0 : Int))), (0 : Int))).2)) < (y8.2.1).length)) <|
 .jx (
 .ni (((nc4_0 : Nat) : Int) - (1 : Int)) <|
 .bd (F53 (c5_0, c5_1)) fun y14 =>
 .bd (F53 (((b6).getD ((0 : Nat) + (Int.toNat v52)) ((((0 : Int), (0 : Int)), ((0 : Int), (0 : Int))), (0 : Int))).1.2.1, ((b6).getD ((0 : Nat) + (Int.toNat v52)) ((((0 : Int), (0 : Int)), ((0 : Int), (0 : Int))), (0 : Int))).1.2.2)) fun y15 =>
 .br (y14.1 == y15.1) (
 .bd (F48 (c5_0, c5_1) (((b6).getD ((0 : Nat) + (Int.toNat v52)) ((((0 : Int), (0 : Int)), ((0 : Int), (0 : Int))), (0 : Int))).1.2.1, ((b6).getD ((0 : Nat) + (Int.toNat v52)) ((((0 : Int), (0 : Int)), ((0 : Int), (0 : Int))), (0 : Int))).1.2.2)) fun y16 =>
 .br (y16.1 == (0 : Int)) (
 .br (!((c5_0 == (0 : Int)) && ((c5_1 == (0 : Int)) && true))) (
 .nb (((nc4_0 : Nat) : Int) - (1 : Int)) ((nc4_0 : Nat) : Int) <|
 .nd (decide (((0 : Nat) + (Int.toNat (((nc4_0 : Nat) : Int) - (1 : Int)))) < (b7).length)) <|
 .nb (((nc4_0 : Nat) : Int) - (1 : Int)) ((nc4_1 : Nat) : Int) <|
 .nd (decide (((0 : Nat) + (Int.toNat (((nc4_0 : Nat) : Int) - (1 : Int)))) < (b8).length)) <|
 .ret (.inl (y8.1, (nv50, (v51, (v52, (nc1_0, (y7.1.1, (y7.1.2, (((y8.2.1).set ((0 : Nat) + (Int.toNat ((b6).getD ((0 : Nat) + (Int.toNat v52)) ((((0 : Int), (0 : Int)), ((0 : Int), (0 : Int))), (0 : Int))).2)) (y9.1.1, y9.1.2)), (nc4_0, (nc4_1, (c5_0, (c5_1, (((b6).getD ((0 : Nat) + (Int.toNat v52)) ((((0 : Int), (0 : Int)), ((0 : Int), (0 : Int))), (0 : Int))).1.1.1, (((b6).getD ((0 : Nat) + (Int.toNat v52)) ((((0 : Int), (0 : Int)), ((0 : Int), (0 : Int))), (0 : Int))).1.1.2, (((b6).getD ((0 : Nat) + (Int.toNat v52)) ((((0 : Int), (0 : Int)), ((0 : Int), (0 : Int))), (0 : Int))).1.2.1, (((b6).getD ((0 : Nat) + (Int.toNat v52)) ((((0 : Int), (0 : Int)), ((0 : Int), (0 : Int))), (0 : Int))).1.2.2, (((b6).getD ((0 : Nat) + (Int.toNat v52)) ((((0 : Int), (0 : Int)), ((0 : Int), (0 : Int))), (0 : Int))).2, (b6, (((b7).set ((0 : Nat) + (Int.toNat (((nc4_0 : Nat) : Int) - (1 : Int)))) (y7.1.1, y7.1.2)), (((b8).set ((0 : Nat) + (Int.toNat (((nc4_0 : Nat) : Int) - (1 : Int)))) (((((y8.2.1).set ((0 : Nat) + (Int.toNat ((b6).getD ((0 : Nat) + (Int.toNat v52)) ((((0 : Int), (0 : Int)), ((0 : Int), (0 : Int))), (0 : Int))).2)) (y9.1.1, y9.1.2))).drop (0 : Nat)).take y8.1)), ())))))))))))))))))))))) (
 .nd (decide ((nc4_0 + ((((((y7.1.1, y7.1.2) :: [])).drop (0 : Nat)).take (1 : Nat))).length) < bigL)) <|
 .nd (decide ((nc4_1 + ((((((((((y8.2.1).set ((0 : Nat) + (Int.toNat ((b6).getD ((0 : Nat) + (Int.toNat v52)) ((((0 : Int), (0 : Int)), ((0 : Int), (0 : Int))), (0 : Int))).2)) (y9.1.1, y9.1.2))).drop (0 : Nat)).take y8.1) :: [])).drop (0 : Nat)).take (1 : Nat))).length) < bigL)) <|
 .ret (.inl (y8.1, (nv50, (v51, (v52, (nc1_0, (y7.1.1, (y7.1.2, (((y8.2.1).set ((0 : Nat) + (Int.toNat ((b6).getD ((0 : Nat) + (Int.toNat v52)) ((((0 : Int), (0 : Int)), ((0 : Int), (0 : Int))), (0 : Int))).2)) (y9.1.1, y9.1.2)), ((nc4_0 + ((((((y7.1.1, y7.1.2) :: [])).drop (0 : Nat)).take (1 : Nat))).length), ((nc4_1 + ((((((((((y8.2.1).set ((0 : Nat) + (Int.toNat ((b6).getD ((0 : Nat) + (Int.toNat v52)) ((((0 : Int), (0 : Int)), ((0 : Int), (0 : Int))), (0 : Int))).2)) (y9.1.1, y9.1.2))).drop (0 : Nat)).take y8.1) :: [])).drop (0 : Nat)).take (1 : Nat))).length), (c5_0, (c5_1, (((b6).getD ((0 : Nat) + (Int.toNat v52)) ((((0 : Int), (0 : Int)), ((0 : Int), (0 : Int))), (0 : Int))).1.1.1, (((b6).getD ((0 : Nat) + (Int.toNat v52)) ((((0 : Int), (0 : Int)), ((0 : Int), (0 : Int))), (0 : Int))).1.1.2, (((b6).getD ((0 : Nat) + (Int.toNat v52)) ((((0 : Int), (0 : Int)), ((0 : Int), (0 : Int))), (0 : Int))).1.2.1, (((b6).getD ((0 : Nat) + (Int.toNat v52)) ((((0 : Int), (0 : Int)), ((0 : Int), (0 : Int))), (0 : Int))).1.2.2, (((b6).getD ((0 : Nat) + (Int.toNat v52)) ((((0 : Int), (0 : Int)), ((0 : Int), (0 : Int))), (0 : Int))).2, (b6, (((((b7).drop (0 : Nat)).take nc4_0) ++ (((((y7.1.1, y7.1.2) :: [])).drop (0 : Nat)).take (1 : Nat))), (((((b8).drop (0 : Nat)).take nc4_1) ++ (((((((((y8.2.1).set ((0 : Nat) + (Int.toNat ((b6).getD ((0 : Nat) + (Int.toNat v52)) ((((0 : Int), (0 : Int)), ((0 : Int), (0 : Int))), (0 : Int))).2)) (y9.1.1, y9.1.2))).drop (0 : Nat)).take y8.1) :: [])).drop (0 : Nat)).take (1 : Nat))), ()))))))))))))))))))))))) (
 .nd (decide ((nc4_0 + ((((((y7.1.1, y7.1.2) :: [])).drop (0 : Nat)).take (1 : Nat))).length) < bigL)) <|
 .nd (decide ((nc4_1 + ((((((((((y8.2.1).set ((0 : Nat) + (Int.toNat ((b6).getD ((0 : Nat) + (Int.toNat v52)) ((((0 : Int), (0 : Int)), ((0 : Int), (0 : Int))), (0 : Int))).2)) (y9.1.1, y9.1.2))).drop (0 : Nat)).take y8.1) :: [])).drop (0 : Nat)).take (1 : Nat))).length) < bigL)) <|
 .ret (.inl (y8.1, (nv50, (v51, (v52, (nc1_0, (y7.1.1, (y7.1.2, (((y8.2.1).set ((0 : Nat) + (Int.toNat ((b6).getD ((0 : Nat) + (Int.toNat v52)) ((((0 : Int), (0 : Int)), ((0 : Int), (0 : Int))), (0 : Int))).2)) (y9.1.1, y9.1.2)), ((nc4_0 + ((((((y7.1.1, y7.1.2) :: [])).drop (0 : Nat)).take (1 : Nat))).length), ((nc4_1 + ((((((((((y8.2.1).set ((0 : Nat) + (Int.toNat ((b6).getD ((0 : Nat) + (Int.toNat v52)) ((((0 : Int), (0 : Int)), ((0 : Int), (0 : Int))), (0 : Int))).2)) (y9.1.1, y9.1.2))).drop (0 : Nat)).take y8.1) :: [])).drop (0 : Nat)).take (1 : Nat))).length), (c5_0, (c5_1, (((b6).getD ((0 : Nat) + (Int.toNat v52)) ((((0 : Int), (0 : Int)), ((0 : Int), (0 : Int))), (0 : Int))).1.1.1, (((b6).getD ((0 : Nat) + (Int.toNat v52)) ((((0 : Int), (0 : Int)), ((0 : Int), (0 : Int))), (0 : Int))).1.1.2, (((b6).getD ((0 : Nat) + (Int.toNat v52)) ((((0 : Int), (0 : Int)), ((0 : Int), (0 : Int))), (0 : Int))).1.2.1, (((b6).getD ((0 : Nat) + (Int.toNat v52)) ((((0 : Int), (0 : Int)), ((0 : Int), (0 : Int))), (0 : Int))).1.2.2, (((b6).getD ((0 : Nat) + (Int.toNat v52)) ((((0 : Int), (0 : Int)), ((0 : Int), (0 : Int))), (0 : Int))).2, (b6, (((((b7).drop (0 : Nat)).take nc4_0) ++ (((((y7.1.1, y7.1.2) :: [])).drop (0 : Nat)).take (1 : Nat))), (((((b8).drop (0 : Nat)).take nc4_1) ++ (((((((((y8.2.1).set ((0 : Nat) + (Int.toNat ((b6).getD ((0 : Nat) + (Int.toNat v52)) ((((0 : Int), (0 : Int)), ((0 : Int), (0 : Int))), (0 : Int))).2)) (y9.1.1, y9.1.2))).drop (0 : Nat)).take y8.1) :: [])).drop (0 : Nat)).take (1 : Nat))), ()))))))))))))))))))))))) (
 .nd (decide ((nc4_0 + ((((((y7.1.1, y7.1.2) :: [])).drop (0 : Nat)).take (1 : Nat))).length) < bigL)) <|
 .nd (decide ((nc4_1 + ((((((((((y8.2.1).set ((0 : Nat) + (Int.toNat ((b6).getD ((0 : Nat) + (Int.toNat v52)) ((((0 : Int), (0 : Int)), ((0 : Int), (0 : Int))), (0 : Int))).2)) (y9.1.1, y9.1.2))).drop (0 : Nat)).take y8.1) :: [])).drop (0 : Nat)).take (1 : Nat))).length) < bigL)) <|
 .ret (.inl (y8.1, (nv50, (v51, (v52, (nc1_0, (y7.1.1, (y7.1.2, (((y8.2.1).set ((0 : Nat) + (Int.toNat ((b6).getD ((0 : Nat) + (Int.toNat v52)) ((((0 : Int), (0 : Int)), ((0 : Int), (0 : Int))), (0 : Int))).2)) (y9.1.1, y9.1.2)), ((nc4_0 + ((((((y7.1.1, y7.1.2) :: [])).drop (0 : Nat)).take (1 : Nat))).length), ((nc4_1 + ((((((((((y8.2.1).set ((0 : Nat) + (Int.toNat ((b6).getD ((0 : Nat) + (Int.toNat v52)) ((((0 : Int), (0 : Int)), ((0 : Int), (0 : Int))), (0 : Int))).2)) (y9.1.1, y9.1.2))).drop (0 : Nat)).take y8.1) :: [])).drop (0 : Nat)).take (1 : Nat))).length), (c5_0, (c5_1, (((b6).getD ((0 : Nat) + (Int.toNat v52)) ((((0 : Int), (0 : Int)), ((0 : Int), (0 : Int))), (0 : Int))).1.1.1, (((b6).getD ((0 : Nat) + (Int.toNat v52)) ((((0 : Int), (0 : Int)), ((0 : Int), (0 : Int))), (0 : Int))).1.1.2, (((b6).getD ((0 : Nat) + (Int.toNat v52)) ((((0 : Int), (0 : Int)), ((0 : Int), (0 : Int))), (0 : Int))).1.2.1, (((b6).getD ((0 : Nat) + (Int.toNat v52)) ((((0 : Int), (0 : Int)), ((0 : Int), (0 : Int))), (0 : Int))).1.2.2, (((b6).getD ((0 : Nat) + (Int.toNat v52)) ((((0 : Int), (0 : Int)), ((0 : Int), (0 : Int))), (0 : Int))).2, (b6, (((((b7).drop (0 : Nat)).take nc4_0) ++ (((((y7.1.1, y7.1.2) :: [])).drop (0 : Nat)).take (1 : Nat))), (((((b8).drop (0 : Nat)).take nc4_1) ++ (((((((((y8.2.1).set ((0 : Nat) + (Int.toNat ((b6).getD ((0 : Nat) + (Int.toNat v52)) ((((0 : Int), (0 : Int)), ((0 : Int), (0 : Int))), (0 : Int))).2)) (y9.1.1, y9.1.2))).drop (0 : Nat)).take y8.1) :: [])).drop (0 : Nat)).take (1 : Nat))), ()))))))))))))))))))))))) fun j13 =>
 .ni (j13.2.2.2.1 + (1 : Int)) <|
 .ret (.inl (j13.1, (j13.2.1, (j13.2.2.1, ((j13.2.2.2.1 + (1 : Int)), (j13.2.2.2.2.1, (j13.2.2.2.2.2.1, (j13.2.2.2.2.2.2.1, (j13.2.2.2.2.2.2.2.1, (j13.2.2.2.2.2.2.2.2.1, (j13.2.2.2.2.2.2.2.2.2.1, (j13.2.2.2.2.2.2.2.2.2.2.2.2.2.2.1, (j13.2.2.2.2.2.2.2.2.2.2.2.2.2.2.2.1, (j13.2.2.2.2.2.2.2.2.2.2.2.2.2.2.2.2.2.1, (j13.2.2.2.2.2.2.2.2.2.2.2.2.2.2.2.2.2.2.1, (j13.2.2.2.2.2.2.2.2.2.2.2.2.2.2.2.2.2.2.2.1, ()))))))))))))))))) (
 .ret (.inr (nc1_0, (nc4_0, (nc4_1, (b6, (b7, (b8, ()))))))))
theorem s33_2 : ∀ x, roundE (kzO (p33_2.T ⊕ x33_2.T)) cx33 ar0 [] p33_2 x33_2 (b33_2) (fun y => some (.inl y)) (fun b => some (.inr b)) x = run0 (g33_2 x) := fun x => Eq.trans (b := run0 (flat (g33_2 x))) (by kernel_rfl) run_flat
noncomputable def L33_2 : LoopS prog 144 none 0 := mkLoop mixed cx33 cx33_ok [] rfl p33_2 x33_2 rfl (b33_2) (fun x => run0 (g33_2 x)) (s33_2)
noncomputable def dd33 : D prog 144 none 0 := dO [.l L33_0, .l L33_2] (kd prog f33) 0
noncomputable def F33 (a0 : List (List (Int × Int))) : Tr0 (((List (Int × Int)) × List (List (Int × Int))) × Unit) :=
 .bd (.it g33_0 ((0 : Nat), (a0, ((((a0).length : Nat) : Int), ((0 : Int), ((0 : Nat), ((0 : Int), ((0 : Int), ([], ([], ())))))))))) fun z5 =>
 .bd (FH50_v1 z5.2.1 z5.2.2.2.2.2.1) fun y6 =>
 .bd (.it g33_2 (z5.1, (z5.2.1, (((z5.2.1 : Nat) : Int), ((0 : Int), (z5.2.1, (z5.2.2.1, (z5.2.2.2.1, (z5.2.2.2.2.1, ((1 : Nat), ((1 : Nat), ((0 : Int), ((0 : Int), (y6.1, (((z5.2.2.1, z5.2.2.2.1) :: []), (((((z5.2.2.2.2.1).drop (0 : Nat)).take z5.1) :: []), ())))))))))))))))) fun z17 =>
 .br (decide ((0 : Int) < ((z17.1 : Nat) : Int))) (
 .ni (((z17.2.1 : Nat) : Int) - (1 : Int)) <|
 .nd (decide ((0 : Int) ≤ (0 : Int))) <|
 .nd (decide ((0 : Int) ≤ (((z17.2.1 : Nat) : Int) - (1 : Int)))) <|
 .nd (decide ((((z17.2.1 : Nat) : Int) - (1 : Int)) ≤ ((z17.2.1 : Nat) : Int))) <|
 .nd (decide ((0 : Int) ≤ (0 : Int))) <|
 .nd (decide ((0 : Int) ≤ (((z17.2.1 : Nat) : Int) - (1 : Int)))) <|
 .nd (decide ((((z17.2.1 : Nat) : Int) - (1 : Int)) ≤ ((z17.2.2.1 : Nat) : Int))) <|
 .ret (((((z17.2.2.2.2.1).drop ((0 : Nat) + (Int.toNat (0 : Int)))).take ((Int.toNat (((z17.2.1 : Nat) : Int) - (1 : Int))) - (Int.toNat (0 : Int)))), (((z17.2.2.2.2.2.1).drop ((0 : Nat) + (Int.toNat (0 : Int)))).take ((Int.toNat (((z17.2.1 : Nat) : Int) - (1 : Int))) - (Int.toNat (0 : Int))))), ())) (
 .ret (((((z17.2.2.2.2.1).drop (0 : Nat)).take z17.2.1), (((z17.2.2.2.2.2.1).drop (0 : Nat)).take z17.2.2.1)), ()))
theorem c33_ok : trF prog f33 = some ⟨144, 1, dd33.er, [.cell 2 true 2], [some (.prod (.list (.prod tI tI)) (.list (.list (.prod tI tI))))]⟩ := by kernel_rfl
noncomputable def ct33 : Ct := ⟨33, [.c (.hole (.list (.list (.prod tI tI))))], .c (.hole (.prod (.list (.prod tI tI)) (.list (.list (.prod tI tI))))), fun x => run0 (F33 x.1)⟩
theorem ct33_ok : ct33.Ok prog := ct_ok mixed cx33_ok func33 c33_ok (enters_of func33 rfl rfl) dd33 (by kernel_rfl) rfl (fun x => by kernel_rfl)

/- 16 -/
noncomputable def cx16 : Cx := (mkCxH [ct29, ct33] [])
theorem cx16_ok : cx16.Ok prog := mkCxH_ok ⟨ct29_ok, ct33_ok, trivial⟩ trivial
noncomputable def dd16 : D prog 13 none 0 := dO [] (kd prog f16) 0
noncomputable def F16 (a0 : List (List (Int × Int))) : Tr0 ((List (Int × Int)) × Int × Unit) :=
 .bd (F29 a0) fun y0 =>
 .br (!(y0.1 == (0 : Int))) (
 .ret ([], (y0.1, ()))) (
 .bd (F33 a0) fun y1 =>
 .ret (y1.1.1, ((0 : Int), ())))
theorem c16_ok : trF prog f16 = some ⟨13, 1, dd16.er, [.t 2, .t 3], [some (.list (.prod tI tI)), some tI]⟩ := by kernel_rfl
noncomputable def ct16 : Ct := ⟨16, [.c (.hole (.list (.list (.prod tI tI))))], .tup [.hole (.list (.prod tI tI)), .hole tI], fun x => run0 (F16 x.1)⟩
theorem ct16_ok : ct16.Ok prog := ct_ok mixed cx16_ok func16 c16_ok (enters_of func16 rfl rfl) dd16 (by kernel_rfl) rfl (fun x => by kernel_rfl)

/- 27 -/
noncomputable def cx27 : Cx := (mkCxH [] [])
theorem cx27_ok : cx27.Ok prog := mkCxH_ok trivial trivial
noncomputable def dd27 : D prog 6 none 0 := dO [] (kd prog f27) 0
noncomputable def F27 : Tr0 ((List (Int × Int)) × Unit) :=
 .ret (((((((0 : Int), (0 : Int)) :: (((10 : Int), (0 : Int)) :: (((10 : Int), (2 : Int)) :: (((4 : Int), (4 : Int)) :: []))))).drop (0 : Nat)).take (4 : Nat)), ())
theorem c27_ok : trF prog f27 = some ⟨6, 0, dd27.er, [.t 0], [some (.list (.prod tI tI))]⟩ := by kernel_rfl
noncomputable def ct27 : Ct := ⟨27, [], .c (.hole (.list (.prod tI tI))), fun x => run0 (F27)⟩
theorem ct27_ok : ct27.Ok prog := ct_ok mixed cx27_ok func27 c27_ok (enters_of func27 rfl rfl) dd27 (by kernel_rfl) rfl (fun x => by kernel_rfl)

/- 28 -/
noncomputable def cx28 : Cx := (mkCxH [] [])
theorem cx28_ok : cx28.Ok prog := mkCxH_ok trivial trivial
noncomputable def dd28 : D prog 5 none 0 := dO [] (kd prog f28) 0
noncomputable def F28 : Tr0 ((List (Int × Int)) × Unit) :=
 .ret (((((((0 : Int), (1 : Int)) :: (((3 : Int), (0 : Int)) :: (((3 : Int), (5 : Int)) :: [])))).drop (0 : Nat)).take (3 : Nat)), ())
theorem c28_ok : trF prog f28 = some ⟨5, 0, dd28.er, [.t 0], [some (.list (.prod tI tI))]⟩ := by kernel_rfl
noncomputable def ct28 : Ct := ⟨28, [], .c (.hole (.list (.prod tI tI))), fun x => run0 (F28)⟩
theorem ct28_ok : ct28.Ok prog := ct_ok mixed cx28_ok func28 c28_ok (enters_of func28 rfl rfl) dd28 (by kernel_rfl) rfl (fun x => by kernel_rfl)

/- 31 -/
noncomputable def cx31 : Cx := (mkCxH [ct29, ct41] [])
theorem cx31_ok : cx31.Ok prog := mkCxH_ok ⟨ct29_ok, ct41_ok, trivial⟩ trivial
noncomputable def dd31 : D prog 16 none 0 := dO [] (kd prog f31) 0
noncomputable def F31 (a0 : List (List (Int × Int))) (a1 : Int × Int) : Tr0 (Int × Unit) :=
 .bd (F29 a0) fun y0 =>
 .br (y0.1 == (0 : Int)) (
 .bd (F41 (a1.1, a1.2) (100000 : Int)) fun y1 =>
 .br (!y1.1) (
 .ret ((2 : Int), ())) (
 .ret (y0.1, ()))) (
 .ret (y0.1, ()))
theorem c31_ok : trF prog f31 = some ⟨16, 2, dd31.er, [.t 4], [some tI]⟩ := by kernel_rfl
noncomputable def ct31 : Ct := ⟨31, [.c (.hole (.list (.list (.prod tI tI)))), .c (.hole (.prod tI tI))], hI, fun x => run0 (F31 x.1 x.2.1)⟩
theorem ct31_ok : ct31.Ok prog := ct_ok mixed cx31_ok func31 c31_ok (enters_of func31 rfl rfl) dd31 (by kernel_rfl) rfl (fun x => by kernel_rfl)

/- 42, lent -/
@[reducible] def pH42 : Pat := Pat.mk [(0, hI), (1, hI), (2, .c (.ptr 0 0))] [(0, .cells [.hole tI, .hole tI] false)] [.slot 2] []
@[reducible] def qH42 : Pat := Pat.mk [(0, .c .any)] [(0, .cells [.hole tI, .hole tI] false)] [] []
noncomputable def cxH42 : Cx := (mkCxH [] [])
theorem cxH42_ok : cxH42.Ok prog := mkCxH_ok trivial trivial
noncomputable def ddH42 : D prog 14 none 1 := dO [] (kd prog f42) 0
noncomputable def FH42 (v0 : Int) (v1 : Int) (c0_0 : Int) (c0_1 : Int) : Tr0 (Int × Int × Unit) :=
 .ret ((imin c0_0 v0), ((imax c0_1 v1), ()))
theorem cH42_ok : trF prog f42 = some ⟨14, 3, ddH42.er, [], []⟩ := by kernel_rfl
noncomputable def ht42 : Ht := ⟨42, pH42, qH42, (fun x => run0 (FH42 x.1 x.2.1 x.2.2.1 x.2.2.2.1))⟩
theorem ht42_ok : ht42.Ok prog := ht_ok mixed cxH42_ok rfl func42 cH42_ok (enters_of func42 rfl rfl) ddH42 (by kernel_rfl) rfl rfl ⟨_, rfl⟩ rfl (pre := [0]) rfl (fun x => by kernel_rfl)

/- 43 -/
noncomputable def cx43 : Cx := (mkCxH [] [])
theorem cx43_ok : cx43.Ok prog := mkCxH_ok trivial trivial
noncomputable def dd43 : D prog 23 none 0 := dO [] (kd prog f43) 0
noncomputable def F43 (a0 : Int) (a1 : Int) : Tr0 (Int × Unit) :=
 .nd (!(a1 == (0 : Int))) <|
 .ni (Int.tdiv a0 a1) <|
 .nd (!(a1 == (0 : Int))) <|
 .br (!((Int.tmod a0 a1) == (0 : Int))) (
 .br (!((decide (a0 < (0 : Int))) == (decide (a1 < (0 : Int))))) (
 .ni ((Int.tdiv a0 a1) - (1 : Int)) <|
 .ret (((Int.tdiv a0 a1) - (1 : Int)), ())) (
 .ret ((Int.tdiv a0 a1), ()))) (
 .ret ((Int.tdiv a0 a1), ()))
theorem c43_ok : trF prog f43 = some ⟨23, 2, dd43.er, [.t 4], [some tI]⟩ := by kernel_rfl
noncomputable def ct43 : Ct := ⟨43, [hI, hI], hI, fun x => run0 (F43 x.1 x.2.1)⟩
theorem ct43_ok : ct43.Ok prog := ct_ok mixed cx43_ok func43 c43_ok (enters_of func43 rfl rfl) dd43 (by kernel_rfl) rfl (fun x => by kernel_rfl)

/- 22 -/
noncomputable def cx22 : Cx := (mkCxH [ct31, ct33, ct37, ct49, ct35, ct43] [ht42])
theorem cx22_ok : cx22.Ok prog := mkCxH_ok ⟨ct31_ok, ct33_ok, ct37_ok, ct49_ok, ct35_ok, ct43_ok, trivial⟩ ⟨⟨ht42_ok, rfl⟩, trivial⟩
@[reducible] def p22_0 : Pat := Pat.mk [(3, .c (.ptr 0 0)), (4, .c (.ptr 1 0)), (5, hI), (7, .c (.hole (.list (.prod tI tI)))), (8, .c (.ptr 2 0)), (9, .c (.ptr 3 0)), (29, .c (.hole (.list (.prod tI tI)))), (30, hI), (31, hI)] [(0, .cells [.hole tI] false), (1, .cells [.hole tI, .hole tI] false), (2, .cells [.hole tI, .hole tI] false), (3, .cells [.fn 42 .nil (.cons (.ptr 2 0) .nil)] false)] [.slot 3, .slot 4, .slot 8, .slot 9] []
@[reducible] def x22_0 : Outs := [(.exit 0, Pat.mk [(3, .c (.ptr 0 0)), (4, .c (.ptr 1 0)), (5, hI), (7, .c (.hole (.list (.prod tI tI)))), (8, .c (.ptr 2 0)), (9, .c (.ptr 3 0))] [(0, .cells [.hole tI] false), (1, .cells [.hole tI, .hole tI] false), (2, .cells [.hole tI, .hole tI] false), (3, .cells [.fn 42 .nil (.cons (.ptr 2 0) .nil)] false)] [.slot 3, .slot 4, .slot 8, .slot 9] [])]
noncomputable def b22_0 : D prog 100 none 0 := dO [] (pick (kd prog f22) [(0, false)]) 0
noncomputable def g22_0 : Int × (List (Int × Int)) × (List (Int × Int)) × Int × Int × Int × Int × Int × Int × Int × Unit → Tr0 ((Int × (List (Int × Int)) × (List (Int × Int)) × Int × Int × Int × Int × Int × Int × Int × Unit) ⊕ ((Int × (List (Int × Int)) × Int × Int × Int × Int × Int × Unit))) := fun (v5, v7, v29, v30, v31, c0_0, c1_0, c1_1, c2_0, c2_1, _) =>
 .br (decide (v31 < v30)) (
 .nb v31 (((v29).length : Nat) : Int) <|
 .br (((v29).getD (Int.toNat v31) ((0 : Int), (0 : Int))).2 == c0_0) (
 .bd (FH42 ((v29).getD (Int.toNat v31) ((0 : Int), (0 : Int))).1 ((v29).getD (Int.toNat v31) ((0 : Int), (0 : Int))).1 c2_0 c2_1) fun y2 =>
 .ni (v31 + (1 : Int)) <|
 .ret (.inl (v5, (v7, (v29, (v30, ((v31 + (1 : Int)), (c0_0, (c1_0, (c1_1, (y2.1, (y2.2.1, ())))))))))))) (
 .ni (v31 + (1 : Int)) <|
 .ret (.inl (v5, (v7, (v29, (v30, ((v31 + (1 : Int)), (c0_0, (c1_0, (c1_1, (c2_0, (c2_1, ()))))))))))))) (
 .ret (.inr (v5, (v7, (c0_0, (c1_0, (c1_1, (c2_0, (c2_1, ())))))))))
theorem s22_0 : ∀ x, roundE (kzO (p22_0.T ⊕ x22_0.T)) cx22 ar0 [] p22_0 x22_0 (b22_0) (fun y => some (.inl y)) (fun b => some (.inr b)) x = run0 (g22_0 x) := fun x => by kernel_rfl
noncomputable def L22_0 : LoopS prog 100 none 0 := mkLoop mixed cx22 cx22_ok [] rfl p22_0 x22_0 rfl (b22_0) (fun x => run0 (g22_0 x)) (s22_0)
noncomputable def ad22_1 : D prog 100 (some 5) 24 := dO [] (pick (kd prog f22) [(1, false)]) 0
noncomputable def bd22_1 : D prog 100 (some 5) 24 := dO [] (pick (kd prog f22) [(1, true)]) 0
noncomputable def cx22_1i : Cx := itCx cx22 (fun kz => rdK kz cx22 ar0 5 24 [48] (ad22_1) (bd22_1))
theorem cx22_1i_ok : (cx22_1i).Ok prog := itCx_ok cx22_ok (fun h => rdK_ok mixed cx22_ok h)
@[reducible] def p22_1i_0 : Pat := Pat.mk [(0, .c (.yl 5)), (1, .c (.ipc (.list (.prod tI tI)))), (5, .c (.hole (.list (.prod tI tI)))), (6, hI), (7, hI)] [(5, .loop .ready none 4 [(3, .c (.ptr 0 0)), (4, .c (.ptr 1 0)), (5, hI), (8, .c (.ptr 2 0)), (9, .c (.ptr 3 0)), (47, .fn 56 [] [.ipc (.list (.prod tI tI))])] [48] (.reg [.op (some 12) none (.alloc [.int .i64 (Int.ofNat 0), .int .i64 (Int.ofNat 0), .int .i64 (Int.ofNat 0), .int .i64 (Int.ofNat 0)]), .op none none (.store 4 (.t 12) (.t 48))]) (.block 3 (.seq (.reg [.op (some 49) none (.fld 0 [false] (.t 12)), .op (some 50) none (.load true 2 (.t 49)), .op (some 51) none (.fld 2 [true] (.t 12)), .op (some 52) none (.load true 2 (.t 51)), .call (some 53) none (.c (.fn 35 [] [])) [.t 50, .t 52] [some (.prod tI tI), some (.prod tI tI)], .op (some 13) none (.alloc [.int .i64 (Int.ofNat 0), .int .i64 (Int.ofNat 0)]), .op none none (.store 2 (.t 13) (.t 53))]) (.seq (.reg [.op (some 54) none (.fld 0 [false] (.t 12)), .op (some 55) none (.fld 1 [true] (.t 54)), .op (some 56) none (.load false 1 (.t 55)), .op (some 57) none (.load false 1 (.t 3)), .op (some 58) none (.bin .lss (.t 56) (.t 57)), .op (some 59) none (.fld 1 [true] (.t 13)), .op (some 60) none (.load false 1 (.t 59)), .op (some 61) none (.load false 1 (.t 3)), .op (some 62) none (.bin .lss (.t 60) (.t 61)), .op (some 63) none (.eqb true (.t 58) (.t 62))]) (.cond (.t 63) (.seq (.draw [[], [], [1], [1, 2], [0, 1, 2, 3], [], [5], [5, 6], [0, 1, 2, 3, 4, 5, 6, 7], [], [9], [9, 10], [0, 1, 2, 3, 4, 5, 6, 7, 8], [0, 1, 2, 3, 4, 5, 6, 7, 8, 9, 10, 11, 12]] [.op (some 64) none (.load false 1 (.t 3)), .op (some 65) none (.fld 0 [false] (.t 12)), .op (some 66) none (.fld 1 [true] (.t 65)), .op (some 67) none (.load false 1 (.t 66)), .op (some 68) none (.bin .sub (.t 64) (.t 67)), .op (some 69) none (.fld 2 [true] (.t 12)), .op (some 70) none (.fld 0 [false] (.t 69)), .op (some 71) none (.load false 1 (.t 70)), .op (some 72) none (.bin .mul (.t 68) (.t 71)), .op (some 73) none (.fld 2 [true] (.t 12)), .op (some 74) none (.fld 1 [true] (.t 73)), .op (some 75) none (.load false 1 (.t 74)), .op (some 14) none (.mv (.t 72)), .op (some 15) none (.mv (.t 75))]) (.seq (.draw [[], [], [1], [1, 2], [], [4], [], [4, 5, 6], [1, 2, 3, 4, 5, 6, 7], [], [9], [9, 10], [], [], [4, 5, 6, 7, 12, 13], [4, 5, 6, 7, 9, 10, 11, 12, 13, 14], [0, 1, 2, 3, 4, 5, 6, 7, 8, 9, 10, 11, 12, 13, 14, 15]] [.op (some 76) none (.load false 1 (.t 9)), .op (some 77) none (.fld 0 [false] (.t 12)), .op (some 78) none (.fld 0 [false] (.t 77)), .op (some 79) none (.load false 1 (.t 78)), .op (some 80) none (.mv (.t 14)), .op (some 81) none (.neg (.t 80)), .op (some 82) none (.mv (.t 15)), .call (some 83) none (.c (.fn 43 [] [])) [.t 81, .t 82] [some tI, some tI], .op (some 84) none (.bin .sub (.t 79) (.t 83)), .op (some 85) none (.fld 0 [false] (.t 12)), .op (some 86) none (.fld 0 [false] (.t 85)), .op (some 87) none (.load false 1 (.t 86)), .op (some 88) none (.mv (.t 14)), .op (some 89) none (.mv (.t 15)), .call (some 90) none (.c (.fn 43 [] [])) [.t 88, .t 89] [some tI, some tI], .op (some 91) none (.bin .add (.t 87) (.t 90))]) (.reg [.call (some 92) none (.t 76) [.t 84, .t 91] [some tI, some tI]]))) .skip)))) 100), (4, .dfr), (0, .cells [.hole tI] false), (1, .cells [.hole tI, .hole tI] false), (2, .cells [.hole tI, .hole tI] false), (3, .cells [.fn 42 .nil (.cons (.ptr 2 0) .nil)] false)] [] []
@[reducible] def x22_1i_0 : Outs := [(.exit 0, Pat.mk [] [(0, .cells [.hole tI] false), (1, .cells [.hole tI, .hole tI] false), (2, .cells [.hole tI, .hole tI] false), (3, .cells [.fn 42 .nil (.cons (.ptr 2 0) .nil)] false), (4, .dfr), (5, .loop .ready none 4 [(3, .c (.ptr 0 0)), (4, .c (.ptr 1 0)), (5, hI), (8, .c (.ptr 2 0)), (9, .c (.ptr 3 0)), (47, .fn 56 [] [.ipc (.list (.prod tI tI))])] [48] (.reg [.op (some 12) none (.alloc [.int .i64 (Int.ofNat 0), .int .i64 (Int.ofNat 0), .int .i64 (Int.ofNat 0), .int .i64 (Int.ofNat 0)]), .op none none (.store 4 (.t 12) (.t 48))]) (.block 3 (.seq (.reg [.op (some 49) none (.fld 0 [false] (.t 12)), .op (some 50) none (.load true 2 (.t 49)), .op (some 51) none (.fld 2 [true] (.t 12)), .op (some 52) none (.load true 2 (.t 51)), .call (some 53) none (.c (.fn 35 [] [])) [.t 50, .t 52] [some (.prod tI tI), some (.prod tI tI)], .op (some 13) none (.alloc [.int .i64 (Int.ofNat 0), .int .i64 (Int.ofNat 0)]), .op none none (.store 2 (.t 13) (.t 53))]) (.seq (.reg [.op (some 54) none (.fld 0 [false] (.t 12)), .op (some 55) none (.fld 1 [true] (.t 54)), .op (some 56) none (.load false 1 (.t 55)), .op (some 57) none (.load false 1 (.t 3)), .op (some 58) none (.bin .lss (.t 56) (.t 57)), .op (some 59) none (.fld 1 [true] (.t 13)), .op (some 60) none (.load false 1 (.t 59)), .op (some 61) none (.load false 1 (.t 3)), .op (some 62) none (.bin .lss (.t 60) (.t 61)), .op (some 63) none (.eqb true (.t 58) (.t 62))]) (.cond (.t 63) (.seq (.draw [[], [], [1], [1, 2], [0, 1, 2, 3], [], [5], [5, 6], [0, 1, 2, 3, 4, 5, 6, 7], [], [9], [9, 10], [0, 1, 2, 3, 4, 5, 6, 7, 8], [0, 1, 2, 3, 4, 5, 6, 7, 8, 9, 10, 11, 12]] [.op (some 64) none (.load false 1 (.t 3)), .op (some 65) none (.fld 0 [false] (.t 12)), .op (some 66) none (.fld 1 [true] (.t 65)), .op (some 67) none (.load false 1 (.t 66)), .op (some 68) none (.bin .sub (.t 64) (.t 67)), .op (some 69) none (.fld 2 [true] (.t 12)), .op (some 70) none (.fld 0 [false] (.t 69)), .op (some 71) none (.load false 1 (.t 70)), .op (some 72) none (.bin .mul (.t 68) (.t 71)), .op (some 73) none (.fld 2 [true] (.t 12)), .op (some 74) none (.fld 1 [true] (.t 73)), .op (some 75) none (.load false 1 (.t 74)), .op (some 14) none (.mv (.t 72)), .op (some 15) none (.mv (.t 75))]) (.seq (.draw [[], [], [1], [1, 2], [], [4], [], [4, 5, 6], [1, 2, 3, 4, 5, 6, 7], [], [9], [9, 10], [], [], [4, 5, 6, 7, 12, 13], [4, 5, 6, 7, 9, 10, 11, 12, 13, 14], [0, 1, 2, 3, 4, 5, 6, 7, 8, 9, 10, 11, 12, 13, 14, 15]] [.op (some 76) none (.load false 1 (.t 9)), .op (some 77) none (.fld 0 [false] (.t 12)), .op (some 78) none (.fld 0 [false] (.t 77)), .op (some 79) none (.load false 1 (.t 78)), .op (some 80) none (.mv (.t 14)), .op (some 81) none (.neg (.t 80)), .op (some 82) none (.mv (.t 15)), .call (some 83) none (.c (.fn 43 [] [])) [.t 81, .t 82] [some tI, some tI], .op (some 84) none (.bin .sub (.t 79) (.t 83)), .op (some 85) none (.fld 0 [false] (.t 12)), .op (some 86) none (.fld 0 [false] (.t 85)), .op (some 87) none (.load false 1 (.t 86)), .op (some 88) none (.mv (.t 14)), .op (some 89) none (.mv (.t 15)), .call (some 90) none (.c (.fn 43 [] [])) [.t 88, .t 89] [some tI, some tI], .op (some 91) none (.bin .add (.t 87) (.t 90))]) (.reg [.call (some 92) none (.t 76) [.t 84, .t 91] [some tI, some tI]]))) .skip)))) 100)] [] [])]
noncomputable def b22_1i_0 : D prog 33 none 6 := dO [] (pick (kd prog f56) [(0, false)]) 0
noncomputable def g22_1i_0 : (List (Int × Int)) × (List (Int × Int)) × Int × Int × Int × (List (Int × Int)) × Int × Int × Int × Int × Int × Unit → Tr0 (((List (Int × Int)) × (List (Int × Int)) × Int × Int × Int × (List (Int × Int)) × Int × Int × Int × Int × Int × Unit) ⊕ ((Int × Int × Int × Int × Int × Int × (List (Int × Int)) × Unit))) := fun (v1, v5, v6, v7, w5, w47_0, c0_0, c1_0, c1_1, c2_0, c2_1, _) =>
 .br (decide (v7 < v6)) (
 .nb v7 (((v5).length : Nat) : Int) <|
 .br (decide ((1 : Int) < (((v1).length : Nat) : Int))) (
 .ni (v7 + (1 : Int)) <|
 .nd (!((((v1).length : Nat) : Int) == (0 : Int))) <|
 .nb (Int.tmod (v7 + (1 : Int)) (((v1).length : Nat) : Int)) (((v1).length : Nat) : Int) <|
 .bd (F49 (((v1).getD (Int.toNat (Int.tmod (v7 + (1 : Int)) (((v1).length : Nat) : Int))) ((0 : Int), (0 : Int))).1, ((v1).getD (Int.toNat (Int.tmod (v7 + (1 : Int)) (((v1).length : Nat) : Int))) ((0 : Int), (0 : Int))).2) (((v5).getD (Int.toNat v7) ((0 : Int), (0 : Int))).1, ((v5).getD (Int.toNat v7) ((0 : Int), (0 : Int))).2)) fun y5 =>
 .bd (F35 (((v5).getD (Int.toNat v7) ((0 : Int), (0 : Int))).1, ((v5).getD (Int.toNat v7) ((0 : Int), (0 : Int))).2) (y5.1.1, y5.1.2)) fun y6 =>
 .br (!((decide (((v5).getD (Int.toNat v7) ((0 : Int), (0 : Int))).2 < c0_0)) == (decide (y6.1.2 < c0_0)))) (
 .ni (c0_0 - ((v5).getD (Int.toNat v7) ((0 : Int), (0 : Int))).2) <|
 .ni ((c0_0 - ((v5).getD (Int.toNat v7) ((0 : Int), (0 : Int))).2) * y5.1.1) <|
 .ni ((0 : Int) - ((c0_0 - ((v5).getD (Int.toNat v7) ((0 : Int), (0 : Int))).2) * y5.1.1)) <|
 .bd (F43 ((0 : Int) - ((c0_0 - ((v5).getD (Int.toNat v7) ((0 : Int), (0 : Int))).2) * y5.1.1)) y5.1.2) fun y7 =>
 .ni (((v5).getD (Int.toNat v7) ((0 : Int), (0 : Int))).1 - y7.1) <|
 .bd (F43 ((c0_0 - ((v5).getD (Int.toNat v7) ((0 : Int), (0 : Int))).2) * y5.1.1) y5.1.2) fun y8 =>
 .ni (((v5).getD (Int.toNat v7) ((0 : Int), (0 : Int))).1 + y8.1) <|
 .bd (FH42 (((v5).getD (Int.toNat v7) ((0 : Int), (0 : Int))).1 - y7.1) (((v5).getD (Int.toNat v7) ((0 : Int), (0 : Int))).1 + y8.1) c2_0 c2_1) fun y9 =>
 .ni (v7 + (1 : Int)) <|
 .ret (.inl (v1, (v5, (v6, ((v7 + (1 : Int)), (w5, (w47_0, (c0_0, (c1_0, (c1_1, (y9.1, (y9.2.1, ()))))))))))))) (
 .ni (v7 + (1 : Int)) <|
 .ret (.inl (v1, (v5, (v6, ((v7 + (1 : Int)), (w5, (w47_0, (c0_0, (c1_0, (c1_1, (c2_0, (c2_1, ())))))))))))))) (
 .ni (v7 + (1 : Int)) <|
 .ret (.inl (v1, (v5, (v6, ((v7 + (1 : Int)), (w5, (w47_0, (c0_0, (c1_0, (c1_1, (c2_0, (c2_1, ())))))))))))))) (
 .ret (.inr (c0_0, (c1_0, (c1_1, (c2_0, (c2_1, (w5, (w47_0, ())))))))))
theorem s22_1i_0 : ∀ x, roundE (kzO (p22_1i_0.T ⊕ x22_1i_0.T)) cx22_1i ar0 [0, 1, 2, 3, 4, 5] p22_1i_0 x22_1i_0 (b22_1i_0) (fun y => some (.inl y)) (fun b => some (.inr b)) x = run0 (g22_1i_0 x) := fun x => by kernel_rfl
noncomputable def L22_1i_0 : LoopS prog 33 none 6 := mkLoop mixed cx22_1i cx22_1i_ok [0, 1, 2, 3, 4, 5] rfl p22_1i_0 x22_1i_0 rfl (b22_1i_0) (fun x => run0 (g22_1i_0 x)) (s22_1i_0)
@[reducible] def p22_1 : Pat := Pat.mk [(3, .c (.ptr 0 0)), (4, .c (.ptr 1 0)), (5, hI), (8, .c (.ptr 2 0)), (9, .c (.ptr 3 0)), (47, .fn 56 [] [.ipc (.list (.prod tI tI))])] [(0, .cells [.hole tI] false), (1, .cells [.hole tI, .hole tI] false), (2, .cells [.hole tI, .hole tI] false), (3, .cells [.fn 42 .nil (.cons (.ptr 2 0) .nil)] false)] [.slot 3, .slot 4, .slot 8, .slot 9] []
@[reducible] def x22_1 : Outs := [(.normal, Pat.mk [(4, .c (.ptr 0 0)), (8, .c (.ptr 1 0))] [(0, .cells [.hole tI, .hole tI] false), (1, .cells [.hole tI, .hole tI] false)] [.slot 4, .slot 8] [])]
noncomputable def b22_1i : D prog 33 none 6 := dO [.l L22_1i_0] (kd prog f56) 0
theorem ci22_1 : trF prog f56 = some ⟨33, 2, (b22_1i).er, [], []⟩ := by kernel_rfl
noncomputable def g22_1 : Int × (List (Int × Int)) × Int × Int × Int × Int × Int × Unit → Tr0 ((Int × Int × Int × Int × Unit)) := fun (v5, v47_0, c0_0, c1_0, c1_1, c2_0, c2_1, _) =>
 .bd (.it g22_1i_0 (v47_0, (v47_0, ((((v47_0).length : Nat) : Int), ((0 : Int), (v5, (v47_0, (c0_0, (c1_0, (c1_1, (c2_0, (c2_1, ())))))))))))) fun z10 =>
 .ret ((z10.2.1, (z10.2.2.1, (z10.2.2.2.1, (z10.2.2.2.2.1, ())))))
theorem s22_1 : ∀ x, rangeE (N := 100) (out := none) (base := 0) (kzO x22_1.T) cx22_1i ar0 [] p22_1 x22_1 ( .t 47) [48] (ad22_1).er (bd22_1).er [] 2 56 (b22_1i) some x = run0 (g22_1 x) := fun x => by kernel_rfl
noncomputable def R22_1 : RangeS prog 100 none 0 := mkRange mixed cx22_1i cx22_1i_ok [] rfl p22_1 x22_1 ( .t 47) [48] rfl (ad22_1).er (bd22_1).er 56 func56 (ci22_1) (enters_of func56 rfl rfl) 6 rfl (b22_1i) rfl (fun x => run0 (g22_1 x)) (s22_1)
noncomputable def dd22 : D prog 100 none 0 := dO [.l L22_0, .r R22_1] (kd prog f22) 0
noncomputable def F22 (a0 : List (List (Int × Int))) (a1 : Int) : Tr0 ((Int × Int) × Int × Unit) :=
 .bd (F31 a0 ((0 : Int), a1)) fun y0 =>
 .br (!(y0.1 == (0 : Int))) (
 .ret (((0 : Int), (0 : Int)), (y0.1, ()))) (
 .bd (F33 a0) fun y1 =>
 .bd (.it g22_0 ((0 : Int), (y1.1.1, (y1.1.1, ((((y1.1.1).length : Nat) : Int), ((0 : Int), (a1, ((0 : Int), ((0 : Int), ((1125899906842624 : Int), ((-1125899906842624 : Int), ()))))))))))) fun z3 =>
 .bd (F37 z3.2.1) fun y4 =>
 .bd (g22_1 (z3.1, (y4.1, (z3.2.2.1, (z3.2.2.2.1, (z3.2.2.2.2.1, (z3.2.2.2.2.2.1, (z3.2.2.2.2.2.2.1, ())))))))) fun z11 =>
 .br (decide (z11.2.2.2.1 < z11.2.2.1)) (
 .ret (((0 : Int), (0 : Int)), ((5 : Int), ()))) (
 .ret ((z11.2.2.1, z11.2.2.2.1), ((0 : Int), ()))))
theorem c22_ok : trF prog f22 = some ⟨100, 2, dd22.er, [.cell 4 true 2, .t 5], [some (.prod tI tI), some tI]⟩ := by kernel_rfl
noncomputable def ct22 : Ct := ⟨22, [.c (.hole (.list (.list (.prod tI tI)))), hI], .tup [.hole (.prod tI tI), .hole tI], fun x => run0 (F22 x.1 x.2.1)⟩
theorem ct22_ok : ct22.Ok prog := ct_ok mixed cx22_ok func22 c22_ok (enters_of func22 rfl rfl) dd22 (by kernel_rfl) rfl (fun x => by kernel_rfl)

/- 23 -/
noncomputable def cx23 : Cx := (mkCxH [] [])
theorem cx23_ok : cx23.Ok prog := mkCxH_ok trivial trivial
@[reducible] def p23_0 : Pat := Pat.mk [(0, .c (.hole (.list (.prod tI tI)))), (1, .c (.hole (.list (.prod tI tI)))), (5, hI)] [] [] []
@[reducible] def x23_0 : Outs := [(.ret, Pat.mk [(4, .c (.tf false))] [] [] []), (.exit 0, Pat.mk [] [] [] [])]
noncomputable def b23_0 : D prog 26 none 0 := dO [] (pick (kd prog f23) [(0, false)]) 0
noncomputable def g23_0 : (List (Int × Int)) × (List (Int × Int)) × Int × Unit → Tr0 (((List (Int × Int)) × (List (Int × Int)) × Int × Unit) ⊕ ((Unit) ⊕ ((Unit)))) := fun (v0, v1, v5, _) =>
 .br (decide (v5 < (((v0).length : Nat) : Int))) (
 .nb v5 (((v0).length : Nat) : Int) <|
 .nb v5 (((v1).length : Nat) : Int) <|
 .br (!((((v0).getD (Int.toNat v5) ((0 : Int), (0 : Int))).1 == ((v1).getD (Int.toNat v5) ((0 : Int), (0 : Int))).1) && ((((v0).getD (Int.toNat v5) ((0 : Int), (0 : Int))).2 == ((v1).getD (Int.toNat v5) ((0 : Int), (0 : Int))).2) && true))) (
 .ret (.inr <| .inl <| ())) (
 .ni (v5 + (1 : Int)) <|
 .ret (.inl (v0, (v1, ((v5 + (1 : Int)), ())))))) (
 .ret (.inr <| .inr <| ()))
theorem s23_0 : ∀ x, roundE (kzO (p23_0.T ⊕ x23_0.T)) cx23 ar0 [] p23_0 x23_0 (b23_0) (fun y => some (.inl y)) (fun b => some (.inr b)) x = run0 (g23_0 x) := fun x => by kernel_rfl
noncomputable def L23_0 : LoopS prog 26 none 0 := mkLoop mixed cx23 cx23_ok [] rfl p23_0 x23_0 rfl (b23_0) (fun x => run0 (g23_0 x)) (s23_0)
noncomputable def dd23 : D prog 26 none 0 := dO [.l L23_0] (kd prog f23) 0
noncomputable def F23 (a0 : List (Int × Int)) (a1 : List (Int × Int)) : Tr0 (Bool × Unit) :=
 .br (!((((a0).length : Nat) : Int) == (((a1).length : Nat) : Int))) (
 .ret (false, ())) (
 .bd (.it g23_0 (a0, (a1, ((0 : Int), ())))) fun z0 =>
 .sm z0 (fun z1 =>
 .ret (false, ())) fun z2 =>
 .ret (true, ()))
theorem c23_ok : trF prog f23 = some ⟨26, 2, dd23.er, [.t 4], [some .bool]⟩ := by kernel_rfl
noncomputable def ct23 : Ct := ⟨23, [.c (.hole (.list (.prod tI tI))), .c (.hole (.list (.prod tI tI)))], .c (.hole .bool), fun x => run0 (F23 x.1 x.2.1)⟩
theorem ct23_ok : ct23.Ok prog := ct_ok mixed cx23_ok func23 c23_ok (enters_of func23 rfl rfl) dd23 (by kernel_rfl) rfl (fun x => by kernel_rfl)

/- 40 -/
noncomputable def cx40 : Cx := (mkCxH [ct29, ct59] [])
theorem cx40_ok : cx40.Ok prog := mkCxH_ok ⟨ct29_ok, ct59_ok, trivial⟩ trivial
noncomputable def dd40 : D prog 23 none 0 := dO [] (kd prog f40) 0
noncomputable def F40 (a0 : List (List (Int × Int))) (a1 : Int) (a2 : Int) : Tr0 (Int × Unit) :=
 .bd (F29 a0) fun y0 =>
 .br (y0.1 == (0 : Int)) (
 .bd (F59 a1 (100000 : Int)) fun y1 =>
 .br (!y1.1) (
 .ret ((2 : Int), ())) (
 .bd (F59 a2 (100000 : Int)) fun y2 =>
 .br (!y2.1) (
 .ret ((2 : Int), ())) (
 .ret (y0.1, ())))) (
 .ret (y0.1, ()))
theorem c40_ok : trF prog f40 = some ⟨23, 3, dd40.er, [.t 6], [some tI]⟩ := by kernel_rfl
noncomputable def ct40 : Ct := ⟨40, [.c (.hole (.list (.list (.prod tI tI)))), hI, hI], hI, fun x => run0 (F40 x.1 x.2.1 x.2.2.1)⟩
theorem ct40_ok : ct40.Ok prog := ct_ok mixed cx40_ok func40 c40_ok (enters_of func40 rfl rfl) dd40 (by kernel_rfl) rfl (fun x => by kernel_rfl)

/- 38 -/
noncomputable def cx38 : Cx := (mkCxH [] [])
theorem cx38_ok : cx38.Ok prog := mkCxH_ok trivial trivial
noncomputable def dd38 : D prog 6 none 0 := dO [] (kd prog f38) 0
noncomputable def F38 (a0 : Int) (a1 : Int) : Tr0 (Int × Int × Unit) :=
 .ret (a0, (a1, ()))
theorem c38_ok : trF prog f38 = some ⟨6, 2, dd38.er, [.t 4], [none]⟩ := by kernel_rfl
noncomputable def ct38 : Ct := ⟨38, [hI, hI], .fn 57 [] [.ipc tI, .ipc tI], fun x => run0 (F38 x.1 x.2.1)⟩
theorem ct38_ok : ct38.Ok prog := ct_ok mixed cx38_ok func38 c38_ok (enters_of func38 rfl rfl) dd38 (by kernel_rfl) rfl (fun x => by kernel_rfl)

/- 57 -/
noncomputable def cx57 : Cx := (mkCxH [] [])
theorem cx57_ok : cx57.Ok prog := mkCxH_ok trivial trivial
noncomputable def dd57 : D prog 14 none 0 := dO [] (kd prog f57) 0
noncomputable def F57 (a0 : Int × Int) (a1 : Int) (a2 : Int) : Tr0 (Int × Unit) :=
 .ni (a1 * a0.1) <|
 .ni (a2 * a0.2) <|
 .ni ((a1 * a0.1) + (a2 * a0.2)) <|
 .ret (((a1 * a0.1) + (a2 * a0.2)), ())
theorem c57_ok : trF prog f57 = some ⟨14, 3, dd57.er, [.t 4], [some tI]⟩ := by kernel_rfl
noncomputable def ct57 : Ct := ⟨57, [.c (.hole (.prod tI tI)), .c (.ipc tI), .c (.ipc tI)], hI, fun x => run0 (F57 x.1 x.2.1 x.2.2.1)⟩
theorem ct57_ok : ct57.Ok prog := ct_ok mixed cx57_ok func57 c57_ok (enters_of func57 rfl rfl) dd57 (by kernel_rfl) rfl (fun x => by kernel_rfl)

/- 58 -/
noncomputable def cx58 : Cx := (mkCxH [ct57] [])
theorem cx58_ok : cx58.Ok prog := mkCxH_ok ⟨ct57_ok, trivial⟩ trivial
@[reducible] def p58_0 : Pat := Pat.mk [(0, .fn 57 [] [.ipc tI, .ipc tI]), (7, hI), (13, .c (.hole (.list (.prod tI tI)))), (14, hI), (15, hI)] [] [] []
@[reducible] def x58_0 : Outs := [(.exit 0, Pat.mk [(7, hI)] [] [] [])]
noncomputable def b58_0 : D prog 26 none 0 := dO [] (pick (kd prog f58) [(0, false)]) 0
noncomputable def g58_0 : Int × Int × Int × (List (Int × Int)) × Int × Int × Unit → Tr0 ((Int × Int × Int × (List (Int × Int)) × Int × Int × Unit) ⊕ ((Int × Unit))) := fun (v0_0, v0_1, v7, v13, v14, v15, _) =>
 .br (decide (v15 < v14)) (
 .nb v15 (((v13).length : Nat) : Int) <|
 .bd (F57 (((v13).getD (Int.toNat v15) ((0 : Int), (0 : Int))).1, ((v13).getD (Int.toNat v15) ((0 : Int), (0 : Int))).2) v0_0 v0_1) fun y1 =>
 .ni (v15 + (1 : Int)) <|
 .ret (.inl (v0_0, (v0_1, ((imax v7 y1.1), (v13, (v14, ((v15 + (1 : Int)), ())))))))) (
 .ret (.inr (v7, ())))
theorem s58_0 : ∀ x, roundE (kzO (p58_0.T ⊕ x58_0.T)) cx58 ar0 [] p58_0 x58_0 (b58_0) (fun y => some (.inl y)) (fun b => some (.inr b)) x = run0 (g58_0 x) := fun x => by kernel_rfl
noncomputable def L58_0 : LoopS prog 26 none 0 := mkLoop mixed cx58 cx58_ok [] rfl p58_0 x58_0 rfl (b58_0) (fun x => run0 (g58_0 x)) (s58_0)
noncomputable def dd58 : D prog 26 none 0 := dO [.l L58_0] (kd prog f58) 0
noncomputable def F58 (a0_0 : Int) (a0_1 : Int) (a1 : Int × Int) (a2 : List (Int × Int)) : Tr0 (Int × Unit) :=
 .bd (F57 (a1.1, a1.2) a0_0 a0_1) fun y0 =>
 .bd (.it g58_0 (a0_0, (a0_1, (y0.1, (a2, ((((a2).length : Nat) : Int), ((0 : Int), ()))))))) fun z2 =>
 .ret (z2.1, ())
theorem c58_ok : trF prog f58 = some ⟨26, 3, dd58.er, [.t 6], [some tI]⟩ := by kernel_rfl
noncomputable def ct58 : Ct := ⟨58, [.fn 57 [] [.ipc tI, .ipc tI], .c (.hole (.prod tI tI)), .c (.hole (.list (.prod tI tI)))], hI, fun x => run0 (F58 x.1 x.2.1 x.2.2.1 x.2.2.2.1)⟩
theorem ct58_ok : ct58.Ok prog := ct_ok mixed cx58_ok func58 c58_ok (enters_of func58 rfl rfl) dd58 (by kernel_rfl) rfl (fun x => by kernel_rfl)

/- 39 -/
noncomputable def cx39 : Cx := (mkCxH [ct38, ct58] [])
theorem cx39_ok : cx39.Ok prog := mkCxH_ok ⟨ct38_ok, ct58_ok, trivial⟩ trivial
@[reducible] def p39_0 : Pat := Pat.mk [(1, hI), (2, hI), (7, hI), (10, .c (.hole (.list (.list (.prod tI tI))))), (11, hI), (12, hI)] [] [] []
@[reducible] def x39_0 : Outs := [(.exit 0, Pat.mk [(7, hI)] [] [] [])]
noncomputable def b39_0 : D prog 28 none 0 := dO [] (pick (kd prog f39) [(0, false)]) 0
noncomputable def g39_0 : Int × Int × Int × (List (List (Int × Int))) × Int × Int × Unit → Tr0 ((Int × Int × Int × (List (List (Int × Int))) × Int × Int × Unit) ⊕ ((Int × Unit))) := fun (v1, v2, v7, v10, v11, v12, _) =>
 .br (decide (v12 < v11)) (
 .nb v12 (((v10).length : Nat) : Int) <|
 .bd (F38 v1 v2) fun y0 =>
 .nb (0 : Int) (((((v10).getD (Int.toNat v12) [])).length : Nat) : Int) <|
 .bd (F58 y0.1 y0.2.1 (((((v10).getD (Int.toNat v12) [])).getD (Int.toNat (0 : Int)) ((0 : Int), (0 : Int))).1, ((((v10).getD (Int.toNat v12) [])).getD (Int.toNat (0 : Int)) ((0 : Int), (0 : Int))).2) ((v10).getD (Int.toNat v12) [])) fun y1 =>
 .ni (v7 + y1.1) <|
 .ni (v12 + (1 : Int)) <|
 .ret (.inl (v1, (v2, ((v7 + y1.1), (v10, (v11, ((v12 + (1 : Int)), ())))))))) (
 .ret (.inr (v7, ())))
theorem s39_0 : ∀ x, roundE (kzO (p39_0.T ⊕ x39_0.T)) cx39 ar0 [] p39_0 x39_0 (b39_0) (fun y => some (.inl y)) (fun b => some (.inr b)) x = run0 (g39_0 x) := fun x => by kernel_rfl
noncomputable def L39_0 : LoopS prog 28 none 0 := mkLoop mixed cx39 cx39_ok [] rfl p39_0 x39_0 rfl (b39_0) (fun x => run0 (g39_0 x)) (s39_0)
noncomputable def dd39 : D prog 28 none 0 := dO [.l L39_0] (kd prog f39) 0
noncomputable def F39 (a0 : List (List (Int × Int))) (a1 : Int) (a2 : Int) : Tr0 (Int × Unit) :=
 .bd (.it g39_0 (a1, (a2, ((0 : Int), (a0, ((((a0).length : Nat) : Int), ((0 : Int), ()))))))) fun z2 =>
 .ret (z2.1, ())
theorem c39_ok : trF prog f39 = some ⟨28, 3, dd39.er, [.t 6], [some tI]⟩ := by kernel_rfl
noncomputable def ct39 : Ct := ⟨39, [.c (.hole (.list (.list (.prod tI tI)))), hI, hI], hI, fun x => run0 (F39 x.1 x.2.1 x.2.2.1)⟩
theorem ct39_ok : ct39.Ok prog := ct_ok mixed cx39_ok func39 c39_ok (enters_of func39 rfl rfl) dd39 (by kernel_rfl) rfl (fun x => by kernel_rfl)

/- 17 -/
noncomputable def cx17 : Cx := (mkCxH [ct31, ct40, ct38, ct57, ct39] [])
theorem cx17_ok : cx17.Ok prog := mkCxH_ok ⟨ct31_ok, ct40_ok, ct38_ok, ct57_ok, ct39_ok, trivial⟩ trivial
noncomputable def dd17 : D prog 34 none 0 := dO [] (kd prog f17) 0
noncomputable def F17 (a0 : List (List (Int × Int))) (a1 : Int × Int) (a2 : Int) (a3 : Int) : Tr0 (Int × Unit) :=
 .bd (F31 a0 (a1.1, a1.2)) fun y0 =>
 .br (!(y0.1 == (0 : Int))) (
 .ret (y0.1, ())) (
 .bd (F40 a0 a2 a3) fun y1 =>
 .br (!(y1.1 == (0 : Int))) (
 .ret (y1.1, ())) (
 .bd (F38 a2 a3) fun y2 =>
 .bd (F57 (a1.1, a1.2) y2.1 y2.2.1) fun y3 =>
 .bd (F39 a0 a2 a3) fun y4 =>
 .br (decide (y3.1 ≤ y4.1)) (
 .ret ((11 : Int), ())) (
 .ret ((0 : Int), ()))))
theorem c17_ok : trF prog f17 = some ⟨34, 4, dd17.er, [.t 8], [some tI]⟩ := by kernel_rfl
noncomputable def ct17 : Ct := ⟨17, [.c (.hole (.list (.list (.prod tI tI)))), .c (.hole (.prod tI tI)), hI, hI], hI, fun x => run0 (F17 x.1 x.2.1 x.2.2.1 x.2.2.2.1)⟩
theorem ct17_ok : ct17.Ok prog := ct_ok mixed cx17_ok func17 c17_ok (enters_of func17 rfl rfl) dd17 (by kernel_rfl) rfl (fun x => by kernel_rfl)

/- 21 -/
noncomputable def cx21 : Cx := (mkCxH [ct40, ct39] [])
theorem cx21_ok : cx21.Ok prog := mkCxH_ok ⟨ct40_ok, ct39_ok, trivial⟩ trivial
noncomputable def dd21 : D prog 20 none 0 := dO [] (kd prog f21) 0
noncomputable def F21 (a0 : List (List (Int × Int))) (a1 : Int) (a2 : Int) : Tr0 (Int × Int × Unit) :=
 .bd (F40 a0 a1 a2) fun y0 =>
 .br (!(y0.1 == (0 : Int))) (
 .ret ((0 : Int), (y0.1, ()))) (
 .bd (F39 a0 a1 a2) fun y1 =>
 .ret (y1.1, ((0 : Int), ())))
theorem c21_ok : trF prog f21 = some ⟨20, 3, dd21.er, [.t 6, .t 7], [some tI, some tI]⟩ := by kernel_rfl
noncomputable def ct21 : Ct := ⟨21, [.c (.hole (.list (.list (.prod tI tI)))), hI, hI], .tup [.hole tI, .hole tI], fun x => run0 (F21 x.1 x.2.1 x.2.2.1)⟩
theorem ct21_ok : ct21.Ok prog := ct_ok mixed cx21_ok func21 c21_ok (enters_of func21 rfl rfl) dd21 (by kernel_rfl) rfl (fun x => by kernel_rfl)

/- 36 -/
noncomputable def cx36 : Cx := (mkCxH [] [])
theorem cx36_ok : cx36.Ok prog := mkCxH_ok trivial trivial
noncomputable def dd36 : D prog 14 none 0 := dO [] (kd prog f36) 0
noncomputable def F36 (a0 : Int × Int) (a1 : Int) : Tr0 ((Int × Int) × Unit) :=
 .ni (a1 * a0.1) <|
 .ni (a1 * a0.2) <|
 .ret (((a1 * a0.1), (a1 * a0.2)), ())
theorem c36_ok : trF prog f36 = some ⟨14, 2, dd36.er, [.cell 4 true 2], [some (.prod tI tI)]⟩ := by kernel_rfl
noncomputable def ct36 : Ct := ⟨36, [.c (.hole (.prod tI tI)), hI], .c (.hole (.prod tI tI)), fun x => run0 (F36 x.1 x.2.1)⟩
theorem ct36_ok : ct36.Ok prog := ct_ok mixed cx36_ok func36 c36_ok (enters_of func36 rfl rfl) dd36 (by kernel_rfl) rfl (fun x => by kernel_rfl)

/- 32 -/
noncomputable def cx32 : Cx := (mkCxH [ct36, ct37, ct49, ct48] [])
theorem cx32_ok : cx32.Ok prog := mkCxH_ok ⟨ct36_ok, ct37_ok, ct49_ok, ct48_ok, trivial⟩ trivial
noncomputable def ad32_0 : D prog 97 (some 6) 25 := dO [] (pick (kd prog f32) [(0, false)]) 0
noncomputable def bd32_0 : D prog 97 (some 6) 25 := dO [] (pick (kd prog f32) [(0, true)]) 0
noncomputable def cx32_0i : Cx := itCx cx32 (fun kz => rdK kz cx32 ar0 6 25 [28] (ad32_0) (bd32_0))
theorem cx32_0i_ok : (cx32_0i).Ok prog := itCx_ok cx32_ok (fun h => rdK_ok mixed cx32_ok h)
@[reducible] def p32_0i_0 : Pat := Pat.mk [(0, .c (.yl 6)), (1, .c (.ipc (.list (.prod tI tI)))), (5, .c (.hole (.list (.prod tI tI)))), (6, hI), (7, hI)] [(6, .loop .ready none 5 [(4, .c (.ptr 0 0)), (5, .c (.ptr 1 0)), (6, .c (.ptr 2 0)), (7, .c (.ptr 3 0)), (8, .c (.ptr 4 0)), (27, .fn 56 [] [.ipc (.list (.prod tI tI))])] [28] (.reg [.op (some 9) none (.alloc [.int .i64 (Int.ofNat 0), .int .i64 (Int.ofNat 0), .int .i64 (Int.ofNat 0), .int .i64 (Int.ofNat 0)]), .op none none (.store 4 (.t 9) (.t 28))]) (.block 1 (.seq (.seq (.seq (.draw [[], [0], [], [], [3], [], [3, 4, 5], [2, 3, 4, 5, 6], [0, 1, 2, 3, 4, 5, 6, 7], [0, 1, 2, 3, 4, 5, 6, 7, 8]] [.op (some 29) none (.fld 2 [true] (.t 9)), .op (some 30) none (.load true 2 (.t 29)), .op (some 31) none (.load true 2 (.t 4)), .op (some 32) none (.fld 0 [false] (.t 9)), .op (some 33) none (.load true 2 (.t 32)), .op (some 34) none (.load false 1 (.t 5)), .call (some 35) none (.c (.fn 36 [] [])) [.t 33, .t 34] [some (.prod tI tI), some tI], .call (some 36) none (.c (.fn 49 [] [])) [.t 31, .t 35] [some (.prod tI tI), some (.prod tI tI)]]) (.reg [.call (some 37) none (.c (.fn 48 [] [])) [.t 30, .t 36] [some (.prod tI tI), some (.prod tI tI)], .op (some 38) none (.bin .lss (.t 37) (.c (.int .i64 (Int.ofNat 0))))])) (.cond (.t 38) (.seq (.reg [.op none none (.store 1 (.t 6) (.c (.tf false)))]) .ret) .skip)) (.seq (.reg [.op (some 39) none (.fld 0 [false] (.t 7)), .op (some 40) none (.load false 1 (.t 39)), .op (some 41) none (.fld 0 [false] (.t 9)), .op (some 42) none (.fld 0 [false] (.t 41)), .op (some 43) none (.load false 1 (.t 42)), .op (some 44) none (.minmax false (.t 40) [.t 43]), .op (some 45) none (.fld 1 [true] (.t 7)), .op (some 46) none (.load false 1 (.t 45)), .op (some 47) none (.fld 0 [false] (.t 9)), .op (some 48) none (.fld 1 [true] (.t 47)), .op (some 49) none (.load false 1 (.t 48)), .op (some 50) none (.minmax false (.t 46) [.t 49]), .op (some 51) none (.build [.int .i64 (Int.ofNat 0), .int .i64 (Int.ofNat 0)] [(0, 1, .t 44), (1, 1, .t 50)]), .op none none (.store 2 (.t 7) (.t 51))]) (.reg [.op (some 52) none (.fld 0 [false] (.t 8)), .op (some 53) none (.load false 1 (.t 52)), .op (some 54) none (.fld 0 [false] (.t 9)), .op (some 55) none (.fld 0 [false] (.t 54)), .op (some 56) none (.load false 1 (.t 55)), .op (some 57) none (.minmax true (.t 53) [.t 56]), .op (some 58) none (.fld 1 [true] (.t 8)), .op (some 59) none (.load false 1 (.t 58)), .op (some 60) none (.fld 0 [false] (.t 9)), .op (some 61) none (.fld 1 [true] (.t 60)), .op (some 62) none (.load false 1 (.t 61)), .op (some 63) none (.minmax true (.t 59) [.t 62]), .op (some 64) none (.build [.int .i64 (Int.ofNat 0), .int .i64 (Int.ofNat 0)] [(0, 1, .t 57), (1, 1, .t 63)]), .op none none (.store 2 (.t 8) (.t 64))])))) 97), (5, .dfr), (0, .cells [.hole tI, .hole tI] false), (1, .cells [.hole tI] false), (2, .cells [.tf false] false), (3, .cells [.hole tI, .hole tI] false), (4, .cells [.hole tI, .hole tI] false)] [] []
@[reducible] def x32_0i_0 : Outs := [(.ret, Pat.mk [] [(0, .cells [.hole tI, .hole tI] false), (1, .cells [.hole tI] false), (2, .cells [.tf false] false), (3, .cells [.hole tI, .hole tI] false), (4, .cells [.hole tI, .hole tI] false), (5, .dfr), (6, .loop .done (some .ret) 5 [(4, .c (.ptr 0 0)), (5, .c (.ptr 1 0)), (6, .c (.ptr 2 0)), (7, .c (.ptr 3 0)), (8, .c (.ptr 4 0)), (27, .fn 56 [] [.ipc (.list (.prod tI tI))])] [28] (.reg [.op (some 9) none (.alloc [.int .i64 (Int.ofNat 0), .int .i64 (Int.ofNat 0), .int .i64 (Int.ofNat 0), .int .i64 (Int.ofNat 0)]), .op none none (.store 4 (.t 9) (.t 28))]) (.block 1 (.seq (.seq (.seq (.draw [[], [0], [], [], [3], [], [3, 4, 5], [2, 3, 4, 5, 6], [0, 1, 2, 3, 4, 5, 6, 7], [0, 1, 2, 3, 4, 5, 6, 7, 8]] [.op (some 29) none (.fld 2 [true] (.t 9)), .op (some 30) none (.load true 2 (.t 29)), .op (some 31) none (.load true 2 (.t 4)), .op (some 32) none (.fld 0 [false] (.t 9)), .op (some 33) none (.load true 2 (.t 32)), .op (some 34) none (.load false 1 (.t 5)), .call (some 35) none (.c (.fn 36 [] [])) [.t 33, .t 34] [some (.prod tI tI), some tI], .call (some 36) none (.c (.fn 49 [] [])) [.t 31, .t 35] [some (.prod tI tI), some (.prod tI tI)]]) (.reg [.call (some 37) none (.c (.fn 48 [] [])) [.t 30, .t 36] [some (.prod tI tI), some (.prod tI tI)], .op (some 38) none (.bin .lss (.t 37) (.c (.int .i64 (Int.ofNat 0))))])) (.cond (.t 38) (.seq (.reg [.op none none (.store 1 (.t 6) (.c (.tf false)))]) .ret) .skip)) (.seq (.reg [.op (some 39) none (.fld 0 [false] (.t 7)), .op (some 40) none (.load false 1 (.t 39)), .op (some 41) none (.fld 0 [false] (.t 9)), .op (some 42) none (.fld 0 [false] (.t 41)), .op (some 43) none (.load false 1 (.t 42)), .op (some 44) none (.minmax false (.t 40) [.t 43]), .op (some 45) none (.fld 1 [true] (.t 7)), .op (some 46) none (.load false 1 (.t 45)), .op (some 47) none (.fld 0 [false] (.t 9)), .op (some 48) none (.fld 1 [true] (.t 47)), .op (some 49) none (.load false 1 (.t 48)), .op (some 50) none (.minmax false (.t 46) [.t 49]), .op (some 51) none (.build [.int .i64 (Int.ofNat 0), .int .i64 (Int.ofNat 0)] [(0, 1, .t 44), (1, 1, .t 50)]), .op none none (.store 2 (.t 7) (.t 51))]) (.reg [.op (some 52) none (.fld 0 [false] (.t 8)), .op (some 53) none (.load false 1 (.t 52)), .op (some 54) none (.fld 0 [false] (.t 9)), .op (some 55) none (.fld 0 [false] (.t 54)), .op (some 56) none (.load false 1 (.t 55)), .op (some 57) none (.minmax true (.t 53) [.t 56]), .op (some 58) none (.fld 1 [true] (.t 8)), .op (some 59) none (.load false 1 (.t 58)), .op (some 60) none (.fld 0 [false] (.t 9)), .op (some 61) none (.fld 1 [true] (.t 60)), .op (some 62) none (.load false 1 (.t 61)), .op (some 63) none (.minmax true (.t 59) [.t 62]), .op (some 64) none (.build [.int .i64 (Int.ofNat 0), .int .i64 (Int.ofNat 0)] [(0, 1, .t 57), (1, 1, .t 63)]), .op none none (.store 2 (.t 8) (.t 64))])))) 97)] [] []), (.exit 0, Pat.mk [] [(0, .cells [.hole tI, .hole tI] false), (1, .cells [.hole tI] false), (2, .cells [.tf false] false), (3, .cells [.hole tI, .hole tI] false), (4, .cells [.hole tI, .hole tI] false), (5, .dfr), (6, .loop .ready none 5 [(4, .c (.ptr 0 0)), (5, .c (.ptr 1 0)), (6, .c (.ptr 2 0)), (7, .c (.ptr 3 0)), (8, .c (.ptr 4 0)), (27, .fn 56 [] [.ipc (.list (.prod tI tI))])] [28] (.reg [.op (some 9) none (.alloc [.int .i64 (Int.ofNat 0), .int .i64 (Int.ofNat 0), .int .i64 (Int.ofNat 0), .int .i64 (Int.ofNat 0)]), .op none none (.store 4 (.t 9) (.t 28))]) (.block 1 (.seq (.seq (.seq (.draw [[], [0], [], [], [3], [], [3, 4, 5], [2, 3, 4, 5, 6], [0, 1, 2, 3, 4, 5, 6, 7], [0, 1, 2, 3, 4, 5, 6, 7, 8]] [.op (some 29) none (.fld 2 [true] (.t 9)), .op (some 30) none (.load true 2 (.t 29)), .op (some 31) none (.load true 2 (.t 4)), .op (some 32) none (.fld 0 [false] (.t 9)), .op (some 33) none (.load true 2 (.t 32)), .op (some 34) none (.load false 1 (.t 5)), .call (some 35) none (.c (.fn 36 [] [])) [.t 33, .t 34] [some (.prod tI tI), some tI], .call (some 36) none (.c (.fn 49 [] [])) [.t 31, .t 35] [some (.prod tI tI), some (.prod tI tI)]]) (.reg [.call (some 37) none (.c (.fn 48 [] [])) [.t 30, .t 36] [some (.prod tI tI), some (.prod tI tI)], .op (some 38) none (.bin .lss (.t 37) (.c (.int .i64 (Int.ofNat 0))))])) (.cond (.t 38) (.seq (.reg [.op none none (.store 1 (.t 6) (.c (.tf false)))]) .ret) .skip)) (.seq (.reg [.op (some 39) none (.fld 0 [false] (.t 7)), .op (some 40) none (.load false 1 (.t 39)), .op (some 41) none (.fld 0 [false] (.t 9)), .op (some 42) none (.fld 0 [false] (.t 41)), .op (some 43) none (.load false 1 (.t 42)), .op (some 44) none (.minmax false (.t 40) [.t 43]), .op (some 45) none (.fld 1 [true] (.t 7)), .op (some 46) none (.load false 1 (.t 45)), .op (some 47) none (.fld 0 [false] (.t 9)), .op (some 48) none (.fld 1 [true] (.t 47)), .op (some 49) none (.load false 1 (.t 48)), .op (some 50) none (.minmax false (.t 46) [.t 49]), .op (some 51) none (.build [.int .i64 (Int.ofNat 0), .int .i64 (Int.ofNat 0)] [(0, 1, .t 44), (1, 1, .t 50)]), .op none none (.store 2 (.t 7) (.t 51))]) (.reg [.op (some 52) none (.fld 0 [false] (.t 8)), .op (some 53) none (.load false 1 (.t 52)), .op (some 54) none (.fld 0 [false] (.t 9)), .op (some 55) none (.fld 0 [false] (.t 54)), .op (some 56) none (.load false 1 (.t 55)), .op (some 57) none (.minmax true (.t 53) [.t 56]), .op (some 58) none (.fld 1 [true] (.t 8)), .op (some 59) none (.load false 1 (.t 58)), .op (some 60) none (.fld 0 [false] (.t 9)), .op (some 61) none (.fld 1 [true] (.t 60)), .op (some 62) none (.load false 1 (.t 61)), .op (some 63) none (.minmax true (.t 59) [.t 62]), .op (some 64) none (.build [.int .i64 (Int.ofNat 0), .int .i64 (Int.ofNat 0)] [(0, 1, .t 57), (1, 1, .t 63)]), .op none none (.store 2 (.t 8) (.t 64))])))) 97)] [] [])]
noncomputable def b32_0i_0 : D prog 33 none 7 := dO [] (pick (kd prog f56) [(0, false)]) 0
noncomputable def g32_0i_0 : (List (Int × Int)) × (List (Int × Int)) × Int × Int × (List (Int × Int)) × Int × Int × Int × Int × Int × Int × Int × Unit → Tr0 (((List (Int × Int)) × (List (Int × Int)) × Int × Int × (List (Int × Int)) × Int × Int × Int × Int × Int × Int × Int × Unit) ⊕ ((Int × Int × Int × Int × Int × Int × Int × (List (Int × Int)) × Unit) ⊕ ((Int × Int × Int × Int × Int × Int × Int × (List (Int × Int)) × Unit)))) := fun (v1, v5, v6, v7, w27_0, c0_0, c0_1, c1_0, c3_0, c3_1, c4_0, c4_1, _) =>
 .br (decide (v7 < v6)) (
 .nb v7 (((v5).length : Nat) : Int) <|
 .br (decide ((1 : Int) < (((v1).length : Nat) : Int))) (
 .ni (v7 + (1 : Int)) <|
 .nd (!((((v1).length : Nat) : Int) == (0 : Int))) <|
 .nb (Int.tmod (v7 + (1 : Int)) (((v1).length : Nat) : Int)) (((v1).length : Nat) : Int) <|
 .bd (F49 (((v1).getD (Int.toNat (Int.tmod (v7 + (1 : Int)) (((v1).length : Nat) : Int))) ((0 : Int), (0 : Int))).1, ((v1).getD (Int.toNat (Int.tmod (v7 + (1 : Int)) (((v1).length : Nat) : Int))) ((0 : Int), (0 : Int))).2) (((v5).getD (Int.toNat v7) ((0 : Int), (0 : Int))).1, ((v5).getD (Int.toNat v7) ((0 : Int), (0 : Int))).2)) fun y2 =>
 .bd (F36 (((v5).getD (Int.toNat v7) ((0 : Int), (0 : Int))).1, ((v5).getD (Int.toNat v7) ((0 : Int), (0 : Int))).2) c1_0) fun y3 =>
 .bd (F49 (c0_0, c0_1) (y3.1.1, y3.1.2)) fun y4 =>
 .bd (F48 (y2.1.1, y2.1.2) (y4.1.1, y4.1.2)) fun y5 =>
 .br (decide (y5.1 < (0 : Int))) (
 .ret (.inr <| .inl <| (c0_0, (c0_1, (c1_0, (c3_0, (c3_1, (c4_0, (c4_1, (w27_0, ())))))))))) (
 .ni (v7 + (1 : Int)) <|
 .ret (.inl (v1, (v5, (v6, ((v7 + (1 : Int)), (w27_0, (c0_0, (c0_1, (c1_0, ((imin c3_0 ((v5).getD (Int.toNat v7) ((0 : Int), (0 : Int))).1), ((imin c3_1 ((v5).getD (Int.toNat v7) ((0 : Int), (0 : Int))).2), ((imax c4_0 ((v5).getD (Int.toNat v7) ((0 : Int), (0 : Int))).1), ((imax c4_1 ((v5).getD (Int.toNat v7) ((0 : Int), (0 : Int))).2), ()))))))))))))))) (
 .ni (v7 + (1 : Int)) <|
 .ret (.inl (v1, (v5, (v6, ((v7 + (1 : Int)), (w27_0, (c0_0, (c0_1, (c1_0, (c3_0, (c3_1, (c4_0, (c4_1, ()))))))))))))))) (
 .ret (.inr <| .inr <| (c0_0, (c0_1, (c1_0, (c3_0, (c3_1, (c4_0, (c4_1, (w27_0, ()))))))))))
theorem s32_0i_0 : ∀ x, roundE (kzO (p32_0i_0.T ⊕ x32_0i_0.T)) cx32_0i ar0 [0, 1, 2, 3, 4, 5, 6] p32_0i_0 x32_0i_0 (b32_0i_0) (fun y => some (.inl y)) (fun b => some (.inr b)) x = run0 (g32_0i_0 x) := fun x => by kernel_rfl
noncomputable def L32_0i_0 : LoopS prog 33 none 7 := mkLoop mixed cx32_0i cx32_0i_ok [0, 1, 2, 3, 4, 5, 6] rfl p32_0i_0 x32_0i_0 rfl (b32_0i_0) (fun x => run0 (g32_0i_0 x)) (s32_0i_0)
@[reducible] def p32_0 : Pat := Pat.mk [(4, .c (.ptr 0 0)), (5, .c (.ptr 1 0)), (6, .c (.ptr 2 0)), (7, .c (.ptr 3 0)), (8, .c (.ptr 4 0)), (27, .fn 56 [] [.ipc (.list (.prod tI tI))])] [(0, .cells [.hole tI, .hole tI] false), (1, .cells [.hole tI] false), (2, .cells [.tf false] false), (3, .cells [.hole tI, .hole tI] false), (4, .cells [.hole tI, .hole tI] false)] [.slot 4, .slot 5, .slot 6, .slot 7, .slot 8] []
@[reducible] def x32_0 : Outs := [(.ret, Pat.mk [(6, .c (.ptr 0 0))] [(0, .cells [.tf false] false)] [.slot 6] []), (.normal, Pat.mk [(4, .c (.ptr 0 0)), (5, .c (.ptr 1 0)), (6, .c (.ptr 2 0)), (7, .c (.ptr 3 0)), (8, .c (.ptr 4 0))] [(0, .cells [.hole tI, .hole tI] false), (1, .cells [.hole tI] false), (2, .cells [.tf false] false), (3, .cells [.hole tI, .hole tI] false), (4, .cells [.hole tI, .hole tI] false)] [.slot 4, .slot 5, .slot 6, .slot 7, .slot 8] [])]
noncomputable def b32_0i : D prog 33 none 7 := dO [.l L32_0i_0] (kd prog f56) 0
theorem ci32_0 : trF prog f56 = some ⟨33, 2, (b32_0i).er, [], []⟩ := by kernel_rfl
noncomputable def g32_0 : (List (Int × Int)) × Int × Int × Int × Int × Int × Int × Int × Unit → Tr0 ((Unit) ⊕ ((Int × Int × Int × Int × Int × Int × Int × Unit))) := fun (v27_0, c0_0, c0_1, c1_0, c3_0, c3_1, c4_0, c4_1, _) =>
 .bd (.it g32_0i_0 (v27_0, (v27_0, ((((v27_0).length : Nat) : Int), ((0 : Int), (v27_0, (c0_0, (c0_1, (c1_0, (c3_0, (c3_1, (c4_0, (c4_1, ()))))))))))))) fun z6 =>
 .sm z6 (fun z7 =>
 .ret (.inl <| ())) fun z8 =>
 .ret (.inr <| (z8.1, (z8.2.1, (z8.2.2.1, (z8.2.2.2.1, (z8.2.2.2.2.1, (z8.2.2.2.2.2.1, (z8.2.2.2.2.2.2.1, ()))))))))
theorem s32_0 : ∀ x, rangeE (N := 97) (out := none) (base := 0) (kzO x32_0.T) cx32_0i ar0 [] p32_0 x32_0 ( .t 27) [28] (ad32_0).er (bd32_0).er [] 2 56 (b32_0i) some x = run0 (g32_0 x) := fun x => by kernel_rfl
noncomputable def R32_0 : RangeS prog 97 none 0 := mkRange mixed cx32_0i cx32_0i_ok [] rfl p32_0 x32_0 ( .t 27) [28] rfl (ad32_0).er (bd32_0).er 56 func56 (ci32_0) (enters_of func56 rfl rfl) 7 rfl (b32_0i) rfl (fun x => run0 (g32_0 x)) (s32_0)
noncomputable def dd32 : D prog 97 none 0 := dO [.r R32_0] (kd prog f32) 0
noncomputable def F32 (a0 : List (Int × Int)) (a1 : Int × Int) (a2 : Int) : Tr0 (Bool × Unit) :=
 .br ((((a0).length : Nat) : Int) == (1 : Int)) (
 .nb (0 : Int) (((a0).length : Nat) : Int) <|
 .bd (F36 (((a0).getD (Int.toNat (0 : Int)) ((0 : Int), (0 : Int))).1, ((a0).getD (Int.toNat (0 : Int)) ((0 : Int), (0 : Int))).2) a2) fun y0 =>
 .ret (((y0.1.1 == a1.1) && ((y0.1.2 == a1.2) && true)), ())) (
 .nb (0 : Int) (((a0).length : Nat) : Int) <|
 .nb (0 : Int) (((a0).length : Nat) : Int) <|
 .bd (F37 a0) fun y1 =>
 .bd (g32_0 (y1.1, (a1.1, (a1.2, (a2, (((a0).getD (Int.toNat (0 : Int)) ((0 : Int), (0 : Int))).1, (((a0).getD (Int.toNat (0 : Int)) ((0 : Int), (0 : Int))).2, (((a0).getD (Int.toNat (0 : Int)) ((0 : Int), (0 : Int))).1, (((a0).getD (Int.toNat (0 : Int)) ((0 : Int), (0 : Int))).2, ()))))))))) fun z9 =>
 .sm z9 (fun z10 =>
 .ret (false, ())) fun z11 =>
 .bd (F36 (z11.2.2.2.1, z11.2.2.2.2.1) z11.2.2.1) fun y12 =>
 .bd (F36 (z11.2.2.2.2.2.1, z11.2.2.2.2.2.2.1) z11.2.2.1) fun y13 =>
 .br (decide (y12.1.1 ≤ z11.1)) (
 .br (decide (z11.1 ≤ y13.1.1)) (
 .br (decide (y12.1.2 ≤ z11.2.1)) (
 .ret ((decide (z11.2.1 ≤ y13.1.2)), ())) (
 .ret (false, ()))) (
 .ret (false, ()))) (
 .ret (false, ())))
theorem c32_ok : trF prog f32 = some ⟨97, 3, dd32.er, [.cell 6 false 1], [some .bool]⟩ := by kernel_rfl
noncomputable def ct32 : Ct := ⟨32, [.c (.hole (.list (.prod tI tI))), .c (.hole (.prod tI tI)), hI], .c (.hole .bool), fun x => run0 (F32 x.1 x.2.1 x.2.2.1)⟩
theorem ct32_ok : ct32.Ok prog := ct_ok mixed cx32_ok func32 c32_ok (enters_of func32 rfl rfl) dd32 (by kernel_rfl) rfl (fun x => by kernel_rfl)

/- 13 -/
noncomputable def cx13 : Cx := (mkCxH [ct31, ct33, ct32] [])
theorem cx13_ok : cx13.Ok prog := mkCxH_ok ⟨ct31_ok, ct33_ok, ct32_ok, trivial⟩ trivial
noncomputable def dd13 : D prog 18 none 0 := dO [] (kd prog f13) 0
noncomputable def F13 (a0 : List (List (Int × Int))) (a1 : Int × Int) : Tr0 (Bool × Int × Unit) :=
 .bd (F31 a0 (a1.1, a1.2)) fun y0 =>
 .br (!(y0.1 == (0 : Int))) (
 .ret (false, (y0.1, ()))) (
 .bd (F33 a0) fun y1 =>
 .bd (F32 y1.1.1 (a1.1, a1.2) (1 : Int)) fun y2 =>
 .ret (y2.1, ((0 : Int), ())))
theorem c13_ok : trF prog f13 = some ⟨18, 2, dd13.er, [.t 4, .t 5], [some .bool, some tI]⟩ := by kernel_rfl
noncomputable def ct13 : Ct := ⟨13, [.c (.hole (.list (.list (.prod tI tI)))), .c (.hole (.prod tI tI))], .tup [.hole .bool, .hole tI], fun x => run0 (F13 x.1 x.2.1)⟩
theorem ct13_ok : ct13.Ok prog := ct_ok mixed cx13_ok func13 c13_ok (enters_of func13 rfl rfl) dd13 (by kernel_rfl) rfl (fun x => by kernel_rfl)

/- 34 -/
noncomputable def cx34 : Cx := (mkCxH [ct49, ct48] [])
theorem cx34_ok : cx34.Ok prog := mkCxH_ok ⟨ct49_ok, ct48_ok, trivial⟩ trivial
@[reducible] def p34_0 : Pat := Pat.mk [(0, .c (.hole (.list (.prod tI tI)))), (3, .c (.ptr 0 0)), (4, .c (.pa 1 tI 3)), (5, .c (.pa 2 tI 3)), (10, hI)] [(0, .cells [.hole tI, .hole tI] false), (1, .arr tI false), (2, .arr tI false)] [.slot 3, .slot 4, .slot 5] []
@[reducible] def x34_0 : Outs := [(.ret, Pat.mk [(4, .c (.pa 0 tI 3)), (5, .c (.pa 1 tI 3))] [(0, .arr tI false), (1, .arr tI false)] [.slot 4, .slot 5] []), (.exit 1, Pat.mk [(4, .c (.pa 0 tI 3)), (5, .c (.pa 1 tI 3))] [(0, .arr tI false), (1, .arr tI false)] [.slot 4, .slot 5] [])]
noncomputable def b34_0 : D prog 115 none 0 := dO [] (pick (kd prog f34) [(0, false)]) 0
noncomputable def g34_0 : (List (Int × Int)) × Int × Int × Int × List Int × List Int × Unit → Tr0 (((List (Int × Int)) × Int × Int × Int × List Int × List Int × Unit) ⊕ ((List Int × List Int × Unit) ⊕ ((List Int × List Int × Unit)))) := fun (v0, v10, c0_0, c0_1, b1, b2, _) =>
 .ni (v10 + (1 : Int)) <|
 .br (decide ((v10 + (1 : Int)) < (((v0).length : Nat) : Int))) (
 .nb (0 : Int) (((v0).length : Nat) : Int) <|
 .bd (F49 (((v0).getD (Int.toNat (0 : Int)) ((0 : Int), (0 : Int))).1, ((v0).getD (Int.toNat (0 : Int)) ((0 : Int), (0 : Int))).2) (c0_0, c0_1)) fun y2 =>
 .nb v10 (((v0).length : Nat) : Int) <|
 .bd (F49 (((v0).getD (Int.toNat v10) ((0 : Int), (0 : Int))).1, ((v0).getD (Int.toNat v10) ((0 : Int), (0 : Int))).2) (c0_0, c0_1)) fun y3 =>
 .ni (v10 + (1 : Int)) <|
 .nb (v10 + (1 : Int)) (((v0).length : Nat) : Int) <|
 .bd (F49 (((v0).getD (Int.toNat (v10 + (1 : Int))) ((0 : Int), (0 : Int))).1, ((v0).getD (Int.toNat (v10 + (1 : Int))) ((0 : Int), (0 : Int))).2) (c0_0, c0_1)) fun y4 =>
 .bd (F48 (y3.1.1, y3.1.2) (y4.1.1, y4.1.2)) fun y5 =>
 .bd (F48 (y4.1.1, y4.1.2) (y2.1.1, y2.1.2)) fun y6 =>
 .bd (F48 (y2.1.1, y2.1.2) (y3.1.1, y3.1.2)) fun y7 =>
 .br (decide ((0 : Int) ≤ y5.1)) (
 .br (decide ((0 : Int) ≤ y6.1)) (
 .br (decide ((0 : Int) ≤ y7.1)) (
 .ni (v10 + (1 : Int)) <|
 .ret (.inr <| .inl <| (((0 : Int) :: (v10 :: ((v10 + (1 : Int)) :: []))), ((y5.1 :: (y6.1 :: (y7.1 :: []))), ())))) (
 .ni (v10 + (1 : Int)) <|
 .ret (.inl (v0, ((v10 + (1 : Int)), (c0_0, (c0_1, (b1, (b2, ()))))))))) (
 .ni (v10 + (1 : Int)) <|
 .ret (.inl (v0, ((v10 + (1 : Int)), (c0_0, (c0_1, (b1, (b2, ()))))))))) (
 .ni (v10 + (1 : Int)) <|
 .ret (.inl (v0, ((v10 + (1 : Int)), (c0_0, (c0_1, (b1, (b2, ()))))))))) (
 .ret (.inr <| .inr <| (b1, (b2, ()))))
theorem s34_0 : ∀ x, roundE (kzO (p34_0.T ⊕ x34_0.T)) cx34 ar0 [] p34_0 x34_0 (b34_0) (fun y => some (.inl y)) (fun b => some (.inr b)) x = run0 (g34_0 x) := fun x => by kernel_rfl
noncomputable def L34_0 : LoopS prog 115 none 0 := mkLoop mixed cx34 cx34_ok [] rfl p34_0 x34_0 rfl (b34_0) (fun x => run0 (g34_0 x)) (s34_0)
noncomputable def dd34 : D prog 115 none 0 := dO [.l L34_0] (kd prog f34) 0
noncomputable def F34 (a0 : List (Int × Int)) (a1 : Int × Int) : Tr0 ((Int × Int × Int) × (Int × Int × Int) × Unit) :=
 .nb (0 : Int) (((a0).length : Nat) : Int) <|
 .ni ((((a0).length : Nat) : Int) - (1 : Int)) <|
 .nb ((((a0).length : Nat) : Int) - (1 : Int)) (((a0).length : Nat) : Int) <|
 .br ((((a0).length : Nat) : Int) == (1 : Int)) (
 .ret ((((((((List.replicate (3 : Nat) (0 : Int))).getD (0 : Nat) (0 : Int)) :: ((((List.replicate (3 : Nat) (0 : Int))).getD (1 : Nat) (0 : Int)) :: ((((List.replicate (3 : Nat) (0 : Int))).getD (2 : Nat) (0 : Int)) :: [])))).getD (0 : Nat) (0 : Int)), (((((((List.replicate (3 : Nat) (0 : Int))).getD (0 : Nat) (0 : Int)) :: ((((List.replicate (3 : Nat) (0 : Int))).getD (1 : Nat) (0 : Int)) :: ((((List.replicate (3 : Nat) (0 : Int))).getD (2 : Nat) (0 : Int)) :: [])))).getD (1 : Nat) (0 : Int)), ((((((List.replicate (3 : Nat) (0 : Int))).getD (0 : Nat) (0 : Int)) :: ((((List.replicate (3 : Nat) (0 : Int))).getD (1 : Nat) (0 : Int)) :: ((((List.replicate (3 : Nat) (0 : Int))).getD (2 : Nat) (0 : Int)) :: [])))).getD (2 : Nat) (0 : Int)))), ((((((1 : Int) :: ((0 : Int) :: ((0 : Int) :: [])))).getD (0 : Nat) (0 : Int)), (((((1 : Int) :: ((0 : Int) :: ((0 : Int) :: [])))).getD (1 : Nat) (0 : Int)), ((((1 : Int) :: ((0 : Int) :: ((0 : Int) :: [])))).getD (2 : Nat) (0 : Int)))), ()))) (
 .br ((((a0).length : Nat) : Int) == (2 : Int)) (
 .bd (F49 (((a0).getD (Int.toNat ((((a0).length : Nat) : Int) - (1 : Int))) ((0 : Int), (0 : Int))).1, ((a0).getD (Int.toNat ((((a0).length : Nat) : Int) - (1 : Int))) ((0 : Int), (0 : Int))).2) (((a0).getD (Int.toNat (0 : Int)) ((0 : Int), (0 : Int))).1, ((a0).getD (Int.toNat (0 : Int)) ((0 : Int), (0 : Int))).2)) fun y0 =>
 .bd (F49 (a1.1, a1.2) (((a0).getD (Int.toNat (0 : Int)) ((0 : Int), (0 : Int))).1, ((a0).getD (Int.toNat (0 : Int)) ((0 : Int), (0 : Int))).2)) fun y1 =>
 .br (y0.1.1 == (0 : Int)) (
 .ni (y0.1.2 - y1.1.2) <|
 .ret ((((((0 : Int) :: ((1 : Int) :: ((0 : Int) :: [])))).getD (0 : Nat) (0 : Int)), (((((0 : Int) :: ((1 : Int) :: ((0 : Int) :: [])))).getD (1 : Nat) (0 : Int)), ((((0 : Int) :: ((1 : Int) :: ((0 : Int) :: [])))).getD (2 : Nat) (0 : Int)))), ((((((y0.1.2 - y1.1.2) :: (y1.1.2 :: ((0 : Int) :: [])))).getD (0 : Nat) (0 : Int)), (((((y0.1.2 - y1.1.2) :: (y1.1.2 :: ((0 : Int) :: [])))).getD (1 : Nat) (0 : Int)), ((((y0.1.2 - y1.1.2) :: (y1.1.2 :: ((0 : Int) :: [])))).getD (2 : Nat) (0 : Int)))), ()))) (
 .ni (y0.1.1 - y1.1.1) <|
 .ret ((((((0 : Int) :: ((1 : Int) :: ((0 : Int) :: [])))).getD (0 : Nat) (0 : Int)), (((((0 : Int) :: ((1 : Int) :: ((0 : Int) :: [])))).getD (1 : Nat) (0 : Int)), ((((0 : Int) :: ((1 : Int) :: ((0 : Int) :: [])))).getD (2 : Nat) (0 : Int)))), ((((((y0.1.1 - y1.1.1) :: (y1.1.1 :: ((0 : Int) :: [])))).getD (0 : Nat) (0 : Int)), (((((y0.1.1 - y1.1.1) :: (y1.1.1 :: ((0 : Int) :: [])))).getD (1 : Nat) (0 : Int)), ((((y0.1.1 - y1.1.1) :: (y1.1.1 :: ((0 : Int) :: [])))).getD (2 : Nat) (0 : Int)))), ())))) (
 .bd (.it g34_0 (a0, ((1 : Int), (a1.1, (a1.2, ((List.replicate (3 : Nat) (0 : Int)), ((List.replicate (3 : Nat) (0 : Int)), ()))))))) fun z8 =>
 .sm z8 (fun z9 =>
 .ret ((((z9.1).getD (0 : Nat) (0 : Int)), (((z9.1).getD (1 : Nat) (0 : Int)), ((z9.1).getD (2 : Nat) (0 : Int)))), ((((z9.2.1).getD (0 : Nat) (0 : Int)), (((z9.2.1).getD (1 : Nat) (0 : Int)), ((z9.2.1).getD (2 : Nat) (0 : Int)))), ()))) fun z10 =>
 .ret (((((((z10.1).getD (0 : Nat) (0 : Int)) :: (((z10.1).getD (1 : Nat) (0 : Int)) :: (((z10.1).getD (2 : Nat) (0 : Int)) :: [])))).getD (0 : Nat) (0 : Int)), ((((((z10.1).getD (0 : Nat) (0 : Int)) :: (((z10.1).getD (1 : Nat) (0 : Int)) :: (((z10.1).getD (2 : Nat) (0 : Int)) :: [])))).getD (1 : Nat) (0 : Int)), (((((z10.1).getD (0 : Nat) (0 : Int)) :: (((z10.1).getD (1 : Nat) (0 : Int)) :: (((z10.1).getD (2 : Nat) (0 : Int)) :: [])))).getD (2 : Nat) (0 : Int)))), (((((((z10.2.1).getD (0 : Nat) (0 : Int)) :: (((z10.2.1).getD (1 : Nat) (0 : Int)) :: (((z10.2.1).getD (2 : Nat) (0 : Int)) :: [])))).getD (0 : Nat) (0 : Int)), ((((((z10.2.1).getD (0 : Nat) (0 : Int)) :: (((z10.2.1).getD (1 : Nat) (0 : Int)) :: (((z10.2.1).getD (2 : Nat) (0 : Int)) :: [])))).getD (1 : Nat) (0 : Int)), (((((z10.2.1).getD (0 : Nat) (0 : Int)) :: (((z10.2.1).getD (1 : Nat) (0 : Int)) :: (((z10.2.1).getD (2 : Nat) (0 : Int)) :: [])))).getD (2 : Nat) (0 : Int)))), ()))))
theorem c34_ok : trF prog f34 = some ⟨115, 2, dd34.er, [.cell 4 true 3, .cell 5 true 3], [some (.prod tI (.prod tI tI)), some (.prod tI (.prod tI tI))]⟩ := by kernel_rfl
noncomputable def ct34 : Ct := ⟨34, [.c (.hole (.list (.prod tI tI))), .c (.hole (.prod tI tI))], .tup [.hole (.prod tI (.prod tI tI)), .hole (.prod tI (.prod tI tI))], fun x => run0 (F34 x.1 x.2.1)⟩
theorem ct34_ok : ct34.Ok prog := ct_ok mixed cx34_ok func34 c34_ok (enters_of func34 rfl rfl) dd34 (by kernel_rfl) rfl (fun x => by kernel_rfl)

/- 14 -/
noncomputable def cx14 : Cx := (mkCxH [ct31, ct33, ct32, ct34, ct36, ct35] [])
theorem cx14_ok : cx14.Ok prog := mkCxH_ok ⟨ct31_ok, ct33_ok, ct32_ok, ct34_ok, ct36_ok, ct35_ok, trivial⟩ trivial
@[reducible] def p14_1 : Pat := Pat.mk [(0, .c (.hole (.list (.list (.prod tI tI))))), (4, .c (.ptr 0 0)), (7, .c (.ptr 1 0)), (8, .c (.pa 2 tI 3)), (10, .c (.ptr 3 0)), (11, hI), (12, hI), (40, .c (.hole (.prod tI (.prod tI tI)))), (41, hI), (51, hI), (52, hI)] [(0, .cells [.hole tI, .nsl] false), (1, .cells [.hole (.list (.prod tI tI)), .hole (.list (.list (.prod tI tI)))] false), (2, .arr tI false), (3, .cells [.hole tI, .sl0 4 (.prod tI tI)] false), (4, .arr (.prod tI tI) false)] [.slot 4, .slot 7, .slot 8, .slot 10, .cell 3 1] []
@[reducible] def x14_1 : Outs := [(.exit 2, Pat.mk [(0, .c (.hole (.list (.list (.prod tI tI))))), (4, .c (.ptr 0 0)), (7, .c (.ptr 1 0)), (8, .c (.pa 2 tI 3)), (10, .c (.ptr 3 0)), (40, .c (.hole (.prod tI (.prod tI tI)))), (41, hI)] [(0, .cells [.hole tI, .nsl] false), (1, .cells [.hole (.list (.prod tI tI)), .hole (.list (.list (.prod tI tI)))] false), (2, .arr tI false), (3, .cells [.hole tI, .sl0 4 (.prod tI tI)] false), (4, .arr (.prod tI tI) false)] [.slot 4, .slot 7, .slot 8, .slot 10, .cell 3 1] [])]
noncomputable def b14_1 : D prog 80 none 0 := dO [] (pick (kd prog f14) [(0, false), (0, false)]) 0
noncomputable def g14_1 : (List (List (Int × Int))) × Int × Int × (Int × Int × Int) × Int × Int × Int × Int × (List (Int × Int)) × (List (List (Int × Int))) × List Int × Int × Nat × (List (Int × Int)) × Unit → Tr0 (((List (List (Int × Int))) × Int × Int × (Int × Int × Int) × Int × Int × Int × Int × (List (Int × Int)) × (List (List (Int × Int))) × List Int × Int × Nat × (List (Int × Int)) × Unit) ⊕ (((List (List (Int × Int))) × (Int × Int × Int) × Int × Int × (List (Int × Int)) × (List (List (Int × Int))) × List Int × Int × Nat × (List (Int × Int)) × Unit))) := fun (v0, v11, v12, v40, v41, v51, v52, c0_0, c1_0, c1_1, b2, c3_0, nc3_1, b4, _) =>
 .br (decide (v52 < v51)) (
 .nb v52 ((nc3_1 : Nat) : Int) <|
 .nd (decide (((0 : Nat) + (Int.toNat v52)) < (b4).length)) <|
 .nb v11 (3 : Int) <|
 .nd (decide ((Int.toNat v11) < (b2).length)) <|
 .nb ((b2).getD (Int.toNat v11) (0 : Int)) (((c1_1).length : Nat) : Int) <|
 .nb v52 (((((c1_1).getD (Int.toNat ((b2).getD (Int.toNat v11) (0 : Int))) [])).length : Nat) : Int) <|
 .bd (F36 (((((c1_1).getD (Int.toNat ((b2).getD (Int.toNat v11) (0 : Int))) [])).getD (Int.toNat v52) ((0 : Int), (0 : Int))).1, ((((c1_1).getD (Int.toNat ((b2).getD (Int.toNat v11) (0 : Int))) [])).getD (Int.toNat v52) ((0 : Int), (0 : Int))).2) v12) fun y4 =>
 .bd (F35 (((b4).getD ((0 : Nat) + (Int.toNat v52)) ((0 : Int), (0 : Int))).1, ((b4).getD ((0 : Nat) + (Int.toNat v52)) ((0 : Int), (0 : Int))).2) (y4.1.1, y4.1.2)) fun y5 =>
 .nb v52 ((nc3_1 : Nat) : Int) <|
 .nd (decide (((0 : Nat) + (Int.toNat v52)) < (b4).length)) <|
 .ni (v52 + (1 : Int)) <|
 .ret (.inl (v0, (v11, (v12, ((v40.1, (v40.2.1, v40.2.2)), (v41, (v51, ((v52 + (1 : Int)), (c0_0, (c1_0, (c1_1, (b2, (c3_0, (nc3_1, (((b4).set ((0 : Nat) + (Int.toNat v52)) (y5.1.1, y5.1.2)), ())))))))))))))))) (
 .ret (.inr (v0, ((v40.1, (v40.2.1, v40.2.2)), (v41, (c0_0, (c1_0, (c1_1, (b2, (c3_0, (nc3_1, (b4, ()))))))))))))
theorem s14_1 : ∀ x, roundE (kzO (p14_1.T ⊕ x14_1.T)) cx14 ar0 [] p14_1 x14_1 (b14_1) (fun y => some (.inl y)) (fun b => some (.inr b)) x = run0 (g14_1 x) := fun x => by kernel_rfl
noncomputable def L14_1 : LoopS prog 80 none 0 := mkLoop mixed cx14 cx14_ok [] rfl p14_1 x14_1 rfl (b14_1) (fun x => run0 (g14_1 x)) (s14_1)
@[reducible] def p14_0 : Pat := Pat.mk [(0, .c (.hole (.list (.list (.prod tI tI))))), (4, .c (.ptr 0 0)), (7, .c (.ptr 1 0)), (8, .c (.pa 2 tI 3)), (10, .c (.ptr 3 0)), (40, .c (.hole (.prod tI (.prod tI tI)))), (41, hI)] [(0, .cells [.hole tI, .nsl] false), (1, .cells [.hole (.list (.prod tI tI)), .hole (.list (.list (.prod tI tI)))] false), (2, .arr tI false), (3, .cells [.hole tI, .sl0 4 (.prod tI tI)] false), (4, .arr (.prod tI tI) false)] [.slot 4, .slot 7, .slot 8, .slot 10, .cell 3 1] []
@[reducible] def x14_0 : Outs := [(.exit 0, Pat.mk [(4, .c (.ptr 0 0)), (10, .c (.ptr 1 0))] [(0, .cells [.hole tI, .nsl] false), (1, .cells [.hole tI, .sl0 2 (.prod tI tI)] false), (2, .arr (.prod tI tI) false)] [.slot 4, .slot 10, .cell 1 1] [])]
noncomputable def b14_0 : D prog 80 none 0 := dO [.l L14_1] (pick (kd prog f14) [(0, false)]) 0
noncomputable def g14_0 : (List (List (Int × Int))) × (Int × Int × Int) × Int × Int × (List (Int × Int)) × (List (List (Int × Int))) × List Int × Int × Nat × (List (Int × Int)) × Unit → Tr0 (((List (List (Int × Int))) × (Int × Int × Int) × Int × Int × (List (Int × Int)) × (List (List (Int × Int))) × List Int × Int × Nat × (List (Int × Int)) × Unit) ⊕ ((Int × Int × Nat × (List (Int × Int)) × Unit))) := fun (v0, v40, v41, c0_0, c1_0, c1_1, b2, c3_0, nc3_1, b4, _) =>
 .br (decide (v41 < (3 : Int))) (
 .nb v41 (3 : Int) <|
 .ni (c3_0 + (((v40.1 :: (v40.2.1 :: (v40.2.2 :: [])))).getD (Int.toNat v41) (0 : Int))) <|
 .bd (.it g14_1 (v0, (v41, ((((v40.1 :: (v40.2.1 :: (v40.2.2 :: [])))).getD (Int.toNat v41) (0 : Int)), ((v40.1, (v40.2.1, v40.2.2)), (v41, ((((v0).length : Nat) : Int), ((0 : Int), (c0_0, (c1_0, (c1_1, (b2, ((c3_0 + (((v40.1 :: (v40.2.1 :: (v40.2.2 :: [])))).getD (Int.toNat v41) (0 : Int))), (nc3_1, (b4, ()))))))))))))))) fun z6 =>
 .ni (z6.2.2.1 + (1 : Int)) <|
 .ret (.inl (z6.1, ((z6.2.1.1, (z6.2.1.2.1, z6.2.1.2.2)), ((z6.2.2.1 + (1 : Int)), (z6.2.2.2.1, (z6.2.2.2.2.1, (z6.2.2.2.2.2.1, (z6.2.2.2.2.2.2.1, (z6.2.2.2.2.2.2.2.1, (z6.2.2.2.2.2.2.2.2.1, (z6.2.2.2.2.2.2.2.2.2.1, ())))))))))))) (
 .ret (.inr (c0_0, (c3_0, (nc3_1, (b4, ()))))))
theorem s14_0 : ∀ x, roundE (kzO (p14_0.T ⊕ x14_0.T)) cx14 ar0 [] p14_0 x14_0 (b14_0) (fun y => some (.inl y)) (fun b => some (.inr b)) x = run0 (g14_0 x) := fun x => by kernel_rfl
noncomputable def L14_0 : LoopS prog 80 none 0 := mkLoop mixed cx14 cx14_ok [] rfl p14_0 x14_0 rfl (b14_0) (fun x => run0 (g14_0 x)) (s14_0)
noncomputable def dd14 : D prog 80 none 0 := dO [.l L14_0] (kd prog f14) 0
noncomputable def F14 (a0 : List (List (Int × Int))) (a1 : Int × Int) : Tr0 ((Int × List (Int × Int)) × Int × Unit) :=
 .bd (F31 a0 (a1.1, a1.2)) fun y0 =>
 .br (!(y0.1 == (0 : Int))) (
 .ret (((0 : Int), []), (y0.1, ()))) (
 .bd (F33 a0) fun y1 =>
 .bd (F32 y1.1.1 (a1.1, a1.2) (1 : Int)) fun y2 =>
 .br (!y2.1) (
 .ret (((0 : Int), []), ((10 : Int), ()))) (
 .bd (F34 y1.1.1 (a1.1, a1.2)) fun y3 =>
 .nb (((a0).length : Nat) : Int) ((bigL : Nat) : Int) <|
 .bd (.it g14_0 (a0, (((((y3.2.1.1 :: (y3.2.1.2.1 :: (y3.2.1.2.2 :: [])))).getD (0 : Nat) (0 : Int)), ((((y3.2.1.1 :: (y3.2.1.2.1 :: (y3.2.1.2.2 :: [])))).getD (1 : Nat) (0 : Int)), (((y3.2.1.1 :: (y3.2.1.2.1 :: (y3.2.1.2.2 :: [])))).getD (2 : Nat) (0 : Int)))), ((0 : Int), ((0 : Int), (y1.1.1, (y1.1.2, ((y3.1.1 :: (y3.1.2.1 :: (y3.1.2.2 :: []))), ((0 : Int), ((Int.toNat (((a0).length : Nat) : Int)), ((List.replicate (Int.toNat (((a0).length : Nat) : Int)) ((0 : Int), (0 : Int))), ()))))))))))) fun z7 =>
 .ret ((z7.2.1, (((z7.2.2.2.1).drop (0 : Nat)).take z7.2.2.1)), ((0 : Int), ()))))
theorem c14_ok : trF prog f14 = some ⟨80, 2, dd14.er, [.cell 4 true 2, .t 5], [some (.prod tI (.list (.prod tI tI))), some tI]⟩ := by kernel_rfl
noncomputable def ct14 : Ct := ⟨14, [.c (.hole (.list (.list (.prod tI tI)))), .c (.hole (.prod tI tI))], .tup [.hole (.prod tI (.list (.prod tI tI))), .hole tI], fun x => run0 (F14 x.1 x.2.1)⟩
theorem ct14_ok : ct14.Ok prog := ct_ok mixed cx14_ok func14 c14_ok (enters_of func14 rfl rfl) dd14 (by kernel_rfl) rfl (fun x => by kernel_rfl)

/- 15 -/
noncomputable def cx15 : Cx := (mkCxH [ct31, ct33, ct37, ct49, ct38, ct57, ct39] [])
theorem cx15_ok : cx15.Ok prog := mkCxH_ok ⟨ct31_ok, ct33_ok, ct37_ok, ct49_ok, ct38_ok, ct57_ok, ct39_ok, trivial⟩ trivial
noncomputable def ad15_0 : D prog 64 (some 4) 24 := dO [] (pick (kd prog f15) [(0, false)]) 0
noncomputable def bd15_0 : D prog 64 (some 4) 24 := dO [] (pick (kd prog f15) [(0, true)]) 0
noncomputable def cx15_0i : Cx := itCx cx15 (fun kz => rdK kz cx15 ar0 4 24 [27] (ad15_0) (bd15_0))
theorem cx15_0i_ok : (cx15_0i).Ok prog := itCx_ok cx15_ok (fun h => rdK_ok mixed cx15_ok h)
@[reducible] def p15_0i_0 : Pat := Pat.mk [(0, .c (.yl 4)), (1, .c (.ipc (.list (.prod tI tI)))), (5, .c (.hole (.list (.prod tI tI)))), (6, hI), (7, hI)] [(4, .loop .ready none 3 [(0, .c (.hole (.list (.list (.prod tI tI))))), (3, .c (.ptr 0 0)), (4, hI), (5, hI), (6, hI), (8, .c (.ptr 1 0)), (26, .fn 56 [] [.ipc (.list (.prod tI tI))])] [27] (.reg [.op (some 9) none (.alloc [.int .i64 (Int.ofNat 0), .int .i64 (Int.ofNat 0), .int .i64 (Int.ofNat 0), .int .i64 (Int.ofNat 0)]), .op none none (.store 4 (.t 9) (.t 27))]) (.block 1 (.reg [.op (some 28) none (.load false 1 (.t 8)), .op (some 29) none (.fld 2 [true] (.t 9)), .op (some 30) none (.fld 1 [true] (.t 29)), .op (some 31) none (.load false 1 (.t 30)), .op (some 32) none (.fld 2 [true] (.t 9)), .op (some 33) none (.fld 0 [false] (.t 32)), .op (some 34) none (.load false 1 (.t 33)), .op (some 35) none (.neg (.t 34)), .op (some 36) none (.build [.int .i64 (Int.ofNat 0), .int .i64 (Int.ofNat 0)] [(0, 1, .t 31), (1, 1, .t 35)]), .op (some 37) none (.bslice (.prod tI tI) [.t 36]), .op (some 38) none (.append 2 (.t 28) (.t 37)), .op none none (.store 1 (.t 8) (.t 38))])) 64), (3, .dfr), (0, .cells [.hole tI, .hole tI] false), (1, .cells [.sl0 5 (.prod tI tI)] false), (5, .arr (.prod tI tI) false)] [.cell 1 0] []
@[reducible] def x15_0i_0 : Outs := [(.exit 0, Pat.mk [] [(0, .cells [.hole tI, .hole tI] false), (1, .cells [.sl0 5 (.prod tI tI)] false), (3, .dfr), (4, .loop .ready none 3 [(0, .c (.hole (.list (.list (.prod tI tI))))), (3, .c (.ptr 0 0)), (4, hI), (5, hI), (6, hI), (8, .c (.ptr 1 0)), (26, .fn 56 [] [.ipc (.list (.prod tI tI))])] [27] (.reg [.op (some 9) none (.alloc [.int .i64 (Int.ofNat 0), .int .i64 (Int.ofNat 0), .int .i64 (Int.ofNat 0), .int .i64 (Int.ofNat 0)]), .op none none (.store 4 (.t 9) (.t 27))]) (.block 1 (.reg [.op (some 28) none (.load false 1 (.t 8)), .op (some 29) none (.fld 2 [true] (.t 9)), .op (some 30) none (.fld 1 [true] (.t 29)), .op (some 31) none (.load false 1 (.t 30)), .op (some 32) none (.fld 2 [true] (.t 9)), .op (some 33) none (.fld 0 [false] (.t 32)), .op (some 34) none (.load false 1 (.t 33)), .op (some 35) none (.neg (.t 34)), .op (some 36) none (.build [.int .i64 (Int.ofNat 0), .int .i64 (Int.ofNat 0)] [(0, 1, .t 31), (1, 1, .t 35)]), .op (some 37) none (.bslice (.prod tI tI) [.t 36]), .op (some 38) none (.append 2 (.t 28) (.t 37)), .op none none (.store 1 (.t 8) (.t 38))])) 64), (5, .arr (.prod tI tI) false)] [.cell 1 0] [])]
noncomputable def b15_0i_0 : D prog 33 none 5 := dO [] (pick (kd prog f56) [(0, false)]) 0
noncomputable def g15_0i_0 : (List (Int × Int)) × (List (Int × Int)) × Int × Int × (List (List (Int × Int))) × Int × Int × Int × (List (Int × Int)) × Int × Int × Nat × (List (Int × Int)) × Unit → Tr0 (((List (Int × Int)) × (List (Int × Int)) × Int × Int × (List (List (Int × Int))) × Int × Int × Int × (List (Int × Int)) × Int × Int × Nat × (List (Int × Int)) × Unit) ⊕ ((Int × Int × Nat × (List (List (Int × Int))) × Int × Int × Int × (List (Int × Int)) × (List (Int × Int)) × Unit))) := fun (v1, v5, v6, v7, w0, w4, w5, w6, w26_0, c0_0, c0_1, nc1_0, b5, _) =>
 .br (decide (v7 < v6)) (
 .nb v7 (((v5).length : Nat) : Int) <|
 .br (decide ((1 : Int) < (((v1).length : Nat) : Int))) (
 .ni (v7 + (1 : Int)) <|
 .nd (!((((v1).length : Nat) : Int) == (0 : Int))) <|
 .nb (Int.tmod (v7 + (1 : Int)) (((v1).length : Nat) : Int)) (((v1).length : Nat) : Int) <|
 .bd (F49 (((v1).getD (Int.toNat (Int.tmod (v7 + (1 : Int)) (((v1).length : Nat) : Int))) ((0 : Int), (0 : Int))).1, ((v1).getD (Int.toNat (Int.tmod (v7 + (1 : Int)) (((v1).length : Nat) : Int))) ((0 : Int), (0 : Int))).2) (((v5).getD (Int.toNat v7) ((0 : Int), (0 : Int))).1, ((v5).getD (Int.toNat v7) ((0 : Int), (0 : Int))).2)) fun y3 =>
 .ni ((0 : Int) - y3.1.1) <|
 .nd (decide ((nc1_0 + ((((((y3.1.2, ((0 : Int) - y3.1.1)) :: [])).drop (0 : Nat)).take (1 : Nat))).length) < bigL)) <|
 .ni (v7 + (1 : Int)) <|
 .ret (.inl (v1, (v5, (v6, ((v7 + (1 : Int)), (w0, (w4, (w5, (w6, (w26_0, (c0_0, (c0_1, ((nc1_0 + ((((((y3.1.2, ((0 : Int) - y3.1.1)) :: [])).drop (0 : Nat)).take (1 : Nat))).length), (((((b5).drop (0 : Nat)).take nc1_0) ++ (((((y3.1.2, ((0 : Int) - y3.1.1)) :: [])).drop (0 : Nat)).take (1 : Nat))), ()))))))))))))))) (
 .ni (v7 + (1 : Int)) <|
 .ret (.inl (v1, (v5, (v6, ((v7 + (1 : Int)), (w0, (w4, (w5, (w6, (w26_0, (c0_0, (c0_1, (nc1_0, (b5, ())))))))))))))))) (
 .ret (.inr (c0_0, (c0_1, (nc1_0, (w0, (w4, (w5, (w6, (w26_0, (b5, ())))))))))))
theorem s15_0i_0 : ∀ x, roundE (kzO (p15_0i_0.T ⊕ x15_0i_0.T)) cx15_0i ar0 [0, 1, 2, 3, 4] p15_0i_0 x15_0i_0 (b15_0i_0) (fun y => some (.inl y)) (fun b => some (.inr b)) x = run0 (g15_0i_0 x) := fun x => by kernel_rfl
noncomputable def L15_0i_0 : LoopS prog 33 none 5 := mkLoop mixed cx15_0i cx15_0i_ok [0, 1, 2, 3, 4] rfl p15_0i_0 x15_0i_0 rfl (b15_0i_0) (fun x => run0 (g15_0i_0 x)) (s15_0i_0)
@[reducible] def p15_0 : Pat := Pat.mk [(0, .c (.hole (.list (.list (.prod tI tI))))), (3, .c (.ptr 0 0)), (4, hI), (5, hI), (6, hI), (8, .c (.ptr 1 0)), (26, .fn 56 [] [.ipc (.list (.prod tI tI))])] [(0, .cells [.hole tI, .hole tI] false), (1, .cells [.sl0 2 (.prod tI tI)] false), (2, .arr (.prod tI tI) false)] [.slot 3, .slot 8, .cell 1 0] []
@[reducible] def x15_0 : Outs := [(.normal, Pat.mk [(0, .c (.hole (.list (.list (.prod tI tI))))), (3, .c (.ptr 0 0)), (8, .c (.ptr 1 0))] [(0, .cells [.hole tI, .hole tI] false), (1, .cells [.sl0 2 (.prod tI tI)] false), (2, .arr (.prod tI tI) false)] [.slot 3, .slot 8, .cell 1 0] [])]
noncomputable def b15_0i : D prog 33 none 5 := dO [.l L15_0i_0] (kd prog f56) 0
theorem ci15_0 : trF prog f56 = some ⟨33, 2, (b15_0i).er, [], []⟩ := by kernel_rfl
noncomputable def g15_0 : (List (List (Int × Int))) × Int × Int × Int × (List (Int × Int)) × Int × Int × Nat × (List (Int × Int)) × Unit → Tr0 (((List (List (Int × Int))) × Int × Int × Nat × (List (Int × Int)) × Unit)) := fun (v0, v4, v5, v6, v26_0, c0_0, c0_1, nc1_0, b2, _) =>
 .bd (.it g15_0i_0 (v26_0, (v26_0, ((((v26_0).length : Nat) : Int), ((0 : Int), (v0, (v4, (v5, (v6, (v26_0, (c0_0, (c0_1, (nc1_0, (b2, ())))))))))))))) fun z4 =>
 .ret ((v0, (z4.1, (z4.2.1, (z4.2.2.1, (z4.2.2.2.2.2.2.2.2.1, ()))))))
theorem s15_0 : ∀ x, rangeE (N := 64) (out := none) (base := 0) (kzO x15_0.T) cx15_0i ar0 [] p15_0 x15_0 ( .t 26) [27] (ad15_0).er (bd15_0).er [] 2 56 (b15_0i) some x = run0 (g15_0 x) := fun x => by kernel_rfl
noncomputable def R15_0 : RangeS prog 64 none 0 := mkRange mixed cx15_0i cx15_0i_ok [] rfl p15_0 x15_0 ( .t 26) [27] rfl (ad15_0).er (bd15_0).er 56 func56 (ci15_0) (enters_of func56 rfl rfl) 5 rfl (b15_0i) rfl (fun x => run0 (g15_0 x)) (s15_0)
@[reducible] def p15_1 : Pat := Pat.mk [(0, .c (.hole (.list (.list (.prod tI tI))))), (3, .c (.ptr 0 0)), (39, .c (.sl0 1 (.prod tI tI))), (40, hI), (41, hI)] [(0, .cells [.hole tI, .hole tI] false), (1, .arr (.prod tI tI) false)] [.slot 3, .slot 39] []
@[reducible] def x15_1 : Outs := [(.ret, Pat.mk [(4, hI), (5, hI), (6, hI)] [] [] []), (.exit 2, Pat.mk [] [] [] [])]
noncomputable def b15_1 : D prog 64 none 0 := dO [] (pick (kd prog f15) [(1, false)]) 0
noncomputable def g15_1 : (List (List (Int × Int))) × Nat × Int × Int × Int × Int × (List (Int × Int)) × Unit → Tr0 (((List (List (Int × Int))) × Nat × Int × Int × Int × Int × (List (Int × Int)) × Unit) ⊕ ((Int × Int × Int × Unit) ⊕ ((Unit)))) := fun (v0, nv39, v40, v41, c0_0, c0_1, b1, _) =>
 .br (decide (v41 < v40)) (
 .nb v41 ((nv39 : Nat) : Int) <|
 .nd (decide (((0 : Nat) + (Int.toNat v41)) < (b1).length)) <|
 .bd (F38 ((b1).getD ((0 : Nat) + (Int.toNat v41)) ((0 : Int), (0 : Int))).1 ((b1).getD ((0 : Nat) + (Int.toNat v41)) ((0 : Int), (0 : Int))).2) fun y6 =>
 .bd (F57 (c0_0, c0_1) y6.1 y6.2.1) fun y7 =>
 .bd (F39 v0 ((b1).getD ((0 : Nat) + (Int.toNat v41)) ((0 : Int), (0 : Int))).1 ((b1).getD ((0 : Nat) + (Int.toNat v41)) ((0 : Int), (0 : Int))).2) fun y8 =>
 .br (decide (y8.1 < y7.1)) (
 .ret (.inr <| .inl <| (((b1).getD ((0 : Nat) + (Int.toNat v41)) ((0 : Int), (0 : Int))).1, (((b1).getD ((0 : Nat) + (Int.toNat v41)) ((0 : Int), (0 : Int))).2, ((0 : Int), ()))))) (
 .ni (v41 + (1 : Int)) <|
 .ret (.inl (v0, (nv39, (v40, ((v41 + (1 : Int)), (c0_0, (c0_1, (b1, ())))))))))) (
 .ret (.inr <| .inr <| ()))
theorem s15_1 : ∀ x, roundE (kzO (p15_1.T ⊕ x15_1.T)) cx15 ar0 [] p15_1 x15_1 (b15_1) (fun y => some (.inl y)) (fun b => some (.inr b)) x = run0 (g15_1 x) := fun x => by kernel_rfl
noncomputable def L15_1 : LoopS prog 64 none 0 := mkLoop mixed cx15 cx15_ok [] rfl p15_1 x15_1 rfl (b15_1) (fun x => run0 (g15_1 x)) (s15_1)
noncomputable def dd15 : D prog 64 none 0 := dO [.r R15_0, .l L15_1] (kd prog f15) 0
noncomputable def F15 (a0 : List (List (Int × Int))) (a1 : Int × Int) : Tr0 (Int × Int × Int × Unit) :=
 .bd (F31 a0 (a1.1, a1.2)) fun y0 =>
 .br (!(y0.1 == (0 : Int))) (
 .ret ((0 : Int), ((0 : Int), (y0.1, ())))) (
 .bd (F33 a0) fun y1 =>
 .bd (F37 y1.1.1) fun y2 =>
 .bd (g15_0 (a0, ((0 : Int), ((0 : Int), ((0 : Int), (y2.1, (a1.1, (a1.2, ((4 : Nat), ((((1 : Int), (0 : Int)) :: (((-1 : Int), (0 : Int)) :: (((0 : Int), (1 : Int)) :: (((0 : Int), (-1 : Int)) :: [])))), ())))))))))) fun z5 =>
 .bd (.it g15_1 (z5.1, (z5.2.2.2.1, (((z5.2.2.2.1 : Nat) : Int), ((0 : Int), (z5.2.1, (z5.2.2.1, (z5.2.2.2.2.1, ())))))))) fun z9 =>
 .sm z9 (fun z10 =>
 .ret (z10.1, (z10.2.1, (z10.2.2.1, ())))) fun z11 =>
 .ret ((0 : Int), ((0 : Int), ((5 : Int), ()))))
theorem c15_ok : trF prog f15 = some ⟨64, 2, dd15.er, [.t 4, .t 5, .t 6], [some tI, some tI, some tI]⟩ := by kernel_rfl
noncomputable def ct15 : Ct := ⟨15, [.c (.hole (.list (.list (.prod tI tI)))), .c (.hole (.prod tI tI))], .tup [.hole tI, .hole tI, .hole tI], fun x => run0 (F15 x.1 x.2.1)⟩
theorem ct15_ok : ct15.Ok prog := ct_ok mixed cx15_ok func15 c15_ok (enters_of func15 rfl rfl) dd15 (by kernel_rfl) rfl (fun x => by kernel_rfl)

/- 20 -/
noncomputable def cx20 : Cx := (mkCxH [ct31, ct41, ct32, ct35, ct36] [])
theorem cx20_ok : cx20.Ok prog := mkCxH_ok ⟨ct31_ok, ct41_ok, ct32_ok, ct35_ok, ct36_ok, trivial⟩ trivial
@[reducible] def p20_0 : Pat := Pat.mk [(0, .c (.hole (.list (.list (.prod tI tI))))), (4, .c (.ptr 0 0)), (5, .c (.ptr 1 0)), (8, .c (.ptr 2 0)), (34, .c (.hole (.list (.prod tI tI)))), (35, hI), (36, hI)] [(0, .cells [.hole tI, .hole tI] false), (1, .cells [.hole tI, .hole (.list (.prod tI tI))] false), (2, .cells [.hole tI, .hole tI] false)] [.slot 4, .slot 5, .slot 8] []
@[reducible] def x20_0 : Outs := [(.ret, Pat.mk [(6, hI)] [] [] []), (.exit 1, Pat.mk [(4, .c (.ptr 0 0)), (5, .c (.ptr 1 0)), (8, .c (.ptr 2 0))] [(0, .cells [.hole tI, .hole tI] false), (1, .cells [.hole tI, .hole (.list (.prod tI tI))] false), (2, .cells [.hole tI, .hole tI] false)] [.slot 4, .slot 5, .slot 8] [])]
noncomputable def b20_0 : D prog 68 none 0 := dO [] (pick (kd prog f20) [(0, false)]) 0
noncomputable def g20_0 : (List (List (Int × Int))) × (List (Int × Int)) × Int × Int × Int × Int × Int × (List (Int × Int)) × Int × Int × Unit → Tr0 (((List (List (Int × Int))) × (List (Int × Int)) × Int × Int × Int × Int × Int × (List (Int × Int)) × Int × Int × Unit) ⊕ ((Int × Unit) ⊕ ((Int × Int × Int × (List (Int × Int)) × Int × Int × Unit)))) := fun (v0, v34, v35, v36, c0_0, c0_1, c1_0, c1_1, c2_0, c2_1, _) =>
 .br (decide (v36 < v35)) (
 .nb v36 (((v34).length : Nat) : Int) <|
 .ni ((1000 : Int) * c1_0) <|
 .bd (F41 (((v34).getD (Int.toNat v36) ((0 : Int), (0 : Int))).1, ((v34).getD (Int.toNat v36) ((0 : Int), (0 : Int))).2) ((1000 : Int) * c1_0)) fun y1 =>
 .br (!y1.1) (
 .ret (.inr <| .inl <| ((10 : Int), ()))) (
 .nb v36 (((v0).length : Nat) : Int) <|
 .bd (F32 ((v0).getD (Int.toNat v36) []) (((v34).getD (Int.toNat v36) ((0 : Int), (0 : Int))).1, ((v34).getD (Int.toNat v36) ((0 : Int), (0 : Int))).2) c1_0) fun y2 =>
 .br (!y2.1) (
 .ret (.inr <| .inl <| ((10 : Int), ()))) (
 .bd (F35 (c2_0, c2_1) (((v34).getD (Int.toNat v36) ((0 : Int), (0 : Int))).1, ((v34).getD (Int.toNat v36) ((0 : Int), (0 : Int))).2)) fun y3 =>
 .ni (v36 + (1 : Int)) <|
 .ret (.inl (v0, (v34, (v35, ((v36 + (1 : Int)), (c0_0, (c0_1, (c1_0, (c1_1, (y3.1.1, (y3.1.2, ())))))))))))))) (
 .ret (.inr <| .inr <| (c0_0, (c0_1, (c1_0, (c1_1, (c2_0, (c2_1, ()))))))))
theorem s20_0 : ∀ x, roundE (kzO (p20_0.T ⊕ x20_0.T)) cx20 ar0 [] p20_0 x20_0 (b20_0) (fun y => some (.inl y)) (fun b => some (.inr b)) x = run0 (g20_0 x) := fun x => by kernel_rfl
noncomputable def L20_0 : LoopS prog 68 none 0 := mkLoop mixed cx20 cx20_ok [] rfl p20_0 x20_0 rfl (b20_0) (fun x => run0 (g20_0 x)) (s20_0)
noncomputable def dd20 : D prog 68 none 0 := dO [.l L20_0] (kd prog f20) 0
noncomputable def F20 (a0 : List (List (Int × Int))) (a1 : Int × Int) (a2 : Int × List (Int × Int)) : Tr0 (Int × Unit) :=
 .bd (F31 a0 (a1.1, a1.2)) fun y0 =>
 .br (!(y0.1 == (0 : Int))) (
 .ret (y0.1, ())) (
 .br (decide (a2.1 < (1 : Int))) (
 .ret ((2 : Int), ())) (
 .br (decide ((1000000000 : Int) < a2.1)) (
 .ret ((2 : Int), ())) (
 .br (!((((a2.2).length : Nat) : Int) == (((a0).length : Nat) : Int))) (
 .ret ((3 : Int), ())) (
 .bd (.it g20_0 (a0, (a2.2, ((((a2.2).length : Nat) : Int), ((0 : Int), (a1.1, (a1.2, (a2.1, (a2.2, ((0 : Int), ((0 : Int), ()))))))))))) fun z4 =>
 .sm z4 (fun z5 =>
 .ret (z5.1, ())) fun z6 =>
 .bd (F36 (z6.1, z6.2.1) z6.2.2.1) fun y7 =>
 .br (!((z6.2.2.2.2.1 == y7.1.1) && ((z6.2.2.2.2.2.1 == y7.1.2) && true))) (
 .ret ((19 : Int), ())) (
 .ret ((0 : Int), ()))))))
theorem c20_ok : trF prog f20 = some ⟨68, 3, dd20.er, [.t 6], [some tI]⟩ := by kernel_rfl
noncomputable def ct20 : Ct := ⟨20, [.c (.hole (.list (.list (.prod tI tI)))), .c (.hole (.prod tI tI)), .c (.hole (.prod tI (.list (.prod tI tI))))], hI, fun x => run0 (F20 x.1 x.2.1 x.2.2.1)⟩
theorem ct20_ok : ct20.Ok prog := ct_ok mixed cx20_ok func20 c20_ok (enters_of func20 rfl rfl) dd20 (by kernel_rfl) rfl (fun x => by kernel_rfl)

/- 18 -/
noncomputable def cx18 : Cx := (mkCxH [ct27, ct28, ct24, ct16, ct21, ct13, ct23, ct22, ct26, ct14, ct15, ct20, ct17] [])
theorem cx18_ok : cx18.Ok prog := mkCxH_ok ⟨ct27_ok, ct28_ok, ct24_ok, ct16_ok, ct21_ok, ct13_ok, ct23_ok, ct22_ok, ct26_ok, ct14_ok, ct15_ok, ct20_ok, ct17_ok, trivial⟩ trivial
noncomputable def dd18 : D prog 189 none 0 := dO [] (kd prog f18) 0
noncomputable def F18 : Tr0 (Bool × Unit) :=
 .bd (F27) fun y0 =>
 .bd (F28) fun y1 =>
 .bd (F24 ((((((4 : Int), (4 : Int)) :: (((0 : Int), (0 : Int)) :: (((10 : Int), (0 : Int)) :: (((5 : Int), (1 : Int)) :: (((10 : Int), (2 : Int)) :: (((7 : Int), (3 : Int)) :: (((10 : Int), (1 : Int)) :: [])))))))).drop (0 : Nat)).take (7 : Nat))) fun y2 =>
 .bd (F16 ((((y0.1 :: (y1.1 :: []))).drop (0 : Nat)).take (2 : Nat))) fun y3 =>
 .bd (F21 ((((y0.1 :: (y1.1 :: []))).drop (0 : Nat)).take (2 : Nat)) (1 : Int) (2 : Int)) fun y4 =>
 .bd (F13 ((((y0.1 :: (y1.1 :: []))).drop (0 : Nat)).take (2 : Nat)) ((5 : Int), (7 : Int))) fun y5 =>
 .bd (F13 ((((y0.1 :: (y1.1 :: []))).drop (0 : Nat)).take (2 : Nat)) ((5 : Int), (8 : Int))) fun y6 =>
 .br (!(y2.2.1 == (0 : Int))) (
 .ret (false, ())) (
 .br (!(y3.2.1 == (0 : Int))) (
 .ret (false, ())) (
 .br (!(y4.2.1 == (0 : Int))) (
 .ret (false, ())) (
 .br (!(y5.2.1 == (0 : Int))) (
 .ret (false, ())) (
 .br (!(y6.2.1 == (0 : Int))) (
 .ret (false, ())) (
 .bd (F27) fun y7 =>
 .bd (F23 y2.1 y7.1) fun y8 =>
 .br (!y8.1) (
 .ret (false, ())) (
 .bd (F23 y3.1 ((((((0 : Int), (1 : Int)) :: (((3 : Int), (0 : Int)) :: (((13 : Int), (0 : Int)) :: (((13 : Int), (7 : Int)) :: (((7 : Int), (9 : Int)) :: (((3 : Int), (5 : Int)) :: []))))))).drop (0 : Nat)).take (6 : Nat))) fun y9 =>
 .br (!y9.1) (
 .ret (false, ())) (
 .br (!(y4.1 == (27 : Int))) (
 .ret (false, ())) (
 .br (!y5.1) (
 .ret (false, ())) (
 .br y6.1 (
 .ret (false, ())) (
 .bd (F22 ((((y0.1 :: (y1.1 :: []))).drop (0 : Nat)).take (2 : Nat)) (8 : Int)) fun y10 =>
 .bd (F22 ((((y0.1 :: (y1.1 :: []))).drop (0 : Nat)).take (2 : Nat)) (10 : Int)) fun y11 =>
 .bd (F28) fun y12 =>
 .bd (F26) fun y13 =>
 .bd (F14 ((((y12.1 :: (y13.1 :: []))).drop (0 : Nat)).take (2 : Nat)) ((4 : Int), (1 : Int))) fun y14 =>
 .bd (F15 ((((y0.1 :: (y1.1 :: []))).drop (0 : Nat)).take (2 : Nat)) ((5 : Int), (8 : Int))) fun y15 =>
 .br (y10.2.1 == (0 : Int)) (
 .br (y11.2.1 == (5 : Int)) (
 .br (y14.2.1 == (0 : Int)) (
 .br (y15.2.2.1 == (0 : Int)) (
 .br ((y10.1.1 == (6 : Int)) && ((y10.1.2 == (10 : Int)) && true)) (
 .bd (F20 ((((y12.1 :: (y13.1 :: []))).drop (0 : Nat)).take (2 : Nat)) ((4 : Int), (1 : Int)) (y14.1.1, y14.1.2)) fun y16 =>
 .br (y16.1 == (0 : Int)) (
 .bd (F20 ((((y12.1 :: (y13.1 :: []))).drop (0 : Nat)).take (2 : Nat)) ((4 : Int), (1 : Int)) ((3 : Int), ((((((5 : Int), (5 : Int)) :: (((7 : Int), (-2 : Int)) :: []))).drop (0 : Nat)).take (2 : Nat)))) fun y17 =>
 .br (y17.1 == (0 : Int)) (
 .bd (F20 ((((y12.1 :: (y13.1 :: []))).drop (0 : Nat)).take (2 : Nat)) ((4 : Int), (1 : Int)) ((2 : Int), ((((((4 : Int), (4 : Int)) :: (((5 : Int), (-1 : Int)) :: []))).drop (0 : Nat)).take (2 : Nat)))) fun y18 =>
 .br (y18.1 == (19 : Int)) (
 .bd (F17 ((((y0.1 :: (y1.1 :: []))).drop (0 : Nat)).take (2 : Nat)) ((5 : Int), (8 : Int)) y15.1 y15.2.1) fun y19 =>
 .br (y19.1 == (0 : Int)) (
 .bd (F17 ((((y0.1 :: (y1.1 :: []))).drop (0 : Nat)).take (2 : Nat)) ((5 : Int), (8 : Int)) (0 : Int) (1 : Int)) fun y20 =>
 .ret ((y20.1 == (11 : Int)), ())) (
 .ret (false, ()))) (
 .ret (false, ()))) (
 .ret (false, ()))) (
 .ret (false, ()))) (
 .ret (false, ()))) (
 .ret (false, ()))) (
 .ret (false, ()))) (
 .ret (false, ()))) (
 .ret (false, ()))))))))))))
theorem c18_ok : trF prog f18 = some ⟨189, 0, dd18.er, [.t 0], [some .bool]⟩ := by kernel_rfl
noncomputable def ct18 : Ct := ⟨18, [], .c (.hole .bool), fun x => run0 (F18)⟩
theorem ct18_ok : ct18.Ok prog := ct_ok mixed cx18_ok func18 c18_ok (enters_of func18 rfl rfl) dd18 (by kernel_rfl) rfl (fun x => by kernel_rfl)

/- 25 -/
noncomputable def cx25 : Cx := (mkCxH [] [])
theorem cx25_ok : cx25.Ok prog := mkCxH_ok trivial trivial
@[reducible] def p25_0 : Pat := Pat.mk [(0, .c (.hole (.list (.prod (.int .i8) (.int .i8))))), (3, .c (.sl0 0 (.prod tI tI))), (4, hI)] [(0, .arr (.prod tI tI) false)] [.slot 3] []
@[reducible] def x25_0 : Outs := [(.exit 0, Pat.mk [(3, .c (.sl0 0 (.prod tI tI)))] [(0, .arr (.prod tI tI) false)] [.slot 3] [])]
noncomputable def b25_0 : D prog 38 none 0 := dO [] (pick (kd prog f25) [(0, false)]) 0
noncomputable def g25_0 : (List (Int × Int)) × Nat × Int × (List (Int × Int)) × Unit → Tr0 (((List (Int × Int)) × Nat × Int × (List (Int × Int)) × Unit) ⊕ ((Nat × (List (Int × Int)) × Unit))) := fun (v0, nv3, v4, b0, _) =>
 .br (decide (v4 < (((v0).length : Nat) : Int))) (
 .br (decide (v4 < (4 : Int))) (
 .jx (
 .br (v4 == (0 : Int)) (
 .ret (.inl (v0, ((0 : Nat), (v4, (v4, ((decide (v4 < (4 : Int))), ([], ())))))))) (
 .ret (.inl (v0, (nv3, (v4, (v4, ((decide (v4 < (4 : Int))), (b0, ()))))))))) fun j0 =>
 .nb j0.2.2.1 (((j0.1).length : Nat) : Int) <|
 .ni ((j0.1).getD (Int.toNat j0.2.2.1) ((0 : Int), (0 : Int))).1 <|
 .nd (!((8 : Int) == (0 : Int))) <|
 .ni (Int.tdiv ((j0.1).getD (Int.toNat j0.2.2.1) ((0 : Int), (0 : Int))).1 (8 : Int)) <|
 .nb j0.2.2.1 (((j0.1).length : Nat) : Int) <|
 .ni ((j0.1).getD (Int.toNat j0.2.2.1) ((0 : Int), (0 : Int))).2 <|
 .nd (!((8 : Int) == (0 : Int))) <|
 .ni (Int.tdiv ((j0.1).getD (Int.toNat j0.2.2.1) ((0 : Int), (0 : Int))).2 (8 : Int)) <|
 .nd (decide ((j0.2.1 + (((((((Int.tdiv ((j0.1).getD (Int.toNat j0.2.2.1) ((0 : Int), (0 : Int))).1 (8 : Int)), (Int.tdiv ((j0.1).getD (Int.toNat j0.2.2.1) ((0 : Int), (0 : Int))).2 (8 : Int))) :: [])).drop (0 : Nat)).take (1 : Nat))).length) < bigL)) <|
 .ni (j0.2.2.1 + (1 : Int)) <|
 .ret (.inl (j0.1, ((j0.2.1 + (((((((Int.tdiv ((j0.1).getD (Int.toNat j0.2.2.1) ((0 : Int), (0 : Int))).1 (8 : Int)), (Int.tdiv ((j0.1).getD (Int.toNat j0.2.2.1) ((0 : Int), (0 : Int))).2 (8 : Int))) :: [])).drop (0 : Nat)).take (1 : Nat))).length), ((j0.2.2.1 + (1 : Int)), (((((j0.2.2.2.2.2.1).drop (0 : Nat)).take j0.2.1) ++ ((((((Int.tdiv ((j0.1).getD (Int.toNat j0.2.2.1) ((0 : Int), (0 : Int))).1 (8 : Int)), (Int.tdiv ((j0.1).getD (Int.toNat j0.2.2.1) ((0 : Int), (0 : Int))).2 (8 : Int))) :: [])).drop (0 : Nat)).take (1 : Nat))), ())))))) (
 .ret (.inr (nv3, (b0, ()))))) (
 .ret (.inr (nv3, (b0, ()))))
theorem s25_0 : ∀ x, roundE (kzO (p25_0.T ⊕ x25_0.T)) cx25 ar0 [] p25_0 x25_0 (b25_0) (fun y => some (.inl y)) (fun b => some (.inr b)) x = run0 (g25_0 x) := fun x => Eq.trans (b := run0 (flat (g25_0 x))) (by kernel_rfl) run_flat
noncomputable def L25_0 : LoopS prog 38 none 0 := mkLoop mixed cx25 cx25_ok [] rfl p25_0 x25_0 rfl (b25_0) (fun x => run0 (g25_0 x)) (s25_0)
noncomputable def dd25 : D prog 38 none 0 := dO [.l L25_0] (kd prog f25) 0
noncomputable def F25 (a0 : List (Int × Int)) : Tr0 ((List (Int × Int)) × Unit) :=
 .bd (.it g25_0 (a0, ((1 : Nat), ((0 : Int), ((((1 : Int), (1 : Int)) :: []), ()))))) fun z1 =>
 .ret ((((z1.2.1).drop (0 : Nat)).take z1.1), ())
theorem c25_ok : trF prog f25 = some ⟨38, 1, dd25.er, [.t 2], [some (.list (.prod tI tI))]⟩ := by kernel_rfl
noncomputable def ct25 : Ct := ⟨25, [.c (.hole (.list (.prod (.int .i8) (.int .i8))))], .c (.hole (.list (.prod tI tI))), fun x => run0 (F25 x.1)⟩
theorem ct25_ok : ct25.Ok prog := ct_ok mixed cx25_ok func25 c25_ok (enters_of func25 rfl rfl) dd25 (by kernel_rfl) rfl (fun x => by kernel_rfl)

/- 10 -/
noncomputable def cx10 : Cx := (mkCxH [ct25, ct24, ct29] [])
theorem cx10_ok : cx10.Ok prog := mkCxH_ok ⟨ct25_ok, ct24_ok, ct29_ok, trivial⟩ trivial
@[reducible] def p10_2 : Pat := Pat.mk [(0, .c (.hole (.list (.list (.prod (.int .i8) (.int .i8)))))), (4, .c (.sl0 0 (.list (.prod tI tI)))), (5, hI), (6, .c (.hole (.list (.prod tI tI)))), (9, .c (.ptr 1 0)), (10, .c (.hole .bool)), (18, hI), (19, .c (.hole .bool)), (35, .c (.hole (.list (.prod tI tI)))), (36, hI), (37, .c (.hole .bool)), (39, .c (.hole (.list (.prod tI tI)))), (40, hI), (41, hI), (49, .c (.hole (.list (.prod tI tI)))), (50, hI), (51, hI)] [(0, .arr (.list (.prod tI tI)) false), (1, .cells [.hole tI, .hole tI] false)] [.slot 4, .slot 9] []
@[reducible] def x10_2 : Outs := [(.exit 4, Pat.mk [(0, .c (.hole (.list (.list (.prod (.int .i8) (.int .i8)))))), (4, .c (.sl0 0 (.list (.prod tI tI)))), (5, hI), (6, .c (.hole (.list (.prod tI tI)))), (10, .c (.hole .bool)), (18, hI), (19, .c (.hole .bool)), (35, .c (.hole (.list (.prod tI tI)))), (36, hI), (37, .c (.hole .bool)), (39, .c (.hole (.list (.prod tI tI)))), (40, hI), (41, hI)] [(0, .arr (.list (.prod tI tI)) false)] [.slot 4] [])]
noncomputable def b10_2 : D prog 73 none 0 := dO [] (pick (kd prog f10) [(0, false), (0, false), (0, false)]) 0
noncomputable def g10_2 : (List (List (Int × Int))) × Nat × Int × (List (Int × Int)) × Bool × Int × Bool × (List (Int × Int)) × Int × Bool × (List (Int × Int)) × Int × Int × (List (Int × Int)) × Int × Int × (List (List (Int × Int))) × Int × Int × Unit → Tr0 (((List (List (Int × Int))) × Nat × Int × (List (Int × Int)) × Bool × Int × Bool × (List (Int × Int)) × Int × Bool × (List (Int × Int)) × Int × Int × (List (Int × Int)) × Int × Int × (List (List (Int × Int))) × Int × Int × Unit) ⊕ (((List (List (Int × Int))) × Nat × Int × (List (Int × Int)) × Bool × Int × Bool × (List (Int × Int)) × Int × Bool × (List (Int × Int)) × Int × Int × (List (List (Int × Int))) × Unit))) := fun (v0, nv4, v5, v6, v10, v18, v19, v35, v36, v37, v39, v40, v41, v49, v50, v51, b0, c1_0, c1_1, _) =>
 .br (decide (v51 < v50)) (
 .nb v51 (((v49).length : Nat) : Int) <|
 .br v10 (
 .ni (v51 + (1 : Int)) <|
 .ret (.inl (v0, (nv4, (v5, (v6, (true, (v18, (v19, (v35, (v36, (v37, (v39, (v40, (v41, (v49, (v50, ((v51 + (1 : Int)), (b0, (c1_0, (c1_1, ()))))))))))))))))))))) (
 .ni (v51 + (1 : Int)) <|
 .ret (.inl (v0, (nv4, (v5, (v6, (((c1_0 == ((v49).getD (Int.toNat v51) ((0 : Int), (0 : Int))).1) && ((c1_1 == ((v49).getD (Int.toNat v51) ((0 : Int), (0 : Int))).2) && true)), (v18, (v19, (v35, (v36, (v37, (v39, (v40, (v41, (v49, (v50, ((v51 + (1 : Int)), (b0, (c1_0, (c1_1, ())))))))))))))))))))))) (
 .ret (.inr (v0, (nv4, (v5, (v6, (v10, (v18, (v19, (v35, (v36, (v37, (v39, (v40, (v41, (b0, ()))))))))))))))))
theorem s10_2 : ∀ x, roundE (kzO (p10_2.T ⊕ x10_2.T)) cx10 ar0 [] p10_2 x10_2 (b10_2) (fun y => some (.inl y)) (fun b => some (.inr b)) x = run0 (g10_2 x) := fun x => by kernel_rfl
noncomputable def L10_2 : LoopS prog 73 none 0 := mkLoop mixed cx10 cx10_ok [] rfl p10_2 x10_2 rfl (b10_2) (fun x => run0 (g10_2 x)) (s10_2)
@[reducible] def p10_1 : Pat := Pat.mk [(0, .c (.hole (.list (.list (.prod (.int .i8) (.int .i8)))))), (4, .c (.sl0 0 (.list (.prod tI tI)))), (5, hI), (6, .c (.hole (.list (.prod tI tI)))), (18, hI), (19, .c (.hole .bool)), (35, .c (.hole (.list (.prod tI tI)))), (36, hI), (37, .c (.hole .bool)), (39, .c (.hole (.list (.prod tI tI)))), (40, hI), (41, hI)] [(0, .arr (.list (.prod tI tI)) false)] [.slot 4] []
@[reducible] def x10_1 : Outs := [(.ret, Pat.mk [(2, .c .nsl), (3, .c (.tf false))] [] [] []), (.exit 2, Pat.mk [(0, .c (.hole (.list (.list (.prod (.int .i8) (.int .i8)))))), (4, .c (.sl0 0 (.list (.prod tI tI)))), (5, hI), (6, .c (.hole (.list (.prod tI tI)))), (18, hI), (19, .c (.hole .bool)), (35, .c (.hole (.list (.prod tI tI)))), (36, hI), (37, .c (.hole .bool))] [(0, .arr (.list (.prod tI tI)) false)] [.slot 4] [])]
noncomputable def b10_1 : D prog 73 none 0 := dO [.l L10_2] (pick (kd prog f10) [(0, false), (0, false)]) 0
noncomputable def g10_1 : (List (List (Int × Int))) × Nat × Int × (List (Int × Int)) × Int × Bool × (List (Int × Int)) × Int × Bool × (List (Int × Int)) × Int × Int × (List (List (Int × Int))) × Unit → Tr0 (((List (List (Int × Int))) × Nat × Int × (List (Int × Int)) × Int × Bool × (List (Int × Int)) × Int × Bool × (List (Int × Int)) × Int × Int × (List (List (Int × Int))) × Unit) ⊕ ((Unit) ⊕ (((List (List (Int × Int))) × Nat × Int × (List (Int × Int)) × Int × Bool × (List (Int × Int)) × Int × Bool × (List (List (Int × Int))) × Unit)))) := fun (v0, nv4, v5, v6, v18, v19, v35, v36, v37, v39, v40, v41, b0, _) =>
 .br (decide (v41 < v40)) (
 .nb v41 (((v39).length : Nat) : Int) <|
 .nb v5 (((v0).length : Nat) : Int) <|
 .bd (F25 ((v0).getD (Int.toNat v5) [])) fun y2 =>
 .bd (.it g10_2 (v0, (nv4, (v5, (v6, (false, (v18, (v19, (v35, (v36, (v37, (v39, (v40, (v41, (y2.1, ((((y2.1).length : Nat) : Int), ((0 : Int), (b0, (((v39).getD (Int.toNat v41) ((0 : Int), (0 : Int))).1, (((v39).getD (Int.toNat v41) ((0 : Int), (0 : Int))).2, ())))))))))))))))))))) fun z3 =>
 .br (!z3.2.2.2.2.1) (
 .ret (.inr <| .inl <| ())) (
 .ni (z3.2.2.2.2.2.2.2.2.2.2.2.2.1 + (1 : Int)) <|
 .ret (.inl (z3.1, (z3.2.1, (z3.2.2.1, (z3.2.2.2.1, (z3.2.2.2.2.2.1, (z3.2.2.2.2.2.2.1, (z3.2.2.2.2.2.2.2.1, (z3.2.2.2.2.2.2.2.2.1, (z3.2.2.2.2.2.2.2.2.2.1, (z3.2.2.2.2.2.2.2.2.2.2.1, (z3.2.2.2.2.2.2.2.2.2.2.2.1, ((z3.2.2.2.2.2.2.2.2.2.2.2.2.1 + (1 : Int)), (z3.2.2.2.2.2.2.2.2.2.2.2.2.2.1, ())))))))))))))))) (
 .ret (.inr <| .inr <| (v0, (nv4, (v5, (v6, (v18, (v19, (v35, (v36, (v37, (b0, ()))))))))))))
theorem s10_1 : ∀ x, roundE (kzO (p10_1.T ⊕ x10_1.T)) cx10 ar0 [] p10_1 x10_1 (b10_1) (fun y => some (.inl y)) (fun b => some (.inr b)) x = run0 (g10_1 x) := fun x => by kernel_rfl
noncomputable def L10_1 : LoopS prog 73 none 0 := mkLoop mixed cx10 cx10_ok [] rfl p10_1 x10_1 rfl (b10_1) (fun x => run0 (g10_1 x)) (s10_1)
@[reducible] def p10_0 : Pat := Pat.mk [(0, .c (.hole (.list (.list (.prod (.int .i8) (.int .i8)))))), (4, .c (.sl0 0 (.list (.prod tI tI)))), (5, hI)] [(0, .arr (.list (.prod tI tI)) false)] [.slot 4] []
@[reducible] def x10_0 : Outs := [(.ret, Pat.mk [(2, .c .nsl), (3, .c (.tf false))] [] [] []), (.exit 0, Pat.mk [(4, .c (.sl0 0 (.list (.prod tI tI))))] [(0, .arr (.list (.prod tI tI)) false)] [.slot 4] [])]
noncomputable def b10_0 : D prog 73 none 0 := dO [.l L10_1] (pick (kd prog f10) [(0, false)]) 0
noncomputable def g10_0 : (List (List (Int × Int))) × Nat × Int × (List (List (Int × Int))) × Unit → Tr0 (((List (List (Int × Int))) × Nat × Int × (List (List (Int × Int))) × Unit) ⊕ ((Unit) ⊕ ((Nat × (List (List (Int × Int))) × Unit)))) := fun (v0, nv4, v5, b0, _) =>
 .br (decide (v5 < (((v0).length : Nat) : Int))) (
 .br (decide (v5 < (3 : Int))) (
 .nb v5 (((v0).length : Nat) : Int) <|
 .bd (F25 ((v0).getD (Int.toNat v5) [])) fun y0 =>
 .bd (F24 y0.1) fun y1 =>
 .br (!(y1.2.1 == (0 : Int))) (
 .ret (.inr <| .inl <| ())) (
 .br ((((y1.1).length : Nat) : Int) == (0 : Int)) (
 .ret (.inr <| .inl <| ())) (
 .bd (.it g10_1 (v0, (nv4, (v5, (y1.1, (v5, ((decide (v5 < (3 : Int))), (y1.1, ((((y1.1).length : Nat) : Int), (((((y1.1).length : Nat) : Int) == (0 : Int)), (y1.1, ((((y1.1).length : Nat) : Int), ((0 : Int), (b0, ())))))))))))))) fun z4 =>
 .sm z4 (fun z5 =>
 .ret (.inr <| .inl <| ())) fun z6 =>
 .nd (decide ((z6.2.1 + (((((z6.2.2.2.1 :: [])).drop (0 : Nat)).take (1 : Nat))).length) < bigL)) <|
 .ni (z6.2.2.1 + (1 : Int)) <|
 .ret (.inl (z6.1, ((z6.2.1 + (((((z6.2.2.2.1 :: [])).drop (0 : Nat)).take (1 : Nat))).length), ((z6.2.2.1 + (1 : Int)), (((((z6.2.2.2.2.2.2.2.2.2.1).drop (0 : Nat)).take z6.2.1) ++ ((((z6.2.2.2.1 :: [])).drop (0 : Nat)).take (1 : Nat))), ())))))))) (
 .ret (.inr <| .inr <| (nv4, (b0, ()))))) (
 .ret (.inr <| .inr <| (nv4, (b0, ()))))
theorem s10_0 : ∀ x, roundE (kzO (p10_0.T ⊕ x10_0.T)) cx10 ar0 [] p10_0 x10_0 (b10_0) (fun y => some (.inl y)) (fun b => some (.inr b)) x = run0 (g10_0 x) := fun x => by kernel_rfl
noncomputable def L10_0 : LoopS prog 73 none 0 := mkLoop mixed cx10 cx10_ok [] rfl p10_0 x10_0 rfl (b10_0) (fun x => run0 (g10_0 x)) (s10_0)
noncomputable def dd10 : D prog 73 none 0 := dO [.l L10_0] (kd prog f10) 0
noncomputable def F10 (a0 : List (List (Int × Int))) : Tr0 ((List (List (Int × Int))) × Bool × Unit) :=
 .bd (.it g10_0 (a0, ((0 : Nat), ((0 : Int), ([], ()))))) fun z7 =>
 .sm z7 (fun z8 =>
 .ret ([], (false, ()))) fun z9 =>
 .bd (F29 (((z9.2.1).drop (0 : Nat)).take z9.1)) fun y10 =>
 .ret ((((z9.2.1).drop (0 : Nat)).take z9.1), ((y10.1 == (0 : Int)), ()))
theorem c10_ok : trF prog f10 = some ⟨73, 1, dd10.er, [.t 2, .t 3], [some (.list (.list (.prod tI tI))), some .bool]⟩ := by kernel_rfl
noncomputable def ct10 : Ct := ⟨10, [.c (.hole (.list (.list (.prod (.int .i8) (.int .i8)))))], .tup [.hole (.list (.list (.prod tI tI))), .hole .bool], fun x => run0 (F10 x.1)⟩
theorem ct10_ok : ct10.Ok prog := ct_ok mixed cx10_ok func10 c10_ok (enters_of func10 rfl rfl) dd10 (by kernel_rfl) rfl (fun x => by kernel_rfl)

/- 11 -/
noncomputable def cx11 : Cx := (mkCxH [] [])
theorem cx11_ok : cx11.Ok prog := mkCxH_ok trivial trivial
@[reducible] def p11_2 : Pat := Pat.mk [(5, .c (.hole (.list (.prod tI tI)))), (6, .c (.sl0 0 (.prod tI tI))), (8, .c (.ptr 1 0)), (13, .c (.hole (.list (.list (.prod tI tI))))), (14, hI), (15, hI), (19, .c (.sl0 2 (.prod tI tI))), (20, hI), (21, hI), (25, .c (.hole (.list (.prod tI tI)))), (26, hI), (27, hI)] [(0, .arr (.prod tI tI) false), (1, .cells [.hole tI, .hole tI] false), (2, .arr (.prod tI tI) false)] [.slot 6, .slot 8, .slot 19] []
@[reducible] def x11_2 : Outs := [(.exit 4, Pat.mk [(5, .c (.hole (.list (.prod tI tI)))), (6, .c (.sl0 0 (.prod tI tI))), (13, .c (.hole (.list (.list (.prod tI tI))))), (14, hI), (15, hI), (19, .c (.sl0 1 (.prod tI tI))), (20, hI), (21, hI)] [(0, .arr (.prod tI tI) false), (1, .arr (.prod tI tI) false)] [.slot 6, .slot 19] [])]
noncomputable def b11_2 : D prog 50 none 0 := dO [] (pick (kd prog f11) [(0, false), (0, false), (0, false)]) 0
noncomputable def g11_2 : (List (Int × Int)) × Nat × (List (List (Int × Int))) × Int × Int × Nat × Int × Int × (List (Int × Int)) × Int × Int × (List (Int × Int)) × Int × Int × (List (Int × Int)) × Unit → Tr0 (((List (Int × Int)) × Nat × (List (List (Int × Int))) × Int × Int × Nat × Int × Int × (List (Int × Int)) × Int × Int × (List (Int × Int)) × Int × Int × (List (Int × Int)) × Unit) ⊕ (((List (Int × Int)) × Nat × (List (List (Int × Int))) × Int × Int × Nat × Int × Int × (List (Int × Int)) × (List (Int × Int)) × Unit))) := fun (v5, nv6, v13, v14, v15, nv19, v20, v21, v25, v26, v27, b0, c1_0, c1_1, b2, _) =>
 .br (decide (v27 < v26)) (
 .nb v27 (((v25).length : Nat) : Int) <|
 .ni (c1_0 + ((v25).getD (Int.toNat v27) ((0 : Int), (0 : Int))).1) <|
 .ni (c1_1 + ((v25).getD (Int.toNat v27) ((0 : Int), (0 : Int))).2) <|
 .nd (decide ((nv6 + (((((((c1_0 + ((v25).getD (Int.toNat v27) ((0 : Int), (0 : Int))).1), (c1_1 + ((v25).getD (Int.toNat v27) ((0 : Int), (0 : Int))).2)) :: [])).drop (0 : Nat)).take (1 : Nat))).length) < bigL)) <|
 .ni (v27 + (1 : Int)) <|
 .ret (.inl (v5, ((nv6 + (((((((c1_0 + ((v25).getD (Int.toNat v27) ((0 : Int), (0 : Int))).1), (c1_1 + ((v25).getD (Int.toNat v27) ((0 : Int), (0 : Int))).2)) :: [])).drop (0 : Nat)).take (1 : Nat))).length), (v13, (v14, (v15, (nv19, (v20, (v21, (v25, (v26, ((v27 + (1 : Int)), (((((b0).drop (0 : Nat)).take nv6) ++ ((((((c1_0 + ((v25).getD (Int.toNat v27) ((0 : Int), (0 : Int))).1), (c1_1 + ((v25).getD (Int.toNat v27) ((0 : Int), (0 : Int))).2)) :: [])).drop (0 : Nat)).take (1 : Nat))), (c1_0, (c1_1, (b2, ()))))))))))))))))) (
 .ret (.inr (v5, (nv6, (v13, (v14, (v15, (nv19, (v20, (v21, (b0, (b2, ()))))))))))))
theorem s11_2 : ∀ x, roundE (kzO (p11_2.T ⊕ x11_2.T)) cx11 ar0 [] p11_2 x11_2 (b11_2) (fun y => some (.inl y)) (fun b => some (.inr b)) x = run0 (g11_2 x) := fun x => by kernel_rfl
noncomputable def L11_2 : LoopS prog 50 none 0 := mkLoop mixed cx11 cx11_ok [] rfl p11_2 x11_2 rfl (b11_2) (fun x => run0 (g11_2 x)) (s11_2)
@[reducible] def p11_1 : Pat := Pat.mk [(5, .c (.hole (.list (.prod tI tI)))), (6, .c (.sl0 0 (.prod tI tI))), (13, .c (.hole (.list (.list (.prod tI tI))))), (14, hI), (15, hI), (19, .c (.sl0 1 (.prod tI tI))), (20, hI), (21, hI)] [(0, .arr (.prod tI tI) false), (1, .arr (.prod tI tI) false)] [.slot 6, .slot 19] []
@[reducible] def x11_1 : Outs := [(.exit 2, Pat.mk [(6, .c (.sl0 0 (.prod tI tI))), (13, .c (.hole (.list (.list (.prod tI tI))))), (14, hI), (15, hI)] [(0, .arr (.prod tI tI) false)] [.slot 6] [])]
noncomputable def b11_1 : D prog 50 none 0 := dO [.l L11_2] (pick (kd prog f11) [(0, false), (0, false)]) 0
noncomputable def g11_1 : (List (Int × Int)) × Nat × (List (List (Int × Int))) × Int × Int × Nat × Int × Int × (List (Int × Int)) × (List (Int × Int)) × Unit → Tr0 (((List (Int × Int)) × Nat × (List (List (Int × Int))) × Int × Int × Nat × Int × Int × (List (Int × Int)) × (List (Int × Int)) × Unit) ⊕ ((Nat × (List (List (Int × Int))) × Int × Int × (List (Int × Int)) × Unit))) := fun (v5, nv6, v13, v14, v15, nv19, v20, v21, b0, b1, _) =>
 .br (decide (v21 < v20)) (
 .nb v21 ((nv19 : Nat) : Int) <|
 .nd (decide (((0 : Nat) + (Int.toNat v21)) < (b1).length)) <|
 .bd (.it g11_2 (v5, (nv6, (v13, (v14, (v15, (nv19, (v20, (v21, (v5, ((((v5).length : Nat) : Int), ((0 : Int), (b0, (((b1).getD ((0 : Nat) + (Int.toNat v21)) ((0 : Int), (0 : Int))).1, (((b1).getD ((0 : Nat) + (Int.toNat v21)) ((0 : Int), (0 : Int))).2, (b1, ())))))))))))))))) fun z0 =>
 .ni (z0.2.2.2.2.2.2.2.1 + (1 : Int)) <|
 .ret (.inl (z0.1, (z0.2.1, (z0.2.2.1, (z0.2.2.2.1, (z0.2.2.2.2.1, (z0.2.2.2.2.2.1, (z0.2.2.2.2.2.2.1, ((z0.2.2.2.2.2.2.2.1 + (1 : Int)), (z0.2.2.2.2.2.2.2.2.1, (z0.2.2.2.2.2.2.2.2.2.1, ())))))))))))) (
 .ret (.inr (nv6, (v13, (v14, (v15, (b0, ())))))))
theorem s11_1 : ∀ x, roundE (kzO (p11_1.T ⊕ x11_1.T)) cx11 ar0 [] p11_1 x11_1 (b11_1) (fun y => some (.inl y)) (fun b => some (.inr b)) x = run0 (g11_1 x) := fun x => by kernel_rfl
noncomputable def L11_1 : LoopS prog 50 none 0 := mkLoop mixed cx11 cx11_ok [] rfl p11_1 x11_1 rfl (b11_1) (fun x => run0 (g11_1 x)) (s11_1)
@[reducible] def p11_0 : Pat := Pat.mk [(3, .c (.sl0 0 (.prod tI tI))), (13, .c (.hole (.list (.list (.prod tI tI))))), (14, hI), (15, hI)] [(0, .arr (.prod tI tI) false)] [.slot 3] []
@[reducible] def x11_0 : Outs := [(.exit 0, Pat.mk [(3, .c (.sl0 0 (.prod tI tI)))] [(0, .arr (.prod tI tI) false)] [.slot 3] [])]
noncomputable def b11_0 : D prog 50 none 0 := dO [.l L11_1] (pick (kd prog f11) [(0, false)]) 0
noncomputable def g11_0 : Nat × (List (List (Int × Int))) × Int × Int × (List (Int × Int)) × Unit → Tr0 ((Nat × (List (List (Int × Int))) × Int × Int × (List (Int × Int)) × Unit) ⊕ ((Nat × (List (Int × Int)) × Unit))) := fun (nv3, v13, v14, v15, b0, _) =>
 .br (decide (v15 < v14)) (
 .nb v15 (((v13).length : Nat) : Int) <|
 .bd (.it g11_1 (((v13).getD (Int.toNat v15) []), ((0 : Nat), (v13, (v14, (v15, (nv3, (((nv3 : Nat) : Int), ((0 : Int), ([], (b0, ()))))))))))) fun z1 =>
 .ni (z1.2.2.2.1 + (1 : Int)) <|
 .ret (.inl (z1.1, (z1.2.1, (z1.2.2.1, ((z1.2.2.2.1 + (1 : Int)), (z1.2.2.2.2.1, ()))))))) (
 .ret (.inr (nv3, (b0, ()))))
theorem s11_0 : ∀ x, roundE (kzO (p11_0.T ⊕ x11_0.T)) cx11 ar0 [] p11_0 x11_0 (b11_0) (fun y => some (.inl y)) (fun b => some (.inr b)) x = run0 (g11_0 x) := fun x => by kernel_rfl
noncomputable def L11_0 : LoopS prog 50 none 0 := mkLoop mixed cx11 cx11_ok [] rfl p11_0 x11_0 rfl (b11_0) (fun x => run0 (g11_0 x)) (s11_0)
noncomputable def dd11 : D prog 50 none 0 := dO [.l L11_0] (kd prog f11) 0
noncomputable def F11 (a0 : List (List (Int × Int))) : Tr0 ((List (Int × Int)) × Unit) :=
 .bd (.it g11_0 ((1 : Nat), (a0, ((((a0).length : Nat) : Int), ((0 : Int), ((((0 : Int), (0 : Int)) :: []), ())))))) fun z2 =>
 .ret ((((z2.2.1).drop (0 : Nat)).take z2.1), ())
theorem c11_ok : trF prog f11 = some ⟨50, 1, dd11.er, [.t 2], [some (.list (.prod tI tI))]⟩ := by kernel_rfl
noncomputable def ct11 : Ct := ⟨11, [.c (.hole (.list (.list (.prod tI tI))))], .c (.hole (.list (.prod tI tI))), fun x => run0 (F11 x.1)⟩
theorem ct11_ok : ct11.Ok prog := ct_ok mixed cx11_ok func11 c11_ok (enters_of func11 rfl rfl) dd11 (by kernel_rfl) rfl (fun x => by kernel_rfl)

/- 30 -/
noncomputable def cx30 : Cx := (mkCxH [] [])
theorem cx30_ok : cx30.Ok prog := mkCxH_ok trivial trivial
noncomputable def dd30 : D prog 30 none 0 := dO [] (kd prog f30) 0
noncomputable def F30 (a0 : Int × Int) (a1 : Int × Int) (a2 : Int × Int) : Tr0 (Int × Unit) :=
 .ni (a1.1 - a0.1) <|
 .ni (a2.2 - a0.2) <|
 .ni ((a1.1 - a0.1) * (a2.2 - a0.2)) <|
 .ni (a1.2 - a0.2) <|
 .ni (a2.1 - a0.1) <|
 .ni ((a1.2 - a0.2) * (a2.1 - a0.1)) <|
 .ni (((a1.1 - a0.1) * (a2.2 - a0.2)) - ((a1.2 - a0.2) * (a2.1 - a0.1))) <|
 .ret ((((a1.1 - a0.1) * (a2.2 - a0.2)) - ((a1.2 - a0.2) * (a2.1 - a0.1))), ())
theorem c30_ok : trF prog f30 = some ⟨30, 3, dd30.er, [.t 6], [some tI]⟩ := by kernel_rfl
noncomputable def ct30 : Ct := ⟨30, [.c (.hole (.prod tI tI)), .c (.hole (.prod tI tI)), .c (.hole (.prod tI tI))], hI, fun x => run0 (F30 x.1 x.2.1 x.2.2.1)⟩
theorem ct30_ok : ct30.Ok prog := ct_ok mixed cx30_ok func30 c30_ok (enters_of func30 rfl rfl) dd30 (by kernel_rfl) rfl (fun x => by kernel_rfl)

/- 12 -/
noncomputable def cx12 : Cx := (mkCxH [ct30] [])
theorem cx12_ok : cx12.Ok prog := mkCxH_ok ⟨ct30_ok, trivial⟩ trivial
@[reducible] def p12_2 : Pat := Pat.mk [(0, .c (.hole (.list (.prod tI tI)))), (3, .c (.ptr 0 0)), (6, .c (.ptr 1 0)), (8, .c (.ptr 2 0)), (11, .c (.hole (.list (.prod tI tI)))), (12, hI), (13, hI), (17, .c (.hole (.list (.prod tI tI)))), (18, hI), (19, hI), (56, .c (.hole (.list (.prod tI tI)))), (57, hI), (58, hI)] [(0, .cells [.hole tI, .hole tI] false), (1, .cells [.hole tI, .hole tI] false), (2, .cells [.hole tI, .hole tI] false)] [.slot 3, .slot 6, .slot 8] []
@[reducible] def x12_2 : Outs := [(.ret, Pat.mk [(4, .c (.tf true))] [] [] []), (.exit 4, Pat.mk [(0, .c (.hole (.list (.prod tI tI)))), (3, .c (.ptr 0 0)), (6, .c (.ptr 1 0)), (11, .c (.hole (.list (.prod tI tI)))), (12, hI), (13, hI), (17, .c (.hole (.list (.prod tI tI)))), (18, hI), (19, hI)] [(0, .cells [.hole tI, .hole tI] false), (1, .cells [.hole tI, .hole tI] false)] [.slot 3, .slot 6] [])]
noncomputable def b12_2 : D prog 91 none 0 := dO [] (pick (kd prog f12) [(0, false), (0, false), (0, false)]) 0
noncomputable def g12_2 : (List (Int × Int)) × (List (Int × Int)) × Int × Int × (List (Int × Int)) × Int × Int × (List (Int × Int)) × Int × Int × Int × Int × Int × Int × Int × Int × Unit → Tr0 (((List (Int × Int)) × (List (Int × Int)) × Int × Int × (List (Int × Int)) × Int × Int × (List (Int × Int)) × Int × Int × Int × Int × Int × Int × Int × Int × Unit) ⊕ ((Unit) ⊕ (((List (Int × Int)) × (List (Int × Int)) × Int × Int × (List (Int × Int)) × Int × Int × Int × Int × Int × Int × Unit)))) := fun (v0, v11, v12, v13, v17, v18, v19, v56, v57, v58, c0_0, c0_1, c1_0, c1_1, c2_0, c2_1, _) =>
 .br (decide (v58 < v57)) (
 .nb v58 (((v56).length : Nat) : Int) <|
 .bd (F30 (c1_0, c1_1) (c2_0, c2_1) (((v56).getD (Int.toNat v58) ((0 : Int), (0 : Int))).1, ((v56).getD (Int.toNat v58) ((0 : Int), (0 : Int))).2)) fun y1 =>
 .br (decide ((0 : Int) < y1.1)) (
 .bd (F30 (c1_0, c1_1) (c2_0, c2_1) (c0_0, c0_1)) fun y2 =>
 .br (decide ((0 : Int) ≤ y2.1)) (
 .bd (F30 (c2_0, c2_1) (((v56).getD (Int.toNat v58) ((0 : Int), (0 : Int))).1, ((v56).getD (Int.toNat v58) ((0 : Int), (0 : Int))).2) (c0_0, c0_1)) fun y3 =>
 .br (decide ((0 : Int) ≤ y3.1)) (
 .bd (F30 (((v56).getD (Int.toNat v58) ((0 : Int), (0 : Int))).1, ((v56).getD (Int.toNat v58) ((0 : Int), (0 : Int))).2) (c1_0, c1_1) (c0_0, c0_1)) fun y4 =>
 .br (decide ((0 : Int) ≤ y4.1)) (
 .ret (.inr <| .inl <| ())) (
 .ni (v58 + (1 : Int)) <|
 .ret (.inl (v0, (v11, (v12, (v13, (v17, (v18, (v19, (v56, (v57, ((v58 + (1 : Int)), (c0_0, (c0_1, (c1_0, (c1_1, (c2_0, (c2_1, ()))))))))))))))))))) (
 .ni (v58 + (1 : Int)) <|
 .ret (.inl (v0, (v11, (v12, (v13, (v17, (v18, (v19, (v56, (v57, ((v58 + (1 : Int)), (c0_0, (c0_1, (c1_0, (c1_1, (c2_0, (c2_1, ()))))))))))))))))))) (
 .ni (v58 + (1 : Int)) <|
 .ret (.inl (v0, (v11, (v12, (v13, (v17, (v18, (v19, (v56, (v57, ((v58 + (1 : Int)), (c0_0, (c0_1, (c1_0, (c1_1, (c2_0, (c2_1, ()))))))))))))))))))) (
 .ni (v58 + (1 : Int)) <|
 .ret (.inl (v0, (v11, (v12, (v13, (v17, (v18, (v19, (v56, (v57, ((v58 + (1 : Int)), (c0_0, (c0_1, (c1_0, (c1_1, (c2_0, (c2_1, ()))))))))))))))))))) (
 .ret (.inr <| .inr <| (v0, (v11, (v12, (v13, (v17, (v18, (v19, (c0_0, (c0_1, (c1_0, (c1_1, ())))))))))))))
theorem s12_2 : ∀ x, roundE (kzO (p12_2.T ⊕ x12_2.T)) cx12 ar0 [] p12_2 x12_2 (b12_2) (fun y => some (.inl y)) (fun b => some (.inr b)) x = run0 (g12_2 x) := fun x => by kernel_rfl
noncomputable def L12_2 : LoopS prog 91 none 0 := mkLoop mixed cx12 cx12_ok [] rfl p12_2 x12_2 rfl (b12_2) (fun x => run0 (g12_2 x)) (s12_2)
@[reducible] def p12_1 : Pat := Pat.mk [(0, .c (.hole (.list (.prod tI tI)))), (3, .c (.ptr 0 0)), (6, .c (.ptr 1 0)), (11, .c (.hole (.list (.prod tI tI)))), (12, hI), (13, hI), (17, .c (.hole (.list (.prod tI tI)))), (18, hI), (19, hI)] [(0, .cells [.hole tI, .hole tI] false), (1, .cells [.hole tI, .hole tI] false)] [.slot 3, .slot 6] []
@[reducible] def x12_1 : Outs := [(.ret, Pat.mk [(4, .c (.tf true))] [] [] []), (.exit 2, Pat.mk [(0, .c (.hole (.list (.prod tI tI)))), (3, .c (.ptr 0 0)), (11, .c (.hole (.list (.prod tI tI)))), (12, hI), (13, hI)] [(0, .cells [.hole tI, .hole tI] false)] [.slot 3] [])]
noncomputable def b12_1 : D prog 91 none 0 := dO [.l L12_2] (pick (kd prog f12) [(0, false), (0, false)]) 0
noncomputable def g12_1 : (List (Int × Int)) × (List (Int × Int)) × Int × Int × (List (Int × Int)) × Int × Int × Int × Int × Int × Int × Unit → Tr0 (((List (Int × Int)) × (List (Int × Int)) × Int × Int × (List (Int × Int)) × Int × Int × Int × Int × Int × Int × Unit) ⊕ ((Unit) ⊕ (((List (Int × Int)) × (List (Int × Int)) × Int × Int × Int × Int × Unit)))) := fun (v0, v11, v12, v13, v17, v18, v19, c0_0, c0_1, c1_0, c1_1, _) =>
 .br (decide (v19 < v18)) (
 .nb v19 (((v17).length : Nat) : Int) <|
 .bd (F30 (c1_0, c1_1) (((v17).getD (Int.toNat v19) ((0 : Int), (0 : Int))).1, ((v17).getD (Int.toNat v19) ((0 : Int), (0 : Int))).2) (c0_0, c0_1)) fun y0 =>
 .br (y0.1 == (0 : Int)) (
 .ni (c1_0 - c0_0) <|
 .ni (((v17).getD (Int.toNat v19) ((0 : Int), (0 : Int))).1 - c0_0) <|
 .ni ((c1_0 - c0_0) * (((v17).getD (Int.toNat v19) ((0 : Int), (0 : Int))).1 - c0_0)) <|
 .br (decide (((c1_0 - c0_0) * (((v17).getD (Int.toNat v19) ((0 : Int), (0 : Int))).1 - c0_0)) ≤ (0 : Int))) (
 .ni (c1_1 - c0_1) <|
 .ni (((v17).getD (Int.toNat v19) ((0 : Int), (0 : Int))).2 - c0_1) <|
 .ni ((c1_1 - c0_1) * (((v17).getD (Int.toNat v19) ((0 : Int), (0 : Int))).2 - c0_1)) <|
 .br (decide (((c1_1 - c0_1) * (((v17).getD (Int.toNat v19) ((0 : Int), (0 : Int))).2 - c0_1)) ≤ (0 : Int))) (
 .ret (.inr <| .inl <| ())) (
 .bd (.it g12_2 (v0, (v11, (v12, (v13, (v17, (v18, (v19, (v0, ((((v0).length : Nat) : Int), ((0 : Int), (c0_0, (c0_1, (c1_0, (c1_1, (((v17).getD (Int.toNat v19) ((0 : Int), (0 : Int))).1, (((v17).getD (Int.toNat v19) ((0 : Int), (0 : Int))).2, ()))))))))))))))))) fun z5 =>
 .sm z5 (fun z6 =>
 .ret (.inr <| .inl <| ())) fun z7 =>
 .ni (z7.2.2.2.2.2.2.1 + (1 : Int)) <|
 .ret (.inl (z7.1, (z7.2.1, (z7.2.2.1, (z7.2.2.2.1, (z7.2.2.2.2.1, (z7.2.2.2.2.2.1, ((z7.2.2.2.2.2.2.1 + (1 : Int)), (z7.2.2.2.2.2.2.2.1, (z7.2.2.2.2.2.2.2.2.1, (z7.2.2.2.2.2.2.2.2.2.1, (z7.2.2.2.2.2.2.2.2.2.2.1, ())))))))))))))) (
 .bd (.it g12_2 (v0, (v11, (v12, (v13, (v17, (v18, (v19, (v0, ((((v0).length : Nat) : Int), ((0 : Int), (c0_0, (c0_1, (c1_0, (c1_1, (((v17).getD (Int.toNat v19) ((0 : Int), (0 : Int))).1, (((v17).getD (Int.toNat v19) ((0 : Int), (0 : Int))).2, ()))))))))))))))))) fun z8 =>
 .sm z8 (fun z9 =>
 .ret (.inr <| .inl <| ())) fun z10 =>
 .ni (z10.2.2.2.2.2.2.1 + (1 : Int)) <|
 .ret (.inl (z10.1, (z10.2.1, (z10.2.2.1, (z10.2.2.2.1, (z10.2.2.2.2.1, (z10.2.2.2.2.2.1, ((z10.2.2.2.2.2.2.1 + (1 : Int)), (z10.2.2.2.2.2.2.2.1, (z10.2.2.2.2.2.2.2.2.1, (z10.2.2.2.2.2.2.2.2.2.1, (z10.2.2.2.2.2.2.2.2.2.2.1, ())))))))))))))) (
 .bd (.it g12_2 (v0, (v11, (v12, (v13, (v17, (v18, (v19, (v0, ((((v0).length : Nat) : Int), ((0 : Int), (c0_0, (c0_1, (c1_0, (c1_1, (((v17).getD (Int.toNat v19) ((0 : Int), (0 : Int))).1, (((v17).getD (Int.toNat v19) ((0 : Int), (0 : Int))).2, ()))))))))))))))))) fun z11 =>
 .sm z11 (fun z12 =>
 .ret (.inr <| .inl <| ())) fun z13 =>
 .ni (z13.2.2.2.2.2.2.1 + (1 : Int)) <|
 .ret (.inl (z13.1, (z13.2.1, (z13.2.2.1, (z13.2.2.2.1, (z13.2.2.2.2.1, (z13.2.2.2.2.2.1, ((z13.2.2.2.2.2.2.1 + (1 : Int)), (z13.2.2.2.2.2.2.2.1, (z13.2.2.2.2.2.2.2.2.1, (z13.2.2.2.2.2.2.2.2.2.1, (z13.2.2.2.2.2.2.2.2.2.2.1, ())))))))))))))) (
 .ret (.inr <| .inr <| (v0, (v11, (v12, (v13, (c0_0, (c0_1, ()))))))))
theorem s12_1 : ∀ x, roundE (kzO (p12_1.T ⊕ x12_1.T)) cx12 ar0 [] p12_1 x12_1 (b12_1) (fun y => some (.inl y)) (fun b => some (.inr b)) x = run0 (g12_1 x) := fun x => by kernel_rfl
noncomputable def L12_1 : LoopS prog 91 none 0 := mkLoop mixed cx12 cx12_ok [] rfl p12_1 x12_1 rfl (b12_1) (fun x => run0 (g12_1 x)) (s12_1)
@[reducible] def p12_0 : Pat := Pat.mk [(0, .c (.hole (.list (.prod tI tI)))), (3, .c (.ptr 0 0)), (11, .c (.hole (.list (.prod tI tI)))), (12, hI), (13, hI)] [(0, .cells [.hole tI, .hole tI] false)] [.slot 3] []
@[reducible] def x12_0 : Outs := [(.ret, Pat.mk [(4, .c (.tf true))] [] [] []), (.exit 0, Pat.mk [] [] [] [])]
noncomputable def b12_0 : D prog 91 none 0 := dO [.l L12_1] (pick (kd prog f12) [(0, false)]) 0
noncomputable def g12_0 : (List (Int × Int)) × (List (Int × Int)) × Int × Int × Int × Int × Unit → Tr0 (((List (Int × Int)) × (List (Int × Int)) × Int × Int × Int × Int × Unit) ⊕ ((Unit) ⊕ ((Unit)))) := fun (v0, v11, v12, v13, c0_0, c0_1, _) =>
 .br (decide (v13 < v12)) (
 .nb v13 (((v11).length : Nat) : Int) <|
 .bd (.it g12_1 (v0, (v11, (v12, (v13, (v0, ((((v0).length : Nat) : Int), ((0 : Int), (c0_0, (c0_1, (((v11).getD (Int.toNat v13) ((0 : Int), (0 : Int))).1, (((v11).getD (Int.toNat v13) ((0 : Int), (0 : Int))).2, ())))))))))))) fun z14 =>
 .sm z14 (fun z15 =>
 .ret (.inr <| .inl <| ())) fun z16 =>
 .ni (z16.2.2.2.1 + (1 : Int)) <|
 .ret (.inl (z16.1, (z16.2.1, (z16.2.2.1, ((z16.2.2.2.1 + (1 : Int)), (z16.2.2.2.2.1, (z16.2.2.2.2.2.1, ())))))))) (
 .ret (.inr <| .inr <| ()))
theorem s12_0 : ∀ x, roundE (kzO (p12_0.T ⊕ x12_0.T)) cx12 ar0 [] p12_0 x12_0 (b12_0) (fun y => some (.inl y)) (fun b => some (.inr b)) x = run0 (g12_0 x) := fun x => by kernel_rfl
noncomputable def L12_0 : LoopS prog 91 none 0 := mkLoop mixed cx12 cx12_ok [] rfl p12_0 x12_0 rfl (b12_0) (fun x => run0 (g12_0 x)) (s12_0)
noncomputable def dd12 : D prog 91 none 0 := dO [.l L12_0] (kd prog f12) 0
noncomputable def F12 (a0 : List (Int × Int)) (a1 : Int × Int) : Tr0 (Bool × Unit) :=
 .bd (.it g12_0 (a0, (a0, ((((a0).length : Nat) : Int), ((0 : Int), (a1.1, (a1.2, ()))))))) fun z17 =>
 .sm z17 (fun z18 =>
 .ret (true, ())) fun z19 =>
 .ret (false, ())
theorem c12_ok : trF prog f12 = some ⟨91, 2, dd12.er, [.t 4], [some .bool]⟩ := by kernel_rfl
noncomputable def ct12 : Ct := ⟨12, [.c (.hole (.list (.prod tI tI))), .c (.hole (.prod tI tI))], .c (.hole .bool), fun x => run0 (F12 x.1 x.2.1)⟩
theorem ct12_ok : ct12.Ok prog := ct_ok mixed cx12_ok func12 c12_ok (enters_of func12 rfl rfl) dd12 (by kernel_rfl) rfl (fun x => by kernel_rfl)

/- 19 -/
noncomputable def cx19 : Cx := (mkCxH [ct12] [])
theorem cx19_ok : cx19.Ok prog := mkCxH_ok ⟨ct12_ok, trivial⟩ trivial
@[reducible] def p19_0 : Pat := Pat.mk [(2, hI), (4, .c (.ptr 0 0)), (7, .c (.sl0 1 (.prod tI tI))), (10, .c (.hole (.list (.prod tI tI)))), (11, hI), (12, hI)] [(0, .cells [.hole tI, .hole tI] false), (1, .arr (.prod tI tI) false)] [.slot 4, .slot 7] []
@[reducible] def x19_0 : Outs := [(.exit 0, Pat.mk [(2, hI), (4, .c (.ptr 0 0)), (7, .c (.sl0 1 (.prod tI tI)))] [(0, .cells [.hole tI, .hole tI] false), (1, .arr (.prod tI tI) false)] [.slot 4, .slot 7] [])]
noncomputable def b19_0 : D prog 34 none 0 := dO [] (pick (kd prog f19) [(0, false)]) 0
noncomputable def g19_0 : Int × Nat × (List (Int × Int)) × Int × Int × Int × Int × (List (Int × Int)) × Unit → Tr0 ((Int × Nat × (List (Int × Int)) × Int × Int × Int × Int × (List (Int × Int)) × Unit) ⊕ ((Int × Nat × Int × Int × (List (Int × Int)) × Unit))) := fun (v2, nv7, v10, v11, v12, c0_0, c0_1, b1, _) =>
 .br (decide (v12 < v11)) (
 .nb v12 (((v10).length : Nat) : Int) <|
 .ni (((v10).getD (Int.toNat v12) ((0 : Int), (0 : Int))).1 * v2) <|
 .ni (((v10).getD (Int.toNat v12) ((0 : Int), (0 : Int))).2 * v2) <|
 .nd (decide ((nv7 + (((((((((v10).getD (Int.toNat v12) ((0 : Int), (0 : Int))).1 * v2), (((v10).getD (Int.toNat v12) ((0 : Int), (0 : Int))).2 * v2)) :: [])).drop (0 : Nat)).take (1 : Nat))).length) < bigL)) <|
 .ni (v12 + (1 : Int)) <|
 .ret (.inl (v2, ((nv7 + (((((((((v10).getD (Int.toNat v12) ((0 : Int), (0 : Int))).1 * v2), (((v10).getD (Int.toNat v12) ((0 : Int), (0 : Int))).2 * v2)) :: [])).drop (0 : Nat)).take (1 : Nat))).length), (v10, (v11, ((v12 + (1 : Int)), (c0_0, (c0_1, (((((b1).drop (0 : Nat)).take nv7) ++ ((((((((v10).getD (Int.toNat v12) ((0 : Int), (0 : Int))).1 * v2), (((v10).getD (Int.toNat v12) ((0 : Int), (0 : Int))).2 * v2)) :: [])).drop (0 : Nat)).take (1 : Nat))), ())))))))))) (
 .ret (.inr (v2, (nv7, (c0_0, (c0_1, (b1, ())))))))
theorem s19_0 : ∀ x, roundE (kzO (p19_0.T ⊕ x19_0.T)) cx19 ar0 [] p19_0 x19_0 (b19_0) (fun y => some (.inl y)) (fun b => some (.inr b)) x = run0 (g19_0 x) := fun x => by kernel_rfl
noncomputable def L19_0 : LoopS prog 34 none 0 := mkLoop mixed cx19 cx19_ok [] rfl p19_0 x19_0 rfl (b19_0) (fun x => run0 (g19_0 x)) (s19_0)
noncomputable def dd19 : D prog 34 none 0 := dO [.l L19_0] (kd prog f19) 0
noncomputable def F19 (a0 : List (Int × Int)) (a1 : Int × Int) (a2 : Int) : Tr0 (Bool × Unit) :=
 .bd (.it g19_0 (a2, ((0 : Nat), (a0, ((((a0).length : Nat) : Int), ((0 : Int), (a1.1, (a1.2, ([], ()))))))))) fun z0 =>
 .br (decide ((1000000 : Int) < z0.1)) (
 .ret (true, ())) (
 .bd (F12 (((z0.2.2.2.2.1).drop (0 : Nat)).take z0.2.1) (z0.2.2.1, z0.2.2.2.1)) fun y1 =>
 .ret (y1.1, ()))
theorem c19_ok : trF prog f19 = some ⟨34, 3, dd19.er, [.t 6], [some .bool]⟩ := by kernel_rfl
noncomputable def ct19 : Ct := ⟨19, [.c (.hole (.list (.prod tI tI))), .c (.hole (.prod tI tI)), hI], .c (.hole .bool), fun x => run0 (F19 x.1 x.2.1 x.2.2.1)⟩
theorem ct19_ok : ct19.Ok prog := ct_ok mixed cx19_ok func19 c19_ok (enters_of func19 rfl rfl) dd19 (by kernel_rfl) rfl (fun x => by kernel_rfl)

/- 3 -/
noncomputable def cx3 : Cx := (mkCxH [ct10, ct11, ct12, ct13, ct14, ct15, ct16, ct17, ct18, ct19, ct20] [])
theorem cx3_ok : cx3.Ok prog := mkCxH_ok ⟨ct10_ok, ct11_ok, ct12_ok, ct13_ok, ct14_ok, ct15_ok, ct16_ok, ct17_ok, ct18_ok, ct19_ok, ct20_ok, trivial⟩ trivial
@[reducible] def p3_1 : Pat := Pat.mk [(5, .c (.hole (.list (.list (.prod tI tI))))), (7, .c (.ptr 0 0)), (8, .c (.hole (.list (.prod tI tI)))), (9, .c (.hole .bool)), (12, .c (.ptr 1 0)), (13, hI), (14, hI), (15, hI), (16, hI), (17, .c (.hole (.list (.prod tI tI)))), (20, .c (.ptr 2 0)), (21, .c (.hole .bool)), (92, .c (.hole (.list (.prod tI tI)))), (93, hI), (94, hI), (98, .c (.hole (.list (.prod tI tI)))), (99, hI), (100, hI)] [(0, .cells [.hole tI, .hole tI] false), (1, .cells [.hole tI, .hole (.list (.prod tI tI))] false), (2, .cells [.hole tI, .hole tI] false)] [.slot 7, .slot 12, .slot 20] []
@[reducible] def x3_1 : Outs := [(.exit 2, Pat.mk [(5, .c (.hole (.list (.list (.prod tI tI))))), (7, .c (.ptr 0 0)), (8, .c (.hole (.list (.prod tI tI)))), (9, .c (.hole .bool)), (12, .c (.ptr 1 0)), (13, hI), (14, hI), (15, hI), (16, hI), (17, .c (.hole (.list (.prod tI tI)))), (21, .c (.hole .bool)), (92, .c (.hole (.list (.prod tI tI)))), (93, hI), (94, hI)] [(0, .cells [.hole tI, .hole tI] false), (1, .cells [.hole tI, .hole (.list (.prod tI tI))] false)] [.slot 7, .slot 12] [])]
noncomputable def b3_1 : D prog 313 none 0 := dO [] (pick (kd prog f3) [(0, false), (0, false)]) 0
noncomputable def g3_1 : (List (List (Int × Int))) × (List (Int × Int)) × Bool × Int × Int × Int × Int × (List (Int × Int)) × Bool × (List (Int × Int)) × Int × Int × (List (Int × Int)) × Int × Int × Int × Int × Int × (List (Int × Int)) × Int × Int × Unit → Tr0 (((List (List (Int × Int))) × (List (Int × Int)) × Bool × Int × Int × Int × Int × (List (Int × Int)) × Bool × (List (Int × Int)) × Int × Int × (List (Int × Int)) × Int × Int × Int × Int × Int × (List (Int × Int)) × Int × Int × Unit) ⊕ (((List (List (Int × Int))) × (List (Int × Int)) × Bool × Int × Int × Int × Int × (List (Int × Int)) × Bool × (List (Int × Int)) × Int × Int × Int × Int × Int × (List (Int × Int)) × Unit))) := fun (v5, v8, v9, v13, v14, v15, v16, v17, v21, v92, v93, v94, v98, v99, v100, c0_0, c0_1, c1_0, c1_1, c2_0, c2_1, _) =>
 .br (decide (v100 < v99)) (
 .nb v100 (((v98).length : Nat) : Int) <|
 .br v21 (
 .ni (v100 + (1 : Int)) <|
 .ret (.inl (v5, (v8, (v9, (v13, (v14, (v15, (v16, (v17, (true, (v92, (v93, (v94, (v98, (v99, ((v100 + (1 : Int)), (c0_0, (c0_1, (c1_0, (c1_1, (c2_0, (c2_1, ()))))))))))))))))))))))) (
 .ni (v100 + (1 : Int)) <|
 .ret (.inl (v5, (v8, (v9, (v13, (v14, (v15, (v16, (v17, (((c2_0 == ((v98).getD (Int.toNat v100) ((0 : Int), (0 : Int))).1) && ((c2_1 == ((v98).getD (Int.toNat v100) ((0 : Int), (0 : Int))).2) && true)), (v92, (v93, (v94, (v98, (v99, ((v100 + (1 : Int)), (c0_0, (c0_1, (c1_0, (c1_1, (c2_0, (c2_1, ())))))))))))))))))))))))) (
 .ret (.inr (v5, (v8, (v9, (v13, (v14, (v15, (v16, (v17, (v21, (v92, (v93, (v94, (c0_0, (c0_1, (c1_0, (c1_1, ()))))))))))))))))))
theorem s3_1 : ∀ x, roundE (kzO (p3_1.T ⊕ x3_1.T)) cx3 ar0 [] p3_1 x3_1 (b3_1) (fun y => some (.inl y)) (fun b => some (.inr b)) x = run0 (g3_1 x) := fun x => by kernel_rfl
noncomputable def L3_1 : LoopS prog 313 none 0 := mkLoop mixed cx3 cx3_ok [] rfl p3_1 x3_1 rfl (b3_1) (fun x => run0 (g3_1 x)) (s3_1)
@[reducible] def p3_0 : Pat := Pat.mk [(5, .c (.hole (.list (.list (.prod tI tI))))), (7, .c (.ptr 0 0)), (8, .c (.hole (.list (.prod tI tI)))), (9, .c (.hole .bool)), (12, .c (.ptr 1 0)), (13, hI), (14, hI), (15, hI), (16, hI), (17, .c (.hole (.list (.prod tI tI)))), (92, .c (.hole (.list (.prod tI tI)))), (93, hI), (94, hI)] [(0, .cells [.hole tI, .hole tI] false), (1, .cells [.hole tI, .hole (.list (.prod tI tI))] false)] [.slot 7, .slot 12] []
@[reducible] def x3_0 : Outs := [(.ret, Pat.mk [(4, .c (.tf false))] [] [] []), (.exit 0, Pat.mk [(5, .c (.hole (.list (.list (.prod tI tI))))), (7, .c (.ptr 0 0)), (8, .c (.hole (.list (.prod tI tI)))), (9, .c (.hole .bool)), (12, .c (.ptr 1 0)), (13, hI), (14, hI), (15, hI), (16, hI), (17, .c (.hole (.list (.prod tI tI))))] [(0, .cells [.hole tI, .hole tI] false), (1, .cells [.hole tI, .hole (.list (.prod tI tI))] false)] [.slot 7, .slot 12] [])]
noncomputable def b3_0 : D prog 313 none 0 := dO [.l L3_1] (pick (kd prog f3) [(0, false)]) 0
noncomputable def g3_0 : (List (List (Int × Int))) × (List (Int × Int)) × Bool × Int × Int × Int × Int × (List (Int × Int)) × (List (Int × Int)) × Int × Int × Int × Int × Int × (List (Int × Int)) × Unit → Tr0 (((List (List (Int × Int))) × (List (Int × Int)) × Bool × Int × Int × Int × Int × (List (Int × Int)) × (List (Int × Int)) × Int × Int × Int × Int × Int × (List (Int × Int)) × Unit) ⊕ ((Unit) ⊕ (((List (List (Int × Int))) × (List (Int × Int)) × Bool × Int × Int × Int × Int × (List (Int × Int)) × Int × Int × Int × (List (Int × Int)) × Unit)))) := fun (v5, v8, v9, v13, v14, v15, v16, v17, v92, v93, v94, c0_0, c0_1, c1_0, c1_1, _) =>
 .br (decide (v94 < v93)) (
 .nb v94 (((v92).length : Nat) : Int) <|
 .bd (.it g3_1 (v5, (v8, (v9, (v13, (v14, (v15, (v16, (v17, (false, (v92, (v93, (v94, (v8, ((((v8).length : Nat) : Int), ((0 : Int), (c0_0, (c0_1, (c1_0, (c1_1, (((v92).getD (Int.toNat v94) ((0 : Int), (0 : Int))).1, (((v92).getD (Int.toNat v94) ((0 : Int), (0 : Int))).2, ())))))))))))))))))))))) fun z7 =>
 .br (!z7.2.2.2.2.2.2.2.2.1) (
 .ret (.inr <| .inl <| ())) (
 .ni (z7.2.2.2.2.2.2.2.2.2.2.2.1 + (1 : Int)) <|
 .ret (.inl (z7.1, (z7.2.1, (z7.2.2.1, (z7.2.2.2.1, (z7.2.2.2.2.1, (z7.2.2.2.2.2.1, (z7.2.2.2.2.2.2.1, (z7.2.2.2.2.2.2.2.1, (z7.2.2.2.2.2.2.2.2.2.1, (z7.2.2.2.2.2.2.2.2.2.2.1, ((z7.2.2.2.2.2.2.2.2.2.2.2.1 + (1 : Int)), (z7.2.2.2.2.2.2.2.2.2.2.2.2.1, (z7.2.2.2.2.2.2.2.2.2.2.2.2.2.1, (z7.2.2.2.2.2.2.2.2.2.2.2.2.2.2.1, (z7.2.2.2.2.2.2.2.2.2.2.2.2.2.2.2.1, ())))))))))))))))))) (
 .ret (.inr <| .inr <| (v5, (v8, (v9, (v13, (v14, (v15, (v16, (v17, (c0_0, (c0_1, (c1_0, (c1_1, ()))))))))))))))
theorem s3_0 : ∀ x, roundE (kzO (p3_0.T ⊕ x3_0.T)) cx3 ar0 [] p3_0 x3_0 (b3_0) (fun y => some (.inl y)) (fun b => some (.inr b)) x = run0 (g3_0 x) := fun x => by kernel_rfl
noncomputable def L3_0 : LoopS prog 313 none 0 := mkLoop mixed cx3 cx3_ok [] rfl p3_0 x3_0 rfl (b3_0) (fun x => run0 (g3_0 x)) (s3_0)
@[reducible] def p3_2 : Pat := Pat.mk [(5, .c (.hole (.list (.list (.prod tI tI))))), (7, .c (.ptr 0 0)), (8, .c (.hole (.list (.prod tI tI)))), (9, .c (.hole .bool)), (12, .c (.ptr 1 0)), (13, hI), (14, hI), (15, hI), (16, hI), (17, .c (.hole (.list (.prod tI tI)))), (114, .c (.hole (.list (.prod tI tI)))), (115, hI), (116, hI)] [(0, .cells [.hole tI, .hole tI] false), (1, .cells [.hole tI, .hole (.list (.prod tI tI))] false)] [.slot 7, .slot 12] []
@[reducible] def x3_2 : Outs := [(.ret, Pat.mk [(4, .c (.tf false))] [] [] []), (.exit 4, Pat.mk [(5, .c (.hole (.list (.list (.prod tI tI))))), (7, .c (.ptr 0 0)), (8, .c (.hole (.list (.prod tI tI)))), (9, .c (.hole .bool)), (12, .c (.ptr 1 0)), (13, hI), (14, hI), (15, hI), (16, hI)] [(0, .cells [.hole tI, .hole tI] false), (1, .cells [.hole tI, .hole (.list (.prod tI tI))] false)] [.slot 7, .slot 12] [])]
noncomputable def b3_2 : D prog 313 none 0 := dO [] (pick (kd prog f3) [(1, false)]) 0
noncomputable def g3_2 : (List (List (Int × Int))) × (List (Int × Int)) × Bool × Int × Int × Int × Int × (List (Int × Int)) × (List (Int × Int)) × Int × Int × Int × Int × Int × (List (Int × Int)) × Unit → Tr0 (((List (List (Int × Int))) × (List (Int × Int)) × Bool × Int × Int × Int × Int × (List (Int × Int)) × (List (Int × Int)) × Int × Int × Int × Int × Int × (List (Int × Int)) × Unit) ⊕ ((Unit) ⊕ (((List (List (Int × Int))) × (List (Int × Int)) × Bool × Int × Int × Int × Int × Int × Int × Int × (List (Int × Int)) × Unit)))) := fun (v5, v8, v9, v13, v14, v15, v16, v17, v114, v115, v116, c0_0, c0_1, c1_0, c1_1, _) =>
 .br (decide (v116 < v115)) (
 .nb v116 (((v114).length : Nat) : Int) <|
 .bd (F12 v17 (((v114).getD (Int.toNat v116) ((0 : Int), (0 : Int))).1, ((v114).getD (Int.toNat v116) ((0 : Int), (0 : Int))).2)) fun y11 =>
 .br (!y11.1) (
 .ret (.inr <| .inl <| ())) (
 .ni (v116 + (1 : Int)) <|
 .ret (.inl (v5, (v8, (v9, (v13, (v14, (v15, (v16, (v17, (v114, (v115, ((v116 + (1 : Int)), (c0_0, (c0_1, (c1_0, (c1_1, ())))))))))))))))))) (
 .ret (.inr <| .inr <| (v5, (v8, (v9, (v13, (v14, (v15, (v16, (c0_0, (c0_1, (c1_0, (c1_1, ())))))))))))))
theorem s3_2 : ∀ x, roundE (kzO (p3_2.T ⊕ x3_2.T)) cx3 ar0 [] p3_2 x3_2 (b3_2) (fun y => some (.inl y)) (fun b => some (.inr b)) x = run0 (g3_2 x) := fun x => by kernel_rfl
noncomputable def L3_2 : LoopS prog 313 none 0 := mkLoop mixed cx3 cx3_ok [] rfl p3_2 x3_2 rfl (b3_2) (fun x => run0 (g3_2 x)) (s3_2)
@[reducible] def p3_3 : Pat := Pat.mk [(5, .c (.hole (.list (.list (.prod tI tI))))), (7, .c (.ptr 0 0)), (14, hI), (15, hI), (160, .c (.hole (.list (.prod tI tI)))), (161, hI), (162, hI)] [(0, .cells [.hole tI, .hole tI] false)] [.slot 7] []
@[reducible] def x3_3 : Outs := [(.ret, Pat.mk [(4, .c (.tf false))] [] [] []), (.exit 6, Pat.mk [(5, .c (.hole (.list (.list (.prod tI tI))))), (7, .c (.ptr 0 0)), (14, hI), (15, hI)] [(0, .cells [.hole tI, .hole tI] false)] [.slot 7] [])]
noncomputable def b3_3 : D prog 313 none 0 := dO [] (pick (kd prog f3) [(2, false)]) 0
noncomputable def g3_3 : (List (List (Int × Int))) × Int × Int × (List (Int × Int)) × Int × Int × Int × Int × Unit → Tr0 (((List (List (Int × Int))) × Int × Int × (List (Int × Int)) × Int × Int × Int × Int × Unit) ⊕ ((Unit) ⊕ (((List (List (Int × Int))) × Int × Int × Int × Int × Unit)))) := fun (v5, v14, v15, v160, v161, v162, c0_0, c0_1, _) =>
 .br (decide (v162 < v161)) (
 .nb v162 (((v160).length : Nat) : Int) <|
 .ni (v14 * c0_0) <|
 .ni (v15 * c0_1) <|
 .ni ((v14 * c0_0) + (v15 * c0_1)) <|
 .ni (v14 * ((v160).getD (Int.toNat v162) ((0 : Int), (0 : Int))).1) <|
 .ni (v15 * ((v160).getD (Int.toNat v162) ((0 : Int), (0 : Int))).2) <|
 .ni ((v14 * ((v160).getD (Int.toNat v162) ((0 : Int), (0 : Int))).1) + (v15 * ((v160).getD (Int.toNat v162) ((0 : Int), (0 : Int))).2)) <|
 .br (decide (((v14 * c0_0) + (v15 * c0_1)) ≤ ((v14 * ((v160).getD (Int.toNat v162) ((0 : Int), (0 : Int))).1) + (v15 * ((v160).getD (Int.toNat v162) ((0 : Int), (0 : Int))).2)))) (
 .ret (.inr <| .inl <| ())) (
 .ni (v162 + (1 : Int)) <|
 .ret (.inl (v5, (v14, (v15, (v160, (v161, ((v162 + (1 : Int)), (c0_0, (c0_1, ()))))))))))) (
 .ret (.inr <| .inr <| (v5, (v14, (v15, (c0_0, (c0_1, ())))))))
theorem s3_3 : ∀ x, roundE (kzO (p3_3.T ⊕ x3_3.T)) cx3 ar0 [] p3_3 x3_3 (b3_3) (fun y => some (.inl y)) (fun b => some (.inr b)) x = run0 (g3_3 x) := fun x => by kernel_rfl
noncomputable def L3_3 : LoopS prog 313 none 0 := mkLoop mixed cx3 cx3_ok [] rfl p3_3 x3_3 rfl (b3_3) (fun x => run0 (g3_3 x)) (s3_3)
@[reducible] def p3_4 : Pat := Pat.mk [(5, .c (.hole (.list (.list (.prod tI tI))))), (7, .c (.ptr 0 0)), (12, .c (.ptr 1 0)), (28, .c (.ptr 2 0)), (229, .c (.hole (.list (.prod tI tI)))), (230, hI), (231, hI)] [(0, .cells [.hole tI, .hole tI] false), (1, .cells [.hole tI, .hole (.list (.prod tI tI))] false), (2, .cells [.hole tI, .hole tI] false)] [.slot 7, .slot 12, .slot 28] []
@[reducible] def x3_4 : Outs := [(.ret, Pat.mk [(4, .c (.tf false))] [] [] []), (.exit 8, Pat.mk [(5, .c (.hole (.list (.list (.prod tI tI))))), (7, .c (.ptr 0 0)), (12, .c (.ptr 1 0)), (28, .c (.ptr 2 0))] [(0, .cells [.hole tI, .hole tI] false), (1, .cells [.hole tI, .hole (.list (.prod tI tI))] false), (2, .cells [.hole tI, .hole tI] false)] [.slot 7, .slot 12, .slot 28] [])]
noncomputable def b3_4 : D prog 313 none 0 := dO [] (pick (kd prog f3) [(3, false)]) 0
noncomputable def g3_4 : (List (List (Int × Int))) × (List (Int × Int)) × Int × Int × Int × Int × Int × (List (Int × Int)) × Int × Int × Unit → Tr0 (((List (List (Int × Int))) × (List (Int × Int)) × Int × Int × Int × Int × Int × (List (Int × Int)) × Int × Int × Unit) ⊕ ((Unit) ⊕ (((List (List (Int × Int))) × Int × Int × Int × (List (Int × Int)) × Int × Int × Unit)))) := fun (v5, v229, v230, v231, c0_0, c0_1, c1_0, c1_1, c2_0, c2_1, _) =>
 .br (decide (v231 < v230)) (
 .nb v231 (((v229).length : Nat) : Int) <|
 .ni ((-1000 : Int) * c1_0) <|
 .br (decide (((v229).getD (Int.toNat v231) ((0 : Int), (0 : Int))).1 < ((-1000 : Int) * c1_0))) (
 .ret (.inr <| .inl <| ())) (
 .ni ((1000 : Int) * c1_0) <|
 .br (decide (((1000 : Int) * c1_0) < ((v229).getD (Int.toNat v231) ((0 : Int), (0 : Int))).1)) (
 .ret (.inr <| .inl <| ())) (
 .ni ((-1000 : Int) * c1_0) <|
 .br (decide (((v229).getD (Int.toNat v231) ((0 : Int), (0 : Int))).2 < ((-1000 : Int) * c1_0))) (
 .ret (.inr <| .inl <| ())) (
 .ni ((1000 : Int) * c1_0) <|
 .br (decide (((1000 : Int) * c1_0) < ((v229).getD (Int.toNat v231) ((0 : Int), (0 : Int))).2)) (
 .ret (.inr <| .inl <| ())) (
 .nb v231 (((v5).length : Nat) : Int) <|
 .bd (F19 ((v5).getD (Int.toNat v231) []) (((v229).getD (Int.toNat v231) ((0 : Int), (0 : Int))).1, ((v229).getD (Int.toNat v231) ((0 : Int), (0 : Int))).2) c1_0) fun y20 =>
 .br (!y20.1) (
 .ret (.inr <| .inl <| ())) (
 .ni (c2_0 + ((v229).getD (Int.toNat v231) ((0 : Int), (0 : Int))).1) <|
 .ni (c2_1 + ((v229).getD (Int.toNat v231) ((0 : Int), (0 : Int))).2) <|
 .ni (v231 + (1 : Int)) <|
 .ret (.inl (v5, (v229, (v230, ((v231 + (1 : Int)), (c0_0, (c0_1, (c1_0, (c1_1, ((c2_0 + ((v229).getD (Int.toNat v231) ((0 : Int), (0 : Int))).1), ((c2_1 + ((v229).getD (Int.toNat v231) ((0 : Int), (0 : Int))).2), ()))))))))))))))))) (
 .ret (.inr <| .inr <| (v5, (c0_0, (c0_1, (c1_0, (c1_1, (c2_0, (c2_1, ())))))))))
theorem s3_4 : ∀ x, roundE (kzO (p3_4.T ⊕ x3_4.T)) cx3 ar0 [] p3_4 x3_4 (b3_4) (fun y => some (.inl y)) (fun b => some (.inr b)) x = run0 (g3_4 x) := fun x => by kernel_rfl
noncomputable def L3_4 : LoopS prog 313 none 0 := mkLoop mixed cx3 cx3_ok [] rfl p3_4 x3_4 rfl (b3_4) (fun x => run0 (g3_4 x)) (s3_4)
noncomputable def dd3 : D prog 313 none 0 := dO [.l L3_0, .l L3_2, .l L3_3, .l L3_4] (kd prog f3) 0
noncomputable def F3 (a0 : List (List (Int × Int))) (a1 : Int × Int) : Tr0 (Bool × Unit) :=
 .bd (F10 a0) fun y0 =>
 .br (!y0.2.1) (
 .ret (false, ())) (
 .nd (decide ((0 : Nat) < ((a1.1 :: (a1.2 :: []))).length)) <|
 .ni (((a1.1 :: (a1.2 :: []))).getD (0 : Nat) (0 : Int)) <|
 .nd (!((3 : Int) == (0 : Int))) <|
 .ni (Int.tdiv (((a1.1 :: (a1.2 :: []))).getD (0 : Nat) (0 : Int)) (3 : Int)) <|
 .nd (decide ((1 : Nat) < ((a1.1 :: (a1.2 :: []))).length)) <|
 .ni (((a1.1 :: (a1.2 :: []))).getD (1 : Nat) (0 : Int)) <|
 .nd (!((3 : Int) == (0 : Int))) <|
 .ni (Int.tdiv (((a1.1 :: (a1.2 :: []))).getD (1 : Nat) (0 : Int)) (3 : Int)) <|
 .bd (F11 y0.1) fun y1 =>
 .bd (F12 y1.1 ((Int.tdiv (((a1.1 :: (a1.2 :: []))).getD (0 : Nat) (0 : Int)) (3 : Int)), (Int.tdiv (((a1.1 :: (a1.2 :: []))).getD (1 : Nat) (0 : Int)) (3 : Int)))) fun y2 =>
 .bd (F13 y0.1 ((Int.tdiv (((a1.1 :: (a1.2 :: []))).getD (0 : Nat) (0 : Int)) (3 : Int)), (Int.tdiv (((a1.1 :: (a1.2 :: []))).getD (1 : Nat) (0 : Int)) (3 : Int)))) fun y3 =>
 .bd (F14 y0.1 ((Int.tdiv (((a1.1 :: (a1.2 :: []))).getD (0 : Nat) (0 : Int)) (3 : Int)), (Int.tdiv (((a1.1 :: (a1.2 :: []))).getD (1 : Nat) (0 : Int)) (3 : Int)))) fun y4 =>
 .bd (F15 y0.1 ((Int.tdiv (((a1.1 :: (a1.2 :: []))).getD (0 : Nat) (0 : Int)) (3 : Int)), (Int.tdiv (((a1.1 :: (a1.2 :: []))).getD (1 : Nat) (0 : Int)) (3 : Int)))) fun y5 =>
 .bd (F16 y0.1) fun y6 =>
 .br (!(y3.2.1 == (0 : Int))) (
 .ret (false, ())) (
 .br (!(y6.2.1 == (0 : Int))) (
 .ret (false, ())) (
 .br (!(y3.1 == y2.1)) (
 .ret (false, ())) (
 .br ((((y6.1).length : Nat) : Int) == (0 : Int)) (
 .ret (false, ())) (
 .bd (.it g3_0 (y0.1, (y1.1, (y2.1, (y4.2.1, (y5.1, (y5.2.1, (y5.2.2.1, (y6.1, (y6.1, ((((y6.1).length : Nat) : Int), ((0 : Int), ((Int.tdiv (((a1.1 :: (a1.2 :: []))).getD (0 : Nat) (0 : Int)) (3 : Int)), ((Int.tdiv (((a1.1 :: (a1.2 :: []))).getD (1 : Nat) (0 : Int)) (3 : Int)), (y4.1.1, (y4.1.2, ())))))))))))))))) fun z8 =>
 .sm z8 (fun z9 =>
 .ret (false, ())) fun z10 =>
 .bd (.it g3_2 (z10.1, (z10.2.1, (z10.2.2.1, (z10.2.2.2.1, (z10.2.2.2.2.1, (z10.2.2.2.2.2.1, (z10.2.2.2.2.2.2.1, (z10.2.2.2.2.2.2.2.1, (z10.2.1, ((((z10.2.1).length : Nat) : Int), ((0 : Int), (z10.2.2.2.2.2.2.2.2.1, (z10.2.2.2.2.2.2.2.2.2.1, (z10.2.2.2.2.2.2.2.2.2.2.1, (z10.2.2.2.2.2.2.2.2.2.2.2.1, ())))))))))))))))) fun z12 =>
 .sm z12 (fun z13 =>
 .ret (false, ())) fun z14 =>
 .br (!z14.2.2.1) (
 .br (!(z14.2.2.2.1 == (10 : Int))) (
 .ret (false, ())) (
 .br (!(z14.2.2.2.2.2.2.1 == (0 : Int))) (
 .ret (false, ())) (
 .br (!(z14.2.2.2.2.2.2.2.2.2.1 == (0 : Int))) (
 .ret (false, ())) (
 .br (!((((z14.2.2.2.2.2.2.2.2.2.2.1).length : Nat) : Int) == (0 : Int))) (
 .ret (false, ())) (
 .br (decide (z14.2.2.2.2.1 < (-100000 : Int))) (
 .ret (false, ())) (
 .br (decide ((100000 : Int) < z14.2.2.2.2.1)) (
 .ret (false, ())) (
 .br (decide (z14.2.2.2.2.2.1 < (-100000 : Int))) (
 .ret (false, ())) (
 .br (decide ((100000 : Int) < z14.2.2.2.2.2.1)) (
 .ret (false, ())) (
 .bd (.it g3_3 (z14.1, (z14.2.2.2.2.1, (z14.2.2.2.2.2.1, (z14.2.1, ((((z14.2.1).length : Nat) : Int), ((0 : Int), (z14.2.2.2.2.2.2.2.1, (z14.2.2.2.2.2.2.2.2.1, ()))))))))) fun z15 =>
 .sm z15 (fun z16 =>
 .ret (false, ())) fun z17 =>
 .bd (F17 z17.1 (z17.2.2.2.1, z17.2.2.2.2.1) z17.2.1 z17.2.2.1) fun y18 =>
 .br (y18.1 == (0 : Int)) (
 .bd (F18) fun y19 =>
 .ret (y19.1, ())) (
 .ret (false, ()))))))))))) (
 .br (!(z14.2.2.2.1 == (0 : Int))) (
 .ret (false, ())) (
 .br (!(z14.2.2.2.2.2.2.1 == (5 : Int))) (
 .ret (false, ())) (
 .br (!(z14.2.2.2.2.1 == (0 : Int))) (
 .ret (false, ())) (
 .br (!(z14.2.2.2.2.2.1 == (0 : Int))) (
 .ret (false, ())) (
 .br (decide (z14.2.2.2.2.2.2.2.2.2.1 < (1 : Int))) (
 .ret (false, ())) (
 .br (decide ((1000000000 : Int) < z14.2.2.2.2.2.2.2.2.2.1)) (
 .ret (false, ())) (
 .br (!((((z14.2.2.2.2.2.2.2.2.2.2.1).length : Nat) : Int) == (((z14.1).length : Nat) : Int))) (
 .ret (false, ())) (
 .bd (.it g3_4 (z14.1, (z14.2.2.2.2.2.2.2.2.2.2.1, ((((z14.2.2.2.2.2.2.2.2.2.2.1).length : Nat) : Int), ((0 : Int), (z14.2.2.2.2.2.2.2.1, (z14.2.2.2.2.2.2.2.2.1, (z14.2.2.2.2.2.2.2.2.2.1, (z14.2.2.2.2.2.2.2.2.2.2.1, ((0 : Int), ((0 : Int), ()))))))))))) fun z21 =>
 .sm z21 (fun z22 =>
 .ret (false, ())) fun z23 =>
 .ni (z23.2.1 * z23.2.2.2.1) <|
 .ni (z23.2.2.1 * z23.2.2.2.1) <|
 .br ((z23.2.2.2.2.2.1 == (z23.2.1 * z23.2.2.2.1)) && ((z23.2.2.2.2.2.2.1 == (z23.2.2.1 * z23.2.2.2.1)) && true)) (
 .bd (F20 z23.1 (z23.2.1, z23.2.2.1) (z23.2.2.2.1, z23.2.2.2.2.1)) fun y24 =>
 .br (y24.1 == (0 : Int)) (
 .bd (F18) fun y25 =>
 .ret (y25.1, ())) (
 .ret (false, ()))) (
 .ret (false, ())))))))))))))))
theorem c3_ok : trF prog f3 = some ⟨313, 2, dd3.er, [.t 4], [some .bool]⟩ := by kernel_rfl
noncomputable def ct3 : Ct := ⟨3, [.c (.hole (.list (.list (.prod (.int .i8) (.int .i8))))), .c (.hole (.prod (.int .i8) (.int .i8)))], .c (.hole .bool), fun x => run0 (F3 x.1 x.2.1)⟩
theorem ct3_ok : ct3.Ok prog := ct_ok mixed cx3_ok func3 c3_ok (enters_of func3 rfl rfl) dd3 (by kernel_rfl) rfl (fun x => by kernel_rfl)

/- 4 -/
noncomputable def cx4 : Cx := (mkCxH [ct10, ct13, ct17, ct20, ct18] [])
theorem cx4_ok : cx4.Ok prog := mkCxH_ok ⟨ct10_ok, ct13_ok, ct17_ok, ct20_ok, ct18_ok, trivial⟩ trivial
@[reducible] def p4_0 : Pat := Pat.mk [(3, .c (.hole (.list (.prod (.int .i8) (.int .i8))))), (11, .c (.hole (.list (.list (.prod tI tI))))), (13, .c (.ptr 0 0)), (14, .c (.hole .bool)), (16, .c (.ptr 1 0)), (62, .c (.hole (.list (.list (.prod tI tI))))), (63, hI), (64, hI)] [(0, .cells [.hole tI, .hole tI] false), (1, .cells [.hole tI, .sl0 2 (.prod tI tI)] false), (2, .arr (.prod tI tI) false)] [.slot 13, .slot 16, .cell 1 1] []
@[reducible] def x4_0 : Outs := [(.exit 0, Pat.mk [(11, .c (.hole (.list (.list (.prod tI tI))))), (13, .c (.ptr 0 0)), (14, .c (.hole .bool)), (16, .c (.ptr 1 0))] [(0, .cells [.hole tI, .hole tI] false), (1, .cells [.hole tI, .sl0 2 (.prod tI tI)] false), (2, .arr (.prod tI tI) false)] [.slot 13, .slot 16, .cell 1 1] [])]
noncomputable def b4_0 : D prog 127 none 0 := dO [] (pick (kd prog f4) [(0, false)]) 0
noncomputable def g4_0 : (List (Int × Int)) × (List (List (Int × Int))) × Bool × (List (List (Int × Int))) × Int × Int × Int × Int × Int × Nat × (List (Int × Int)) × Unit → Tr0 (((List (Int × Int)) × (List (List (Int × Int))) × Bool × (List (List (Int × Int))) × Int × Int × Int × Int × Int × Nat × (List (Int × Int)) × Unit) ⊕ (((List (List (Int × Int))) × Bool × Int × Int × Int × Nat × (List (Int × Int)) × Unit))) := fun (v3, v11, v14, v62, v63, v64, c0_0, c0_1, c1_0, nc1_1, b2, _) =>
 .br (decide (v64 < v63)) (
 .nb v64 (((v62).length : Nat) : Int) <|
 .nb (0 : Int) (((((v62).getD (Int.toNat v64) [])).length : Nat) : Int) <|
 .ni (((((v62).getD (Int.toNat v64) [])).getD (Int.toNat (0 : Int)) ((0 : Int), (0 : Int))).1 * c1_0) <|
 .nb (0 : Int) (((((v62).getD (Int.toNat v64) [])).length : Nat) : Int) <|
 .ni (((((v62).getD (Int.toNat v64) [])).getD (Int.toNat (0 : Int)) ((0 : Int), (0 : Int))).2 * c1_0) <|
 .jx (
 .br (decide (v64 < (((v3).length : Nat) : Int))) (
 .nb v64 (((v3).length : Nat) : Int) <|
 .ni ((v3).getD (Int.toNat v64) ((0 : Int), (0 : Int))).1 <|
 .nd (!((4 : Int) == (0 : Int))) <|
 .ni (Int.tdiv ((v3).getD (Int.toNat v64) ((0 : Int), (0 : Int))).1 (4 : Int)) <|
 .ni ((((((v62).getD (Int.toNat v64) [])).getD (Int.toNat (0 : Int)) ((0 : Int), (0 : Int))).1 * c1_0) + (Int.tdiv ((v3).getD (Int.toNat v64) ((0 : Int), (0 : Int))).1 (4 : Int))) <|
 .nb v64 (((v3).length : Nat) : Int) <|
 .ni ((v3).getD (Int.toNat v64) ((0 : Int), (0 : Int))).2 <|
 .nd (!((4 : Int) == (0 : Int))) <|
 .ni (Int.tdiv ((v3).getD (Int.toNat v64) ((0 : Int), (0 : Int))).2 (4 : Int)) <|
 .ni ((((((v62).getD (Int.toNat v64) [])).getD (Int.toNat (0 : Int)) ((0 : Int), (0 : Int))).2 * c1_0) + (Int.tdiv ((v3).getD (Int.toNat v64) ((0 : Int), (0 : Int))).2 (4 : Int))) <|
 .ret (.inl (v3, (v11, (v14, (v62, (v63, (v64, (c0_0, (c0_1, (c1_0, (nc1_1, (((((((v62).getD (Int.toNat v64) [])).getD (Int.toNat (0 : Int)) ((0 : Int), (0 : Int))).1 * c1_0) + (Int.tdiv ((v3).getD (Int.toNat v64) ((0 : Int), (0 : Int))).1 (4 : Int))), (((((((v62).getD (Int.toNat v64) [])).getD (Int.toNat (0 : Int)) ((0 : Int), (0 : Int))).2 * c1_0) + (Int.tdiv ((v3).getD (Int.toNat v64) ((0 : Int), (0 : Int))).2 (4 : Int))), (b2, ()))))))))))))))) (
 .ret (.inl (v3, (v11, (v14, (v62, (v63, (v64, (c0_0, (c0_1, (c1_0, (nc1_1, ((((((v62).getD (Int.toNat v64) [])).getD (Int.toNat (0 : Int)) ((0 : Int), (0 : Int))).1 * c1_0), ((((((v62).getD (Int.toNat v64) [])).getD (Int.toNat (0 : Int)) ((0 : Int), (0 : Int))).2 * c1_0), (b2, ())))))))))))))))) fun j3 =>
 .nd (decide ((j3.2.2.2.2.2.2.2.2.2.1 + ((((((j3.2.2.2.2.2.2.2.2.2.2.1, j3.2.2.2.2.2.2.2.2.2.2.2.1) :: [])).drop (0 : Nat)).take (1 : Nat))).length) < bigL)) <|
 .ni (j3.2.2.2.2.2.1 + (1 : Int)) <|
 .ret (.inl (j3.1, (j3.2.1, (j3.2.2.1, (j3.2.2.2.1, (j3.2.2.2.2.1, ((j3.2.2.2.2.2.1 + (1 : Int)), (j3.2.2.2.2.2.2.1, (j3.2.2.2.2.2.2.2.1, (j3.2.2.2.2.2.2.2.2.1, ((j3.2.2.2.2.2.2.2.2.2.1 + ((((((j3.2.2.2.2.2.2.2.2.2.2.1, j3.2.2.2.2.2.2.2.2.2.2.2.1) :: [])).drop (0 : Nat)).take (1 : Nat))).length), (((((j3.2.2.2.2.2.2.2.2.2.2.2.2.1).drop (0 : Nat)).take j3.2.2.2.2.2.2.2.2.2.1) ++ (((((j3.2.2.2.2.2.2.2.2.2.2.1, j3.2.2.2.2.2.2.2.2.2.2.2.1) :: [])).drop (0 : Nat)).take (1 : Nat))), ()))))))))))))) (
 .ret (.inr (v11, (v14, (c0_0, (c0_1, (c1_0, (nc1_1, (b2, ())))))))))
theorem s4_0 : ∀ x, roundE (kzO (p4_0.T ⊕ x4_0.T)) cx4 ar0 [] p4_0 x4_0 (b4_0) (fun y => some (.inl y)) (fun b => some (.inr b)) x = run0 (g4_0 x) := fun x => Eq.trans (b := run0 (flat (g4_0 x))) (by kernel_rfl) run_flat
noncomputable def L4_0 : LoopS prog 127 none 0 := mkLoop mixed cx4 cx4_ok [] rfl p4_0 x4_0 rfl (b4_0) (fun x => run0 (g4_0 x)) (s4_0)
noncomputable def dd4 : D prog 127 none 0 := dO [.l L4_0] (kd prog f4) 0
noncomputable def F4 (a0 : List (List (Int × Int))) (a1 : Int × Int) (a2 : Int × Int) (a3 : List (Int × Int)) (a4 : Int) : Tr0 (Bool × Unit) :=
 .bd (F10 a0) fun y0 =>
 .br (!y0.2.1) (
 .ret (false, ())) (
 .nd (decide ((0 : Nat) < ((a1.1 :: (a1.2 :: []))).length)) <|
 .ni (((a1.1 :: (a1.2 :: []))).getD (0 : Nat) (0 : Int)) <|
 .nd (!((3 : Int) == (0 : Int))) <|
 .ni (Int.tdiv (((a1.1 :: (a1.2 :: []))).getD (0 : Nat) (0 : Int)) (3 : Int)) <|
 .nd (decide ((1 : Nat) < ((a1.1 :: (a1.2 :: []))).length)) <|
 .ni (((a1.1 :: (a1.2 :: []))).getD (1 : Nat) (0 : Int)) <|
 .nd (!((3 : Int) == (0 : Int))) <|
 .ni (Int.tdiv (((a1.1 :: (a1.2 :: []))).getD (1 : Nat) (0 : Int)) (3 : Int)) <|
 .bd (F13 y0.1 ((Int.tdiv (((a1.1 :: (a1.2 :: []))).getD (0 : Nat) (0 : Int)) (3 : Int)), (Int.tdiv (((a1.1 :: (a1.2 :: []))).getD (1 : Nat) (0 : Int)) (3 : Int)))) fun y1 =>
 .br (!(y1.2.1 == (0 : Int))) (
 .ret (false, ())) (
 .nd (decide ((0 : Nat) < ((a2.1 :: (a2.2 :: []))).length)) <|
 .ni (((a2.1 :: (a2.2 :: []))).getD (0 : Nat) (0 : Int)) <|
 .nd (decide ((1 : Nat) < ((a2.1 :: (a2.2 :: []))).length)) <|
 .ni (((a2.1 :: (a2.2 :: []))).getD (1 : Nat) (0 : Int)) <|
 .bd (F17 y0.1 ((Int.tdiv (((a1.1 :: (a1.2 :: []))).getD (0 : Nat) (0 : Int)) (3 : Int)), (Int.tdiv (((a1.1 :: (a1.2 :: []))).getD (1 : Nat) (0 : Int)) (3 : Int))) (((a2.1 :: (a2.2 :: []))).getD (0 : Nat) (0 : Int)) (((a2.1 :: (a2.2 :: []))).getD (1 : Nat) (0 : Int))) fun y2 =>
 .br (y2.1 == (0 : Int)) (
 .br y1.1 (
 .ret (false, ())) (
 .ni a4 <|
 .nd (!((4 : Int) == (0 : Int))) <|
 .ni ((1 : Int) + (Int.tmod a4 (4 : Int))) <|
 .bd (.it g4_0 (a3, (y0.1, (y1.1, (y0.1, ((((y0.1).length : Nat) : Int), ((0 : Int), ((Int.tdiv (((a1.1 :: (a1.2 :: []))).getD (0 : Nat) (0 : Int)) (3 : Int)), ((Int.tdiv (((a1.1 :: (a1.2 :: []))).getD (1 : Nat) (0 : Int)) (3 : Int)), (((1 : Int) + (Int.tmod a4 (4 : Int))), ((0 : Nat), ([], ())))))))))))) fun z4 =>
 .bd (F20 z4.1 (z4.2.2.1, z4.2.2.2.1) (z4.2.2.2.2.1, (((z4.2.2.2.2.2.2.1).drop (0 : Nat)).take z4.2.2.2.2.2.1))) fun y5 =>
 .br (y5.1 == (0 : Int)) (
 .br (!z4.2.1) (
 .ret (false, ())) (
 .bd (F18) fun y6 =>
 .ret (y6.1, ()))) (
 .bd (F18) fun y7 =>
 .ret (y7.1, ())))) (
 .ni a4 <|
 .nd (!((4 : Int) == (0 : Int))) <|
 .ni ((1 : Int) + (Int.tmod a4 (4 : Int))) <|
 .bd (.it g4_0 (a3, (y0.1, (y1.1, (y0.1, ((((y0.1).length : Nat) : Int), ((0 : Int), ((Int.tdiv (((a1.1 :: (a1.2 :: []))).getD (0 : Nat) (0 : Int)) (3 : Int)), ((Int.tdiv (((a1.1 :: (a1.2 :: []))).getD (1 : Nat) (0 : Int)) (3 : Int)), (((1 : Int) + (Int.tmod a4 (4 : Int))), ((0 : Nat), ([], ())))))))))))) fun z8 =>
 .bd (F20 z8.1 (z8.2.2.1, z8.2.2.2.1) (z8.2.2.2.2.1, (((z8.2.2.2.2.2.2.1).drop (0 : Nat)).take z8.2.2.2.2.2.1))) fun y9 =>
 .br (y9.1 == (0 : Int)) (
 .br (!z8.2.1) (
 .ret (false, ())) (
 .bd (F18) fun y10 =>
 .ret (y10.1, ()))) (
 .bd (F18) fun y11 =>
 .ret (y11.1, ())))))
theorem c4_ok : trF prog f4 = some ⟨127, 5, dd4.er, [.t 10], [some .bool]⟩ := by kernel_rfl
noncomputable def ct4 : Ct := ⟨4, [.c (.hole (.list (.list (.prod (.int .i8) (.int .i8))))), .c (.hole (.prod (.int .i8) (.int .i8))), .c (.hole (.prod (.int .i8) (.int .i8))), .c (.hole (.list (.prod (.int .i8) (.int .i8)))), .c (.hole (.int .u8))], .c (.hole .bool), fun x => run0 (F4 x.1 x.2.1 x.2.2.1 x.2.2.2.1 x.2.2.2.2.1)⟩
theorem ct4_ok : ct4.Ok prog := ct_ok mixed cx4_ok func4 c4_ok (enters_of func4 rfl rfl) dd4 (by kernel_rfl) rfl (fun x => by kernel_rfl)

end Go.Proofs.Try

