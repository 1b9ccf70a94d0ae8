/- Functions of the program as functions of data, part 1; printed by a program of mine. -/
import Derived.Test.YtigglifniejbpaaAMc
import Derived.Test.YtigglifniejbpaaProg
set_option linter.unusedSectionVars false
set_option linter.unusedVariables false
set_option linter.unusedSimpArgs false
open Go.AM
namespace Go.Proofs.Try
set_option maxRecDepth 100000
set_option synthInstance.maxSize 4000
set_option synthInstance.maxHeartbeats 400000
set_option synthInstance.maxSize 4000
set_option synthInstance.maxHeartbeats 400000
theorem mixed : prog.follows .mixedOrders = true := by kernel_rfl
@[reducible] def oo (n : Nat) (i : I) : Itm := .op (some n) none i
@[reducible] def om (n k : Nat) : Itm := .op (some n) none (.mv (.t k))
@[reducible] def ol (n k : Nat) : Itm := .op (some n) none (.load false 1 (.t k))
@[reducible] def og (n k : Nat) (b : Bool) (i : I) : Itm := .op (some n) (some (k, b)) i
@[reducible] def ki (n : Nat) : O := .c (.int .i64 (Int.ofNat n))
@[reducible] def hzI : SP := .c (.hole (.int .i64))
@[reducible] def hzL : SP := .c (.hole (.list (.int .i64)))
@[reducible] def hzM : SP := .c (.hole (.list (.list (.int .i64))))

/- 46 -/
noncomputable def cx46 : Cx := mkCxH [] []
theorem cx46_ok : cx46.Ok prog := mkCxH_ok trivial trivial
noncomputable def dd46 : D prog 5 none 0 := (.seq (.reg [oo 0 (.mv (.c .nsl))]) (.seq (.reg [oo 1 (.bslice (.int .i64) [ki 9, ki 7, ki 2]), oo 2 (.bslice (.int .i64) [ki 8, ki 3]), oo 3 (.bslice (.int .i64) [ki 5, ki 5, ki 5]), oo 4 (.bslice (.list (.int .i64)) [.t 1, .t 2, .t 3]), om 0 4]) .ret))
noncomputable def F46 : Option (List (List Int) × Unit) :=
 some ((((((((((9 : Int) :: ((7 : Int) :: ((2 : Int) :: [])))).drop (0 : Nat)).take (3 : Nat)) :: ((((((8 : Int) :: ((3 : Int) :: []))).drop (0 : Nat)).take (2 : Nat)) :: ((((((5 : Int) :: ((5 : Int) :: ((5 : Int) :: [])))).drop (0 : Nat)).take (3 : Nat)) :: [])))).drop (0 : Nat)).take (3 : Nat)), ())
def CF46 : Option (List (List Int) × Unit) :=
 some ((((((((((9 : Int) :: ((7 : Int) :: ((2 : Int) :: [])))).drop (0 : Nat)).take (3 : Nat)) :: ((((((8 : Int) :: ((3 : Int) :: []))).drop (0 : Nat)).take (2 : Nat)) :: ((((((5 : Int) :: ((5 : Int) :: ((5 : Int) :: [])))).drop (0 : Nat)).take (3 : Nat)) :: [])))).drop (0 : Nat)).take (3 : Nat)), ())
theorem CF46_le : Le (CF46) (F46) := Le.r
theorem c46_ok : trF prog f46 = some ⟨5, 0, dd46.er, [.t 0], [some (.list (.list (.int .i64)))]⟩ := by kernel_rfl
noncomputable def ct46 : Ct := ⟨46, [], .c (.hole (.list (.list (.int .i64)))), fun x => F46⟩
theorem ct46_ok : ct46.Ok prog := ct_ok mixed cx46_ok func46 c46_ok (enters_of func46 rfl rfl) dd46 rfl rfl (fun x => by kernel_rfl)

/- 48 -/
noncomputable def cx48 : Cx := mkCxH [] []
theorem cx48_ok : cx48.Ok prog := mkCxH_ok trivial trivial
noncomputable def dd48 : D prog 15 none 0 := (.seq (.reg [oo 6 (.mv (.c (.tf false)))]) (.seq (.reg [om 7 0, om 8 1, oo 9 (.bin .leq (.t 7) (.t 8)), om 10 9, og 11 10 true (.mv (.t 1)), og 12 10 true (.mv (.t 2)), og 13 10 true (.bin .leq (.t 11) (.t 12)), oo 14 (.pick (.t 10) (.t 13) (.c (.tf false))), om 6 14]) .ret))
noncomputable def F48 (a0 : Int) (a1 : Int) (a2 : Int) : Option (Bool × Unit) :=
 brO (decide (a0 ≤ a1)) (
 some ((decide (a1 ≤ a2)), ())) (
 some (false, ()))
def CF48 (a0 : Int) (a1 : Int) (a2 : Int) : Option (Bool × Unit) :=
 brC (decide (a0 ≤ a1)) (
 some ((decide (a1 ≤ a2)), ())) (
 some (false, ()))
theorem CF48_le (a0 : Int) (a1 : Int) (a2 : Int) : Le (CF48 a0 a1 a2) (F48 a0 a1 a2) := (Le.br Le.r Le.r)
theorem c48_ok : trF prog f48 = some ⟨15, 3, dd48.er, [.t 6], [some .bool]⟩ := by kernel_rfl
noncomputable def ct48 : Ct := ⟨48, [.c (.hole (.int .i64)), .c (.hole (.int .i64)), .c (.hole (.int .i64))], .c (.hole .bool), fun x => F48 x.1 x.2.1 x.2.2.1⟩
theorem ct48_ok : ct48.Ok prog := ct_ok mixed cx48_ok func48 c48_ok (enters_of func48 rfl rfl) dd48 rfl rfl (fun x => by kernel_rfl)

/- 53 -/
noncomputable def cx53 : Cx := mkCxH [ct48] []
theorem cx53_ok : cx53.Ok prog := mkCxH_ok ⟨ct48_ok, trivial⟩ trivial
noncomputable def dd53 : D prog 5 none 0 := (.seq (.reg [oo 2 (.mv (.c (.tf false)))]) (.seq (.reg [om 3 0, .call (some 4) none (.c (.fn 48 [] [])) [ki 0, .t 3, ki 1000000] [some (.int .i64), some (.int .i64), some (.int .i64)], om 2 4]) .ret))
noncomputable def F53 (a0 : Int) : Option (Bool × Unit) :=
 bindO (F48 (0 : Int) a0 (1000000 : Int)) fun y0 =>
 some (y0.1, ())
def CF53 (a0 : Int) : Option (Bool × Unit) :=
 bindC (CF48 (0 : Int) a0 (1000000 : Int)) fun y0 =>
 some (y0.1, ())
theorem CF53_le (a0 : Int) : Le (CF53 a0) (F53 a0) := (Le.bd (CF48_le ..) fun y0 => Le.r)
theorem c53_ok : trF prog f53 = some ⟨5, 1, dd53.er, [.t 2], [some .bool]⟩ := by kernel_rfl
noncomputable def ct53 : Ct := ⟨53, [.c (.hole (.int .i64))], .c (.hole .bool), fun x => F53 x.1⟩
theorem ct53_ok : ct53.Ok prog := ct_ok mixed cx53_ok func53 c53_ok (enters_of func53 rfl rfl) dd53 rfl rfl (fun x => by kernel_rfl)

/- 54 -/
noncomputable def cx54 : Cx := mkCxH [] []
theorem cx54_ok : cx54.Ok prog := mkCxH_ok trivial trivial
noncomputable def dd54 : D prog 8 none 0 := (.seq (.reg [oo 4 (.mv (.c (.tf false)))]) (.seq (.reg [om 5 0, om 6 1, oo 7 (.bin .leq (.t 5) (.t 6)), om 4 7]) .ret))
noncomputable def F54 (a0 : Int) (a1 : Int) : Option (Bool × Unit) :=
 some ((decide (a0 ≤ a1)), ())
def CF54 (a0 : Int) (a1 : Int) : Option (Bool × Unit) :=
 some ((decide (a0 ≤ a1)), ())
theorem CF54_le (a0 : Int) (a1 : Int) : Le (CF54 a0 a1) (F54 a0 a1) := Le.r
theorem c54_ok : trF prog f54 = some ⟨8, 2, dd54.er, [.t 4], [some .bool]⟩ := by kernel_rfl
noncomputable def ct54 : Ct := ⟨54, [.c (.hole (.int .i64)), .c (.hole (.int .i64))], .c (.hole .bool), fun x => F54 x.1 x.2.1⟩
theorem ct54_ok : ct54.Ok prog := ct_ok mixed cx54_ok func54 c54_ok (enters_of func54 rfl rfl) dd54 rfl rfl (fun x => by kernel_rfl)

/- 52 -/
noncomputable def cx52 : Cx := mkCxH [ct53, ct54] []
theorem cx52_ok : cx52.Ok prog := mkCxH_ok ⟨ct53_ok, ct54_ok, trivial⟩ trivial
@[reducible] def p52_1 : Pat := Pat.mk [(1, .c (.fn0 53)), (2, .c (.fn0 54)), (8, hzL), (14, hzM), (15, hzI), (16, hzI), (23, hzL), (24, hzI), (25, hzI)] [] [] []
@[reducible] def x52_1 : Outs := [(.ret, Pat.mk [(6, hzI)] [] [] []), (.exit 2, Pat.mk [(1, .c (.fn0 53)), (2, .c (.fn0 54)), (14, hzM), (15, hzI), (16, hzI)] [] [] [])]
noncomputable def b52_1 : D prog 51 none 0 := (.seq (.reg [oo 26 (.bin .lss (.t 25) (.t 24))]) (.seq (.cond ( .t 26) .skip (.exit 2)) (.seq (.block 3 (.seq (.reg [om 27 25, oo 28 (.idx 1 (.t 23) (.t 25)), ol 29 28, om 9 27, om 10 29]) (.block 4 (.seq (.reg [om 31 1, om 32 10, .call (some 33) none (.t 31) [.t 32] [some (.int .i64)], oo 34 (.not (.t 33)), om 30 34]) (.cond ( .t 30) (.seq (.reg [oo 6 (.mv (ki 2))]) .ret) (.seq (.reg [om 36 9, oo 37 (.bin .gtr (.t 36) (ki 0)), om 38 37, og 39 38 true (.mv (.t 2)), og 40 38 true (.mv (.t 10)), og 41 38 true (.mv (.t 8)), og 42 38 true (.mv (.t 9)), og 43 38 true (.bin .sub (.t 42) (ki 1)), og 44 38 true (.idx 1 (.t 41) (.t 43)), og 45 38 true (.load false 1 (.t 44)), .call (some 46) (some (38, true)) (.t 39) [.t 40, .t 45] [some (.int .i64), some (.int .i64)], og 47 38 true (.not (.t 46)), oo 48 (.pick (.t 38) (.t 47) (.c (.tf false))), om 35 48]) (.cond ( .t 35) (.seq (.reg [oo 6 (.mv (ki 7))]) .ret) .skip))))))) (.reg [oo 49 (.bin .add (.t 25) (ki 1)), om 25 49]))))
noncomputable def g52_1 (v8 : List Int) (v14 : List (List Int)) (v15 : Int) (v16 : Int) (v23 : List Int) (v24 : Int) (v25 : Int) : Option ((List Int × List (List Int) × Int × Int × List Int × Int × Int × Unit) ⊕ ((Int × Unit) ⊕ ((List (List Int) × Int × Int × Unit)))) :=
 brO (decide (v25 < v24)) (
 need (inb v25 (((v23).length : Nat) : Int)) (
 bindO (F53 ((v23).getD (Int.toNat v25) (0 : Int))) fun y0 =>
 brO (!y0.1) (
 some (.inr <| .inl <| ((2 : Int), ()))) (
 brO (decide ((0 : Int) < v25)) (
 need (rng .i64 (v25 - (1 : Int))) (
 need (inb (v25 - (1 : Int)) (((v8).length : Nat) : Int)) (
 bindO (F54 ((v23).getD (Int.toNat v25) (0 : Int)) ((v8).getD (Int.toNat (v25 - (1 : Int))) (0 : Int))) fun y1 =>
 brO (!y1.1) (
 some (.inr <| .inl <| ((7 : Int), ()))) (
 need (rng .i64 (v25 + (1 : Int))) (
 some (.inl (v8, (v14, (v15, (v16, (v23, (v24, ((v25 + (1 : Int)), ()))))))))))))) (
 need (rng .i64 (v25 + (1 : Int))) (
 some (.inl (v8, (v14, (v15, (v16, (v23, (v24, ((v25 + (1 : Int)), ()))))))))))))) (
 some (.inr <| .inr <| (v14, (v15, (v16, ())))))
def Cg52_1 (v8 : List Int) (v14 : List (List Int)) (v15 : Int) (v16 : Int) (v23 : List Int) (v24 : Int) (v25 : Int) : Option ((List Int × List (List Int) × Int × Int × List Int × Int × Int × Unit) ⊕ ((Int × Unit) ⊕ ((List (List Int) × Int × Int × Unit)))) :=
 brC (decide (v25 < v24)) (
 needC (inb v25 (((v23).length : Nat) : Int)) (
 bindC (CF53 ((v23).getD (Int.toNat v25) (0 : Int))) fun y0 =>
 brC (!y0.1) (
 some (.inr <| .inl <| ((2 : Int), ()))) (
 brC (decide ((0 : Int) < v25)) (
 needC (rng .i64 (v25 - (1 : Int))) (
 needC (inb (v25 - (1 : Int)) (((v8).length : Nat) : Int)) (
 bindC (CF54 ((v23).getD (Int.toNat v25) (0 : Int)) ((v8).getD (Int.toNat (v25 - (1 : Int))) (0 : Int))) fun y1 =>
 brC (!y1.1) (
 some (.inr <| .inl <| ((7 : Int), ()))) (
 needC (rng .i64 (v25 + (1 : Int))) (
 some (.inl (v8, (v14, (v15, (v16, (v23, (v24, ((v25 + (1 : Int)), ()))))))))))))) (
 needC (rng .i64 (v25 + (1 : Int))) (
 some (.inl (v8, (v14, (v15, (v16, (v23, (v24, ((v25 + (1 : Int)), ()))))))))))))) (
 some (.inr <| .inr <| (v14, (v15, (v16, ())))))
theorem Cg52_1_le (v8 : List Int) (v14 : List (List Int)) (v15 : Int) (v16 : Int) (v23 : List Int) (v24 : Int) (v25 : Int) : Le (Cg52_1 v8 v14 v15 v16 v23 v24 v25) (g52_1 v8 v14 v15 v16 v23 v24 v25) := (Le.br (Le.nd (Le.bd (CF53_le ..) fun y0 => (Le.br Le.r (Le.br (Le.nd (Le.nd (Le.bd (CF54_le ..) fun y1 => (Le.br Le.r (Le.nd Le.r))))) (Le.nd Le.r))))) Le.r)
noncomputable def L52_1 : LoopS prog 51 none 0 := mkLoop mixed cx52 cx52_ok [] rfl p52_1 x52_1 rfl (b52_1) (fun x => g52_1 x.1 x.2.1 x.2.2.1 x.2.2.2.1 x.2.2.2.2.1 x.2.2.2.2.2.1 x.2.2.2.2.2.2.1) (by intro x; kernel_rfl)
@[reducible] def p52_0 : Pat := Pat.mk [(1, .c (.fn0 53)), (2, .c (.fn0 54)), (14, hzM), (15, hzI), (16, hzI)] [] [] []
@[reducible] def x52_0 : Outs := [(.ret, Pat.mk [(6, hzI)] [] [] []), (.exit 0, Pat.mk [] [] [] [])]
noncomputable def b52_0 : D prog 51 none 0 := (.seq (.reg [oo 17 (.bin .lss (.t 16) (.t 15))]) (.seq (.cond ( .t 17) .skip (.exit 0)) (.seq (.block 1 (.seq (.reg [oo 18 (.idx 1 (.t 14) (.t 16)), ol 19 18, om 8 19]) (.seq (.seq (.reg [om 20 8, oo 21 (.len (.t 20)), oo 22 (.bin .gtr (.t 21) (ki 10))]) (.cond ( .t 22) (.seq (.reg [oo 6 (.mv (ki 1))]) .ret) .skip)) (.seq (.reg [om 23 8, oo 24 (.len (.t 23)), oo 25 (.mv (ki 0))]) (.block 2 (.loop L52_1)))))) (.reg [oo 50 (.bin .add (.t 16) (ki 1)), om 16 50]))))
noncomputable def g52_0 (v14 : List (List Int)) (v15 : Int) (v16 : Int) : Option ((List (List Int) × Int × Int × Unit) ⊕ ((Int × Unit) ⊕ ((Unit)))) :=
 brO (decide (v16 < v15)) (
 need (inb v16 (((v14).length : Nat) : Int)) (
 brO (decide ((10 : Int) < (((((v14).getD (Int.toNat v16) [])).length : Nat) : Int))) (
 some (.inr <| .inl <| ((1 : Int), ()))) (
 bindO (iter (fun x => g52_1 x.1 x.2.1 x.2.2.1 x.2.2.2.1 x.2.2.2.2.1 x.2.2.2.2.2.1 x.2.2.2.2.2.2.1) (((v14).getD (Int.toNat v16) []), (v14, (v15, (v16, (((v14).getD (Int.toNat v16) []), ((((((v14).getD (Int.toNat v16) [])).length : Nat) : Int), ((0 : Int), ())))))))) fun z2 =>
 match z2 with
 | .inl z3 =>
 some (.inr <| .inl <| (z3.1, ()))
 | .inr z4 =>
 need (rng .i64 (z4.2.2.1 + (1 : Int))) (
 some (.inl (z4.1, (z4.2.1, ((z4.2.2.1 + (1 : Int)), ())))))))) (
 some (.inr <| .inr <| ()))
def Cg52_0 (v14 : List (List Int)) (v15 : Int) (v16 : Int) : Option ((List (List Int) × Int × Int × Unit) ⊕ ((Int × Unit) ⊕ ((Unit)))) :=
 brC (decide (v16 < v15)) (
 needC (inb v16 (((v14).length : Nat) : Int)) (
 brC (decide ((10 : Int) < (((((v14).getD (Int.toNat v16) [])).length : Nat) : Int))) (
 some (.inr <| .inl <| ((1 : Int), ()))) (
 bindC (iterF (fun x => Cg52_1 x.1 x.2.1 x.2.2.1 x.2.2.2.1 x.2.2.2.2.1 x.2.2.2.2.2.1 x.2.2.2.2.2.2.1) 1000000 (((v14).getD (Int.toNat v16) []), (v14, (v15, (v16, (((v14).getD (Int.toNat v16) []), ((((((v14).getD (Int.toNat v16) [])).length : Nat) : Int), ((0 : Int), ())))))))) fun z2 =>
 match z2 with
 | .inl z3 =>
 some (.inr <| .inl <| (z3.1, ()))
 | .inr z4 =>
 needC (rng .i64 (z4.2.2.1 + (1 : Int))) (
 some (.inl (z4.1, (z4.2.1, ((z4.2.2.1 + (1 : Int)), ())))))))) (
 some (.inr <| .inr <| ()))
theorem Cg52_0_le (v14 : List (List Int)) (v15 : Int) (v16 : Int) : Le (Cg52_0 v14 v15 v16) (g52_0 v14 v15 v16) := (Le.br (Le.nd (Le.br Le.r (Le.bd (Le.iter fun x => Cg52_1_le ..) fun z2 => (match z2 with | .inl z3 => Le.r | .inr z4 => (Le.nd Le.r))))) Le.r)
noncomputable def L52_0 : LoopS prog 51 none 0 := mkLoop mixed cx52 cx52_ok [] rfl p52_0 x52_0 rfl (b52_0) (fun x => g52_0 x.1 x.2.1 x.2.2.1) (by intro x; kernel_rfl)
noncomputable def dd52 : D prog 51 none 0 := (.seq (.reg [oo 6 (.mv (ki 0))]) (.seq (.seq (.reg [om 11 0, oo 12 (.len (.t 11)), oo 13 (.bin .gtr (.t 12) (ki 12))]) (.cond ( .t 13) (.seq (.reg [oo 6 (.mv (ki 1))]) .ret) .skip)) (.seq (.seq (.reg [om 14 0, oo 15 (.len (.t 14)), oo 16 (.mv (ki 0))]) (.block 0 (.loop L52_0))) (.seq (.reg [oo 6 (.mv (ki 0))]) .ret))))
noncomputable def F52 (a0 : List (List Int)) : Option (Int × Unit) :=
 brO (decide ((12 : Int) < (((a0).length : Nat) : Int))) (
 some ((1 : Int), ())) (
 bindO (iter (fun x => g52_0 x.1 x.2.1 x.2.2.1) (a0, ((((a0).length : Nat) : Int), ((0 : Int), ())))) fun z5 =>
 match z5 with
 | .inl z6 =>
 some (z6.1, ())
 | .inr z7 =>
 some ((0 : Int), ()))
def CF52 (a0 : List (List Int)) : Option (Int × Unit) :=
 brC (decide ((12 : Int) < (((a0).length : Nat) : Int))) (
 some ((1 : Int), ())) (
 bindC (iterF (fun x => Cg52_0 x.1 x.2.1 x.2.2.1) 1000000 (a0, ((((a0).length : Nat) : Int), ((0 : Int), ())))) fun z5 =>
 match z5 with
 | .inl z6 =>
 some (z6.1, ())
 | .inr z7 =>
 some ((0 : Int), ()))
theorem CF52_le (a0 : List (List Int)) : Le (CF52 a0) (F52 a0) := (Le.br Le.r (Le.bd (Le.iter fun x => Cg52_0_le ..) fun z5 => (match z5 with | .inl z6 => Le.r | .inr z7 => Le.r)))
theorem c52_ok : trF prog f52 = some ⟨51, 3, dd52.er, [.t 6], [some (.int .i64)]⟩ := by kernel_rfl
noncomputable def ct52 : Ct := ⟨52, [.c (.hole (.list (.list (.int .i64)))), .c (.fn0 53), .c (.fn0 54)], .c (.hole (.int .i64)), fun x => F52 x.1⟩
theorem ct52_ok : ct52.Ok prog := ct_ok mixed cx52_ok func52 c52_ok (enters_of func52 rfl rfl) dd52 rfl rfl (fun x => by kernel_rfl)

/- 20 -/
noncomputable def cx20 : Cx := mkCxH [ct52] []
theorem cx20_ok : cx20.Ok prog := mkCxH_ok ⟨ct52_ok, trivial⟩ trivial
noncomputable def dd20 : D prog 5 none 0 := (.seq (.reg [oo 2 (.mv (ki 0))]) (.seq (.reg [om 3 0, .call (some 4) none (.c (.fn 52 [] [])) [.t 3, .c (.fn 53 [] []), .c (.fn 54 [] [])] [some (.list (.list (.int .i64))), none, none], om 2 4]) .ret))
noncomputable def F20 (a0 : List (List Int)) : Option (Int × Unit) :=
 bindO (F52 a0) fun y0 =>
 some (y0.1, ())
def CF20 (a0 : List (List Int)) : Option (Int × Unit) :=
 bindC (CF52 a0) fun y0 =>
 some (y0.1, ())
theorem CF20_le (a0 : List (List Int)) : Le (CF20 a0) (F20 a0) := (Le.bd (CF52_le ..) fun y0 => Le.r)
theorem c20_ok : trF prog f20 = some ⟨5, 1, dd20.er, [.t 2], [some (.int .i64)]⟩ := by kernel_rfl
noncomputable def ct20 : Ct := ⟨20, [.c (.hole (.list (.list (.int .i64))))], .c (.hole (.int .i64)), fun x => F20 x.1⟩
theorem ct20_ok : ct20.Ok prog := ct_ok mixed cx20_ok func20 c20_ok (enters_of func20 rfl rfl) dd20 rfl rfl (fun x => by kernel_rfl)

/- 55 -/
noncomputable def cx55 : Cx := mkCxH [ct20, ct48] []
theorem cx55_ok : cx55.Ok prog := mkCxH_ok ⟨ct20_ok, ct48_ok, trivial⟩ trivial
noncomputable def dd55 : D prog 16 none 0 := (.seq (.reg [oo 4 (.mv (ki 0))]) (.seq (.reg [om 6 0, .call (some 7) none (.c (.fn 20 [] [])) [.t 6] [some (.list (.list (.int .i64)))], om 5 7]) (.seq (.seq (.reg [om 8 5, oo 9 (.bin .eql (.t 8) (ki 0)), om 10 9, og 11 10 true (.mv (.t 1)), .call (some 12) (some (10, true)) (.c (.fn 48 [] [])) [ki 0, .t 11, ki 200] [some (.int .i64), some (.int .i64), some (.int .i64)], og 13 10 true (.not (.t 12)), oo 14 (.pick (.t 10) (.t 13) (.c (.tf false)))]) (.cond ( .t 14) (.seq (.reg [oo 4 (.mv (ki 2))]) .ret) .skip)) (.seq (.reg [om 15 5, om 4 15]) .ret))))
noncomputable def F55 (a0 : List (List Int)) (a1 : Int) : Option (Int × Unit) :=
 bindO (F20 a0) fun y0 =>
 brO (y0.1 == (0 : Int)) (
 bindO (F48 (0 : Int) a1 (200 : Int)) fun y1 =>
 brO (!y1.1) (
 some ((2 : Int), ())) (
 some (y0.1, ()))) (
 some (y0.1, ()))
def CF55 (a0 : List (List Int)) (a1 : Int) : Option (Int × Unit) :=
 bindC (CF20 a0) fun y0 =>
 brC (y0.1 == (0 : Int)) (
 bindC (CF48 (0 : Int) a1 (200 : Int)) fun y1 =>
 brC (!y1.1) (
 some ((2 : Int), ())) (
 some (y0.1, ()))) (
 some (y0.1, ()))
theorem CF55_le (a0 : List (List Int)) (a1 : Int) : Le (CF55 a0 a1) (F55 a0 a1) := (Le.bd (CF20_le ..) fun y0 => (Le.br (Le.bd (CF48_le ..) fun y1 => (Le.br Le.r Le.r)) Le.r))
theorem c55_ok : trF prog f55 = some ⟨16, 2, dd55.er, [.t 4], [some (.int .i64)]⟩ := by kernel_rfl
noncomputable def ct55 : Ct := ⟨55, [.c (.hole (.list (.list (.int .i64)))), .c (.hole (.int .i64))], .c (.hole (.int .i64)), fun x => F55 x.1 x.2.1⟩
theorem ct55_ok : ct55.Ok prog := ct_ok mixed cx55_ok func55 c55_ok (enters_of func55 rfl rfl) dd55 rfl rfl (fun x => by kernel_rfl)

/- 59 -/
noncomputable def cx59 : Cx := mkCxH [] []
theorem cx59_ok : cx59.Ok prog := mkCxH_ok trivial trivial
noncomputable def dd59 : D prog 3 none 0 := (.seq (.reg [oo 2 (.mv (ki 0))]) (.seq (.reg [oo 2 (.mv (ki 0))]) .ret))
noncomputable def F59 (a0 : Int) : Option (Int × Unit) :=
 some ((0 : Int), ())
def CF59 (a0 : Int) : Option (Int × Unit) :=
 some ((0 : Int), ())
theorem CF59_le (a0 : Int) : Le (CF59 a0) (F59 a0) := Le.r
theorem c59_ok : trF prog f59 = some ⟨3, 1, dd59.er, [.t 2], [some (.int .i64)]⟩ := by kernel_rfl
noncomputable def ct59 : Ct := ⟨59, [.c (.hole (.int .i64))], .c (.hole (.int .i64)), fun x => F59 x.1⟩
theorem ct59_ok : ct59.Ok prog := ct_ok mixed cx59_ok func59 c59_ok (enters_of func59 rfl rfl) dd59 rfl rfl (fun x => by kernel_rfl)

/- 76 -/
noncomputable def cx76 : Cx := mkCxH [] []
theorem cx76_ok : cx76.Ok prog := mkCxH_ok trivial trivial
@[reducible] def p76_0 : Pat := Pat.mk [(3, hzI), (6, hzL), (7, hzI), (8, hzI)] [] [] []
@[reducible] def x76_0 : Outs := [(.ret, Pat.mk [(2, hzI)] [] [] []), (.exit 0, Pat.mk [(3, hzI)] [] [] [])]
noncomputable def b76_0 : D prog 18 none 0 := (.seq (.reg [oo 9 (.bin .lss (.t 8) (.t 7))]) (.seq (.cond ( .t 9) .skip (.exit 0)) (.seq (.block 1 (.seq (.reg [oo 10 (.idx 1 (.t 6) (.t 8)), ol 11 10, om 5 11]) (.seq (.reg [om 12 5, om 13 3, oo 14 (.bin .neq (.t 12) (.t 13))]) (.cond ( .t 14) (.seq (.reg [om 15 5, om 2 15]) .ret) .skip)))) (.reg [oo 16 (.bin .add (.t 8) (ki 1)), om 8 16]))))
noncomputable def g76_0 (v3 : Int) (v6 : List Int) (v7 : Int) (v8 : Int) : Option ((Int × List Int × Int × Int × Unit) ⊕ ((Int × Unit) ⊕ ((Int × Unit)))) :=
 brO (decide (v8 < v7)) (
 need (inb v8 (((v6).length : Nat) : Int)) (
 brO (!(((v6).getD (Int.toNat v8) (0 : Int)) == v3)) (
 some (.inr <| .inl <| (((v6).getD (Int.toNat v8) (0 : Int)), ()))) (
 need (rng .i64 (v8 + (1 : Int))) (
 some (.inl (v3, (v6, (v7, ((v8 + (1 : Int)), ()))))))))) (
 some (.inr <| .inr <| (v3, ())))
def Cg76_0 (v3 : Int) (v6 : List Int) (v7 : Int) (v8 : Int) : Option ((Int × List Int × Int × Int × Unit) ⊕ ((Int × Unit) ⊕ ((Int × Unit)))) :=
 brC (decide (v8 < v7)) (
 needC (inb v8 (((v6).length : Nat) : Int)) (
 brC (!(((v6).getD (Int.toNat v8) (0 : Int)) == v3)) (
 some (.inr <| .inl <| (((v6).getD (Int.toNat v8) (0 : Int)), ()))) (
 needC (rng .i64 (v8 + (1 : Int))) (
 some (.inl (v3, (v6, (v7, ((v8 + (1 : Int)), ()))))))))) (
 some (.inr <| .inr <| (v3, ())))
theorem Cg76_0_le (v3 : Int) (v6 : List Int) (v7 : Int) (v8 : Int) : Le (Cg76_0 v3 v6 v7 v8) (g76_0 v3 v6 v7 v8) := (Le.br (Le.nd (Le.br Le.r (Le.nd Le.r))) Le.r)
noncomputable def L76_0 : LoopS prog 18 none 0 := mkLoop mixed cx76 cx76_ok [] rfl p76_0 x76_0 rfl (b76_0) (fun x => g76_0 x.1 x.2.1 x.2.2.1 x.2.2.2.1) (by intro x; kernel_rfl)
noncomputable def dd76 : D prog 18 none 0 := (.seq (.reg [oo 2 (.mv (ki 0))]) (.seq (.reg [oo 3 (.mv (ki 0))]) (.seq (.seq (.reg [om 6 0, oo 7 (.len (.t 6)), oo 8 (.mv (ki 0))]) (.block 0 (.loop L76_0))) (.seq (.reg [om 17 3, om 2 17]) .ret))))
noncomputable def F76 (a0 : List Int) : Option (Int × Unit) :=
 bindO (iter (fun x => g76_0 x.1 x.2.1 x.2.2.1 x.2.2.2.1) ((0 : Int), (a0, ((((a0).length : Nat) : Int), ((0 : Int), ()))))) fun z0 =>
 match z0 with
 | .inl z1 =>
 some (z1.1, ())
 | .inr z2 =>
 some (z2.1, ())
def CF76 (a0 : List Int) : Option (Int × Unit) :=
 bindC (iterF (fun x => Cg76_0 x.1 x.2.1 x.2.2.1 x.2.2.2.1) 1000000 ((0 : Int), (a0, ((((a0).length : Nat) : Int), ((0 : Int), ()))))) fun z0 =>
 match z0 with
 | .inl z1 =>
 some (z1.1, ())
 | .inr z2 =>
 some (z2.1, ())
theorem CF76_le (a0 : List Int) : Le (CF76 a0) (F76 a0) := (Le.bd (Le.iter fun x => Cg76_0_le ..) fun z0 => (match z0 with | .inl z1 => Le.r | .inr z2 => Le.r))
theorem c76_ok : trF prog f76 = some ⟨18, 1, dd76.er, [.t 2], [some (.int .i64)]⟩ := by kernel_rfl
noncomputable def ct76 : Ct := ⟨76, [.c (.hole (.list (.int .i64)))], .c (.hole (.int .i64)), fun x => F76 x.1⟩
theorem ct76_ok : ct76.Ok prog := ct_ok mixed cx76_ok func76 c76_ok (enters_of func76 rfl rfl) dd76 rfl rfl (fun x => by kernel_rfl)

/- 75 -/
noncomputable def cx75 : Cx := mkCxH [ct59, ct76] []
theorem cx75_ok : cx75.Ok prog := mkCxH_ok ⟨ct59_ok, ct76_ok, trivial⟩ trivial
noncomputable def dd75 : D prog 30 none 0 := (.seq (.reg [oo 3 (.box (.t 0)), oo 4 (.box (.t 1)), oo 5 (.mv (ki 0))]) (.seq (.seq (.reg [oo 6 (.load true 2 (.t 3)), oo 7 (.load true 2 (.t 4)), oo 8 (.eqs false [.i, .i] (.t 6) (.t 7))]) (.cond ( .t 8) (.seq (.reg [oo 5 (.mv (ki 0))]) .ret) .skip)) (.seq (.draw [[], [0], [], [2], [0, 1, 2, 3], [], [], [6], [5, 6, 7], [], [], [10], [5, 6, 7, 8, 9, 10, 11], [5, 6, 7, 8, 9, 10, 11, 12], [], [14], [], [16], [14, 15, 16, 17], [0, 1, 2, 3, 4, 5, 6, 7, 8, 9, 10, 11, 12, 13, 14, 15, 16, 17, 18], [0, 1, 2, 3, 4, 5, 6, 7, 8, 9, 10, 11, 12, 13, 14, 15, 16, 17, 18, 19], [0, 1, 2, 3, 4, 5, 6, 7, 8, 9, 10, 11, 12, 13, 14, 15, 16, 17, 18, 19, 20]] [oo 9 (.fld 0 [false] (.t 4)), ol 10 9, oo 11 (.fld 0 [false] (.t 3)), ol 12 11, oo 13 (.bin .sub (.t 10) (.t 12)), ol 14 2, oo 15 (.fld 1 [true] (.t 4)), ol 16 15, .call (some 17) none (.t 14) [.t 16] [some (.int .i64)], ol 18 2, oo 19 (.fld 1 [true] (.t 3)), ol 20 19, .call (some 21) none (.t 18) [.t 20] [some (.int .i64)], oo 22 (.bin .sub (.t 17) (.t 21)), oo 23 (.fld 1 [true] (.t 3)), ol 24 23, oo 25 (.fld 1 [true] (.t 4)), ol 26 25, oo 27 (.bin .sub (.t 24) (.t 26)), oo 28 (.bslice (.int .i64) [.t 13, .t 22, .t 27]), .call (some 29) none (.c (.fn 76 [] [])) [.t 28] [some (.list (.int .i64))], om 5 29]) .ret)))
noncomputable def F75 (a0 : Int × Int) (a1 : Int × Int) : Option (Int × Unit) :=
 brO ((a0.1 == a1.1) && ((a0.2 == a1.2) && true)) (
 some ((0 : Int), ())) (
 need (rng .i64 (a1.1 - a0.1)) (
 bindO (F59 a1.2) fun y0 =>
 bindO (F59 a0.2) fun y1 =>
 need (rng .i64 (y0.1 - y1.1)) (
 need (rng .i64 (a0.2 - a1.2)) (
 bindO (F76 (((((a1.1 - a0.1) :: ((y0.1 - y1.1) :: ((a0.2 - a1.2) :: [])))).drop (0 : Nat)).take (3 : Nat))) fun y2 =>
 some (y2.1, ())))))
def CF75 (a0 : Int × Int) (a1 : Int × Int) : Option (Int × Unit) :=
 brC ((a0.1 == a1.1) && ((a0.2 == a1.2) && true)) (
 some ((0 : Int), ())) (
 needC (rng .i64 (a1.1 - a0.1)) (
 bindC (CF59 a1.2) fun y0 =>
 bindC (CF59 a0.2) fun y1 =>
 needC (rng .i64 (y0.1 - y1.1)) (
 needC (rng .i64 (a0.2 - a1.2)) (
 bindC (CF76 (((((a1.1 - a0.1) :: ((y0.1 - y1.1) :: ((a0.2 - a1.2) :: [])))).drop (0 : Nat)).take (3 : Nat))) fun y2 =>
 some (y2.1, ())))))
theorem CF75_le (a0 : Int × Int) (a1 : Int × Int) : Le (CF75 a0 a1) (F75 a0 a1) := (Le.br Le.r (Le.nd (Le.bd (CF59_le ..) fun y0 => (Le.bd (CF59_le ..) fun y1 => (Le.nd (Le.nd (Le.bd (CF76_le ..) fun y2 => Le.r)))))))
theorem c75_ok : trF prog f75 = some ⟨30, 3, dd75.er, [.t 5], [some (.int .i64)]⟩ := by kernel_rfl
noncomputable def ct75 : Ct := ⟨75, [.c (.hole (.prod (.int .i64) (.int .i64))), .c (.hole (.prod (.int .i64) (.int .i64))), .c (.ipcs (.cons (.fn0 59) .nil))], .c (.hole (.int .i64)), fun x => F75 x.1 x.2.1⟩
theorem ct75_ok : ct75.Ok prog := ct_ok mixed cx75_ok func75 c75_ok (enters_of func75 rfl rfl) dd75 rfl rfl (fun x => by kernel_rfl)

/- 81, lent -/
@[reducible] def pH81 : Pat := Pat.mk [(0, .c (.hole (.list (.prod (.int .i64) (.int .i64))))), (1, hzI), (2, hzI), (3, .fn 75 [] [.ptr 0 0])] [(0, .cells [.fn0 59] false)] [.part 3 0] []
@[reducible] def qH81 : Pat := Pat.mk [(0, .c .any)] [(0, .cells [.fn0 59] false)] [] []
noncomputable def cxH81 : Cx := mkCxH [ct75] []
theorem cxH81_ok : cxH81.Ok prog := mkCxH_ok ⟨ct75_ok, trivial⟩ trivial
@[reducible] def pH81_1 : Pat := Pat.mk [(0, .c (.hole (.list (.prod (.int .i64) (.int .i64))))), (1, hzI), (2, hzI), (3, .fn 75 [] [.ptr 0 0]), (8, hzI), (9, hzI)] [(0, .cells [.fn0 59] false)] [] []
@[reducible] def xH81_1 : Outs := [(.exit 2, Pat.mk [(0, .c (.hole (.list (.prod (.int .i64) (.int .i64))))), (1, hzI), (2, hzI), (3, .fn 75 [] [.ptr 0 0]), (8, hzI)] [(0, .cells [.fn0 59] false)] [] [])]
noncomputable def bH81_1 : D prog 53 none 1 := (.seq (.seq (.draw [[], [], [0, 1], [0, 1, 2], [0, 1, 2, 3], [0, 1, 2, 3], [0, 1, 2, 3], [0, 1, 2, 3, 5, 6], [0, 1, 2, 3, 5, 6, 7], [0, 1, 2, 3], [0, 1, 2, 3], [0, 1, 2, 3, 10], [0, 1, 2, 3, 9, 10, 11], [0, 1, 2, 3, 9, 10, 11, 12], [0, 1, 2, 3, 4, 5, 6, 7, 8, 9, 10, 11, 12, 13], [0, 1, 2, 3, 4, 5, 6, 7, 8, 9, 10, 11, 12, 13, 14], [0, 1, 2, 3, 4, 5, 6, 7, 8, 9, 10, 11, 12, 13, 14, 15]] [om 18 9, om 19 1, oo 20 (.bin .gtr (.t 18) (.t 19)), om 21 20, og 22 21 true (.mv (.t 3)), og 23 21 true (.mv (.t 0)), og 24 21 true (.mv (.t 9)), og 25 21 true (.idx 2 (.t 23) (.t 24)), og 26 21 true (.load true 2 (.t 25)), og 27 21 true (.mv (.t 0)), og 28 21 true (.mv (.t 9)), og 29 21 true (.bin .sub (.t 28) (ki 1)), og 30 21 true (.idx 2 (.t 27) (.t 29)), og 31 21 true (.load true 2 (.t 30)), .call (some 32) (some (21, true)) (.t 22) [.t 26, .t 31] [some (.prod (.int .i64) (.int .i64)), some (.prod (.int .i64) (.int .i64))], og 33 21 true (.bin .lss (.t 32) (ki 0)), oo 34 (.pick (.t 21) (.t 33) (.c (.tf false)))]) (.cond ( .t 34) .skip (.exit 2))) (.seq (.block 3 (.draw [[], [], [], [], [3], [], [], [6], [5, 6, 7], [5, 6, 7, 8], [], [], [10, 11], [10, 11, 12], [0, 1, 5, 6, 7, 8, 9, 10, 11, 12, 13], [0, 1, 5, 6, 7, 8, 9, 10, 11, 12, 13, 14], [0, 1, 2, 3, 4, 5, 6, 7, 8, 9, 10, 11, 12, 13, 14, 15], [0, 1, 2, 3, 4, 5, 6, 7, 8, 9, 10, 11, 12, 13, 14, 15, 16]] [om 37 0, om 38 9, om 39 0, om 40 9, oo 41 (.bin .sub (.t 40) (ki 1)), om 42 0, om 43 9, oo 44 (.bin .sub (.t 43) (ki 1)), oo 45 (.idx 2 (.t 42) (.t 44)), oo 46 (.load true 2 (.t 45)), om 47 0, om 48 9, oo 49 (.idx 2 (.t 47) (.t 48)), oo 50 (.load true 2 (.t 49)), oo 51 (.idx 2 (.t 37) (.t 38)), .op none none (.store 2 (.t 51) (.t 46)), oo 52 (.idx 2 (.t 39) (.t 41)), .op none none (.store 2 (.t 52) (.t 50))])) (.reg [om 35 9, oo 36 (.bin .sub (.t 35) (ki 1)), om 9 36])))
noncomputable def gH81_1 (v0 : List (Int × Int)) (v1 : Int) (v2 : Int) (v8 : Int) (v9 : Int) : Option (((List (Int × Int)) × Int × Int × Int × Int × Unit) ⊕ (((List (Int × Int)) × Int × Int × Int × Unit))) :=
 brO (decide (v1 < v9)) (
 need (inb v9 (((v0).length : Nat) : Int)) (
 need (rng .i64 (v9 - (1 : Int))) (
 need (inb (v9 - (1 : Int)) (((v0).length : Nat) : Int)) (
 bindO (F75 (((v0).getD (Int.toNat v9) ((0 : Int), (0 : Int))).1, ((v0).getD (Int.toNat v9) ((0 : Int), (0 : Int))).2) (((v0).getD (Int.toNat (v9 - (1 : Int))) ((0 : Int), (0 : Int))).1, ((v0).getD (Int.toNat (v9 - (1 : Int))) ((0 : Int), (0 : Int))).2)) fun y0 =>
 brO (decide (y0.1 < (0 : Int))) (
 need (rng .i64 (v9 - (1 : Int))) (
 need (rng .i64 (v9 - (1 : Int))) (
 need (inb (v9 - (1 : Int)) (((v0).length : Nat) : Int)) (
 need (inb v9 (((v0).length : Nat) : Int)) (
 need (inb v9 (((v0).length : Nat) : Int)) (
 none)))))) (
 some (.inr (v0, (v1, (v2, (v8, ())))))))))) (
 some (.inr (v0, (v1, (v2, (v8, ()))))))
noncomputable def LH81_1 : LoopS prog 53 none 1 := mkLoop mixed cxH81 cxH81_ok [0] rfl pH81_1 xH81_1 rfl (bH81_1) (fun x => gH81_1 x.1 x.2.1 x.2.2.1 x.2.2.2.1 x.2.2.2.2.1) (by intro x; kernel_rfl)
@[reducible] def pH81_0 : Pat := Pat.mk [(0, .c (.hole (.list (.prod (.int .i64) (.int .i64))))), (1, hzI), (2, hzI), (3, .fn 75 [] [.ptr 0 0]), (8, hzI)] [(0, .cells [.fn0 59] false)] [] []
@[reducible] def xH81_0 : Outs := [(.exit 0, Pat.mk [] [(0, .cells [.fn0 59] false)] [] [])]
noncomputable def bH81_0 : D prog 53 none 1 := (.seq (.seq (.reg [om 12 8, om 13 2, oo 14 (.bin .lss (.t 12) (.t 13))]) (.cond ( .t 14) .skip (.exit 0))) (.seq (.block 1 (.seq (.reg [om 17 8, om 9 17]) (.block 2 (.loop LH81_1)))) (.reg [om 15 8, oo 16 (.bin .add (.t 15) (ki 1)), om 8 16])))
noncomputable def gH81_0 (v0 : List (Int × Int)) (v1 : Int) (v2 : Int) (v8 : Int) : Option (((List (Int × Int)) × Int × Int × Int × Unit) ⊕ ((Unit))) :=
 brO (decide (v8 < v2)) (
 bindO (iter (fun x => gH81_1 x.1 x.2.1 x.2.2.1 x.2.2.2.1 x.2.2.2.2.1) (v0, (v1, (v2, (v8, (v8, ())))))) fun z1 =>
 need (rng .i64 (z1.2.2.2.1 + (1 : Int))) (
 some (.inl (z1.1, (z1.2.1, (z1.2.2.1, ((z1.2.2.2.1 + (1 : Int)), ()))))))) (
 some (.inr ()))
noncomputable def LH81_0 : LoopS prog 53 none 1 := mkLoop mixed cxH81 cxH81_ok [0] rfl pH81_0 xH81_0 rfl (bH81_0) (fun x => gH81_0 x.1 x.2.1 x.2.2.1 x.2.2.2.1) (by intro x; kernel_rfl)
noncomputable def ddH81 : D prog 53 none 1 := (.seq (.reg [om 10 1, oo 11 (.bin .add (.t 10) (ki 1)), om 8 11]) (.block 0 (.loop LH81_0)))
noncomputable def FH81 (v0 : List (Int × Int)) (v1 : Int) (v2 : Int) : Option (Unit) :=
 need (rng .i64 (v1 + (1 : Int))) (
 bindO (iter (fun x => gH81_0 x.1 x.2.1 x.2.2.1 x.2.2.2.1) (v0, (v1, (v2, ((v1 + (1 : Int)), ()))))) fun z2 =>
 some ())
theorem cH81_ok : trF prog f81 = some ⟨53, 4, ddH81.er, [], []⟩ := by kernel_rfl
noncomputable def ht81 : Ht := ⟨81, pH81, qH81, (fun x => FH81 x.1 x.2.1 x.2.2.1)⟩
theorem ht81_ok : ht81.Ok prog := ht_ok mixed cxH81_ok rfl func81 cH81_ok (enters_of func81 rfl rfl) ddH81 rfl rfl rfl ⟨_, rfl⟩ rfl (pre := [0]) rfl (fun x => by kernel_rfl)

/- 84, lent -/
@[reducible] def pH84 : Pat := Pat.mk [(0, .c (.hole (.list (.prod (.int .i64) (.int .i64))))), (1, hzI), (2, hzI), (3, hzI), (4, .fn 75 [] [.ptr 0 0])] [(0, .cells [.fn0 59] false)] [.part 4 0] []
@[reducible] def qH84 : Pat := Pat.mk [(0, .c .any)] [(0, .cells [.fn0 59] false)] [] []
noncomputable def cxH84 : Cx := mkCxH [] []
theorem cxH84_ok : cxH84.Ok prog := mkCxH_ok trivial trivial
@[reducible] def pH84_0 : Pat := Pat.mk [(0, .c (.hole (.list (.prod (.int .i64) (.int .i64))))), (1, hzI), (2, hzI), (3, hzI), (10, hzI)] [(0, .cells [.fn0 59] false)] [] []
@[reducible] def xH84_0 : Outs := [(.exit 0, Pat.mk [] [(0, .cells [.fn0 59] false)] [] [])]
noncomputable def bH84_0 : D prog 38 none 1 := (.seq (.seq (.reg [om 11 10, om 12 3, oo 13 (.bin .lss (.t 11) (.t 12))]) (.cond ( .t 13) .skip (.exit 0))) (.seq (.block 1 (.draw [[], [], [], [1, 2], [], [], [], [5, 6], [], [], [], [9, 10], [8, 9, 10, 11], [8, 9, 10, 11, 12], [], [], [], [15, 16], [14, 15, 16, 17], [14, 15, 16, 17, 18], [0, 1, 2, 3, 8, 9, 10, 11, 12, 13, 14, 15, 16, 17, 18, 19], [0, 1, 2, 3, 8, 9, 10, 11, 12, 13, 14, 15, 16, 17, 18, 19, 20], [0, 1, 2, 3, 4, 5, 6, 7, 8, 9, 10, 11, 12, 13, 14, 15, 16, 17, 18, 19, 20, 21], [0, 1, 2, 3, 4, 5, 6, 7, 8, 9, 10, 11, 12, 13, 14, 15, 16, 17, 18, 19, 20, 21, 22]] [om 16 0, om 17 1, om 18 10, oo 19 (.bin .add (.t 17) (.t 18)), om 20 0, om 21 2, om 22 10, oo 23 (.bin .add (.t 21) (.t 22)), om 24 0, om 25 2, om 26 10, oo 27 (.bin .add (.t 25) (.t 26)), oo 28 (.idx 2 (.t 24) (.t 27)), oo 29 (.load true 2 (.t 28)), om 30 0, om 31 1, om 32 10, oo 33 (.bin .add (.t 31) (.t 32)), oo 34 (.idx 2 (.t 30) (.t 33)), oo 35 (.load true 2 (.t 34)), oo 36 (.idx 2 (.t 16) (.t 19)), .op none none (.store 2 (.t 36) (.t 29)), oo 37 (.idx 2 (.t 20) (.t 23)), .op none none (.store 2 (.t 37) (.t 35))])) (.reg [om 14 10, oo 15 (.bin .add (.t 14) (ki 1)), om 10 15])))
noncomputable def gH84_0 (v0 : List (Int × Int)) (v1 : Int) (v2 : Int) (v3 : Int) (v10 : Int) : Option (((List (Int × Int)) × Int × Int × Int × Int × Unit) ⊕ ((Unit))) :=
 brO (decide (v10 < v3)) (
 need (rng .i64 (v1 + v10)) (
 need (rng .i64 (v2 + v10)) (
 need (rng .i64 (v2 + v10)) (
 need (inb (v2 + v10) (((v0).length : Nat) : Int)) (
 need (rng .i64 (v1 + v10)) (
 need (inb (v1 + v10) (((v0).length : Nat) : Int)) (
 need (inb (v1 + v10) (((v0).length : Nat) : Int)) (
 none)))))))) (
 some (.inr ()))
noncomputable def LH84_0 : LoopS prog 38 none 1 := mkLoop mixed cxH84 cxH84_ok [0] rfl pH84_0 xH84_0 rfl (bH84_0) (fun x => gH84_0 x.1 x.2.1 x.2.2.1 x.2.2.2.1 x.2.2.2.2.1) (by intro x; kernel_rfl)
noncomputable def ddH84 : D prog 38 none 1 := (.seq (.reg [oo 10 (.mv (ki 0))]) (.block 0 (.loop LH84_0)))
noncomputable def FH84 (v0 : List (Int × Int)) (v1 : Int) (v2 : Int) (v3 : Int) : Option (Unit) :=
 bindO (iter (fun x => gH84_0 x.1 x.2.1 x.2.2.1 x.2.2.2.1 x.2.2.2.2.1) (v0, (v1, (v2, (v3, ((0 : Int), ())))))) fun z0 =>
 some ()
theorem cH84_ok : trF prog f84 = some ⟨38, 5, ddH84.er, [], []⟩ := by kernel_rfl
noncomputable def ht84 : Ht := ⟨84, pH84, qH84, (fun x => FH84 x.1 x.2.1 x.2.2.1 x.2.2.2.1)⟩
theorem ht84_ok : ht84.Ok prog := ht_ok mixed cxH84_ok rfl func84 cH84_ok (enters_of func84 rfl rfl) ddH84 rfl rfl rfl ⟨_, rfl⟩ rfl (pre := [0]) rfl (fun x => by kernel_rfl)

/- 83, lent -/
@[reducible] def pH83 : Pat := Pat.mk [(0, .c (.hole (.list (.prod (.int .i64) (.int .i64))))), (1, hzI), (2, hzI), (3, hzI), (4, .fn 75 [] [.ptr 0 0])] [(0, .cells [.fn0 59] false)] [.part 4 0] []
@[reducible] def qH83 : Pat := Pat.mk [(0, .c .any)] [(0, .cells [.fn0 59] false)] [] []
noncomputable def cxH83 : Cx := mkCxH [] [ht84]
theorem cxH83_ok : cxH83.Ok prog := mkCxH_ok trivial ⟨⟨ht84_ok, rfl⟩, trivial⟩
@[reducible] def pH83_0 : Pat := Pat.mk [(0, .c (.hole (.list (.prod (.int .i64) (.int .i64))))), (2, hzI), (4, .fn 75 [] [.ptr 0 0]), (10, hzI), (11, hzI)] [(0, .cells [.fn0 59] false)] [] []
@[reducible] def xH83_0 : Outs := [(.exit 0, Pat.mk [(0, .c (.hole (.list (.prod (.int .i64) (.int .i64))))), (2, hzI), (4, .fn 75 [] [.ptr 0 0]), (10, hzI)] [(0, .cells [.fn0 59] false)] [] [])]
noncomputable def bH83_0 : D prog 58 none 1 := (.seq (.seq (.reg [om 18 10, om 19 11, oo 20 (.bin .neq (.t 18) (.t 19))]) (.cond ( .t 20) .skip (.exit 0))) (.block 1 (.seq (.reg [om 21 10, om 22 11, oo 23 (.bin .gtr (.t 21) (.t 22))]) (.cond ( .t 23) (.seq (.reg [om 24 0, om 25 2, om 26 10, oo 27 (.bin .sub (.t 25) (.t 26)), om 28 2, om 29 11, om 30 4, .call (some 31) none (.c (.fn 84 [] [])) [.t 24, .t 27, .t 28, .t 29, .t 30] [some (.list (.prod (.int .i64) (.int .i64))), some (.int .i64), some (.int .i64), some (.int .i64), none]]) (.reg [om 32 10, om 33 11, oo 34 (.bin .sub (.t 32) (.t 33)), om 10 34])) (.seq (.reg [om 35 0, om 36 2, om 37 10, oo 38 (.bin .sub (.t 36) (.t 37)), om 39 2, om 40 11, oo 41 (.bin .add (.t 39) (.t 40)), om 42 10, oo 43 (.bin .sub (.t 41) (.t 42)), om 44 10, om 45 4, .call (some 46) none (.c (.fn 84 [] [])) [.t 35, .t 38, .t 43, .t 44, .t 45] [some (.list (.prod (.int .i64) (.int .i64))), some (.int .i64), some (.int .i64), some (.int .i64), none]]) (.reg [om 47 11, om 48 10, oo 49 (.bin .sub (.t 47) (.t 48)), om 11 49]))))))
noncomputable def gH83_0 (v0 : List (Int × Int)) (v2 : Int) (v10 : Int) (v11 : Int) : Option (((List (Int × Int)) × Int × Int × Int × Unit) ⊕ (((List (Int × Int)) × Int × Int × Unit))) :=
 brO (!(v10 == v11)) (
 brO (decide (v11 < v10)) (
 need (rng .i64 (v2 - v10)) (
 bindO (FH84 v0 (v2 - v10) v2 v11) fun y0 =>
 need (rng .i64 (v10 - v11)) (
 some (.inl (v0, (v2, ((v10 - v11), (v11, ())))))))) (
 need (rng .i64 (v2 - v10)) (
 need (rng .i64 (v2 + v11)) (
 need (rng .i64 ((v2 + v11) - v10)) (
 bindO (FH84 v0 (v2 - v10) ((v2 + v11) - v10) v10) fun y1 =>
 need (rng .i64 (v11 - v10)) (
 some (.inl (v0, (v2, (v10, ((v11 - v10), ()))))))))))) (
 some (.inr (v0, (v2, (v10, ())))))
noncomputable def LH83_0 : LoopS prog 58 none 1 := mkLoop mixed cxH83 cxH83_ok [0] rfl pH83_0 xH83_0 rfl (bH83_0) (fun x => gH83_0 x.1 x.2.1 x.2.2.1 x.2.2.2.1) (by intro x; kernel_rfl)
noncomputable def ddH83 : D prog 58 none 1 := (.seq (.reg [om 12 2, om 13 1, oo 14 (.bin .sub (.t 12) (.t 13)), om 10 14]) (.seq (.reg [om 15 3, om 16 2, oo 17 (.bin .sub (.t 15) (.t 16)), om 11 17]) (.seq (.block 0 (.loop LH83_0)) (.reg [om 50 0, om 51 2, om 52 10, oo 53 (.bin .sub (.t 51) (.t 52)), om 54 2, om 55 10, om 56 4, .call (some 57) none (.c (.fn 84 [] [])) [.t 50, .t 53, .t 54, .t 55, .t 56] [some (.list (.prod (.int .i64) (.int .i64))), some (.int .i64), some (.int .i64), some (.int .i64), none]]))))
noncomputable def FH83 (v0 : List (Int × Int)) (v1 : Int) (v2 : Int) (v3 : Int) : Option (Unit) :=
 need (rng .i64 (v2 - v1)) (
 need (rng .i64 (v3 - v2)) (
 bindO (iter (fun x => gH83_0 x.1 x.2.1 x.2.2.1 x.2.2.2.1) (v0, (v2, ((v2 - v1), ((v3 - v2), ()))))) fun z2 =>
 need (rng .i64 (z2.2.1 - z2.2.2.1)) (
 bindO (FH84 z2.1 (z2.2.1 - z2.2.2.1) z2.2.1 z2.2.2.1) fun y3 =>
 some ())))
theorem cH83_ok : trF prog f83 = some ⟨58, 5, ddH83.er, [], []⟩ := by kernel_rfl
noncomputable def ht83 : Ht := ⟨83, pH83, qH83, (fun x => FH83 x.1 x.2.1 x.2.2.1 x.2.2.2.1)⟩
theorem ht83_ok : ht83.Ok prog := ht_ok mixed cxH83_ok rfl func83 cH83_ok (enters_of func83 rfl rfl) ddH83 rfl rfl rfl ⟨_, rfl⟩ rfl (pre := [0]) rfl (fun x => by kernel_rfl)

/- 82, lent -/
@[reducible] def pH82 : Pat := Pat.mk [(0, .c (.hole (.list (.prod (.int .i64) (.int .i64))))), (1, hzI), (2, hzI), (3, hzI), (4, .fn 75 [] [.ptr 0 0])] [(0, .cells [.fn0 59] false)] [.part 4 0] []
@[reducible] def qH82 : Pat := Pat.mk [(0, .c .any)] [(0, .cells [.fn0 59] false)] [] []
noncomputable def cxH82 (rec : pH82.T → Option qH82.T) : Cx := mkCxH [ct75] [ht83, ⟨82, pH82, qH82, rec⟩]
theorem cxH82_ok (rec : pH82.T → Option qH82.T) (h : Ht.Ok prog ⟨82, pH82, qH82, rec⟩) : (cxH82 rec).Ok prog := mkCxH_ok ⟨ct75_ok, trivial⟩ ⟨⟨ht83_ok, rfl⟩, ⟨h, rfl⟩, trivial⟩
@[reducible] def pH82_0 : Pat := Pat.mk [(0, .c (.hole (.list (.prod (.int .i64) (.int .i64))))), (1, hzI), (4, .fn 75 [] [.ptr 0 0]), (10, hzI), (11, hzI)] [(0, .cells [.fn0 59] false)] [] []
@[reducible] def xH82_0 : Outs := [(.exit 0, Pat.mk [(0, .c (.hole (.list (.prod (.int .i64) (.int .i64))))), (1, hzI), (10, hzI)] [(0, .cells [.fn0 59] false)] [] [])]
noncomputable def bH82_0 (rec : pH82.T → Option qH82.T) (h : Ht.Ok prog ⟨82, pH82, qH82, rec⟩) : D prog 220 none 1 := (.seq (.seq (.reg [om 31 10, om 32 11, oo 33 (.bin .lss (.t 31) (.t 32))]) (.cond ( .t 33) .skip (.exit 0))) (.block 1 (.seq (.reg [om 34 10, om 35 11, oo 36 (.bin .add (.t 34) (.t 35)), oo 37 (.conv .u64 (.t 36)), oo 38 (.bin .shr (.t 37) (.c (.int .u64 (Int.ofNat 1)))), oo 39 (.conv .i64 (.t 38)), om 12 39]) (.seq (.draw [[], [], [], [1, 2], [1, 2, 3], [], [], [5, 6], [5, 6, 7], [0, 1, 2, 3, 4, 5, 6, 7, 8], [0, 1, 2, 3, 4, 5, 6, 7, 8, 9]] [om 40 4, om 41 0, om 42 12, oo 43 (.idx 2 (.t 41) (.t 42)), oo 44 (.load true 2 (.t 43)), om 45 0, om 46 1, oo 47 (.idx 2 (.t 45) (.t 46)), oo 48 (.load true 2 (.t 47)), .call (some 49) none (.t 40) [.t 44, .t 48] [some (.prod (.int .i64) (.int .i64)), some (.prod (.int .i64) (.int .i64))], oo 50 (.bin .lss (.t 49) (ki 0))]) (.cond ( .t 50) (.reg [om 51 12, oo 52 (.bin .add (.t 51) (ki 1)), om 10 52]) (.reg [om 53 12, om 11 53]))))))
noncomputable def gH82_0 (rec : pH82.T → Option qH82.T) (v0 : List (Int × Int)) (v1 : Int) (v10 : Int) (v11 : Int) : Option (((List (Int × Int)) × Int × Int × Int × Unit) ⊕ (((List (Int × Int)) × Int × Int × Unit))) :=
 brO (decide (v10 < v11)) (
 need (rng .i64 (v10 + v11)) (
 need (rng .u64 (v10 + v11)) (
 need (inb (1 : Int) (64 : Int)) (
 need (rng .i64 (ar0.shr (v10 + v11) (1 : Int))) (
 need (inb (ar0.shr (v10 + v11) (1 : Int)) (((v0).length : Nat) : Int)) (
 need (inb v1 (((v0).length : Nat) : Int)) (
 bindO (F75 (((v0).getD (Int.toNat (ar0.shr (v10 + v11) (1 : Int))) ((0 : Int), (0 : Int))).1, ((v0).getD (Int.toNat (ar0.shr (v10 + v11) (1 : Int))) ((0 : Int), (0 : Int))).2) (((v0).getD (Int.toNat v1) ((0 : Int), (0 : Int))).1, ((v0).getD (Int.toNat v1) ((0 : Int), (0 : Int))).2)) fun y0 =>
 brO (decide (y0.1 < (0 : Int))) (
 need (rng .i64 ((ar0.shr (v10 + v11) (1 : Int)) + (1 : Int))) (
 some (.inl (v0, (v1, (((ar0.shr (v10 + v11) (1 : Int)) + (1 : Int)), (v11, ()))))))) (
 some (.inl (v0, (v1, (v10, ((ar0.shr (v10 + v11) (1 : Int)), ()))))))))))))) (
 some (.inr (v0, (v1, (v10, ())))))
theorem sH82_0 (rec : pH82.T → Option qH82.T) (h : Ht.Ok prog ⟨82, pH82, qH82, rec⟩) : ∀ x, roundE (kzO (pH82_0.T ⊕ xH82_0.T)) (cxH82 rec) ar0 [0] pH82_0 xH82_0 (bH82_0 rec h) (fun y => some (.inl y)) (fun b => some (.inr b)) x = gH82_0 rec x.1 x.2.1 x.2.2.1 x.2.2.2.1 := by intro x; kernel_rfl
noncomputable def LH82_0 (rec : pH82.T → Option qH82.T) (h : Ht.Ok prog ⟨82, pH82, qH82, rec⟩) : LoopS prog 220 none 1 := mkLoop mixed (cxH82 rec) (cxH82_ok rec h) [0] rfl pH82_0 xH82_0 rfl (bH82_0 rec h) (fun x => gH82_0 rec x.1 x.2.1 x.2.2.1 x.2.2.2.1) (sH82_0 rec h)
@[reducible] def pH82_1 : Pat := Pat.mk [(0, .c (.hole (.list (.prod (.int .i64) (.int .i64))))), (10, hzI), (13, hzI)] [(0, .cells [.fn0 59] false)] [] []
@[reducible] def xH82_1 : Outs := [(.exit 2, Pat.mk [] [(0, .cells [.fn0 59] false)] [] [])]
noncomputable def bH82_1 (rec : pH82.T → Option qH82.T) (h : Ht.Ok prog ⟨82, pH82, qH82, rec⟩) : D prog 220 none 1 := (.seq (.seq (.reg [om 55 13, om 56 10, oo 57 (.bin .sub (.t 56) (ki 1)), oo 58 (.bin .lss (.t 55) (.t 57))]) (.cond ( .t 58) .skip (.exit 2))) (.seq (.block 3 (.draw [[], [], [], [], [3], [], [], [6], [5, 6, 7], [5, 6, 7, 8], [], [], [10, 11], [10, 11, 12], [0, 1, 5, 6, 7, 8, 9, 10, 11, 12, 13], [0, 1, 5, 6, 7, 8, 9, 10, 11, 12, 13, 14], [0, 1, 2, 3, 4, 5, 6, 7, 8, 9, 10, 11, 12, 13, 14, 15], [0, 1, 2, 3, 4, 5, 6, 7, 8, 9, 10, 11, 12, 13, 14, 15, 16]] [om 61 0, om 62 13, om 63 0, om 64 13, oo 65 (.bin .add (.t 64) (ki 1)), om 66 0, om 67 13, oo 68 (.bin .add (.t 67) (ki 1)), oo 69 (.idx 2 (.t 66) (.t 68)), oo 70 (.load true 2 (.t 69)), om 71 0, om 72 13, oo 73 (.idx 2 (.t 71) (.t 72)), oo 74 (.load true 2 (.t 73)), oo 75 (.idx 2 (.t 61) (.t 62)), .op none none (.store 2 (.t 75) (.t 70)), oo 76 (.idx 2 (.t 63) (.t 65)), .op none none (.store 2 (.t 76) (.t 74))])) (.reg [om 59 13, oo 60 (.bin .add (.t 59) (ki 1)), om 13 60])))
noncomputable def gH82_1 (rec : pH82.T → Option qH82.T) (v0 : List (Int × Int)) (v10 : Int) (v13 : Int) : Option (((List (Int × Int)) × Int × Int × Unit) ⊕ ((Unit))) :=
 need (rng .i64 (v10 - (1 : Int))) (
 brO (decide (v13 < (v10 - (1 : Int)))) (
 need (rng .i64 (v13 + (1 : Int))) (
 need (rng .i64 (v13 + (1 : Int))) (
 need (inb (v13 + (1 : Int)) (((v0).length : Nat) : Int)) (
 need (inb v13 (((v0).length : Nat) : Int)) (
 need (inb v13 (((v0).length : Nat) : Int)) (
 none)))))) (
 some (.inr ())))
theorem sH82_1 (rec : pH82.T → Option qH82.T) (h : Ht.Ok prog ⟨82, pH82, qH82, rec⟩) : ∀ x, roundE (kzO (pH82_1.T ⊕ xH82_1.T)) (cxH82 rec) ar0 [0] pH82_1 xH82_1 (bH82_1 rec h) (fun y => some (.inl y)) (fun b => some (.inr b)) x = gH82_1 rec x.1 x.2.1 x.2.2.1 := by intro x; kernel_rfl
noncomputable def LH82_1 (rec : pH82.T → Option qH82.T) (h : Ht.Ok prog ⟨82, pH82, qH82, rec⟩) : LoopS prog 220 none 1 := mkLoop mixed (cxH82 rec) (cxH82_ok rec h) [0] rfl pH82_1 xH82_1 rfl (bH82_1 rec h) (fun x => gH82_1 rec x.1 x.2.1 x.2.2.1) (sH82_1 rec h)
@[reducible] def pH82_2 : Pat := Pat.mk [(0, .c (.hole (.list (.prod (.int .i64) (.int .i64))))), (2, hzI), (4, .fn 75 [] [.ptr 0 0]), (14, hzI), (15, hzI)] [(0, .cells [.fn0 59] false)] [] []
@[reducible] def xH82_2 : Outs := [(.exit 4, Pat.mk [(0, .c (.hole (.list (.prod (.int .i64) (.int .i64))))), (2, hzI), (14, hzI)] [(0, .cells [.fn0 59] false)] [] [])]
noncomputable def bH82_2 (rec : pH82.T → Option qH82.T) (h : Ht.Ok prog ⟨82, pH82, qH82, rec⟩) : D prog 220 none 1 := (.seq (.seq (.reg [om 83 14, om 84 15, oo 85 (.bin .lss (.t 83) (.t 84))]) (.cond ( .t 85) .skip (.exit 4))) (.block 5 (.seq (.reg [om 86 14, om 87 15, oo 88 (.bin .add (.t 86) (.t 87)), oo 89 (.conv .u64 (.t 88)), oo 90 (.bin .shr (.t 89) (.c (.int .u64 (Int.ofNat 1)))), oo 91 (.conv .i64 (.t 90)), om 16 91]) (.seq (.draw [[], [], [], [1, 2], [1, 2, 3], [], [], [5, 6], [5, 6, 7], [0, 1, 2, 3, 4, 5, 6, 7, 8], [0, 1, 2, 3, 4, 5, 6, 7, 8, 9], [0, 1, 2, 3, 4, 5, 6, 7, 8, 9, 10]] [om 92 4, om 93 0, om 94 2, oo 95 (.idx 2 (.t 93) (.t 94)), oo 96 (.load true 2 (.t 95)), om 97 0, om 98 16, oo 99 (.idx 2 (.t 97) (.t 98)), oo 100 (.load true 2 (.t 99)), .call (some 101) none (.t 92) [.t 96, .t 100] [some (.prod (.int .i64) (.int .i64)), some (.prod (.int .i64) (.int .i64))], oo 102 (.bin .lss (.t 101) (ki 0)), oo 103 (.not (.t 102))]) (.cond ( .t 103) (.reg [om 104 16, oo 105 (.bin .add (.t 104) (ki 1)), om 14 105]) (.reg [om 106 16, om 15 106]))))))
noncomputable def gH82_2 (rec : pH82.T → Option qH82.T) (v0 : List (Int × Int)) (v2 : Int) (v14 : Int) (v15 : Int) : Option (((List (Int × Int)) × Int × Int × Int × Unit) ⊕ (((List (Int × Int)) × Int × Int × Unit))) :=
 brO (decide (v14 < v15)) (
 need (rng .i64 (v14 + v15)) (
 need (rng .u64 (v14 + v15)) (
 need (inb (1 : Int) (64 : Int)) (
 need (rng .i64 (ar0.shr (v14 + v15) (1 : Int))) (
 need (inb v2 (((v0).length : Nat) : Int)) (
 need (inb (ar0.shr (v14 + v15) (1 : Int)) (((v0).length : Nat) : Int)) (
 bindO (F75 (((v0).getD (Int.toNat v2) ((0 : Int), (0 : Int))).1, ((v0).getD (Int.toNat v2) ((0 : Int), (0 : Int))).2) (((v0).getD (Int.toNat (ar0.shr (v14 + v15) (1 : Int))) ((0 : Int), (0 : Int))).1, ((v0).getD (Int.toNat (ar0.shr (v14 + v15) (1 : Int))) ((0 : Int), (0 : Int))).2)) fun y3 =>
 brO (!(decide (y3.1 < (0 : Int)))) (
 need (rng .i64 ((ar0.shr (v14 + v15) (1 : Int)) + (1 : Int))) (
 some (.inl (v0, (v2, (((ar0.shr (v14 + v15) (1 : Int)) + (1 : Int)), (v15, ()))))))) (
 some (.inl (v0, (v2, (v14, ((ar0.shr (v14 + v15) (1 : Int)), ()))))))))))))) (
 some (.inr (v0, (v2, (v14, ())))))
theorem sH82_2 (rec : pH82.T → Option qH82.T) (h : Ht.Ok prog ⟨82, pH82, qH82, rec⟩) : ∀ x, roundE (kzO (pH82_2.T ⊕ xH82_2.T)) (cxH82 rec) ar0 [0] pH82_2 xH82_2 (bH82_2 rec h) (fun y => some (.inl y)) (fun b => some (.inr b)) x = gH82_2 rec x.1 x.2.1 x.2.2.1 x.2.2.2.1 := by intro x; kernel_rfl
noncomputable def LH82_2 (rec : pH82.T → Option qH82.T) (h : Ht.Ok prog ⟨82, pH82, qH82, rec⟩) : LoopS prog 220 none 1 := mkLoop mixed (cxH82 rec) (cxH82_ok rec h) [0] rfl pH82_2 xH82_2 rfl (bH82_2 rec h) (fun x => gH82_2 rec x.1 x.2.1 x.2.2.1 x.2.2.2.1) (sH82_2 rec h)
@[reducible] def pH82_3 : Pat := Pat.mk [(0, .c (.hole (.list (.prod (.int .i64) (.int .i64))))), (14, hzI), (17, hzI)] [(0, .cells [.fn0 59] false)] [] []
@[reducible] def xH82_3 : Outs := [(.exit 6, Pat.mk [] [(0, .cells [.fn0 59] false)] [] [])]
noncomputable def bH82_3 (rec : pH82.T → Option qH82.T) (h : Ht.Ok prog ⟨82, pH82, qH82, rec⟩) : D prog 220 none 1 := (.seq (.seq (.reg [om 108 17, om 109 14, oo 110 (.bin .gtr (.t 108) (.t 109))]) (.cond ( .t 110) .skip (.exit 6))) (.seq (.block 7 (.draw [[], [], [], [], [3], [], [], [6], [5, 6, 7], [5, 6, 7, 8], [], [], [10, 11], [10, 11, 12], [0, 1, 5, 6, 7, 8, 9, 10, 11, 12, 13], [0, 1, 5, 6, 7, 8, 9, 10, 11, 12, 13, 14], [0, 1, 2, 3, 4, 5, 6, 7, 8, 9, 10, 11, 12, 13, 14, 15], [0, 1, 2, 3, 4, 5, 6, 7, 8, 9, 10, 11, 12, 13, 14, 15, 16]] [om 113 0, om 114 17, om 115 0, om 116 17, oo 117 (.bin .sub (.t 116) (ki 1)), om 118 0, om 119 17, oo 120 (.bin .sub (.t 119) (ki 1)), oo 121 (.idx 2 (.t 118) (.t 120)), oo 122 (.load true 2 (.t 121)), om 123 0, om 124 17, oo 125 (.idx 2 (.t 123) (.t 124)), oo 126 (.load true 2 (.t 125)), oo 127 (.idx 2 (.t 113) (.t 114)), .op none none (.store 2 (.t 127) (.t 122)), oo 128 (.idx 2 (.t 115) (.t 117)), .op none none (.store 2 (.t 128) (.t 126))])) (.reg [om 111 17, oo 112 (.bin .sub (.t 111) (ki 1)), om 17 112])))
noncomputable def gH82_3 (rec : pH82.T → Option qH82.T) (v0 : List (Int × Int)) (v14 : Int) (v17 : Int) : Option (((List (Int × Int)) × Int × Int × Unit) ⊕ ((Unit))) :=
 brO (decide (v14 < v17)) (
 need (rng .i64 (v17 - (1 : Int))) (
 need (rng .i64 (v17 - (1 : Int))) (
 need (inb (v17 - (1 : Int)) (((v0).length : Nat) : Int)) (
 need (inb v17 (((v0).length : Nat) : Int)) (
 need (inb v17 (((v0).length : Nat) : Int)) (
 none)))))) (
 some (.inr ()))
theorem sH82_3 (rec : pH82.T → Option qH82.T) (h : Ht.Ok prog ⟨82, pH82, qH82, rec⟩) : ∀ x, roundE (kzO (pH82_3.T ⊕ xH82_3.T)) (cxH82 rec) ar0 [0] pH82_3 xH82_3 (bH82_3 rec h) (fun y => some (.inl y)) (fun b => some (.inr b)) x = gH82_3 rec x.1 x.2.1 x.2.2.1 := by intro x; kernel_rfl
noncomputable def LH82_3 (rec : pH82.T → Option qH82.T) (h : Ht.Ok prog ⟨82, pH82, qH82, rec⟩) : LoopS prog 220 none 1 := mkLoop mixed (cxH82 rec) (cxH82_ok rec h) [0] rfl pH82_3 xH82_3 rfl (bH82_3 rec h) (fun x => gH82_3 rec x.1 x.2.1 x.2.2.1) (sH82_3 rec h)
@[reducible] def pH82_4 : Pat := Pat.mk [(0, .c (.hole (.list (.prod (.int .i64) (.int .i64))))), (1, hzI), (2, hzI), (3, hzI), (4, .fn 75 [] [.ptr 0 0]), (18, hzI), (19, hzI), (20, hzI), (21, hzI), (22, hzI)] [(0, .cells [.fn0 59] false)] [] []
@[reducible] def xH82_4 : Outs := [(.exit 8, Pat.mk [(0, .c (.hole (.list (.prod (.int .i64) (.int .i64))))), (1, hzI), (2, hzI), (3, hzI), (4, .fn 75 [] [.ptr 0 0]), (18, hzI), (19, hzI), (20, hzI)] [(0, .cells [.fn0 59] false)] [] [])]
noncomputable def bH82_4 (rec : pH82.T → Option qH82.T) (h : Ht.Ok prog ⟨82, pH82, qH82, rec⟩) : D prog 220 none 1 := (.seq (.seq (.reg [om 149 20, om 150 21, oo 151 (.bin .lss (.t 149) (.t 150))]) (.cond ( .t 151) .skip (.exit 8))) (.block 9 (.seq (.reg [om 152 20, om 153 21, oo 154 (.bin .add (.t 152) (.t 153)), oo 155 (.conv .u64 (.t 154)), oo 156 (.bin .shr (.t 155) (.c (.int .u64 (Int.ofNat 1)))), oo 157 (.conv .i64 (.t 156)), om 23 157]) (.seq (.draw [[], [], [], [], [2, 3], [1, 2, 3, 4], [1, 2, 3, 4, 5], [], [], [7, 8], [7, 8, 9], [0, 1, 2, 3, 4, 5, 6, 7, 8, 9, 10], [0, 1, 2, 3, 4, 5, 6, 7, 8, 9, 10, 11], [0, 1, 2, 3, 4, 5, 6, 7, 8, 9, 10, 11, 12]] [om 158 4, om 159 0, om 160 22, om 161 23, oo 162 (.bin .sub (.t 160) (.t 161)), oo 163 (.idx 2 (.t 159) (.t 162)), oo 164 (.load true 2 (.t 163)), om 165 0, om 166 23, oo 167 (.idx 2 (.t 165) (.t 166)), oo 168 (.load true 2 (.t 167)), .call (some 169) none (.t 158) [.t 164, .t 168] [some (.prod (.int .i64) (.int .i64)), some (.prod (.int .i64) (.int .i64))], oo 170 (.bin .lss (.t 169) (ki 0)), oo 171 (.not (.t 170))]) (.cond ( .t 171) (.reg [om 172 23, oo 173 (.bin .add (.t 172) (ki 1)), om 20 173]) (.reg [om 174 23, om 21 174]))))))
noncomputable def gH82_4 (rec : pH82.T → Option qH82.T) (v0 : List (Int × Int)) (v1 : Int) (v2 : Int) (v3 : Int) (v18 : Int) (v19 : Int) (v20 : Int) (v21 : Int) (v22 : Int) : Option (((List (Int × Int)) × Int × Int × Int × Int × Int × Int × Int × Int × Unit) ⊕ (((List (Int × Int)) × Int × Int × Int × Int × Int × Int × Unit))) :=
 brO (decide (v20 < v21)) (
 need (rng .i64 (v20 + v21)) (
 need (rng .u64 (v20 + v21)) (
 need (inb (1 : Int) (64 : Int)) (
 need (rng .i64 (ar0.shr (v20 + v21) (1 : Int))) (
 need (rng .i64 (v22 - (ar0.shr (v20 + v21) (1 : Int)))) (
 need (inb (v22 - (ar0.shr (v20 + v21) (1 : Int))) (((v0).length : Nat) : Int)) (
 need (inb (ar0.shr (v20 + v21) (1 : Int)) (((v0).length : Nat) : Int)) (
 bindO (F75 (((v0).getD (Int.toNat (v22 - (ar0.shr (v20 + v21) (1 : Int)))) ((0 : Int), (0 : Int))).1, ((v0).getD (Int.toNat (v22 - (ar0.shr (v20 + v21) (1 : Int)))) ((0 : Int), (0 : Int))).2) (((v0).getD (Int.toNat (ar0.shr (v20 + v21) (1 : Int))) ((0 : Int), (0 : Int))).1, ((v0).getD (Int.toNat (ar0.shr (v20 + v21) (1 : Int))) ((0 : Int), (0 : Int))).2)) fun y6 =>
 brO (!(decide (y6.1 < (0 : Int)))) (
 need (rng .i64 ((ar0.shr (v20 + v21) (1 : Int)) + (1 : Int))) (
 some (.inl (v0, (v1, (v2, (v3, (v18, (v19, (((ar0.shr (v20 + v21) (1 : Int)) + (1 : Int)), (v21, (v22, ())))))))))))) (
 some (.inl (v0, (v1, (v2, (v3, (v18, (v19, (v20, ((ar0.shr (v20 + v21) (1 : Int)), (v22, ()))))))))))))))))))) (
 some (.inr (v0, (v1, (v2, (v3, (v18, (v19, (v20, ())))))))))
theorem sH82_4 (rec : pH82.T → Option qH82.T) (h : Ht.Ok prog ⟨82, pH82, qH82, rec⟩) : ∀ x, roundE (kzO (pH82_4.T ⊕ xH82_4.T)) (cxH82 rec) ar0 [0] pH82_4 xH82_4 (bH82_4 rec h) (fun y => some (.inl y)) (fun b => some (.inr b)) x = gH82_4 rec x.1 x.2.1 x.2.2.1 x.2.2.2.1 x.2.2.2.2.1 x.2.2.2.2.2.1 x.2.2.2.2.2.2.1 x.2.2.2.2.2.2.2.1 x.2.2.2.2.2.2.2.2.1 := by intro x; kernel_rfl
noncomputable def LH82_4 (rec : pH82.T → Option qH82.T) (h : Ht.Ok prog ⟨82, pH82, qH82, rec⟩) : LoopS prog 220 none 1 := mkLoop mixed (cxH82 rec) (cxH82_ok rec h) [0] rfl pH82_4 xH82_4 rfl (bH82_4 rec h) (fun x => gH82_4 rec x.1 x.2.1 x.2.2.1 x.2.2.2.1 x.2.2.2.2.1 x.2.2.2.2.2.1 x.2.2.2.2.2.2.1 x.2.2.2.2.2.2.2.1 x.2.2.2.2.2.2.2.2.1) (sH82_4 rec h)
noncomputable def ddH82 (rec : pH82.T → Option qH82.T) (h : Ht.Ok prog ⟨82, pH82, qH82, rec⟩) : D prog 220 none 1 := (.seq (.seq (.reg [om 25 2, om 26 1, oo 27 (.bin .sub (.t 25) (.t 26)), oo 28 (.bin .eql (.t 27) (ki 1))]) (.cond ( .t 28) (.seq (.reg [om 29 2, om 10 29]) (.seq (.reg [om 30 3, om 11 30]) (.seq (.block 0 (.loop (LH82_0 rec h))) (.seq (.seq (.reg [om 54 1, om 13 54]) (.block 2 (.loop (LH82_1 rec h)))) .ret)))) .skip)) (.seq (.seq (.reg [om 77 3, om 78 2, oo 79 (.bin .sub (.t 77) (.t 78)), oo 80 (.bin .eql (.t 79) (ki 1))]) (.cond ( .t 80) (.seq (.reg [om 81 1, om 14 81]) (.seq (.reg [om 82 2, om 15 82]) (.seq (.block 4 (.loop (LH82_2 rec h))) (.seq (.seq (.reg [om 107 2, om 17 107]) (.block 6 (.loop (LH82_3 rec h)))) .ret)))) .skip)) (.seq (.reg [om 129 1, om 130 3, oo 131 (.bin .add (.t 129) (.t 130)), oo 132 (.conv .u64 (.t 131)), oo 133 (.bin .shr (.t 132) (.c (.int .u64 (Int.ofNat 1)))), oo 134 (.conv .i64 (.t 133)), om 18 134]) (.seq (.reg [om 135 18, om 136 2, oo 137 (.bin .add (.t 135) (.t 136)), om 19 137]) (.seq (.reg [oo 20 (.mv (ki 0)), oo 21 (.mv (ki 0))]) (.seq (.seq (.reg [om 138 2, om 139 18, oo 140 (.bin .gtr (.t 138) (.t 139))]) (.cond ( .t 140) (.seq (.reg [om 141 19, om 142 3, oo 143 (.bin .sub (.t 141) (.t 142)), om 20 143]) (.reg [om 144 18, om 21 144])) (.seq (.reg [om 145 1, om 20 145]) (.reg [om 146 2, om 21 146])))) (.seq (.reg [om 147 19, oo 148 (.bin .sub (.t 147) (ki 1)), om 22 148]) (.seq (.block 8 (.loop (LH82_4 rec h))) (.seq (.reg [om 175 19, om 176 20, oo 177 (.bin .sub (.t 175) (.t 176)), om 24 177]) (.seq (.seq (.reg [om 178 20, om 179 2, oo 180 (.bin .lss (.t 178) (.t 179)), om 181 180, og 182 181 true (.mv (.t 2)), og 183 181 true (.mv (.t 24)), og 184 181 true (.bin .lss (.t 182) (.t 183)), oo 185 (.pick (.t 181) (.t 184) (.c (.tf false)))]) (.cond ( .t 185) (.reg [om 186 0, om 187 20, om 188 2, om 189 24, om 190 4, .call (some 191) none (.c (.fn 83 [] [])) [.t 186, .t 187, .t 188, .t 189, .t 190] [some (.list (.prod (.int .i64) (.int .i64))), some (.int .i64), some (.int .i64), some (.int .i64), none]]) .skip)) (.seq (.seq (.reg [om 192 1, om 193 20, oo 194 (.bin .lss (.t 192) (.t 193)), om 195 194, og 196 195 true (.mv (.t 20)), og 197 195 true (.mv (.t 18)), og 198 195 true (.bin .lss (.t 196) (.t 197)), oo 199 (.pick (.t 195) (.t 198) (.c (.tf false)))]) (.cond ( .t 199) (.reg [om 200 0, om 201 1, om 202 20, om 203 18, om 204 4, .call (some 205) none (.c (.fn 82 [] [])) [.t 200, .t 201, .t 202, .t 203, .t 204] [some (.list (.prod (.int .i64) (.int .i64))), some (.int .i64), some (.int .i64), some (.int .i64), none]]) .skip)) (.seq (.reg [om 206 18, om 207 24, oo 208 (.bin .lss (.t 206) (.t 207)), om 209 208, og 210 209 true (.mv (.t 24)), og 211 209 true (.mv (.t 3)), og 212 209 true (.bin .lss (.t 210) (.t 211)), oo 213 (.pick (.t 209) (.t 212) (.c (.tf false)))]) (.cond ( .t 213) (.reg [om 214 0, om 215 18, om 216 24, om 217 3, om 218 4, .call (some 219) none (.c (.fn 82 [] [])) [.t 214, .t 215, .t 216, .t 217, .t 218] [some (.list (.prod (.int .i64) (.int .i64))), some (.int .i64), some (.int .i64), some (.int .i64), none]]) .skip)))))))))))))
noncomputable def FH82 (rec : pH82.T → Option qH82.T) (v0 : List (Int × Int)) (v1 : Int) (v2 : Int) (v3 : Int) : Option (Unit) :=
 need (rng .i64 (v2 - v1)) (
 brO ((v2 - v1) == (1 : Int)) (
 bindO (iter (fun x => gH82_0 rec x.1 x.2.1 x.2.2.1 x.2.2.2.1) (v0, (v1, (v2, (v3, ()))))) fun z1 =>
 bindO (iter (fun x => gH82_1 rec x.1 x.2.1 x.2.2.1) (z1.1, (z1.2.2.1, (z1.2.1, ())))) fun z2 =>
 some ()) (
 need (rng .i64 (v3 - v2)) (
 brO ((v3 - v2) == (1 : Int)) (
 bindO (iter (fun x => gH82_2 rec x.1 x.2.1 x.2.2.1 x.2.2.2.1) (v0, (v2, (v1, (v2, ()))))) fun z4 =>
 bindO (iter (fun x => gH82_3 rec x.1 x.2.1 x.2.2.1) (z4.1, (z4.2.2.1, (z4.2.1, ())))) fun z5 =>
 some ()) (
 need (rng .i64 (v1 + v3)) (
 need (rng .u64 (v1 + v3)) (
 need (inb (1 : Int) (64 : Int)) (
 need (rng .i64 (ar0.shr (v1 + v3) (1 : Int))) (
 need (rng .i64 ((ar0.shr (v1 + v3) (1 : Int)) + v2)) (
 brO (decide ((ar0.shr (v1 + v3) (1 : Int)) < v2)) (
 need (rng .i64 (((ar0.shr (v1 + v3) (1 : Int)) + v2) - v3)) (
 need (rng .i64 (((ar0.shr (v1 + v3) (1 : Int)) + v2) - (1 : Int))) (
 bindO (iter (fun x => gH82_4 rec x.1 x.2.1 x.2.2.1 x.2.2.2.1 x.2.2.2.2.1 x.2.2.2.2.2.1 x.2.2.2.2.2.2.1 x.2.2.2.2.2.2.2.1 x.2.2.2.2.2.2.2.2.1) (v0, (v1, (v2, (v3, ((ar0.shr (v1 + v3) (1 : Int)), (((ar0.shr (v1 + v3) (1 : Int)) + v2), ((((ar0.shr (v1 + v3) (1 : Int)) + v2) - v3), ((ar0.shr (v1 + v3) (1 : Int)), ((((ar0.shr (v1 + v3) (1 : Int)) + v2) - (1 : Int)), ())))))))))) fun z7 =>
 need (rng .i64 (z7.2.2.2.2.2.1 - z7.2.2.2.2.2.2.1)) (
 brO (decide (z7.2.2.2.2.2.2.1 < z7.2.2.1)) (
 brO (decide (z7.2.2.1 < (z7.2.2.2.2.2.1 - z7.2.2.2.2.2.2.1))) (
 bindO (FH83 z7.1 z7.2.2.2.2.2.2.1 z7.2.2.1 (z7.2.2.2.2.2.1 - z7.2.2.2.2.2.2.1)) fun y8 =>
 brO (decide (z7.2.1 < z7.2.2.2.2.2.2.1)) (
 brO (decide (z7.2.2.2.2.2.2.1 < z7.2.2.2.2.1)) (
 bindO (rec (z7.1, (z7.2.1, (z7.2.2.2.2.2.2.1, (z7.2.2.2.2.1, ()))))) fun y9 =>
 brO (decide (z7.2.2.2.2.1 < (z7.2.2.2.2.2.1 - z7.2.2.2.2.2.2.1))) (
 brO (decide ((z7.2.2.2.2.2.1 - z7.2.2.2.2.2.2.1) < z7.2.2.2.1)) (
 bindO (rec (z7.1, (z7.2.2.2.2.1, ((z7.2.2.2.2.2.1 - z7.2.2.2.2.2.2.1), (z7.2.2.2.1, ()))))) fun y10 =>
 some ()) (
 some ())) (
 some ())) (
 brO (decide (z7.2.2.2.2.1 < (z7.2.2.2.2.2.1 - z7.2.2.2.2.2.2.1))) (
 brO (decide ((z7.2.2.2.2.2.1 - z7.2.2.2.2.2.2.1) < z7.2.2.2.1)) (
 bindO (rec (z7.1, (z7.2.2.2.2.1, ((z7.2.2.2.2.2.1 - z7.2.2.2.2.2.2.1), (z7.2.2.2.1, ()))))) fun y11 =>
 some ()) (
 some ())) (
 some ()))) (
 brO (decide (z7.2.2.2.2.1 < (z7.2.2.2.2.2.1 - z7.2.2.2.2.2.2.1))) (
 brO (decide ((z7.2.2.2.2.2.1 - z7.2.2.2.2.2.2.1) < z7.2.2.2.1)) (
 bindO (rec (z7.1, (z7.2.2.2.2.1, ((z7.2.2.2.2.2.1 - z7.2.2.2.2.2.2.1), (z7.2.2.2.1, ()))))) fun y12 =>
 some ()) (
 some ())) (
 some ()))) (
 brO (decide (z7.2.1 < z7.2.2.2.2.2.2.1)) (
 brO (decide (z7.2.2.2.2.2.2.1 < z7.2.2.2.2.1)) (
 bindO (rec (z7.1, (z7.2.1, (z7.2.2.2.2.2.2.1, (z7.2.2.2.2.1, ()))))) fun y13 =>
 brO (decide (z7.2.2.2.2.1 < (z7.2.2.2.2.2.1 - z7.2.2.2.2.2.2.1))) (
 brO (decide ((z7.2.2.2.2.2.1 - z7.2.2.2.2.2.2.1) < z7.2.2.2.1)) (
 bindO (rec (z7.1, (z7.2.2.2.2.1, ((z7.2.2.2.2.2.1 - z7.2.2.2.2.2.2.1), (z7.2.2.2.1, ()))))) fun y14 =>
 some ()) (
 some ())) (
 some ())) (
 brO (decide (z7.2.2.2.2.1 < (z7.2.2.2.2.2.1 - z7.2.2.2.2.2.2.1))) (
 brO (decide ((z7.2.2.2.2.2.1 - z7.2.2.2.2.2.2.1) < z7.2.2.2.1)) (
 bindO (rec (z7.1, (z7.2.2.2.2.1, ((z7.2.2.2.2.2.1 - z7.2.2.2.2.2.2.1), (z7.2.2.2.1, ()))))) fun y15 =>
 some ()) (
 some ())) (
 some ()))) (
 brO (decide (z7.2.2.2.2.1 < (z7.2.2.2.2.2.1 - z7.2.2.2.2.2.2.1))) (
 brO (decide ((z7.2.2.2.2.2.1 - z7.2.2.2.2.2.2.1) < z7.2.2.2.1)) (
 bindO (rec (z7.1, (z7.2.2.2.2.1, ((z7.2.2.2.2.2.1 - z7.2.2.2.2.2.2.1), (z7.2.2.2.1, ()))))) fun y16 =>
 some ()) (
 some ())) (
 some ())))) (
 brO (decide (z7.2.1 < z7.2.2.2.2.2.2.1)) (
 brO (decide (z7.2.2.2.2.2.2.1 < z7.2.2.2.2.1)) (
 bindO (rec (z7.1, (z7.2.1, (z7.2.2.2.2.2.2.1, (z7.2.2.2.2.1, ()))))) fun y17 =>
 brO (decide (z7.2.2.2.2.1 < (z7.2.2.2.2.2.1 - z7.2.2.2.2.2.2.1))) (
 brO (decide ((z7.2.2.2.2.2.1 - z7.2.2.2.2.2.2.1) < z7.2.2.2.1)) (
 bindO (rec (z7.1, (z7.2.2.2.2.1, ((z7.2.2.2.2.2.1 - z7.2.2.2.2.2.2.1), (z7.2.2.2.1, ()))))) fun y18 =>
 some ()) (
 some ())) (
 some ())) (
 brO (decide (z7.2.2.2.2.1 < (z7.2.2.2.2.2.1 - z7.2.2.2.2.2.2.1))) (
 brO (decide ((z7.2.2.2.2.2.1 - z7.2.2.2.2.2.2.1) < z7.2.2.2.1)) (
 bindO (rec (z7.1, (z7.2.2.2.2.1, ((z7.2.2.2.2.2.1 - z7.2.2.2.2.2.2.1), (z7.2.2.2.1, ()))))) fun y19 =>
 some ()) (
 some ())) (
 some ()))) (
 brO (decide (z7.2.2.2.2.1 < (z7.2.2.2.2.2.1 - z7.2.2.2.2.2.2.1))) (
 brO (decide ((z7.2.2.2.2.2.1 - z7.2.2.2.2.2.2.1) < z7.2.2.2.1)) (
 bindO (rec (z7.1, (z7.2.2.2.2.1, ((z7.2.2.2.2.2.1 - z7.2.2.2.2.2.2.1), (z7.2.2.2.1, ()))))) fun y20 =>
 some ()) (
 some ())) (
 some ()))))))) (
 need (rng .i64 (((ar0.shr (v1 + v3) (1 : Int)) + v2) - (1 : Int))) (
 bindO (iter (fun x => gH82_4 rec x.1 x.2.1 x.2.2.1 x.2.2.2.1 x.2.2.2.2.1 x.2.2.2.2.2.1 x.2.2.2.2.2.2.1 x.2.2.2.2.2.2.2.1 x.2.2.2.2.2.2.2.2.1) (v0, (v1, (v2, (v3, ((ar0.shr (v1 + v3) (1 : Int)), (((ar0.shr (v1 + v3) (1 : Int)) + v2), (v1, (v2, ((((ar0.shr (v1 + v3) (1 : Int)) + v2) - (1 : Int)), ())))))))))) fun z21 =>
 need (rng .i64 (z21.2.2.2.2.2.1 - z21.2.2.2.2.2.2.1)) (
 brO (decide (z21.2.2.2.2.2.2.1 < z21.2.2.1)) (
 brO (decide (z21.2.2.1 < (z21.2.2.2.2.2.1 - z21.2.2.2.2.2.2.1))) (
 bindO (FH83 z21.1 z21.2.2.2.2.2.2.1 z21.2.2.1 (z21.2.2.2.2.2.1 - z21.2.2.2.2.2.2.1)) fun y22 =>
 brO (decide (z21.2.1 < z21.2.2.2.2.2.2.1)) (
 brO (decide (z21.2.2.2.2.2.2.1 < z21.2.2.2.2.1)) (
 bindO (rec (z21.1, (z21.2.1, (z21.2.2.2.2.2.2.1, (z21.2.2.2.2.1, ()))))) fun y23 =>
 brO (decide (z21.2.2.2.2.1 < (z21.2.2.2.2.2.1 - z21.2.2.2.2.2.2.1))) (
 brO (decide ((z21.2.2.2.2.2.1 - z21.2.2.2.2.2.2.1) < z21.2.2.2.1)) (
 bindO (rec (z21.1, (z21.2.2.2.2.1, ((z21.2.2.2.2.2.1 - z21.2.2.2.2.2.2.1), (z21.2.2.2.1, ()))))) fun y24 =>
 some ()) (
 some ())) (
 some ())) (
 brO (decide (z21.2.2.2.2.1 < (z21.2.2.2.2.2.1 - z21.2.2.2.2.2.2.1))) (
 brO (decide ((z21.2.2.2.2.2.1 - z21.2.2.2.2.2.2.1) < z21.2.2.2.1)) (
 bindO (rec (z21.1, (z21.2.2.2.2.1, ((z21.2.2.2.2.2.1 - z21.2.2.2.2.2.2.1), (z21.2.2.2.1, ()))))) fun y25 =>
 some ()) (
 some ())) (
 some ()))) (
 brO (decide (z21.2.2.2.2.1 < (z21.2.2.2.2.2.1 - z21.2.2.2.2.2.2.1))) (
 brO (decide ((z21.2.2.2.2.2.1 - z21.2.2.2.2.2.2.1) < z21.2.2.2.1)) (
 bindO (rec (z21.1, (z21.2.2.2.2.1, ((z21.2.2.2.2.2.1 - z21.2.2.2.2.2.2.1), (z21.2.2.2.1, ()))))) fun y26 =>
 some ()) (
 some ())) (
 some ()))) (
 brO (decide (z21.2.1 < z21.2.2.2.2.2.2.1)) (
 brO (decide (z21.2.2.2.2.2.2.1 < z21.2.2.2.2.1)) (
 bindO (rec (z21.1, (z21.2.1, (z21.2.2.2.2.2.2.1, (z21.2.2.2.2.1, ()))))) fun y27 =>
 brO (decide (z21.2.2.2.2.1 < (z21.2.2.2.2.2.1 - z21.2.2.2.2.2.2.1))) (
 brO (decide ((z21.2.2.2.2.2.1 - z21.2.2.2.2.2.2.1) < z21.2.2.2.1)) (
 bindO (rec (z21.1, (z21.2.2.2.2.1, ((z21.2.2.2.2.2.1 - z21.2.2.2.2.2.2.1), (z21.2.2.2.1, ()))))) fun y28 =>
 some ()) (
 some ())) (
 some ())) (
 brO (decide (z21.2.2.2.2.1 < (z21.2.2.2.2.2.1 - z21.2.2.2.2.2.2.1))) (
 brO (decide ((z21.2.2.2.2.2.1 - z21.2.2.2.2.2.2.1) < z21.2.2.2.1)) (
 bindO (rec (z21.1, (z21.2.2.2.2.1, ((z21.2.2.2.2.2.1 - z21.2.2.2.2.2.2.1), (z21.2.2.2.1, ()))))) fun y29 =>
 some ()) (
 some ())) (
 some ()))) (
 brO (decide (z21.2.2.2.2.1 < (z21.2.2.2.2.2.1 - z21.2.2.2.2.2.2.1))) (
 brO (decide ((z21.2.2.2.2.2.1 - z21.2.2.2.2.2.2.1) < z21.2.2.2.1)) (
 bindO (rec (z21.1, (z21.2.2.2.2.1, ((z21.2.2.2.2.2.1 - z21.2.2.2.2.2.2.1), (z21.2.2.2.1, ()))))) fun y30 =>
 some ()) (
 some ())) (
 some ())))) (
 brO (decide (z21.2.1 < z21.2.2.2.2.2.2.1)) (
 brO (decide (z21.2.2.2.2.2.2.1 < z21.2.2.2.2.1)) (
 bindO (rec (z21.1, (z21.2.1, (z21.2.2.2.2.2.2.1, (z21.2.2.2.2.1, ()))))) fun y31 =>
 brO (decide (z21.2.2.2.2.1 < (z21.2.2.2.2.2.1 - z21.2.2.2.2.2.2.1))) (
 brO (decide ((z21.2.2.2.2.2.1 - z21.2.2.2.2.2.2.1) < z21.2.2.2.1)) (
 bindO (rec (z21.1, (z21.2.2.2.2.1, ((z21.2.2.2.2.2.1 - z21.2.2.2.2.2.2.1), (z21.2.2.2.1, ()))))) fun y32 =>
 some ()) (
 some ())) (
 some ())) (
 brO (decide (z21.2.2.2.2.1 < (z21.2.2.2.2.2.1 - z21.2.2.2.2.2.2.1))) (
 brO (decide ((z21.2.2.2.2.2.1 - z21.2.2.2.2.2.2.1) < z21.2.2.2.1)) (
 bindO (rec (z21.1, (z21.2.2.2.2.1, ((z21.2.2.2.2.2.1 - z21.2.2.2.2.2.2.1), (z21.2.2.2.1, ()))))) fun y33 =>
 some ()) (
 some ())) (
 some ()))) (
 brO (decide (z21.2.2.2.2.1 < (z21.2.2.2.2.2.1 - z21.2.2.2.2.2.2.1))) (
 brO (decide ((z21.2.2.2.2.2.1 - z21.2.2.2.2.2.2.1) < z21.2.2.2.1)) (
 bindO (rec (z21.1, (z21.2.2.2.2.1, ((z21.2.2.2.2.2.1 - z21.2.2.2.2.2.2.1), (z21.2.2.2.1, ()))))) fun y34 =>
 some ()) (
 some ())) (
 some ())))))))))))))))
theorem cH82_ok (rec : pH82.T → Option qH82.T) (h : Ht.Ok prog ⟨82, pH82, qH82, rec⟩) : trF prog f82 = some ⟨220, 5, (ddH82 rec h).er, [], []⟩ := by kernel_rfl
theorem ht82_step (rec : pH82.T → Option qH82.T) (h : Ht.Ok prog ⟨82, pH82, qH82, rec⟩) : Ht.Ok prog ⟨82, pH82, qH82, (fun x => FH82 rec x.1 x.2.1 x.2.2.1 x.2.2.2.1)⟩ := ht_ok mixed (cxH82_ok rec h) rfl func82 (cH82_ok rec h) (enters_of func82 rfl rfl) (ddH82 rec h) rfl rfl rfl ⟨_, rfl⟩ rfl (pre := [0]) rfl (fun x => by kernel_rfl)
noncomputable def ht82 : Ht := ⟨82, pH82, qH82, fixO (fun rec x => FH82 rec x.1 x.2.1 x.2.2.1 x.2.2.2.1)⟩
theorem ht82_ok : ht82.Ok prog := ht_fix (fun rec h => ht82_step rec h)
noncomputable def FH82fix (v0 : List (Int × Int)) (v1 : Int) (v2 : Int) (v3 : Int) : Option (Unit) := fixO (fun rec x => FH82 rec x.1 x.2.1 x.2.2.1 x.2.2.2.1) (v0, v1, v2, v3, ())

/- 79, lent -/
@[reducible] def pH79 : Pat := Pat.mk [(0, .c (.hole (.list (.prod (.int .i64) (.int .i64))))), (1, hzI), (2, .fn 75 [] [.ptr 0 0])] [(0, .cells [.fn0 59] false)] [.part 2 0] []
@[reducible] def qH79 : Pat := Pat.mk [(0, .c .any)] [(0, .cells [.fn0 59] false)] [] []
noncomputable def cxH79 : Cx := mkCxH [] [ht81, ht82]
theorem cxH79_ok : cxH79.Ok prog := mkCxH_ok trivial ⟨⟨ht81_ok, rfl⟩, ⟨ht82_ok, rfl⟩, trivial⟩
@[reducible] def pH79_0 : Pat := Pat.mk [(0, .c (.hole (.list (.prod (.int .i64) (.int .i64))))), (1, hzI), (2, .fn 75 [] [.ptr 0 0]), (6, hzI), (7, hzI), (8, hzI)] [(0, .cells [.fn0 59] false)] [] []
@[reducible] def xH79_0 : Outs := [(.exit 0, Pat.mk [(0, .c (.hole (.list (.prod (.int .i64) (.int .i64))))), (1, hzI), (2, .fn 75 [] [.ptr 0 0]), (6, hzI), (7, hzI)] [(0, .cells [.fn0 59] false)] [] [])]
noncomputable def bH79_0 : D prog 63 none 1 := (.seq (.seq (.reg [om 11 8, om 12 1, oo 13 (.bin .leq (.t 11) (.t 12))]) (.cond ( .t 13) .skip (.exit 0))) (.block 1 (.seq (.reg [om 14 0, om 15 7, om 16 8, om 17 2, .call (some 18) none (.c (.fn 81 [] [])) [.t 14, .t 15, .t 16, .t 17] [some (.list (.prod (.int .i64) (.int .i64))), some (.int .i64), some (.int .i64), none]]) (.seq (.reg [om 19 8, om 7 19]) (.reg [om 20 8, om 21 6, oo 22 (.bin .add (.t 20) (.t 21)), om 8 22])))))
noncomputable def gH79_0 (v0 : List (Int × Int)) (v1 : Int) (v6 : Int) (v7 : Int) (v8 : Int) : Option (((List (Int × Int)) × Int × Int × Int × Int × Unit) ⊕ (((List (Int × Int)) × Int × Int × Int × Unit))) :=
 brO (decide (v8 ≤ v1)) (
 bindO (FH81 v0 v7 v8) fun y0 =>
 need (rng .i64 (v8 + v6)) (
 some (.inl (v0, (v1, (v6, (v8, ((v8 + v6), ())))))))) (
 some (.inr (v0, (v1, (v6, (v7, ()))))))
noncomputable def LH79_0 : LoopS prog 63 none 1 := mkLoop mixed cxH79 cxH79_ok [0] rfl pH79_0 xH79_0 rfl (bH79_0) (fun x => gH79_0 x.1 x.2.1 x.2.2.1 x.2.2.2.1 x.2.2.2.2.1) (by intro x; kernel_rfl)
@[reducible] def pH79_2 : Pat := Pat.mk [(0, .c (.hole (.list (.prod (.int .i64) (.int .i64))))), (1, hzI), (2, .fn 75 [] [.ptr 0 0]), (6, hzI), (7, hzI), (8, hzI)] [(0, .cells [.fn0 59] false)] [] []
@[reducible] def xH79_2 : Outs := [(.exit 4, Pat.mk [(0, .c (.hole (.list (.prod (.int .i64) (.int .i64))))), (1, hzI), (2, .fn 75 [] [.ptr 0 0]), (6, hzI), (7, hzI)] [(0, .cells [.fn0 59] false)] [] [])]
noncomputable def bH79_2 : D prog 63 none 1 := (.seq (.seq (.reg [om 33 8, om 34 1, oo 35 (.bin .leq (.t 33) (.t 34))]) (.cond ( .t 35) .skip (.exit 4))) (.block 5 (.seq (.reg [om 36 0, om 37 7, om 38 7, om 39 6, oo 40 (.bin .add (.t 38) (.t 39)), om 41 8, om 42 2, .call (some 43) none (.c (.fn 82 [] [])) [.t 36, .t 37, .t 40, .t 41, .t 42] [some (.list (.prod (.int .i64) (.int .i64))), some (.int .i64), some (.int .i64), some (.int .i64), none]]) (.seq (.reg [om 44 8, om 7 44]) (.reg [om 45 8, om 46 6, oo 47 (.bin .mul (ki 2) (.t 46)), oo 48 (.bin .add (.t 45) (.t 47)), om 8 48])))))
noncomputable def gH79_2 (v0 : List (Int × Int)) (v1 : Int) (v6 : Int) (v7 : Int) (v8 : Int) : Option (((List (Int × Int)) × Int × Int × Int × Int × Unit) ⊕ (((List (Int × Int)) × Int × Int × Int × Unit))) :=
 brO (decide (v8 ≤ v1)) (
 need (rng .i64 (v7 + v6)) (
 bindO (FH82fix v0 v7 (v7 + v6) v8) fun y3 =>
 need (rng .i64 ((2 : Int) * v6)) (
 need (rng .i64 (v8 + ((2 : Int) * v6))) (
 some (.inl (v0, (v1, (v6, (v8, ((v8 + ((2 : Int) * v6)), ())))))))))) (
 some (.inr (v0, (v1, (v6, (v7, ()))))))
noncomputable def LH79_2 : LoopS prog 63 none 1 := mkLoop mixed cxH79 cxH79_ok [0] rfl pH79_2 xH79_2 rfl (bH79_2) (fun x => gH79_2 x.1 x.2.1 x.2.2.1 x.2.2.2.1 x.2.2.2.2.1) (by intro x; kernel_rfl)
@[reducible] def pH79_1 : Pat := Pat.mk [(0, .c (.hole (.list (.prod (.int .i64) (.int .i64))))), (1, hzI), (2, .fn 75 [] [.ptr 0 0]), (6, hzI)] [(0, .cells [.fn0 59] false)] [] []
@[reducible] def xH79_1 : Outs := [(.exit 2, Pat.mk [] [(0, .cells [.fn0 59] false)] [] [])]
noncomputable def bH79_1 : D prog 63 none 1 := (.seq (.seq (.reg [om 28 6, om 29 1, oo 30 (.bin .lss (.t 28) (.t 29))]) (.cond ( .t 30) .skip (.exit 2))) (.block 3 (.seq (.reg [om 31 6, oo 32 (.bin .mul (ki 2) (.t 31)), oo 7 (.mv (ki 0)), om 8 32]) (.seq (.block 4 (.loop LH79_2)) (.seq (.seq (.reg [om 49 7, om 50 6, oo 51 (.bin .add (.t 49) (.t 50)), om 9 51]) (.seq (.reg [om 52 9, om 53 1, oo 54 (.bin .lss (.t 52) (.t 53))]) (.cond ( .t 54) (.reg [om 55 0, om 56 7, om 57 9, om 58 1, om 59 2, .call (some 60) none (.c (.fn 82 [] [])) [.t 55, .t 56, .t 57, .t 58, .t 59] [some (.list (.prod (.int .i64) (.int .i64))), some (.int .i64), some (.int .i64), some (.int .i64), none]]) .skip))) (.reg [om 61 6, oo 62 (.bin .mul (.t 61) (ki 2)), om 6 62]))))))
noncomputable def gH79_1 (v0 : List (Int × Int)) (v1 : Int) (v6 : Int) : Option (((List (Int × Int)) × Int × Int × Unit) ⊕ ((Unit))) :=
 brO (decide (v6 < v1)) (
 need (rng .i64 ((2 : Int) * v6)) (
 bindO (iter (fun x => gH79_2 x.1 x.2.1 x.2.2.1 x.2.2.2.1 x.2.2.2.2.1) (v0, (v1, (v6, ((0 : Int), (((2 : Int) * v6), ())))))) fun z4 =>
 need (rng .i64 (z4.2.2.2.1 + z4.2.2.1)) (
 brO (decide ((z4.2.2.2.1 + z4.2.2.1) < z4.2.1)) (
 bindO (FH82fix z4.1 z4.2.2.2.1 (z4.2.2.2.1 + z4.2.2.1) z4.2.1) fun y5 =>
 need (rng .i64 (z4.2.2.1 * (2 : Int))) (
 some (.inl (z4.1, (z4.2.1, ((z4.2.2.1 * (2 : Int)), ())))))) (
 need (rng .i64 (z4.2.2.1 * (2 : Int))) (
 some (.inl (z4.1, (z4.2.1, ((z4.2.2.1 * (2 : Int)), ()))))))))) (
 some (.inr ()))
noncomputable def LH79_1 : LoopS prog 63 none 1 := mkLoop mixed cxH79 cxH79_ok [0] rfl pH79_1 xH79_1 rfl (bH79_1) (fun x => gH79_1 x.1 x.2.1 x.2.2.1) (by intro x; kernel_rfl)
noncomputable def ddH79 : D prog 63 none 1 := (.seq (.reg [oo 6 (.mv (ki 20))]) (.seq (.reg [om 10 6, oo 7 (.mv (ki 0)), om 8 10]) (.seq (.block 0 (.loop LH79_0)) (.seq (.reg [om 23 0, om 24 7, om 25 1, om 26 2, .call (some 27) none (.c (.fn 81 [] [])) [.t 23, .t 24, .t 25, .t 26] [some (.list (.prod (.int .i64) (.int .i64))), some (.int .i64), some (.int .i64), none]]) (.block 2 (.loop LH79_1))))))
noncomputable def FH79 (v0 : List (Int × Int)) (v1 : Int) : Option (Unit) :=
 bindO (iter (fun x => gH79_0 x.1 x.2.1 x.2.2.1 x.2.2.2.1 x.2.2.2.2.1) (v0, (v1, ((20 : Int), ((0 : Int), ((20 : Int), ())))))) fun z1 =>
 bindO (FH81 z1.1 z1.2.2.2.1 z1.2.1) fun y2 =>
 bindO (iter (fun x => gH79_1 x.1 x.2.1 x.2.2.1) (z1.1, (z1.2.1, (z1.2.2.1, ())))) fun z6 =>
 some ()
theorem cH79_ok : trF prog f79 = some ⟨63, 3, ddH79.er, [], []⟩ := by kernel_rfl
noncomputable def ht79 : Ht := ⟨79, pH79, qH79, (fun x => FH79 x.1 x.2.1)⟩
theorem ht79_ok : ht79.Ok prog := ht_ok mixed cxH79_ok rfl func79 cH79_ok (enters_of func79 rfl rfl) ddH79 rfl rfl rfl ⟨_, rfl⟩ rfl (pre := [0]) rfl (fun x => by kernel_rfl)

/- 74, lent -/
@[reducible] def pH74 : Pat := Pat.mk [(0, .c (.hole (.list (.prod (.int .i64) (.int .i64))))), (1, .fn 75 [] [.ptr 0 0])] [(0, .cells [.fn0 59] false)] [.part 1 0] []
@[reducible] def qH74 : Pat := Pat.mk [(0, .c .any)] [(0, .cells [.fn0 59] false)] [] []
noncomputable def cxH74 : Cx := mkCxH [] [ht79]
theorem cxH74_ok : cxH74.Ok prog := mkCxH_ok trivial ⟨⟨ht79_ok, rfl⟩, trivial⟩
noncomputable def ddH74 : D prog 9 none 1 := (.reg [om 4 0, om 5 0, oo 6 (.len (.t 5)), om 7 1, .call (some 8) none (.c (.fn 79 [] [])) [.t 4, .t 6, .t 7] [some (.list (.prod (.int .i64) (.int .i64))), some (.int .i64), none]])
noncomputable def FH74 (v0 : List (Int × Int)) : Option (Unit) :=
 bindO (FH79 v0 (((v0).length : Nat) : Int)) fun y0 =>
 some ()
theorem cH74_ok : trF prog f74 = some ⟨9, 2, ddH74.er, [], []⟩ := by kernel_rfl
noncomputable def ht74 : Ht := ⟨74, pH74, qH74, (fun x => FH74 x.1)⟩
theorem ht74_ok : ht74.Ok prog := ht_ok mixed cxH74_ok rfl func74 cH74_ok (enters_of func74 rfl rfl) ddH74 rfl rfl rfl ⟨_, rfl⟩ rfl (pre := [0]) rfl (fun x => by kernel_rfl)

/- 77 -/
noncomputable def cx77 : Cx := mkCxH [] []
theorem cx77_ok : cx77.Ok prog := mkCxH_ok trivial trivial
noncomputable def dd77 : D prog 4 none 0 := (.seq (.reg [oo 1 (.box (.t 0)), oo 2 (.mv (.c .nilfn))]) (.seq (.reg [oo 3 (.mkfn 80 [] [.t 1]), om 2 3]) .ret))
noncomputable def F77 (a0 : List (Int × Int)) : Option ((List (Int × Int)) × Unit) :=
 some (a0, ())
def CF77 (a0 : List (Int × Int)) : Option ((List (Int × Int)) × Unit) :=
 some (a0, ())
theorem CF77_le (a0 : List (Int × Int)) : Le (CF77 a0) (F77 a0) := Le.r
theorem c77_ok : trF prog f77 = some ⟨4, 1, dd77.er, [.t 2], [none]⟩ := by kernel_rfl
noncomputable def ct77 : Ct := ⟨77, [.c (.hole (.list (.prod (.int .i64) (.int .i64))))], .fn 80 [] [.ipc (.list (.prod (.int .i64) (.int .i64)))], fun x => F77 x.1⟩
theorem ct77_ok : ct77.Ok prog := ct_ok mixed cx77_ok func77 c77_ok (enters_of func77 rfl rfl) dd77 rfl rfl (fun x => by kernel_rfl)

/- 81, lent -/
@[reducible] def pH81_v1 : Pat := Pat.mk [(0, .c (.sl0 0 (.prod (.int .i64) (.int .i64)))), (1, hzI), (2, hzI), (3, .fn 75 [] [.ptr 1 0])] [(0, .arr (.prod (.int .i64) (.int .i64)) false), (1, .cells [.fn0 59] false)] [.slot 0, .part 3 0] []
@[reducible] def qH81_v1 : Pat := Pat.mk [(0, .c .any)] [(1, .cells [.fn0 59] false), (0, .arr (.prod (.int .i64) (.int .i64)) false)] [] []
noncomputable def cxH81_v1 : Cx := mkCxH [ct75] []
theorem cxH81_v1_ok : cxH81_v1.Ok prog := mkCxH_ok ⟨ct75_ok, trivial⟩ trivial
@[reducible] def pH81_v1_1 : Pat := Pat.mk [(0, .c (.sl0 0 (.prod (.int .i64) (.int .i64)))), (1, hzI), (2, hzI), (3, .fn 75 [] [.ptr 1 0]), (8, hzI), (9, hzI)] [(0, .arr (.prod (.int .i64) (.int .i64)) false), (1, .cells [.fn0 59] false)] [] []
@[reducible] def xH81_v1_1 : Outs := [(.exit 2, Pat.mk [(0, .c (.sl0 0 (.prod (.int .i64) (.int .i64)))), (1, hzI), (2, hzI), (3, .fn 75 [] [.ptr 1 0]), (8, hzI)] [(0, .arr (.prod (.int .i64) (.int .i64)) false), (1, .cells [.fn0 59] false)] [] [])]
noncomputable def bH81_v1_1 : D prog 53 none 2 := (.seq (.seq (.draw [[], [], [0, 1], [0, 1, 2], [0, 1, 2, 3], [0, 1, 2, 3], [0, 1, 2, 3], [0, 1, 2, 3, 5, 6], [0, 1, 2, 3, 5, 6, 7], [0, 1, 2, 3], [0, 1, 2, 3], [0, 1, 2, 3, 10], [0, 1, 2, 3, 9, 10, 11], [0, 1, 2, 3, 9, 10, 11, 12], [0, 1, 2, 3, 4, 5, 6, 7, 8, 9, 10, 11, 12, 13], [0, 1, 2, 3, 4, 5, 6, 7, 8, 9, 10, 11, 12, 13, 14], [0, 1, 2, 3, 4, 5, 6, 7, 8, 9, 10, 11, 12, 13, 14, 15]] [om 18 9, om 19 1, oo 20 (.bin .gtr (.t 18) (.t 19)), om 21 20, og 22 21 true (.mv (.t 3)), og 23 21 true (.mv (.t 0)), og 24 21 true (.mv (.t 9)), og 25 21 true (.idx 2 (.t 23) (.t 24)), og 26 21 true (.load true 2 (.t 25)), og 27 21 true (.mv (.t 0)), og 28 21 true (.mv (.t 9)), og 29 21 true (.bin .sub (.t 28) (ki 1)), og 30 21 true (.idx 2 (.t 27) (.t 29)), og 31 21 true (.load true 2 (.t 30)), .call (some 32) (some (21, true)) (.t 22) [.t 26, .t 31] [some (.prod (.int .i64) (.int .i64)), some (.prod (.int .i64) (.int .i64))], og 33 21 true (.bin .lss (.t 32) (ki 0)), oo 34 (.pick (.t 21) (.t 33) (.c (.tf false)))]) (.cond ( .t 34) .skip (.exit 2))) (.seq (.block 3 (.draw [[], [], [], [], [3], [], [], [6], [5, 6, 7], [5, 6, 7, 8], [], [], [10, 11], [10, 11, 12], [0, 1, 5, 6, 7, 8, 9, 10, 11, 12, 13], [0, 1, 5, 6, 7, 8, 9, 10, 11, 12, 13, 14], [0, 1, 2, 3, 4, 5, 6, 7, 8, 9, 10, 11, 12, 13, 14, 15], [0, 1, 2, 3, 4, 5, 6, 7, 8, 9, 10, 11, 12, 13, 14, 15, 16]] [om 37 0, om 38 9, om 39 0, om 40 9, oo 41 (.bin .sub (.t 40) (ki 1)), om 42 0, om 43 9, oo 44 (.bin .sub (.t 43) (ki 1)), oo 45 (.idx 2 (.t 42) (.t 44)), oo 46 (.load true 2 (.t 45)), om 47 0, om 48 9, oo 49 (.idx 2 (.t 47) (.t 48)), oo 50 (.load true 2 (.t 49)), oo 51 (.idx 2 (.t 37) (.t 38)), .op none none (.store 2 (.t 51) (.t 46)), oo 52 (.idx 2 (.t 39) (.t 41)), .op none none (.store 2 (.t 52) (.t 50))])) (.reg [om 35 9, oo 36 (.bin .sub (.t 35) (ki 1)), om 9 36])))
noncomputable def gH81_v1_1 (nv0 : Nat) (v1 : Int) (v2 : Int) (v8 : Int) (v9 : Int) (b0 : List (Int × Int)) : Option ((Nat × Int × Int × Int × Int × (List (Int × Int)) × Unit) ⊕ ((Nat × Int × Int × Int × (List (Int × Int)) × Unit))) :=
 brO (decide (v1 < v9)) (
 need (inb v9 ((nv0 : Nat) : Int)) (
 need (decide (((0 : Nat) + (Int.toNat v9)) < (b0).length)) (
 need (rng .i64 (v9 - (1 : Int))) (
 need (inb (v9 - (1 : Int)) ((nv0 : Nat) : Int)) (
 need (decide (((0 : Nat) + (Int.toNat (v9 - (1 : Int)))) < (b0).length)) (
 bindO (F75 (((b0).getD ((0 : Nat) + (Int.toNat v9)) ((0 : Int), (0 : Int))).1, ((b0).getD ((0 : Nat) + (Int.toNat v9)) ((0 : Int), (0 : Int))).2) (((b0).getD ((0 : Nat) + (Int.toNat (v9 - (1 : Int)))) ((0 : Int), (0 : Int))).1, ((b0).getD ((0 : Nat) + (Int.toNat (v9 - (1 : Int)))) ((0 : Int), (0 : Int))).2)) fun y0 =>
 brO (decide (y0.1 < (0 : Int))) (
 need (rng .i64 (v9 - (1 : Int))) (
 need (rng .i64 (v9 - (1 : Int))) (
 need (inb (v9 - (1 : Int)) ((nv0 : Nat) : Int)) (
 need (decide (((0 : Nat) + (Int.toNat (v9 - (1 : Int)))) < (b0).length)) (
 need (inb v9 ((nv0 : Nat) : Int)) (
 need (decide (((0 : Nat) + (Int.toNat v9)) < (b0).length)) (
 need (inb v9 ((nv0 : Nat) : Int)) (
 need (decide (((0 : Nat) + (Int.toNat v9)) < (b0).length)) (
 need (inb (v9 - (1 : Int)) ((nv0 : Nat) : Int)) (
 need (decide (((0 : Nat) + (Int.toNat (v9 - (1 : Int)))) < (((b0).set ((0 : Nat) + (Int.toNat v9)) (((b0).getD ((0 : Nat) + (Int.toNat (v9 - (1 : Int)))) ((0 : Int), (0 : Int))).1, ((b0).getD ((0 : Nat) + (Int.toNat (v9 - (1 : Int)))) ((0 : Int), (0 : Int))).2))).length)) (
 need (rng .i64 (v9 - (1 : Int))) (
 some (.inl (nv0, (v1, (v2, (v8, ((v9 - (1 : Int)), (((((b0).set ((0 : Nat) + (Int.toNat v9)) (((b0).getD ((0 : Nat) + (Int.toNat (v9 - (1 : Int)))) ((0 : Int), (0 : Int))).1, ((b0).getD ((0 : Nat) + (Int.toNat (v9 - (1 : Int)))) ((0 : Int), (0 : Int))).2))).set ((0 : Nat) + (Int.toNat (v9 - (1 : Int)))) (((b0).getD ((0 : Nat) + (Int.toNat v9)) ((0 : Int), (0 : Int))).1, ((b0).getD ((0 : Nat) + (Int.toNat v9)) ((0 : Int), (0 : Int))).2)), ()))))))))))))))))))) (
 some (.inr (nv0, (v1, (v2, (v8, (b0, ()))))))))))))) (
 some (.inr (nv0, (v1, (v2, (v8, (b0, ())))))))
def CgH81_v1_1 (nv0 : Nat) (v1 : Int) (v2 : Int) (v8 : Int) (v9 : Int) (b0 : List (Int × Int)) : Option ((Nat × Int × Int × Int × Int × (List (Int × Int)) × Unit) ⊕ ((Nat × Int × Int × Int × (List (Int × Int)) × Unit))) :=
 brC (decide (v1 < v9)) (
 needC (inb v9 ((nv0 : Nat) : Int)) (
 needC (decide (((0 : Nat) + (Int.toNat v9)) < (b0).length)) (
 needC (rng .i64 (v9 - (1 : Int))) (
 needC (inb (v9 - (1 : Int)) ((nv0 : Nat) : Int)) (
 needC (decide (((0 : Nat) + (Int.toNat (v9 - (1 : Int)))) < (b0).length)) (
 bindC (CF75 (((b0).getD ((0 : Nat) + (Int.toNat v9)) ((0 : Int), (0 : Int))).1, ((b0).getD ((0 : Nat) + (Int.toNat v9)) ((0 : Int), (0 : Int))).2) (((b0).getD ((0 : Nat) + (Int.toNat (v9 - (1 : Int)))) ((0 : Int), (0 : Int))).1, ((b0).getD ((0 : Nat) + (Int.toNat (v9 - (1 : Int)))) ((0 : Int), (0 : Int))).2)) fun y0 =>
 brC (decide (y0.1 < (0 : Int))) (
 needC (rng .i64 (v9 - (1 : Int))) (
 needC (rng .i64 (v9 - (1 : Int))) (
 needC (inb (v9 - (1 : Int)) ((nv0 : Nat) : Int)) (
 needC (decide (((0 : Nat) + (Int.toNat (v9 - (1 : Int)))) < (b0).length)) (
 needC (inb v9 ((nv0 : Nat) : Int)) (
 needC (decide (((0 : Nat) + (Int.toNat v9)) < (b0).length)) (
 needC (inb v9 ((nv0 : Nat) : Int)) (
 needC (decide (((0 : Nat) + (Int.toNat v9)) < (b0).length)) (
 needC (inb (v9 - (1 : Int)) ((nv0 : Nat) : Int)) (
 needC (decide (((0 : Nat) + (Int.toNat (v9 - (1 : Int)))) < (((b0).set ((0 : Nat) + (Int.toNat v9)) (((b0).getD ((0 : Nat) + (Int.toNat (v9 - (1 : Int)))) ((0 : Int), (0 : Int))).1, ((b0).getD ((0 : Nat) + (Int.toNat (v9 - (1 : Int)))) ((0 : Int), (0 : Int))).2))).length)) (
 needC (rng .i64 (v9 - (1 : Int))) (
 some (.inl (nv0, (v1, (v2, (v8, ((v9 - (1 : Int)), (((((b0).set ((0 : Nat) + (Int.toNat v9)) (((b0).getD ((0 : Nat) + (Int.toNat (v9 - (1 : Int)))) ((0 : Int), (0 : Int))).1, ((b0).getD ((0 : Nat) + (Int.toNat (v9 - (1 : Int)))) ((0 : Int), (0 : Int))).2))).set ((0 : Nat) + (Int.toNat (v9 - (1 : Int)))) (((b0).getD ((0 : Nat) + (Int.toNat v9)) ((0 : Int), (0 : Int))).1, ((b0).getD ((0 : Nat) + (Int.toNat v9)) ((0 : Int), (0 : Int))).2)), ()))))))))))))))))))) (
 some (.inr (nv0, (v1, (v2, (v8, (b0, ()))))))))))))) (
 some (.inr (nv0, (v1, (v2, (v8, (b0, ())))))))
theorem CgH81_v1_1_le (nv0 : Nat) (v1 : Int) (v2 : Int) (v8 : Int) (v9 : Int) (b0 : List (Int × Int)) : Le (CgH81_v1_1 nv0 v1 v2 v8 v9 b0) (gH81_v1_1 nv0 v1 v2 v8 v9 b0) := (Le.br (Le.nd (Le.nd (Le.nd (Le.nd (Le.nd (Le.bd (CF75_le ..) fun y0 => (Le.br (Le.nd (Le.nd (Le.nd (Le.nd (Le.nd (Le.nd (Le.nd (Le.nd (Le.nd (Le.nd (Le.nd Le.r))))))))))) Le.r))))))) Le.r)
noncomputable def LH81_v1_1 : LoopS prog 53 none 2 := mkLoop mixed cxH81_v1 cxH81_v1_ok [0, 1] rfl pH81_v1_1 xH81_v1_1 rfl (bH81_v1_1) (fun x => gH81_v1_1 x.1 x.2.1 x.2.2.1 x.2.2.2.1 x.2.2.2.2.1 x.2.2.2.2.2.1) (by intro x; kernel_rfl)
@[reducible] def pH81_v1_0 : Pat := Pat.mk [(0, .c (.sl0 0 (.prod (.int .i64) (.int .i64)))), (1, hzI), (2, hzI), (3, .fn 75 [] [.ptr 1 0]), (8, hzI)] [(0, .arr (.prod (.int .i64) (.int .i64)) false), (1, .cells [.fn0 59] false)] [] []
@[reducible] def xH81_v1_0 : Outs := [(.exit 0, Pat.mk [] [(1, .cells [.fn0 59] false), (0, .arr (.prod (.int .i64) (.int .i64)) false)] [] [])]
noncomputable def bH81_v1_0 : D prog 53 none 2 := (.seq (.seq (.reg [om 12 8, om 13 2, oo 14 (.bin .lss (.t 12) (.t 13))]) (.cond ( .t 14) .skip (.exit 0))) (.seq (.block 1 (.seq (.reg [om 17 8, om 9 17]) (.block 2 (.loop LH81_v1_1)))) (.reg [om 15 8, oo 16 (.bin .add (.t 15) (ki 1)), om 8 16])))
noncomputable def gH81_v1_0 (nv0 : Nat) (v1 : Int) (v2 : Int) (v8 : Int) (b0 : List (Int × Int)) : Option ((Nat × Int × Int × Int × (List (Int × Int)) × Unit) ⊕ (((List (Int × Int)) × Unit))) :=
 brO (decide (v8 < v2)) (
 bindO (iter (fun x => gH81_v1_1 x.1 x.2.1 x.2.2.1 x.2.2.2.1 x.2.2.2.2.1 x.2.2.2.2.2.1) (nv0, (v1, (v2, (v8, (v8, (b0, ()))))))) fun z1 =>
 need (rng .i64 (z1.2.2.2.1 + (1 : Int))) (
 some (.inl (z1.1, (z1.2.1, (z1.2.2.1, ((z1.2.2.2.1 + (1 : Int)), (z1.2.2.2.2.1, ())))))))) (
 some (.inr (b0, ())))
def CgH81_v1_0 (nv0 : Nat) (v1 : Int) (v2 : Int) (v8 : Int) (b0 : List (Int × Int)) : Option ((Nat × Int × Int × Int × (List (Int × Int)) × Unit) ⊕ (((List (Int × Int)) × Unit))) :=
 brC (decide (v8 < v2)) (
 bindC (iterF (fun x => CgH81_v1_1 x.1 x.2.1 x.2.2.1 x.2.2.2.1 x.2.2.2.2.1 x.2.2.2.2.2.1) 1000000 (nv0, (v1, (v2, (v8, (v8, (b0, ()))))))) fun z1 =>
 needC (rng .i64 (z1.2.2.2.1 + (1 : Int))) (
 some (.inl (z1.1, (z1.2.1, (z1.2.2.1, ((z1.2.2.2.1 + (1 : Int)), (z1.2.2.2.2.1, ())))))))) (
 some (.inr (b0, ())))
theorem CgH81_v1_0_le (nv0 : Nat) (v1 : Int) (v2 : Int) (v8 : Int) (b0 : List (Int × Int)) : Le (CgH81_v1_0 nv0 v1 v2 v8 b0) (gH81_v1_0 nv0 v1 v2 v8 b0) := (Le.br (Le.bd (Le.iter fun x => CgH81_v1_1_le ..) fun z1 => (Le.nd Le.r)) Le.r)
noncomputable def LH81_v1_0 : LoopS prog 53 none 2 := mkLoop mixed cxH81_v1 cxH81_v1_ok [0, 1] rfl pH81_v1_0 xH81_v1_0 rfl (bH81_v1_0) (fun x => gH81_v1_0 x.1 x.2.1 x.2.2.1 x.2.2.2.1 x.2.2.2.2.1) (by intro x; kernel_rfl)
noncomputable def ddH81_v1 : D prog 53 none 2 := (.seq (.reg [om 10 1, oo 11 (.bin .add (.t 10) (ki 1)), om 8 11]) (.block 0 (.loop LH81_v1_0)))
noncomputable def FH81_v1 (nv0 : Nat) (v1 : Int) (v2 : Int) (b0 : List (Int × Int)) : Option ((List (Int × Int)) × Unit) :=
 need (rng .i64 (v1 + (1 : Int))) (
 bindO (iter (fun x => gH81_v1_0 x.1 x.2.1 x.2.2.1 x.2.2.2.1 x.2.2.2.2.1) (nv0, (v1, (v2, ((v1 + (1 : Int)), (b0, ())))))) fun z2 =>
 some (z2.1, ()))
def CFH81_v1 (nv0 : Nat) (v1 : Int) (v2 : Int) (b0 : List (Int × Int)) : Option ((List (Int × Int)) × Unit) :=
 needC (rng .i64 (v1 + (1 : Int))) (
 bindC (iterF (fun x => CgH81_v1_0 x.1 x.2.1 x.2.2.1 x.2.2.2.1 x.2.2.2.2.1) 1000000 (nv0, (v1, (v2, ((v1 + (1 : Int)), (b0, ())))))) fun z2 =>
 some (z2.1, ()))
theorem CFH81_v1_le (nv0 : Nat) (v1 : Int) (v2 : Int) (b0 : List (Int × Int)) : Le (CFH81_v1 nv0 v1 v2 b0) (FH81_v1 nv0 v1 v2 b0) := (Le.nd (Le.bd (Le.iter fun x => CgH81_v1_0_le ..) fun z2 => Le.r))
theorem cH81_v1_ok : trF prog f81 = some ⟨53, 4, ddH81_v1.er, [], []⟩ := by kernel_rfl
noncomputable def ht81_v1 : Ht := ⟨81, pH81_v1, qH81_v1, (fun x => FH81_v1 x.1 x.2.1 x.2.2.1 x.2.2.2.1)⟩
theorem ht81_v1_ok : ht81_v1.Ok prog := ht_ok mixed cxH81_v1_ok rfl func81 cH81_v1_ok (enters_of func81 rfl rfl) ddH81_v1 rfl rfl rfl ⟨_, rfl⟩ rfl (pre := [0, 1]) rfl (fun x => by kernel_rfl)

/- 84, lent -/
@[reducible] def pH84_v1 : Pat := Pat.mk [(0, .c (.sl0 0 (.prod (.int .i64) (.int .i64)))), (1, hzI), (2, hzI), (3, hzI), (4, .fn 75 [] [.ptr 1 0])] [(0, .arr (.prod (.int .i64) (.int .i64)) false), (1, .cells [.fn0 59] false)] [.slot 0, .part 4 0] []
@[reducible] def qH84_v1 : Pat := Pat.mk [(0, .c .any)] [(1, .cells [.fn0 59] false), (0, .arr (.prod (.int .i64) (.int .i64)) false)] [] []
noncomputable def cxH84_v1 : Cx := mkCxH [] []
theorem cxH84_v1_ok : cxH84_v1.Ok prog := mkCxH_ok trivial trivial
@[reducible] def pH84_v1_0 : Pat := Pat.mk [(0, .c (.sl0 0 (.prod (.int .i64) (.int .i64)))), (1, hzI), (2, hzI), (3, hzI), (10, hzI)] [(0, .arr (.prod (.int .i64) (.int .i64)) false), (1, .cells [.fn0 59] false)] [] []
@[reducible] def xH84_v1_0 : Outs := [(.exit 0, Pat.mk [] [(1, .cells [.fn0 59] false), (0, .arr (.prod (.int .i64) (.int .i64)) false)] [] [])]
noncomputable def bH84_v1_0 : D prog 38 none 2 := (.seq (.seq (.reg [om 11 10, om 12 3, oo 13 (.bin .lss (.t 11) (.t 12))]) (.cond ( .t 13) .skip (.exit 0))) (.seq (.block 1 (.draw [[], [], [], [1, 2], [], [], [], [5, 6], [], [], [], [9, 10], [8, 9, 10, 11], [8, 9, 10, 11, 12], [], [], [], [15, 16], [14, 15, 16, 17], [14, 15, 16, 17, 18], [0, 1, 2, 3, 8, 9, 10, 11, 12, 13, 14, 15, 16, 17, 18, 19], [0, 1, 2, 3, 8, 9, 10, 11, 12, 13, 14, 15, 16, 17, 18, 19, 20], [0, 1, 2, 3, 4, 5, 6, 7, 8, 9, 10, 11, 12, 13, 14, 15, 16, 17, 18, 19, 20, 21], [0, 1, 2, 3, 4, 5, 6, 7, 8, 9, 10, 11, 12, 13, 14, 15, 16, 17, 18, 19, 20, 21, 22]] [om 16 0, om 17 1, om 18 10, oo 19 (.bin .add (.t 17) (.t 18)), om 20 0, om 21 2, om 22 10, oo 23 (.bin .add (.t 21) (.t 22)), om 24 0, om 25 2, om 26 10, oo 27 (.bin .add (.t 25) (.t 26)), oo 28 (.idx 2 (.t 24) (.t 27)), oo 29 (.load true 2 (.t 28)), om 30 0, om 31 1, om 32 10, oo 33 (.bin .add (.t 31) (.t 32)), oo 34 (.idx 2 (.t 30) (.t 33)), oo 35 (.load true 2 (.t 34)), oo 36 (.idx 2 (.t 16) (.t 19)), .op none none (.store 2 (.t 36) (.t 29)), oo 37 (.idx 2 (.t 20) (.t 23)), .op none none (.store 2 (.t 37) (.t 35))])) (.reg [om 14 10, oo 15 (.bin .add (.t 14) (ki 1)), om 10 15])))
noncomputable def gH84_v1_0 (nv0 : Nat) (v1 : Int) (v2 : Int) (v3 : Int) (v10 : Int) (b0 : List (Int × Int)) : Option ((Nat × Int × Int × Int × Int × (List (Int × Int)) × Unit) ⊕ (((List (Int × Int)) × Unit))) :=
 brO (decide (v10 < v3)) (
 need (rng .i64 (v1 + v10)) (
 need (rng .i64 (v2 + v10)) (
 need (rng .i64 (v2 + v10)) (
 need (inb (v2 + v10) ((nv0 : Nat) : Int)) (
 need (decide (((0 : Nat) + (Int.toNat (v2 + v10))) < (b0).length)) (
 need (rng .i64 (v1 + v10)) (
 need (inb (v1 + v10) ((nv0 : Nat) : Int)) (
 need (decide (((0 : Nat) + (Int.toNat (v1 + v10))) < (b0).length)) (
 need (inb (v1 + v10) ((nv0 : Nat) : Int)) (
 need (decide (((0 : Nat) + (Int.toNat (v1 + v10))) < (b0).length)) (
 need (inb (v2 + v10) ((nv0 : Nat) : Int)) (
 need (decide (((0 : Nat) + (Int.toNat (v2 + v10))) < (((b0).set ((0 : Nat) + (Int.toNat (v1 + v10))) (((b0).getD ((0 : Nat) + (Int.toNat (v2 + v10))) ((0 : Int), (0 : Int))).1, ((b0).getD ((0 : Nat) + (Int.toNat (v2 + v10))) ((0 : Int), (0 : Int))).2))).length)) (
 need (rng .i64 (v10 + (1 : Int))) (
 some (.inl (nv0, (v1, (v2, (v3, ((v10 + (1 : Int)), (((((b0).set ((0 : Nat) + (Int.toNat (v1 + v10))) (((b0).getD ((0 : Nat) + (Int.toNat (v2 + v10))) ((0 : Int), (0 : Int))).1, ((b0).getD ((0 : Nat) + (Int.toNat (v2 + v10))) ((0 : Int), (0 : Int))).2))).set ((0 : Nat) + (Int.toNat (v2 + v10))) (((b0).getD ((0 : Nat) + (Int.toNat (v1 + v10))) ((0 : Int), (0 : Int))).1, ((b0).getD ((0 : Nat) + (Int.toNat (v1 + v10))) ((0 : Int), (0 : Int))).2)), ()))))))))))))))))))))) (
 some (.inr (b0, ())))
def CgH84_v1_0 (nv0 : Nat) (v1 : Int) (v2 : Int) (v3 : Int) (v10 : Int) (b0 : List (Int × Int)) : Option ((Nat × Int × Int × Int × Int × (List (Int × Int)) × Unit) ⊕ (((List (Int × Int)) × Unit))) :=
 brC (decide (v10 < v3)) (
 needC (rng .i64 (v1 + v10)) (
 needC (rng .i64 (v2 + v10)) (
 needC (rng .i64 (v2 + v10)) (
 needC (inb (v2 + v10) ((nv0 : Nat) : Int)) (
 needC (decide (((0 : Nat) + (Int.toNat (v2 + v10))) < (b0).length)) (
 needC (rng .i64 (v1 + v10)) (
 needC (inb (v1 + v10) ((nv0 : Nat) : Int)) (
 needC (decide (((0 : Nat) + (Int.toNat (v1 + v10))) < (b0).length)) (
 needC (inb (v1 + v10) ((nv0 : Nat) : Int)) (
 needC (decide (((0 : Nat) + (Int.toNat (v1 + v10))) < (b0).length)) (
 needC (inb (v2 + v10) ((nv0 : Nat) : Int)) (
 needC (decide (((0 : Nat) + (Int.toNat (v2 + v10))) < (((b0).set ((0 : Nat) + (Int.toNat (v1 + v10))) (((b0).getD ((0 : Nat) + (Int.toNat (v2 + v10))) ((0 : Int), (0 : Int))).1, ((b0).getD ((0 : Nat) + (Int.toNat (v2 + v10))) ((0 : Int), (0 : Int))).2))).length)) (
 needC (rng .i64 (v10 + (1 : Int))) (
 some (.inl (nv0, (v1, (v2, (v3, ((v10 + (1 : Int)), (((((b0).set ((0 : Nat) + (Int.toNat (v1 + v10))) (((b0).getD ((0 : Nat) + (Int.toNat (v2 + v10))) ((0 : Int), (0 : Int))).1, ((b0).getD ((0 : Nat) + (Int.toNat (v2 + v10))) ((0 : Int), (0 : Int))).2))).set ((0 : Nat) + (Int.toNat (v2 + v10))) (((b0).getD ((0 : Nat) + (Int.toNat (v1 + v10))) ((0 : Int), (0 : Int))).1, ((b0).getD ((0 : Nat) + (Int.toNat (v1 + v10))) ((0 : Int), (0 : Int))).2)), ()))))))))))))))))))))) (
 some (.inr (b0, ())))
theorem CgH84_v1_0_le (nv0 : Nat) (v1 : Int) (v2 : Int) (v3 : Int) (v10 : Int) (b0 : List (Int × Int)) : Le (CgH84_v1_0 nv0 v1 v2 v3 v10 b0) (gH84_v1_0 nv0 v1 v2 v3 v10 b0) := (Le.br (Le.nd (Le.nd (Le.nd (Le.nd (Le.nd (Le.nd (Le.nd (Le.nd (Le.nd (Le.nd (Le.nd (Le.nd (Le.nd Le.r))))))))))))) Le.r)
noncomputable def LH84_v1_0 : LoopS prog 38 none 2 := mkLoop mixed cxH84_v1 cxH84_v1_ok [0, 1] rfl pH84_v1_0 xH84_v1_0 rfl (bH84_v1_0) (fun x => gH84_v1_0 x.1 x.2.1 x.2.2.1 x.2.2.2.1 x.2.2.2.2.1 x.2.2.2.2.2.1) (by intro x; kernel_rfl)
noncomputable def ddH84_v1 : D prog 38 none 2 := (.seq (.reg [oo 10 (.mv (ki 0))]) (.block 0 (.loop LH84_v1_0)))
noncomputable def FH84_v1 (nv0 : Nat) (v1 : Int) (v2 : Int) (v3 : Int) (b0 : List (Int × Int)) : Option ((List (Int × Int)) × Unit) :=
 bindO (iter (fun x => gH84_v1_0 x.1 x.2.1 x.2.2.1 x.2.2.2.1 x.2.2.2.2.1 x.2.2.2.2.2.1) (nv0, (v1, (v2, (v3, ((0 : Int), (b0, ()))))))) fun z0 =>
 some (z0.1, ())
def CFH84_v1 (nv0 : Nat) (v1 : Int) (v2 : Int) (v3 : Int) (b0 : List (Int × Int)) : Option ((List (Int × Int)) × Unit) :=
 bindC (iterF (fun x => CgH84_v1_0 x.1 x.2.1 x.2.2.1 x.2.2.2.1 x.2.2.2.2.1 x.2.2.2.2.2.1) 1000000 (nv0, (v1, (v2, (v3, ((0 : Int), (b0, ()))))))) fun z0 =>
 some (z0.1, ())
theorem CFH84_v1_le (nv0 : Nat) (v1 : Int) (v2 : Int) (v3 : Int) (b0 : List (Int × Int)) : Le (CFH84_v1 nv0 v1 v2 v3 b0) (FH84_v1 nv0 v1 v2 v3 b0) := (Le.bd (Le.iter fun x => CgH84_v1_0_le ..) fun z0 => Le.r)
theorem cH84_v1_ok : trF prog f84 = some ⟨38, 5, ddH84_v1.er, [], []⟩ := by kernel_rfl
noncomputable def ht84_v1 : Ht := ⟨84, pH84_v1, qH84_v1, (fun x => FH84_v1 x.1 x.2.1 x.2.2.1 x.2.2.2.1 x.2.2.2.2.1)⟩
theorem ht84_v1_ok : ht84_v1.Ok prog := ht_ok mixed cxH84_v1_ok rfl func84 cH84_v1_ok (enters_of func84 rfl rfl) ddH84_v1 rfl rfl rfl ⟨_, rfl⟩ rfl (pre := [0, 1]) rfl (fun x => by kernel_rfl)

/- 83, lent -/
@[reducible] def pH83_v1 : Pat := Pat.mk [(0, .c (.sl0 0 (.prod (.int .i64) (.int .i64)))), (1, hzI), (2, hzI), (3, hzI), (4, .fn 75 [] [.ptr 1 0])] [(0, .arr (.prod (.int .i64) (.int .i64)) false), (1, .cells [.fn0 59] false)] [.slot 0, .part 4 0] []
@[reducible] def qH83_v1 : Pat := Pat.mk [(0, .c .any)] [(1, .cells [.fn0 59] false), (0, .arr (.prod (.int .i64) (.int .i64)) false)] [] []
noncomputable def cxH83_v1 : Cx := mkCxH [] [ht84_v1]
theorem cxH83_v1_ok : cxH83_v1.Ok prog := mkCxH_ok trivial ⟨⟨ht84_v1_ok, rfl⟩, trivial⟩
@[reducible] def pH83_v1_0 : Pat := Pat.mk [(0, .c (.sl0 0 (.prod (.int .i64) (.int .i64)))), (2, hzI), (4, .fn 75 [] [.ptr 1 0]), (10, hzI), (11, hzI)] [(0, .arr (.prod (.int .i64) (.int .i64)) false), (1, .cells [.fn0 59] false)] [] []
@[reducible] def xH83_v1_0 : Outs := [(.exit 0, Pat.mk [(0, .c (.sl0 0 (.prod (.int .i64) (.int .i64)))), (2, hzI), (4, .fn 75 [] [.ptr 1 0]), (10, hzI)] [(0, .arr (.prod (.int .i64) (.int .i64)) false), (1, .cells [.fn0 59] false)] [] [])]
noncomputable def bH83_v1_0 : D prog 58 none 2 := (.seq (.seq (.reg [om 18 10, om 19 11, oo 20 (.bin .neq (.t 18) (.t 19))]) (.cond ( .t 20) .skip (.exit 0))) (.block 1 (.seq (.reg [om 21 10, om 22 11, oo 23 (.bin .gtr (.t 21) (.t 22))]) (.cond ( .t 23) (.seq (.reg [om 24 0, om 25 2, om 26 10, oo 27 (.bin .sub (.t 25) (.t 26)), om 28 2, om 29 11, om 30 4, .call (some 31) none (.c (.fn 84 [] [])) [.t 24, .t 27, .t 28, .t 29, .t 30] [some (.list (.prod (.int .i64) (.int .i64))), some (.int .i64), some (.int .i64), some (.int .i64), none]]) (.reg [om 32 10, om 33 11, oo 34 (.bin .sub (.t 32) (.t 33)), om 10 34])) (.seq (.reg [om 35 0, om 36 2, om 37 10, oo 38 (.bin .sub (.t 36) (.t 37)), om 39 2, om 40 11, oo 41 (.bin .add (.t 39) (.t 40)), om 42 10, oo 43 (.bin .sub (.t 41) (.t 42)), om 44 10, om 45 4, .call (some 46) none (.c (.fn 84 [] [])) [.t 35, .t 38, .t 43, .t 44, .t 45] [some (.list (.prod (.int .i64) (.int .i64))), some (.int .i64), some (.int .i64), some (.int .i64), none]]) (.reg [om 47 11, om 48 10, oo 49 (.bin .sub (.t 47) (.t 48)), om 11 49]))))))
noncomputable def gH83_v1_0 (nv0 : Nat) (v2 : Int) (v10 : Int) (v11 : Int) (b0 : List (Int × Int)) : Option ((Nat × Int × Int × Int × (List (Int × Int)) × Unit) ⊕ ((Nat × Int × Int × (List (Int × Int)) × Unit))) :=
 brO (!(v10 == v11)) (
 brO (decide (v11 < v10)) (
 need (rng .i64 (v2 - v10)) (
 bindO (FH84_v1 nv0 (v2 - v10) v2 v11 b0) fun y0 =>
 need (rng .i64 (v10 - v11)) (
 some (.inl (nv0, (v2, ((v10 - v11), (v11, (y0.1, ()))))))))) (
 need (rng .i64 (v2 - v10)) (
 need (rng .i64 (v2 + v11)) (
 need (rng .i64 ((v2 + v11) - v10)) (
 bindO (FH84_v1 nv0 (v2 - v10) ((v2 + v11) - v10) v10 b0) fun y1 =>
 need (rng .i64 (v11 - v10)) (
 some (.inl (nv0, (v2, (v10, ((v11 - v10), (y1.1, ())))))))))))) (
 some (.inr (nv0, (v2, (v10, (b0, ()))))))
def CgH83_v1_0 (nv0 : Nat) (v2 : Int) (v10 : Int) (v11 : Int) (b0 : List (Int × Int)) : Option ((Nat × Int × Int × Int × (List (Int × Int)) × Unit) ⊕ ((Nat × Int × Int × (List (Int × Int)) × Unit))) :=
 brC (!(v10 == v11)) (
 brC (decide (v11 < v10)) (
 needC (rng .i64 (v2 - v10)) (
 bindC (CFH84_v1 nv0 (v2 - v10) v2 v11 b0) fun y0 =>
 needC (rng .i64 (v10 - v11)) (
 some (.inl (nv0, (v2, ((v10 - v11), (v11, (y0.1, ()))))))))) (
 needC (rng .i64 (v2 - v10)) (
 needC (rng .i64 (v2 + v11)) (
 needC (rng .i64 ((v2 + v11) - v10)) (
 bindC (CFH84_v1 nv0 (v2 - v10) ((v2 + v11) - v10) v10 b0) fun y1 =>
 needC (rng .i64 (v11 - v10)) (
 some (.inl (nv0, (v2, (v10, ((v11 - v10), (y1.1, ())))))))))))) (
 some (.inr (nv0, (v2, (v10, (b0, ()))))))
theorem CgH83_v1_0_le (nv0 : Nat) (v2 : Int) (v10 : Int) (v11 : Int) (b0 : List (Int × Int)) : Le (CgH83_v1_0 nv0 v2 v10 v11 b0) (gH83_v1_0 nv0 v2 v10 v11 b0) := (Le.br (Le.br (Le.nd (Le.bd (CFH84_v1_le ..) fun y0 => (Le.nd Le.r))) (Le.nd (Le.nd (Le.nd (Le.bd (CFH84_v1_le ..) fun y1 => (Le.nd Le.r)))))) Le.r)
noncomputable def LH83_v1_0 : LoopS prog 58 none 2 := mkLoop mixed cxH83_v1 cxH83_v1_ok [0, 1] rfl pH83_v1_0 xH83_v1_0 rfl (bH83_v1_0) (fun x => gH83_v1_0 x.1 x.2.1 x.2.2.1 x.2.2.2.1 x.2.2.2.2.1) (by intro x; kernel_rfl)
noncomputable def ddH83_v1 : D prog 58 none 2 := (.seq (.reg [om 12 2, om 13 1, oo 14 (.bin .sub (.t 12) (.t 13)), om 10 14]) (.seq (.reg [om 15 3, om 16 2, oo 17 (.bin .sub (.t 15) (.t 16)), om 11 17]) (.seq (.block 0 (.loop LH83_v1_0)) (.reg [om 50 0, om 51 2, om 52 10, oo 53 (.bin .sub (.t 51) (.t 52)), om 54 2, om 55 10, om 56 4, .call (some 57) none (.c (.fn 84 [] [])) [.t 50, .t 53, .t 54, .t 55, .t 56] [some (.list (.prod (.int .i64) (.int .i64))), some (.int .i64), some (.int .i64), some (.int .i64), none]]))))
noncomputable def FH83_v1 (nv0 : Nat) (v1 : Int) (v2 : Int) (v3 : Int) (b0 : List (Int × Int)) : Option ((List (Int × Int)) × Unit) :=
 need (rng .i64 (v2 - v1)) (
 need (rng .i64 (v3 - v2)) (
 bindO (iter (fun x => gH83_v1_0 x.1 x.2.1 x.2.2.1 x.2.2.2.1 x.2.2.2.2.1) (nv0, (v2, ((v2 - v1), ((v3 - v2), (b0, ())))))) fun z2 =>
 need (rng .i64 (z2.2.1 - z2.2.2.1)) (
 bindO (FH84_v1 z2.1 (z2.2.1 - z2.2.2.1) z2.2.1 z2.2.2.1 z2.2.2.2.1) fun y3 =>
 some (y3.1, ()))))
def CFH83_v1 (nv0 : Nat) (v1 : Int) (v2 : Int) (v3 : Int) (b0 : List (Int × Int)) : Option ((List (Int × Int)) × Unit) :=
 needC (rng .i64 (v2 - v1)) (
 needC (rng .i64 (v3 - v2)) (
 bindC (iterF (fun x => CgH83_v1_0 x.1 x.2.1 x.2.2.1 x.2.2.2.1 x.2.2.2.2.1) 1000000 (nv0, (v2, ((v2 - v1), ((v3 - v2), (b0, ())))))) fun z2 =>
 needC (rng .i64 (z2.2.1 - z2.2.2.1)) (
 bindC (CFH84_v1 z2.1 (z2.2.1 - z2.2.2.1) z2.2.1 z2.2.2.1 z2.2.2.2.1) fun y3 =>
 some (y3.1, ()))))
theorem CFH83_v1_le (nv0 : Nat) (v1 : Int) (v2 : Int) (v3 : Int) (b0 : List (Int × Int)) : Le (CFH83_v1 nv0 v1 v2 v3 b0) (FH83_v1 nv0 v1 v2 v3 b0) := (Le.nd (Le.nd (Le.bd (Le.iter fun x => CgH83_v1_0_le ..) fun z2 => (Le.nd (Le.bd (CFH84_v1_le ..) fun y3 => Le.r)))))
theorem cH83_v1_ok : trF prog f83 = some ⟨58, 5, ddH83_v1.er, [], []⟩ := by kernel_rfl
noncomputable def ht83_v1 : Ht := ⟨83, pH83_v1, qH83_v1, (fun x => FH83_v1 x.1 x.2.1 x.2.2.1 x.2.2.2.1 x.2.2.2.2.1)⟩
theorem ht83_v1_ok : ht83_v1.Ok prog := ht_ok mixed cxH83_v1_ok rfl func83 cH83_v1_ok (enters_of func83 rfl rfl) ddH83_v1 rfl rfl rfl ⟨_, rfl⟩ rfl (pre := [0, 1]) rfl (fun x => by kernel_rfl)

/- 82, lent -/
@[reducible] def pH82_v1 : Pat := Pat.mk [(0, .c (.sl0 0 (.prod (.int .i64) (.int .i64)))), (1, hzI), (2, hzI), (3, hzI), (4, .fn 75 [] [.ptr 1 0])] [(0, .arr (.prod (.int .i64) (.int .i64)) false), (1, .cells [.fn0 59] false)] [.slot 0, .part 4 0] []
@[reducible] def qH82_v1 : Pat := Pat.mk [(0, .c .any)] [(1, .cells [.fn0 59] false), (0, .arr (.prod (.int .i64) (.int .i64)) false)] [] []
noncomputable def cxH82_v1 (rec : pH82_v1.T → Option qH82_v1.T) : Cx := mkCxH [ct75] [ht83_v1, ⟨82, pH82_v1, qH82_v1, rec⟩]
theorem cxH82_v1_ok (rec : pH82_v1.T → Option qH82_v1.T) (h : Ht.Ok prog ⟨82, pH82_v1, qH82_v1, rec⟩) : (cxH82_v1 rec).Ok prog := mkCxH_ok ⟨ct75_ok, trivial⟩ ⟨⟨ht83_v1_ok, rfl⟩, ⟨h, rfl⟩, trivial⟩
@[reducible] def pH82_v1_0 : Pat := Pat.mk [(0, .c (.sl0 0 (.prod (.int .i64) (.int .i64)))), (1, hzI), (4, .fn 75 [] [.ptr 1 0]), (10, hzI), (11, hzI)] [(0, .arr (.prod (.int .i64) (.int .i64)) false), (1, .cells [.fn0 59] false)] [] []
@[reducible] def xH82_v1_0 : Outs := [(.exit 0, Pat.mk [(0, .c (.sl0 0 (.prod (.int .i64) (.int .i64)))), (1, hzI), (10, hzI)] [(0, .arr (.prod (.int .i64) (.int .i64)) false), (1, .cells [.fn0 59] false)] [] [])]
noncomputable def bH82_v1_0 (rec : pH82_v1.T → Option qH82_v1.T) (h : Ht.Ok prog ⟨82, pH82_v1, qH82_v1, rec⟩) : D prog 220 none 2 := (.seq (.seq (.reg [om 31 10, om 32 11, oo 33 (.bin .lss (.t 31) (.t 32))]) (.cond ( .t 33) .skip (.exit 0))) (.block 1 (.seq (.reg [om 34 10, om 35 11, oo 36 (.bin .add (.t 34) (.t 35)), oo 37 (.conv .u64 (.t 36)), oo 38 (.bin .shr (.t 37) (.c (.int .u64 (Int.ofNat 1)))), oo 39 (.conv .i64 (.t 38)), om 12 39]) (.seq (.draw [[], [], [], [1, 2], [1, 2, 3], [], [], [5, 6], [5, 6, 7], [0, 1, 2, 3, 4, 5, 6, 7, 8], [0, 1, 2, 3, 4, 5, 6, 7, 8, 9]] [om 40 4, om 41 0, om 42 12, oo 43 (.idx 2 (.t 41) (.t 42)), oo 44 (.load true 2 (.t 43)), om 45 0, om 46 1, oo 47 (.idx 2 (.t 45) (.t 46)), oo 48 (.load true 2 (.t 47)), .call (some 49) none (.t 40) [.t 44, .t 48] [some (.prod (.int .i64) (.int .i64)), some (.prod (.int .i64) (.int .i64))], oo 50 (.bin .lss (.t 49) (ki 0))]) (.cond ( .t 50) (.reg [om 51 12, oo 52 (.bin .add (.t 51) (ki 1)), om 10 52]) (.reg [om 53 12, om 11 53]))))))
noncomputable def gH82_v1_0 (rec : pH82_v1.T → Option qH82_v1.T) (nv0 : Nat) (v1 : Int) (v10 : Int) (v11 : Int) (b0 : List (Int × Int)) : Option ((Nat × Int × Int × Int × (List (Int × Int)) × Unit) ⊕ ((Nat × Int × Int × (List (Int × Int)) × Unit))) :=
 brO (decide (v10 < v11)) (
 need (rng .i64 (v10 + v11)) (
 need (rng .u64 (v10 + v11)) (
 need (inb (1 : Int) (64 : Int)) (
 need (rng .i64 (ar0.shr (v10 + v11) (1 : Int))) (
 need (inb (ar0.shr (v10 + v11) (1 : Int)) ((nv0 : Nat) : Int)) (
 need (decide (((0 : Nat) + (Int.toNat (ar0.shr (v10 + v11) (1 : Int)))) < (b0).length)) (
 need (inb v1 ((nv0 : Nat) : Int)) (
 need (decide (((0 : Nat) + (Int.toNat v1)) < (b0).length)) (
 bindO (F75 (((b0).getD ((0 : Nat) + (Int.toNat (ar0.shr (v10 + v11) (1 : Int)))) ((0 : Int), (0 : Int))).1, ((b0).getD ((0 : Nat) + (Int.toNat (ar0.shr (v10 + v11) (1 : Int)))) ((0 : Int), (0 : Int))).2) (((b0).getD ((0 : Nat) + (Int.toNat v1)) ((0 : Int), (0 : Int))).1, ((b0).getD ((0 : Nat) + (Int.toNat v1)) ((0 : Int), (0 : Int))).2)) fun y0 =>
 brO (decide (y0.1 < (0 : Int))) (
 need (rng .i64 ((ar0.shr (v10 + v11) (1 : Int)) + (1 : Int))) (
 some (.inl (nv0, (v1, (((ar0.shr (v10 + v11) (1 : Int)) + (1 : Int)), (v11, (b0, ())))))))) (
 some (.inl (nv0, (v1, (v10, ((ar0.shr (v10 + v11) (1 : Int)), (b0, ())))))))))))))))) (
 some (.inr (nv0, (v1, (v10, (b0, ()))))))
def CgH82_v1_0 (rec : pH82_v1.T → Option qH82_v1.T) (nv0 : Nat) (v1 : Int) (v10 : Int) (v11 : Int) (b0 : List (Int × Int)) : Option ((Nat × Int × Int × Int × (List (Int × Int)) × Unit) ⊕ ((Nat × Int × Int × (List (Int × Int)) × Unit))) :=
 brC (decide (v10 < v11)) (
 needC (rng .i64 (v10 + v11)) (
 needC (rng .u64 (v10 + v11)) (
 needC (inb (1 : Int) (64 : Int)) (
 needC (rng .i64 (ar0.shr (v10 + v11) (1 : Int))) (
 needC (inb (ar0.shr (v10 + v11) (1 : Int)) ((nv0 : Nat) : Int)) (
 needC (decide (((0 : Nat) + (Int.toNat (ar0.shr (v10 + v11) (1 : Int)))) < (b0).length)) (
 needC (inb v1 ((nv0 : Nat) : Int)) (
 needC (decide (((0 : Nat) + (Int.toNat v1)) < (b0).length)) (
 bindC (CF75 (((b0).getD ((0 : Nat) + (Int.toNat (ar0.shr (v10 + v11) (1 : Int)))) ((0 : Int), (0 : Int))).1, ((b0).getD ((0 : Nat) + (Int.toNat (ar0.shr (v10 + v11) (1 : Int)))) ((0 : Int), (0 : Int))).2) (((b0).getD ((0 : Nat) + (Int.toNat v1)) ((0 : Int), (0 : Int))).1, ((b0).getD ((0 : Nat) + (Int.toNat v1)) ((0 : Int), (0 : Int))).2)) fun y0 =>
 brC (decide (y0.1 < (0 : Int))) (
 needC (rng .i64 ((ar0.shr (v10 + v11) (1 : Int)) + (1 : Int))) (
 some (.inl (nv0, (v1, (((ar0.shr (v10 + v11) (1 : Int)) + (1 : Int)), (v11, (b0, ())))))))) (
 some (.inl (nv0, (v1, (v10, ((ar0.shr (v10 + v11) (1 : Int)), (b0, ())))))))))))))))) (
 some (.inr (nv0, (v1, (v10, (b0, ()))))))
theorem CgH82_v1_0_le' {rec rec' : pH82_v1.T → Option qH82_v1.T} (hr : ∀ x, Le (rec x) (rec' x)) (nv0 : Nat) (v1 : Int) (v10 : Int) (v11 : Int) (b0 : List (Int × Int)) : Le (CgH82_v1_0 rec nv0 v1 v10 v11 b0) (gH82_v1_0 rec' nv0 v1 v10 v11 b0) := (Le.br (Le.nd (Le.nd (Le.nd (Le.nd (Le.nd (Le.nd (Le.nd (Le.nd (Le.bd (CF75_le ..) fun y0 => (Le.br (Le.nd Le.r) Le.r)))))))))) Le.r)
theorem sH82_v1_0 (rec : pH82_v1.T → Option qH82_v1.T) (h : Ht.Ok prog ⟨82, pH82_v1, qH82_v1, rec⟩) : ∀ x, roundE (kzO (pH82_v1_0.T ⊕ xH82_v1_0.T)) (cxH82_v1 rec) ar0 [0, 1] pH82_v1_0 xH82_v1_0 (bH82_v1_0 rec h) (fun y => some (.inl y)) (fun b => some (.inr b)) x = gH82_v1_0 rec x.1 x.2.1 x.2.2.1 x.2.2.2.1 x.2.2.2.2.1 := by intro x; kernel_rfl
noncomputable def LH82_v1_0 (rec : pH82_v1.T → Option qH82_v1.T) (h : Ht.Ok prog ⟨82, pH82_v1, qH82_v1, rec⟩) : LoopS prog 220 none 2 := mkLoop mixed (cxH82_v1 rec) (cxH82_v1_ok rec h) [0, 1] rfl pH82_v1_0 xH82_v1_0 rfl (bH82_v1_0 rec h) (fun x => gH82_v1_0 rec x.1 x.2.1 x.2.2.1 x.2.2.2.1 x.2.2.2.2.1) (sH82_v1_0 rec h)
@[reducible] def pH82_v1_1 : Pat := Pat.mk [(0, .c (.sl0 0 (.prod (.int .i64) (.int .i64)))), (10, hzI), (13, hzI)] [(0, .arr (.prod (.int .i64) (.int .i64)) false), (1, .cells [.fn0 59] false)] [] []
@[reducible] def xH82_v1_1 : Outs := [(.exit 2, Pat.mk [] [(1, .cells [.fn0 59] false), (0, .arr (.prod (.int .i64) (.int .i64)) false)] [] [])]
noncomputable def bH82_v1_1 (rec : pH82_v1.T → Option qH82_v1.T) (h : Ht.Ok prog ⟨82, pH82_v1, qH82_v1, rec⟩) : D prog 220 none 2 := (.seq (.seq (.reg [om 55 13, om 56 10, oo 57 (.bin .sub (.t 56) (ki 1)), oo 58 (.bin .lss (.t 55) (.t 57))]) (.cond ( .t 58) .skip (.exit 2))) (.seq (.block 3 (.draw [[], [], [], [], [3], [], [], [6], [5, 6, 7], [5, 6, 7, 8], [], [], [10, 11], [10, 11, 12], [0, 1, 5, 6, 7, 8, 9, 10, 11, 12, 13], [0, 1, 5, 6, 7, 8, 9, 10, 11, 12, 13, 14], [0, 1, 2, 3, 4, 5, 6, 7, 8, 9, 10, 11, 12, 13, 14, 15], [0, 1, 2, 3, 4, 5, 6, 7, 8, 9, 10, 11, 12, 13, 14, 15, 16]] [om 61 0, om 62 13, om 63 0, om 64 13, oo 65 (.bin .add (.t 64) (ki 1)), om 66 0, om 67 13, oo 68 (.bin .add (.t 67) (ki 1)), oo 69 (.idx 2 (.t 66) (.t 68)), oo 70 (.load true 2 (.t 69)), om 71 0, om 72 13, oo 73 (.idx 2 (.t 71) (.t 72)), oo 74 (.load true 2 (.t 73)), oo 75 (.idx 2 (.t 61) (.t 62)), .op none none (.store 2 (.t 75) (.t 70)), oo 76 (.idx 2 (.t 63) (.t 65)), .op none none (.store 2 (.t 76) (.t 74))])) (.reg [om 59 13, oo 60 (.bin .add (.t 59) (ki 1)), om 13 60])))
noncomputable def gH82_v1_1 (rec : pH82_v1.T → Option qH82_v1.T) (nv0 : Nat) (v10 : Int) (v13 : Int) (b0 : List (Int × Int)) : Option ((Nat × Int × Int × (List (Int × Int)) × Unit) ⊕ (((List (Int × Int)) × Unit))) :=
 need (rng .i64 (v10 - (1 : Int))) (
 brO (decide (v13 < (v10 - (1 : Int)))) (
 need (rng .i64 (v13 + (1 : Int))) (
 need (rng .i64 (v13 + (1 : Int))) (
 need (inb (v13 + (1 : Int)) ((nv0 : Nat) : Int)) (
 need (decide (((0 : Nat) + (Int.toNat (v13 + (1 : Int)))) < (b0).length)) (
 need (inb v13 ((nv0 : Nat) : Int)) (
 need (decide (((0 : Nat) + (Int.toNat v13)) < (b0).length)) (
 need (inb v13 ((nv0 : Nat) : Int)) (
 need (decide (((0 : Nat) + (Int.toNat v13)) < (b0).length)) (
 need (inb (v13 + (1 : Int)) ((nv0 : Nat) : Int)) (
 need (decide (((0 : Nat) + (Int.toNat (v13 + (1 : Int)))) < (((b0).set ((0 : Nat) + (Int.toNat v13)) (((b0).getD ((0 : Nat) + (Int.toNat (v13 + (1 : Int)))) ((0 : Int), (0 : Int))).1, ((b0).getD ((0 : Nat) + (Int.toNat (v13 + (1 : Int)))) ((0 : Int), (0 : Int))).2))).length)) (
 need (rng .i64 (v13 + (1 : Int))) (
 some (.inl (nv0, (v10, ((v13 + (1 : Int)), (((((b0).set ((0 : Nat) + (Int.toNat v13)) (((b0).getD ((0 : Nat) + (Int.toNat (v13 + (1 : Int)))) ((0 : Int), (0 : Int))).1, ((b0).getD ((0 : Nat) + (Int.toNat (v13 + (1 : Int)))) ((0 : Int), (0 : Int))).2))).set ((0 : Nat) + (Int.toNat (v13 + (1 : Int)))) (((b0).getD ((0 : Nat) + (Int.toNat v13)) ((0 : Int), (0 : Int))).1, ((b0).getD ((0 : Nat) + (Int.toNat v13)) ((0 : Int), (0 : Int))).2)), ()))))))))))))))))) (
 some (.inr (b0, ()))))
def CgH82_v1_1 (rec : pH82_v1.T → Option qH82_v1.T) (nv0 : Nat) (v10 : Int) (v13 : Int) (b0 : List (Int × Int)) : Option ((Nat × Int × Int × (List (Int × Int)) × Unit) ⊕ (((List (Int × Int)) × Unit))) :=
 needC (rng .i64 (v10 - (1 : Int))) (
 brC (decide (v13 < (v10 - (1 : Int)))) (
 needC (rng .i64 (v13 + (1 : Int))) (
 needC (rng .i64 (v13 + (1 : Int))) (
 needC (inb (v13 + (1 : Int)) ((nv0 : Nat) : Int)) (
 needC (decide (((0 : Nat) + (Int.toNat (v13 + (1 : Int)))) < (b0).length)) (
 needC (inb v13 ((nv0 : Nat) : Int)) (
 needC (decide (((0 : Nat) + (Int.toNat v13)) < (b0).length)) (
 needC (inb v13 ((nv0 : Nat) : Int)) (
 needC (decide (((0 : Nat) + (Int.toNat v13)) < (b0).length)) (
 needC (inb (v13 + (1 : Int)) ((nv0 : Nat) : Int)) (
 needC (decide (((0 : Nat) + (Int.toNat (v13 + (1 : Int)))) < (((b0).set ((0 : Nat) + (Int.toNat v13)) (((b0).getD ((0 : Nat) + (Int.toNat (v13 + (1 : Int)))) ((0 : Int), (0 : Int))).1, ((b0).getD ((0 : Nat) + (Int.toNat (v13 + (1 : Int)))) ((0 : Int), (0 : Int))).2))).length)) (
 needC (rng .i64 (v13 + (1 : Int))) (
 some (.inl (nv0, (v10, ((v13 + (1 : Int)), (((((b0).set ((0 : Nat) + (Int.toNat v13)) (((b0).getD ((0 : Nat) + (Int.toNat (v13 + (1 : Int)))) ((0 : Int), (0 : Int))).1, ((b0).getD ((0 : Nat) + (Int.toNat (v13 + (1 : Int)))) ((0 : Int), (0 : Int))).2))).set ((0 : Nat) + (Int.toNat (v13 + (1 : Int)))) (((b0).getD ((0 : Nat) + (Int.toNat v13)) ((0 : Int), (0 : Int))).1, ((b0).getD ((0 : Nat) + (Int.toNat v13)) ((0 : Int), (0 : Int))).2)), ()))))))))))))))))) (
 some (.inr (b0, ()))))
theorem CgH82_v1_1_le' {rec rec' : pH82_v1.T → Option qH82_v1.T} (hr : ∀ x, Le (rec x) (rec' x)) (nv0 : Nat) (v10 : Int) (v13 : Int) (b0 : List (Int × Int)) : Le (CgH82_v1_1 rec nv0 v10 v13 b0) (gH82_v1_1 rec' nv0 v10 v13 b0) := (Le.nd (Le.br (Le.nd (Le.nd (Le.nd (Le.nd (Le.nd (Le.nd (Le.nd (Le.nd (Le.nd (Le.nd (Le.nd Le.r))))))))))) Le.r))
theorem sH82_v1_1 (rec : pH82_v1.T → Option qH82_v1.T) (h : Ht.Ok prog ⟨82, pH82_v1, qH82_v1, rec⟩) : ∀ x, roundE (kzO (pH82_v1_1.T ⊕ xH82_v1_1.T)) (cxH82_v1 rec) ar0 [0, 1] pH82_v1_1 xH82_v1_1 (bH82_v1_1 rec h) (fun y => some (.inl y)) (fun b => some (.inr b)) x = gH82_v1_1 rec x.1 x.2.1 x.2.2.1 x.2.2.2.1 := by intro x; kernel_rfl
noncomputable def LH82_v1_1 (rec : pH82_v1.T → Option qH82_v1.T) (h : Ht.Ok prog ⟨82, pH82_v1, qH82_v1, rec⟩) : LoopS prog 220 none 2 := mkLoop mixed (cxH82_v1 rec) (cxH82_v1_ok rec h) [0, 1] rfl pH82_v1_1 xH82_v1_1 rfl (bH82_v1_1 rec h) (fun x => gH82_v1_1 rec x.1 x.2.1 x.2.2.1 x.2.2.2.1) (sH82_v1_1 rec h)
@[reducible] def pH82_v1_2 : Pat := Pat.mk [(0, .c (.sl0 0 (.prod (.int .i64) (.int .i64)))), (2, hzI), (4, .fn 75 [] [.ptr 1 0]), (14, hzI), (15, hzI)] [(0, .arr (.prod (.int .i64) (.int .i64)) false), (1, .cells [.fn0 59] false)] [] []
@[reducible] def xH82_v1_2 : Outs := [(.exit 4, Pat.mk [(0, .c (.sl0 0 (.prod (.int .i64) (.int .i64)))), (2, hzI), (14, hzI)] [(0, .arr (.prod (.int .i64) (.int .i64)) false), (1, .cells [.fn0 59] false)] [] [])]
noncomputable def bH82_v1_2 (rec : pH82_v1.T → Option qH82_v1.T) (h : Ht.Ok prog ⟨82, pH82_v1, qH82_v1, rec⟩) : D prog 220 none 2 := (.seq (.seq (.reg [om 83 14, om 84 15, oo 85 (.bin .lss (.t 83) (.t 84))]) (.cond ( .t 85) .skip (.exit 4))) (.block 5 (.seq (.reg [om 86 14, om 87 15, oo 88 (.bin .add (.t 86) (.t 87)), oo 89 (.conv .u64 (.t 88)), oo 90 (.bin .shr (.t 89) (.c (.int .u64 (Int.ofNat 1)))), oo 91 (.conv .i64 (.t 90)), om 16 91]) (.seq (.draw [[], [], [], [1, 2], [1, 2, 3], [], [], [5, 6], [5, 6, 7], [0, 1, 2, 3, 4, 5, 6, 7, 8], [0, 1, 2, 3, 4, 5, 6, 7, 8, 9], [0, 1, 2, 3, 4, 5, 6, 7, 8, 9, 10]] [om 92 4, om 93 0, om 94 2, oo 95 (.idx 2 (.t 93) (.t 94)), oo 96 (.load true 2 (.t 95)), om 97 0, om 98 16, oo 99 (.idx 2 (.t 97) (.t 98)), oo 100 (.load true 2 (.t 99)), .call (some 101) none (.t 92) [.t 96, .t 100] [some (.prod (.int .i64) (.int .i64)), some (.prod (.int .i64) (.int .i64))], oo 102 (.bin .lss (.t 101) (ki 0)), oo 103 (.not (.t 102))]) (.cond ( .t 103) (.reg [om 104 16, oo 105 (.bin .add (.t 104) (ki 1)), om 14 105]) (.reg [om 106 16, om 15 106]))))))
noncomputable def gH82_v1_2 (rec : pH82_v1.T → Option qH82_v1.T) (nv0 : Nat) (v2 : Int) (v14 : Int) (v15 : Int) (b0 : List (Int × Int)) : Option ((Nat × Int × Int × Int × (List (Int × Int)) × Unit) ⊕ ((Nat × Int × Int × (List (Int × Int)) × Unit))) :=
 brO (decide (v14 < v15)) (
 need (rng .i64 (v14 + v15)) (
 need (rng .u64 (v14 + v15)) (
 need (inb (1 : Int) (64 : Int)) (
 need (rng .i64 (ar0.shr (v14 + v15) (1 : Int))) (
 need (inb v2 ((nv0 : Nat) : Int)) (
 need (decide (((0 : Nat) + (Int.toNat v2)) < (b0).length)) (
 need (inb (ar0.shr (v14 + v15) (1 : Int)) ((nv0 : Nat) : Int)) (
 need (decide (((0 : Nat) + (Int.toNat (ar0.shr (v14 + v15) (1 : Int)))) < (b0).length)) (
 bindO (F75 (((b0).getD ((0 : Nat) + (Int.toNat v2)) ((0 : Int), (0 : Int))).1, ((b0).getD ((0 : Nat) + (Int.toNat v2)) ((0 : Int), (0 : Int))).2) (((b0).getD ((0 : Nat) + (Int.toNat (ar0.shr (v14 + v15) (1 : Int)))) ((0 : Int), (0 : Int))).1, ((b0).getD ((0 : Nat) + (Int.toNat (ar0.shr (v14 + v15) (1 : Int)))) ((0 : Int), (0 : Int))).2)) fun y3 =>
 brO (!(decide (y3.1 < (0 : Int)))) (
 need (rng .i64 ((ar0.shr (v14 + v15) (1 : Int)) + (1 : Int))) (
 some (.inl (nv0, (v2, (((ar0.shr (v14 + v15) (1 : Int)) + (1 : Int)), (v15, (b0, ())))))))) (
 some (.inl (nv0, (v2, (v14, ((ar0.shr (v14 + v15) (1 : Int)), (b0, ())))))))))))))))) (
 some (.inr (nv0, (v2, (v14, (b0, ()))))))
def CgH82_v1_2 (rec : pH82_v1.T → Option qH82_v1.T) (nv0 : Nat) (v2 : Int) (v14 : Int) (v15 : Int) (b0 : List (Int × Int)) : Option ((Nat × Int × Int × Int × (List (Int × Int)) × Unit) ⊕ ((Nat × Int × Int × (List (Int × Int)) × Unit))) :=
 brC (decide (v14 < v15)) (
 needC (rng .i64 (v14 + v15)) (
 needC (rng .u64 (v14 + v15)) (
 needC (inb (1 : Int) (64 : Int)) (
 needC (rng .i64 (ar0.shr (v14 + v15) (1 : Int))) (
 needC (inb v2 ((nv0 : Nat) : Int)) (
 needC (decide (((0 : Nat) + (Int.toNat v2)) < (b0).length)) (
 needC (inb (ar0.shr (v14 + v15) (1 : Int)) ((nv0 : Nat) : Int)) (
 needC (decide (((0 : Nat) + (Int.toNat (ar0.shr (v14 + v15) (1 : Int)))) < (b0).length)) (
 bindC (CF75 (((b0).getD ((0 : Nat) + (Int.toNat v2)) ((0 : Int), (0 : Int))).1, ((b0).getD ((0 : Nat) + (Int.toNat v2)) ((0 : Int), (0 : Int))).2) (((b0).getD ((0 : Nat) + (Int.toNat (ar0.shr (v14 + v15) (1 : Int)))) ((0 : Int), (0 : Int))).1, ((b0).getD ((0 : Nat) + (Int.toNat (ar0.shr (v14 + v15) (1 : Int)))) ((0 : Int), (0 : Int))).2)) fun y3 =>
 brC (!(decide (y3.1 < (0 : Int)))) (
 needC (rng .i64 ((ar0.shr (v14 + v15) (1 : Int)) + (1 : Int))) (
 some (.inl (nv0, (v2, (((ar0.shr (v14 + v15) (1 : Int)) + (1 : Int)), (v15, (b0, ())))))))) (
 some (.inl (nv0, (v2, (v14, ((ar0.shr (v14 + v15) (1 : Int)), (b0, ())))))))))))))))) (
 some (.inr (nv0, (v2, (v14, (b0, ()))))))
theorem CgH82_v1_2_le' {rec rec' : pH82_v1.T → Option qH82_v1.T} (hr : ∀ x, Le (rec x) (rec' x)) (nv0 : Nat) (v2 : Int) (v14 : Int) (v15 : Int) (b0 : List (Int × Int)) : Le (CgH82_v1_2 rec nv0 v2 v14 v15 b0) (gH82_v1_2 rec' nv0 v2 v14 v15 b0) := (Le.br (Le.nd (Le.nd (Le.nd (Le.nd (Le.nd (Le.nd (Le.nd (Le.nd (Le.bd (CF75_le ..) fun y3 => (Le.br (Le.nd Le.r) Le.r)))))))))) Le.r)
theorem sH82_v1_2 (rec : pH82_v1.T → Option qH82_v1.T) (h : Ht.Ok prog ⟨82, pH82_v1, qH82_v1, rec⟩) : ∀ x, roundE (kzO (pH82_v1_2.T ⊕ xH82_v1_2.T)) (cxH82_v1 rec) ar0 [0, 1] pH82_v1_2 xH82_v1_2 (bH82_v1_2 rec h) (fun y => some (.inl y)) (fun b => some (.inr b)) x = gH82_v1_2 rec x.1 x.2.1 x.2.2.1 x.2.2.2.1 x.2.2.2.2.1 := by intro x; kernel_rfl
noncomputable def LH82_v1_2 (rec : pH82_v1.T → Option qH82_v1.T) (h : Ht.Ok prog ⟨82, pH82_v1, qH82_v1, rec⟩) : LoopS prog 220 none 2 := mkLoop mixed (cxH82_v1 rec) (cxH82_v1_ok rec h) [0, 1] rfl pH82_v1_2 xH82_v1_2 rfl (bH82_v1_2 rec h) (fun x => gH82_v1_2 rec x.1 x.2.1 x.2.2.1 x.2.2.2.1 x.2.2.2.2.1) (sH82_v1_2 rec h)
@[reducible] def pH82_v1_3 : Pat := Pat.mk [(0, .c (.sl0 0 (.prod (.int .i64) (.int .i64)))), (14, hzI), (17, hzI)] [(0, .arr (.prod (.int .i64) (.int .i64)) false), (1, .cells [.fn0 59] false)] [] []
@[reducible] def xH82_v1_3 : Outs := [(.exit 6, Pat.mk [] [(1, .cells [.fn0 59] false), (0, .arr (.prod (.int .i64) (.int .i64)) false)] [] [])]
noncomputable def bH82_v1_3 (rec : pH82_v1.T → Option qH82_v1.T) (h : Ht.Ok prog ⟨82, pH82_v1, qH82_v1, rec⟩) : D prog 220 none 2 := (.seq (.seq (.reg [om 108 17, om 109 14, oo 110 (.bin .gtr (.t 108) (.t 109))]) (.cond ( .t 110) .skip (.exit 6))) (.seq (.block 7 (.draw [[], [], [], [], [3], [], [], [6], [5, 6, 7], [5, 6, 7, 8], [], [], [10, 11], [10, 11, 12], [0, 1, 5, 6, 7, 8, 9, 10, 11, 12, 13], [0, 1, 5, 6, 7, 8, 9, 10, 11, 12, 13, 14], [0, 1, 2, 3, 4, 5, 6, 7, 8, 9, 10, 11, 12, 13, 14, 15], [0, 1, 2, 3, 4, 5, 6, 7, 8, 9, 10, 11, 12, 13, 14, 15, 16]] [om 113 0, om 114 17, om 115 0, om 116 17, oo 117 (.bin .sub (.t 116) (ki 1)), om 118 0, om 119 17, oo 120 (.bin .sub (.t 119) (ki 1)), oo 121 (.idx 2 (.t 118) (.t 120)), oo 122 (.load true 2 (.t 121)), om 123 0, om 124 17, oo 125 (.idx 2 (.t 123) (.t 124)), oo 126 (.load true 2 (.t 125)), oo 127 (.idx 2 (.t 113) (.t 114)), .op none none (.store 2 (.t 127) (.t 122)), oo 128 (.idx 2 (.t 115) (.t 117)), .op none none (.store 2 (.t 128) (.t 126))])) (.reg [om 111 17, oo 112 (.bin .sub (.t 111) (ki 1)), om 17 112])))
noncomputable def gH82_v1_3 (rec : pH82_v1.T → Option qH82_v1.T) (nv0 : Nat) (v14 : Int) (v17 : Int) (b0 : List (Int × Int)) : Option ((Nat × Int × Int × (List (Int × Int)) × Unit) ⊕ (((List (Int × Int)) × Unit))) :=
 brO (decide (v14 < v17)) (
 need (rng .i64 (v17 - (1 : Int))) (
 need (rng .i64 (v17 - (1 : Int))) (
 need (inb (v17 - (1 : Int)) ((nv0 : Nat) : Int)) (
 need (decide (((0 : Nat) + (Int.toNat (v17 - (1 : Int)))) < (b0).length)) (
 need (inb v17 ((nv0 : Nat) : Int)) (
 need (decide (((0 : Nat) + (Int.toNat v17)) < (b0).length)) (
 need (inb v17 ((nv0 : Nat) : Int)) (
 need (decide (((0 : Nat) + (Int.toNat v17)) < (b0).length)) (
 need (inb (v17 - (1 : Int)) ((nv0 : Nat) : Int)) (
 need (decide (((0 : Nat) + (Int.toNat (v17 - (1 : Int)))) < (((b0).set ((0 : Nat) + (Int.toNat v17)) (((b0).getD ((0 : Nat) + (Int.toNat (v17 - (1 : Int)))) ((0 : Int), (0 : Int))).1, ((b0).getD ((0 : Nat) + (Int.toNat (v17 - (1 : Int)))) ((0 : Int), (0 : Int))).2))).length)) (
 need (rng .i64 (v17 - (1 : Int))) (
 some (.inl (nv0, (v14, ((v17 - (1 : Int)), (((((b0).set ((0 : Nat) + (Int.toNat v17)) (((b0).getD ((0 : Nat) + (Int.toNat (v17 - (1 : Int)))) ((0 : Int), (0 : Int))).1, ((b0).getD ((0 : Nat) + (Int.toNat (v17 - (1 : Int)))) ((0 : Int), (0 : Int))).2))).set ((0 : Nat) + (Int.toNat (v17 - (1 : Int)))) (((b0).getD ((0 : Nat) + (Int.toNat v17)) ((0 : Int), (0 : Int))).1, ((b0).getD ((0 : Nat) + (Int.toNat v17)) ((0 : Int), (0 : Int))).2)), ()))))))))))))))))) (
 some (.inr (b0, ())))
def CgH82_v1_3 (rec : pH82_v1.T → Option qH82_v1.T) (nv0 : Nat) (v14 : Int) (v17 : Int) (b0 : List (Int × Int)) : Option ((Nat × Int × Int × (List (Int × Int)) × Unit) ⊕ (((List (Int × Int)) × Unit))) :=
 brC (decide (v14 < v17)) (
 needC (rng .i64 (v17 - (1 : Int))) (
 needC (rng .i64 (v17 - (1 : Int))) (
 needC (inb (v17 - (1 : Int)) ((nv0 : Nat) : Int)) (
 needC (decide (((0 : Nat) + (Int.toNat (v17 - (1 : Int)))) < (b0).length)) (
 needC (inb v17 ((nv0 : Nat) : Int)) (
 needC (decide (((0 : Nat) + (Int.toNat v17)) < (b0).length)) (
 needC (inb v17 ((nv0 : Nat) : Int)) (
 needC (decide (((0 : Nat) + (Int.toNat v17)) < (b0).length)) (
 needC (inb (v17 - (1 : Int)) ((nv0 : Nat) : Int)) (
 needC (decide (((0 : Nat) + (Int.toNat (v17 - (1 : Int)))) < (((b0).set ((0 : Nat) + (Int.toNat v17)) (((b0).getD ((0 : Nat) + (Int.toNat (v17 - (1 : Int)))) ((0 : Int), (0 : Int))).1, ((b0).getD ((0 : Nat) + (Int.toNat (v17 - (1 : Int)))) ((0 : Int), (0 : Int))).2))).length)) (
 needC (rng .i64 (v17 - (1 : Int))) (
 some (.inl (nv0, (v14, ((v17 - (1 : Int)), (((((b0).set ((0 : Nat) + (Int.toNat v17)) (((b0).getD ((0 : Nat) + (Int.toNat (v17 - (1 : Int)))) ((0 : Int), (0 : Int))).1, ((b0).getD ((0 : Nat) + (Int.toNat (v17 - (1 : Int)))) ((0 : Int), (0 : Int))).2))).set ((0 : Nat) + (Int.toNat (v17 - (1 : Int)))) (((b0).getD ((0 : Nat) + (Int.toNat v17)) ((0 : Int), (0 : Int))).1, ((b0).getD ((0 : Nat) + (Int.toNat v17)) ((0 : Int), (0 : Int))).2)), ()))))))))))))))))) (
 some (.inr (b0, ())))
theorem CgH82_v1_3_le' {rec rec' : pH82_v1.T → Option qH82_v1.T} (hr : ∀ x, Le (rec x) (rec' x)) (nv0 : Nat) (v14 : Int) (v17 : Int) (b0 : List (Int × Int)) : Le (CgH82_v1_3 rec nv0 v14 v17 b0) (gH82_v1_3 rec' nv0 v14 v17 b0) := (Le.br (Le.nd (Le.nd (Le.nd (Le.nd (Le.nd (Le.nd (Le.nd (Le.nd (Le.nd (Le.nd (Le.nd Le.r))))))))))) Le.r)
theorem sH82_v1_3 (rec : pH82_v1.T → Option qH82_v1.T) (h : Ht.Ok prog ⟨82, pH82_v1, qH82_v1, rec⟩) : ∀ x, roundE (kzO (pH82_v1_3.T ⊕ xH82_v1_3.T)) (cxH82_v1 rec) ar0 [0, 1] pH82_v1_3 xH82_v1_3 (bH82_v1_3 rec h) (fun y => some (.inl y)) (fun b => some (.inr b)) x = gH82_v1_3 rec x.1 x.2.1 x.2.2.1 x.2.2.2.1 := by intro x; kernel_rfl
noncomputable def LH82_v1_3 (rec : pH82_v1.T → Option qH82_v1.T) (h : Ht.Ok prog ⟨82, pH82_v1, qH82_v1, rec⟩) : LoopS prog 220 none 2 := mkLoop mixed (cxH82_v1 rec) (cxH82_v1_ok rec h) [0, 1] rfl pH82_v1_3 xH82_v1_3 rfl (bH82_v1_3 rec h) (fun x => gH82_v1_3 rec x.1 x.2.1 x.2.2.1 x.2.2.2.1) (sH82_v1_3 rec h)
@[reducible] def pH82_v1_4 : Pat := Pat.mk [(0, .c (.sl0 0 (.prod (.int .i64) (.int .i64)))), (1, hzI), (2, hzI), (3, hzI), (4, .fn 75 [] [.ptr 1 0]), (18, hzI), (19, hzI), (20, hzI), (21, hzI), (22, hzI)] [(0, .arr (.prod (.int .i64) (.int .i64)) false), (1, .cells [.fn0 59] false)] [] []
@[reducible] def xH82_v1_4 : Outs := [(.exit 8, Pat.mk [(0, .c (.sl0 0 (.prod (.int .i64) (.int .i64)))), (1, hzI), (2, hzI), (3, hzI), (4, .fn 75 [] [.ptr 1 0]), (18, hzI), (19, hzI), (20, hzI)] [(0, .arr (.prod (.int .i64) (.int .i64)) false), (1, .cells [.fn0 59] false)] [] [])]
noncomputable def bH82_v1_4 (rec : pH82_v1.T → Option qH82_v1.T) (h : Ht.Ok prog ⟨82, pH82_v1, qH82_v1, rec⟩) : D prog 220 none 2 := (.seq (.seq (.reg [om 149 20, om 150 21, oo 151 (.bin .lss (.t 149) (.t 150))]) (.cond ( .t 151) .skip (.exit 8))) (.block 9 (.seq (.reg [om 152 20, om 153 21, oo 154 (.bin .add (.t 152) (.t 153)), oo 155 (.conv .u64 (.t 154)), oo 156 (.bin .shr (.t 155) (.c (.int .u64 (Int.ofNat 1)))), oo 157 (.conv .i64 (.t 156)), om 23 157]) (.seq (.draw [[], [], [], [], [2, 3], [1, 2, 3, 4], [1, 2, 3, 4, 5], [], [], [7, 8], [7, 8, 9], [0, 1, 2, 3, 4, 5, 6, 7, 8, 9, 10], [0, 1, 2, 3, 4, 5, 6, 7, 8, 9, 10, 11], [0, 1, 2, 3, 4, 5, 6, 7, 8, 9, 10, 11, 12]] [om 158 4, om 159 0, om 160 22, om 161 23, oo 162 (.bin .sub (.t 160) (.t 161)), oo 163 (.idx 2 (.t 159) (.t 162)), oo 164 (.load true 2 (.t 163)), om 165 0, om 166 23, oo 167 (.idx 2 (.t 165) (.t 166)), oo 168 (.load true 2 (.t 167)), .call (some 169) none (.t 158) [.t 164, .t 168] [some (.prod (.int .i64) (.int .i64)), some (.prod (.int .i64) (.int .i64))], oo 170 (.bin .lss (.t 169) (ki 0)), oo 171 (.not (.t 170))]) (.cond ( .t 171) (.reg [om 172 23, oo 173 (.bin .add (.t 172) (ki 1)), om 20 173]) (.reg [om 174 23, om 21 174]))))))
noncomputable def gH82_v1_4 (rec : pH82_v1.T → Option qH82_v1.T) (nv0 : Nat) (v1 : Int) (v2 : Int) (v3 : Int) (v18 : Int) (v19 : Int) (v20 : Int) (v21 : Int) (v22 : Int) (b0 : List (Int × Int)) : Option ((Nat × Int × Int × Int × Int × Int × Int × Int × Int × (List (Int × Int)) × Unit) ⊕ ((Nat × Int × Int × Int × Int × Int × Int × (List (Int × Int)) × Unit))) :=
 brO (decide (v20 < v21)) (
 need (rng .i64 (v20 + v21)) (
 need (rng .u64 (v20 + v21)) (
 need (inb (1 : Int) (64 : Int)) (
 need (rng .i64 (ar0.shr (v20 + v21) (1 : Int))) (
 need (rng .i64 (v22 - (ar0.shr (v20 + v21) (1 : Int)))) (
 need (inb (v22 - (ar0.shr (v20 + v21) (1 : Int))) ((nv0 : Nat) : Int)) (
 need (decide (((0 : Nat) + (Int.toNat (v22 - (ar0.shr (v20 + v21) (1 : Int))))) < (b0).length)) (
 need (inb (ar0.shr (v20 + v21) (1 : Int)) ((nv0 : Nat) : Int)) (
 need (decide (((0 : Nat) + (Int.toNat (ar0.shr (v20 + v21) (1 : Int)))) < (b0).length)) (
 bindO (F75 (((b0).getD ((0 : Nat) + (Int.toNat (v22 - (ar0.shr (v20 + v21) (1 : Int))))) ((0 : Int), (0 : Int))).1, ((b0).getD ((0 : Nat) + (Int.toNat (v22 - (ar0.shr (v20 + v21) (1 : Int))))) ((0 : Int), (0 : Int))).2) (((b0).getD ((0 : Nat) + (Int.toNat (ar0.shr (v20 + v21) (1 : Int)))) ((0 : Int), (0 : Int))).1, ((b0).getD ((0 : Nat) + (Int.toNat (ar0.shr (v20 + v21) (1 : Int)))) ((0 : Int), (0 : Int))).2)) fun y6 =>
 brO (!(decide (y6.1 < (0 : Int)))) (
 need (rng .i64 ((ar0.shr (v20 + v21) (1 : Int)) + (1 : Int))) (
 some (.inl (nv0, (v1, (v2, (v3, (v18, (v19, (((ar0.shr (v20 + v21) (1 : Int)) + (1 : Int)), (v21, (v22, (b0, ()))))))))))))) (
 some (.inl (nv0, (v1, (v2, (v3, (v18, (v19, (v20, ((ar0.shr (v20 + v21) (1 : Int)), (v22, (b0, ())))))))))))))))))))))) (
 some (.inr (nv0, (v1, (v2, (v3, (v18, (v19, (v20, (b0, ()))))))))))
def CgH82_v1_4 (rec : pH82_v1.T → Option qH82_v1.T) (nv0 : Nat) (v1 : Int) (v2 : Int) (v3 : Int) (v18 : Int) (v19 : Int) (v20 : Int) (v21 : Int) (v22 : Int) (b0 : List (Int × Int)) : Option ((Nat × Int × Int × Int × Int × Int × Int × Int × Int × (List (Int × Int)) × Unit) ⊕ ((Nat × Int × Int × Int × Int × Int × Int × (List (Int × Int)) × Unit))) :=
 brC (decide (v20 < v21)) (
 needC (rng .i64 (v20 + v21)) (
 needC (rng .u64 (v20 + v21)) (
 needC (inb (1 : Int) (64 : Int)) (
 needC (rng .i64 (ar0.shr (v20 + v21) (1 : Int))) (
 needC (rng .i64 (v22 - (ar0.shr (v20 + v21) (1 : Int)))) (
 needC (inb (v22 - (ar0.shr (v20 + v21) (1 : Int))) ((nv0 : Nat) : Int)) (
 needC (decide (((0 : Nat) + (Int.toNat (v22 - (ar0.shr (v20 + v21) (1 : Int))))) < (b0).length)) (
 needC (inb (ar0.shr (v20 + v21) (1 : Int)) ((nv0 : Nat) : Int)) (
 needC (decide (((0 : Nat) + (Int.toNat (ar0.shr (v20 + v21) (1 : Int)))) < (b0).length)) (
 bindC (CF75 (((b0).getD ((0 : Nat) + (Int.toNat (v22 - (ar0.shr (v20 + v21) (1 : Int))))) ((0 : Int), (0 : Int))).1, ((b0).getD ((0 : Nat) + (Int.toNat (v22 - (ar0.shr (v20 + v21) (1 : Int))))) ((0 : Int), (0 : Int))).2) (((b0).getD ((0 : Nat) + (Int.toNat (ar0.shr (v20 + v21) (1 : Int)))) ((0 : Int), (0 : Int))).1, ((b0).getD ((0 : Nat) + (Int.toNat (ar0.shr (v20 + v21) (1 : Int)))) ((0 : Int), (0 : Int))).2)) fun y6 =>
 brC (!(decide (y6.1 < (0 : Int)))) (
 needC (rng .i64 ((ar0.shr (v20 + v21) (1 : Int)) + (1 : Int))) (
 some (.inl (nv0, (v1, (v2, (v3, (v18, (v19, (((ar0.shr (v20 + v21) (1 : Int)) + (1 : Int)), (v21, (v22, (b0, ()))))))))))))) (
 some (.inl (nv0, (v1, (v2, (v3, (v18, (v19, (v20, ((ar0.shr (v20 + v21) (1 : Int)), (v22, (b0, ())))))))))))))))))))))) (
 some (.inr (nv0, (v1, (v2, (v3, (v18, (v19, (v20, (b0, ()))))))))))
theorem CgH82_v1_4_le' {rec rec' : pH82_v1.T → Option qH82_v1.T} (hr : ∀ x, Le (rec x) (rec' x)) (nv0 : Nat) (v1 : Int) (v2 : Int) (v3 : Int) (v18 : Int) (v19 : Int) (v20 : Int) (v21 : Int) (v22 : Int) (b0 : List (Int × Int)) : Le (CgH82_v1_4 rec nv0 v1 v2 v3 v18 v19 v20 v21 v22 b0) (gH82_v1_4 rec' nv0 v1 v2 v3 v18 v19 v20 v21 v22 b0) := (Le.br (Le.nd (Le.nd (Le.nd (Le.nd (Le.nd (Le.nd (Le.nd (Le.nd (Le.nd (Le.bd (CF75_le ..) fun y6 => (Le.br (Le.nd Le.r) Le.r))))))))))) Le.r)
theorem sH82_v1_4 (rec : pH82_v1.T → Option qH82_v1.T) (h : Ht.Ok prog ⟨82, pH82_v1, qH82_v1, rec⟩) : ∀ x, roundE (kzO (pH82_v1_4.T ⊕ xH82_v1_4.T)) (cxH82_v1 rec) ar0 [0, 1] pH82_v1_4 xH82_v1_4 (bH82_v1_4 rec h) (fun y => some (.inl y)) (fun b => some (.inr b)) x = gH82_v1_4 rec x.1 x.2.1 x.2.2.1 x.2.2.2.1 x.2.2.2.2.1 x.2.2.2.2.2.1 x.2.2.2.2.2.2.1 x.2.2.2.2.2.2.2.1 x.2.2.2.2.2.2.2.2.1 x.2.2.2.2.2.2.2.2.2.1 := by intro x; kernel_rfl
noncomputable def LH82_v1_4 (rec : pH82_v1.T → Option qH82_v1.T) (h : Ht.Ok prog ⟨82, pH82_v1, qH82_v1, rec⟩) : LoopS prog 220 none 2 := mkLoop mixed (cxH82_v1 rec) (cxH82_v1_ok rec h) [0, 1] rfl pH82_v1_4 xH82_v1_4 rfl (bH82_v1_4 rec h) (fun x => gH82_v1_4 rec x.1 x.2.1 x.2.2.1 x.2.2.2.1 x.2.2.2.2.1 x.2.2.2.2.2.1 x.2.2.2.2.2.2.1 x.2.2.2.2.2.2.2.1 x.2.2.2.2.2.2.2.2.1 x.2.2.2.2.2.2.2.2.2.1) (sH82_v1_4 rec h)
noncomputable def ddH82_v1 (rec : pH82_v1.T → Option qH82_v1.T) (h : Ht.Ok prog ⟨82, pH82_v1, qH82_v1, rec⟩) : D prog 220 none 2 := (.seq (.seq (.reg [om 25 2, om 26 1, oo 27 (.bin .sub (.t 25) (.t 26)), oo 28 (.bin .eql (.t 27) (ki 1))]) (.cond ( .t 28) (.seq (.reg [om 29 2, om 10 29]) (.seq (.reg [om 30 3, om 11 30]) (.seq (.block 0 (.loop (LH82_v1_0 rec h))) (.seq (.seq (.reg [om 54 1, om 13 54]) (.block 2 (.loop (LH82_v1_1 rec h)))) .ret)))) .skip)) (.seq (.seq (.reg [om 77 3, om 78 2, oo 79 (.bin .sub (.t 77) (.t 78)), oo 80 (.bin .eql (.t 79) (ki 1))]) (.cond ( .t 80) (.seq (.reg [om 81 1, om 14 81]) (.seq (.reg [om 82 2, om 15 82]) (.seq (.block 4 (.loop (LH82_v1_2 rec h))) (.seq (.seq (.reg [om 107 2, om 17 107]) (.block 6 (.loop (LH82_v1_3 rec h)))) .ret)))) .skip)) (.seq (.reg [om 129 1, om 130 3, oo 131 (.bin .add (.t 129) (.t 130)), oo 132 (.conv .u64 (.t 131)), oo 133 (.bin .shr (.t 132) (.c (.int .u64 (Int.ofNat 1)))), oo 134 (.conv .i64 (.t 133)), om 18 134]) (.seq (.reg [om 135 18, om 136 2, oo 137 (.bin .add (.t 135) (.t 136)), om 19 137]) (.seq (.reg [oo 20 (.mv (ki 0)), oo 21 (.mv (ki 0))]) (.seq (.seq (.reg [om 138 2, om 139 18, oo 140 (.bin .gtr (.t 138) (.t 139))]) (.cond ( .t 140) (.seq (.reg [om 141 19, om 142 3, oo 143 (.bin .sub (.t 141) (.t 142)), om 20 143]) (.reg [om 144 18, om 21 144])) (.seq (.reg [om 145 1, om 20 145]) (.reg [om 146 2, om 21 146])))) (.seq (.reg [om 147 19, oo 148 (.bin .sub (.t 147) (ki 1)), om 22 148]) (.seq (.block 8 (.loop (LH82_v1_4 rec h))) (.seq (.reg [om 175 19, om 176 20, oo 177 (.bin .sub (.t 175) (.t 176)), om 24 177]) (.seq (.seq (.reg [om 178 20, om 179 2, oo 180 (.bin .lss (.t 178) (.t 179)), om 181 180, og 182 181 true (.mv (.t 2)), og 183 181 true (.mv (.t 24)), og 184 181 true (.bin .lss (.t 182) (.t 183)), oo 185 (.pick (.t 181) (.t 184) (.c (.tf false)))]) (.cond ( .t 185) (.reg [om 186 0, om 187 20, om 188 2, om 189 24, om 190 4, .call (some 191) none (.c (.fn 83 [] [])) [.t 186, .t 187, .t 188, .t 189, .t 190] [some (.list (.prod (.int .i64) (.int .i64))), some (.int .i64), some (.int .i64), some (.int .i64), none]]) .skip)) (.seq (.seq (.reg [om 192 1, om 193 20, oo 194 (.bin .lss (.t 192) (.t 193)), om 195 194, og 196 195 true (.mv (.t 20)), og 197 195 true (.mv (.t 18)), og 198 195 true (.bin .lss (.t 196) (.t 197)), oo 199 (.pick (.t 195) (.t 198) (.c (.tf false)))]) (.cond ( .t 199) (.reg [om 200 0, om 201 1, om 202 20, om 203 18, om 204 4, .call (some 205) none (.c (.fn 82 [] [])) [.t 200, .t 201, .t 202, .t 203, .t 204] [some (.list (.prod (.int .i64) (.int .i64))), some (.int .i64), some (.int .i64), some (.int .i64), none]]) .skip)) (.seq (.reg [om 206 18, om 207 24, oo 208 (.bin .lss (.t 206) (.t 207)), om 209 208, og 210 209 true (.mv (.t 24)), og 211 209 true (.mv (.t 3)), og 212 209 true (.bin .lss (.t 210) (.t 211)), oo 213 (.pick (.t 209) (.t 212) (.c (.tf false)))]) (.cond ( .t 213) (.reg [om 214 0, om 215 18, om 216 24, om 217 3, om 218 4, .call (some 219) none (.c (.fn 82 [] [])) [.t 214, .t 215, .t 216, .t 217, .t 218] [some (.list (.prod (.int .i64) (.int .i64))), some (.int .i64), some (.int .i64), some (.int .i64), none]]) .skip)))))))))))))
noncomputable def FH82_v1 (rec : pH82_v1.T → Option qH82_v1.T) (nv0 : Nat) (v1 : Int) (v2 : Int) (v3 : Int) (b0 : List (Int × Int)) : Option ((List (Int × Int)) × Unit) :=
 need (rng .i64 (v2 - v1)) (
 brO ((v2 - v1) == (1 : Int)) (
 bindO (iter (fun x => gH82_v1_0 rec x.1 x.2.1 x.2.2.1 x.2.2.2.1 x.2.2.2.2.1) (nv0, (v1, (v2, (v3, (b0, ())))))) fun z1 =>
 bindO (iter (fun x => gH82_v1_1 rec x.1 x.2.1 x.2.2.1 x.2.2.2.1) (z1.1, (z1.2.2.1, (z1.2.1, (z1.2.2.2.1, ()))))) fun z2 =>
 some (z2.1, ())) (
 need (rng .i64 (v3 - v2)) (
 brO ((v3 - v2) == (1 : Int)) (
 bindO (iter (fun x => gH82_v1_2 rec x.1 x.2.1 x.2.2.1 x.2.2.2.1 x.2.2.2.2.1) (nv0, (v2, (v1, (v2, (b0, ())))))) fun z4 =>
 bindO (iter (fun x => gH82_v1_3 rec x.1 x.2.1 x.2.2.1 x.2.2.2.1) (z4.1, (z4.2.2.1, (z4.2.1, (z4.2.2.2.1, ()))))) fun z5 =>
 some (z5.1, ())) (
 need (rng .i64 (v1 + v3)) (
 need (rng .u64 (v1 + v3)) (
 need (inb (1 : Int) (64 : Int)) (
 need (rng .i64 (ar0.shr (v1 + v3) (1 : Int))) (
 need (rng .i64 ((ar0.shr (v1 + v3) (1 : Int)) + v2)) (
 brO (decide ((ar0.shr (v1 + v3) (1 : Int)) < v2)) (
 need (rng .i64 (((ar0.shr (v1 + v3) (1 : Int)) + v2) - v3)) (
 need (rng .i64 (((ar0.shr (v1 + v3) (1 : Int)) + v2) - (1 : Int))) (
 bindO (iter (fun x => gH82_v1_4 rec x.1 x.2.1 x.2.2.1 x.2.2.2.1 x.2.2.2.2.1 x.2.2.2.2.2.1 x.2.2.2.2.2.2.1 x.2.2.2.2.2.2.2.1 x.2.2.2.2.2.2.2.2.1 x.2.2.2.2.2.2.2.2.2.1) (nv0, (v1, (v2, (v3, ((ar0.shr (v1 + v3) (1 : Int)), (((ar0.shr (v1 + v3) (1 : Int)) + v2), ((((ar0.shr (v1 + v3) (1 : Int)) + v2) - v3), ((ar0.shr (v1 + v3) (1 : Int)), ((((ar0.shr (v1 + v3) (1 : Int)) + v2) - (1 : Int)), (b0, ()))))))))))) fun z7 =>
 need (rng .i64 (z7.2.2.2.2.2.1 - z7.2.2.2.2.2.2.1)) (
 brO (decide (z7.2.2.2.2.2.2.1 < z7.2.2.1)) (
 brO (decide (z7.2.2.1 < (z7.2.2.2.2.2.1 - z7.2.2.2.2.2.2.1))) (
 bindO (FH83_v1 z7.1 z7.2.2.2.2.2.2.1 z7.2.2.1 (z7.2.2.2.2.2.1 - z7.2.2.2.2.2.2.1) z7.2.2.2.2.2.2.2.1) fun y8 =>
 brO (decide (z7.2.1 < z7.2.2.2.2.2.2.1)) (
 brO (decide (z7.2.2.2.2.2.2.1 < z7.2.2.2.2.1)) (
 bindO (rec (z7.1, (z7.2.1, (z7.2.2.2.2.2.2.1, (z7.2.2.2.2.1, (y8.1, ())))))) fun y9 =>
 brO (decide (z7.2.2.2.2.1 < (z7.2.2.2.2.2.1 - z7.2.2.2.2.2.2.1))) (
 brO (decide ((z7.2.2.2.2.2.1 - z7.2.2.2.2.2.2.1) < z7.2.2.2.1)) (
 bindO (rec (z7.1, (z7.2.2.2.2.1, ((z7.2.2.2.2.2.1 - z7.2.2.2.2.2.2.1), (z7.2.2.2.1, (y9.1, ())))))) fun y10 =>
 some (y10.1, ())) (
 some (y9.1, ()))) (
 some (y9.1, ()))) (
 brO (decide (z7.2.2.2.2.1 < (z7.2.2.2.2.2.1 - z7.2.2.2.2.2.2.1))) (
 brO (decide ((z7.2.2.2.2.2.1 - z7.2.2.2.2.2.2.1) < z7.2.2.2.1)) (
 bindO (rec (z7.1, (z7.2.2.2.2.1, ((z7.2.2.2.2.2.1 - z7.2.2.2.2.2.2.1), (z7.2.2.2.1, (y8.1, ())))))) fun y11 =>
 some (y11.1, ())) (
 some (y8.1, ()))) (
 some (y8.1, ())))) (
 brO (decide (z7.2.2.2.2.1 < (z7.2.2.2.2.2.1 - z7.2.2.2.2.2.2.1))) (
 brO (decide ((z7.2.2.2.2.2.1 - z7.2.2.2.2.2.2.1) < z7.2.2.2.1)) (
 bindO (rec (z7.1, (z7.2.2.2.2.1, ((z7.2.2.2.2.2.1 - z7.2.2.2.2.2.2.1), (z7.2.2.2.1, (y8.1, ())))))) fun y12 =>
 some (y12.1, ())) (
 some (y8.1, ()))) (
 some (y8.1, ())))) (
 brO (decide (z7.2.1 < z7.2.2.2.2.2.2.1)) (
 brO (decide (z7.2.2.2.2.2.2.1 < z7.2.2.2.2.1)) (
 bindO (rec (z7.1, (z7.2.1, (z7.2.2.2.2.2.2.1, (z7.2.2.2.2.1, (z7.2.2.2.2.2.2.2.1, ())))))) fun y13 =>
 brO (decide (z7.2.2.2.2.1 < (z7.2.2.2.2.2.1 - z7.2.2.2.2.2.2.1))) (
 brO (decide ((z7.2.2.2.2.2.1 - z7.2.2.2.2.2.2.1) < z7.2.2.2.1)) (
 bindO (rec (z7.1, (z7.2.2.2.2.1, ((z7.2.2.2.2.2.1 - z7.2.2.2.2.2.2.1), (z7.2.2.2.1, (y13.1, ())))))) fun y14 =>
 some (y14.1, ())) (
 some (y13.1, ()))) (
 some (y13.1, ()))) (
 brO (decide (z7.2.2.2.2.1 < (z7.2.2.2.2.2.1 - z7.2.2.2.2.2.2.1))) (
 brO (decide ((z7.2.2.2.2.2.1 - z7.2.2.2.2.2.2.1) < z7.2.2.2.1)) (
 bindO (rec (z7.1, (z7.2.2.2.2.1, ((z7.2.2.2.2.2.1 - z7.2.2.2.2.2.2.1), (z7.2.2.2.1, (z7.2.2.2.2.2.2.2.1, ())))))) fun y15 =>
 some (y15.1, ())) (
 some (z7.2.2.2.2.2.2.2.1, ()))) (
 some (z7.2.2.2.2.2.2.2.1, ())))) (
 brO (decide (z7.2.2.2.2.1 < (z7.2.2.2.2.2.1 - z7.2.2.2.2.2.2.1))) (
 brO (decide ((z7.2.2.2.2.2.1 - z7.2.2.2.2.2.2.1) < z7.2.2.2.1)) (
 bindO (rec (z7.1, (z7.2.2.2.2.1, ((z7.2.2.2.2.2.1 - z7.2.2.2.2.2.2.1), (z7.2.2.2.1, (z7.2.2.2.2.2.2.2.1, ())))))) fun y16 =>
 some (y16.1, ())) (
 some (z7.2.2.2.2.2.2.2.1, ()))) (
 some (z7.2.2.2.2.2.2.2.1, ()))))) (
 brO (decide (z7.2.1 < z7.2.2.2.2.2.2.1)) (
 brO (decide (z7.2.2.2.2.2.2.1 < z7.2.2.2.2.1)) (
 bindO (rec (z7.1, (z7.2.1, (z7.2.2.2.2.2.2.1, (z7.2.2.2.2.1, (z7.2.2.2.2.2.2.2.1, ())))))) fun y17 =>
 brO (decide (z7.2.2.2.2.1 < (z7.2.2.2.2.2.1 - z7.2.2.2.2.2.2.1))) (
 brO (decide ((z7.2.2.2.2.2.1 - z7.2.2.2.2.2.2.1) < z7.2.2.2.1)) (
 bindO (rec (z7.1, (z7.2.2.2.2.1, ((z7.2.2.2.2.2.1 - z7.2.2.2.2.2.2.1), (z7.2.2.2.1, (y17.1, ())))))) fun y18 =>
 some (y18.1, ())) (
 some (y17.1, ()))) (
 some (y17.1, ()))) (
 brO (decide (z7.2.2.2.2.1 < (z7.2.2.2.2.2.1 - z7.2.2.2.2.2.2.1))) (
 brO (decide ((z7.2.2.2.2.2.1 - z7.2.2.2.2.2.2.1) < z7.2.2.2.1)) (
 bindO (rec (z7.1, (z7.2.2.2.2.1, ((z7.2.2.2.2.2.1 - z7.2.2.2.2.2.2.1), (z7.2.2.2.1, (z7.2.2.2.2.2.2.2.1, ())))))) fun y19 =>
 some (y19.1, ())) (
 some (z7.2.2.2.2.2.2.2.1, ()))) (
 some (z7.2.2.2.2.2.2.2.1, ())))) (
 brO (decide (z7.2.2.2.2.1 < (z7.2.2.2.2.2.1 - z7.2.2.2.2.2.2.1))) (
 brO (decide ((z7.2.2.2.2.2.1 - z7.2.2.2.2.2.2.1) < z7.2.2.2.1)) (
 bindO (rec (z7.1, (z7.2.2.2.2.1, ((z7.2.2.2.2.2.1 - z7.2.2.2.2.2.2.1), (z7.2.2.2.1, (z7.2.2.2.2.2.2.2.1, ())))))) fun y20 =>
 some (y20.1, ())) (
 some (z7.2.2.2.2.2.2.2.1, ()))) (
 some (z7.2.2.2.2.2.2.2.1, ())))))))) (
 need (rng .i64 (((ar0.shr (v1 + v3) (1 : Int)) + v2) - (1 : Int))) (
 bindO (iter (fun x => gH82_v1_4 rec x.1 x.2.1 x.2.2.1 x.2.2.2.1 x.2.2.2.2.1 x.2.2.2.2.2.1 x.2.2.2.2.2.2.1 x.2.2.2.2.2.2.2.1 x.2.2.2.2.2.2.2.2.1 x.2.2.2.2.2.2.2.2.2.1) (nv0, (v1, (v2, (v3, ((ar0.shr (v1 + v3) (1 : Int)), (((ar0.shr (v1 + v3) (1 : Int)) + v2), (v1, (v2, ((((ar0.shr (v1 + v3) (1 : Int)) + v2) - (1 : Int)), (b0, ()))))))))))) fun z21 =>
 need (rng .i64 (z21.2.2.2.2.2.1 - z21.2.2.2.2.2.2.1)) (
 brO (decide (z21.2.2.2.2.2.2.1 < z21.2.2.1)) (
 brO (decide (z21.2.2.1 < (z21.2.2.2.2.2.1 - z21.2.2.2.2.2.2.1))) (
 bindO (FH83_v1 z21.1 z21.2.2.2.2.2.2.1 z21.2.2.1 (z21.2.2.2.2.2.1 - z21.2.2.2.2.2.2.1) z21.2.2.2.2.2.2.2.1) fun y22 =>
 brO (decide (z21.2.1 < z21.2.2.2.2.2.2.1)) (
 brO (decide (z21.2.2.2.2.2.2.1 < z21.2.2.2.2.1)) (
 bindO (rec (z21.1, (z21.2.1, (z21.2.2.2.2.2.2.1, (z21.2.2.2.2.1, (y22.1, ())))))) fun y23 =>
 brO (decide (z21.2.2.2.2.1 < (z21.2.2.2.2.2.1 - z21.2.2.2.2.2.2.1))) (
 brO (decide ((z21.2.2.2.2.2.1 - z21.2.2.2.2.2.2.1) < z21.2.2.2.1)) (
 bindO (rec (z21.1, (z21.2.2.2.2.1, ((z21.2.2.2.2.2.1 - z21.2.2.2.2.2.2.1), (z21.2.2.2.1, (y23.1, ())))))) fun y24 =>
 some (y24.1, ())) (
 some (y23.1, ()))) (
 some (y23.1, ()))) (
 brO (decide (z21.2.2.2.2.1 < (z21.2.2.2.2.2.1 - z21.2.2.2.2.2.2.1))) (
 brO (decide ((z21.2.2.2.2.2.1 - z21.2.2.2.2.2.2.1) < z21.2.2.2.1)) (
 bindO (rec (z21.1, (z21.2.2.2.2.1, ((z21.2.2.2.2.2.1 - z21.2.2.2.2.2.2.1), (z21.2.2.2.1, (y22.1, ())))))) fun y25 =>
 some (y25.1, ())) (
 some (y22.1, ()))) (
 some (y22.1, ())))) (
 brO (decide (z21.2.2.2.2.1 < (z21.2.2.2.2.2.1 - z21.2.2.2.2.2.2.1))) (
 brO (decide ((z21.2.2.2.2.2.1 - z21.2.2.2.2.2.2.1) < z21.2.2.2.1)) (
 bindO (rec (z21.1, (z21.2.2.2.2.1, ((z21.2.2.2.2.2.1 - z21.2.2.2.2.2.2.1), (z21.2.2.2.1, (y22.1, ())))))) fun y26 =>
 some (y26.1, ())) (
 some (y22.1, ()))) (
 some (y22.1, ())))) (
 brO (decide (z21.2.1 < z21.2.2.2.2.2.2.1)) (
 brO (decide (z21.2.2.2.2.2.2.1 < z21.2.2.2.2.1)) (
 bindO (rec (z21.1, (z21.2.1, (z21.2.2.2.2.2.2.1, (z21.2.2.2.2.1, (z21.2.2.2.2.2.2.2.1, ())))))) fun y27 =>
 brO (decide (z21.2.2.2.2.1 < (z21.2.2.2.2.2.1 - z21.2.2.2.2.2.2.1))) (
 brO (decide ((z21.2.2.2.2.2.1 - z21.2.2.2.2.2.2.1) < z21.2.2.2.1)) (
 bindO (rec (z21.1, (z21.2.2.2.2.1, ((z21.2.2.2.2.2.1 - z21.2.2.2.2.2.2.1), (z21.2.2.2.1, (y27.1, ())))))) fun y28 =>
 some (y28.1, ())) (
 some (y27.1, ()))) (
 some (y27.1, ()))) (
 brO (decide (z21.2.2.2.2.1 < (z21.2.2.2.2.2.1 - z21.2.2.2.2.2.2.1))) (
 brO (decide ((z21.2.2.2.2.2.1 - z21.2.2.2.2.2.2.1) < z21.2.2.2.1)) (
 bindO (rec (z21.1, (z21.2.2.2.2.1, ((z21.2.2.2.2.2.1 - z21.2.2.2.2.2.2.1), (z21.2.2.2.1, (z21.2.2.2.2.2.2.2.1, ())))))) fun y29 =>
 some (y29.1, ())) (
 some (z21.2.2.2.2.2.2.2.1, ()))) (
 some (z21.2.2.2.2.2.2.2.1, ())))) (
 brO (decide (z21.2.2.2.2.1 < (z21.2.2.2.2.2.1 - z21.2.2.2.2.2.2.1))) (
 brO (decide ((z21.2.2.2.2.2.1 - z21.2.2.2.2.2.2.1) < z21.2.2.2.1)) (
 bindO (rec (z21.1, (z21.2.2.2.2.1, ((z21.2.2.2.2.2.1 - z21.2.2.2.2.2.2.1), (z21.2.2.2.1, (z21.2.2.2.2.2.2.2.1, ())))))) fun y30 =>
 some (y30.1, ())) (
 some (z21.2.2.2.2.2.2.2.1, ()))) (
 some (z21.2.2.2.2.2.2.2.1, ()))))) (
 brO (decide (z21.2.1 < z21.2.2.2.2.2.2.1)) (
 brO (decide (z21.2.2.2.2.2.2.1 < z21.2.2.2.2.1)) (
 bindO (rec (z21.1, (z21.2.1, (z21.2.2.2.2.2.2.1, (z21.2.2.2.2.1, (z21.2.2.2.2.2.2.2.1, ())))))) fun y31 =>
 brO (decide (z21.2.2.2.2.1 < (z21.2.2.2.2.2.1 - z21.2.2.2.2.2.2.1))) (
 brO (decide ((z21.2.2.2.2.2.1 - z21.2.2.2.2.2.2.1) < z21.2.2.2.1)) (
 bindO (rec (z21.1, (z21.2.2.2.2.1, ((z21.2.2.2.2.2.1 - z21.2.2.2.2.2.2.1), (z21.2.2.2.1, (y31.1, ())))))) fun y32 =>
 some (y32.1, ())) (
 some (y31.1, ()))) (
 some (y31.1, ()))) (
 brO (decide (z21.2.2.2.2.1 < (z21.2.2.2.2.2.1 - z21.2.2.2.2.2.2.1))) (
 brO (decide ((z21.2.2.2.2.2.1 - z21.2.2.2.2.2.2.1) < z21.2.2.2.1)) (
 bindO (rec (z21.1, (z21.2.2.2.2.1, ((z21.2.2.2.2.2.1 - z21.2.2.2.2.2.2.1), (z21.2.2.2.1, (z21.2.2.2.2.2.2.2.1, ())))))) fun y33 =>
 some (y33.1, ())) (
 some (z21.2.2.2.2.2.2.2.1, ()))) (
 some (z21.2.2.2.2.2.2.2.1, ())))) (
 brO (decide (z21.2.2.2.2.1 < (z21.2.2.2.2.2.1 - z21.2.2.2.2.2.2.1))) (
 brO (decide ((z21.2.2.2.2.2.1 - z21.2.2.2.2.2.2.1) < z21.2.2.2.1)) (
 bindO (rec (z21.1, (z21.2.2.2.2.1, ((z21.2.2.2.2.2.1 - z21.2.2.2.2.2.2.1), (z21.2.2.2.1, (z21.2.2.2.2.2.2.2.1, ())))))) fun y34 =>
 some (y34.1, ())) (
 some (z21.2.2.2.2.2.2.2.1, ()))) (
 some (z21.2.2.2.2.2.2.2.1, ()))))))))))))))))
def CFH82_v1 (rec : pH82_v1.T → Option qH82_v1.T) (nv0 : Nat) (v1 : Int) (v2 : Int) (v3 : Int) (b0 : List (Int × Int)) : Option ((List (Int × Int)) × Unit) :=
 needC (rng .i64 (v2 - v1)) (
 brC ((v2 - v1) == (1 : Int)) (
 bindC (iterF (fun x => CgH82_v1_0 rec x.1 x.2.1 x.2.2.1 x.2.2.2.1 x.2.2.2.2.1) 1000000 (nv0, (v1, (v2, (v3, (b0, ())))))) fun z1 =>
 bindC (iterF (fun x => CgH82_v1_1 rec x.1 x.2.1 x.2.2.1 x.2.2.2.1) 1000000 (z1.1, (z1.2.2.1, (z1.2.1, (z1.2.2.2.1, ()))))) fun z2 =>
 some (z2.1, ())) (
 needC (rng .i64 (v3 - v2)) (
 brC ((v3 - v2) == (1 : Int)) (
 bindC (iterF (fun x => CgH82_v1_2 rec x.1 x.2.1 x.2.2.1 x.2.2.2.1 x.2.2.2.2.1) 1000000 (nv0, (v2, (v1, (v2, (b0, ())))))) fun z4 =>
 bindC (iterF (fun x => CgH82_v1_3 rec x.1 x.2.1 x.2.2.1 x.2.2.2.1) 1000000 (z4.1, (z4.2.2.1, (z4.2.1, (z4.2.2.2.1, ()))))) fun z5 =>
 some (z5.1, ())) (
 needC (rng .i64 (v1 + v3)) (
 needC (rng .u64 (v1 + v3)) (
 needC (inb (1 : Int) (64 : Int)) (
 needC (rng .i64 (ar0.shr (v1 + v3) (1 : Int))) (
 needC (rng .i64 ((ar0.shr (v1 + v3) (1 : Int)) + v2)) (
 brC (decide ((ar0.shr (v1 + v3) (1 : Int)) < v2)) (
 needC (rng .i64 (((ar0.shr (v1 + v3) (1 : Int)) + v2) - v3)) (
 needC (rng .i64 (((ar0.shr (v1 + v3) (1 : Int)) + v2) - (1 : Int))) (
 bindC (iterF (fun x => CgH82_v1_4 rec x.1 x.2.1 x.2.2.1 x.2.2.2.1 x.2.2.2.2.1 x.2.2.2.2.2.1 x.2.2.2.2.2.2.1 x.2.2.2.2.2.2.2.1 x.2.2.2.2.2.2.2.2.1 x.2.2.2.2.2.2.2.2.2.1) 1000000 (nv0, (v1, (v2, (v3, ((ar0.shr (v1 + v3) (1 : Int)), (((ar0.shr (v1 + v3) (1 : Int)) + v2), ((((ar0.shr (v1 + v3) (1 : Int)) + v2) - v3), ((ar0.shr (v1 + v3) (1 : Int)), ((((ar0.shr (v1 + v3) (1 : Int)) + v2) - (1 : Int)), (b0, ()))))))))))) fun z7 =>
 needC (rng .i64 (z7.2.2.2.2.2.1 - z7.2.2.2.2.2.2.1)) (
 brC (decide (z7.2.2.2.2.2.2.1 < z7.2.2.1)) (
 brC (decide (z7.2.2.1 < (z7.2.2.2.2.2.1 - z7.2.2.2.2.2.2.1))) (
 bindC (CFH83_v1 z7.1 z7.2.2.2.2.2.2.1 z7.2.2.1 (z7.2.2.2.2.2.1 - z7.2.2.2.2.2.2.1) z7.2.2.2.2.2.2.2.1) fun y8 =>
 brC (decide (z7.2.1 < z7.2.2.2.2.2.2.1)) (
 brC (decide (z7.2.2.2.2.2.2.1 < z7.2.2.2.2.1)) (
 bindC (rec (z7.1, (z7.2.1, (z7.2.2.2.2.2.2.1, (z7.2.2.2.2.1, (y8.1, ())))))) fun y9 =>
 brC (decide (z7.2.2.2.2.1 < (z7.2.2.2.2.2.1 - z7.2.2.2.2.2.2.1))) (
 brC (decide ((z7.2.2.2.2.2.1 - z7.2.2.2.2.2.2.1) < z7.2.2.2.1)) (
 bindC (rec (z7.1, (z7.2.2.2.2.1, ((z7.2.2.2.2.2.1 - z7.2.2.2.2.2.2.1), (z7.2.2.2.1, (y9.1, ())))))) fun y10 =>
 some (y10.1, ())) (
 some (y9.1, ()))) (
 some (y9.1, ()))) (
 brC (decide (z7.2.2.2.2.1 < (z7.2.2.2.2.2.1 - z7.2.2.2.2.2.2.1))) (
 brC (decide ((z7.2.2.2.2.2.1 - z7.2.2.2.2.2.2.1) < z7.2.2.2.1)) (
 bindC (rec (z7.1, (z7.2.2.2.2.1, ((z7.2.2.2.2.2.1 - z7.2.2.2.2.2.2.1), (z7.2.2.2.1, (y8.1, ())))))) fun y11 =>
 some (y11.1, ())) (
 some (y8.1, ()))) (
 some (y8.1, ())))) (
 brC (decide (z7.2.2.2.2.1 < (z7.2.2.2.2.2.1 - z7.2.2.2.2.2.2.1))) (
 brC (decide ((z7.2.2.2.2.2.1 - z7.2.2.2.2.2.2.1) < z7.2.2.2.1)) (
 bindC (rec (z7.1, (z7.2.2.2.2.1, ((z7.2.2.2.2.2.1 - z7.2.2.2.2.2.2.1), (z7.2.2.2.1, (y8.1, ())))))) fun y12 =>
 some (y12.1, ())) (
 some (y8.1, ()))) (
 some (y8.1, ())))) (
 brC (decide (z7.2.1 < z7.2.2.2.2.2.2.1)) (
 brC (decide (z7.2.2.2.2.2.2.1 < z7.2.2.2.2.1)) (
 bindC (rec (z7.1, (z7.2.1, (z7.2.2.2.2.2.2.1, (z7.2.2.2.2.1, (z7.2.2.2.2.2.2.2.1, ())))))) fun y13 =>
 brC (decide (z7.2.2.2.2.1 < (z7.2.2.2.2.2.1 - z7.2.2.2.2.2.2.1))) (
 brC (decide ((z7.2.2.2.2.2.1 - z7.2.2.2.2.2.2.1) < z7.2.2.2.1)) (
 bindC (rec (z7.1, (z7.2.2.2.2.1, ((z7.2.2.2.2.2.1 - z7.2.2.2.2.2.2.1), (z7.2.2.2.1, (y13.1, ())))))) fun y14 =>
 some (y14.1, ())) (
 some (y13.1, ()))) (
 some (y13.1, ()))) (
 brC (decide (z7.2.2.2.2.1 < (z7.2.2.2.2.2.1 - z7.2.2.2.2.2.2.1))) (
 brC (decide ((z7.2.2.2.2.2.1 - z7.2.2.2.2.2.2.1) < z7.2.2.2.1)) (
 bindC (rec (z7.1, (z7.2.2.2.2.1, ((z7.2.2.2.2.2.1 - z7.2.2.2.2.2.2.1), (z7.2.2.2.1, (z7.2.2.2.2.2.2.2.1, ())))))) fun y15 =>
 some (y15.1, ())) (
 some (z7.2.2.2.2.2.2.2.1, ()))) (
 some (z7.2.2.2.2.2.2.2.1, ())))) (
 brC (decide (z7.2.2.2.2.1 < (z7.2.2.2.2.2.1 - z7.2.2.2.2.2.2.1))) (
 brC (decide ((z7.2.2.2.2.2.1 - z7.2.2.2.2.2.2.1) < z7.2.2.2.1)) (
 bindC (rec (z7.1, (z7.2.2.2.2.1, ((z7.2.2.2.2.2.1 - z7.2.2.2.2.2.2.1), (z7.2.2.2.1, (z7.2.2.2.2.2.2.2.1, ())))))) fun y16 =>
 some (y16.1, ())) (
 some (z7.2.2.2.2.2.2.2.1, ()))) (
 some (z7.2.2.2.2.2.2.2.1, ()))))) (
 brC (decide (z7.2.1 < z7.2.2.2.2.2.2.1)) (
 brC (decide (z7.2.2.2.2.2.2.1 < z7.2.2.2.2.1)) (
 bindC (rec (z7.1, (z7.2.1, (z7.2.2.2.2.2.2.1, (z7.2.2.2.2.1, (z7.2.2.2.2.2.2.2.1, ())))))) fun y17 =>
 brC (decide (z7.2.2.2.2.1 < (z7.2.2.2.2.2.1 - z7.2.2.2.2.2.2.1))) (
 brC (decide ((z7.2.2.2.2.2.1 - z7.2.2.2.2.2.2.1) < z7.2.2.2.1)) (
 bindC (rec (z7.1, (z7.2.2.2.2.1, ((z7.2.2.2.2.2.1 - z7.2.2.2.2.2.2.1), (z7.2.2.2.1, (y17.1, ())))))) fun y18 =>
 some (y18.1, ())) (
 some (y17.1, ()))) (
 some (y17.1, ()))) (
 brC (decide (z7.2.2.2.2.1 < (z7.2.2.2.2.2.1 - z7.2.2.2.2.2.2.1))) (
 brC (decide ((z7.2.2.2.2.2.1 - z7.2.2.2.2.2.2.1) < z7.2.2.2.1)) (
 bindC (rec (z7.1, (z7.2.2.2.2.1, ((z7.2.2.2.2.2.1 - z7.2.2.2.2.2.2.1), (z7.2.2.2.1, (z7.2.2.2.2.2.2.2.1, ())))))) fun y19 =>
 some (y19.1, ())) (
 some (z7.2.2.2.2.2.2.2.1, ()))) (
 some (z7.2.2.2.2.2.2.2.1, ())))) (
 brC (decide (z7.2.2.2.2.1 < (z7.2.2.2.2.2.1 - z7.2.2.2.2.2.2.1))) (
 brC (decide ((z7.2.2.2.2.2.1 - z7.2.2.2.2.2.2.1) < z7.2.2.2.1)) (
 bindC (rec (z7.1, (z7.2.2.2.2.1, ((z7.2.2.2.2.2.1 - z7.2.2.2.2.2.2.1), (z7.2.2.2.1, (z7.2.2.2.2.2.2.2.1, ())))))) fun y20 =>
 some (y20.1, ())) (
 some (z7.2.2.2.2.2.2.2.1, ()))) (
 some (z7.2.2.2.2.2.2.2.1, ())))))))) (
 needC (rng .i64 (((ar0.shr (v1 + v3) (1 : Int)) + v2) - (1 : Int))) (
 bindC (iterF (fun x => CgH82_v1_4 rec x.1 x.2.1 x.2.2.1 x.2.2.2.1 x.2.2.2.2.1 x.2.2.2.2.2.1 x.2.2.2.2.2.2.1 x.2.2.2.2.2.2.2.1 x.2.2.2.2.2.2.2.2.1 x.2.2.2.2.2.2.2.2.2.1) 1000000 (nv0, (v1, (v2, (v3, ((ar0.shr (v1 + v3) (1 : Int)), (((ar0.shr (v1 + v3) (1 : Int)) + v2), (v1, (v2, ((((ar0.shr (v1 + v3) (1 : Int)) + v2) - (1 : Int)), (b0, ()))))))))))) fun z21 =>
 needC (rng .i64 (z21.2.2.2.2.2.1 - z21.2.2.2.2.2.2.1)) (
 brC (decide (z21.2.2.2.2.2.2.1 < z21.2.2.1)) (
 brC (decide (z21.2.2.1 < (z21.2.2.2.2.2.1 - z21.2.2.2.2.2.2.1))) (
 bindC (CFH83_v1 z21.1 z21.2.2.2.2.2.2.1 z21.2.2.1 (z21.2.2.2.2.2.1 - z21.2.2.2.2.2.2.1) z21.2.2.2.2.2.2.2.1) fun y22 =>
 brC (decide (z21.2.1 < z21.2.2.2.2.2.2.1)) (
 brC (decide (z21.2.2.2.2.2.2.1 < z21.2.2.2.2.1)) (
 bindC (rec (z21.1, (z21.2.1, (z21.2.2.2.2.2.2.1, (z21.2.2.2.2.1, (y22.1, ())))))) fun y23 =>
 brC (decide (z21.2.2.2.2.1 < (z21.2.2.2.2.2.1 - z21.2.2.2.2.2.2.1))) (
 brC (decide ((z21.2.2.2.2.2.1 - z21.2.2.2.2.2.2.1) < z21.2.2.2.1)) (
 bindC (rec (z21.1, (z21.2.2.2.2.1, ((z21.2.2.2.2.2.1 - z21.2.2.2.2.2.2.1), (z21.2.2.2.1, (y23.1, ())))))) fun y24 =>
 some (y24.1, ())) (
 some (y23.1, ()))) (
 some (y23.1, ()))) (
 brC (decide (z21.2.2.2.2.1 < (z21.2.2.2.2.2.1 - z21.2.2.2.2.2.2.1))) (
 brC (decide ((z21.2.2.2.2.2.1 - z21.2.2.2.2.2.2.1) < z21.2.2.2.1)) (
 bindC (rec (z21.1, (z21.2.2.2.2.1, ((z21.2.2.2.2.2.1 - z21.2.2.2.2.2.2.1), (z21.2.2.2.1, (y22.1, ())))))) fun y25 =>
 some (y25.1, ())) (
 some (y22.1, ()))) (
 some (y22.1, ())))) (
 brC (decide (z21.2.2.2.2.1 < (z21.2.2.2.2.2.1 - z21.2.2.2.2.2.2.1))) (
 brC (decide ((z21.2.2.2.2.2.1 - z21.2.2.2.2.2.2.1) < z21.2.2.2.1)) (
 bindC (rec (z21.1, (z21.2.2.2.2.1, ((z21.2.2.2.2.2.1 - z21.2.2.2.2.2.2.1), (z21.2.2.2.1, (y22.1, ())))))) fun y26 =>
 some (y26.1, ())) (
 some (y22.1, ()))) (
 some (y22.1, ())))) (
 brC (decide (z21.2.1 < z21.2.2.2.2.2.2.1)) (
 brC (decide (z21.2.2.2.2.2.2.1 < z21.2.2.2.2.1)) (
 bindC (rec (z21.1, (z21.2.1, (z21.2.2.2.2.2.2.1, (z21.2.2.2.2.1, (z21.2.2.2.2.2.2.2.1, ())))))) fun y27 =>
 brC (decide (z21.2.2.2.2.1 < (z21.2.2.2.2.2.1 - z21.2.2.2.2.2.2.1))) (
 brC (decide ((z21.2.2.2.2.2.1 - z21.2.2.2.2.2.2.1) < z21.2.2.2.1)) (
 bindC (rec (z21.1, (z21.2.2.2.2.1, ((z21.2.2.2.2.2.1 - z21.2.2.2.2.2.2.1), (z21.2.2.2.1, (y27.1, ())))))) fun y28 =>
 some (y28.1, ())) (
 some (y27.1, ()))) (
 some (y27.1, ()))) (
 brC (decide (z21.2.2.2.2.1 < (z21.2.2.2.2.2.1 - z21.2.2.2.2.2.2.1))) (
 brC (decide ((z21.2.2.2.2.2.1 - z21.2.2.2.2.2.2.1) < z21.2.2.2.1)) (
 bindC (rec (z21.1, (z21.2.2.2.2.1, ((z21.2.2.2.2.2.1 - z21.2.2.2.2.2.2.1), (z21.2.2.2.1, (z21.2.2.2.2.2.2.2.1, ())))))) fun y29 =>
 some (y29.1, ())) (
 some (z21.2.2.2.2.2.2.2.1, ()))) (
 some (z21.2.2.2.2.2.2.2.1, ())))) (
 brC (decide (z21.2.2.2.2.1 < (z21.2.2.2.2.2.1 - z21.2.2.2.2.2.2.1))) (
 brC (decide ((z21.2.2.2.2.2.1 - z21.2.2.2.2.2.2.1) < z21.2.2.2.1)) (
 bindC (rec (z21.1, (z21.2.2.2.2.1, ((z21.2.2.2.2.2.1 - z21.2.2.2.2.2.2.1), (z21.2.2.2.1, (z21.2.2.2.2.2.2.2.1, ())))))) fun y30 =>
 some (y30.1, ())) (
 some (z21.2.2.2.2.2.2.2.1, ()))) (
 some (z21.2.2.2.2.2.2.2.1, ()))))) (
 brC (decide (z21.2.1 < z21.2.2.2.2.2.2.1)) (
 brC (decide (z21.2.2.2.2.2.2.1 < z21.2.2.2.2.1)) (
 bindC (rec (z21.1, (z21.2.1, (z21.2.2.2.2.2.2.1, (z21.2.2.2.2.1, (z21.2.2.2.2.2.2.2.1, ())))))) fun y31 =>
 brC (decide (z21.2.2.2.2.1 < (z21.2.2.2.2.2.1 - z21.2.2.2.2.2.2.1))) (
 brC (decide ((z21.2.2.2.2.2.1 - z21.2.2.2.2.2.2.1) < z21.2.2.2.1)) (
 bindC (rec (z21.1, (z21.2.2.2.2.1, ((z21.2.2.2.2.2.1 - z21.2.2.2.2.2.2.1), (z21.2.2.2.1, (y31.1, ())))))) fun y32 =>
 some (y32.1, ())) (
 some (y31.1, ()))) (
 some (y31.1, ()))) (
 brC (decide (z21.2.2.2.2.1 < (z21.2.2.2.2.2.1 - z21.2.2.2.2.2.2.1))) (
 brC (decide ((z21.2.2.2.2.2.1 - z21.2.2.2.2.2.2.1) < z21.2.2.2.1)) (
 bindC (rec (z21.1, (z21.2.2.2.2.1, ((z21.2.2.2.2.2.1 - z21.2.2.2.2.2.2.1), (z21.2.2.2.1, (z21.2.2.2.2.2.2.2.1, ())))))) fun y33 =>
 some (y33.1, ())) (
 some (z21.2.2.2.2.2.2.2.1, ()))) (
 some (z21.2.2.2.2.2.2.2.1, ())))) (
 brC (decide (z21.2.2.2.2.1 < (z21.2.2.2.2.2.1 - z21.2.2.2.2.2.2.1))) (
 brC (decide ((z21.2.2.2.2.2.1 - z21.2.2.2.2.2.2.1) < z21.2.2.2.1)) (
 bindC (rec (z21.1, (z21.2.2.2.2.1, ((z21.2.2.2.2.2.1 - z21.2.2.2.2.2.2.1), (z21.2.2.2.1, (z21.2.2.2.2.2.2.2.1, ())))))) fun y34 =>
 some (y34.1, ())) (
 some (z21.2.2.2.2.2.2.2.1, ()))) (
 some (z21.2.2.2.2.2.2.2.1, ()))))))))))))))))
theorem CFH82_v1_le' {rec rec' : pH82_v1.T → Option qH82_v1.T} (hr : ∀ x, Le (rec x) (rec' x)) (nv0 : Nat) (v1 : Int) (v2 : Int) (v3 : Int) (b0 : List (Int × Int)) : Le (CFH82_v1 rec nv0 v1 v2 v3 b0) (FH82_v1 rec' nv0 v1 v2 v3 b0) := (Le.nd (Le.br (Le.bd (Le.iter fun x => CgH82_v1_0_le' hr ..) fun z1 => (Le.bd (Le.iter fun x => CgH82_v1_1_le' hr ..) fun z2 => Le.r)) (Le.nd (Le.br (Le.bd (Le.iter fun x => CgH82_v1_2_le' hr ..) fun z4 => (Le.bd (Le.iter fun x => CgH82_v1_3_le' hr ..) fun z5 => Le.r)) (Le.nd (Le.nd (Le.nd (Le.nd (Le.nd (Le.br (Le.nd (Le.nd (Le.bd (Le.iter fun x => CgH82_v1_4_le' hr ..) fun z7 => (Le.nd (Le.br (Le.br (Le.bd (CFH83_v1_le ..) fun y8 => (Le.br (Le.br (Le.bd (hr _) fun y9 => (Le.br (Le.br (Le.bd (hr _) fun y10 => Le.r) Le.r) Le.r)) (Le.br (Le.br (Le.bd (hr _) fun y11 => Le.r) Le.r) Le.r)) (Le.br (Le.br (Le.bd (hr _) fun y12 => Le.r) Le.r) Le.r))) (Le.br (Le.br (Le.bd (hr _) fun y13 => (Le.br (Le.br (Le.bd (hr _) fun y14 => Le.r) Le.r) Le.r)) (Le.br (Le.br (Le.bd (hr _) fun y15 => Le.r) Le.r) Le.r)) (Le.br (Le.br (Le.bd (hr _) fun y16 => Le.r) Le.r) Le.r))) (Le.br (Le.br (Le.bd (hr _) fun y17 => (Le.br (Le.br (Le.bd (hr _) fun y18 => Le.r) Le.r) Le.r)) (Le.br (Le.br (Le.bd (hr _) fun y19 => Le.r) Le.r) Le.r)) (Le.br (Le.br (Le.bd (hr _) fun y20 => Le.r) Le.r) Le.r))))))) (Le.nd (Le.bd (Le.iter fun x => CgH82_v1_4_le' hr ..) fun z21 => (Le.nd (Le.br (Le.br (Le.bd (CFH83_v1_le ..) fun y22 => (Le.br (Le.br (Le.bd (hr _) fun y23 => (Le.br (Le.br (Le.bd (hr _) fun y24 => Le.r) Le.r) Le.r)) (Le.br (Le.br (Le.bd (hr _) fun y25 => Le.r) Le.r) Le.r)) (Le.br (Le.br (Le.bd (hr _) fun y26 => Le.r) Le.r) Le.r))) (Le.br (Le.br (Le.bd (hr _) fun y27 => (Le.br (Le.br (Le.bd (hr _) fun y28 => Le.r) Le.r) Le.r)) (Le.br (Le.br (Le.bd (hr _) fun y29 => Le.r) Le.r) Le.r)) (Le.br (Le.br (Le.bd (hr _) fun y30 => Le.r) Le.r) Le.r))) (Le.br (Le.br (Le.bd (hr _) fun y31 => (Le.br (Le.br (Le.bd (hr _) fun y32 => Le.r) Le.r) Le.r)) (Le.br (Le.br (Le.bd (hr _) fun y33 => Le.r) Le.r) Le.r)) (Le.br (Le.br (Le.bd (hr _) fun y34 => Le.r) Le.r) Le.r))))))))))))))))
theorem cH82_v1_ok (rec : pH82_v1.T → Option qH82_v1.T) (h : Ht.Ok prog ⟨82, pH82_v1, qH82_v1, rec⟩) : trF prog f82 = some ⟨220, 5, (ddH82_v1 rec h).er, [], []⟩ := by kernel_rfl
theorem ht82_v1_step (rec : pH82_v1.T → Option qH82_v1.T) (h : Ht.Ok prog ⟨82, pH82_v1, qH82_v1, rec⟩) : Ht.Ok prog ⟨82, pH82_v1, qH82_v1, (fun x => FH82_v1 rec x.1 x.2.1 x.2.2.1 x.2.2.2.1 x.2.2.2.2.1)⟩ := ht_ok mixed (cxH82_v1_ok rec h) rfl func82 (cH82_v1_ok rec h) (enters_of func82 rfl rfl) (ddH82_v1 rec h) rfl rfl rfl ⟨_, rfl⟩ rfl (pre := [0, 1]) rfl (fun x => by kernel_rfl)
noncomputable def ht82_v1 : Ht := ⟨82, pH82_v1, qH82_v1, fixO (fun rec x => FH82_v1 rec x.1 x.2.1 x.2.2.1 x.2.2.2.1 x.2.2.2.2.1)⟩
theorem ht82_v1_ok : ht82_v1.Ok prog := ht_fix (fun rec h => ht82_v1_step rec h)
noncomputable def FH82_v1fix (nv0 : Nat) (v1 : Int) (v2 : Int) (v3 : Int) (b0 : List (Int × Int)) : Option ((List (Int × Int)) × Unit) := fixO (fun rec x => FH82_v1 rec x.1 x.2.1 x.2.2.1 x.2.2.2.1 x.2.2.2.2.1) (nv0, v1, v2, v3, b0, ())
def CFH82_v1fix (nv0 : Nat) (v1 : Int) (v2 : Int) (v3 : Int) (b0 : List (Int × Int)) : Option ((List (Int × Int)) × Unit) := apx (fun (rec : pH82_v1.T → Option qH82_v1.T) x => CFH82_v1 rec x.1 x.2.1 x.2.2.1 x.2.2.2.1 x.2.2.2.2.1) 1000 (nv0, v1, v2, v3, b0, ())
theorem CFH82_v1fix_le (nv0 : Nat) (v1 : Int) (v2 : Int) (v3 : Int) (b0 : List (Int × Int)) : Le (CFH82_v1fix nv0 v1 v2 v3 b0) (FH82_v1fix nv0 v1 v2 v3 b0) := Le.fix fun r r' hr x => CFH82_v1_le' hr ..

/- 79, lent -/
@[reducible] def pH79_v1 : Pat := Pat.mk [(0, .c (.sl0 0 (.prod (.int .i64) (.int .i64)))), (1, hzI), (2, .fn 75 [] [.ptr 1 0])] [(0, .arr (.prod (.int .i64) (.int .i64)) false), (1, .cells [.fn0 59] false)] [.slot 0, .part 2 0] []
@[reducible] def qH79_v1 : Pat := Pat.mk [(0, .c .any)] [(1, .cells [.fn0 59] false), (0, .arr (.prod (.int .i64) (.int .i64)) false)] [] []
noncomputable def cxH79_v1 : Cx := mkCxH [] [ht81_v1, ht82_v1]
theorem cxH79_v1_ok : cxH79_v1.Ok prog := mkCxH_ok trivial ⟨⟨ht81_v1_ok, rfl⟩, ⟨ht82_v1_ok, rfl⟩, trivial⟩
@[reducible] def pH79_v1_0 : Pat := Pat.mk [(0, .c (.sl0 0 (.prod (.int .i64) (.int .i64)))), (1, hzI), (2, .fn 75 [] [.ptr 1 0]), (6, hzI), (7, hzI), (8, hzI)] [(0, .arr (.prod (.int .i64) (.int .i64)) false), (1, .cells [.fn0 59] false)] [] []
@[reducible] def xH79_v1_0 : Outs := [(.exit 0, Pat.mk [(0, .c (.sl0 0 (.prod (.int .i64) (.int .i64)))), (1, hzI), (2, .fn 75 [] [.ptr 1 0]), (6, hzI), (7, hzI)] [(0, .arr (.prod (.int .i64) (.int .i64)) false), (1, .cells [.fn0 59] false)] [] [])]
noncomputable def bH79_v1_0 : D prog 63 none 2 := (.seq (.seq (.reg [om 11 8, om 12 1, oo 13 (.bin .leq (.t 11) (.t 12))]) (.cond ( .t 13) .skip (.exit 0))) (.block 1 (.seq (.reg [om 14 0, om 15 7, om 16 8, om 17 2, .call (some 18) none (.c (.fn 81 [] [])) [.t 14, .t 15, .t 16, .t 17] [some (.list (.prod (.int .i64) (.int .i64))), some (.int .i64), some (.int .i64), none]]) (.seq (.reg [om 19 8, om 7 19]) (.reg [om 20 8, om 21 6, oo 22 (.bin .add (.t 20) (.t 21)), om 8 22])))))
noncomputable def gH79_v1_0 (nv0 : Nat) (v1 : Int) (v6 : Int) (v7 : Int) (v8 : Int) (b0 : List (Int × Int)) : Option ((Nat × Int × Int × Int × Int × (List (Int × Int)) × Unit) ⊕ ((Nat × Int × Int × Int × (List (Int × Int)) × Unit))) :=
 brO (decide (v8 ≤ v1)) (
 bindO (FH81_v1 nv0 v7 v8 b0) fun y0 =>
 need (rng .i64 (v8 + v6)) (
 some (.inl (nv0, (v1, (v6, (v8, ((v8 + v6), (y0.1, ()))))))))) (
 some (.inr (nv0, (v1, (v6, (v7, (b0, ())))))))
def CgH79_v1_0 (nv0 : Nat) (v1 : Int) (v6 : Int) (v7 : Int) (v8 : Int) (b0 : List (Int × Int)) : Option ((Nat × Int × Int × Int × Int × (List (Int × Int)) × Unit) ⊕ ((Nat × Int × Int × Int × (List (Int × Int)) × Unit))) :=
 brC (decide (v8 ≤ v1)) (
 bindC (CFH81_v1 nv0 v7 v8 b0) fun y0 =>
 needC (rng .i64 (v8 + v6)) (
 some (.inl (nv0, (v1, (v6, (v8, ((v8 + v6), (y0.1, ()))))))))) (
 some (.inr (nv0, (v1, (v6, (v7, (b0, ())))))))
theorem CgH79_v1_0_le (nv0 : Nat) (v1 : Int) (v6 : Int) (v7 : Int) (v8 : Int) (b0 : List (Int × Int)) : Le (CgH79_v1_0 nv0 v1 v6 v7 v8 b0) (gH79_v1_0 nv0 v1 v6 v7 v8 b0) := (Le.br (Le.bd (CFH81_v1_le ..) fun y0 => (Le.nd Le.r)) Le.r)
noncomputable def LH79_v1_0 : LoopS prog 63 none 2 := mkLoop mixed cxH79_v1 cxH79_v1_ok [0, 1] rfl pH79_v1_0 xH79_v1_0 rfl (bH79_v1_0) (fun x => gH79_v1_0 x.1 x.2.1 x.2.2.1 x.2.2.2.1 x.2.2.2.2.1 x.2.2.2.2.2.1) (by intro x; kernel_rfl)
@[reducible] def pH79_v1_2 : Pat := Pat.mk [(0, .c (.sl0 0 (.prod (.int .i64) (.int .i64)))), (1, hzI), (2, .fn 75 [] [.ptr 1 0]), (6, hzI), (7, hzI), (8, hzI)] [(0, .arr (.prod (.int .i64) (.int .i64)) false), (1, .cells [.fn0 59] false)] [] []
@[reducible] def xH79_v1_2 : Outs := [(.exit 4, Pat.mk [(0, .c (.sl0 0 (.prod (.int .i64) (.int .i64)))), (1, hzI), (2, .fn 75 [] [.ptr 1 0]), (6, hzI), (7, hzI)] [(0, .arr (.prod (.int .i64) (.int .i64)) false), (1, .cells [.fn0 59] false)] [] [])]
noncomputable def bH79_v1_2 : D prog 63 none 2 := (.seq (.seq (.reg [om 33 8, om 34 1, oo 35 (.bin .leq (.t 33) (.t 34))]) (.cond ( .t 35) .skip (.exit 4))) (.block 5 (.seq (.reg [om 36 0, om 37 7, om 38 7, om 39 6, oo 40 (.bin .add (.t 38) (.t 39)), om 41 8, om 42 2, .call (some 43) none (.c (.fn 82 [] [])) [.t 36, .t 37, .t 40, .t 41, .t 42] [some (.list (.prod (.int .i64) (.int .i64))), some (.int .i64), some (.int .i64), some (.int .i64), none]]) (.seq (.reg [om 44 8, om 7 44]) (.reg [om 45 8, om 46 6, oo 47 (.bin .mul (ki 2) (.t 46)), oo 48 (.bin .add (.t 45) (.t 47)), om 8 48])))))
noncomputable def gH79_v1_2 (nv0 : Nat) (v1 : Int) (v6 : Int) (v7 : Int) (v8 : Int) (b0 : List (Int × Int)) : Option ((Nat × Int × Int × Int × Int × (List (Int × Int)) × Unit) ⊕ ((Nat × Int × Int × Int × (List (Int × Int)) × Unit))) :=
 brO (decide (v8 ≤ v1)) (
 need (rng .i64 (v7 + v6)) (
 bindO (FH82_v1fix nv0 v7 (v7 + v6) v8 b0) fun y3 =>
 need (rng .i64 ((2 : Int) * v6)) (
 need (rng .i64 (v8 + ((2 : Int) * v6))) (
 some (.inl (nv0, (v1, (v6, (v8, ((v8 + ((2 : Int) * v6)), (y3.1, ()))))))))))) (
 some (.inr (nv0, (v1, (v6, (v7, (b0, ())))))))
def CgH79_v1_2 (nv0 : Nat) (v1 : Int) (v6 : Int) (v7 : Int) (v8 : Int) (b0 : List (Int × Int)) : Option ((Nat × Int × Int × Int × Int × (List (Int × Int)) × Unit) ⊕ ((Nat × Int × Int × Int × (List (Int × Int)) × Unit))) :=
 brC (decide (v8 ≤ v1)) (
 needC (rng .i64 (v7 + v6)) (
 bindC (CFH82_v1fix nv0 v7 (v7 + v6) v8 b0) fun y3 =>
 needC (rng .i64 ((2 : Int) * v6)) (
 needC (rng .i64 (v8 + ((2 : Int) * v6))) (
 some (.inl (nv0, (v1, (v6, (v8, ((v8 + ((2 : Int) * v6)), (y3.1, ()))))))))))) (
 some (.inr (nv0, (v1, (v6, (v7, (b0, ())))))))
theorem CgH79_v1_2_le (nv0 : Nat) (v1 : Int) (v6 : Int) (v7 : Int) (v8 : Int) (b0 : List (Int × Int)) : Le (CgH79_v1_2 nv0 v1 v6 v7 v8 b0) (gH79_v1_2 nv0 v1 v6 v7 v8 b0) := (Le.br (Le.nd (Le.bd (CFH82_v1fix_le ..) fun y3 => (Le.nd (Le.nd Le.r)))) Le.r)
noncomputable def LH79_v1_2 : LoopS prog 63 none 2 := mkLoop mixed cxH79_v1 cxH79_v1_ok [0, 1] rfl pH79_v1_2 xH79_v1_2 rfl (bH79_v1_2) (fun x => gH79_v1_2 x.1 x.2.1 x.2.2.1 x.2.2.2.1 x.2.2.2.2.1 x.2.2.2.2.2.1) (by intro x; kernel_rfl)
@[reducible] def pH79_v1_1 : Pat := Pat.mk [(0, .c (.sl0 0 (.prod (.int .i64) (.int .i64)))), (1, hzI), (2, .fn 75 [] [.ptr 1 0]), (6, hzI)] [(0, .arr (.prod (.int .i64) (.int .i64)) false), (1, .cells [.fn0 59] false)] [] []
@[reducible] def xH79_v1_1 : Outs := [(.exit 2, Pat.mk [] [(1, .cells [.fn0 59] false), (0, .arr (.prod (.int .i64) (.int .i64)) false)] [] [])]
noncomputable def bH79_v1_1 : D prog 63 none 2 := (.seq (.seq (.reg [om 28 6, om 29 1, oo 30 (.bin .lss (.t 28) (.t 29))]) (.cond ( .t 30) .skip (.exit 2))) (.block 3 (.seq (.reg [om 31 6, oo 32 (.bin .mul (ki 2) (.t 31)), oo 7 (.mv (ki 0)), om 8 32]) (.seq (.block 4 (.loop LH79_v1_2)) (.seq (.seq (.reg [om 49 7, om 50 6, oo 51 (.bin .add (.t 49) (.t 50)), om 9 51]) (.seq (.reg [om 52 9, om 53 1, oo 54 (.bin .lss (.t 52) (.t 53))]) (.cond ( .t 54) (.reg [om 55 0, om 56 7, om 57 9, om 58 1, om 59 2, .call (some 60) none (.c (.fn 82 [] [])) [.t 55, .t 56, .t 57, .t 58, .t 59] [some (.list (.prod (.int .i64) (.int .i64))), some (.int .i64), some (.int .i64), some (.int .i64), none]]) .skip))) (.reg [om 61 6, oo 62 (.bin .mul (.t 61) (ki 2)), om 6 62]))))))
noncomputable def gH79_v1_1 (nv0 : Nat) (v1 : Int) (v6 : Int) (b0 : List (Int × Int)) : Option ((Nat × Int × Int × (List (Int × Int)) × Unit) ⊕ (((List (Int × Int)) × Unit))) :=
 brO (decide (v6 < v1)) (
 need (rng .i64 ((2 : Int) * v6)) (
 bindO (iter (fun x => gH79_v1_2 x.1 x.2.1 x.2.2.1 x.2.2.2.1 x.2.2.2.2.1 x.2.2.2.2.2.1) (nv0, (v1, (v6, ((0 : Int), (((2 : Int) * v6), (b0, ()))))))) fun z4 =>
 need (rng .i64 (z4.2.2.2.1 + z4.2.2.1)) (
 brO (decide ((z4.2.2.2.1 + z4.2.2.1) < z4.2.1)) (
 bindO (FH82_v1fix z4.1 z4.2.2.2.1 (z4.2.2.2.1 + z4.2.2.1) z4.2.1 z4.2.2.2.2.1) fun y5 =>
 need (rng .i64 (z4.2.2.1 * (2 : Int))) (
 some (.inl (z4.1, (z4.2.1, ((z4.2.2.1 * (2 : Int)), (y5.1, ()))))))) (
 need (rng .i64 (z4.2.2.1 * (2 : Int))) (
 some (.inl (z4.1, (z4.2.1, ((z4.2.2.1 * (2 : Int)), (z4.2.2.2.2.1, ())))))))))) (
 some (.inr (b0, ())))
def CgH79_v1_1 (nv0 : Nat) (v1 : Int) (v6 : Int) (b0 : List (Int × Int)) : Option ((Nat × Int × Int × (List (Int × Int)) × Unit) ⊕ (((List (Int × Int)) × Unit))) :=
 brC (decide (v6 < v1)) (
 needC (rng .i64 ((2 : Int) * v6)) (
 bindC (iterF (fun x => CgH79_v1_2 x.1 x.2.1 x.2.2.1 x.2.2.2.1 x.2.2.2.2.1 x.2.2.2.2.2.1) 1000000 (nv0, (v1, (v6, ((0 : Int), (((2 : Int) * v6), (b0, ()))))))) fun z4 =>
 needC (rng .i64 (z4.2.2.2.1 + z4.2.2.1)) (
 brC (decide ((z4.2.2.2.1 + z4.2.2.1) < z4.2.1)) (
 bindC (CFH82_v1fix z4.1 z4.2.2.2.1 (z4.2.2.2.1 + z4.2.2.1) z4.2.1 z4.2.2.2.2.1) fun y5 =>
 needC (rng .i64 (z4.2.2.1 * (2 : Int))) (
 some (.inl (z4.1, (z4.2.1, ((z4.2.2.1 * (2 : Int)), (y5.1, ()))))))) (
 needC (rng .i64 (z4.2.2.1 * (2 : Int))) (
 some (.inl (z4.1, (z4.2.1, ((z4.2.2.1 * (2 : Int)), (z4.2.2.2.2.1, ())))))))))) (
 some (.inr (b0, ())))
theorem CgH79_v1_1_le (nv0 : Nat) (v1 : Int) (v6 : Int) (b0 : List (Int × Int)) : Le (CgH79_v1_1 nv0 v1 v6 b0) (gH79_v1_1 nv0 v1 v6 b0) := (Le.br (Le.nd (Le.bd (Le.iter fun x => CgH79_v1_2_le ..) fun z4 => (Le.nd (Le.br (Le.bd (CFH82_v1fix_le ..) fun y5 => (Le.nd Le.r)) (Le.nd Le.r))))) Le.r)
noncomputable def LH79_v1_1 : LoopS prog 63 none 2 := mkLoop mixed cxH79_v1 cxH79_v1_ok [0, 1] rfl pH79_v1_1 xH79_v1_1 rfl (bH79_v1_1) (fun x => gH79_v1_1 x.1 x.2.1 x.2.2.1 x.2.2.2.1) (by intro x; kernel_rfl)
noncomputable def ddH79_v1 : D prog 63 none 2 := (.seq (.reg [oo 6 (.mv (ki 20))]) (.seq (.reg [om 10 6, oo 7 (.mv (ki 0)), om 8 10]) (.seq (.block 0 (.loop LH79_v1_0)) (.seq (.reg [om 23 0, om 24 7, om 25 1, om 26 2, .call (some 27) none (.c (.fn 81 [] [])) [.t 23, .t 24, .t 25, .t 26] [some (.list (.prod (.int .i64) (.int .i64))), some (.int .i64), some (.int .i64), none]]) (.block 2 (.loop LH79_v1_1))))))
noncomputable def FH79_v1 (nv0 : Nat) (v1 : Int) (b0 : List (Int × Int)) : Option ((List (Int × Int)) × Unit) :=
 bindO (iter (fun x => gH79_v1_0 x.1 x.2.1 x.2.2.1 x.2.2.2.1 x.2.2.2.2.1 x.2.2.2.2.2.1) (nv0, (v1, ((20 : Int), ((0 : Int), ((20 : Int), (b0, ()))))))) fun z1 =>
 bindO (FH81_v1 z1.1 z1.2.2.2.1 z1.2.1 z1.2.2.2.2.1) fun y2 =>
 bindO (iter (fun x => gH79_v1_1 x.1 x.2.1 x.2.2.1 x.2.2.2.1) (z1.1, (z1.2.1, (z1.2.2.1, (y2.1, ()))))) fun z6 =>
 some (z6.1, ())
def CFH79_v1 (nv0 : Nat) (v1 : Int) (b0 : List (Int × Int)) : Option ((List (Int × Int)) × Unit) :=
 bindC (iterF (fun x => CgH79_v1_0 x.1 x.2.1 x.2.2.1 x.2.2.2.1 x.2.2.2.2.1 x.2.2.2.2.2.1) 1000000 (nv0, (v1, ((20 : Int), ((0 : Int), ((20 : Int), (b0, ()))))))) fun z1 =>
 bindC (CFH81_v1 z1.1 z1.2.2.2.1 z1.2.1 z1.2.2.2.2.1) fun y2 =>
 bindC (iterF (fun x => CgH79_v1_1 x.1 x.2.1 x.2.2.1 x.2.2.2.1) 1000000 (z1.1, (z1.2.1, (z1.2.2.1, (y2.1, ()))))) fun z6 =>
 some (z6.1, ())
theorem CFH79_v1_le (nv0 : Nat) (v1 : Int) (b0 : List (Int × Int)) : Le (CFH79_v1 nv0 v1 b0) (FH79_v1 nv0 v1 b0) := (Le.bd (Le.iter fun x => CgH79_v1_0_le ..) fun z1 => (Le.bd (CFH81_v1_le ..) fun y2 => (Le.bd (Le.iter fun x => CgH79_v1_1_le ..) fun z6 => Le.r)))
theorem cH79_v1_ok : trF prog f79 = some ⟨63, 3, ddH79_v1.er, [], []⟩ := by kernel_rfl
noncomputable def ht79_v1 : Ht := ⟨79, pH79_v1, qH79_v1, (fun x => FH79_v1 x.1 x.2.1 x.2.2.1)⟩
theorem ht79_v1_ok : ht79_v1.Ok prog := ht_ok mixed cxH79_v1_ok rfl func79 cH79_v1_ok (enters_of func79 rfl rfl) ddH79_v1 rfl rfl rfl ⟨_, rfl⟩ rfl (pre := [0, 1]) rfl (fun x => by kernel_rfl)

/- 74, lent -/
@[reducible] def pH74_v1 : Pat := Pat.mk [(0, .c (.sl0 0 (.prod (.int .i64) (.int .i64)))), (1, .fn 75 [] [.ptr 1 0])] [(0, .arr (.prod (.int .i64) (.int .i64)) false), (1, .cells [.fn0 59] false)] [.slot 0, .part 1 0] []
@[reducible] def qH74_v1 : Pat := Pat.mk [(0, .c .any)] [(1, .cells [.fn0 59] false), (0, .arr (.prod (.int .i64) (.int .i64)) false)] [] []
noncomputable def cxH74_v1 : Cx := mkCxH [] [ht79_v1]
theorem cxH74_v1_ok : cxH74_v1.Ok prog := mkCxH_ok trivial ⟨⟨ht79_v1_ok, rfl⟩, trivial⟩
noncomputable def ddH74_v1 : D prog 9 none 2 := (.reg [om 4 0, om 5 0, oo 6 (.len (.t 5)), om 7 1, .call (some 8) none (.c (.fn 79 [] [])) [.t 4, .t 6, .t 7] [some (.list (.prod (.int .i64) (.int .i64))), some (.int .i64), none]])
noncomputable def FH74_v1 (nv0 : Nat) (b0 : List (Int × Int)) : Option ((List (Int × Int)) × Unit) :=
 bindO (FH79_v1 nv0 ((nv0 : Nat) : Int) b0) fun y0 =>
 some (y0.1, ())
def CFH74_v1 (nv0 : Nat) (b0 : List (Int × Int)) : Option ((List (Int × Int)) × Unit) :=
 bindC (CFH79_v1 nv0 ((nv0 : Nat) : Int) b0) fun y0 =>
 some (y0.1, ())
theorem CFH74_v1_le (nv0 : Nat) (b0 : List (Int × Int)) : Le (CFH74_v1 nv0 b0) (FH74_v1 nv0 b0) := (Le.bd (CFH79_v1_le ..) fun y0 => Le.r)
theorem cH74_v1_ok : trF prog f74 = some ⟨9, 2, ddH74_v1.er, [], []⟩ := by kernel_rfl
noncomputable def ht74_v1 : Ht := ⟨74, pH74_v1, qH74_v1, (fun x => FH74_v1 x.1 x.2.1)⟩
theorem ht74_v1_ok : ht74_v1.Ok prog := ht_ok mixed cxH74_v1_ok rfl func74 cH74_v1_ok (enters_of func74 rfl rfl) ddH74_v1 rfl rfl rfl ⟨_, rfl⟩ rfl (pre := [0, 1]) rfl (fun x => by kernel_rfl)

/- 58 -/
noncomputable def cx58 : Cx := mkCxH [ct77] [ht74_v1]
theorem cx58_ok : cx58.Ok prog := mkCxH_ok ⟨ct77_ok, trivial⟩ ⟨⟨ht74_v1_ok, rfl⟩, trivial⟩
@[reducible] def p58_1 : Pat := Pat.mk [(3, .c (.ptr 0 0)), (5, .c (.sl0 1 (.prod (.int .i64) (.int .i64)))), (6, hzI), (10, hzM), (11, hzI), (12, hzI), (17, hzL), (18, hzI), (19, hzI)] [(0, .cells [.fn0 59] false), (1, .arr (.prod (.int .i64) (.int .i64)) false)] [.slot 3, .slot 5] []
@[reducible] def x58_1 : Outs := [(.exit 2, Pat.mk [(3, .c (.ptr 0 0)), (5, .c (.sl0 1 (.prod (.int .i64) (.int .i64)))), (10, hzM), (11, hzI), (12, hzI)] [(0, .cells [.fn0 59] false), (1, .arr (.prod (.int .i64) (.int .i64)) false)] [.slot 3, .slot 5] [])]
noncomputable def b58_1 : D prog 36 none 0 := (.seq (.reg [oo 20 (.bin .lss (.t 19) (.t 18))]) (.seq (.cond ( .t 20) .skip (.exit 2)) (.seq (.block 3 (.seq (.reg [oo 21 (.idx 1 (.t 17) (.t 19)), ol 22 21, om 9 22]) (.reg [om 23 5, om 24 9, om 25 6, oo 26 (.build [.int .i64 (Int.ofNat 0), .int .i64 (Int.ofNat 0)] [(0, 1, .t 24), (1, 1, .t 25)]), oo 27 (.bslice (.prod (.int .i64) (.int .i64)) [.t 26]), oo 28 (.append 2 (.t 23) (.t 27)), om 5 28]))) (.reg [oo 29 (.bin .add (.t 19) (ki 1)), om 19 29]))))
noncomputable def g58_1 (nv5 : Nat) (v6 : Int) (v10 : List (List Int)) (v11 : Int) (v12 : Int) (v17 : List Int) (v18 : Int) (v19 : Int) (b1 : List (Int × Int)) : Option ((Nat × Int × List (List Int) × Int × Int × List Int × Int × Int × (List (Int × Int)) × Unit) ⊕ ((Nat × List (List Int) × Int × Int × (List (Int × Int)) × Unit))) :=
 brO (decide (v19 < v18)) (
 need (inb v19 (((v17).length : Nat) : Int)) (
 need (decide ((nv5 + ((((((((v17).getD (Int.toNat v19) (0 : Int)), v6) :: [])).drop (0 : Nat)).take (1 : Nat))).length) < bigL)) (
 need (rng .i64 (v19 + (1 : Int))) (
 some (.inl ((nv5 + ((((((((v17).getD (Int.toNat v19) (0 : Int)), v6) :: [])).drop (0 : Nat)).take (1 : Nat))).length), (v6, (v10, (v11, (v12, (v17, (v18, ((v19 + (1 : Int)), (((((b1).drop (0 : Nat)).take nv5) ++ (((((((v17).getD (Int.toNat v19) (0 : Int)), v6) :: [])).drop (0 : Nat)).take (1 : Nat))), ())))))))))))))) (
 some (.inr (nv5, (v10, (v11, (v12, (b1, ())))))))
def Cg58_1 (nv5 : Nat) (v6 : Int) (v10 : List (List Int)) (v11 : Int) (v12 : Int) (v17 : List Int) (v18 : Int) (v19 : Int) (b1 : List (Int × Int)) : Option ((Nat × Int × List (List Int) × Int × Int × List Int × Int × Int × (List (Int × Int)) × Unit) ⊕ ((Nat × List (List Int) × Int × Int × (List (Int × Int)) × Unit))) :=
 brC (decide (v19 < v18)) (
 needC (inb v19 (((v17).length : Nat) : Int)) (
 needC (decide ((nv5 + ((((((((v17).getD (Int.toNat v19) (0 : Int)), v6) :: [])).drop (0 : Nat)).take (1 : Nat))).length) < bigL)) (
 needC (rng .i64 (v19 + (1 : Int))) (
 some (.inl ((nv5 + ((((((((v17).getD (Int.toNat v19) (0 : Int)), v6) :: [])).drop (0 : Nat)).take (1 : Nat))).length), (v6, (v10, (v11, (v12, (v17, (v18, ((v19 + (1 : Int)), (((((b1).drop (0 : Nat)).take nv5) ++ (((((((v17).getD (Int.toNat v19) (0 : Int)), v6) :: [])).drop (0 : Nat)).take (1 : Nat))), ())))))))))))))) (
 some (.inr (nv5, (v10, (v11, (v12, (b1, ())))))))
theorem Cg58_1_le (nv5 : Nat) (v6 : Int) (v10 : List (List Int)) (v11 : Int) (v12 : Int) (v17 : List Int) (v18 : Int) (v19 : Int) (b1 : List (Int × Int)) : Le (Cg58_1 nv5 v6 v10 v11 v12 v17 v18 v19 b1) (g58_1 nv5 v6 v10 v11 v12 v17 v18 v19 b1) := (Le.br (Le.nd (Le.nd (Le.nd Le.r))) Le.r)
noncomputable def L58_1 : LoopS prog 36 none 0 := mkLoop mixed cx58 cx58_ok [] rfl p58_1 x58_1 rfl (b58_1) (fun x => g58_1 x.1 x.2.1 x.2.2.1 x.2.2.2.1 x.2.2.2.2.1 x.2.2.2.2.2.1 x.2.2.2.2.2.2.1 x.2.2.2.2.2.2.2.1 x.2.2.2.2.2.2.2.2.1) (by intro x; kernel_rfl)
@[reducible] def p58_0 : Pat := Pat.mk [(3, .c (.ptr 0 0)), (5, .c (.sl0 1 (.prod (.int .i64) (.int .i64)))), (10, hzM), (11, hzI), (12, hzI)] [(0, .cells [.fn0 59] false), (1, .arr (.prod (.int .i64) (.int .i64)) false)] [.slot 3, .slot 5] []
@[reducible] def x58_0 : Outs := [(.exit 0, Pat.mk [(3, .c (.ptr 0 0)), (5, .c (.sl0 1 (.prod (.int .i64) (.int .i64))))] [(0, .cells [.fn0 59] false), (1, .arr (.prod (.int .i64) (.int .i64)) false)] [.slot 3, .slot 5] [])]
noncomputable def b58_0 : D prog 36 none 0 := (.seq (.reg [oo 13 (.bin .lss (.t 12) (.t 11))]) (.seq (.cond ( .t 13) .skip (.exit 0)) (.seq (.block 1 (.seq (.reg [om 14 12, oo 15 (.idx 1 (.t 10) (.t 12)), ol 16 15, om 6 14, om 7 16]) (.seq (.reg [om 17 7, oo 18 (.len (.t 17)), oo 19 (.mv (ki 0))]) (.block 2 (.loop L58_1))))) (.reg [oo 30 (.bin .add (.t 12) (ki 1)), om 12 30]))))
noncomputable def g58_0 (nv5 : Nat) (v10 : List (List Int)) (v11 : Int) (v12 : Int) (b1 : List (Int × Int)) : Option ((Nat × List (List Int) × Int × Int × (List (Int × Int)) × Unit) ⊕ ((Nat × (List (Int × Int)) × Unit))) :=
 brO (decide (v12 < v11)) (
 need (inb v12 (((v10).length : Nat) : Int)) (
 bindO (iter (fun x => g58_1 x.1 x.2.1 x.2.2.1 x.2.2.2.1 x.2.2.2.2.1 x.2.2.2.2.2.1 x.2.2.2.2.2.2.1 x.2.2.2.2.2.2.2.1 x.2.2.2.2.2.2.2.2.1) (nv5, (v12, (v10, (v11, (v12, (((v10).getD (Int.toNat v12) []), ((((((v10).getD (Int.toNat v12) [])).length : Nat) : Int), ((0 : Int), (b1, ())))))))))) fun z0 =>
 need (rng .i64 (z0.2.2.2.1 + (1 : Int))) (
 some (.inl (z0.1, (z0.2.1, (z0.2.2.1, ((z0.2.2.2.1 + (1 : Int)), (z0.2.2.2.2.1, ()))))))))) (
 some (.inr (nv5, (b1, ()))))
def Cg58_0 (nv5 : Nat) (v10 : List (List Int)) (v11 : Int) (v12 : Int) (b1 : List (Int × Int)) : Option ((Nat × List (List Int) × Int × Int × (List (Int × Int)) × Unit) ⊕ ((Nat × (List (Int × Int)) × Unit))) :=
 brC (decide (v12 < v11)) (
 needC (inb v12 (((v10).length : Nat) : Int)) (
 bindC (iterF (fun x => Cg58_1 x.1 x.2.1 x.2.2.1 x.2.2.2.1 x.2.2.2.2.1 x.2.2.2.2.2.1 x.2.2.2.2.2.2.1 x.2.2.2.2.2.2.2.1 x.2.2.2.2.2.2.2.2.1) 1000000 (nv5, (v12, (v10, (v11, (v12, (((v10).getD (Int.toNat v12) []), ((((((v10).getD (Int.toNat v12) [])).length : Nat) : Int), ((0 : Int), (b1, ())))))))))) fun z0 =>
 needC (rng .i64 (z0.2.2.2.1 + (1 : Int))) (
 some (.inl (z0.1, (z0.2.1, (z0.2.2.1, ((z0.2.2.2.1 + (1 : Int)), (z0.2.2.2.2.1, ()))))))))) (
 some (.inr (nv5, (b1, ()))))
theorem Cg58_0_le (nv5 : Nat) (v10 : List (List Int)) (v11 : Int) (v12 : Int) (b1 : List (Int × Int)) : Le (Cg58_0 nv5 v10 v11 v12 b1) (g58_0 nv5 v10 v11 v12 b1) := (Le.br (Le.nd (Le.bd (Le.iter fun x => Cg58_1_le ..) fun z0 => (Le.nd Le.r))) Le.r)
noncomputable def L58_0 : LoopS prog 36 none 0 := mkLoop mixed cx58 cx58_ok [] rfl p58_0 x58_0 rfl (b58_0) (fun x => g58_0 x.1 x.2.1 x.2.2.1 x.2.2.2.1 x.2.2.2.2.1) (by intro x; kernel_rfl)
noncomputable def dd58 : D prog 36 none 0 := (.seq (.reg [oo 3 (.box (.t 1)), oo 4 (.mv (.c .nilfn))]) (.seq (.reg [oo 5 (.mv (.c .nsl))]) (.seq (.seq (.reg [om 10 0, oo 11 (.len (.t 10)), oo 12 (.mv (ki 0))]) (.block 0 (.loop L58_0))) (.seq (.reg [om 31 5, oo 32 (.mkfn 75 [] [.t 3]), .call (some 33) none (.c (.fn 74 [] [])) [.t 31, .t 32] [some (.list (.prod (.int .i64) (.int .i64))), none]]) (.seq (.reg [om 34 5, .call (some 35) none (.c (.fn 77 [] [])) [.t 34] [some (.list (.prod (.int .i64) (.int .i64)))], om 4 35]) .ret)))))
noncomputable def F58 (a0 : List (List Int)) : Option ((List (Int × Int)) × Unit) :=
 bindO (iter (fun x => g58_0 x.1 x.2.1 x.2.2.1 x.2.2.2.1 x.2.2.2.2.1) ((0 : Nat), (a0, ((((a0).length : Nat) : Int), ((0 : Int), ([], ())))))) fun z1 =>
 bindO (FH74_v1 z1.1 z1.2.1) fun y2 =>
 bindO (F77 (((y2.1).drop (0 : Nat)).take z1.1)) fun y3 =>
 some (y3.1, ())
def CF58 (a0 : List (List Int)) : Option ((List (Int × Int)) × Unit) :=
 bindC (iterF (fun x => Cg58_0 x.1 x.2.1 x.2.2.1 x.2.2.2.1 x.2.2.2.2.1) 1000000 ((0 : Nat), (a0, ((((a0).length : Nat) : Int), ((0 : Int), ([], ())))))) fun z1 =>
 bindC (CFH74_v1 z1.1 z1.2.1) fun y2 =>
 bindC (CF77 (((y2.1).drop (0 : Nat)).take z1.1)) fun y3 =>
 some (y3.1, ())
theorem CF58_le (a0 : List (List Int)) : Le (CF58 a0) (F58 a0) := (Le.bd (Le.iter fun x => Cg58_0_le ..) fun z1 => (Le.bd (CFH74_v1_le ..) fun y2 => (Le.bd (CF77_le ..) fun y3 => Le.r)))
theorem c58_ok : trF prog f58 = some ⟨36, 2, dd58.er, [.t 4], [none]⟩ := by kernel_rfl
noncomputable def ct58 : Ct := ⟨58, [.c (.hole (.list (.list (.int .i64)))), .c (.fn0 59)], .fn 80 [] [.ipc (.list (.prod (.int .i64) (.int .i64)))], fun x => F58 x.1⟩
theorem ct58_ok : ct58.Ok prog := ct_ok mixed cx58_ok func58 c58_ok (enters_of func58 rfl rfl) dd58 rfl rfl (fun x => by kernel_rfl)

/- 29 -/
noncomputable def cx29 : Cx := mkCxH [ct55, ct58] []
theorem cx29_ok : cx29.Ok prog := mkCxH_ok ⟨ct55_ok, ct58_ok, trivial⟩ trivial
noncomputable def ad29_0 : D prog 41 (some 5) 7 := (.reg [.op (some 9) none (.alloc [.int .i64 (Int.ofNat 0), .int .i64 (Int.ofNat 0)]), .op none none (.store 2 (.t 9) (.t 23))])
noncomputable def bd29_0 : D prog 41 (some 5) 7 := (.block 1 (.seq (.reg [.op (some 24) none (.load false 1 (.t 8)), .op (some 25) none (.bin .add (.t 24) (.c (.int .i64 (Int.ofNat 1)))), .op none none (.store 1 (.t 8) (.t 25))]) (.seq (.reg [.op (some 26) none (.load false 1 (.t 8))]) (.block 2 (.seq (.reg [.op (some 28) none (.load false 1 (.t 3)), .op (some 29) none (.bin .eql (.t 26) (.t 28)), .op (some 27) none (.mv (.t 29))]) (.cond ( .t 27) (.reg [.op (some 30) none (.fld 0 [false] (.t 9)), .op (some 31) none (.load false 1 (.t 30)), .op (some 32) none (.fld 1 [true] (.t 7)), .op none none (.store 1 (.t 32) (.t 31))]) (.seq (.reg [.op (some 34) none (.load false 1 (.t 3)), .op (some 35) none (.bin .add (.t 34) (.c (.int .i64 (Int.ofNat 1)))), .op (some 36) none (.bin .eql (.t 26) (.t 35)), .op (some 33) none (.mv (.t 36))]) (.cond ( .t 33) (.reg [.op (some 37) none (.fld 0 [false] (.t 9)), .op (some 38) none (.load false 1 (.t 37)), .op (some 39) none (.fld 0 [false] (.t 7)), .op none none (.store 1 (.t 39) (.t 38))]) .skip))))))))
noncomputable def cx29_0i : Cx := itCx cx29 (fun kz => rdK kz cx29 ar0 5 7 [23] (ad29_0) (bd29_0))
theorem cx29_0i_ok : (cx29_0i).Ok prog := itCx_ok cx29_ok (fun h => rdK_ok mixed cx29_ok h)
@[reducible] def p29_0i_0 : Pat := Pat.mk [(0, .c (.yl 5)), (5, .c (.hole (.list (.prod (.int .i64) (.int .i64))))), (6, hzI), (7, hzI)] [(5, .loop .ready none 4 [(3, .c (.ptr 0 0)), (4, .c (.ptr 1 0)), (5, hzI), (7, .c (.ptr 2 0)), (8, .c (.ptr 3 0)), (22, .fn 80 [] [.ipc (.list (.prod (.int .i64) (.int .i64)))])] [23] (.reg [.op (some 9) none (.alloc [.int .i64 (Int.ofNat 0), .int .i64 (Int.ofNat 0)]), .op none none (.store 2 (.t 9) (.t 23))]) (.block 1 (.seq (.reg [.op (some 24) none (.load false 1 (.t 8)), .op (some 25) none (.bin .add (.t 24) (.c (.int .i64 (Int.ofNat 1)))), .op none none (.store 1 (.t 8) (.t 25))]) (.seq (.reg [.op (some 26) none (.load false 1 (.t 8))]) (.block 2 (.seq (.reg [.op (some 28) none (.load false 1 (.t 3)), .op (some 29) none (.bin .eql (.t 26) (.t 28)), .op (some 27) none (.mv (.t 29))]) (.cond (.t 27) (.reg [.op (some 30) none (.fld 0 [false] (.t 9)), .op (some 31) none (.load false 1 (.t 30)), .op (some 32) none (.fld 1 [true] (.t 7)), .op none none (.store 1 (.t 32) (.t 31))]) (.seq (.reg [.op (some 34) none (.load false 1 (.t 3)), .op (some 35) none (.bin .add (.t 34) (.c (.int .i64 (Int.ofNat 1)))), .op (some 36) none (.bin .eql (.t 26) (.t 35)), .op (some 33) none (.mv (.t 36))]) (.cond (.t 33) (.reg [.op (some 37) none (.fld 0 [false] (.t 9)), .op (some 38) none (.load false 1 (.t 37)), .op (some 39) none (.fld 0 [false] (.t 7)), .op none none (.store 1 (.t 39) (.t 38))]) .skip)))))))) 41), (4, .dfr), (0, .cells [.hole (.int .i64)] false), (1, .cells [.hole (.int .i64), .hole (.int .i64)] false), (2, .cells [.hole (.int .i64), .hole (.int .i64)] false), (3, .cells [.hole (.int .i64)] false)] [] []
@[reducible] def x29_0i_0 : Outs := [(.exit 0, Pat.mk [] [(0, .cells [.hole (.int .i64)] false), (1, .cells [.hole (.int .i64), .hole (.int .i64)] false), (2, .cells [.hole (.int .i64), .hole (.int .i64)] false), (3, .cells [.hole (.int .i64)] false), (4, .dfr), (5, .loop .ready none 4 [(3, .c (.ptr 0 0)), (4, .c (.ptr 1 0)), (5, hzI), (7, .c (.ptr 2 0)), (8, .c (.ptr 3 0)), (22, .fn 80 [] [.ipc (.list (.prod (.int .i64) (.int .i64)))])] [23] (.reg [.op (some 9) none (.alloc [.int .i64 (Int.ofNat 0), .int .i64 (Int.ofNat 0)]), .op none none (.store 2 (.t 9) (.t 23))]) (.block 1 (.seq (.reg [.op (some 24) none (.load false 1 (.t 8)), .op (some 25) none (.bin .add (.t 24) (.c (.int .i64 (Int.ofNat 1)))), .op none none (.store 1 (.t 8) (.t 25))]) (.seq (.reg [.op (some 26) none (.load false 1 (.t 8))]) (.block 2 (.seq (.reg [.op (some 28) none (.load false 1 (.t 3)), .op (some 29) none (.bin .eql (.t 26) (.t 28)), .op (some 27) none (.mv (.t 29))]) (.cond (.t 27) (.reg [.op (some 30) none (.fld 0 [false] (.t 9)), .op (some 31) none (.load false 1 (.t 30)), .op (some 32) none (.fld 1 [true] (.t 7)), .op none none (.store 1 (.t 32) (.t 31))]) (.seq (.reg [.op (some 34) none (.load false 1 (.t 3)), .op (some 35) none (.bin .add (.t 34) (.c (.int .i64 (Int.ofNat 1)))), .op (some 36) none (.bin .eql (.t 26) (.t 35)), .op (some 33) none (.mv (.t 36))]) (.cond (.t 33) (.reg [.op (some 37) none (.fld 0 [false] (.t 9)), .op (some 38) none (.load false 1 (.t 37)), .op (some 39) none (.fld 0 [false] (.t 7)), .op none none (.store 1 (.t 39) (.t 38))]) .skip)))))))) 41)] [] [])]
noncomputable def b29_0i_0 : D prog 16 none 6 := (.seq (.reg [oo 8 (.bin .lss (.t 7) (.t 6))]) (.seq (.cond ( .t 8) .skip (.exit 0)) (.seq (.block 1 (.seq (.reg [oo 9 (.idx 2 (.t 5) (.t 7)), oo 10 (.load true 2 (.t 9)), oo 4 (.alloc [.int .i64 (Int.ofNat 0), .int .i64 (Int.ofNat 0)]), .op none none (.store 2 (.t 4) (.t 10))]) (.seq (.reg [om 11 0, oo 12 (.load true 2 (.t 4)), .call (some 13) none (.t 11) [.t 12] [some (.prod (.int .i64) (.int .i64))], oo 14 (.not (.t 13))]) (.cond ( .t 14) .ret .skip)))) (.reg [oo 15 (.bin .add (.t 7) (ki 1)), om 7 15]))))
noncomputable def g29_0i_0 (v5 : List (Int × Int)) (v6 : Int) (v7 : Int) (w5 : Int) (w22_0 : List (Int × Int)) (c0_0 : Int) (c1_0 : Int) (c1_1 : Int) (c2_0 : Int) (c2_1 : Int) (c3_0 : Int) : Option (((List (Int × Int)) × Int × Int × Int × (List (Int × Int)) × Int × Int × Int × Int × Int × Int × Unit) ⊕ ((Int × Int × Int × Int × Int × Int × Int × (List (Int × Int)) × Unit))) :=
 brO (decide (v7 < v6)) (
 need (inb v7 (((v5).length : Nat) : Int)) (
 need (rng .i64 (c3_0 + (1 : Int))) (
 brO ((c3_0 + (1 : Int)) == c0_0) (
 need (rng .i64 (v7 + (1 : Int))) (
 some (.inl (v5, (v6, ((v7 + (1 : Int)), (w5, (w22_0, (c0_0, (c1_0, (c1_1, (c2_0, (((v5).getD (Int.toNat v7) ((0 : Int), (0 : Int))).1, ((c3_0 + (1 : Int)), ())))))))))))))) (
 need (rng .i64 (c0_0 + (1 : Int))) (
 brO ((c3_0 + (1 : Int)) == (c0_0 + (1 : Int))) (
 need (rng .i64 (v7 + (1 : Int))) (
 some (.inl (v5, (v6, ((v7 + (1 : Int)), (w5, (w22_0, (c0_0, (c1_0, (c1_1, (((v5).getD (Int.toNat v7) ((0 : Int), (0 : Int))).1, (c2_1, ((c3_0 + (1 : Int)), ())))))))))))))) (
 need (rng .i64 (v7 + (1 : Int))) (
 some (.inl (v5, (v6, ((v7 + (1 : Int)), (w5, (w22_0, (c0_0, (c1_0, (c1_1, (c2_0, (c2_1, ((c3_0 + (1 : Int)), ()))))))))))))))))))) (
 some (.inr (c0_0, (c1_0, (c1_1, (c2_0, (c2_1, (c3_0, (w5, (w22_0, ()))))))))))
def Cg29_0i_0 (v5 : List (Int × Int)) (v6 : Int) (v7 : Int) (w5 : Int) (w22_0 : List (Int × Int)) (c0_0 : Int) (c1_0 : Int) (c1_1 : Int) (c2_0 : Int) (c2_1 : Int) (c3_0 : Int) : Option (((List (Int × Int)) × Int × Int × Int × (List (Int × Int)) × Int × Int × Int × Int × Int × Int × Unit) ⊕ ((Int × Int × Int × Int × Int × Int × Int × (List (Int × Int)) × Unit))) :=
 brC (decide (v7 < v6)) (
 needC (inb v7 (((v5).length : Nat) : Int)) (
 needC (rng .i64 (c3_0 + (1 : Int))) (
 brC ((c3_0 + (1 : Int)) == c0_0) (
 needC (rng .i64 (v7 + (1 : Int))) (
 some (.inl (v5, (v6, ((v7 + (1 : Int)), (w5, (w22_0, (c0_0, (c1_0, (c1_1, (c2_0, (((v5).getD (Int.toNat v7) ((0 : Int), (0 : Int))).1, ((c3_0 + (1 : Int)), ())))))))))))))) (
 needC (rng .i64 (c0_0 + (1 : Int))) (
 brC ((c3_0 + (1 : Int)) == (c0_0 + (1 : Int))) (
 needC (rng .i64 (v7 + (1 : Int))) (
 some (.inl (v5, (v6, ((v7 + (1 : Int)), (w5, (w22_0, (c0_0, (c1_0, (c1_1, (((v5).getD (Int.toNat v7) ((0 : Int), (0 : Int))).1, (c2_1, ((c3_0 + (1 : Int)), ())))))))))))))) (
 needC (rng .i64 (v7 + (1 : Int))) (
 some (.inl (v5, (v6, ((v7 + (1 : Int)), (w5, (w22_0, (c0_0, (c1_0, (c1_1, (c2_0, (c2_1, ((c3_0 + (1 : Int)), ()))))))))))))))))))) (
 some (.inr (c0_0, (c1_0, (c1_1, (c2_0, (c2_1, (c3_0, (w5, (w22_0, ()))))))))))
theorem Cg29_0i_0_le (v5 : List (Int × Int)) (v6 : Int) (v7 : Int) (w5 : Int) (w22_0 : List (Int × Int)) (c0_0 : Int) (c1_0 : Int) (c1_1 : Int) (c2_0 : Int) (c2_1 : Int) (c3_0 : Int) : Le (Cg29_0i_0 v5 v6 v7 w5 w22_0 c0_0 c1_0 c1_1 c2_0 c2_1 c3_0) (g29_0i_0 v5 v6 v7 w5 w22_0 c0_0 c1_0 c1_1 c2_0 c2_1 c3_0) := (Le.br (Le.nd (Le.nd (Le.br (Le.nd Le.r) (Le.nd (Le.br (Le.nd Le.r) (Le.nd Le.r)))))) Le.r)
noncomputable def L29_0i_0 : LoopS prog 16 none 6 := mkLoop mixed cx29_0i cx29_0i_ok [0, 1, 2, 3, 4, 5] rfl p29_0i_0 x29_0i_0 rfl (b29_0i_0) (fun x => g29_0i_0 x.1 x.2.1 x.2.2.1 x.2.2.2.1 x.2.2.2.2.1 x.2.2.2.2.2.1 x.2.2.2.2.2.2.1 x.2.2.2.2.2.2.2.1 x.2.2.2.2.2.2.2.2.1 x.2.2.2.2.2.2.2.2.2.1 x.2.2.2.2.2.2.2.2.2.2.1) (by intro x; kernel_rfl)
@[reducible] def p29_0 : Pat := Pat.mk [(3, .c (.ptr 0 0)), (4, .c (.ptr 1 0)), (5, hzI), (7, .c (.ptr 2 0)), (8, .c (.ptr 3 0)), (22, .fn 80 [] [.ipc (.list (.prod (.int .i64) (.int .i64)))])] [(0, .cells [.hole (.int .i64)] false), (1, .cells [.hole (.int .i64), .hole (.int .i64)] false), (2, .cells [.hole (.int .i64), .hole (.int .i64)] false), (3, .cells [.hole (.int .i64)] false)] [.slot 3, .slot 4, .slot 7, .slot 8] []
@[reducible] def x29_0 : Outs := [(.normal, Pat.mk [(4, .c (.ptr 0 0)), (7, .c (.ptr 1 0))] [(0, .cells [.hole (.int .i64), .hole (.int .i64)] false), (1, .cells [.hole (.int .i64), .hole (.int .i64)] false), (2, .dfr)] [.slot 4, .slot 7, .mark 0] [2])]
noncomputable def b29_0i : D prog 16 none 6 := (.seq (.reg [ol 5 1, oo 6 (.len (.t 5)), oo 7 (.mv (ki 0))]) (.block 0 (.loop L29_0i_0)))
theorem ci29_0 : trF prog f80 = some ⟨16, 2, (b29_0i).er, [], []⟩ := by kernel_rfl
noncomputable def g29_0 (v5 : Int) (v22_0 : List (Int × Int)) (c0_0 : Int) (c1_0 : Int) (c1_1 : Int) (c2_0 : Int) (c2_1 : Int) (c3_0 : Int) : Option ((Int × Int × Int × Int × Unit)) :=
 bindO (iter (fun x => g29_0i_0 x.1 x.2.1 x.2.2.1 x.2.2.2.1 x.2.2.2.2.1 x.2.2.2.2.2.1 x.2.2.2.2.2.2.1 x.2.2.2.2.2.2.2.1 x.2.2.2.2.2.2.2.2.1 x.2.2.2.2.2.2.2.2.2.1 x.2.2.2.2.2.2.2.2.2.2.1) (v22_0, ((((v22_0).length : Nat) : Int), ((0 : Int), (v5, (v22_0, (c0_0, (c1_0, (c1_1, (c2_0, (c2_1, (c3_0, ())))))))))))) fun z2 =>
 some ((z2.2.1, (z2.2.2.1, (z2.2.2.2.1, (z2.2.2.2.2.1, ())))))
def Cg29_0 (v5 : Int) (v22_0 : List (Int × Int)) (c0_0 : Int) (c1_0 : Int) (c1_1 : Int) (c2_0 : Int) (c2_1 : Int) (c3_0 : Int) : Option ((Int × Int × Int × Int × Unit)) :=
 bindC (iterF (fun x => Cg29_0i_0 x.1 x.2.1 x.2.2.1 x.2.2.2.1 x.2.2.2.2.1 x.2.2.2.2.2.1 x.2.2.2.2.2.2.1 x.2.2.2.2.2.2.2.1 x.2.2.2.2.2.2.2.2.1 x.2.2.2.2.2.2.2.2.2.1 x.2.2.2.2.2.2.2.2.2.2.1) 1000000 (v22_0, ((((v22_0).length : Nat) : Int), ((0 : Int), (v5, (v22_0, (c0_0, (c1_0, (c1_1, (c2_0, (c2_1, (c3_0, ())))))))))))) fun z2 =>
 some ((z2.2.1, (z2.2.2.1, (z2.2.2.2.1, (z2.2.2.2.2.1, ())))))
theorem Cg29_0_le (v5 : Int) (v22_0 : List (Int × Int)) (c0_0 : Int) (c1_0 : Int) (c1_1 : Int) (c2_0 : Int) (c2_1 : Int) (c3_0 : Int) : Le (Cg29_0 v5 v22_0 c0_0 c1_0 c1_1 c2_0 c2_1 c3_0) (g29_0 v5 v22_0 c0_0 c1_0 c1_1 c2_0 c2_1 c3_0) := (Le.bd (Le.iter fun x => Cg29_0i_0_le ..) fun z2 => Le.r)
theorem s29_0 : ∀ x, rangeE (N := 41) (out := none) (base := 0) (kzO x29_0.T) cx29_0i ar0 [] p29_0 x29_0 ( .t 22) [23] (ad29_0).er (bd29_0).er [] 2 80 (b29_0i) some x = g29_0 x.1 x.2.1 x.2.2.1 x.2.2.2.1 x.2.2.2.2.1 x.2.2.2.2.2.1 x.2.2.2.2.2.2.1 x.2.2.2.2.2.2.2.1 := by intro x; kernel_rfl
noncomputable def R29_0 : RangeS prog 41 none 0 := mkRange mixed cx29_0i cx29_0i_ok [] rfl p29_0 x29_0 ( .t 22) [23] rfl (ad29_0).er (bd29_0).er 80 func80 (ci29_0) (enters_of func80 rfl rfl) 6 rfl (b29_0i) rfl (fun x => g29_0 x.1 x.2.1 x.2.2.1 x.2.2.2.1 x.2.2.2.2.1 x.2.2.2.2.2.1 x.2.2.2.2.2.2.1 x.2.2.2.2.2.2.2.1) (s29_0)
noncomputable def dd29 : D prog 41 none 0 := (.seq (.reg [oo 3 (.box (.t 1)), oo 4 (.alloc [.int .i64 (Int.ofNat 0), .int .i64 (Int.ofNat 0)]), oo 5 (.mv (ki 0))]) (.seq (.seq (.reg [om 10 0, ol 11 3, .call (some 12) none (.c (.fn 55 [] [])) [.t 10, .t 11] [some (.list (.list (.int .i64))), some (.int .i64)], om 6 12]) (.seq (.reg [om 13 6, oo 14 (.bin .neq (.t 13) (ki 0))]) (.cond ( .t 14) (.seq (.reg [oo 15 (.build [.int .i64 (Int.ofNat 0), .int .i64 (Int.ofNat 0)] []), om 16 6, .op none none (.store 2 (.t 4) (.t 15)), om 5 16]) .ret) .skip))) (.seq (.reg [oo 17 (.build [.int .i64 (Int.ofNat 0), .int .i64 (Int.ofNat 0)] [(1, 1, ki 1000000)]), oo 7 (.alloc [.int .i64 (Int.ofNat 0), .int .i64 (Int.ofNat 0)]), .op none none (.store 2 (.t 7) (.t 17))]) (.seq (.seq (.reg [ol 18 3, oo 19 (.bin .gtr (.t 18) (ki 0))]) (.cond ( .t 19) (.reg [oo 20 (.fld 1 [true] (.t 7)), .op none none (.store 1 (.t 20) (ki 0))]) .skip)) (.seq (.reg [oo 8 (.alloc [.int .i64 (Int.ofNat 0)]), .op none none (.store 1 (.t 8) (ki 0))]) (.seq (.seq (.reg [om 21 0, .call (some 22) none (.c (.fn 58 [] [])) [.t 21, .c (.fn 59 [] [])] [some (.list (.list (.int .i64))), none]]) (.block 0 (.rangeF R29_0))) (.seq (.reg [oo 40 (.load true 2 (.t 7)), .op none none (.store 2 (.t 4) (.t 40)), oo 5 (.mv (ki 0))]) .ret)))))))
noncomputable def F29 (a0 : List (List Int)) (a1 : Int) : Option ((Int × Int) × Int × Unit) :=
 bindO (F55 a0 a1) fun y0 =>
 brO (!(y0.1 == (0 : Int))) (
 some (((0 : Int), (0 : Int)), (y0.1, ()))) (
 brO (decide ((0 : Int) < a1)) (
 bindO (F58 a0) fun y1 =>
 bindO (g29_0 (0 : Int) y1.1 a1 (0 : Int) (0 : Int) (0 : Int) (0 : Int) (0 : Int)) fun z3 =>
 some ((z3.2.2.1, z3.2.2.2.1), ((0 : Int), ()))) (
 bindO (F58 a0) fun y4 =>
 bindO (g29_0 (0 : Int) y4.1 a1 (0 : Int) (0 : Int) (0 : Int) (1000000 : Int) (0 : Int)) fun z5 =>
 some ((z5.2.2.1, z5.2.2.2.1), ((0 : Int), ()))))
def CF29 (a0 : List (List Int)) (a1 : Int) : Option ((Int × Int) × Int × Unit) :=
 bindC (CF55 a0 a1) fun y0 =>
 brC (!(y0.1 == (0 : Int))) (
 some (((0 : Int), (0 : Int)), (y0.1, ()))) (
 brC (decide ((0 : Int) < a1)) (
 bindC (CF58 a0) fun y1 =>
 bindC (Cg29_0 (0 : Int) y1.1 a1 (0 : Int) (0 : Int) (0 : Int) (0 : Int) (0 : Int)) fun z3 =>
 some ((z3.2.2.1, z3.2.2.2.1), ((0 : Int), ()))) (
 bindC (CF58 a0) fun y4 =>
 bindC (Cg29_0 (0 : Int) y4.1 a1 (0 : Int) (0 : Int) (0 : Int) (1000000 : Int) (0 : Int)) fun z5 =>
 some ((z5.2.2.1, z5.2.2.2.1), ((0 : Int), ()))))
theorem CF29_le (a0 : List (List Int)) (a1 : Int) : Le (CF29 a0 a1) (F29 a0 a1) := (Le.bd (CF55_le ..) fun y0 => (Le.br Le.r (Le.br (Le.bd (CF58_le ..) fun y1 => (Le.bd (Cg29_0_le ..) fun z3 => Le.r)) (Le.bd (CF58_le ..) fun y4 => (Le.bd (Cg29_0_le ..) fun z5 => Le.r)))))
theorem c29_ok : trF prog f29 = some ⟨41, 2, dd29.er, [.cell 4 true 2, .t 5], [some (.prod (.int .i64) (.int .i64)), some (.int .i64)]⟩ := by kernel_rfl
noncomputable def ct29 : Ct := ⟨29, [.c (.hole (.list (.list (.int .i64)))), .c (.hole (.int .i64))], .tup [.hole (.prod (.int .i64) (.int .i64)), .hole (.int .i64)], fun x => F29 x.1 x.2.1⟩
theorem ct29_ok : ct29.Ok prog := ct_ok mixed cx29_ok func29 c29_ok (enters_of func29 rfl rfl) dd29 rfl rfl (fun x => by kernel_rfl)

/- 49 -/
noncomputable def cx49 : Cx := mkCxH [] []
theorem cx49_ok : cx49.Ok prog := mkCxH_ok trivial trivial
@[reducible] def p49_0 : Pat := Pat.mk [(3, hzI), (6, hzL), (7, hzI), (8, hzI)] [] [] []
@[reducible] def x49_0 : Outs := [(.exit 0, Pat.mk [(3, hzI)] [] [] [])]
noncomputable def b49_0 : D prog 17 none 0 := (.seq (.reg [oo 9 (.bin .lss (.t 8) (.t 7))]) (.seq (.cond ( .t 9) .skip (.exit 0)) (.seq (.block 1 (.seq (.reg [oo 10 (.idx 1 (.t 6) (.t 8)), ol 11 10, om 5 11]) (.reg [om 12 3, om 13 5, oo 14 (.bin .add (.t 12) (.t 13)), om 3 14]))) (.reg [oo 15 (.bin .add (.t 8) (ki 1)), om 8 15]))))
noncomputable def g49_0 (v3 : Int) (v6 : List Int) (v7 : Int) (v8 : Int) : Option ((Int × List Int × Int × Int × Unit) ⊕ ((Int × Unit))) :=
 brO (decide (v8 < v7)) (
 need (inb v8 (((v6).length : Nat) : Int)) (
 need (rng .i64 (v3 + ((v6).getD (Int.toNat v8) (0 : Int)))) (
 need (rng .i64 (v8 + (1 : Int))) (
 some (.inl ((v3 + ((v6).getD (Int.toNat v8) (0 : Int))), (v6, (v7, ((v8 + (1 : Int)), ()))))))))) (
 some (.inr (v3, ())))
def Cg49_0 (v3 : Int) (v6 : List Int) (v7 : Int) (v8 : Int) : Option ((Int × List Int × Int × Int × Unit) ⊕ ((Int × Unit))) :=
 brC (decide (v8 < v7)) (
 needC (inb v8 (((v6).length : Nat) : Int)) (
 needC (rng .i64 (v3 + ((v6).getD (Int.toNat v8) (0 : Int)))) (
 needC (rng .i64 (v8 + (1 : Int))) (
 some (.inl ((v3 + ((v6).getD (Int.toNat v8) (0 : Int))), (v6, (v7, ((v8 + (1 : Int)), ()))))))))) (
 some (.inr (v3, ())))
theorem Cg49_0_le (v3 : Int) (v6 : List Int) (v7 : Int) (v8 : Int) : Le (Cg49_0 v3 v6 v7 v8) (g49_0 v3 v6 v7 v8) := (Le.br (Le.nd (Le.nd (Le.nd Le.r))) Le.r)
noncomputable def L49_0 : LoopS prog 17 none 0 := mkLoop mixed cx49 cx49_ok [] rfl p49_0 x49_0 rfl (b49_0) (fun x => g49_0 x.1 x.2.1 x.2.2.1 x.2.2.2.1) (by intro x; kernel_rfl)
noncomputable def dd49 : D prog 17 none 0 := (.seq (.reg [oo 2 (.mv (ki 0))]) (.seq (.reg [oo 3 (.mv (ki 0))]) (.seq (.seq (.reg [om 6 0, oo 7 (.len (.t 6)), oo 8 (.mv (ki 0))]) (.block 0 (.loop L49_0))) (.seq (.reg [om 16 3, om 2 16]) .ret))))
noncomputable def F49 (a0 : List Int) : Option (Int × Unit) :=
 bindO (iter (fun x => g49_0 x.1 x.2.1 x.2.2.1 x.2.2.2.1) ((0 : Int), (a0, ((((a0).length : Nat) : Int), ((0 : Int), ()))))) fun z0 =>
 some (z0.1, ())
def CF49 (a0 : List Int) : Option (Int × Unit) :=
 bindC (iterF (fun x => Cg49_0 x.1 x.2.1 x.2.2.1 x.2.2.2.1) 1000000 ((0 : Int), (a0, ((((a0).length : Nat) : Int), ((0 : Int), ()))))) fun z0 =>
 some (z0.1, ())
theorem CF49_le (a0 : List Int) : Le (CF49 a0) (F49 a0) := (Le.bd (Le.iter fun x => Cg49_0_le ..) fun z0 => Le.r)
theorem c49_ok : trF prog f49 = some ⟨17, 1, dd49.er, [.t 2], [some (.int .i64)]⟩ := by kernel_rfl
noncomputable def ct49 : Ct := ⟨49, [.c (.hole (.list (.int .i64)))], .c (.hole (.int .i64)), fun x => F49 x.1⟩
theorem ct49_ok : ct49.Ok prog := ct_ok mixed cx49_ok func49 c49_ok (enters_of func49 rfl rfl) dd49 rfl rfl (fun x => by kernel_rfl)

/- 18 -/
noncomputable def cx18 : Cx := mkCxH [ct20, ct48, ct49] []
theorem cx18_ok : cx18.Ok prog := mkCxH_ok ⟨ct20_ok, ct48_ok, ct49_ok, trivial⟩ trivial
@[reducible] def p18_0 : Pat := Pat.mk [(0, hzM), (1, hzL), (5, hzI), (20, hzL), (21, hzI), (22, hzI)] [] [] []
@[reducible] def x18_0 : Outs := [(.ret, Pat.mk [(4, hzI), (5, hzI), (6, hzI)] [] [] []), (.exit 0, Pat.mk [(1, hzL), (5, hzI)] [] [] [])]
noncomputable def b18_0 : D prog 48 none 0 := (.seq (.reg [oo 23 (.bin .lss (.t 22) (.t 21))]) (.seq (.cond ( .t 23) .skip (.exit 0)) (.seq (.block 1 (.seq (.reg [om 24 22, oo 25 (.idx 1 (.t 20) (.t 22)), ol 26 25, om 8 24, om 9 26]) (.seq (.seq (.reg [om 27 9, om 28 0, om 29 8, oo 30 (.idx 1 (.t 28) (.t 29)), ol 31 30, oo 32 (.len (.t 31)), .call (some 33) none (.c (.fn 48 [] [])) [ki 0, .t 27, .t 32] [some (.int .i64), some (.int .i64), some (.int .i64)], oo 34 (.not (.t 33))]) (.cond ( .t 34) (.seq (.reg [oo 4 (.mv (ki 0)), oo 5 (.mv (ki 0)), oo 6 (.mv (ki 10))]) .ret) .skip)) (.reg [om 35 5, om 36 0, om 37 8, oo 38 (.idx 1 (.t 36) (.t 37)), ol 39 38, om 40 9, oo 41 (.slice 1 (.t 39) none (some (.t 40)) none), .call (some 42) none (.c (.fn 49 [] [])) [.t 41] [some (.list (.int .i64))], oo 43 (.bin .add (.t 35) (.t 42)), om 5 43])))) (.reg [oo 44 (.bin .add (.t 22) (ki 1)), om 22 44]))))
noncomputable def g18_0 (v0 : List (List Int)) (v1 : List Int) (v5 : Int) (v20 : List Int) (v21 : Int) (v22 : Int) : Option ((List (List Int) × List Int × Int × List Int × Int × Int × Unit) ⊕ ((Int × Int × Int × Unit) ⊕ ((List Int × Int × Unit)))) :=
 brO (decide (v22 < v21)) (
 need (inb v22 (((v20).length : Nat) : Int)) (
 need (inb v22 (((v0).length : Nat) : Int)) (
 bindO (F48 (0 : Int) ((v20).getD (Int.toNat v22) (0 : Int)) (((((v0).getD (Int.toNat v22) [])).length : Nat) : Int)) fun y1 =>
 brO (!y1.1) (
 some (.inr <| .inl <| ((0 : Int), ((0 : Int), ((10 : Int), ()))))) (
 need (inb v22 (((v0).length : Nat) : Int)) (
 need (decide ((0 : Int) ≤ (0 : Int))) (
 need (decide ((0 : Int) ≤ ((v20).getD (Int.toNat v22) (0 : Int)))) (
 need (decide (((v20).getD (Int.toNat v22) (0 : Int)) ≤ (((((v0).getD (Int.toNat v22) [])).length : Nat) : Int))) (
 bindO (F49 (((((v0).getD (Int.toNat v22) [])).drop (Int.toNat (0 : Int))).take ((Int.toNat ((v20).getD (Int.toNat v22) (0 : Int))) - (Int.toNat (0 : Int))))) fun y2 =>
 need (rng .i64 (v5 + y2.1)) (
 need (rng .i64 (v22 + (1 : Int))) (
 some (.inl (v0, (v1, ((v5 + y2.1), (v20, (v21, ((v22 + (1 : Int)), ()))))))))))))))))) (
 some (.inr <| .inr <| (v1, (v5, ()))))
def Cg18_0 (v0 : List (List Int)) (v1 : List Int) (v5 : Int) (v20 : List Int) (v21 : Int) (v22 : Int) : Option ((List (List Int) × List Int × Int × List Int × Int × Int × Unit) ⊕ ((Int × Int × Int × Unit) ⊕ ((List Int × Int × Unit)))) :=
 brC (decide (v22 < v21)) (
 needC (inb v22 (((v20).length : Nat) : Int)) (
 needC (inb v22 (((v0).length : Nat) : Int)) (
 bindC (CF48 (0 : Int) ((v20).getD (Int.toNat v22) (0 : Int)) (((((v0).getD (Int.toNat v22) [])).length : Nat) : Int)) fun y1 =>
 brC (!y1.1) (
 some (.inr <| .inl <| ((0 : Int), ((0 : Int), ((10 : Int), ()))))) (
 needC (inb v22 (((v0).length : Nat) : Int)) (
 needC (decide ((0 : Int) ≤ (0 : Int))) (
 needC (decide ((0 : Int) ≤ ((v20).getD (Int.toNat v22) (0 : Int)))) (
 needC (decide (((v20).getD (Int.toNat v22) (0 : Int)) ≤ (((((v0).getD (Int.toNat v22) [])).length : Nat) : Int))) (
 bindC (CF49 (((((v0).getD (Int.toNat v22) [])).drop (Int.toNat (0 : Int))).take ((Int.toNat ((v20).getD (Int.toNat v22) (0 : Int))) - (Int.toNat (0 : Int))))) fun y2 =>
 needC (rng .i64 (v5 + y2.1)) (
 needC (rng .i64 (v22 + (1 : Int))) (
 some (.inl (v0, (v1, ((v5 + y2.1), (v20, (v21, ((v22 + (1 : Int)), ()))))))))))))))))) (
 some (.inr <| .inr <| (v1, (v5, ()))))
theorem Cg18_0_le (v0 : List (List Int)) (v1 : List Int) (v5 : Int) (v20 : List Int) (v21 : Int) (v22 : Int) : Le (Cg18_0 v0 v1 v5 v20 v21 v22) (g18_0 v0 v1 v5 v20 v21 v22) := (Le.br (Le.nd (Le.nd (Le.bd (CF48_le ..) fun y1 => (Le.br Le.r (Le.nd (Le.nd (Le.nd (Le.nd (Le.bd (CF49_le ..) fun y2 => (Le.nd (Le.nd Le.r))))))))))) Le.r)
noncomputable def L18_0 : LoopS prog 48 none 0 := mkLoop mixed cx18 cx18_ok [] rfl p18_0 x18_0 rfl (b18_0) (fun x => g18_0 x.1 x.2.1 x.2.2.1 x.2.2.2.1 x.2.2.2.2.1 x.2.2.2.2.2.1) (by intro x; kernel_rfl)
noncomputable def dd18 : D prog 48 none 0 := (.seq (.reg [oo 4 (.mv (ki 0)), oo 5 (.mv (ki 0)), oo 6 (.mv (ki 0))]) (.seq (.seq (.reg [om 10 0, .call (some 11) none (.c (.fn 20 [] [])) [.t 10] [some (.list (.list (.int .i64)))], om 7 11]) (.seq (.reg [om 12 7, oo 13 (.bin .neq (.t 12) (ki 0))]) (.cond ( .t 13) (.seq (.reg [om 14 7, oo 4 (.mv (ki 0)), oo 5 (.mv (ki 0)), om 6 14]) .ret) .skip))) (.seq (.seq (.reg [om 15 1, oo 16 (.len (.t 15)), om 17 0, oo 18 (.len (.t 17)), oo 19 (.bin .neq (.t 16) (.t 18))]) (.cond ( .t 19) (.seq (.reg [oo 4 (.mv (ki 0)), oo 5 (.mv (ki 0)), oo 6 (.mv (ki 3))]) .ret) .skip)) (.seq (.seq (.reg [om 20 1, oo 21 (.len (.t 20)), oo 22 (.mv (ki 0))]) (.block 0 (.loop L18_0))) (.seq (.reg [om 45 1, .call (some 46) none (.c (.fn 49 [] [])) [.t 45] [some (.list (.int .i64))], om 47 5, om 4 46, om 5 47, oo 6 (.mv (ki 0))]) .ret)))))
noncomputable def F18 (a0 : List (List Int)) (a1 : List Int) : Option (Int × Int × Int × Unit) :=
 bindO (F20 a0) fun y0 =>
 brO (!(y0.1 == (0 : Int))) (
 some ((0 : Int), ((0 : Int), (y0.1, ())))) (
 brO (!((((a1).length : Nat) : Int) == (((a0).length : Nat) : Int))) (
 some ((0 : Int), ((0 : Int), ((3 : Int), ())))) (
 bindO (iter (fun x => g18_0 x.1 x.2.1 x.2.2.1 x.2.2.2.1 x.2.2.2.2.1 x.2.2.2.2.2.1) (a0, (a1, ((0 : Int), (a1, ((((a1).length : Nat) : Int), ((0 : Int), ()))))))) fun z3 =>
 match z3 with
 | .inl z4 =>
 some (z4.1, (z4.2.1, (z4.2.2.1, ())))
 | .inr z5 =>
 bindO (F49 z5.1) fun y6 =>
 some (y6.1, (z5.2.1, ((0 : Int), ())))))
def CF18 (a0 : List (List Int)) (a1 : List Int) : Option (Int × Int × Int × Unit) :=
 bindC (CF20 a0) fun y0 =>
 brC (!(y0.1 == (0 : Int))) (
 some ((0 : Int), ((0 : Int), (y0.1, ())))) (
 brC (!((((a1).length : Nat) : Int) == (((a0).length : Nat) : Int))) (
 some ((0 : Int), ((0 : Int), ((3 : Int), ())))) (
 bindC (iterF (fun x => Cg18_0 x.1 x.2.1 x.2.2.1 x.2.2.2.1 x.2.2.2.2.1 x.2.2.2.2.2.1) 1000000 (a0, (a1, ((0 : Int), (a1, ((((a1).length : Nat) : Int), ((0 : Int), ()))))))) fun z3 =>
 match z3 with
 | .inl z4 =>
 some (z4.1, (z4.2.1, (z4.2.2.1, ())))
 | .inr z5 =>
 bindC (CF49 z5.1) fun y6 =>
 some (y6.1, (z5.2.1, ((0 : Int), ())))))
theorem CF18_le (a0 : List (List Int)) (a1 : List Int) : Le (CF18 a0 a1) (F18 a0 a1) := (Le.bd (CF20_le ..) fun y0 => (Le.br Le.r (Le.br Le.r (Le.bd (Le.iter fun x => Cg18_0_le ..) fun z3 => (match z3 with | .inl z4 => Le.r | .inr z5 => (Le.bd (CF49_le ..) fun y6 => Le.r))))))
theorem c18_ok : trF prog f18 = some ⟨48, 2, dd18.er, [.t 4, .t 5, .t 6], [some (.int .i64), some (.int .i64), some (.int .i64)]⟩ := by kernel_rfl
noncomputable def ct18 : Ct := ⟨18, [.c (.hole (.list (.list (.int .i64)))), .c (.hole (.list (.int .i64)))], .tup [.hole (.int .i64), .hole (.int .i64), .hole (.int .i64)], fun x => F18 x.1 x.2.1⟩
theorem ct18_ok : ct18.Ok prog := ct_ok mixed cx18_ok func18 c18_ok (enters_of func18 rfl rfl) dd18 rfl rfl (fun x => by kernel_rfl)

/- 33 -/
noncomputable def cx33 : Cx := mkCxH [ct55, ct18] []
theorem cx33_ok : cx33.Ok prog := mkCxH_ok ⟨ct55_ok, ct18_ok, trivial⟩ trivial
@[reducible] def p33_1 : Pat := Pat.mk [(0, hzM), (1, hzI), (2, hzL), (6, hzI), (7, hzI), (8, hzI), (11, hzI), (13, hzI), (14, hzI), (73, hzM), (74, hzI), (75, hzI)] [] [] []
@[reducible] def x33_1 : Outs := [(.exit 4, Pat.mk [(0, hzM), (1, hzI), (2, hzL), (6, hzI), (7, hzI), (8, hzI), (11, hzI), (13, hzI)] [] [] [])]
noncomputable def b33_1 : D prog 113 none 0 := (.seq (.reg [oo 76 (.bin .lss (.t 75) (.t 74))]) (.seq (.cond ( .t 76) .skip (.exit 4)) (.seq (.block 5 (.seq (.reg [om 77 75, oo 78 (.idx 1 (.t 73) (.t 75)), ol 79 78, om 15 77, om 16 79]) (.seq (.seq (.reg [om 80 15, om 81 13, oo 82 (.bin .eql (.t 80) (.t 81)), om 83 82, og 84 83 false (.mv (.t 2)), og 85 83 false (.mv (.t 15)), og 86 83 false (.idx 1 (.t 84) (.t 85)), og 87 83 false (.load false 1 (.t 86)), og 88 83 false (.mv (.t 16)), og 89 83 false (.len (.t 88)), og 90 83 false (.bin .eql (.t 87) (.t 89)), oo 91 (.pick (.t 83) (.c (.tf true)) (.t 90))]) (.cond ( .t 91) (.exit 5) .skip)) (.seq (.reg [om 92 16, om 93 2, om 94 15, oo 95 (.idx 1 (.t 93) (.t 94)), ol 96 95, oo 97 (.idx 1 (.t 92) (.t 96)), ol 98 97, om 99 14, oo 100 (.bin .sub (.t 98) (.t 99)), om 17 100]) (.seq (.reg [om 101 17, om 102 8, oo 103 (.bin .gtr (.t 101) (.t 102))]) (.cond ( .t 103) (.reg [om 104 13, om 105 15, om 106 17, om 6 104, om 7 105, om 8 106]) .skip)))))) (.reg [oo 107 (.bin .add (.t 75) (ki 1)), om 75 107]))))
noncomputable def g33_1 (v0 : List (List Int)) (v1 : Int) (v2 : List Int) (v6 : Int) (v7 : Int) (v8 : Int) (v11 : Int) (v13 : Int) (v14 : Int) (v73 : List (List Int)) (v74 : Int) (v75 : Int) : Option ((List (List Int) × Int × List Int × Int × Int × Int × Int × Int × Int × List (List Int) × Int × Int × Unit) ⊕ ((List (List Int) × Int × List Int × Int × Int × Int × Int × Int × Unit))) :=
 brO (decide (v75 < v74)) (
 need (inb v75 (((v73).length : Nat) : Int)) (
 brO (v75 == v13) (
 need (rng .i64 (v75 + (1 : Int))) (
 some (.inl (v0, (v1, (v2, (v6, (v7, (v8, (v11, (v13, (v14, (v73, (v74, ((v75 + (1 : Int)), ()))))))))))))))) (
 need (inb v75 (((v2).length : Nat) : Int)) (
 brO (((v2).getD (Int.toNat v75) (0 : Int)) == (((((v73).getD (Int.toNat v75) [])).length : Nat) : Int)) (
 need (rng .i64 (v75 + (1 : Int))) (
 some (.inl (v0, (v1, (v2, (v6, (v7, (v8, (v11, (v13, (v14, (v73, (v74, ((v75 + (1 : Int)), ()))))))))))))))) (
 need (inb v75 (((v2).length : Nat) : Int)) (
 need (inb ((v2).getD (Int.toNat v75) (0 : Int)) (((((v73).getD (Int.toNat v75) [])).length : Nat) : Int)) (
 need (rng .i64 (((((v73).getD (Int.toNat v75) [])).getD (Int.toNat ((v2).getD (Int.toNat v75) (0 : Int))) (0 : Int)) - v14)) (
 brO (decide (v8 < (((((v73).getD (Int.toNat v75) [])).getD (Int.toNat ((v2).getD (Int.toNat v75) (0 : Int))) (0 : Int)) - v14))) (
 need (rng .i64 (v75 + (1 : Int))) (
 some (.inl (v0, (v1, (v2, (v13, (v75, ((((((v73).getD (Int.toNat v75) [])).getD (Int.toNat ((v2).getD (Int.toNat v75) (0 : Int))) (0 : Int)) - v14), (v11, (v13, (v14, (v73, (v74, ((v75 + (1 : Int)), ()))))))))))))))) (
 need (rng .i64 (v75 + (1 : Int))) (
 some (.inl (v0, (v1, (v2, (v6, (v7, (v8, (v11, (v13, (v14, (v73, (v74, ((v75 + (1 : Int)), ()))))))))))))))))))))))) (
 some (.inr (v0, (v1, (v2, (v6, (v7, (v8, (v11, (v13, ()))))))))))
def Cg33_1 (v0 : List (List Int)) (v1 : Int) (v2 : List Int) (v6 : Int) (v7 : Int) (v8 : Int) (v11 : Int) (v13 : Int) (v14 : Int) (v73 : List (List Int)) (v74 : Int) (v75 : Int) : Option ((List (List Int) × Int × List Int × Int × Int × Int × Int × Int × Int × List (List Int) × Int × Int × Unit) ⊕ ((List (List Int) × Int × List Int × Int × Int × Int × Int × Int × Unit))) :=
 brC (decide (v75 < v74)) (
 needC (inb v75 (((v73).length : Nat) : Int)) (
 brC (v75 == v13) (
 needC (rng .i64 (v75 + (1 : Int))) (
 some (.inl (v0, (v1, (v2, (v6, (v7, (v8, (v11, (v13, (v14, (v73, (v74, ((v75 + (1 : Int)), ()))))))))))))))) (
 needC (inb v75 (((v2).length : Nat) : Int)) (
 brC (((v2).getD (Int.toNat v75) (0 : Int)) == (((((v73).getD (Int.toNat v75) [])).length : Nat) : Int)) (
 needC (rng .i64 (v75 + (1 : Int))) (
 some (.inl (v0, (v1, (v2, (v6, (v7, (v8, (v11, (v13, (v14, (v73, (v74, ((v75 + (1 : Int)), ()))))))))))))))) (
 needC (inb v75 (((v2).length : Nat) : Int)) (
 needC (inb ((v2).getD (Int.toNat v75) (0 : Int)) (((((v73).getD (Int.toNat v75) [])).length : Nat) : Int)) (
 needC (rng .i64 (((((v73).getD (Int.toNat v75) [])).getD (Int.toNat ((v2).getD (Int.toNat v75) (0 : Int))) (0 : Int)) - v14)) (
 brC (decide (v8 < (((((v73).getD (Int.toNat v75) [])).getD (Int.toNat ((v2).getD (Int.toNat v75) (0 : Int))) (0 : Int)) - v14))) (
 needC (rng .i64 (v75 + (1 : Int))) (
 some (.inl (v0, (v1, (v2, (v13, (v75, ((((((v73).getD (Int.toNat v75) [])).getD (Int.toNat ((v2).getD (Int.toNat v75) (0 : Int))) (0 : Int)) - v14), (v11, (v13, (v14, (v73, (v74, ((v75 + (1 : Int)), ()))))))))))))))) (
 needC (rng .i64 (v75 + (1 : Int))) (
 some (.inl (v0, (v1, (v2, (v6, (v7, (v8, (v11, (v13, (v14, (v73, (v74, ((v75 + (1 : Int)), ()))))))))))))))))))))))) (
 some (.inr (v0, (v1, (v2, (v6, (v7, (v8, (v11, (v13, ()))))))))))
theorem Cg33_1_le (v0 : List (List Int)) (v1 : Int) (v2 : List Int) (v6 : Int) (v7 : Int) (v8 : Int) (v11 : Int) (v13 : Int) (v14 : Int) (v73 : List (List Int)) (v74 : Int) (v75 : Int) : Le (Cg33_1 v0 v1 v2 v6 v7 v8 v11 v13 v14 v73 v74 v75) (g33_1 v0 v1 v2 v6 v7 v8 v11 v13 v14 v73 v74 v75) := (Le.br (Le.nd (Le.br (Le.nd Le.r) (Le.nd (Le.br (Le.nd Le.r) (Le.nd (Le.nd (Le.nd (Le.br (Le.nd Le.r) (Le.nd Le.r))))))))) Le.r)
noncomputable def L33_1 : LoopS prog 113 none 0 := mkLoop mixed cx33 cx33_ok [] rfl p33_1 x33_1 rfl (b33_1) (fun x => g33_1 x.1 x.2.1 x.2.2.1 x.2.2.2.1 x.2.2.2.2.1 x.2.2.2.2.2.1 x.2.2.2.2.2.2.1 x.2.2.2.2.2.2.2.1 x.2.2.2.2.2.2.2.2.1 x.2.2.2.2.2.2.2.2.2.1 x.2.2.2.2.2.2.2.2.2.2.1 x.2.2.2.2.2.2.2.2.2.2.2.1) (by intro x; kernel_rfl)
@[reducible] def p33_0 : Pat := Pat.mk [(0, hzM), (1, hzI), (2, hzL), (6, hzI), (7, hzI), (8, hzI), (11, hzI), (13, hzI)] [] [] []
@[reducible] def x33_0 : Outs := [(.exit 1, Pat.mk [(6, hzI), (7, hzI), (8, hzI)] [] [] [])]
noncomputable def b33_0 : D prog 113 none 0 := (.seq (.seq (.reg [om 39 13, om 40 0, oo 41 (.len (.t 40)), oo 42 (.bin .lss (.t 39) (.t 41))]) (.cond ( .t 42) .skip (.exit 1))) (.seq (.block 2 (.seq (.reg [oo 14 (.mv (ki 0))]) (.seq (.block 3 (.seq (.reg [om 57 13, oo 58 (.bin .eql (.t 57) (.c (.int .i64 (Int.negSucc 0)))), om 59 58, og 60 59 true (.mv (.t 11)), og 61 59 true (.mv (.t 1)), og 62 59 true (.bin .eql (.t 60) (.t 61)), oo 63 (.pick (.t 59) (.t 62) (.c (.tf false))), om 56 63]) (.cond ( .t 56) (.exit 2) (.seq (.reg [om 65 13, oo 66 (.bin .eql (.t 65) (.c (.int .i64 (Int.negSucc 0)))), om 64 66]) (.cond ( .t 64) .skip (.seq (.reg [om 68 2, om 69 13, oo 70 (.idx 1 (.t 68) (.t 69)), ol 71 70, oo 72 (.bin .eql (.t 71) (ki 0)), om 67 72]) (.cond ( .t 67) (.exit 2) (.draw [[], [], [0, 1], [0, 1, 2], [], [], [4, 5], [4, 5, 6], [4, 5, 6, 7], [0, 1, 2, 3, 4, 5, 6, 7, 8], [0, 1, 2, 3, 4, 5, 6, 7, 8, 9], [0, 1, 2, 3, 4, 5, 6, 7, 8, 9, 10]] [om 45 0, om 46 13, oo 47 (.idx 1 (.t 45) (.t 46)), ol 48 47, om 49 2, om 50 13, oo 51 (.idx 1 (.t 49) (.t 50)), ol 52 51, oo 53 (.bin .sub (.t 52) (ki 1)), oo 54 (.idx 1 (.t 48) (.t 53)), ol 55 54, om 14 55])))))))) (.seq (.reg [om 73 0, oo 74 (.len (.t 73)), oo 75 (.mv (ki 0))]) (.block 4 (.loop L33_1)))))) (.reg [om 43 13, oo 44 (.bin .add (.t 43) (ki 1)), om 13 44])))
noncomputable def g33_0 (v0 : List (List Int)) (v1 : Int) (v2 : List Int) (v6 : Int) (v7 : Int) (v8 : Int) (v11 : Int) (v13 : Int) : Option ((List (List Int) × Int × List Int × Int × Int × Int × Int × Int × Unit) ⊕ ((Int × Int × Int × Unit))) :=
 brO (decide (v13 < (((v0).length : Nat) : Int))) (
 brO (v13 == (-1 : Int)) (
 brO (v11 == v1) (
 need (rng .i64 (v13 + (1 : Int))) (
 some (.inl (v0, (v1, (v2, (v6, (v7, (v8, (v11, ((v13 + (1 : Int)), ()))))))))))) (
 brO (v13 == (-1 : Int)) (
 bindO (iter (fun x => g33_1 x.1 x.2.1 x.2.2.1 x.2.2.2.1 x.2.2.2.2.1 x.2.2.2.2.2.1 x.2.2.2.2.2.2.1 x.2.2.2.2.2.2.2.1 x.2.2.2.2.2.2.2.2.1 x.2.2.2.2.2.2.2.2.2.1 x.2.2.2.2.2.2.2.2.2.2.1 x.2.2.2.2.2.2.2.2.2.2.2.1) (v0, (v1, (v2, (v6, (v7, (v8, (v11, (v13, ((0 : Int), (v0, ((((v0).length : Nat) : Int), ((0 : Int), ()))))))))))))) fun z2 =>
 need (rng .i64 (z2.2.2.2.2.2.2.2.1 + (1 : Int))) (
 some (.inl (z2.1, (z2.2.1, (z2.2.2.1, (z2.2.2.2.1, (z2.2.2.2.2.1, (z2.2.2.2.2.2.1, (z2.2.2.2.2.2.2.1, ((z2.2.2.2.2.2.2.2.1 + (1 : Int)), ()))))))))))) (
 need (inb v13 (((v2).length : Nat) : Int)) (
 brO (((v2).getD (Int.toNat v13) (0 : Int)) == (0 : Int)) (
 need (rng .i64 (v13 + (1 : Int))) (
 some (.inl (v0, (v1, (v2, (v6, (v7, (v8, (v11, ((v13 + (1 : Int)), ()))))))))))) (
 need (inb v13 (((v0).length : Nat) : Int)) (
 need (inb v13 (((v2).length : Nat) : Int)) (
 need (rng .i64 (((v2).getD (Int.toNat v13) (0 : Int)) - (1 : Int))) (
 need (inb (((v2).getD (Int.toNat v13) (0 : Int)) - (1 : Int)) (((((v0).getD (Int.toNat v13) [])).length : Nat) : Int)) (
 bindO (iter (fun x => g33_1 x.1 x.2.1 x.2.2.1 x.2.2.2.1 x.2.2.2.2.1 x.2.2.2.2.2.1 x.2.2.2.2.2.2.1 x.2.2.2.2.2.2.2.1 x.2.2.2.2.2.2.2.2.1 x.2.2.2.2.2.2.2.2.2.1 x.2.2.2.2.2.2.2.2.2.2.1 x.2.2.2.2.2.2.2.2.2.2.2.1) (v0, (v1, (v2, (v6, (v7, (v8, (v11, (v13, (((((v0).getD (Int.toNat v13) [])).getD (Int.toNat (((v2).getD (Int.toNat v13) (0 : Int)) - (1 : Int))) (0 : Int)), (v0, ((((v0).length : Nat) : Int), ((0 : Int), ()))))))))))))) fun z3 =>
 need (rng .i64 (z3.2.2.2.2.2.2.2.1 + (1 : Int))) (
 some (.inl (z3.1, (z3.2.1, (z3.2.2.1, (z3.2.2.2.1, (z3.2.2.2.2.1, (z3.2.2.2.2.2.1, (z3.2.2.2.2.2.2.1, ((z3.2.2.2.2.2.2.2.1 + (1 : Int)), ()))))))))))))))))))) (
 brO (v13 == (-1 : Int)) (
 bindO (iter (fun x => g33_1 x.1 x.2.1 x.2.2.1 x.2.2.2.1 x.2.2.2.2.1 x.2.2.2.2.2.1 x.2.2.2.2.2.2.1 x.2.2.2.2.2.2.2.1 x.2.2.2.2.2.2.2.2.1 x.2.2.2.2.2.2.2.2.2.1 x.2.2.2.2.2.2.2.2.2.2.1 x.2.2.2.2.2.2.2.2.2.2.2.1) (v0, (v1, (v2, (v6, (v7, (v8, (v11, (v13, ((0 : Int), (v0, ((((v0).length : Nat) : Int), ((0 : Int), ()))))))))))))) fun z4 =>
 need (rng .i64 (z4.2.2.2.2.2.2.2.1 + (1 : Int))) (
 some (.inl (z4.1, (z4.2.1, (z4.2.2.1, (z4.2.2.2.1, (z4.2.2.2.2.1, (z4.2.2.2.2.2.1, (z4.2.2.2.2.2.2.1, ((z4.2.2.2.2.2.2.2.1 + (1 : Int)), ()))))))))))) (
 need (inb v13 (((v2).length : Nat) : Int)) (
 brO (((v2).getD (Int.toNat v13) (0 : Int)) == (0 : Int)) (
 need (rng .i64 (v13 + (1 : Int))) (
 some (.inl (v0, (v1, (v2, (v6, (v7, (v8, (v11, ((v13 + (1 : Int)), ()))))))))))) (
 need (inb v13 (((v0).length : Nat) : Int)) (
 need (inb v13 (((v2).length : Nat) : Int)) (
 need (rng .i64 (((v2).getD (Int.toNat v13) (0 : Int)) - (1 : Int))) (
 need (inb (((v2).getD (Int.toNat v13) (0 : Int)) - (1 : Int)) (((((v0).getD (Int.toNat v13) [])).length : Nat) : Int)) (
 bindO (iter (fun x => g33_1 x.1 x.2.1 x.2.2.1 x.2.2.2.1 x.2.2.2.2.1 x.2.2.2.2.2.1 x.2.2.2.2.2.2.1 x.2.2.2.2.2.2.2.1 x.2.2.2.2.2.2.2.2.1 x.2.2.2.2.2.2.2.2.2.1 x.2.2.2.2.2.2.2.2.2.2.1 x.2.2.2.2.2.2.2.2.2.2.2.1) (v0, (v1, (v2, (v6, (v7, (v8, (v11, (v13, (((((v0).getD (Int.toNat v13) [])).getD (Int.toNat (((v2).getD (Int.toNat v13) (0 : Int)) - (1 : Int))) (0 : Int)), (v0, ((((v0).length : Nat) : Int), ((0 : Int), ()))))))))))))) fun z5 =>
 need (rng .i64 (z5.2.2.2.2.2.2.2.1 + (1 : Int))) (
 some (.inl (z5.1, (z5.2.1, (z5.2.2.1, (z5.2.2.2.1, (z5.2.2.2.2.1, (z5.2.2.2.2.2.1, (z5.2.2.2.2.2.2.1, ((z5.2.2.2.2.2.2.2.1 + (1 : Int)), ()))))))))))))))))))) (
 some (.inr (v6, (v7, (v8, ())))))
def Cg33_0 (v0 : List (List Int)) (v1 : Int) (v2 : List Int) (v6 : Int) (v7 : Int) (v8 : Int) (v11 : Int) (v13 : Int) : Option ((List (List Int) × Int × List Int × Int × Int × Int × Int × Int × Unit) ⊕ ((Int × Int × Int × Unit))) :=
 brC (decide (v13 < (((v0).length : Nat) : Int))) (
 brC (v13 == (-1 : Int)) (
 brC (v11 == v1) (
 needC (rng .i64 (v13 + (1 : Int))) (
 some (.inl (v0, (v1, (v2, (v6, (v7, (v8, (v11, ((v13 + (1 : Int)), ()))))))))))) (
 brC (v13 == (-1 : Int)) (
 bindC (iterF (fun x => Cg33_1 x.1 x.2.1 x.2.2.1 x.2.2.2.1 x.2.2.2.2.1 x.2.2.2.2.2.1 x.2.2.2.2.2.2.1 x.2.2.2.2.2.2.2.1 x.2.2.2.2.2.2.2.2.1 x.2.2.2.2.2.2.2.2.2.1 x.2.2.2.2.2.2.2.2.2.2.1 x.2.2.2.2.2.2.2.2.2.2.2.1) 1000000 (v0, (v1, (v2, (v6, (v7, (v8, (v11, (v13, ((0 : Int), (v0, ((((v0).length : Nat) : Int), ((0 : Int), ()))))))))))))) fun z2 =>
 needC (rng .i64 (z2.2.2.2.2.2.2.2.1 + (1 : Int))) (
 some (.inl (z2.1, (z2.2.1, (z2.2.2.1, (z2.2.2.2.1, (z2.2.2.2.2.1, (z2.2.2.2.2.2.1, (z2.2.2.2.2.2.2.1, ((z2.2.2.2.2.2.2.2.1 + (1 : Int)), ()))))))))))) (
 needC (inb v13 (((v2).length : Nat) : Int)) (
 brC (((v2).getD (Int.toNat v13) (0 : Int)) == (0 : Int)) (
 needC (rng .i64 (v13 + (1 : Int))) (
 some (.inl (v0, (v1, (v2, (v6, (v7, (v8, (v11, ((v13 + (1 : Int)), ()))))))))))) (
 needC (inb v13 (((v0).length : Nat) : Int)) (
 needC (inb v13 (((v2).length : Nat) : Int)) (
 needC (rng .i64 (((v2).getD (Int.toNat v13) (0 : Int)) - (1 : Int))) (
 needC (inb (((v2).getD (Int.toNat v13) (0 : Int)) - (1 : Int)) (((((v0).getD (Int.toNat v13) [])).length : Nat) : Int)) (
 bindC (iterF (fun x => Cg33_1 x.1 x.2.1 x.2.2.1 x.2.2.2.1 x.2.2.2.2.1 x.2.2.2.2.2.1 x.2.2.2.2.2.2.1 x.2.2.2.2.2.2.2.1 x.2.2.2.2.2.2.2.2.1 x.2.2.2.2.2.2.2.2.2.1 x.2.2.2.2.2.2.2.2.2.2.1 x.2.2.2.2.2.2.2.2.2.2.2.1) 1000000 (v0, (v1, (v2, (v6, (v7, (v8, (v11, (v13, (((((v0).getD (Int.toNat v13) [])).getD (Int.toNat (((v2).getD (Int.toNat v13) (0 : Int)) - (1 : Int))) (0 : Int)), (v0, ((((v0).length : Nat) : Int), ((0 : Int), ()))))))))))))) fun z3 =>
 needC (rng .i64 (z3.2.2.2.2.2.2.2.1 + (1 : Int))) (
 some (.inl (z3.1, (z3.2.1, (z3.2.2.1, (z3.2.2.2.1, (z3.2.2.2.2.1, (z3.2.2.2.2.2.1, (z3.2.2.2.2.2.2.1, ((z3.2.2.2.2.2.2.2.1 + (1 : Int)), ()))))))))))))))))))) (
 brC (v13 == (-1 : Int)) (
 bindC (iterF (fun x => Cg33_1 x.1 x.2.1 x.2.2.1 x.2.2.2.1 x.2.2.2.2.1 x.2.2.2.2.2.1 x.2.2.2.2.2.2.1 x.2.2.2.2.2.2.2.1 x.2.2.2.2.2.2.2.2.1 x.2.2.2.2.2.2.2.2.2.1 x.2.2.2.2.2.2.2.2.2.2.1 x.2.2.2.2.2.2.2.2.2.2.2.1) 1000000 (v0, (v1, (v2, (v6, (v7, (v8, (v11, (v13, ((0 : Int), (v0, ((((v0).length : Nat) : Int), ((0 : Int), ()))))))))))))) fun z4 =>
 needC (rng .i64 (z4.2.2.2.2.2.2.2.1 + (1 : Int))) (
 some (.inl (z4.1, (z4.2.1, (z4.2.2.1, (z4.2.2.2.1, (z4.2.2.2.2.1, (z4.2.2.2.2.2.1, (z4.2.2.2.2.2.2.1, ((z4.2.2.2.2.2.2.2.1 + (1 : Int)), ()))))))))))) (
 needC (inb v13 (((v2).length : Nat) : Int)) (
 brC (((v2).getD (Int.toNat v13) (0 : Int)) == (0 : Int)) (
 needC (rng .i64 (v13 + (1 : Int))) (
 some (.inl (v0, (v1, (v2, (v6, (v7, (v8, (v11, ((v13 + (1 : Int)), ()))))))))))) (
 needC (inb v13 (((v0).length : Nat) : Int)) (
 needC (inb v13 (((v2).length : Nat) : Int)) (
 needC (rng .i64 (((v2).getD (Int.toNat v13) (0 : Int)) - (1 : Int))) (
 needC (inb (((v2).getD (Int.toNat v13) (0 : Int)) - (1 : Int)) (((((v0).getD (Int.toNat v13) [])).length : Nat) : Int)) (
 bindC (iterF (fun x => Cg33_1 x.1 x.2.1 x.2.2.1 x.2.2.2.1 x.2.2.2.2.1 x.2.2.2.2.2.1 x.2.2.2.2.2.2.1 x.2.2.2.2.2.2.2.1 x.2.2.2.2.2.2.2.2.1 x.2.2.2.2.2.2.2.2.2.1 x.2.2.2.2.2.2.2.2.2.2.1 x.2.2.2.2.2.2.2.2.2.2.2.1) 1000000 (v0, (v1, (v2, (v6, (v7, (v8, (v11, (v13, (((((v0).getD (Int.toNat v13) [])).getD (Int.toNat (((v2).getD (Int.toNat v13) (0 : Int)) - (1 : Int))) (0 : Int)), (v0, ((((v0).length : Nat) : Int), ((0 : Int), ()))))))))))))) fun z5 =>
 needC (rng .i64 (z5.2.2.2.2.2.2.2.1 + (1 : Int))) (
 some (.inl (z5.1, (z5.2.1, (z5.2.2.1, (z5.2.2.2.1, (z5.2.2.2.2.1, (z5.2.2.2.2.2.1, (z5.2.2.2.2.2.2.1, ((z5.2.2.2.2.2.2.2.1 + (1 : Int)), ()))))))))))))))))))) (
 some (.inr (v6, (v7, (v8, ())))))
theorem Cg33_0_le (v0 : List (List Int)) (v1 : Int) (v2 : List Int) (v6 : Int) (v7 : Int) (v8 : Int) (v11 : Int) (v13 : Int) : Le (Cg33_0 v0 v1 v2 v6 v7 v8 v11 v13) (g33_0 v0 v1 v2 v6 v7 v8 v11 v13) := (Le.br (Le.br (Le.br (Le.nd Le.r) (Le.br (Le.bd (Le.iter fun x => Cg33_1_le ..) fun z2 => (Le.nd Le.r)) (Le.nd (Le.br (Le.nd Le.r) (Le.nd (Le.nd (Le.nd (Le.nd (Le.bd (Le.iter fun x => Cg33_1_le ..) fun z3 => (Le.nd Le.r)))))))))) (Le.br (Le.bd (Le.iter fun x => Cg33_1_le ..) fun z4 => (Le.nd Le.r)) (Le.nd (Le.br (Le.nd Le.r) (Le.nd (Le.nd (Le.nd (Le.nd (Le.bd (Le.iter fun x => Cg33_1_le ..) fun z5 => (Le.nd Le.r)))))))))) Le.r)
noncomputable def L33_0 : LoopS prog 113 none 0 := mkLoop mixed cx33 cx33_ok [] rfl p33_0 x33_0 rfl (b33_0) (fun x => g33_0 x.1 x.2.1 x.2.2.1 x.2.2.2.1 x.2.2.2.2.1 x.2.2.2.2.2.1 x.2.2.2.2.2.2.1 x.2.2.2.2.2.2.2.1) (by intro x; kernel_rfl)
noncomputable def dd33 : D prog 113 none 0 := (.seq (.reg [oo 6 (.mv (ki 0)), oo 7 (.mv (ki 0)), oo 8 (.mv (ki 0)), oo 9 (.mv (ki 0))]) (.seq (.seq (.reg [om 18 0, om 19 1, .call (some 20) none (.c (.fn 55 [] [])) [.t 18, .t 19] [some (.list (.list (.int .i64))), some (.int .i64)], om 10 20]) (.seq (.reg [om 21 10, oo 22 (.bin .neq (.t 21) (ki 0))]) (.cond ( .t 22) (.seq (.reg [om 23 10, oo 6 (.mv (ki 0)), oo 7 (.mv (ki 0)), oo 8 (.mv (ki 0)), om 9 23]) .ret) .skip))) (.seq (.reg [om 25 0, om 26 2, .call (some 27) none (.c (.fn 18 [] [])) [.t 25, .t 26] [some (.list (.list (.int .i64))), some (.list (.int .i64))], om 24 27, oo 28 (.ext 0 (.t 24)), oo 29 (.ext 1 (.t 24)), oo 30 (.ext 2 (.t 24)), om 11 28, om 12 29, om 9 30]) (.seq (.block 0 (.seq (.reg [om 32 9, oo 33 (.bin .neq (.t 32) (ki 0)), om 31 33]) (.cond ( .t 31) (.seq (.reg [om 34 9, oo 6 (.mv (ki 0)), oo 7 (.mv (ki 0)), oo 8 (.mv (ki 0)), om 9 34]) .ret) (.seq (.reg [om 36 11, om 37 1, oo 38 (.bin .gtr (.t 36) (.t 37)), om 35 38]) (.cond ( .t 35) (.seq (.reg [oo 6 (.mv (ki 0)), oo 7 (.mv (ki 0)), oo 8 (.mv (ki 0)), oo 9 (.mv (ki 10))]) .ret) .skip))))) (.seq .skip (.seq (.seq (.reg [oo 13 (.mv (.c (.int .i64 (Int.negSucc 0))))]) (.block 1 (.loop L33_0))) (.seq (.seq (.reg [om 108 8, oo 109 (.bin .eql (.t 108) (ki 0))]) (.cond ( .t 109) (.seq (.reg [oo 6 (.mv (ki 0)), oo 7 (.mv (ki 0)), oo 8 (.mv (ki 0)), oo 9 (.mv (ki 5))]) .ret) .skip)) (.seq (.reg [om 110 6, om 111 7, om 112 8, om 6 110, om 7 111, om 8 112, oo 9 (.mv (ki 0))]) .ret))))))))
noncomputable def F33 (a0 : List (List Int)) (a1 : Int) (a2 : List Int) : Option (Int × Int × Int × Int × Unit) :=
 bindO (F55 a0 a1) fun y0 =>
 brO (!(y0.1 == (0 : Int))) (
 some ((0 : Int), ((0 : Int), ((0 : Int), (y0.1, ()))))) (
 bindO (F18 a0 a2) fun y1 =>
 brO (!(y1.2.2.1 == (0 : Int))) (
 some ((0 : Int), ((0 : Int), ((0 : Int), (y1.2.2.1, ()))))) (
 brO (decide (a1 < y1.1)) (
 some ((0 : Int), ((0 : Int), ((0 : Int), ((10 : Int), ()))))) (
 bindO (iter (fun x => g33_0 x.1 x.2.1 x.2.2.1 x.2.2.2.1 x.2.2.2.2.1 x.2.2.2.2.2.1 x.2.2.2.2.2.2.1 x.2.2.2.2.2.2.2.1) (a0, (a1, (a2, ((0 : Int), ((0 : Int), ((0 : Int), (y1.1, ((-1 : Int), ()))))))))) fun z6 =>
 brO (z6.2.2.1 == (0 : Int)) (
 some ((0 : Int), ((0 : Int), ((0 : Int), ((5 : Int), ()))))) (
 some (z6.1, (z6.2.1, (z6.2.2.1, ((0 : Int), ()))))))))
def CF33 (a0 : List (List Int)) (a1 : Int) (a2 : List Int) : Option (Int × Int × Int × Int × Unit) :=
 bindC (CF55 a0 a1) fun y0 =>
 brC (!(y0.1 == (0 : Int))) (
 some ((0 : Int), ((0 : Int), ((0 : Int), (y0.1, ()))))) (
 bindC (CF18 a0 a2) fun y1 =>
 brC (!(y1.2.2.1 == (0 : Int))) (
 some ((0 : Int), ((0 : Int), ((0 : Int), (y1.2.2.1, ()))))) (
 brC (decide (a1 < y1.1)) (
 some ((0 : Int), ((0 : Int), ((0 : Int), ((10 : Int), ()))))) (
 bindC (iterF (fun x => Cg33_0 x.1 x.2.1 x.2.2.1 x.2.2.2.1 x.2.2.2.2.1 x.2.2.2.2.2.1 x.2.2.2.2.2.2.1 x.2.2.2.2.2.2.2.1) 1000000 (a0, (a1, (a2, ((0 : Int), ((0 : Int), ((0 : Int), (y1.1, ((-1 : Int), ()))))))))) fun z6 =>
 brC (z6.2.2.1 == (0 : Int)) (
 some ((0 : Int), ((0 : Int), ((0 : Int), ((5 : Int), ()))))) (
 some (z6.1, (z6.2.1, (z6.2.2.1, ((0 : Int), ()))))))))
theorem CF33_le (a0 : List (List Int)) (a1 : Int) (a2 : List Int) : Le (CF33 a0 a1 a2) (F33 a0 a1 a2) := (Le.bd (CF55_le ..) fun y0 => (Le.br Le.r (Le.bd (CF18_le ..) fun y1 => (Le.br Le.r (Le.br Le.r (Le.bd (Le.iter fun x => Cg33_0_le ..) fun z6 => (Le.br Le.r Le.r)))))))
theorem c33_ok : trF prog f33 = some ⟨113, 3, dd33.er, [.t 6, .t 7, .t 8, .t 9], [some (.int .i64), some (.int .i64), some (.int .i64), some (.int .i64)]⟩ := by kernel_rfl
noncomputable def ct33 : Ct := ⟨33, [.c (.hole (.list (.list (.int .i64)))), .c (.hole (.int .i64)), .c (.hole (.list (.int .i64)))], .tup [.hole (.int .i64), .hole (.int .i64), .hole (.int .i64), .hole (.int .i64)], fun x => F33 x.1 x.2.1 x.2.2.1⟩
theorem ct33_ok : ct33.Ok prog := ct_ok mixed cx33_ok func33 c33_ok (enters_of func33 rfl rfl) dd33 rfl rfl (fun x => by kernel_rfl)

/- 27 -/
noncomputable def cx27 : Cx := mkCxH [ct55, ct48, ct58] []
theorem cx27_ok : cx27.Ok prog := mkCxH_ok ⟨ct55_ok, ct48_ok, ct58_ok, trivial⟩ trivial
noncomputable def ad27_0 : D prog 37 (some 3) 5 := (.reg [.op (some 10) none (.alloc [.int .i64 (Int.ofNat 0), .int .i64 (Int.ofNat 0)]), .op none none (.store 2 (.t 10) (.t 25))])
noncomputable def bd27_0 : D prog 37 (some 3) 5 := (.block 1 (.seq (.seq (.reg [.op (some 26) none (.fld 0 [false] (.t 10)), .op (some 27) none (.load false 1 (.t 26)), .op (some 28) none (.load false 1 (.t 5)), .op (some 29) none (.bin .leq (.t 27) (.t 28))]) (.cond ( .t 29) (.exit 0) .skip)) (.reg [.op (some 30) none (.load false 1 (.t 9)), .op (some 31) none (.fld 0 [false] (.t 10)), .op (some 32) none (.load false 1 (.t 31)), .op (some 33) none (.load false 1 (.t 5)), .op (some 34) none (.bin .sub (.t 32) (.t 33)), .op (some 35) none (.bin .add (.t 30) (.t 34)), .op none none (.store 1 (.t 9) (.t 35))])))
noncomputable def cx27_0i : Cx := itCx cx27 (fun kz => rdK kz cx27 ar0 3 5 [25] (ad27_0) (bd27_0))
theorem cx27_0i_ok : (cx27_0i).Ok prog := itCx_ok cx27_ok (fun h => rdK_ok mixed cx27_ok h)
@[reducible] def p27_0i_0 : Pat := Pat.mk [(0, .c (.yl 3)), (5, .c (.hole (.list (.prod (.int .i64) (.int .i64))))), (6, hzI), (7, hzI)] [(3, .loop .ready none 2 [(5, .c (.ptr 0 0)), (6, hzI), (7, hzI), (9, .c (.ptr 1 0)), (24, .fn 80 [] [.ipc (.list (.prod (.int .i64) (.int .i64)))])] [25] (.reg [.op (some 10) none (.alloc [.int .i64 (Int.ofNat 0), .int .i64 (Int.ofNat 0)]), .op none none (.store 2 (.t 10) (.t 25))]) (.block 1 (.seq (.seq (.reg [.op (some 26) none (.fld 0 [false] (.t 10)), .op (some 27) none (.load false 1 (.t 26)), .op (some 28) none (.load false 1 (.t 5)), .op (some 29) none (.bin .leq (.t 27) (.t 28))]) (.cond (.t 29) (.exit 0) .skip)) (.reg [.op (some 30) none (.load false 1 (.t 9)), .op (some 31) none (.fld 0 [false] (.t 10)), .op (some 32) none (.load false 1 (.t 31)), .op (some 33) none (.load false 1 (.t 5)), .op (some 34) none (.bin .sub (.t 32) (.t 33)), .op (some 35) none (.bin .add (.t 30) (.t 34)), .op none none (.store 1 (.t 9) (.t 35))]))) 37), (2, .dfr), (0, .cells [.hole (.int .i64)] false), (1, .cells [.hole (.int .i64)] false)] [] []
@[reducible] def x27_0i_0 : Outs := [(.ret, Pat.mk [] [(0, .cells [.hole (.int .i64)] false), (1, .cells [.hole (.int .i64)] false), (2, .dfr), (3, .loop .done (some (.exit 0)) 2 [(5, .c (.ptr 0 0)), (6, hzI), (7, hzI), (9, .c (.ptr 1 0)), (24, .fn 80 [] [.ipc (.list (.prod (.int .i64) (.int .i64)))])] [25] (.reg [.op (some 10) none (.alloc [.int .i64 (Int.ofNat 0), .int .i64 (Int.ofNat 0)]), .op none none (.store 2 (.t 10) (.t 25))]) (.block 1 (.seq (.seq (.reg [.op (some 26) none (.fld 0 [false] (.t 10)), .op (some 27) none (.load false 1 (.t 26)), .op (some 28) none (.load false 1 (.t 5)), .op (some 29) none (.bin .leq (.t 27) (.t 28))]) (.cond (.t 29) (.exit 0) .skip)) (.reg [.op (some 30) none (.load false 1 (.t 9)), .op (some 31) none (.fld 0 [false] (.t 10)), .op (some 32) none (.load false 1 (.t 31)), .op (some 33) none (.load false 1 (.t 5)), .op (some 34) none (.bin .sub (.t 32) (.t 33)), .op (some 35) none (.bin .add (.t 30) (.t 34)), .op none none (.store 1 (.t 9) (.t 35))]))) 37)] [] []), (.exit 0, Pat.mk [] [(0, .cells [.hole (.int .i64)] false), (1, .cells [.hole (.int .i64)] false), (2, .dfr), (3, .loop .ready none 2 [(5, .c (.ptr 0 0)), (6, hzI), (7, hzI), (9, .c (.ptr 1 0)), (24, .fn 80 [] [.ipc (.list (.prod (.int .i64) (.int .i64)))])] [25] (.reg [.op (some 10) none (.alloc [.int .i64 (Int.ofNat 0), .int .i64 (Int.ofNat 0)]), .op none none (.store 2 (.t 10) (.t 25))]) (.block 1 (.seq (.seq (.reg [.op (some 26) none (.fld 0 [false] (.t 10)), .op (some 27) none (.load false 1 (.t 26)), .op (some 28) none (.load false 1 (.t 5)), .op (some 29) none (.bin .leq (.t 27) (.t 28))]) (.cond (.t 29) (.exit 0) .skip)) (.reg [.op (some 30) none (.load false 1 (.t 9)), .op (some 31) none (.fld 0 [false] (.t 10)), .op (some 32) none (.load false 1 (.t 31)), .op (some 33) none (.load false 1 (.t 5)), .op (some 34) none (.bin .sub (.t 32) (.t 33)), .op (some 35) none (.bin .add (.t 30) (.t 34)), .op none none (.store 1 (.t 9) (.t 35))]))) 37)] [] [])]
noncomputable def b27_0i_0 : D prog 16 none 4 := (.seq (.reg [oo 8 (.bin .lss (.t 7) (.t 6))]) (.seq (.cond ( .t 8) .skip (.exit 0)) (.seq (.block 1 (.seq (.reg [oo 9 (.idx 2 (.t 5) (.t 7)), oo 10 (.load true 2 (.t 9)), oo 4 (.alloc [.int .i64 (Int.ofNat 0), .int .i64 (Int.ofNat 0)]), .op none none (.store 2 (.t 4) (.t 10))]) (.seq (.reg [om 11 0, oo 12 (.load true 2 (.t 4)), .call (some 13) none (.t 11) [.t 12] [some (.prod (.int .i64) (.int .i64))], oo 14 (.not (.t 13))]) (.cond ( .t 14) .ret .skip)))) (.reg [oo 15 (.bin .add (.t 7) (ki 1)), om 7 15]))))
noncomputable def g27_0i_0 (v5 : List (Int × Int)) (v6 : Int) (v7 : Int) (w6 : Int) (w7 : Int) (w24_0 : List (Int × Int)) (c0_0 : Int) (c1_0 : Int) : Option (((List (Int × Int)) × Int × Int × Int × Int × (List (Int × Int)) × Int × Int × Unit) ⊕ ((Int × Int × Int × Int × (List (Int × Int)) × Unit) ⊕ ((Int × Int × Int × Int × (List (Int × Int)) × Unit)))) :=
 brO (decide (v7 < v6)) (
 need (inb v7 (((v5).length : Nat) : Int)) (
 brO (decide (((v5).getD (Int.toNat v7) ((0 : Int), (0 : Int))).1 ≤ c0_0)) (
 some (.inr <| .inl <| (c0_0, (c1_0, (w6, (w7, (w24_0, ()))))))) (
 need (rng .i64 (((v5).getD (Int.toNat v7) ((0 : Int), (0 : Int))).1 - c0_0)) (
 need (rng .i64 (c1_0 + (((v5).getD (Int.toNat v7) ((0 : Int), (0 : Int))).1 - c0_0))) (
 need (rng .i64 (v7 + (1 : Int))) (
 some (.inl (v5, (v6, ((v7 + (1 : Int)), (w6, (w7, (w24_0, (c0_0, ((c1_0 + (((v5).getD (Int.toNat v7) ((0 : Int), (0 : Int))).1 - c0_0)), ()))))))))))))))) (
 some (.inr <| .inr <| (c0_0, (c1_0, (w6, (w7, (w24_0, ())))))))
def Cg27_0i_0 (v5 : List (Int × Int)) (v6 : Int) (v7 : Int) (w6 : Int) (w7 : Int) (w24_0 : List (Int × Int)) (c0_0 : Int) (c1_0 : Int) : Option (((List (Int × Int)) × Int × Int × Int × Int × (List (Int × Int)) × Int × Int × Unit) ⊕ ((Int × Int × Int × Int × (List (Int × Int)) × Unit) ⊕ ((Int × Int × Int × Int × (List (Int × Int)) × Unit)))) :=
 brC (decide (v7 < v6)) (
 needC (inb v7 (((v5).length : Nat) : Int)) (
 brC (decide (((v5).getD (Int.toNat v7) ((0 : Int), (0 : Int))).1 ≤ c0_0)) (
 some (.inr <| .inl <| (c0_0, (c1_0, (w6, (w7, (w24_0, ()))))))) (
 needC (rng .i64 (((v5).getD (Int.toNat v7) ((0 : Int), (0 : Int))).1 - c0_0)) (
 needC (rng .i64 (c1_0 + (((v5).getD (Int.toNat v7) ((0 : Int), (0 : Int))).1 - c0_0))) (
 needC (rng .i64 (v7 + (1 : Int))) (
 some (.inl (v5, (v6, ((v7 + (1 : Int)), (w6, (w7, (w24_0, (c0_0, ((c1_0 + (((v5).getD (Int.toNat v7) ((0 : Int), (0 : Int))).1 - c0_0)), ()))))))))))))))) (
 some (.inr <| .inr <| (c0_0, (c1_0, (w6, (w7, (w24_0, ())))))))
theorem Cg27_0i_0_le (v5 : List (Int × Int)) (v6 : Int) (v7 : Int) (w6 : Int) (w7 : Int) (w24_0 : List (Int × Int)) (c0_0 : Int) (c1_0 : Int) : Le (Cg27_0i_0 v5 v6 v7 w6 w7 w24_0 c0_0 c1_0) (g27_0i_0 v5 v6 v7 w6 w7 w24_0 c0_0 c1_0) := (Le.br (Le.nd (Le.br Le.r (Le.nd (Le.nd (Le.nd Le.r))))) Le.r)
noncomputable def L27_0i_0 : LoopS prog 16 none 4 := mkLoop mixed cx27_0i cx27_0i_ok [0, 1, 2, 3] rfl p27_0i_0 x27_0i_0 rfl (b27_0i_0) (fun x => g27_0i_0 x.1 x.2.1 x.2.2.1 x.2.2.2.1 x.2.2.2.2.1 x.2.2.2.2.2.1 x.2.2.2.2.2.2.1 x.2.2.2.2.2.2.2.1) (by intro x; kernel_rfl)
@[reducible] def p27_0 : Pat := Pat.mk [(5, .c (.ptr 0 0)), (6, hzI), (7, hzI), (9, .c (.ptr 1 0)), (24, .fn 80 [] [.ipc (.list (.prod (.int .i64) (.int .i64)))])] [(0, .cells [.hole (.int .i64)] false), (1, .cells [.hole (.int .i64)] false)] [.slot 5, .slot 9] []
@[reducible] def x27_0 : Outs := [(.exit 0, Pat.mk [(9, .c (.ptr 0 0))] [(0, .cells [.hole (.int .i64)] false), (1, .dfr)] [.slot 9, .mark 0] [1]), (.normal, Pat.mk [(9, .c (.ptr 0 0))] [(0, .cells [.hole (.int .i64)] false), (1, .dfr)] [.slot 9, .mark 0] [1])]
noncomputable def b27_0i : D prog 16 none 4 := (.seq (.reg [ol 5 1, oo 6 (.len (.t 5)), oo 7 (.mv (ki 0))]) (.block 0 (.loop L27_0i_0)))
theorem ci27_0 : trF prog f80 = some ⟨16, 2, (b27_0i).er, [], []⟩ := by kernel_rfl
noncomputable def g27_0 (v6 : Int) (v7 : Int) (v24_0 : List (Int × Int)) (c0_0 : Int) (c1_0 : Int) : Option ((Int × Unit) ⊕ ((Int × Unit))) :=
 bindO (iter (fun x => g27_0i_0 x.1 x.2.1 x.2.2.1 x.2.2.2.1 x.2.2.2.2.1 x.2.2.2.2.2.1 x.2.2.2.2.2.2.1 x.2.2.2.2.2.2.2.1) (v24_0, ((((v24_0).length : Nat) : Int), ((0 : Int), (v6, (v7, (v24_0, (c0_0, (c1_0, ()))))))))) fun z3 =>
 match z3 with
 | .inl z4 =>
 some (.inl <| (z4.2.1, ()))
 | .inr z5 =>
 some (.inr <| (z5.2.1, ()))
def Cg27_0 (v6 : Int) (v7 : Int) (v24_0 : List (Int × Int)) (c0_0 : Int) (c1_0 : Int) : Option ((Int × Unit) ⊕ ((Int × Unit))) :=
 bindC (iterF (fun x => Cg27_0i_0 x.1 x.2.1 x.2.2.1 x.2.2.2.1 x.2.2.2.2.1 x.2.2.2.2.2.1 x.2.2.2.2.2.2.1 x.2.2.2.2.2.2.2.1) 1000000 (v24_0, ((((v24_0).length : Nat) : Int), ((0 : Int), (v6, (v7, (v24_0, (c0_0, (c1_0, ()))))))))) fun z3 =>
 match z3 with
 | .inl z4 =>
 some (.inl <| (z4.2.1, ()))
 | .inr z5 =>
 some (.inr <| (z5.2.1, ()))
theorem Cg27_0_le (v6 : Int) (v7 : Int) (v24_0 : List (Int × Int)) (c0_0 : Int) (c1_0 : Int) : Le (Cg27_0 v6 v7 v24_0 c0_0 c1_0) (g27_0 v6 v7 v24_0 c0_0 c1_0) := (Le.bd (Le.iter fun x => Cg27_0i_0_le ..) fun z3 => (match z3 with | .inl z4 => Le.r | .inr z5 => Le.r))
theorem s27_0 : ∀ x, rangeE (N := 37) (out := none) (base := 0) (kzO x27_0.T) cx27_0i ar0 [] p27_0 x27_0 ( .t 24) [25] (ad27_0).er (bd27_0).er [] 2 80 (b27_0i) some x = g27_0 x.1 x.2.1 x.2.2.1 x.2.2.2.1 x.2.2.2.2.1 := by intro x; kernel_rfl
noncomputable def R27_0 : RangeS prog 37 none 0 := mkRange mixed cx27_0i cx27_0i_ok [] rfl p27_0 x27_0 ( .t 24) [25] rfl (ad27_0).er (bd27_0).er 80 func80 (ci27_0) (enters_of func80 rfl rfl) 4 rfl (b27_0i) rfl (fun x => g27_0 x.1 x.2.1 x.2.2.1 x.2.2.2.1 x.2.2.2.2.1) (s27_0)
noncomputable def dd27 : D prog 37 none 0 := (.seq (.reg [oo 5 (.box (.t 2)), oo 6 (.mv (ki 0)), oo 7 (.mv (ki 0))]) (.seq (.seq (.reg [om 11 0, om 12 1, .call (some 13) none (.c (.fn 55 [] [])) [.t 11, .t 12] [some (.list (.list (.int .i64))), some (.int .i64)], om 8 13]) (.seq (.reg [om 14 8, oo 15 (.bin .neq (.t 14) (ki 0))]) (.cond ( .t 15) (.seq (.reg [om 16 8, oo 6 (.mv (ki 0)), om 7 16]) .ret) .skip))) (.seq (.seq (.reg [ol 17 5, .call (some 18) none (.c (.fn 48 [] [])) [ki 0, .t 17, ki 1000000] [some (.int .i64), some (.int .i64), some (.int .i64)], oo 19 (.not (.t 18))]) (.cond ( .t 19) (.seq (.reg [oo 6 (.mv (ki 0)), oo 7 (.mv (ki 2))]) .ret) .skip)) (.seq (.reg [ol 20 5, om 21 1, oo 22 (.bin .mul (.t 20) (.t 21)), oo 9 (.alloc [.int .i64 (Int.ofNat 0)]), .op none none (.store 1 (.t 9) (.t 22))]) (.seq (.seq (.reg [om 23 0, .call (some 24) none (.c (.fn 58 [] [])) [.t 23, .c (.fn 59 [] [])] [some (.list (.list (.int .i64))), none]]) (.block 0 (.rangeF R27_0))) (.seq (.reg [ol 36 9, om 6 36, oo 7 (.mv (ki 0))]) .ret))))))
noncomputable def F27 (a0 : List (List Int)) (a1 : Int) (a2 : Int) : Option (Int × Int × Unit) :=
 bindO (F55 a0 a1) fun y0 =>
 brO (!(y0.1 == (0 : Int))) (
 some ((0 : Int), (y0.1, ()))) (
 bindO (F48 (0 : Int) a2 (1000000 : Int)) fun y1 =>
 brO (!y1.1) (
 some ((0 : Int), ((2 : Int), ()))) (
 need (rng .i64 (a2 * a1)) (
 bindO (F58 a0) fun y2 =>
 bindO (g27_0 (0 : Int) (0 : Int) y2.1 a2 (a2 * a1)) fun z6 =>
 match z6 with
 | .inl z7 =>
 some (z7.1, ((0 : Int), ()))
 | .inr z8 =>
 some (z8.1, ((0 : Int), ())))))
def CF27 (a0 : List (List Int)) (a1 : Int) (a2 : Int) : Option (Int × Int × Unit) :=
 bindC (CF55 a0 a1) fun y0 =>
 brC (!(y0.1 == (0 : Int))) (
 some ((0 : Int), (y0.1, ()))) (
 bindC (CF48 (0 : Int) a2 (1000000 : Int)) fun y1 =>
 brC (!y1.1) (
 some ((0 : Int), ((2 : Int), ()))) (
 needC (rng .i64 (a2 * a1)) (
 bindC (CF58 a0) fun y2 =>
 bindC (Cg27_0 (0 : Int) (0 : Int) y2.1 a2 (a2 * a1)) fun z6 =>
 match z6 with
 | .inl z7 =>
 some (z7.1, ((0 : Int), ()))
 | .inr z8 =>
 some (z8.1, ((0 : Int), ())))))
theorem CF27_le (a0 : List (List Int)) (a1 : Int) (a2 : Int) : Le (CF27 a0 a1 a2) (F27 a0 a1 a2) := (Le.bd (CF55_le ..) fun y0 => (Le.br Le.r (Le.bd (CF48_le ..) fun y1 => (Le.br Le.r (Le.nd (Le.bd (CF58_le ..) fun y2 => (Le.bd (Cg27_0_le ..) fun z6 => (match z6 with | .inl z7 => Le.r | .inr z8 => Le.r))))))))
theorem c27_ok : trF prog f27 = some ⟨37, 3, dd27.er, [.t 6, .t 7], [some (.int .i64), some (.int .i64)]⟩ := by kernel_rfl
noncomputable def ct27 : Ct := ⟨27, [.c (.hole (.list (.list (.int .i64)))), .c (.hole (.int .i64)), .c (.hole (.int .i64))], .tup [.hole (.int .i64), .hole (.int .i64)], fun x => F27 x.1 x.2.1 x.2.2.1⟩
theorem ct27_ok : ct27.Ok prog := ct_ok mixed cx27_ok func27 c27_ok (enters_of func27 rfl rfl) dd27 rfl rfl (fun x => by kernel_rfl)

/- 56 -/
noncomputable def cx56 : Cx := mkCxH [ct58] []
theorem cx56_ok : cx56.Ok prog := mkCxH_ok ⟨ct58_ok, trivial⟩ trivial
noncomputable def ad56_0 : D prog 30 (some 5) 8 := (.reg [.op (some 6) none (.alloc [.int .i64 (Int.ofNat 0), .int .i64 (Int.ofNat 0)]), .op none none (.store 2 (.t 6) (.t 12))])
noncomputable def bd56_0 : D prog 30 (some 5) 8 := (.block 1 (.seq (.seq (.reg [.op (some 13) none (.load false 1 (.t 3)), .op (some 14) none (.bin .eql (.t 13) (.c (.int .i64 (Int.ofNat 0))))]) (.cond ( .t 14) (.exit 0) .skip)) (.seq (.reg [.op (some 15) none (.load false 1 (.t 3)), .op (some 16) none (.bin .sub (.t 15) (.c (.int .i64 (Int.ofNat 1)))), .op none none (.store 1 (.t 3) (.t 16))]) (.seq (.reg [.op (some 17) none (.load false 1 (.t 4)), .op (some 18) none (.fld 1 [true] (.t 6)), .op (some 19) none (.load false 1 (.t 18)), .op (some 20) none (.idx 1 (.t 17) (.t 19)), .op (some 21) none (.load false 1 (.t 20)), .op (some 22) none (.bin .add (.t 21) (.c (.int .i64 (Int.ofNat 1)))), .op (some 23) none (.idx 1 (.t 17) (.t 19)), .op none none (.store 1 (.t 23) (.t 22))]) (.reg [.op (some 24) none (.load false 1 (.t 5)), .op (some 25) none (.fld 0 [false] (.t 6)), .op (some 26) none (.load false 1 (.t 25)), .op (some 27) none (.bin .add (.t 24) (.t 26)), .op none none (.store 1 (.t 5) (.t 27))])))))
noncomputable def cx56_0i : Cx := itCx cx56 (fun kz => rdK kz cx56 ar0 5 8 [12] (ad56_0) (bd56_0))
theorem cx56_0i_ok : (cx56_0i).Ok prog := itCx_ok cx56_ok (fun h => rdK_ok mixed cx56_ok h)
@[reducible] def p56_0i_0 : Pat := Pat.mk [(0, .c (.yl 5)), (5, .c (.hole (.list (.prod (.int .i64) (.int .i64))))), (6, hzI), (7, hzI)] [(5, .loop .ready none 4 [(3, .c (.ptr 0 0)), (4, .c (.ptr 1 0)), (5, .c (.ptr 2 0)), (11, .fn 80 [] [.ipc (.list (.prod (.int .i64) (.int .i64)))])] [12] (.reg [.op (some 6) none (.alloc [.int .i64 (Int.ofNat 0), .int .i64 (Int.ofNat 0)]), .op none none (.store 2 (.t 6) (.t 12))]) (.block 1 (.seq (.seq (.reg [.op (some 13) none (.load false 1 (.t 3)), .op (some 14) none (.bin .eql (.t 13) (.c (.int .i64 (Int.ofNat 0))))]) (.cond (.t 14) (.exit 0) .skip)) (.seq (.reg [.op (some 15) none (.load false 1 (.t 3)), .op (some 16) none (.bin .sub (.t 15) (.c (.int .i64 (Int.ofNat 1)))), .op none none (.store 1 (.t 3) (.t 16))]) (.seq (.reg [.op (some 17) none (.load false 1 (.t 4)), .op (some 18) none (.fld 1 [true] (.t 6)), .op (some 19) none (.load false 1 (.t 18)), .op (some 20) none (.idx 1 (.t 17) (.t 19)), .op (some 21) none (.load false 1 (.t 20)), .op (some 22) none (.bin .add (.t 21) (.c (.int .i64 (Int.ofNat 1)))), .op (some 23) none (.idx 1 (.t 17) (.t 19)), .op none none (.store 1 (.t 23) (.t 22))]) (.reg [.op (some 24) none (.load false 1 (.t 5)), .op (some 25) none (.fld 0 [false] (.t 6)), .op (some 26) none (.load false 1 (.t 25)), .op (some 27) none (.bin .add (.t 24) (.t 26)), .op none none (.store 1 (.t 5) (.t 27))]))))) 30), (4, .dfr), (0, .cells [.hole (.int .i64)] false), (1, .cells [.sl0 6 (.int .i64)] false), (2, .cells [.hole (.int .i64)] false), (6, .arr (.int .i64) false)] [.cell 1 0] []
@[reducible] def x56_0i_0 : Outs := [(.ret, Pat.mk [] [(0, .cells [.hole (.int .i64)] false), (1, .cells [.sl0 6 (.int .i64)] false), (2, .cells [.hole (.int .i64)] false), (4, .dfr), (5, .loop .done (some (.exit 0)) 4 [(3, .c (.ptr 0 0)), (4, .c (.ptr 1 0)), (5, .c (.ptr 2 0)), (11, .fn 80 [] [.ipc (.list (.prod (.int .i64) (.int .i64)))])] [12] (.reg [.op (some 6) none (.alloc [.int .i64 (Int.ofNat 0), .int .i64 (Int.ofNat 0)]), .op none none (.store 2 (.t 6) (.t 12))]) (.block 1 (.seq (.seq (.reg [.op (some 13) none (.load false 1 (.t 3)), .op (some 14) none (.bin .eql (.t 13) (.c (.int .i64 (Int.ofNat 0))))]) (.cond (.t 14) (.exit 0) .skip)) (.seq (.reg [.op (some 15) none (.load false 1 (.t 3)), .op (some 16) none (.bin .sub (.t 15) (.c (.int .i64 (Int.ofNat 1)))), .op none none (.store 1 (.t 3) (.t 16))]) (.seq (.reg [.op (some 17) none (.load false 1 (.t 4)), .op (some 18) none (.fld 1 [true] (.t 6)), .op (some 19) none (.load false 1 (.t 18)), .op (some 20) none (.idx 1 (.t 17) (.t 19)), .op (some 21) none (.load false 1 (.t 20)), .op (some 22) none (.bin .add (.t 21) (.c (.int .i64 (Int.ofNat 1)))), .op (some 23) none (.idx 1 (.t 17) (.t 19)), .op none none (.store 1 (.t 23) (.t 22))]) (.reg [.op (some 24) none (.load false 1 (.t 5)), .op (some 25) none (.fld 0 [false] (.t 6)), .op (some 26) none (.load false 1 (.t 25)), .op (some 27) none (.bin .add (.t 24) (.t 26)), .op none none (.store 1 (.t 5) (.t 27))]))))) 30), (6, .arr (.int .i64) false)] [.cell 1 0] []), (.exit 0, Pat.mk [] [(0, .cells [.hole (.int .i64)] false), (1, .cells [.sl0 6 (.int .i64)] false), (2, .cells [.hole (.int .i64)] false), (4, .dfr), (5, .loop .ready none 4 [(3, .c (.ptr 0 0)), (4, .c (.ptr 1 0)), (5, .c (.ptr 2 0)), (11, .fn 80 [] [.ipc (.list (.prod (.int .i64) (.int .i64)))])] [12] (.reg [.op (some 6) none (.alloc [.int .i64 (Int.ofNat 0), .int .i64 (Int.ofNat 0)]), .op none none (.store 2 (.t 6) (.t 12))]) (.block 1 (.seq (.seq (.reg [.op (some 13) none (.load false 1 (.t 3)), .op (some 14) none (.bin .eql (.t 13) (.c (.int .i64 (Int.ofNat 0))))]) (.cond (.t 14) (.exit 0) .skip)) (.seq (.reg [.op (some 15) none (.load false 1 (.t 3)), .op (some 16) none (.bin .sub (.t 15) (.c (.int .i64 (Int.ofNat 1)))), .op none none (.store 1 (.t 3) (.t 16))]) (.seq (.reg [.op (some 17) none (.load false 1 (.t 4)), .op (some 18) none (.fld 1 [true] (.t 6)), .op (some 19) none (.load false 1 (.t 18)), .op (some 20) none (.idx 1 (.t 17) (.t 19)), .op (some 21) none (.load false 1 (.t 20)), .op (some 22) none (.bin .add (.t 21) (.c (.int .i64 (Int.ofNat 1)))), .op (some 23) none (.idx 1 (.t 17) (.t 19)), .op none none (.store 1 (.t 23) (.t 22))]) (.reg [.op (some 24) none (.load false 1 (.t 5)), .op (some 25) none (.fld 0 [false] (.t 6)), .op (some 26) none (.load false 1 (.t 25)), .op (some 27) none (.bin .add (.t 24) (.t 26)), .op none none (.store 1 (.t 5) (.t 27))]))))) 30), (6, .arr (.int .i64) false)] [.cell 1 0] [])]
noncomputable def b56_0i_0 : D prog 16 none 6 := (.seq (.reg [oo 8 (.bin .lss (.t 7) (.t 6))]) (.seq (.cond ( .t 8) .skip (.exit 0)) (.seq (.block 1 (.seq (.reg [oo 9 (.idx 2 (.t 5) (.t 7)), oo 10 (.load true 2 (.t 9)), oo 4 (.alloc [.int .i64 (Int.ofNat 0), .int .i64 (Int.ofNat 0)]), .op none none (.store 2 (.t 4) (.t 10))]) (.seq (.reg [om 11 0, oo 12 (.load true 2 (.t 4)), .call (some 13) none (.t 11) [.t 12] [some (.prod (.int .i64) (.int .i64))], oo 14 (.not (.t 13))]) (.cond ( .t 14) .ret .skip)))) (.reg [oo 15 (.bin .add (.t 7) (ki 1)), om 7 15]))))
noncomputable def g56_0i_0 (v5 : List (Int × Int)) (v6 : Int) (v7 : Int) (w11_0 : List (Int × Int)) (c0_0 : Int) (nc1_0 : Nat) (c2_0 : Int) (b6 : List Int) : Option (((List (Int × Int)) × Int × Int × (List (Int × Int)) × Int × Nat × Int × List Int × Unit) ⊕ ((Int × Nat × Int × (List (Int × Int)) × List Int × Unit) ⊕ ((Int × Nat × Int × (List (Int × Int)) × List Int × Unit)))) :=
 brO (decide (v7 < v6)) (
 need (inb v7 (((v5).length : Nat) : Int)) (
 brO (c0_0 == (0 : Int)) (
 some (.inr <| .inl <| (c0_0, (nc1_0, (c2_0, (w11_0, (b6, ()))))))) (
 need (rng .i64 (c0_0 - (1 : Int))) (
 need (inb ((v5).getD (Int.toNat v7) ((0 : Int), (0 : Int))).2 ((nc1_0 : Nat) : Int)) (
 need (decide (((0 : Nat) + (Int.toNat ((v5).getD (Int.toNat v7) ((0 : Int), (0 : Int))).2)) < (b6).length)) (
 need (rng .i64 (((b6).getD ((0 : Nat) + (Int.toNat ((v5).getD (Int.toNat v7) ((0 : Int), (0 : Int))).2)) (0 : Int)) + (1 : Int))) (
 need (inb ((v5).getD (Int.toNat v7) ((0 : Int), (0 : Int))).2 ((nc1_0 : Nat) : Int)) (
 need (decide (((0 : Nat) + (Int.toNat ((v5).getD (Int.toNat v7) ((0 : Int), (0 : Int))).2)) < (b6).length)) (
 need (rng .i64 (c2_0 + ((v5).getD (Int.toNat v7) ((0 : Int), (0 : Int))).1)) (
 need (rng .i64 (v7 + (1 : Int))) (
 some (.inl (v5, (v6, ((v7 + (1 : Int)), (w11_0, ((c0_0 - (1 : Int)), (nc1_0, ((c2_0 + ((v5).getD (Int.toNat v7) ((0 : Int), (0 : Int))).1), (((b6).set ((0 : Nat) + (Int.toNat ((v5).getD (Int.toNat v7) ((0 : Int), (0 : Int))).2)) (((b6).getD ((0 : Nat) + (Int.toNat ((v5).getD (Int.toNat v7) ((0 : Int), (0 : Int))).2)) (0 : Int)) + (1 : Int))), ())))))))))))))))))))) (
 some (.inr <| .inr <| (c0_0, (nc1_0, (c2_0, (w11_0, (b6, ())))))))
def Cg56_0i_0 (v5 : List (Int × Int)) (v6 : Int) (v7 : Int) (w11_0 : List (Int × Int)) (c0_0 : Int) (nc1_0 : Nat) (c2_0 : Int) (b6 : List Int) : Option (((List (Int × Int)) × Int × Int × (List (Int × Int)) × Int × Nat × Int × List Int × Unit) ⊕ ((Int × Nat × Int × (List (Int × Int)) × List Int × Unit) ⊕ ((Int × Nat × Int × (List (Int × Int)) × List Int × Unit)))) :=
 brC (decide (v7 < v6)) (
 needC (inb v7 (((v5).length : Nat) : Int)) (
 brC (c0_0 == (0 : Int)) (
 some (.inr <| .inl <| (c0_0, (nc1_0, (c2_0, (w11_0, (b6, ()))))))) (
 needC (rng .i64 (c0_0 - (1 : Int))) (
 needC (inb ((v5).getD (Int.toNat v7) ((0 : Int), (0 : Int))).2 ((nc1_0 : Nat) : Int)) (
 needC (decide (((0 : Nat) + (Int.toNat ((v5).getD (Int.toNat v7) ((0 : Int), (0 : Int))).2)) < (b6).length)) (
 needC (rng .i64 (((b6).getD ((0 : Nat) + (Int.toNat ((v5).getD (Int.toNat v7) ((0 : Int), (0 : Int))).2)) (0 : Int)) + (1 : Int))) (
 needC (inb ((v5).getD (Int.toNat v7) ((0 : Int), (0 : Int))).2 ((nc1_0 : Nat) : Int)) (
 needC (decide (((0 : Nat) + (Int.toNat ((v5).getD (Int.toNat v7) ((0 : Int), (0 : Int))).2)) < (b6).length)) (
 needC (rng .i64 (c2_0 + ((v5).getD (Int.toNat v7) ((0 : Int), (0 : Int))).1)) (
 needC (rng .i64 (v7 + (1 : Int))) (
 some (.inl (v5, (v6, ((v7 + (1 : Int)), (w11_0, ((c0_0 - (1 : Int)), (nc1_0, ((c2_0 + ((v5).getD (Int.toNat v7) ((0 : Int), (0 : Int))).1), (((b6).set ((0 : Nat) + (Int.toNat ((v5).getD (Int.toNat v7) ((0 : Int), (0 : Int))).2)) (((b6).getD ((0 : Nat) + (Int.toNat ((v5).getD (Int.toNat v7) ((0 : Int), (0 : Int))).2)) (0 : Int)) + (1 : Int))), ())))))))))))))))))))) (
 some (.inr <| .inr <| (c0_0, (nc1_0, (c2_0, (w11_0, (b6, ())))))))
theorem Cg56_0i_0_le (v5 : List (Int × Int)) (v6 : Int) (v7 : Int) (w11_0 : List (Int × Int)) (c0_0 : Int) (nc1_0 : Nat) (c2_0 : Int) (b6 : List Int) : Le (Cg56_0i_0 v5 v6 v7 w11_0 c0_0 nc1_0 c2_0 b6) (g56_0i_0 v5 v6 v7 w11_0 c0_0 nc1_0 c2_0 b6) := (Le.br (Le.nd (Le.br Le.r (Le.nd (Le.nd (Le.nd (Le.nd (Le.nd (Le.nd (Le.nd (Le.nd Le.r)))))))))) Le.r)
noncomputable def L56_0i_0 : LoopS prog 16 none 6 := mkLoop mixed cx56_0i cx56_0i_ok [0, 1, 2, 3, 4, 5] rfl p56_0i_0 x56_0i_0 rfl (b56_0i_0) (fun x => g56_0i_0 x.1 x.2.1 x.2.2.1 x.2.2.2.1 x.2.2.2.2.1 x.2.2.2.2.2.1 x.2.2.2.2.2.2.1 x.2.2.2.2.2.2.2.1) (by intro x; kernel_rfl)
@[reducible] def p56_0 : Pat := Pat.mk [(3, .c (.ptr 0 0)), (4, .c (.ptr 1 0)), (5, .c (.ptr 2 0)), (11, .fn 80 [] [.ipc (.list (.prod (.int .i64) (.int .i64)))])] [(0, .cells [.hole (.int .i64)] false), (1, .cells [.sl0 3 (.int .i64)] false), (2, .cells [.hole (.int .i64)] false), (3, .arr (.int .i64) false)] [.slot 3, .slot 4, .slot 5, .cell 1 0] []
@[reducible] def x56_0 : Outs := [(.exit 0, Pat.mk [(4, .c (.ptr 0 0)), (5, .c (.ptr 1 0))] [(0, .cells [.sl0 3 (.int .i64)] false), (1, .cells [.hole (.int .i64)] false), (2, .dfr), (3, .arr (.int .i64) false)] [.slot 4, .slot 5, .mark 0, .cell 0 0] [2]), (.normal, Pat.mk [(4, .c (.ptr 0 0)), (5, .c (.ptr 1 0))] [(0, .cells [.sl0 3 (.int .i64)] false), (1, .cells [.hole (.int .i64)] false), (2, .dfr), (3, .arr (.int .i64) false)] [.slot 4, .slot 5, .mark 0, .cell 0 0] [2])]
noncomputable def b56_0i : D prog 16 none 6 := (.seq (.reg [ol 5 1, oo 6 (.len (.t 5)), oo 7 (.mv (ki 0))]) (.block 0 (.loop L56_0i_0)))
theorem ci56_0 : trF prog f80 = some ⟨16, 2, (b56_0i).er, [], []⟩ := by kernel_rfl
noncomputable def g56_0 (v11_0 : List (Int × Int)) (c0_0 : Int) (nc1_0 : Nat) (c2_0 : Int) (b3 : List Int) : Option ((Nat × Int × List Int × Unit) ⊕ ((Nat × Int × List Int × Unit))) :=
 bindO (iter (fun x => g56_0i_0 x.1 x.2.1 x.2.2.1 x.2.2.2.1 x.2.2.2.2.1 x.2.2.2.2.2.1 x.2.2.2.2.2.2.1 x.2.2.2.2.2.2.2.1) (v11_0, ((((v11_0).length : Nat) : Int), ((0 : Int), (v11_0, (c0_0, (nc1_0, (c2_0, (b3, ()))))))))) fun z1 =>
 match z1 with
 | .inl z2 =>
 some (.inl <| (z2.2.1, (z2.2.2.1, (z2.2.2.2.2.1, ()))))
 | .inr z3 =>
 some (.inr <| (z3.2.1, (z3.2.2.1, (z3.2.2.2.2.1, ()))))
def Cg56_0 (v11_0 : List (Int × Int)) (c0_0 : Int) (nc1_0 : Nat) (c2_0 : Int) (b3 : List Int) : Option ((Nat × Int × List Int × Unit) ⊕ ((Nat × Int × List Int × Unit))) :=
 bindC (iterF (fun x => Cg56_0i_0 x.1 x.2.1 x.2.2.1 x.2.2.2.1 x.2.2.2.2.1 x.2.2.2.2.2.1 x.2.2.2.2.2.2.1 x.2.2.2.2.2.2.2.1) 1000000 (v11_0, ((((v11_0).length : Nat) : Int), ((0 : Int), (v11_0, (c0_0, (nc1_0, (c2_0, (b3, ()))))))))) fun z1 =>
 match z1 with
 | .inl z2 =>
 some (.inl <| (z2.2.1, (z2.2.2.1, (z2.2.2.2.2.1, ()))))
 | .inr z3 =>
 some (.inr <| (z3.2.1, (z3.2.2.1, (z3.2.2.2.2.1, ()))))
theorem Cg56_0_le (v11_0 : List (Int × Int)) (c0_0 : Int) (nc1_0 : Nat) (c2_0 : Int) (b3 : List Int) : Le (Cg56_0 v11_0 c0_0 nc1_0 c2_0 b3) (g56_0 v11_0 c0_0 nc1_0 c2_0 b3) := (Le.bd (Le.iter fun x => Cg56_0i_0_le ..) fun z1 => (match z1 with | .inl z2 => Le.r | .inr z3 => Le.r))
theorem s56_0 : ∀ x, rangeE (N := 30) (out := none) (base := 0) (kzO x56_0.T) cx56_0i ar0 [] p56_0 x56_0 ( .t 11) [12] (ad56_0).er (bd56_0).er [] 2 80 (b56_0i) some x = g56_0 x.1 x.2.1 x.2.2.1 x.2.2.2.1 x.2.2.2.2.1 := by intro x; kernel_rfl
noncomputable def R56_0 : RangeS prog 30 none 0 := mkRange mixed cx56_0i cx56_0i_ok [] rfl p56_0 x56_0 ( .t 11) [12] rfl (ad56_0).er (bd56_0).er 80 func80 (ci56_0) (enters_of func80 rfl rfl) 6 rfl (b56_0i) rfl (fun x => g56_0 x.1 x.2.1 x.2.2.1 x.2.2.2.1 x.2.2.2.2.1) (s56_0)
noncomputable def dd56 : D prog 30 none 0 := (.seq (.reg [oo 3 (.box (.t 1)), oo 4 (.alloc [.nsl]), oo 5 (.alloc [.int .i64 (Int.ofNat 0)])]) (.seq (.reg [om 7 0, oo 8 (.len (.t 7)), oo 9 (.mkslice (.int .i64) (.t 8)), .op none none (.store 1 (.t 4) (.t 9))]) (.seq (.seq (.reg [om 10 0, .call (some 11) none (.c (.fn 58 [] [])) [.t 10, .c (.fn 59 [] [])] [some (.list (.list (.int .i64))), none]]) (.block 0 (.rangeF R56_0))) (.seq (.draw [[], [], [0], [0, 1, 2]] [ol 28 4, ol 29 5, .op none none (.store 1 (.t 4) (.t 28)), .op none none (.store 1 (.t 5) (.t 29))]) .ret))))
noncomputable def F56 (a0 : List (List Int)) (a1 : Int) : Option (List Int × Int × Unit) :=
 need (inb (((a0).length : Nat) : Int) ((bigL : Nat) : Int)) (
 bindO (F58 a0) fun y0 =>
 bindO (g56_0 y0.1 a1 (Int.toNat (((a0).length : Nat) : Int)) (0 : Int) (List.replicate (Int.toNat (((a0).length : Nat) : Int)) (0 : Int))) fun z4 =>
 match z4 with
 | .inl z5 =>
 some ((((z5.2.2.1).drop (0 : Nat)).take z5.1), (z5.2.1, ()))
 | .inr z6 =>
 some ((((z6.2.2.1).drop (0 : Nat)).take z6.1), (z6.2.1, ())))
def CF56 (a0 : List (List Int)) (a1 : Int) : Option (List Int × Int × Unit) :=
 needC (inb (((a0).length : Nat) : Int) ((bigL : Nat) : Int)) (
 bindC (CF58 a0) fun y0 =>
 bindC (Cg56_0 y0.1 a1 (Int.toNat (((a0).length : Nat) : Int)) (0 : Int) (List.replicate (Int.toNat (((a0).length : Nat) : Int)) (0 : Int))) fun z4 =>
 match z4 with
 | .inl z5 =>
 some ((((z5.2.2.1).drop (0 : Nat)).take z5.1), (z5.2.1, ()))
 | .inr z6 =>
 some ((((z6.2.2.1).drop (0 : Nat)).take z6.1), (z6.2.1, ())))
theorem CF56_le (a0 : List (List Int)) (a1 : Int) : Le (CF56 a0 a1) (F56 a0 a1) := (Le.nd (Le.bd (CF58_le ..) fun y0 => (Le.bd (Cg56_0_le ..) fun z4 => (match z4 with | .inl z5 => Le.r | .inr z6 => Le.r))))
theorem c56_ok : trF prog f56 = some ⟨30, 2, dd56.er, [.cell 4 false 1, .cell 5 false 1], [some (.list (.int .i64)), some (.int .i64)]⟩ := by kernel_rfl
noncomputable def ct56 : Ct := ⟨56, [.c (.hole (.list (.list (.int .i64)))), .c (.hole (.int .i64))], .tup [.hole (.list (.int .i64)), .hole (.int .i64)], fun x => F56 x.1 x.2.1⟩
theorem ct56_ok : ct56.Ok prog := ct_ok mixed cx56_ok func56 c56_ok (enters_of func56 rfl rfl) dd56 rfl rfl (fun x => by kernel_rfl)

/- 22 -/
noncomputable def cx22 : Cx := mkCxH [ct55, ct56] []
theorem cx22_ok : cx22.Ok prog := mkCxH_ok ⟨ct55_ok, ct56_ok, trivial⟩ trivial
noncomputable def dd22 : D prog 22 none 0 := (.seq (.reg [oo 4 (.mv (.c .nsl)), oo 5 (.mv (ki 0)), oo 6 (.mv (ki 0))]) (.seq (.seq (.reg [om 8 0, om 9 1, .call (some 10) none (.c (.fn 55 [] [])) [.t 8, .t 9] [some (.list (.list (.int .i64))), some (.int .i64)], om 7 10]) (.seq (.reg [om 11 7, oo 12 (.bin .neq (.t 11) (ki 0))]) (.cond ( .t 12) (.seq (.reg [om 13 7, oo 4 (.mv (.c .nsl)), oo 5 (.mv (ki 0)), om 6 13]) .ret) .skip))) (.seq (.reg [om 15 0, om 16 1, .call (some 17) none (.c (.fn 56 [] [])) [.t 15, .t 16] [some (.list (.list (.int .i64))), some (.int .i64)], om 14 17, oo 18 (.ext 0 (.t 14)), oo 19 (.ext 1 (.t 14)), om 4 18, om 5 19]) (.seq (.reg [om 20 4, om 21 5, om 4 20, om 5 21, oo 6 (.mv (ki 0))]) .ret))))
noncomputable def F22 (a0 : List (List Int)) (a1 : Int) : Option (List Int × Int × Int × Unit) :=
 bindO (F55 a0 a1) fun y0 =>
 brO (!(y0.1 == (0 : Int))) (
 some ([], ((0 : Int), (y0.1, ())))) (
 bindO (F56 a0 a1) fun y1 =>
 some (y1.1, (y1.2.1, ((0 : Int), ()))))
def CF22 (a0 : List (List Int)) (a1 : Int) : Option (List Int × Int × Int × Unit) :=
 bindC (CF55 a0 a1) fun y0 =>
 brC (!(y0.1 == (0 : Int))) (
 some ([], ((0 : Int), (y0.1, ())))) (
 bindC (CF56 a0 a1) fun y1 =>
 some (y1.1, (y1.2.1, ((0 : Int), ()))))
theorem CF22_le (a0 : List (List Int)) (a1 : Int) : Le (CF22 a0 a1) (F22 a0 a1) := (Le.bd (CF55_le ..) fun y0 => (Le.br Le.r (Le.bd (CF56_le ..) fun y1 => Le.r)))
theorem c22_ok : trF prog f22 = some ⟨22, 2, dd22.er, [.t 4, .t 5, .t 6], [some (.list (.int .i64)), some (.int .i64), some (.int .i64)]⟩ := by kernel_rfl
noncomputable def ct22 : Ct := ⟨22, [.c (.hole (.list (.list (.int .i64)))), .c (.hole (.int .i64))], .tup [.hole (.list (.int .i64)), .hole (.int .i64), .hole (.int .i64)], fun x => F22 x.1 x.2.1⟩
theorem ct22_ok : ct22.Ok prog := ct_ok mixed cx22_ok func22 c22_ok (enters_of func22 rfl rfl) dd22 rfl rfl (fun x => by kernel_rfl)

/- 24 -/
noncomputable def cx24 : Cx := mkCxH [ct20, ct58] []
theorem cx24_ok : cx24.Ok prog := mkCxH_ok ⟨ct20_ok, ct58_ok, trivial⟩ trivial
noncomputable def ad24_0 : D prog 29 (some 3) 6 := (.reg [.op (some 6) none (.alloc [.int .i64 (Int.ofNat 0), .int .i64 (Int.ofNat 0)]), .op none none (.store 2 (.t 6) (.t 15))])
noncomputable def bd24_0 : D prog 29 (some 3) 6 := (.block 1 (.draw [[], [], [], [2], [2, 3], [1, 2, 3, 4], [1, 2, 3, 4, 5], [], [7], [1, 2, 3, 4, 5, 6, 7, 8], [1, 2, 3, 4, 5, 6, 7, 8, 9], [0, 1, 2, 3, 4, 5, 6, 7, 8, 9, 10], [0, 1, 2, 3, 4, 5, 6, 7, 8, 9, 10, 11]] [.op (some 16) none (.load false 1 (.t 5)), .op (some 17) none (.load false 1 (.t 5)), .op (some 18) none (.load false 1 (.t 5)), .op (some 19) none (.len (.t 18)), .op (some 20) none (.bin .sub (.t 19) (.c (.int .i64 (Int.ofNat 1)))), .op (some 21) none (.idx 1 (.t 17) (.t 20)), .op (some 22) none (.load false 1 (.t 21)), .op (some 23) none (.fld 0 [false] (.t 6)), .op (some 24) none (.load false 1 (.t 23)), .op (some 25) none (.bin .add (.t 22) (.t 24)), .op (some 26) none (.bslice (.int .i64) [.t 25]), .op (some 27) none (.append 1 (.t 16) (.t 26)), .op none none (.store 1 (.t 5) (.t 27))]))
noncomputable def cx24_0i : Cx := itCx cx24 (fun kz => rdK kz cx24 ar0 3 6 [15] (ad24_0) (bd24_0))
theorem cx24_0i_ok : (cx24_0i).Ok prog := itCx_ok cx24_ok (fun h => rdK_ok mixed cx24_ok h)
@[reducible] def p24_0i_0 : Pat := Pat.mk [(0, .c (.yl 3)), (5, .c (.hole (.list (.prod (.int .i64) (.int .i64))))), (6, hzI), (7, hzI)] [(3, .loop .ready none 2 [(2, .c .nsl), (3, hzI), (5, .c (.ptr 0 0)), (14, .fn 80 [] [.ipc (.list (.prod (.int .i64) (.int .i64)))])] [15] (.reg [.op (some 6) none (.alloc [.int .i64 (Int.ofNat 0), .int .i64 (Int.ofNat 0)]), .op none none (.store 2 (.t 6) (.t 15))]) (.block 1 (.draw [[], [], [], [2], [2, 3], [1, 2, 3, 4], [1, 2, 3, 4, 5], [], [7], [1, 2, 3, 4, 5, 6, 7, 8], [1, 2, 3, 4, 5, 6, 7, 8, 9], [0, 1, 2, 3, 4, 5, 6, 7, 8, 9, 10], [0, 1, 2, 3, 4, 5, 6, 7, 8, 9, 10, 11]] [.op (some 16) none (.load false 1 (.t 5)), .op (some 17) none (.load false 1 (.t 5)), .op (some 18) none (.load false 1 (.t 5)), .op (some 19) none (.len (.t 18)), .op (some 20) none (.bin .sub (.t 19) (.c (.int .i64 (Int.ofNat 1)))), .op (some 21) none (.idx 1 (.t 17) (.t 20)), .op (some 22) none (.load false 1 (.t 21)), .op (some 23) none (.fld 0 [false] (.t 6)), .op (some 24) none (.load false 1 (.t 23)), .op (some 25) none (.bin .add (.t 22) (.t 24)), .op (some 26) none (.bslice (.int .i64) [.t 25]), .op (some 27) none (.append 1 (.t 16) (.t 26)), .op none none (.store 1 (.t 5) (.t 27))])) 29), (2, .dfr), (0, .cells [.sl0 4 (.int .i64)] false), (4, .arr (.int .i64) false)] [.cell 0 0] []
@[reducible] def x24_0i_0 : Outs := [(.exit 0, Pat.mk [] [(0, .cells [.sl0 4 (.int .i64)] false), (2, .dfr), (3, .loop .ready none 2 [(2, .c .nsl), (3, hzI), (5, .c (.ptr 0 0)), (14, .fn 80 [] [.ipc (.list (.prod (.int .i64) (.int .i64)))])] [15] (.reg [.op (some 6) none (.alloc [.int .i64 (Int.ofNat 0), .int .i64 (Int.ofNat 0)]), .op none none (.store 2 (.t 6) (.t 15))]) (.block 1 (.draw [[], [], [], [2], [2, 3], [1, 2, 3, 4], [1, 2, 3, 4, 5], [], [7], [1, 2, 3, 4, 5, 6, 7, 8], [1, 2, 3, 4, 5, 6, 7, 8, 9], [0, 1, 2, 3, 4, 5, 6, 7, 8, 9, 10], [0, 1, 2, 3, 4, 5, 6, 7, 8, 9, 10, 11]] [.op (some 16) none (.load false 1 (.t 5)), .op (some 17) none (.load false 1 (.t 5)), .op (some 18) none (.load false 1 (.t 5)), .op (some 19) none (.len (.t 18)), .op (some 20) none (.bin .sub (.t 19) (.c (.int .i64 (Int.ofNat 1)))), .op (some 21) none (.idx 1 (.t 17) (.t 20)), .op (some 22) none (.load false 1 (.t 21)), .op (some 23) none (.fld 0 [false] (.t 6)), .op (some 24) none (.load false 1 (.t 23)), .op (some 25) none (.bin .add (.t 22) (.t 24)), .op (some 26) none (.bslice (.int .i64) [.t 25]), .op (some 27) none (.append 1 (.t 16) (.t 26)), .op none none (.store 1 (.t 5) (.t 27))])) 29), (4, .arr (.int .i64) false)] [.cell 0 0] [])]
noncomputable def b24_0i_0 : D prog 16 none 4 := (.seq (.reg [oo 8 (.bin .lss (.t 7) (.t 6))]) (.seq (.cond ( .t 8) .skip (.exit 0)) (.seq (.block 1 (.seq (.reg [oo 9 (.idx 2 (.t 5) (.t 7)), oo 10 (.load true 2 (.t 9)), oo 4 (.alloc [.int .i64 (Int.ofNat 0), .int .i64 (Int.ofNat 0)]), .op none none (.store 2 (.t 4) (.t 10))]) (.seq (.reg [om 11 0, oo 12 (.load true 2 (.t 4)), .call (some 13) none (.t 11) [.t 12] [some (.prod (.int .i64) (.int .i64))], oo 14 (.not (.t 13))]) (.cond ( .t 14) .ret .skip)))) (.reg [oo 15 (.bin .add (.t 7) (ki 1)), om 7 15]))))
noncomputable def g24_0i_0 (v5 : List (Int × Int)) (v6 : Int) (v7 : Int) (w3 : Int) (w14_0 : List (Int × Int)) (nc0_0 : Nat) (b4 : List Int) : Option (((List (Int × Int)) × Int × Int × Int × (List (Int × Int)) × Nat × List Int × Unit) ⊕ ((Nat × Int × (List (Int × Int)) × List Int × Unit))) :=
 brO (decide (v7 < v6)) (
 need (inb v7 (((v5).length : Nat) : Int)) (
 need (rng .i64 (((nc0_0 : Nat) : Int) - (1 : Int))) (
 need (inb (((nc0_0 : Nat) : Int) - (1 : Int)) ((nc0_0 : Nat) : Int)) (
 need (decide (((0 : Nat) + (Int.toNat (((nc0_0 : Nat) : Int) - (1 : Int)))) < (b4).length)) (
 need (rng .i64 (((b4).getD ((0 : Nat) + (Int.toNat (((nc0_0 : Nat) : Int) - (1 : Int)))) (0 : Int)) + ((v5).getD (Int.toNat v7) ((0 : Int), (0 : Int))).1)) (
 need (decide ((nc0_0 + ((((((((b4).getD ((0 : Nat) + (Int.toNat (((nc0_0 : Nat) : Int) - (1 : Int)))) (0 : Int)) + ((v5).getD (Int.toNat v7) ((0 : Int), (0 : Int))).1) :: [])).drop (0 : Nat)).take (1 : Nat))).length) < bigL)) (
 need (rng .i64 (v7 + (1 : Int))) (
 some (.inl (v5, (v6, ((v7 + (1 : Int)), (w3, (w14_0, ((nc0_0 + ((((((((b4).getD ((0 : Nat) + (Int.toNat (((nc0_0 : Nat) : Int) - (1 : Int)))) (0 : Int)) + ((v5).getD (Int.toNat v7) ((0 : Int), (0 : Int))).1) :: [])).drop (0 : Nat)).take (1 : Nat))).length), (((((b4).drop (0 : Nat)).take nc0_0) ++ (((((((b4).getD ((0 : Nat) + (Int.toNat (((nc0_0 : Nat) : Int) - (1 : Int)))) (0 : Int)) + ((v5).getD (Int.toNat v7) ((0 : Int), (0 : Int))).1) :: [])).drop (0 : Nat)).take (1 : Nat))), ())))))))))))))))) (
 some (.inr (nc0_0, (w3, (w14_0, (b4, ()))))))
def Cg24_0i_0 (v5 : List (Int × Int)) (v6 : Int) (v7 : Int) (w3 : Int) (w14_0 : List (Int × Int)) (nc0_0 : Nat) (b4 : List Int) : Option (((List (Int × Int)) × Int × Int × Int × (List (Int × Int)) × Nat × List Int × Unit) ⊕ ((Nat × Int × (List (Int × Int)) × List Int × Unit))) :=
 brC (decide (v7 < v6)) (
 needC (inb v7 (((v5).length : Nat) : Int)) (
 needC (rng .i64 (((nc0_0 : Nat) : Int) - (1 : Int))) (
 needC (inb (((nc0_0 : Nat) : Int) - (1 : Int)) ((nc0_0 : Nat) : Int)) (
 needC (decide (((0 : Nat) + (Int.toNat (((nc0_0 : Nat) : Int) - (1 : Int)))) < (b4).length)) (
 needC (rng .i64 (((b4).getD ((0 : Nat) + (Int.toNat (((nc0_0 : Nat) : Int) - (1 : Int)))) (0 : Int)) + ((v5).getD (Int.toNat v7) ((0 : Int), (0 : Int))).1)) (
 needC (decide ((nc0_0 + ((((((((b4).getD ((0 : Nat) + (Int.toNat (((nc0_0 : Nat) : Int) - (1 : Int)))) (0 : Int)) + ((v5).getD (Int.toNat v7) ((0 : Int), (0 : Int))).1) :: [])).drop (0 : Nat)).take (1 : Nat))).length) < bigL)) (
 needC (rng .i64 (v7 + (1 : Int))) (
 some (.inl (v5, (v6, ((v7 + (1 : Int)), (w3, (w14_0, ((nc0_0 + ((((((((b4).getD ((0 : Nat) + (Int.toNat (((nc0_0 : Nat) : Int) - (1 : Int)))) (0 : Int)) + ((v5).getD (Int.toNat v7) ((0 : Int), (0 : Int))).1) :: [])).drop (0 : Nat)).take (1 : Nat))).length), (((((b4).drop (0 : Nat)).take nc0_0) ++ (((((((b4).getD ((0 : Nat) + (Int.toNat (((nc0_0 : Nat) : Int) - (1 : Int)))) (0 : Int)) + ((v5).getD (Int.toNat v7) ((0 : Int), (0 : Int))).1) :: [])).drop (0 : Nat)).take (1 : Nat))), ())))))))))))))))) (
 some (.inr (nc0_0, (w3, (w14_0, (b4, ()))))))
theorem Cg24_0i_0_le (v5 : List (Int × Int)) (v6 : Int) (v7 : Int) (w3 : Int) (w14_0 : List (Int × Int)) (nc0_0 : Nat) (b4 : List Int) : Le (Cg24_0i_0 v5 v6 v7 w3 w14_0 nc0_0 b4) (g24_0i_0 v5 v6 v7 w3 w14_0 nc0_0 b4) := (Le.br (Le.nd (Le.nd (Le.nd (Le.nd (Le.nd (Le.nd (Le.nd Le.r))))))) Le.r)
noncomputable def L24_0i_0 : LoopS prog 16 none 4 := mkLoop mixed cx24_0i cx24_0i_ok [0, 1, 2, 3] rfl p24_0i_0 x24_0i_0 rfl (b24_0i_0) (fun x => g24_0i_0 x.1 x.2.1 x.2.2.1 x.2.2.2.1 x.2.2.2.2.1 x.2.2.2.2.2.1 x.2.2.2.2.2.2.1) (by intro x; kernel_rfl)
@[reducible] def p24_0 : Pat := Pat.mk [(2, .c .nsl), (3, hzI), (5, .c (.ptr 0 0)), (14, .fn 80 [] [.ipc (.list (.prod (.int .i64) (.int .i64)))])] [(0, .cells [.sl0 1 (.int .i64)] false), (1, .arr (.int .i64) false)] [.slot 5, .cell 0 0] []
@[reducible] def x24_0 : Outs := [(.normal, Pat.mk [(5, .c (.ptr 0 0))] [(0, .cells [.sl0 2 (.int .i64)] false), (1, .dfr), (2, .arr (.int .i64) false)] [.slot 5, .mark 0, .cell 0 0] [1])]
noncomputable def b24_0i : D prog 16 none 4 := (.seq (.reg [ol 5 1, oo 6 (.len (.t 5)), oo 7 (.mv (ki 0))]) (.block 0 (.loop L24_0i_0)))
theorem ci24_0 : trF prog f80 = some ⟨16, 2, (b24_0i).er, [], []⟩ := by kernel_rfl
noncomputable def g24_0 (v3 : Int) (v14_0 : List (Int × Int)) (nc0_0 : Nat) (b1 : List Int) : Option ((Nat × List Int × Unit)) :=
 bindO (iter (fun x => g24_0i_0 x.1 x.2.1 x.2.2.1 x.2.2.2.1 x.2.2.2.2.1 x.2.2.2.2.2.1 x.2.2.2.2.2.2.1) (v14_0, ((((v14_0).length : Nat) : Int), ((0 : Int), (v3, (v14_0, (nc0_0, (b1, ())))))))) fun z2 =>
 some ((z2.1, (z2.2.2.2.1, ())))
def Cg24_0 (v3 : Int) (v14_0 : List (Int × Int)) (nc0_0 : Nat) (b1 : List Int) : Option ((Nat × List Int × Unit)) :=
 bindC (iterF (fun x => Cg24_0i_0 x.1 x.2.1 x.2.2.1 x.2.2.2.1 x.2.2.2.2.1 x.2.2.2.2.2.1 x.2.2.2.2.2.2.1) 1000000 (v14_0, ((((v14_0).length : Nat) : Int), ((0 : Int), (v3, (v14_0, (nc0_0, (b1, ())))))))) fun z2 =>
 some ((z2.1, (z2.2.2.2.1, ())))
theorem Cg24_0_le (v3 : Int) (v14_0 : List (Int × Int)) (nc0_0 : Nat) (b1 : List Int) : Le (Cg24_0 v3 v14_0 nc0_0 b1) (g24_0 v3 v14_0 nc0_0 b1) := (Le.bd (Le.iter fun x => Cg24_0i_0_le ..) fun z2 => Le.r)
theorem s24_0 : ∀ x, rangeE (N := 29) (out := none) (base := 0) (kzO x24_0.T) cx24_0i ar0 [] p24_0 x24_0 ( .t 14) [15] (ad24_0).er (bd24_0).er [] 2 80 (b24_0i) some x = g24_0 x.1 x.2.1 x.2.2.1 x.2.2.2.1 := by intro x; kernel_rfl
noncomputable def R24_0 : RangeS prog 29 none 0 := mkRange mixed cx24_0i cx24_0i_ok [] rfl p24_0 x24_0 ( .t 14) [15] rfl (ad24_0).er (bd24_0).er 80 func80 (ci24_0) (enters_of func80 rfl rfl) 4 rfl (b24_0i) rfl (fun x => g24_0 x.1 x.2.1 x.2.2.1 x.2.2.2.1) (s24_0)
noncomputable def dd24 : D prog 29 none 0 := (.seq (.reg [oo 2 (.mv (.c .nsl)), oo 3 (.mv (ki 0))]) (.seq (.seq (.reg [om 7 0, .call (some 8) none (.c (.fn 20 [] [])) [.t 7] [some (.list (.list (.int .i64)))], om 4 8]) (.seq (.reg [om 9 4, oo 10 (.bin .neq (.t 9) (ki 0))]) (.cond ( .t 10) (.seq (.reg [om 11 4, oo 2 (.mv (.c .nsl)), om 3 11]) .ret) .skip))) (.seq (.reg [oo 12 (.bslice (.int .i64) [ki 0]), oo 5 (.alloc [.nsl]), .op none none (.store 1 (.t 5) (.t 12))]) (.seq (.seq (.reg [om 13 0, .call (some 14) none (.c (.fn 58 [] [])) [.t 13, .c (.fn 59 [] [])] [some (.list (.list (.int .i64))), none]]) (.block 0 (.rangeF R24_0))) (.seq (.reg [ol 28 5, om 2 28, oo 3 (.mv (ki 0))]) .ret)))))
noncomputable def F24 (a0 : List (List Int)) : Option (List Int × Int × Unit) :=
 bindO (F20 a0) fun y0 =>
 brO (!(y0.1 == (0 : Int))) (
 some ([], (y0.1, ()))) (
 bindO (F58 a0) fun y1 =>
 bindO (g24_0 (0 : Int) y1.1 (1 : Nat) ((0 : Int) :: [])) fun z3 =>
 some ((((z3.2.1).drop (0 : Nat)).take z3.1), ((0 : Int), ())))
def CF24 (a0 : List (List Int)) : Option (List Int × Int × Unit) :=
 bindC (CF20 a0) fun y0 =>
 brC (!(y0.1 == (0 : Int))) (
 some ([], (y0.1, ()))) (
 bindC (CF58 a0) fun y1 =>
 bindC (Cg24_0 (0 : Int) y1.1 (1 : Nat) ((0 : Int) :: [])) fun z3 =>
 some ((((z3.2.1).drop (0 : Nat)).take z3.1), ((0 : Int), ())))
theorem CF24_le (a0 : List (List Int)) : Le (CF24 a0) (F24 a0) := (Le.bd (CF20_le ..) fun y0 => (Le.br Le.r (Le.bd (CF58_le ..) fun y1 => (Le.bd (Cg24_0_le ..) fun z3 => Le.r))))
theorem c24_ok : trF prog f24 = some ⟨29, 1, dd24.er, [.t 2, .t 3], [some (.list (.int .i64)), some (.int .i64)]⟩ := by kernel_rfl
noncomputable def ct24 : Ct := ⟨24, [.c (.hole (.list (.list (.int .i64))))], .tup [.hole (.list (.int .i64)), .hole (.int .i64)], fun x => F24 x.1⟩
theorem ct24_ok : ct24.Ok prog := ct_ok mixed cx24_ok func24 c24_ok (enters_of func24 rfl rfl) dd24 rfl rfl (fun x => by kernel_rfl)

/- 26 -/
noncomputable def cx26 : Cx := mkCxH [] []
theorem cx26_ok : cx26.Ok prog := mkCxH_ok trivial trivial
@[reducible] def p26_0 : Pat := Pat.mk [(0, hzL), (1, hzL), (5, hzI)] [] [] []
@[reducible] def x26_0 : Outs := [(.ret, Pat.mk [(4, .c (.tf false))] [] [] []), (.exit 0, Pat.mk [] [] [] [])]
noncomputable def b26_0 : D prog 26 none 0 := (.seq (.seq (.reg [om 11 5, om 12 0, oo 13 (.len (.t 12)), oo 14 (.bin .lss (.t 11) (.t 13))]) (.cond ( .t 14) .skip (.exit 0))) (.seq (.block 1 (.seq (.draw [[], [], [0, 1], [0, 1, 2], [], [], [4, 5], [4, 5, 6], [0, 1, 2, 3, 4, 5, 6, 7]] [om 17 0, om 18 5, oo 19 (.idx 1 (.t 17) (.t 18)), ol 20 19, om 21 1, om 22 5, oo 23 (.idx 1 (.t 21) (.t 22)), ol 24 23, oo 25 (.bin .neq (.t 20) (.t 24))]) (.cond ( .t 25) (.seq (.reg [oo 4 (.mv (.c (.tf false)))]) .ret) .skip))) (.reg [om 15 5, oo 16 (.bin .add (.t 15) (ki 1)), om 5 16])))
noncomputable def g26_0 (v0 : List Int) (v1 : List Int) (v5 : Int) : Option ((List Int × List Int × Int × Unit) ⊕ ((Unit) ⊕ ((Unit)))) :=
 brO (decide (v5 < (((v0).length : Nat) : Int))) (
 need (inb v5 (((v0).length : Nat) : Int)) (
 need (inb v5 (((v1).length : Nat) : Int)) (
 brO (!(((v0).getD (Int.toNat v5) (0 : Int)) == ((v1).getD (Int.toNat v5) (0 : Int)))) (
 some (.inr <| .inl <| ())) (
 need (rng .i64 (v5 + (1 : Int))) (
 some (.inl (v0, (v1, ((v5 + (1 : Int)), ()))))))))) (
 some (.inr <| .inr <| ()))
def Cg26_0 (v0 : List Int) (v1 : List Int) (v5 : Int) : Option ((List Int × List Int × Int × Unit) ⊕ ((Unit) ⊕ ((Unit)))) :=
 brC (decide (v5 < (((v0).length : Nat) : Int))) (
 needC (inb v5 (((v0).length : Nat) : Int)) (
 needC (inb v5 (((v1).length : Nat) : Int)) (
 brC (!(((v0).getD (Int.toNat v5) (0 : Int)) == ((v1).getD (Int.toNat v5) (0 : Int)))) (
 some (.inr <| .inl <| ())) (
 needC (rng .i64 (v5 + (1 : Int))) (
 some (.inl (v0, (v1, ((v5 + (1 : Int)), ()))))))))) (
 some (.inr <| .inr <| ()))
theorem Cg26_0_le (v0 : List Int) (v1 : List Int) (v5 : Int) : Le (Cg26_0 v0 v1 v5) (g26_0 v0 v1 v5) := (Le.br (Le.nd (Le.nd (Le.br Le.r (Le.nd Le.r)))) Le.r)
noncomputable def L26_0 : LoopS prog 26 none 0 := mkLoop mixed cx26 cx26_ok [] rfl p26_0 x26_0 rfl (b26_0) (fun x => g26_0 x.1 x.2.1 x.2.2.1) (by intro x; kernel_rfl)
noncomputable def dd26 : D prog 26 none 0 := (.seq (.reg [oo 4 (.mv (.c (.tf false)))]) (.seq (.seq (.reg [om 6 0, oo 7 (.len (.t 6)), om 8 1, oo 9 (.len (.t 8)), oo 10 (.bin .neq (.t 7) (.t 9))]) (.cond ( .t 10) (.seq (.reg [oo 4 (.mv (.c (.tf false)))]) .ret) .skip)) (.seq (.seq (.reg [oo 5 (.mv (ki 0))]) (.block 0 (.loop L26_0))) (.seq (.reg [oo 4 (.mv (.c (.tf true)))]) .ret))))
noncomputable def F26 (a0 : List Int) (a1 : List Int) : Option (Bool × Unit) :=
 brO (!((((a0).length : Nat) : Int) == (((a1).length : Nat) : Int))) (
 some (false, ())) (
 bindO (iter (fun x => g26_0 x.1 x.2.1 x.2.2.1) (a0, (a1, ((0 : Int), ())))) fun z0 =>
 match z0 with
 | .inl z1 =>
 some (false, ())
 | .inr z2 =>
 some (true, ()))
def CF26 (a0 : List Int) (a1 : List Int) : Option (Bool × Unit) :=
 brC (!((((a0).length : Nat) : Int) == (((a1).length : Nat) : Int))) (
 some (false, ())) (
 bindC (iterF (fun x => Cg26_0 x.1 x.2.1 x.2.2.1) 1000000 (a0, (a1, ((0 : Int), ())))) fun z0 =>
 match z0 with
 | .inl z1 =>
 some (false, ())
 | .inr z2 =>
 some (true, ()))
theorem CF26_le (a0 : List Int) (a1 : List Int) : Le (CF26 a0 a1) (F26 a0 a1) := (Le.br Le.r (Le.bd (Le.iter fun x => Cg26_0_le ..) fun z0 => (match z0 with | .inl z1 => Le.r | .inr z2 => Le.r)))
theorem c26_ok : trF prog f26 = some ⟨26, 2, dd26.er, [.t 4], [some .bool]⟩ := by kernel_rfl
noncomputable def ct26 : Ct := ⟨26, [.c (.hole (.list (.int .i64))), .c (.hole (.list (.int .i64)))], .c (.hole .bool), fun x => F26 x.1 x.2.1⟩
theorem ct26_ok : ct26.Ok prog := ct_ok mixed cx26_ok func26 c26_ok (enters_of func26 rfl rfl) dd26 rfl rfl (fun x => by kernel_rfl)

/- 47 -/
noncomputable def cx47 : Cx := mkCxH [] []
theorem cx47_ok : cx47.Ok prog := mkCxH_ok trivial trivial
noncomputable def dd47 : D prog 10 none 0 := (.seq (.reg [oo 0 (.mv (.c .nsl))]) (.seq (.reg [oo 1 (.build [.int .i64 (Int.ofNat 0), .int .i64 (Int.ofNat 0)] [(0, 1, ki 8), (1, 1, ki 9)]), oo 2 (.build [.int .i64 (Int.ofNat 0), .int .i64 (Int.ofNat 0)] [(0, 1, ki 6), (1, 1, ki 7)]), oo 3 (.bslice (.prod (.int .i64) (.int .i64)) [.t 1, .t 2]), oo 4 (.build [.int .i64 (Int.ofNat 0), .int .i64 (Int.ofNat 0)] [(0, 1, ki 4), (1, 1, ki 8)]), oo 5 (.build [.int .i64 (Int.ofNat 0), .int .i64 (Int.ofNat 0)] [(0, 1, ki 3), (1, 1, ki 3)]), oo 6 (.bslice (.prod (.int .i64) (.int .i64)) [.t 4, .t 5]), oo 7 (.build [.int .i64 (Int.ofNat 0), .int .i64 (Int.ofNat 0)] [(0, 1, ki 5), (1, 1, ki 6)]), oo 8 (.bslice (.prod (.int .i64) (.int .i64)) [.t 7]), oo 9 (.bslice (.list (.prod (.int .i64) (.int .i64))) [.t 3, .t 6, .t 8]), om 0 9]) .ret))
noncomputable def F47 : Option ((List (List (Int × Int))) × Unit) :=
 some (((((((((((8 : Int), (9 : Int)) :: (((6 : Int), (7 : Int)) :: []))).drop (0 : Nat)).take (2 : Nat)) :: (((((((4 : Int), (8 : Int)) :: (((3 : Int), (3 : Int)) :: []))).drop (0 : Nat)).take (2 : Nat)) :: (((((((5 : Int), (6 : Int)) :: [])).drop (0 : Nat)).take (1 : Nat)) :: [])))).drop (0 : Nat)).take (3 : Nat)), ())
def CF47 : Option ((List (List (Int × Int))) × Unit) :=
 some (((((((((((8 : Int), (9 : Int)) :: (((6 : Int), (7 : Int)) :: []))).drop (0 : Nat)).take (2 : Nat)) :: (((((((4 : Int), (8 : Int)) :: (((3 : Int), (3 : Int)) :: []))).drop (0 : Nat)).take (2 : Nat)) :: (((((((5 : Int), (6 : Int)) :: [])).drop (0 : Nat)).take (1 : Nat)) :: [])))).drop (0 : Nat)).take (3 : Nat)), ())
theorem CF47_le : Le (CF47) (F47) := Le.r
theorem c47_ok : trF prog f47 = some ⟨10, 0, dd47.er, [.t 0], [some (.list (.list (.prod (.int .i64) (.int .i64))))]⟩ := by kernel_rfl
noncomputable def ct47 : Ct := ⟨47, [], .c (.hole (.list (.list (.prod (.int .i64) (.int .i64))))), fun x => F47⟩
theorem ct47_ok : ct47.Ok prog := ct_ok mixed cx47_ok func47 c47_ok (enters_of func47 rfl rfl) dd47 rfl rfl (fun x => by kernel_rfl)

/- 61 -/
noncomputable def cx61 : Cx := mkCxH [] []
theorem cx61_ok : cx61.Ok prog := mkCxH_ok trivial trivial
noncomputable def dd61 : D prog 18 none 0 := (.seq (.reg [oo 1 (.box (.t 0)), oo 2 (.mv (.c (.tf false)))]) (.seq (.reg [oo 3 (.fld 0 [false] (.t 1)), ol 4 3, oo 5 (.bin .geq (.t 4) (ki 0)), om 6 5, og 7 6 true (.fld 0 [false] (.t 1)), og 8 6 true (.load false 1 (.t 7)), og 9 6 true (.fld 1 [true] (.t 1)), og 10 6 true (.load false 1 (.t 9)), og 11 6 true (.bin .leq (.t 8) (.t 10)), oo 12 (.pick (.t 6) (.t 11) (.c (.tf false))), om 13 12, og 14 13 true (.fld 1 [true] (.t 1)), og 15 13 true (.load false 1 (.t 14)), og 16 13 true (.bin .leq (.t 15) (ki 1000000)), oo 17 (.pick (.t 13) (.t 16) (.c (.tf false))), om 2 17]) .ret))
noncomputable def F61 (a0 : Int × Int) : Option (Bool × Unit) :=
 brO (decide ((0 : Int) ≤ a0.1)) (
 brO (decide (a0.1 ≤ a0.2)) (
 some ((decide (a0.2 ≤ (1000000 : Int))), ())) (
 some (false, ()))) (
 some (false, ()))
def CF61 (a0 : Int × Int) : Option (Bool × Unit) :=
 brC (decide ((0 : Int) ≤ a0.1)) (
 brC (decide (a0.1 ≤ a0.2)) (
 some ((decide (a0.2 ≤ (1000000 : Int))), ())) (
 some (false, ()))) (
 some (false, ()))
theorem CF61_le (a0 : Int × Int) : Le (CF61 a0) (F61 a0) := (Le.br (Le.br Le.r Le.r) Le.r)
theorem c61_ok : trF prog f61 = some ⟨18, 1, dd61.er, [.t 2], [some .bool]⟩ := by kernel_rfl
noncomputable def ct61 : Ct := ⟨61, [.c (.hole (.prod (.int .i64) (.int .i64)))], .c (.hole .bool), fun x => F61 x.1⟩
theorem ct61_ok : ct61.Ok prog := ct_ok mixed cx61_ok func61 c61_ok (enters_of func61 rfl rfl) dd61 rfl rfl (fun x => by kernel_rfl)

/- 63 -/
noncomputable def cx63 : Cx := mkCxH [] []
theorem cx63_ok : cx63.Ok prog := mkCxH_ok trivial trivial
noncomputable def dd63 : D prog 17 none 0 := (.seq (.reg [oo 2 (.box (.t 0)), oo 3 (.box (.t 1)), oo 4 (.mv (.c (.tf false)))]) (.seq (.reg [oo 5 (.fld 0 [false] (.t 2)), ol 6 5, oo 7 (.fld 0 [false] (.t 3)), ol 8 7, oo 9 (.bin .leq (.t 6) (.t 8)), om 10 9, og 11 10 true (.fld 1 [true] (.t 2)), og 12 10 true (.load false 1 (.t 11)), og 13 10 true (.fld 1 [true] (.t 3)), og 14 10 true (.load false 1 (.t 13)), og 15 10 true (.bin .leq (.t 12) (.t 14)), oo 16 (.pick (.t 10) (.t 15) (.c (.tf false))), om 4 16]) .ret))
noncomputable def F63 (a0 : Int × Int) (a1 : Int × Int) : Option (Bool × Unit) :=
 brO (decide (a0.1 ≤ a1.1)) (
 some ((decide (a0.2 ≤ a1.2)), ())) (
 some (false, ()))
def CF63 (a0 : Int × Int) (a1 : Int × Int) : Option (Bool × Unit) :=
 brC (decide (a0.1 ≤ a1.1)) (
 some ((decide (a0.2 ≤ a1.2)), ())) (
 some (false, ()))
theorem CF63_le (a0 : Int × Int) (a1 : Int × Int) : Le (CF63 a0 a1) (F63 a0 a1) := (Le.br Le.r Le.r)
theorem c63_ok : trF prog f63 = some ⟨17, 2, dd63.er, [.t 4], [some .bool]⟩ := by kernel_rfl
noncomputable def ct63 : Ct := ⟨63, [.c (.hole (.prod (.int .i64) (.int .i64))), .c (.hole (.prod (.int .i64) (.int .i64)))], .c (.hole .bool), fun x => F63 x.1 x.2.1⟩
theorem ct63_ok : ct63.Ok prog := ct_ok mixed cx63_ok func63 c63_ok (enters_of func63 rfl rfl) dd63 rfl rfl (fun x => by kernel_rfl)

end Go.Proofs.Try

